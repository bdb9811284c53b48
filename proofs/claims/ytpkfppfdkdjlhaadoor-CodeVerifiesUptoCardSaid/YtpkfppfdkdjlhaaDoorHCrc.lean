
/- The check sum: four steps of a bit are one look into the table; the reference's sum. -/
import Derived.Test.YtpkfppfdkdjlhaaDoorDx15
import Derived.Laws.BitsAllLaws
namespace Go.Proofs.YtpkfppfdkdjlhaaDoor.D
open Go Go.Proofs Go.RowKit Go.Proofs.YtpkfppfdkdjlhaaDoorW.PrintWords Go.Proofs.YtpkfppfdkdjlhaaDoorW.PrintLast Go.Proofs.YtpkfppfdkdjlhaaDoorW.PrintMore
set_option linter.unusedVariables false
set_option linter.unusedSimpArgs false

namespace Crc
def s (c : Nat) : Nat := if c % 2 = 1 then (c / 2) ^^^ 3988292384 else c / 2
def tab : List Nat := [0x00000000, 0x1db71064, 0x3b6e20c8, 0x26d930ac, 0x76dc4190, 0x6b6b51f4, 0x4db26158, 0x5005713c, 0xedb88320, 0xf00f9344, 0xd6d6a3e8, 0xcb61b38c, 0x9b64c2b0, 0x86d3d2d4, 0xa00ae278, 0xbdbdf21c]
def nib (c : Nat) : Nat := tab.getD (c % 16) 0 ^^^ (c / 16)
def it : Nat → Nat → Nat
  | 0, c => c
  | d + 1, c => it d (s c)
theorem xor_half (a b : Nat) : (a ^^^ b) / 2 = a / 2 ^^^ b / 2 := by
  have := Nat.shiftRight_xor_distrib (a := a) (b := b) (i := 1)
  simpa [Nat.shiftRight_eq_div_pow] using this
theorem xor_odd (a b : Nat) : (a ^^^ b) % 2 = (a + b) % 2 := by
  have h := Nat.testBit_xor a b 0
  simp only [Nat.testBit_zero] at h
  rcases Nat.mod_two_eq_zero_or_one a with ha | ha <;> rcases Nat.mod_two_eq_zero_or_one b with hb | hb <;> rcases Nat.mod_two_eq_zero_or_one (a ^^^ b) with hc | hc <;> simp [ha, hb, hc] at h <;> omega
theorem s_xor (a b : Nat) : s (a ^^^ b) = s a ^^^ s b := by
  unfold s
  rw [xor_half, xor_odd]
  rcases Nat.mod_two_eq_zero_or_one a with ha | ha <;> rcases Nat.mod_two_eq_zero_or_one b with hb | hb
  · rw [if_neg (by omega), if_neg (by omega), if_neg (by omega)]
  · rw [if_pos (by omega), if_neg (by omega), if_pos (by omega), Nat.xor_assoc]
  · rw [if_pos (by omega), if_pos (by omega), if_neg (by omega)]
    rw [Nat.xor_assoc, Nat.xor_assoc, Nat.xor_comm (b / 2)]
  · rw [if_neg (by omega), if_pos (by omega), if_pos (by omega)]
    rw [Nat.xor_assoc, Nat.xor_comm (b / 2) 3988292384, ← Nat.xor_assoc 3988292384, Nat.xor_self, Nat.zero_xor]
theorem s_even (a : Nat) : s (2 * a) = a := by
  unfold s
  rw [if_neg (by omega)]
  omega
theorem low_xor (a n : Nat) : (2 * a) ^^^ n = 2 * (a ^^^ n / 2) + n % 2 := by
  have h1 := xor_half (2 * a) n
  have h2 := xor_odd (2 * a) n
  rw [show 2 * a / 2 = a by omega] at h1
  rw [show (2 * a + n) % 2 = n % 2 by omega] at h2
  omega
theorem split16 (h n : Nat) (hn : n < 16) : (16 * h) ^^^ n = 16 * h + n := by
  rw [show 16 * h = 2 * (2 * (2 * (2 * h))) by omega, low_xor, low_xor, low_xor, low_xor, show n / 2 / 2 / 2 / 2 = 0 by omega, Nat.xor_zero]
  omega
theorem tab_s : ∀ n, n < 16 → s (s (s (s n))) = tab.getD n 0 := by decide
theorem nib_s (c : Nat) : s (s (s (s c))) = nib c := by
  have e : c = (16 * (c / 16)) ^^^ (c % 16) := by rw [split16 _ _ (Nat.mod_lt _ (by decide))]; omega
  have h1 : s (s (s (s (16 * (c / 16))))) = c / 16 := by
    rw [show 16 * (c / 16) = 2 * (2 * (2 * (2 * (c / 16)))) by omega, s_even, s_even, s_even, s_even]
  unfold nib
  conv => lhs; rw [e]
  rw [s_xor, s_xor, s_xor, s_xor, h1, tab_s _ (Nat.mod_lt _ (by decide)), Nat.xor_comm]
theorem s_lt {c : Nat} (h : c < 4294967296) : s c < 4294967296 := by
  unfold s
  split
  · exact Nat.xor_lt_two_pow (n := 32) (by omega) (by decide)
  · omega
theorem nib_lt {c : Nat} (h : c < 4294967296) : nib c < 4294967296 := by
  rw [← nib_s]
  exact s_lt (s_lt (s_lt (s_lt h)))
def byte (c x : Nat) : Nat := nib (nib (c ^^^ x))
def sum (l : List Nat) : Nat := l.foldl byte 4294967295 ^^^ 4294967295
theorem byte_lt {c x : Nat} (h : c < 4294967296) (hx : x < 256) : byte c x < 4294967296 := nib_lt (nib_lt (Nat.xor_lt_two_pow (n := 32) h (by omega)))
end Crc
theorem ref_step (L : List Int) (n i : Int) (d : Nat) : ∀ k : Nat, k + d = 8 → ∀ c : Nat, c < 4294967296 → ∀ r, Ev (fun K => rostrumref01_Sum.l0 K ((Crc.it d c : Nat) : Int) L n (wrap64 (i + 1))) r →
    Ev (fun K => rostrumref01_Sum.l1 K (c : Int) L n i (k : Int)) r := by
  induction d with
  | zero =>
    intro k hk c hc r h
    refine Ev.step (fun K => ?_) h
    simp only [rostrumref01_Sum.l1]
    rw [if_neg (by omega)]
    rfl
  | succ d ih =>
    intro k hk c hc r h
    have e := ih (k + 1) (by omega) (Crc.s c) (Crc.s_lt hc) r h
    refine Ev.step (fun K => ?_) e
    have h1 : Go.bits .and .u32 (c : Int) 1 = ((c % 2 : Nat) : Int) := by
      have := u32_and_nat c 1 hc (by decide)
      rw [Nat.and_one_is_mod] at this
      exact this
    simp only [rostrumref01_Sum.l1]
    rw [if_pos (by omega), h1, show wrap64 ((k : Int) + 1) = ((k + 1 : Nat) : Int) from by unfold wrap64; omega]
    unfold Crc.s
    by_cases ho : c % 2 = 1
    · rw [if_pos (by omega), if_pos ho]
      have h2 := u32_xor_nat (c / 2) 3988292384 (by omega) (by decide)
      have h3 : ((c / 2 : Nat) : Int) = (c : Int) / 2 := by omega
      rw [h3] at h2
      rw [show (3988292384 : Int) = ((3988292384 : Nat) : Int) from rfl, h2]
    · rw [if_neg (by omega), if_neg ho, show (c : Int) / 2 = ((c / 2 : Nat) : Int) by omega]
theorem it8 (c : Nat) : Crc.it 8 c = Crc.nib (Crc.nib c) := by
  rw [← Crc.nib_s (Crc.nib c), ← Crc.nib_s c]
  rfl
theorem ref_sum (L : List Nat) (hL : ∀ x ∈ L, x < 256) (hlen : L.length ≤ 9000000000000000000) (d : Nat) : ∀ i : Nat, L.length - i = d → i ≤ L.length → ∀ c : Nat, c < 4294967296 →
    Ev (fun K => rostrumref01_Sum.l0 K (c : Int) (L.map Int.ofNat) (L.length : Int) (i : Int)) ((((L.drop i).foldl Crc.byte c ^^^ 4294967295 : Nat)) : Int) := by
  induction d with
  | zero =>
    intro i hd hi c hc
    rw [List.drop_eq_nil_of_le (by omega), List.foldl_nil]
    have h := u32_xor_nat c 4294967295 hc (by decide)
    refine Ev.step (f := fun _ => some ((c ^^^ 4294967295 : Nat) : Int)) (fun K => ?_) (Ev.now _)
    simp only [rostrumref01_Sum.l0]
    rw [if_neg (by omega), ← h]
    rfl
  | succ d ih =>
    intro i hd hi c hc
    have hlt : i < L.length := by omega
    have hx := hL _ (List.getElem_mem hlt)
    have hcx : c ^^^ L[i] < 4294967296 := Nat.xor_lt_two_pow (n := 32) hc (by omega)
    have e := ref_step (L.map Int.ofNat) (L.length : Int) (i : Int) 8 0 rfl (c ^^^ L[i]) hcx _ (by
      rw [it8, show wrap64 ((i : Int) + 1) = ((i + 1 : Nat) : Int) from by unfold wrap64; omega]
      exact ih (i + 1) (by omega) (by omega) _ (Crc.byte_lt hc hx))
    rw [List.drop_eq_getElem_cons hlt, List.foldl_cons]
    refine Ev.step (fun K => ?_) e
    simp only [rostrumref01_Sum.l0]
    have h := u32_xor_nat c L[i] hc (by omega)
    have hr : rd (L.map Int.ofNat) (i : Int) % 4294967296 = ((L[i] : Nat) : Int) := by
      unfold rd
      rw [Int.toNat_natCast, List.getD_eq_getElem?_getD, List.getElem?_map, List.getElem?_eq_getElem hlt]
      show ((L[i] : Nat) : Int) % 4294967296 = _
      omega
    rw [if_pos (by omega), if_pos (by omega), if_pos (by simp; omega), hr, h]
    rfl
theorem refSum_ev (L : List Nat) (hL : ∀ x ∈ L, x < 256) (hlen : L.length ≤ 9000000000000000000) : Ev (fun K => rostrumref01_Sum.f K (L.map Int.ofNat)) ((Crc.sum L : Nat) : Int) := by
  have h := ref_sum L hL hlen L.length 0 rfl (Nat.zero_le _) 4294967295 (by decide)
  refine Ev.congr (fun K => ?_) h
  simp only [rostrumref01_Sum.f, List.length_map]
  rfl
end Go.Proofs.YtpkfppfdkdjlhaaDoor.D
