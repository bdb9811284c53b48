
/- wire.Sum: the check sum by the table of half bytes. -/
import Derived.Test.YtpkfppfdkdjlhaaDoorHCrc
import Derived.Lib.LaidTab
namespace Go.Proofs.YtpkfppfdkdjlhaaDoor.D
open Go Go.Proofs Go.RowKit Go.Proofs.YtpkfppfdkdjlhaaDoorW.PrintWords Go.Proofs.YtpkfppfdkdjlhaaDoorW.PrintLast Go.Proofs.YtpkfppfdkdjlhaaDoorW.PrintMore
set_option linter.unusedVariables false
set_option linter.unusedSimpArgs false

abbrev Halves (W : World) : Prop := Lib.TabIs Tryd.prog W "rostrum/wire.halves" .u32 (Crc.tab.map Int.ofNat)
theorem gHalves : Tryd.prog.globalNamed "rostrum/wire.halves" = some 0 := by kernel_rfl
theorem halves_cell {W : World} (h : Halves W) (j : Nat) (hj : j < 16) : W.cell? ⟨0, j, none⟩ = some (.int .u32 ((Crc.tab.getD j 0 : Nat) : Int)) := by
  have := h.cell gHalves j (by simpa [Crc.tab] using hj)
  rw [this]
  have hl : j < Crc.tab.length := hj
  simp [List.getD_eq_getElem?_getD, List.getElem?_eq_getElem hl]
theorem C8_cells {W : World} {A : Option Addr} {n : Nat} {xs : List Int} (h : Kd.C (Kd.int .u8) W A n xs) (hp : 0 < n) : ∃ ad, A = some ad ∧ ∀ j, j < n → W.cell? (ad.add j) = some (.int .u8 (xs.getD j 0)) := by
  obtain ⟨h1, h2, h3⟩ := h
  obtain ⟨ad, e, hc⟩ := h3 hp
  refine ⟨ad, e, fun j hj => ?_⟩
  have hx : xs[j]? = some (xs.getD j 0) := by rw [List.getD_eq_getElem?_getD, List.getElem?_eq_getElem (by omega)]; rfl
  obtain ⟨c, h4, h5, h6⟩ := hc j _ hx
  have : c = [.int .u8 (xs.getD j 0)] := h5
  subst this
  have := h6 0 _ rfl
  have e1 : j * (Kd.int IntKind.u8).sz + 0 = j := by show j * 1 + 0 = j; omega
  rwa [e1] at this

set_option maxRecDepth 100000 in
set_option maxHeartbeats 2000000 in
theorem sum_calls (L : List Nat) (hL : ∀ x ∈ L, x < 256) (hlen : L.length ≤ 9000000000000000000) (A : Option Addr) (c0 : Nat) (w : World) (hH : Halves w) (hC : Kd.C (Kd.int .u8) w A L.length (L.map Int.ofNat)) :
    Calls Tryd.prog 26 #[.slice A L.length c0] w fun e w' => e = .returned (.int .u32 ((Crc.sum L : Nat) : Int)) ∧ w' = w := by
  have HC := Aside0.mk hC
  have HH := Aside0.mk hH
  clear hC hH
  go_enter Tryd.func26, Tryd.ntmps26
  go_wp2
  go_loop [3, 8] (fun c i => ∃ k n : Nat, k ≤ L.length ∧ i = .int .i64 k ∧ c = .int .u32 n ∧ n < 4294967296 ∧ n = (L.take k).foldl Crc.byte 4294967295) (fun _ i => L.length - (intOf i).toNat)
  case atStart => exact ⟨0, 4294967295, Nat.zero_le _, rfl, rfl, by decide, rfl⟩
  case round =>
    obtain ⟨k, n, hk, rfl, rfl, hn, hnv⟩ := hrel
    have HNV := Aside0.mk hnv
    clear hnv
    by_cases hlt : k < L.length
    · obtain ⟨ad, rfl, hcs⟩ := C8_cells HC.out (by omega)
      obtain ⟨x, hx⟩ : ∃ x, x = L[k] := ⟨_, rfl⟩
      have hx256 : x < 256 := hx ▸ hL _ (List.getElem_mem hlt)
      have hcell : w.cell? (ad.add k) = some (.int .u8 (x : Int)) := by
        rw [hcs k hlt, List.getD_eq_getElem?_getD, List.getElem?_map, List.getElem?_eq_getElem hlt, hx]; rfl
      have HX := Aside0.mk hx
      clear hcs hx
      obtain ⟨c1, hc1⟩ : ∃ c1, c1 = n ^^^ x := ⟨_, rfl⟩
      have h1lt : c1 < 4294967296 := hc1 ▸ Nat.xor_lt_two_pow (n := 32) hn (by omega)
      obtain ⟨c2, hc2⟩ : ∃ c2, c2 = Crc.nib c1 := ⟨_, rfl⟩
      have h2lt : c2 < 4294967296 := hc2 ▸ Crc.nib_lt h1lt
      obtain ⟨c3, hc3⟩ : ∃ c3, c3 = Crc.nib c2 := ⟨_, rfl⟩
      have h3lt : c3 < 4294967296 := hc3 ▸ Crc.nib_lt h2lt
      have q1 : Go.bits .xor .u32 (n : Int) (x : Int) = (c1 : Int) := by rw [u32_xor_nat n x hn (by omega), hc1]
      obtain ⟨j1, hj1⟩ : ∃ j, j = c1 % 16 := ⟨_, rfl⟩
      obtain ⟨j2, hj2⟩ : ∃ j, j = c2 % 16 := ⟨_, rfl⟩
      have j1lt : j1 < 16 := hj1 ▸ Nat.mod_lt _ (by decide)
      have j2lt : j2 < 16 := hj2 ▸ Nat.mod_lt _ (by decide)
      have tlt : ∀ j, j < 16 → Crc.tab.getD j 0 < 4294967296 := by decide
      have a1 : Go.bits .and .u32 (c1 : Int) 15 = (j1 : Int) := by
        have := u32_and_nat c1 15 h1lt (by decide)
        rw [show c1 &&& 15 = c1 % 16 from Nat.and_two_pow_sub_one_eq_mod c1 4, ← hj1] at this
        exact this
      have a2 : Go.bits .and .u32 (c2 : Int) 15 = (j2 : Int) := by
        have := u32_and_nat c2 15 h2lt (by decide)
        rw [show c2 &&& 15 = c2 % 16 from Nat.and_two_pow_sub_one_eq_mod c2 4, ← hj2] at this
        exact this
      obtain ⟨t1, ht1⟩ : ∃ t, t = Crc.tab.getD j1 0 := ⟨_, rfl⟩
      obtain ⟨t2, ht2⟩ : ∃ t, t = Crc.tab.getD j2 0 := ⟨_, rfl⟩
      have w1 : w.cell? ⟨0, j1, none⟩ = some (.int .u32 (t1 : Int)) := by rw [halves_cell HH.out j1 j1lt, ht1]
      have w2 : w.cell? ⟨0, j2, none⟩ = some (.int .u32 (t2 : Int)) := by rw [halves_cell HH.out j2 j2lt, ht2]
      have q2 : Go.bits .xor .u32 (t1 : Int) ((c1 : Int) / 16) = (c2 : Int) := by
        have h := u32_xor_nat t1 (c1 / 16) (ht1 ▸ tlt _ j1lt) (by omega)
        rw [show ((c1 / 16 : Nat) : Int) = (c1 : Int) / 16 by omega] at h
        rw [h, hc2]
        unfold Crc.nib
        rw [ht1, hj1]
      have q3 : Go.bits .xor .u32 (t2 : Int) ((c2 : Int) / 16) = (c3 : Int) := by
        have h := u32_xor_nat t2 (c2 / 16) (ht2 ▸ tlt _ j2lt) (by omega)
        rw [show ((c2 / 16 : Nat) : Int) = (c2 : Int) / 16 by omega] at h
        rw [h, hc3]
        unfold Crc.nib
        rw [ht2, hj2]
      clear ht1 ht2 hj1 hj2 tlt
      have HC1 := Aside0.mk hc1
      have HC2 := Aside0.mk hc2
      have HC3 := Aside0.mk hc3
      clear hc1 hc2 hc3
      go_wp2
      go_round
      case rel => exact ⟨k + 1, c3, by omega, by go_num, rfl, h3lt, by
        rw [List.take_succ_eq_append_getElem hlt, List.foldl_append, ← HNV.out, List.foldl_cons, List.foldl_nil, ← HX.out]
        unfold Crc.byte
        rw [← HC1.out, ← HC2.out, ← HC3.out]⟩
      case measure => simp [intOf]; omega
    · obtain rfl : k = L.length := by omega
      go_wp2
      go_ret
      refine ⟨?_, rfl⟩
      show Ending.returned (.int .u32 (Go.bits .xor .u32 IntKind.u32.max (n : Int))) = _
      have h := u32_xor_nat 4294967295 n (by decide) hn
      rw [show IntKind.u32.max = ((4294967295 : Nat) : Int) from rfl, h]
      unfold Crc.sum
      rw [List.take_length] at HNV
      rw [← HNV.out, Nat.xor_comm]
end Go.Proofs.YtpkfppfdkdjlhaaDoor.D
