/- number.Small, number.Of: their contracts, where the library's variables lie as the program lays them. -/
import Derived.Test.YtlnneellihkdkaaDoorHCan
import Derived.Test.YtlnneellihkdkaaDoorHShelf
import Derived.Lib.SmallJoins
import Derived.Lib.AppendIntMem
import Derived.Lib.AtoiErrMem
import Derived.Lib.LaidTab
namespace Go.Proofs.YtlnneellihkdkaaDoor.D
open Go.RowKit Go.Proofs.YtlnneellihkdkaaDoorW.PrintWords Go.Proofs.YtlnneellihkdkaaDoorW.PrintLast Go.Proofs.YtlnneellihkdkaaDoorW.PrintMore
set_option linter.unusedVariables false
set_option linter.unusedSimpArgs false

theorem gRange : Tryd.prog.globalNamed "strconv.ErrRange" = some 1 := by kernel_rfl
theorem gPow : Tryd.prog.globalNamed "internal/strconv.uint64pow10" = some 2 := by kernel_rfl
/-- The library's variables that the road reads, as the program's start lays them. -/
def LaidW (W : World) : Prop := (∃ tp p, W.var? Tryd.prog "strconv.ErrRange" = some #[.iface tp p]) ∧ Lib.TabIs Tryd.prog W "internal/strconv.uint64pow10" .u64 Lib.pow10Tab
theorem LaidW.below {W W' : World} (h : LaidW W) {B : Nat} (hb : Below B W W') (hB : W.heap.size ≤ B) : LaidW W' := by
  obtain ⟨⟨tp, p, h1⟩, h2⟩ := h
  exact ⟨⟨tp, p, Go.Joins.var_stays gRange h1 hb hB⟩, Go.Joins.var_stays gPow h2 hb hB⟩
theorem LaidW.drewN {W : World} (h : LaidW W) (n : Nat) : LaidW (W.drewN n) := h
theorem LaidW.drawn {W W' : World} (h : LaidW W) (hd : Drawn0 W W') : LaidW W' := by
  obtain ⟨n, rfl⟩ := hd
  exact h.drewN n
theorem LaidW.alloc {W : World} (h : LaidW W) (o : Obj) : LaidW (W.alloc o) := h.below (below_alloc (Below.refl _ _) o) (Nat.le_refl _)

def baU (l : List UInt8) : ByteArray := ⟨l.toArray⟩
theorem baU_self (s : ByteArray) : baU s.data.toList = s := by simp [baU]
theorem baU_list (l : List UInt8) : (baU l).data.toList = l := by simp [baU]
theorem baU_size (l : List UInt8) : (baU l).size = l.length := by simp [baU, ByteArray.size]

/-- The small one of a text. -/
def smallU (l : List UInt8) : Int × Bool := if N.canU l = true then (if N.inInt (N.valU l) = true then (N.valU l, true) else (0, false)) else (0, false)

set_option maxHeartbeats 1000000 in
theorem small_calls (s : ByteArray) (hs : s.size ≤ 140737488355328) (w : World) (hL : LaidW w) :
    Calls Tryd.prog 9 #[.string s] w fun e w' => e = .returned (.tuple #[.int .i64 (smallU s.data.toList).1, .bool (smallU s.data.toList).2]) ∧ Below w.heap.size w w' := by
  have HL := Aside0.mk hL
  clear hL
  cases hc : N.canU s.data.toList with
  | false =>
    have HR := Aside0.mk (show smallU s.data.toList = (0, false) by unfold smallU; rw [if_neg (by simp [hc])])
    have HC := Aside0.mk hc
    clear hc
    go_enter Tryd.func9, Tryd.ntmps9
    go_wp2_with (go_at_call 12; refine (can_calls s (by omega) _).mono ?_; rintro e w' ⟨rfl, ⟨nd, rfl⟩⟩; rw [HC.out])
    go_ret2
    exact ⟨by rw [HR.out]; rfl, pw_below_drewN (Below.refl _ _) _⟩
  | true =>
    have ha := N.atoi_can hc
    have HC := Aside0.mk hc
    cases hi : N.inInt (N.valU s.data.toList) with
    | true =>
      rw [hi, if_pos rfl] at ha
      have HA := Aside0.mk ha
      have HR := Aside0.mk (show smallU s.data.toList = (N.valU s.data.toList, true) by unfold smallU; rw [if_pos hc, if_pos hi])
      clear hc ha hi
      go_enter Tryd.func9, Tryd.ntmps9
      go_wp2_with (first | (go_at_call 12; refine (can_calls s (by omega) _).mono ?_; rintro e w' ⟨rfl, ⟨nd, rfl⟩⟩; rw [HC.out]) | (go_at_call 29; refine (Tryd.strconv_Atoi_ok s (by omega) _ HA.out _).mono ?_; rintro e w2 ⟨rfl, hw2⟩; have HB2 := Aside0.mk (show Below w.heap.size w w2 from by rcases hw2 with rfl | ⟨t, rfl⟩; exact pw_below_drewN (Below.refl _ _) _; exact below_step (pw_below_drewN (Below.refl _ _) _) (Lib.bytesWorld_below _ _ _)); clear hw2))
      go_ret2
      exact ⟨by rw [HR.out]; rfl, HB2.out⟩
    | false =>
      rw [hi, if_neg (by simp)] at ha
      have HA := Aside0.mk ha
      have HR := Aside0.mk (show smallU s.data.toList = (0, false) by unfold smallU; rw [if_pos hc, if_neg (by simp [hi])])
      clear hc ha hi
      obtain ⟨tp, p, hv⟩ := HL.out.1
      have HV := Aside0.mk hv
      clear hv
      go_enter Tryd.func9, Tryd.ntmps9
      go_wp2_with (first | (go_at_call 12; refine (can_calls s (by omega) _).mono ?_; rintro e w' ⟨rfl, ⟨nd, rfl⟩⟩; rw [HC.out]) | (go_at_call 29; refine (Tryd.strconv_Atoi_range_var s (by omega) HA.out tp p (w.drewN nd) HV.out).mono ?_; rintro e w2 ⟨N0, rfl, hN, hN2, hb2⟩; have HB2 := Aside0.mk (below_step (pw_below_drewN (Below.refl w.heap.size w) nd) hb2); clear hN hN2 hb2))
      go_ret2
      exact ⟨by rw [HR.out]; rfl, HB2.out⟩

set_option maxHeartbeats 1000000 in
theorem of_calls (n : Int) (h0 : -9223372036854775808 ≤ n) (h1 : n ≤ 9223372036854775807) (w : World) (hL : LaidW w) :
    Calls Tryd.prog 11 #[.int .i64 n] w fun e w' => e = .returned (.string (baU (Lib.itoa n))) ∧ Below w.heap.size w w' := by
  have HL := Aside0.mk hL.2
  clear hL
  go_enter Tryd.func11, Tryd.ntmps11
  go_wp2_with (go_at_call 30; refine (Tryd.strconv_Itoa n h0 h1 _ HL.out).mono ?_; rintro e w2 ⟨rfl, k, os, rfl⟩)
  go_ret
  exact ⟨rfl, Lib.below_grow _ _ (Nat.le_refl _) _ _⟩
end Go.Proofs.YtlnneellihkdkaaDoor.D
