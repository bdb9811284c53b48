
/- slices.Clone over bytes. -/
import Derived.Test.YtpkfppfdkdjlhaaDoorDx0
import Derived.Laws.AppendOwn
import Derived.WalkSpells
namespace Go.Proofs.YtpkfppfdkdjlhaaDoor.D
open Go Go.Proofs Go.RowKit Go.Proofs.YtpkfppfdkdjlhaaDoorW.PrintWords Go.Proofs.YtpkfppfdkdjlhaaDoorW.PrintLast Go.Proofs.YtpkfppfdkdjlhaaDoorW.PrintMore
set_option linter.unusedVariables false
set_option linter.unusedSimpArgs false

theorem byte_info : (Tryd.prog.info? 5).map (fun i => (i.zero, i.size, i.bytes)) = some (some (.int .u8 0), 1, 1) := by kernel_rfl
theorem R_of_own {w : World} {base : Nat} {v : Value} {xs : List Int} (h : w.ownsRow base 5 1 v xs.length (nums .u8 xs)) : Kd.R (Kd.int .u8) 5 w base (fun _ => True) v xs := by
  refine ⟨fun _ _ => trivial, nums .u8 xs, h, ?_⟩
  refine ⟨by show (nums .u8 xs).length = xs.length * 1; simp [nums], fun j p hj => ?_⟩
  show ((nums .u8 xs).drop (j * 1)).take 1 = [.int .u8 p]
  have hl : j < xs.length := (List.getElem?_eq_some_iff.1 hj).1
  rw [Nat.mul_one, List.drop_eq_getElem_cons (by simpa [nums] using hl), List.take_succ_cons, List.take_zero]
  simp only [nums, List.getElem_map]
  rw [List.getElem?_eq_getElem hl] at hj
  cases hj
  rfl
def slices_Clone_byte_byte.f (l0 : List Int) : Option (List Int) := if l0.length ≤ 140737488355328 then some l0 else none
set_option maxRecDepth 100000 in
set_option maxHeartbeats 1000000 in
theorem slices_Clone_byte_byte.calls (A0 : Option Addr) (c0 : Nat) (l0 : List Int) (r : List Int) (w : World) (hr0 : Kd.C (Kd.int .u8) w A0 l0.length l0) (hc0 : l0.length ≤ c0) (h : slices_Clone_byte_byte.f l0 = some r) :
    Calls Tryd.prog 28 #[.slice A0 l0.length c0] w fun e w' => ∃ v0_ : Value, e = .returned (v0_) ∧ Kd.R (Kd.int .u8) 5 w' w.heap.size (fun _ => True) v0_ r ∧ Below w.heap.size w w' := by
  unfold slices_Clone_byte_byte.f at h
  split at h
  case isFalse => cases h
  case isTrue hlen =>
  cases h
  obtain ⟨i0, hi, hz0, hz1, hz2⟩ := info_parts byte_info
  have q22 : ∀ (w : World) (a : Option Addr) (n c n' c' : Nat), (binOp .eql 27 (.slice a n c) (.slice none n' c')).run Tryd.prog w = .ok (.bool a.isNone) w := fun w a n c n' c' => Lib.run_eql_slice_nil w _ _ a n c n' c' Tryd.underlying27
  cases A0 with
  | none =>
    have h0 : l0 = [] := by
      rcases Nat.eq_zero_or_pos l0.length with h | h
      · exact List.length_eq_zero_iff.1 h
      · obtain ⟨ad, e, _⟩ := hr0.2.2 h
        cases e
    subst h0
    go_enter Tryd.func28, Tryd.ntmps28
    go_wp2
    go_ret
    exact ⟨_, rfl, R_of_own (World.ownsRow_nil _ _ _ _), Below.refl _ _⟩
  | some a =>
    have A := Aside0.mk (fun (j : Nat) (u : Value) (hj : (nums .u8 l0)[j]? = some u) => show w.cell? (a.add j) = some u from by
      have hl : j < l0.length := by have := (List.getElem?_eq_some_iff.1 hj).1; simpa [nums] using this
      obtain ⟨ad, e, hc⟩ := hr0.2.2 (by omega)
      cases e
      obtain ⟨c, h4, h5, h6⟩ := hc j _ (List.getElem?_eq_getElem hl)
      have h7 : c = [.int .u8 l0[j]] := h5
      subst h7
      have h8 := h6 0 _ rfl
      have e1 : j * (Kd.int IntKind.u8).sz + 0 = j := by show j * 1 + 0 = j; omega
      rw [e1] at h8
      simp only [nums, List.getElem?_map, List.getElem?_eq_getElem hl] at hj
      cases hj
      exact h8)
    clear hr0
    go_enter Tryd.func28, Tryd.ntmps28
    go_wp2_with (at_builtin; refine wpList_append_own _ rfl _ _ 27 rfl w.heap.size 5 i0 (.int .u8 0) 1 1 Tryd.underlying27 hi hz0 hz1 hz2 rfl (by decide) _ _ _ rfl (World.ownsRow_made w #[] 0 (Nat.le_refl _) (Nat.zero_le _) rfl) a l0.length c0 (nums .u8 l0) rfl ?qc1 ?qc2 ?qc3 ?qc4 ?qc5 ?qc6 ?_)
    case qc1 => simp [nums]
    case qc2 =>
      intro j u hj
      refine Lib.cell?_alloc_some _ ?_
      exact A.out j u hj
    case qc3 => intro u hu; obtain ⟨x, _, rfl⟩ := List.mem_map.1 hu; rfl
    case qc4 => unfold maxLen; omega
    case qc5 => omega
    case qc6 => simp
    intro v' w1 hown hgrow hnil
    have HO := Aside0.mk hown
    have HG := Aside0.mk hgrow
    clear hown hgrow hnil
    go_wp2
    go_ret
    refine ⟨v', rfl, R_of_own (by simpa using HO.out), ((Below.refl _ w).alloc (Nat.le_refl _) _).grown HG.out (by simp) (by intro k hk; simp [Value.ownBlock] at hk; omega)⟩
end Go.Proofs.YtpkfppfdkdjlhaaDoor.D
