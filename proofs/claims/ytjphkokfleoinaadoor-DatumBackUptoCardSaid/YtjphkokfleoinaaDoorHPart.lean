
/- The reference's part: which bytes may stand in a name. -/
import Derived.Test.YtjphkokfleoinaaDoorDx0
import Derived.Lib.SlBytesConst
import Derived.Handy
namespace Go.Proofs.YtjphkokfleoinaaDoor.D
open Go.RowKit Go.Proofs.YtjphkokfleoinaaDoorW.PrintWords Go.Proofs.YtjphkokfleoinaaDoorW.PrintLast Go.Proofs.YtjphkokfleoinaaDoorW.PrintMore
set_option linter.unusedVariables false
set_option linter.unusedSimpArgs false

def signs : List Int := [33, 36, 37, 38, 42, 47, 58, 60, 61, 62, 63, 94, 95, 126, 43, 45, 46, 64]
def digitB (c : Int) : Bool := decide (48 ≤ c) && decide (c ≤ 57)
def letterB (c : Int) : Bool := (decide (97 ≤ c) && decide (c ≤ 122)) || (decide (65 ≤ c) && decide (c ≤ 90))
def partB (c : Int) : Bool := digitB c || letterB c || signs.contains c

set_option maxHeartbeats 1000000 in
theorem digit_any (c : Int) (w : World) : Calls Tryd.prog 37 #[.int .u8 c] w fun e w' => e = .returned (.bool (digitB c)) ∧ w = w' := by
  by_cases h : 48 ≤ c
  · by_cases h2 : c ≤ 57
    · have q : Aside0 (digitB c = true) := ⟨by simp [digitB, h, h2]⟩
      go_enter Tryd.func37, Tryd.ntmps37
      go_wp2
      go_ret
      exact ⟨by rw [q.out]; simp [h2], rfl⟩
    · have q : Aside0 (digitB c = false) := ⟨by simp [digitB, h2]⟩
      go_enter Tryd.func37, Tryd.ntmps37
      go_wp2
      go_ret
      exact ⟨by rw [q.out]; simp [h2], rfl⟩
  · have q : Aside0 (digitB c = false) := ⟨by simp [digitB, h]⟩
    have h3 : decide (48 ≤ c) = false := by simpa using h
    go_enter Tryd.func37, Tryd.ntmps37
    go_wp2
    go_ret
    exact ⟨by rw [q.out]; rfl, rfl⟩


theorem signs_at (i : Nat) (h : i < 18) (W : World) (g : Nat) (hg : W.heap[g]? = some (.cells #[.int .u8 33, .int .u8 36, .int .u8 37, .int .u8 38, .int .u8 42, .int .u8 47, .int .u8 58, .int .u8 60, .int .u8 61, .int .u8 62, .int .u8 63, .int .u8 94, .int .u8 95, .int .u8 126, .int .u8 43, .int .u8 45, .int .u8 46, .int .u8 64] 5 (18, 19))) :
    W.cell? ⟨g, i, none⟩ = some (.int .u8 (signs.getD i 0)) := by
  rw [cell_of_row W g i _ _ _ hg]
  obtain rfl | rfl | rfl | rfl | rfl | rfl | rfl | rfl | rfl | rfl | rfl | rfl | rfl | rfl | rfl | rfl | rfl | rfl : i = 0 ∨ i = 1 ∨ i = 2 ∨ i = 3 ∨ i = 4 ∨ i = 5 ∨ i = 6 ∨ i = 7 ∨ i = 8 ∨ i = 9 ∨ i = 10 ∨ i = 11 ∨ i = 12 ∨ i = 13 ∨ i = 14 ∨ i = 15 ∨ i = 16 ∨ i = 17 := by omega
  all_goals rfl

set_option maxHeartbeats 2000000 in
set_option maxRecDepth 100000 in
theorem part_any (c : Int) (w : World) : Calls Tryd.prog 38 #[.int .u8 c] w fun e w' => e = .returned (.bool (partB c)) ∧ Below w.heap.size w w' := by
  cases hd : digitB c with
  | true =>
    have q : Aside0 (partB c = true) := ⟨by simp [partB, hd]⟩
    have hd' := Aside0.mk hd
    clear hd
    go_enter Tryd.func38, Tryd.ntmps38
    go_wp2_with (go_at_call 37; refine (digit_any c _).mono ?_; rintro e w' ⟨rfl, rfl⟩; rw [hd'.out])
    go_ret
    exact ⟨by rw [q.out]; rfl, Below.refl _ _⟩
  | false =>
    have hd' := Aside0.mk hd
    clear hd
    by_cases h97 : 97 ≤ c ∧ c ≤ 122
    · obtain ⟨h97, h122⟩ := h97
      have q : Aside0 (partB c = true) := ⟨by simp [partB, letterB, h97, h122]⟩
      go_enter Tryd.func38, Tryd.ntmps38
      go_wp2_with (go_at_call 37; refine (digit_any c _).mono ?_; rintro e w' ⟨rfl, rfl⟩; rw [hd'.out])
      go_ret
      exact ⟨by rw [q.out]; rfl, Below.refl _ _⟩
    · by_cases h65 : 65 ≤ c ∧ c ≤ 90
      · obtain ⟨h65, h90⟩ := h65
        have h97' : ¬ 97 ≤ c := by omega
        have h97b : decide (97 ≤ c) = false := by simpa using h97'
        have q : Aside0 (partB c = true) := ⟨by simp [partB, letterB, h65, h90]⟩
        clear h97
        go_enter Tryd.func38, Tryd.ntmps38
        go_wp2_with (go_at_call 37; refine (digit_any c _).mono ?_; rintro e w' ⟨rfl, rfl⟩; rw [hd'.out])
        go_ret
        exact ⟨by rw [q.out]; rfl, Below.refl _ _⟩
      · have q : Aside0 (partB c = signs.contains c) := ⟨by
          have : letterB c = false := by
            simp only [letterB, Bool.or_eq_false_iff, Bool.and_eq_false_iff, decide_eq_false_iff_not]
            omega
          simp [partB, hd'.out, this]⟩
        have kc := fun (w : World) (C : Array Value) (n c : Nat) => Lib.run_convert_bytes_const (P := Tryd.prog) w 33 5 C n c Tryd.underlying33 Tryd.underlying5
        have main : ∀ (a b d e : Bool), decide (97 ≤ c) = a → decide (c ≤ 122) = b → decide (65 ≤ c) = d → decide (c ≤ 90) = e → Calls Tryd.prog 38 #[.int .u8 c] w fun e w' => e = .returned (.bool (partB c)) ∧ Below w.heap.size w w' := by
          intro a b d e ha hb hd he
          cases a <;> cases b <;> cases d <;> cases e <;> first | (exfalso; simp at ha hb hd he; omega) | skip
          all_goals
            clear h97 h65
            go_enter Tryd.func38, Tryd.ntmps38
            go_wp2_with (go_at_call 37; refine (digit_any c _).mono ?_; rintro e w' ⟨rfl, rfl⟩; rw [hd'.out])
            have hblk := blk_new w (.cells #[.int .u8 33, .int .u8 36, .int .u8 37, .int .u8 38, .int .u8 42, .int .u8 47, .int .u8 58, .int .u8 60, .int .u8 61, .int .u8 62, .int .u8 63, .int .u8 94, .int .u8 95, .int .u8 126, .int .u8 43, .int .u8 45, .int .u8 46, .int .u8 64] 5 (18, 19))
            have hbel := below_alloc (Below.refl w.heap.size w) (.cells #[.int .u8 33, .int .u8 36, .int .u8 37, .int .u8 38, .int .u8 42, .int .u8 47, .int .u8 58, .int .u8 60, .int .u8 61, .int .u8 62, .int .u8 63, .int .u8 94, .int .u8 95, .int .u8 126, .int .u8 43, .int .u8 45, .int .u8 46, .int .u8 64] 5 (18, 19))
            generalize w.alloc (.cells #[.int .u8 33, .int .u8 36, .int .u8 37, .int .u8 38, .int .u8 42, .int .u8 47, .int .u8 58, .int .u8 60, .int .u8 61, .int .u8 62, .int .u8 63, .int .u8 94, .int .u8 95, .int .u8 126, .int .u8 43, .int .u8 45, .int .u8 46, .int .u8 64] 5 (18, 19)) = w1 at hblk hbel ⊢
            have hat := Aside0.mk (fun i h => signs_at i h w1 w.heap.size hblk)
            have HB := Aside0.mk hbel
            clear hblk hbel kc ha hb hd he
            go_loop [26] (fun v => ∃ i : Nat, v = .int .i64 i ∧ Aside0 (i ≤ 18) ∧ Aside0 (∀ j, j < i → signs.getD j 0 ≠ c)) (fun v => 18 - (intOf v).toNat)
            case atStart => exact ⟨0, rfl, ⟨by omega⟩, ⟨fun j h => by omega⟩⟩
            case round =>
              obtain ⟨i, rfl, hi, hne⟩ := hrel
              by_cases hlt : i < 18
              · have hlt1 : ((i : Int) < 18) := by omega
                have x0 := hat.out i hlt
                by_cases hc : signs.getD i 0 = c
                · have q2 : Aside0 (partB c = true) := ⟨by
                    rw [q.out, List.contains_iff_mem]
                    rw [← hc, List.getD_eq_getElem?_getD, List.getElem?_eq_getElem (show i < signs.length from hlt), Option.getD_some]
                    exact List.getElem_mem _⟩
                  have hcb : (signs.getD i 0 == c) = true := beq_iff_eq.2 hc
                  have hcb2 : (c == c) = true := beq_self_eq_true c
                  rw [hc] at x0
                  clear hc hcb
                  go_wp2
                  go_ret
                  exact ⟨by rw [q2.out]; rfl, HB.out⟩
                · have hcb : (signs.getD i 0 == c) = false := beq_eq_false_iff_ne.2 hc
                  have hne2 := Aside0.mk (show ∀ j, j < i + 1 → signs.getD j 0 ≠ c from fun j hj => by
                    rcases Nat.lt_or_ge j i with h | h
                    · exact hne.out j h
                    · obtain rfl : j = i := by omega
                      exact hc)
                  clear hc
                  generalize signs.getD i 0 = y at x0 hcb
                  go_wp2
                  go_round
                  case rel => exact ⟨i + 1, by go_num, ⟨by omega⟩, hne2⟩
                  case measure => simp [intOf]; omega
              · have hlt1 : decide ((i : Int) < 18) = false := decide_eq_false (by omega)
                have q2 : Aside0 (partB c = false) := ⟨by
                  rw [q.out]
                  cases hm : signs.contains c with
                  | false => rfl
                  | true =>
                    rw [List.contains_iff_mem] at hm
                    obtain ⟨j, hj, e⟩ := List.getElem_of_mem hm
                    have hj' : j < 18 := hj
                    exact absurd (by rw [List.getD_eq_getElem?_getD, List.getElem?_eq_getElem hj, Option.getD_some]; exact e) (hne.out j (by omega))⟩
                go_wp2
                go_ret
                exact ⟨by rw [q2.out]; rfl, HB.out⟩
        exact main _ _ _ _ rfl rfl rfl rfl


def rostrumref10_part.f (a0 : Int) : Option (Bool) := some (partB a0)
theorem rostrumref10_part.calls (a0 : Int) (r : Bool) (w : World) (h : rostrumref10_part.f a0 = some r) :
    Calls Tryd.prog 38 #[.int .u8 a0] w fun e w' => e = .returned (.bool r) ∧ Below w.heap.size w w' := by
  have hr : partB a0 = r := Option.some.inj h
  subst hr
  exact part_any a0 w

end Go.Proofs.YtjphkokfleoinaaDoor.D
