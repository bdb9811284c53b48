
/- datum.right, by induction on the datum. -/
import Derived.Test.YtjphkokfleoinaaDoorDx0
import Derived.Test.YtjphkokfleoinaaDoorHRight
namespace Go.Proofs.YtjphkokfleoinaaDoor.D
open Go.RowKit Go.Proofs.YtjphkokfleoinaaDoorW.PrintWords Go.Proofs.YtjphkokfleoinaaDoorW.PrintLast Go.Proofs.YtjphkokfleoinaaDoorW.PrintMore
set_option linter.unusedVariables false
set_option linter.unusedSimpArgs false

theorem flat_eq (l u : List S24) (hl : l.length ≤ 9223372036854775807) (hu : u.length ≤ 9223372036854775807) : (wrap64 ((l.length : Int) + (u.length : Int)) == 0) = (l.isEmpty && u.isEmpty) := by
  rw [Bool.eq_iff_iff, beq_iff_eq, Bool.and_eq_true, List.isEmpty_iff, List.isEmpty_iff, ← List.length_eq_zero_iff, ← List.length_eq_zero_iff]
  unfold wrap64; omega

set_option maxHeartbeats 2000000 in
set_option maxRecDepth 100000 in
theorem right_at (n : Nat) : ∀ a : S24, SizeOf.sizeOf a ≤ n → Fit a → RightAt a := by
  induction n with
  | zero => intro a h; cases a; simp at h
  | succ n ih =>
    intro a hn hfit m va w hm1 hm2 ha
    obtain ⟨A2, c2, A3, c3, rfl, l2, g2, l3, g3⟩ := k24_open ha
    have hu24 := Tryd.underlying24
    obtain ⟨k, t, la, ua⟩ := a
    obtain ⟨hk, ht, hml, hmu, hfl, hfu⟩ := hfit
    rw [FitL_iff] at hfl hfu
    simp only at *
    have hL : ∀ i : Nat, i < la.length → RightAt (rd_T24 la i) := fun i h => ih _ (by
      have := List.sizeOf_lt_of_mem (rd_mem h)
      simp only [S24.mk.sizeOf_spec] at hn
      omega) (hfl _ (rd_mem h))
    have hU : ∀ i : Nat, i < ua.length → RightAt (rd_T24 ua i) := fun i h => ih _ (by
      have := List.sizeOf_lt_of_mem (rd_mem h)
      simp only [S24.mk.sizeOf_spec] at hn
      omega) (hfu _ (rd_mem h))
    clear ih ha hn hfl hfu hk
    have HL := Aside0.mk hL
    have HU := Aside0.mk hU
    have G2 := Aside0.mk g2
    have G3 := Aside0.mk g3
    have L2 := Aside0.mk l2
    have L3 := Aside0.mk l3
    have HT := Aside0.mk ht
    have hfe := flat_eq la ua hml hmu
    have HM := Aside0.mk (And.intro hml hmu)
    have HMM := Aside0.mk (And.intro hm1 hm2)
    clear hL hU g2 g3 l2 l3 ht hml hmu
    show Calls Tryd.prog 13 #[.agg #[.int .i64 k, .string t, .slice A2 la.length c2, .slice A3 ua.length c3], .int .i64 m] w _
    have HB0 := Aside0.mk (below_alloc (below_alloc (Below.refl w.heap.size w) (.cells #[.int .i64 k, .string t, .slice A2 la.length c2, .slice A3 ua.length c3] 24)) (.cells #[.int .i64 m] 3))
    cases k1 : (k == 1) with
    | true =>
      have hz : Aside0 (rightB ⟨k, t, la, ua⟩ m = (la.isEmpty && ua.isEmpty && canL (bytesOf t))) := ⟨by
        obtain rfl : k = 1 := by simpa using k1
        simp only [rightB, if_true]⟩
      cases hfq : (la.isEmpty && ua.isEmpty) with
      | false =>
        rw [hfq] at hfe hz
        clear hfq
        go_enter Tryd.func13, Tryd.ntmps13
        go_wp2_with fail
        go_ret
        exact ⟨by rw [hz.out]; rfl, HB0.out⟩
      | true =>
        rw [hfq] at hfe hz
        clear hfq
        go_enter Tryd.func13, Tryd.ntmps13
        go_wp2_with fail
        refine (can_calls t HT.out _).mono ?_
        rintro e w' ⟨rfl, ⟨nd, rfl⟩⟩
        go_wp2_with fail
        go_ret
        exact ⟨by rw [hz.out]; rfl, pw_below_drewN HB0.out _⟩
    | false =>
      have q1 : ¬ k = 1 := by simpa using k1
      have Q1 := Aside0.mk q1
      clear q1
      cases k2 : (k == 2) with
      | true =>
        have hz : Aside0 (rightB ⟨k, t, la, ua⟩ m = (la.isEmpty && ua.isEmpty && (t.toList == [35, 116] || t.toList == [35, 102]))) := ⟨by
          obtain rfl : k = 2 := by simpa using k2
          simp [rightB]⟩
        cases hfq : (la.isEmpty && ua.isEmpty) with
        | false =>
          rw [hfq] at hfe hz
          clear hfq
          go_enter Tryd.func13, Tryd.ntmps13
          go_wp2_with fail
          go_ret
          exact ⟨by rw [hz.out]; rfl, HB0.out⟩
        | true =>
          rw [hfq] at hfe hz
          clear hfq
          cases ht1 : (t.toList == [35, 116]) with
          | true =>
            rw [ht1] at hz
            go_enter Tryd.func13, Tryd.ntmps13
            go_wp2_with fail
            go_ret
            exact ⟨by rw [hz.out]; rfl, HB0.out⟩
          | false =>
            rw [ht1] at hz
            generalize hx : (t.toList == [35, 102]) = x at hz
            go_enter Tryd.func13, Tryd.ntmps13
            go_wp2_with fail
            go_ret
            exact ⟨by rw [hz.out]; rfl, HB0.out⟩
      | false =>
        have q2 : ¬ k = 2 := by simpa using k2
        have Q2 := Aside0.mk q2
        clear q2
        cases k3 : (k == 3) with
        | true =>
          have hz : Aside0 (rightB ⟨k, t, la, ua⟩ m = (la.isEmpty && ua.isEmpty)) := ⟨by
            obtain rfl : k = 3 := by simpa using k3
            simp [rightB]⟩
          generalize hfq : (la.isEmpty && ua.isEmpty) = fl at hfe hz
          clear hfq
          go_enter Tryd.func13, Tryd.ntmps13
          go_wp2_with fail
          go_ret
          exact ⟨by rw [hz.out]; rfl, HB0.out⟩
        | false =>
          have q3 : ¬ k = 3 := by simpa using k3
          have Q3 := Aside0.mk q3
          clear q3
          cases k4 : (k == 4) with
          | true =>
            have hz : Aside0 (rightB ⟨k, t, la, ua⟩ m = (la.isEmpty && ua.isEmpty && nameL (bytesOf t))) := ⟨by
              obtain rfl : k = 4 := by simpa using k4
              simp [rightB]⟩
            cases hfq : (la.isEmpty && ua.isEmpty) with
            | false =>
              rw [hfq] at hfe hz
              clear hfq
              go_enter Tryd.func13, Tryd.ntmps13
              go_wp2_with fail
              go_ret
              exact ⟨by rw [hz.out]; rfl, HB0.out⟩
            | true =>
              rw [hfq] at hfe hz
              clear hfq
              go_enter Tryd.func13, Tryd.ntmps13
              go_wp2_with fail
              refine (name_calls t HT.out _).mono ?_
              rintro e w' ⟨rfl, ⟨nd, rfl⟩⟩
              go_wp2_with fail
              go_ret
              exact ⟨by rw [hz.out]; rfl, pw_below_drewN HB0.out _⟩
          | false =>
            have q4 : ¬ k = 4 := by simpa using k4
            have Q4 := Aside0.mk q4
            clear q4
            cases k6 : (k == 6) with
            | true =>
              have hmf : ∀ (fn : Fn) (first cap : Array Value) (w : World), (Instr.makeFunc fn first cap).run Tryd.prog w = .ok (.func fn first cap) w := fun _ _ _ _ => rfl
              by_cases hu : 0 < ua.length
              · have hz : Aside0 (rightB ⟨k, t, la, ua⟩ m = false) := ⟨by
                  obtain rfl : k = 6 := by simpa using k6
                  have : ua.isEmpty = false := by rw [List.isEmpty_eq_false_iff]; exact List.length_pos_iff.1 hu
                  simp [rightB, this]⟩
                have hub : ((0 : Int) < (ua.length : Int)) := by omega
                go_enter Tryd.func13, Tryd.ntmps13
                go_wp2_with fail
                go_ret
                exact ⟨by rw [hz.out]; rfl, HB0.out⟩
              · have hz : Aside0 (rightB ⟨k, t, la, ua⟩ m = (decide (0 < m) && t.toList.isEmpty && rightL la (m - 1) && rightL ua (m - 1))) := ⟨by
                  obtain rfl : k = 6 := by simpa using k6
                  have : ua = [] := by rw [← List.length_eq_zero_iff]; omega
                  simp [rightB, this]⟩
                have hub : decide ((0 : Int) < (ua.length : Int)) = false := decide_eq_false (by omega)
                have hub2 : ¬ (0 < ua.length) := hu
                clear hu
                by_cases hm0 : 0 < m
                · have hm0b : decide (0 < m) = true := decide_eq_true hm0
                  cases hte : t.toList with
                  | cons b l =>
                    have hz2 : Aside0 (rightB ⟨k, t, la, ua⟩ m = false) := ⟨by rw [hz.out, hte]; simp⟩
                    go_enter Tryd.func13, Tryd.ntmps13
                    go_wp2_with fail
                    go_ret
                    exact ⟨by rw [hz2.out]; rfl, HB0.out⟩
                  | nil =>
                    have hz2 : Aside0 (rightB ⟨k, t, la, ua⟩ m = (rightL la (m - 1) && rightL ua (m - 1))) := ⟨by rw [hz.out, hte, hm0b]; simp⟩
                    go_enter Tryd.func13, Tryd.ntmps13
                    go_wp2_with fail
                    refine (containsf la m hm0 HMM.out.2 HL.out _ _ (w.heap.size + 1) _ (Kd.C_alloc (Kd.C_alloc G2.out _) _) (by first | rfl | (simp; done) | go_cell)).mono ?_
                    rintro e w' ⟨rfl, hb⟩
                    have HB := Aside0.mk (below_step HB0.out hb)
                    have b0 := blk_below (blk_alloc (blk_new w _) _) hb
                    have b1 := blk_below (blk_new (w.alloc _) _) hb
                    simp only [World.size_alloc] at b1
                    have x3 : w'.cell? ⟨w.heap.size, 3, none⟩ = some (.slice _ ua.length c3) := (blk_cell b0 3).trans rfl
                    have y3 : w'.cell? ⟨w.heap.size + 1, 0, none⟩ = some (.int .i64 m) := (blk_cell b1 0).trans rfl
                    have Y3 := Aside0.mk y3
                    clear hb b0 b1 y3
                    cases hs : rightL la (m - 1) with
                    | false =>
                      have hq : Aside0 (rightB ⟨k, t, la, ua⟩ m = false) := ⟨by rw [hz2.out, hs, Bool.false_and]⟩
                      clear hs
                      go_wp2_with fail
                      go_ret
                      exact ⟨by rw [hq.out]; rfl, HB.out⟩
                    | true =>
                      have hq : Aside0 (rightB ⟨k, t, la, ua⟩ m = rightL ua (m - 1)) := ⟨by rw [hz2.out, hs, Bool.true_and]⟩
                      clear hs
                      go_wp2_with fail
                      refine (containsf ua m hm0 HMM.out.2 HU.out _ _ (w.heap.size + 1) _ (Kd.C_below G3.out HB.out) Y3.out).mono ?_
                      rintro e w2 ⟨rfl, hb⟩
                      have HB2 := Aside0.mk (below_step HB.out hb)
                      clear hb x3
                      cases hs : rightL ua (m - 1) with
                      | false =>
                        have hq2 := Aside0.mk (hq.out.trans hs)
                        clear hs
                        go_wp2_with fail
                        go_ret
                        exact ⟨by rw [hq2.out]; rfl, HB2.out⟩
                      | true =>
                        have hq2 := Aside0.mk (hq.out.trans hs)
                        clear hs
                        go_wp2_with fail
                        go_ret
                        exact ⟨by rw [hq2.out]; rfl, HB2.out⟩
                · have hm0b : decide (0 < m) = false := decide_eq_false hm0
                  have hz2 : Aside0 (rightB ⟨k, t, la, ua⟩ m = false) := ⟨by rw [hz.out, hm0b]; simp⟩
                  go_enter Tryd.func13, Tryd.ntmps13
                  go_wp2_with fail
                  go_ret
                  exact ⟨by rw [hz2.out]; rfl, HB0.out⟩
            | false =>
              have q6 : ¬ k = 6 := by simpa using k6
              have Q6 := Aside0.mk q6
              clear q6
              cases k5 : (k == 5) with
              | false =>
                have q5 : ¬ k = 5 := by simpa using k5
                have hz : Aside0 (rightB ⟨k, t, la, ua⟩ m = false) := ⟨by
                  simp only [rightB]
                  rw [if_neg Q1.out, if_neg Q2.out, if_neg Q3.out, if_neg Q4.out, if_neg Q6.out, if_neg q5]⟩
                clear q5
                go_enter Tryd.func13, Tryd.ntmps13
                go_wp2_with fail
                go_ret
                exact ⟨by rw [hz.out]; rfl, HB0.out⟩
              | true =>
                have hmf : ∀ (fn : Fn) (first cap : Array Value) (w : World), (Instr.makeFunc fn first cap).run Tryd.prog w = .ok (.func fn first cap) w := fun _ _ _ _ => rfl
                by_cases hu : 1 < ua.length
                · have hz : Aside0 (rightB ⟨k, t, la, ua⟩ m = false) := ⟨by
                    obtain rfl : k = 5 := by simpa using k5
                    have : decide (ua.length ≤ 1) = false := decide_eq_false (by omega)
                    simp only [rightB, this]
                    simp⟩
                  have hub : decide ((1 : Int) < (ua.length : Int)) = true := decide_eq_true (by omega)
                  have hub2 : ((1 : Int) < (ua.length : Int)) := by omega
                  go_enter Tryd.func13, Tryd.ntmps13
                  go_wp2_with fail
                  go_ret
                  exact ⟨by rw [hz.out]; rfl, HB0.out⟩
                · have hub : decide ((1 : Int) < (ua.length : Int)) = false := decide_eq_false (by omega)
                  by_cases hu1 : ua.length = 1
                  · have hu1b : ((ua.length : Int) == 1) = true := by rw [beq_iff_eq]; omega
                    have hue : ua.isEmpty = false := by rw [List.isEmpty_eq_false_iff]; intro h; rw [h] at hu1; simp at hu1
                    by_cases hl0 : la.length = 0
                    · have hl0b : ((la.length : Int) == 0) = true := by rw [beq_iff_eq]; omega
                      have hz : Aside0 (rightB ⟨k, t, la, ua⟩ m = false) := ⟨by
                        obtain rfl : k = 5 := by simpa using k5
                        have : la = [] := List.length_eq_zero_iff.1 hl0
                        simp [rightB, hue, this]⟩
                      clear hue hfe hu1 hl0 hu
                      go_enter Tryd.func13, Tryd.ntmps13
                      go_wp2_with fail
                      go_ret
                      exact ⟨by rw [hz.out]; rfl, HB0.out⟩
                    · have hl0b : ((la.length : Int) == 0) = false := by rw [beq_eq_false_iff_ne]; omega
                      have hle : la.isEmpty = false := by rw [List.isEmpty_eq_false_iff]; intro h; rw [h] at hl0; simp at hl0
                      obtain ⟨ad, B2, d2, B3, d3, e1, x0, x1, x2, x3, ll2, hi2, ll3, hi3⟩ := at_T24 G3.out 0 (by omega) (by omega)
                      cases e1
                      have z0 : ∀ o1 o2 : Obj, ((w.alloc o1).alloc o2).cell? ad = some (.int .i64 (rd_T24 ua 0).f0) := fun o1 o2 => by
                        have : w.cell? ad = some (.int .i64 (rd_T24 ua 0).f0) := by simpa [Addr.add] using x0
                        have hlt := World.block_lt_of_cell? w _ this
                        rw [World.cell?_alloc_lt _ o2 _ (by simp; omega), World.cell?_alloc_lt _ o1 _ hlt, this]
                      clear x0 x1 x2 x3 ll2 ll3 hi2 hi3
                      have hpos : (0 : Int) < (ua.length : Int) := by omega
                      have hposn : 0 < ua.length := by omega
                      cases hk5 : ((rd_T24 ua 0).f0 == 5) with
                      | true =>
                        have hz : Aside0 (rightB ⟨k, t, la, ua⟩ m = false) := ⟨by
                          obtain rfl : k = 5 := by simpa using k5
                          have : (rd_T24 ua 0).f0 = 5 := by simpa using hk5
                          simp [rightB, hue, hle, this]⟩
                        clear hue hle hfe hu1 hl0 hu
                        generalize (rd_T24 ua 0).f0 = q at z0 hk5
                        go_enter Tryd.func13, Tryd.ntmps13
                        go_wp2_with fail
                        go_ret
                        exact ⟨by rw [hz.out]; rfl, HB0.out⟩
                      | false =>
                        have hz : Aside0 (rightB ⟨k, t, la, ua⟩ m = (decide (0 < m) && t.toList.isEmpty && rightL la (m - 1) && rightL ua (m - 1))) := ⟨by
                          obtain rfl : k = 5 := by simpa using k5
                          have : ¬ (rd_T24 ua 0).f0 = 5 := by simpa using hk5
                          have h1 : decide (ua.length ≤ 1) = true := decide_eq_true (by omega)
                          have h2 : ((rd_T24 ua 0).f0 != 5) = true := bne_iff_ne.2 this
                          simp [rightB, hue, hle, h2, h1]⟩
                        clear hue hle hfe hu1 hl0 hu
                        generalize (rd_T24 ua 0).f0 = q at z0 hk5
                        by_cases hm0 : 0 < m
                        · have hm0b : decide (0 < m) = true := decide_eq_true hm0
                          cases hte : t.toList with
                          | cons b l =>
                            have hz2 : Aside0 (rightB ⟨k, t, la, ua⟩ m = false) := ⟨by rw [hz.out, hte]; simp⟩
                            go_enter Tryd.func13, Tryd.ntmps13
                            go_wp2_with fail
                            go_ret
                            exact ⟨by rw [hz2.out]; rfl, HB0.out⟩
                          | nil =>
                            have hz2 : Aside0 (rightB ⟨k, t, la, ua⟩ m = (rightL la (m - 1) && rightL ua (m - 1))) := ⟨by rw [hz.out, hte, hm0b]; simp⟩
                            go_enter Tryd.func13, Tryd.ntmps13
                            go_wp2_with fail
                            refine (containsf la m hm0 HMM.out.2 HL.out _ _ (w.heap.size + 1) _ (Kd.C_alloc (Kd.C_alloc G2.out _) _) (by first | rfl | (simp; done) | go_cell)).mono ?_
                            rintro e w' ⟨rfl, hb⟩
                            have HB := Aside0.mk (below_step HB0.out hb)
                            have b0 := blk_below (blk_alloc (blk_new w _) _) hb
                            have b1 := blk_below (blk_new (w.alloc _) _) hb
                            simp only [World.size_alloc] at b1
                            have x3 : w'.cell? ⟨w.heap.size, 3, none⟩ = some (.slice _ ua.length c3) := (blk_cell b0 3).trans rfl
                            have y3 : w'.cell? ⟨w.heap.size + 1, 0, none⟩ = some (.int .i64 m) := (blk_cell b1 0).trans rfl
                            have Y3 := Aside0.mk y3
                            clear hb b0 b1 y3
                            cases hs : rightL la (m - 1) with
                            | false =>
                              have hq : Aside0 (rightB ⟨k, t, la, ua⟩ m = false) := ⟨by rw [hz2.out, hs, Bool.false_and]⟩
                              clear hs
                              go_wp2_with fail
                              go_ret
                              exact ⟨by rw [hq.out]; rfl, HB.out⟩
                            | true =>
                              have hq : Aside0 (rightB ⟨k, t, la, ua⟩ m = rightL ua (m - 1)) := ⟨by rw [hz2.out, hs, Bool.true_and]⟩
                              clear hs
                              go_wp2_with fail
                              refine (containsf ua m hm0 HMM.out.2 HU.out _ _ (w.heap.size + 1) _ (Kd.C_below G3.out HB.out) Y3.out).mono ?_
                              rintro e w2 ⟨rfl, hb⟩
                              have HB2 := Aside0.mk (below_step HB.out hb)
                              clear hb x3
                              cases hs : rightL ua (m - 1) with
                              | false =>
                                have hq2 := Aside0.mk (hq.out.trans hs)
                                clear hs
                                go_wp2_with fail
                                go_ret
                                exact ⟨by rw [hq2.out]; rfl, HB2.out⟩
                              | true =>
                                have hq2 := Aside0.mk (hq.out.trans hs)
                                clear hs
                                go_wp2_with fail
                                go_ret
                                exact ⟨by rw [hq2.out]; rfl, HB2.out⟩
                        · have hm0b : decide (0 < m) = false := decide_eq_false hm0
                          have hz2 : Aside0 (rightB ⟨k, t, la, ua⟩ m = false) := ⟨by rw [hz.out, hm0b]; simp⟩
                          go_enter Tryd.func13, Tryd.ntmps13
                          go_wp2_with fail
                          go_ret
                          exact ⟨by rw [hz2.out]; rfl, HB0.out⟩
                  · have hu1b : ((ua.length : Int) == 1) = false := by rw [beq_eq_false_iff_ne]; omega
                    have hz : Aside0 (rightB ⟨k, t, la, ua⟩ m = (decide (0 < m) && t.toList.isEmpty && rightL la (m - 1) && rightL ua (m - 1))) := ⟨by
                      obtain rfl : k = 5 := by simpa using k5
                      have : ua = [] := by rw [← List.length_eq_zero_iff]; omega
                      simp [rightB, this]⟩
                    clear hfe hu1 hu
                    by_cases hm0 : 0 < m
                    · have hm0b : decide (0 < m) = true := decide_eq_true hm0
                      cases hte : t.toList with
                      | cons b l =>
                        have hz2 : Aside0 (rightB ⟨k, t, la, ua⟩ m = false) := ⟨by rw [hz.out, hte]; simp⟩
                        go_enter Tryd.func13, Tryd.ntmps13
                        go_wp2_with fail
                        go_ret
                        exact ⟨by rw [hz2.out]; rfl, HB0.out⟩
                      | nil =>
                        have hz2 : Aside0 (rightB ⟨k, t, la, ua⟩ m = (rightL la (m - 1) && rightL ua (m - 1))) := ⟨by rw [hz.out, hte, hm0b]; simp⟩
                        go_enter Tryd.func13, Tryd.ntmps13
                        go_wp2_with fail
                        refine (containsf la m hm0 HMM.out.2 HL.out _ _ (w.heap.size + 1) _ (Kd.C_alloc (Kd.C_alloc G2.out _) _) (by first | rfl | (simp; done) | go_cell)).mono ?_
                        rintro e w' ⟨rfl, hb⟩
                        have HB := Aside0.mk (below_step HB0.out hb)
                        have b0 := blk_below (blk_alloc (blk_new w _) _) hb
                        have b1 := blk_below (blk_new (w.alloc _) _) hb
                        simp only [World.size_alloc] at b1
                        have x3 : w'.cell? ⟨w.heap.size, 3, none⟩ = some (.slice _ ua.length c3) := (blk_cell b0 3).trans rfl
                        have y3 : w'.cell? ⟨w.heap.size + 1, 0, none⟩ = some (.int .i64 m) := (blk_cell b1 0).trans rfl
                        have Y3 := Aside0.mk y3
                        clear hb b0 b1 y3
                        cases hs : rightL la (m - 1) with
                        | false =>
                          have hq : Aside0 (rightB ⟨k, t, la, ua⟩ m = false) := ⟨by rw [hz2.out, hs, Bool.false_and]⟩
                          clear hs
                          go_wp2_with fail
                          go_ret
                          exact ⟨by rw [hq.out]; rfl, HB.out⟩
                        | true =>
                          have hq : Aside0 (rightB ⟨k, t, la, ua⟩ m = rightL ua (m - 1)) := ⟨by rw [hz2.out, hs, Bool.true_and]⟩
                          clear hs
                          go_wp2_with fail
                          refine (containsf ua m hm0 HMM.out.2 HU.out _ _ (w.heap.size + 1) _ (Kd.C_below G3.out HB.out) Y3.out).mono ?_
                          rintro e w2 ⟨rfl, hb⟩
                          have HB2 := Aside0.mk (below_step HB.out hb)
                          clear hb x3
                          cases hs : rightL ua (m - 1) with
                          | false =>
                            have hq2 := Aside0.mk (hq.out.trans hs)
                            clear hs
                            go_wp2_with fail
                            go_ret
                            exact ⟨by rw [hq2.out]; rfl, HB2.out⟩
                          | true =>
                            have hq2 := Aside0.mk (hq.out.trans hs)
                            clear hs
                            go_wp2_with fail
                            go_ret
                            exact ⟨by rw [hq2.out]; rfl, HB2.out⟩
                    · have hm0b : decide (0 < m) = false := decide_eq_false hm0
                      have hz2 : Aside0 (rightB ⟨k, t, la, ua⟩ m = false) := ⟨by rw [hz.out, hm0b]; simp⟩
                      go_enter Tryd.func13, Tryd.ntmps13
                      go_wp2_with fail
                      go_ret
                      exact ⟨by rw [hz2.out]; rfl, HB0.out⟩

mutual
def fitB : S24 → Bool
  | ⟨k, t, l, u⟩ => (Lit.int .i64 k).wf && decide (t.size ≤ 9223372036854775807) && decide (l.length ≤ 9223372036854775807) && decide (u.length ≤ 9223372036854775807) && fitLB l && fitLB u
def fitLB : List S24 → Bool
  | [] => true
  | a :: l => fitB a && fitLB l
end
theorem fitB_iff (n : Nat) : ∀ a : S24, SizeOf.sizeOf a ≤ n → (fitB a = true ↔ Fit a) := by
  induction n with
  | zero => intro a h; cases a; simp at h
  | succ n ih =>
    intro a hn
    obtain ⟨k, t, l, u⟩ := a
    simp only [S24.mk.sizeOf_spec] at hn
    have hL : ∀ l : List S24, (∀ x ∈ l, (fitB x = true ↔ Fit x)) → (fitLB l = true ↔ FitL l) := by
      intro l; induction l with
      | nil => intro _; simp [fitLB, FitL]
      | cons x l ihl => intro h; simp only [fitLB, FitL, Bool.and_eq_true]; rw [h x (List.mem_cons_self ..), ihl (fun y hy => h y (List.mem_cons_of_mem _ hy))]
    simp only [fitB, Fit, Bool.and_eq_true, decide_eq_true_eq]
    rw [hL l (fun x hx => ih x (by have := List.sizeOf_lt_of_mem hx; omega)), hL u (fun x hx => ih x (by have := List.sizeOf_lt_of_mem hx; omega))]
    simp only [and_assoc]
theorem fit_of {a : S24} (h : fitB a = true) : Fit a := (fitB_iff _ a (Nat.le_refl _)).1 h
theorem of_fit {a : S24} (h : Fit a) : fitB a = true := (fitB_iff _ a (Nat.le_refl _)).2 h

/-- datum.right, as the print wants it: of data that fit. -/
def datum_right.f (a0_0 : Int) (a0_1 : ByteArray) (l0_2 : List (S24)) (l0_3 : List (S24)) (a1 : Int) : Option (Bool) :=
  if fitB ⟨a0_0, a0_1, l0_2, l0_3⟩ = true ∧ -9223372036854775808 ≤ a1 ∧ a1 ≤ 9223372036854775807 then some (rightB ⟨a0_0, a0_1, l0_2, l0_3⟩ a1) else none
theorem datum_right.calls (a0_0 : Int) (a0_1 : ByteArray) (A0_2 : Option Addr) (c0_2 : Nat) (l0_2 : List (S24)) (A0_3 : Option Addr) (c0_3 : Nat) (l0_3 : List (S24)) (a1 : Int) (r : Bool) (w : World) (hr0_2 : Kd.C k24 w A0_2 l0_2.length l0_2) (hc0_2 : l0_2.length ≤ c0_2) (hr0_3 : Kd.C k24 w A0_3 l0_3.length l0_3) (hc0_3 : l0_3.length ≤ c0_3) (h : datum_right.f a0_0 a0_1 l0_2 l0_3 a1 = some r) :
    Calls Tryd.prog 13 #[.agg #[.int .i64 a0_0, .string a0_1, .slice A0_2 l0_2.length c0_2, .slice A0_3 l0_3.length c0_3], .int .i64 a1] w fun e w' => e = .returned (.bool r) ∧ Below w.heap.size w w' := by
  unfold datum_right.f at h
  by_cases hc : fitB ⟨a0_0, a0_1, l0_2, l0_3⟩ = true ∧ -9223372036854775808 ≤ a1 ∧ a1 ≤ 9223372036854775807
  · rw [if_pos hc] at h
    have hr : rightB ⟨a0_0, a0_1, l0_2, l0_3⟩ a1 = r := Option.some.inj h
    subst hr
    exact right_at _ ⟨a0_0, a0_1, l0_2, l0_3⟩ (Nat.le_refl _) (fit_of hc.1) a1 _ w hc.2.1 hc.2.2 (k24_mk w ⟨a0_0, a0_1, l0_2, l0_3⟩ hc0_2 hr0_2 hc0_3 hr0_3)
  · rw [if_neg hc] at h; cases h

end Go.Proofs.YtjphkokfleoinaaDoor.D
