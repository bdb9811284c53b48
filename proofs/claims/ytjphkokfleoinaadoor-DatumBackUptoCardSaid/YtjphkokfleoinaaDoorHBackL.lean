
/- DatumBack's law, walked. -/
import Derived.Test.YtjphkokfleoinaaDoorDx3
import Derived.Test.YtjphkokfleoinaaDoorDx7
import Derived.Test.YtjphkokfleoinaaDoorHRRead
import Derived.Test.YtjphkokfleoinaaDoorHSameP
import Derived.Test.YtjphkokfleoinaaDoorHRef1
import Derived.Test.YtjphkokfleoinaaDoorHRef2
namespace Go.Proofs.YtjphkokfleoinaaDoor.D
open Go Go.Proofs Go.RowKit Go.Proofs.YtjphkokfleoinaaDoorW.PrintWords Go.Proofs.YtjphkokfleoinaaDoorW.PrintLast Go.Proofs.YtjphkokfleoinaaDoorW.PrintMore
set_option linter.unusedVariables false
set_option linter.unusedSimpArgs false

theorem escB_le (l : List UInt8) : (escB l).length ≤ 2 * l.length := by
  induction l with
  | nil => simp [escB]
  | cons c l ih =>
    have hlen : (escOne c).length ≤ 2 := by
      unfold escOne; repeat' split
      all_goals simp
    simp only [escB, List.length_append, List.length_cons]; omega
theorem put_wt (n : Nat) : ∀ x : S24, SizeOf.sizeOf x ≤ n → (putB x).length + 3 ≤ 2 * wt x := by
  induction n with
  | zero => intro a h; cases a; simp at h
  | succ n ih =>
    intro x hn
    obtain ⟨k, t, l, u⟩ := x
    have hL : ∀ (l : List S24), (∀ a ∈ l, SizeOf.sizeOf a ≤ n) → ∀ b, (putL b l).length ≤ 2 * wtL l := by
      intro l
      induction l with
      | nil => intro _ b; cases b <;> simp [putL, wtL]
      | cons a l ihl =>
        intro h b
        have h1 := ih a (h a (List.mem_cons_self ..))
        have h2 := ihl (fun b hb => h b (List.mem_cons_of_mem _ hb)) false
        cases b <;> simp only [putL, wtL, List.length_append, List.length_cons, List.length_nil] <;> omega
    have hT : ∀ (l : List S24), (∀ a ∈ l, SizeOf.sizeOf a ≤ n) → (putT l).length ≤ 2 * wtL l := by
      intro l
      induction l with
      | nil => intro _; simp [putT, wtL]
      | cons a l ihl =>
        intro h
        have h1 := ih a (h a (List.mem_cons_self ..))
        have h2 := ihl (fun b hb => h b (List.mem_cons_of_mem _ hb))
        simp only [putT, wtL, List.length_append, List.length_cons, List.length_nil]; omega
    simp only [S24.mk.sizeOf_spec] at hn
    have h1 := hL l (fun a ha => by have := List.sizeOf_lt_of_mem ha; omega) true
    have h2 := hT u (fun a ha => by have := List.sizeOf_lt_of_mem ha; omega)
    have h3 := escB_le t.data.toList
    have hsz : t.data.toList.length = t.size := by simp
    simp only [putB, wt]
    split
    · simp only [List.length_append, List.length_cons, List.length_nil]; omega
    · split
      · simp only [List.length_append, List.length_cons, List.length_nil]; omega
      · split
        · simp only [List.length_append, List.length_cons, List.length_nil]; omega
        · omega

theorem ref_can (x : S24) (hf : Fit x) : Ev (fun k => rostrumref10_Can.f k x.f0 x.f1 x.f2 x.f3) (rightB x 64) := by
  have h1 := ref_may _ x (Nat.le_refl _) hf 66 (by omega) (by omega)
  have h2 := ref_depth _ x (Nat.le_refl _) hf 66 (by omega) (by omega)
  have h3 := right_depth _ x (Nat.le_refl _) 64 (by omega)
  simp only [rostrumref10_Can.f]
  refine Ev.bind h1 ?_
  rw [show (64 : Int) + 2 = 66 from rfl] at h3
  rw [← h3]
  cases hr : rightB x 66 with
  | false => simpa using Ev.now false
  | true => simpa using Ev.bind h2 (Ev.now (decide (dR x 66 ≤ 64)))

theorem can_f (x : S24) (hfit : Fit x) : datum_Can.f x.f0 x.f1 x.f2 x.f3 = some (rightB x 64) := by
  obtain ⟨k, t, l, u⟩ := x
  simp only [datum_Can.f, datum_right.f]
  rw [if_pos ⟨of_fit hfit, by omega, by omega⟩]
  rfl

theorem cells8 {W W' : World} {p1 p2 p3 p4 p5 p6 p7 p8 : Addr} {u1 u2 u3 u4 u5 u6 u7 u8 : Value} (h : W.cell? p1 = some u1 ∧ W.cell? p2 = some u2 ∧ W.cell? p3 = some u3 ∧ W.cell? p4 = some u4 ∧ W.cell? p5 = some u5 ∧ W.cell? p6 = some u6 ∧ W.cell? p7 = some u7 ∧ W.cell? p8 = some u8) (hB : Below W.heap.size W W') : W'.cell? p1 = some u1 ∧ W'.cell? p2 = some u2 ∧ W'.cell? p3 = some u3 ∧ W'.cell? p4 = some u4 ∧ W'.cell? p5 = some u5 ∧ W'.cell? p6 = some u6 ∧ W'.cell? p7 = some u7 ∧ W'.cell? p8 = some u8 := by
  have go : ∀ {p : Addr} {u : Value}, W.cell? p = some u → W'.cell? p = some u := fun h => (hB.cell (World.block_lt_of_cell? W _ h)).trans h
  obtain ⟨h1, h2, h3, h4, h5, h6, h7, h8⟩ := h
  exact ⟨go h1, go h2, go h3, go h4, go h5, go h6, go h7, go h8⟩
set_option maxRecDepth 100000 in
set_option maxHeartbeats 4000000 in
theorem back_calls (x : S24) (hf : Fit x) (hl : (putB x).length ≤ 100000000) (va : List Value) (w : World) (hK : k24.K w x va) :
    Calls Tryd.prog 3 #[.agg va.toArray] w fun e w' => e = .returned (.bool true) ∧ Below w.heap.size w w' := by
  have hu24 := Tryd.underlying24
  obtain ⟨A2, c2, A3, c3, rfl, l2, g2, l3, g3⟩ := k24_open hK
  obtain ⟨kc, hkc⟩ := (ref_can x hf).rounds
  have HB1 := Aside0.mk (below_alloc (Below.refl w.heap.size w) (.cells #[.int .i64 x.f0, .string x.f1, .slice A2 x.f2.length c2, .slice A3 x.f3.length c3] 24))
  have HX1 := Aside0.mk (blk_new w (.cells #[.int .i64 x.f0, .string x.f1, .slice A2 x.f2.length c2, .slice A3 x.f3.length c3] 24))
  have HKX := Aside0.mk (show ∀ W, Below w.heap.size w W → k24.K W x [.int .i64 x.f0, .string x.f1, .slice A2 x.f2.length c2, .slice A3 x.f3.length c3] from fun W hb => k24.K_below hb hK)
  have HPR := Aside0.mk (show ∀ W, Below w.heap.size w W → Calls Tryd.prog 4 #[.agg #[.int .i64 x.f0, .string x.f1, .slice A2 x.f2.length c2, .slice A3 x.f3.length c3]] W fun e w' => e = .returned (.string (datum_PrintB x)) ∧ Below W.heap.size W w' from fun W hb => datum_Print_any x hf (by omega) [_, _, _, _] W (k24.K_below hb hK))
  have HCR := Aside0.mk (show ∀ W, Below w.heap.size w W → Calls Tryd.prog 5 #[.agg #[.int .i64 x.f0, .string x.f1, .slice A2 x.f2.length c2, .slice A3 x.f3.length c3]] W fun e w' => e = .returned (.bool (rightB x 64)) ∧ Below W.heap.size W w' from fun W hb => rostrumref10_Can.calls kc x.f0 x.f1 A2 c2 x.f2 A3 c3 x.f3 _ W (Kd.C_below g2 hb) l2 (Kd.C_below g3 hb) l3 hkc)
  have HCP := Aside0.mk (show ∀ W, Below w.heap.size w W → Calls Tryd.prog 6 #[.agg #[.int .i64 x.f0, .string x.f1, .slice A2 x.f2.length c2, .slice A3 x.f3.length c3]] W fun e w' => e = .returned (.bool (rightB x 64)) ∧ Below W.heap.size W w' from fun W hb => datum_Can.calls x.f0 x.f1 A2 c2 x.f2 A3 c3 x.f3 _ W (Kd.C_below g2 hb) l2 (Kd.C_below g3 hb) l3 (can_f x hf))
  have HSM := Aside0.mk (show ∀ W va', Below w.heap.size w W → k24.K W x va' → Calls Tryd.prog 8 #[.agg va'.toArray, .agg #[.int .i64 x.f0, .string x.f1, .slice A2 x.f2.length c2, .slice A3 x.f3.length c3]] W fun e w' => e = .returned (.bool true) ∧ Below W.heap.size W w' from fun W va' hb hk => by
    have := same_at _ x x (Nat.le_refl _) va' [_, _, _, _] W hk (k24.K_below hb hK)
    rw [(same_refl _).1 x (Nat.le_refl _)] at this
    exact this)
  cases hr : rightB x 64 with
  | false =>
    have hp : datum_PrintB x = ⟨#[]⟩ := by unfold datum_PrintB; rw [hr]; rfl
    rw [hr] at HCR HCP
    rw [hp] at HPR
    have he : ((⟨#[]⟩ : ByteArray).toList == ([] : List UInt8)) = true := by rw [Lib.toList_data]; rfl
    clear hK g2 g3 l2 l3 hkc hr hp HSM HKX
    show Calls Tryd.prog 3 #[.agg #[.int .i64 x.f0, .string x.f1, .slice A2 x.f2.length c2, .slice A3 x.f3.length c3]] w _
    go_enter Tryd.func3, Tryd.ntmps3
    go_wp2_with (first
      | (go_at_call 4; refine (HPR.out _ HB1.out).mono ?_; rintro e w1 ⟨rfl, hb⟩; have HB2 := Aside0.mk (below_step HB1.out hb); have HX2 := Aside0.mk (blk_below HX1.out hb); obtain ⟨⟨x0, x1, x2, x3⟩, -⟩ := blk4 HX2.out; clear hb)
      | (go_at_call 5; refine (HCR.out _ HB2.out).mono ?_; rintro e w2 ⟨rfl, hb⟩; have HB3 := Aside0.mk (below_step HB2.out hb); have HX3 := Aside0.mk (blk_below HX2.out hb); clear x0 x1 x2 x3; obtain ⟨⟨x0, x1, x2, x3⟩, -⟩ := blk4 HX3.out; clear hb)
      | (go_at_call 6; refine (HCP.out _ HB3.out).mono ?_; rintro e w3 ⟨rfl, hb⟩; have HB4 := Aside0.mk (below_step HB3.out hb); clear hb))
    go_ret
    exact ⟨rfl, HB4.out⟩
  | true =>
    have hp : datum_PrintB x = bU (putB x) := by unfold datum_PrintB; rw [hr]; rfl
    obtain ⟨n, hn1, hn2, hn3⟩ := back_law x hr
    have HRD := Aside0.mk (show ∀ W, Calls Tryd.prog 7 #[.string (bU (putB x))] W fun e w' => ∃ A c, e = .returned (.tuple #[.slice A 1 c, .nilIface]) ∧ 1 ≤ c ∧ Kd.C k24 w' A 1 [x] ∧ Below W.heap.size W w' from fun W => read_one (bU (putB x)) (by rw [bU_size]; omega) x n (by rw [bU_list]; exact hn1) (by rw [bU_list]; exact hn2) (by rw [bU_list]; exact hn3) W)
    rw [hr] at HCR HCP
    rw [hp] at HPR
    generalize bU (putB x) = q at *
    clear hK g2 g3 l2 l3 hkc hr hp hn1 hn2 hn3
    show Calls Tryd.prog 3 #[.agg #[.int .i64 x.f0, .string x.f1, .slice A2 x.f2.length c2, .slice A3 x.f3.length c3]] w _
    go_enter Tryd.func3, Tryd.ntmps3
    go_wp2_with (first
      | (go_at_call 4; refine (HPR.out _ HB1.out).mono ?_; rintro e w1 ⟨rfl, hb⟩; have HB2 := Aside0.mk (below_step HB1.out hb); have HX2 := Aside0.mk (blk_below HX1.out hb); obtain ⟨⟨x0, x1, x2, x3⟩, -⟩ := blk4 HX2.out; clear hb)
      | (go_at_call 5; refine (HCR.out _ HB2.out).mono ?_; rintro e w2 ⟨rfl, hb⟩; have HB3 := Aside0.mk (below_step HB2.out hb); have HX3 := Aside0.mk (blk_below HX2.out hb); clear x0 x1 x2 x3; clear hb)
      | (go_at_call 7; refine (HRD.out _).mono ?_; rintro e w3 ⟨A, c, rfl, hc, hC, hb⟩; have HB4 := Aside0.mk (below_step HB3.out hb); have HX4 := Aside0.mk (blk_below HX3.out hb); have HC := Aside0.mk hC; clear hb hC))
    obtain ⟨ad, B2, d2, B3, d3, e1, y0, y1, y2, y3, m2, j2, m3, j3⟩ := at_T24 HC.out 0 (by simp) (by simp)
    subst e1
    have e : rd_T24 [x] 0 = x := rfl
    rw [e] at y0 y1 y2 y3 m2 j2 m3 j3
    have ea : ad.add ((0 : Int).toNat * 4) = ad := by simp [Addr.add]
    rw [ea] at y0 y1 y2 y3
    have HKY := Aside0.mk (k24_mk w3 x m2 j2 m3 j3)
    obtain ⟨⟨z0, z1, z2, z3⟩, -⟩ := blk4 HX4.out
    have HS := Aside0.mk (show w3.drew.cell? ad = some (.int .i64 x.f0) ∧ w3.drew.cell? ⟨ad.block, ad.off + 1, none⟩ = some (.string x.f1) ∧ w3.drew.cell? ⟨ad.block, ad.off + 2, none⟩ = some (.slice B2 x.f2.length d2) ∧ w3.drew.cell? ⟨ad.block, ad.off + 3, none⟩ = some (.slice B3 x.f3.length d3) ∧ w3.drew.cell? ⟨w.heap.size, 0, none⟩ = some (.int .i64 x.f0) ∧ w3.drew.cell? ⟨w.heap.size, 1, none⟩ = some (.string x.f1) ∧ w3.drew.cell? ⟨w.heap.size, 2, none⟩ = some (.slice A2 x.f2.length c2) ∧ w3.drew.cell? ⟨w.heap.size, 3, none⟩ = some (.slice A3 x.f3.length c3) from ⟨y0, y1, y2, y3, z0, z1, z2, z3⟩)
    have HBD := Aside0.mk (below_drew1 HB4.out)
    have HKD := Aside0.mk (k24.K_below (below_drew1 (Below.refl _ w3)) HKY.out)
    clear y0 y1 y2 y3 z0 z1 z2 z3 m2 j2 m3 j3 ea e
    go_region_held3 (fun w' => w'.cell? ad = some (.int .i64 x.f0) ∧ w'.cell? ⟨ad.block, ad.off + 1, none⟩ = some (.string x.f1) ∧ w'.cell? ⟨ad.block, ad.off + 2, none⟩ = some (.slice B2 x.f2.length d2) ∧ w'.cell? ⟨ad.block, ad.off + 3, none⟩ = some (.slice B3 x.f3.length d3) ∧ w'.cell? ⟨w.heap.size, 0, none⟩ = some (.int .i64 x.f0) ∧ w'.cell? ⟨w.heap.size, 1, none⟩ = some (.string x.f1) ∧ w'.cell? ⟨w.heap.size, 2, none⟩ = some (.slice A2 x.f2.length c2) ∧ w'.cell? ⟨w.heap.size, 3, none⟩ = some (.slice A3 x.f3.length c3)) (first | exact HS2.out | exact HS.out)
      (first
        | (go_at_call 8; refine (HSM.out _ [_, _, _, _] HBD.out HKD.out).mono ?_; rintro e w5 ⟨rfl, hb5⟩; have HS2 := Aside0.mk (cells8 HS.out hb5); have HB5 := Aside0.mk (below_step HBD.out hb5); clear hb5))
    all_goals go_wp2
    go_ret
    exact ⟨rfl, HB5.out⟩
end Go.Proofs.YtjphkokfleoinaaDoor.D
