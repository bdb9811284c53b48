
/- The reader's data and items, walked. -/
import Derived.Test.YtjphkokfleoinaaDoorHRd2
namespace Go.Proofs.YtjphkokfleoinaaDoor.D
open Go.RowKit Go.Proofs.YtjphkokfleoinaaDoorW.PrintWords Go.Proofs.YtjphkokfleoinaaDoorW.PrintLast Go.Proofs.YtjphkokfleoinaaDoorW.PrintMore
set_option linter.unusedVariables false
set_option linter.unusedSimpArgs false

theorem FK4 {W : World} {ok : Nat → Prop} {x : S24} {A A2 : Option Addr} {c c2 : Nat} (h1 : x.f2.length ≤ c) (h2 : Kd.F k24 W ok A x.f2.length x.f2) (h3 : x.f3.length ≤ c2) (h4 : Kd.F k24 W ok A2 x.f3.length x.f3) :
    Kd.FK k24 W ok x [.int .i64 x.f0, .string x.f1, .slice A x.f2.length c, .slice A2 x.f3.length c2] :=
  fun W' hW => k24_mk W' x h1 (h2 W' hW) h3 (h4 W' hW)

set_option maxRecDepth 100000 in
set_option maxHeartbeats 2000000 in
theorem list_calls (l tl : List S24) (hn : ¬ (tl.length = 1 ∧ headKind tl = 5)) (A A2 : Option Addr) (c c2 : Nat) (W : World) (hC : Kd.C k24 W A2 tl.length tl) :
    Calls Tryd.prog 32 #[.slice A l.length c, .slice A2 tl.length c2] W fun e W' => e = .returned (.agg #[.int .i64 5, .string ⟨#[]⟩, .slice A l.length c, .slice A2 tl.length c2]) ∧ Below W.heap.size W W' := by
  have hu24 := Tryd.underlying24
  have hB := Aside0.mk (below_alloc (Below.refl W.heap.size W) (.cells #[.int .i64 0, .string ⟨#[]⟩, .slice none 0 0, .slice none 0 0] 24))
  have hr0 := blk_new W (.cells #[.int .i64 0, .string ⟨#[]⟩, .slice none 0 0, .slice none 0 0] 24)
  have HR := Aside0.mk hr0
  have hm := Kd.C_max hC
  by_cases h1 : tl.length = 1
  · obtain ⟨x, rfl⟩ : ∃ x, tl = [x] := by
      match tl, h1 with
      | [x], _ => exact ⟨x, rfl⟩
    have hk : x.f0 ≠ 5 := fun h => hn ⟨rfl, h⟩
    obtain ⟨ad, B2, d2, B3, d3, e1, x0, -⟩ := at_T24 hC 0 (by simp) (by simp)
    subst e1
    have hx0 : W.cell? ad = some (.int .i64 x.f0) := by
      have e : rd_T24 [x] 0 = x := rfl
      rw [e] at x0
      simpa [Addr.add] using x0
    have hx1 := (hB.out.cell (World.block_lt_of_cell? W _ hx0)).trans hx0
    have hkb : (x.f0 == 5) = false := beq_eq_false_iff_ne.mpr hk
    clear hC x0 hn hr0
    show Calls Tryd.prog 32 #[.slice A l.length c, .slice (some ad) 1 c2] W _
    go_enter Tryd.func32, Tryd.ntmps32
    go_wp2_with fail
    (try simp only [Exit.inBlock, Exit.then])
    refine bodyPost_ret (results_cell24 (n := 4) Tryd.results32 _ _ W.heap.size _ _ _ _ rfl (blk_new W _)) rfl ?_
    exact ⟨rfl, below_alloc (Below.refl _ _) _⟩
  · have hl : ((tl.length : Int) == 1) = false := beq_eq_false_iff_ne.mpr (by omega)
    clear hC hn hr0
    go_enter Tryd.func32, Tryd.ntmps32
    go_wp2_with fail
    (try simp only [Exit.inBlock, Exit.then])
    refine bodyPost_ret (results_cell24 (n := 4) Tryd.results32 _ _ W.heap.size _ _ _ _ rfl (blk_new W _)) rfl ?_
    exact ⟨rfl, below_alloc (Below.refl _ _) _⟩

theorem F_fin4 {W : World} {ok : Nat → Prop} {A : Option Addr} {n : Nat} {xs : List S24} (h : Kd.F k24 W ok A n xs) {r : Nat} (hok : ∀ k, ok k → k ≠ r) (u0 u1 u2 u3 : Value) :
    Kd.F k24 ((((W.setCell ⟨r, 0, none⟩ u0).setCell ⟨r, 1, none⟩ u1).setCell ⟨r, 2, none⟩ u2).setCell ⟨r, 3, none⟩ u3) ok A n xs :=
  Kd.F_far (Kd.F_far (Kd.F_far (Kd.F_far h hok _) hok _) hok _) hok _
/-- What stands at a place of the reader's text, within so many others: read. -/
def DatAt (n : Nat) : Prop := ∀ (dep g : Nat) (s : ByteArray) (i : Nat) (x : S24) (rest : List UInt8) (w0 W : World), s.size ≤ 1000000000 → i ≤ s.size → dep ≤ 100 → datF n dep (s.data.toList.drop i) = some (x, rest) → IsS46 w0 W g s (i : Int) → Below w0.heap.size w0 W →
  Calls Tryd.prog 16 #[.pointer (some ⟨g, 0, none⟩), .int .i64 (dep : Int)] W fun e W' => ∃ A2 c2 A3 c3, e = .returned (.agg #[.int .i64 x.f0, .string x.f1, .slice A2 x.f2.length c2, .slice A3 x.f3.length c3]) ∧
    Kd.FK k24 W' (fun k => W.heap.size ≤ k) x [.int .i64 x.f0, .string x.f1, .slice A2 x.f2.length c2, .slice A3 x.f3.length c3] ∧ IsS46 w0 W' g s ((s.size - rest.length : Nat) : Int) ∧ Below w0.heap.size w0 W' ∧ KeepBut W W' g none
def ItAt (n : Nat) : Prop := ∀ (dep g : Nat) (v : Bool) (s : ByteArray) (i : Nat) (l tl : List S24) (rest : List UInt8) (w0 W : World), s.size ≤ 1000000000 → i ≤ s.size → dep ≤ 100 → itF n dep v (s.data.toList.drop i) [] [] false = some (l, tl, rest) → IsS46 w0 W g s (i : Int) → Below w0.heap.size w0 W →
  Calls Tryd.prog 33 #[.pointer (some ⟨g, 0, none⟩), .int .i64 (dep : Int), .bool v] W fun e W' => ∃ A c A2 c2, e = .returned (.tuple #[.slice A l.length c, .slice A2 tl.length c2]) ∧
    (l.length ≤ c ∧ Kd.F k24 W' (fun k => W.heap.size ≤ k) A l.length l) ∧ (tl.length ≤ c2 ∧ Kd.F k24 W' (fun k => W.heap.size ≤ k) A2 tl.length tl) ∧ IsS46 w0 W' g s ((s.size - rest.length : Nat) : Int) ∧ Below w0.heap.size w0 W' ∧ KeepBut W W' g none

theorem suf_drop {r L : List UInt8} (h : r <:+ L) : r = L.drop (L.length - r.length) := List.suffix_iff_eq_drop.1 h
theorem peek_at (s : ByteArray) (i : Nat) (h : i < s.size) : datum_reader_peek.f s (i : Int) = some (bt s (i : Int), s, (i : Int)) := by
  simp only [datum_reader_peek.f]
  rw [if_neg (by omega), if_pos (by omega), if_pos (by omega)]

/-- The state while a datum is read: the reader, and the result's cells. -/
structure DtS (w0 W : World) (g r : Nat) (s : ByteArray) (i : Int) (W2 : World) : Prop where
  st : IsS46 w0 W2 g s i
  b0 : Below w0.heap.size w0 W2
  kp : KeepBut W W2 g none
  rs : W2.heap[r]? = some (.cells #[.int .i64 0, .string ⟨#[]⟩, .slice none 0 0, .slice none 0 0] 24 (0, 0))
  hr : W.heap.size = r
  hg : g < r
theorem DtS.keep {w0 W W2 W3 : World} {g r : Nat} {s : ByteArray} {i j : Int} (h : DtS w0 W g r s i W2) (h1 : IsS46 w0 W3 g s j) (h2 : Below w0.heap.size w0 W3) (h3 : KeepBut W2 W3 g none) : DtS w0 W g r s j W3 :=
  ⟨h1, h2, keep_trans h.kp h3, (h3.2 r (blk_lt h.rs) (by have := h.hg; omega) (by simp)).trans h.rs, h.hr, h.hg⟩
theorem DtS.drewN {w0 W W2 : World} {g r : Nat} {s : ByteArray} {i : Int} (h : DtS w0 W g r s i W2) (n : Nat) : DtS w0 W g r s i (W2.drewN n) :=
  ⟨h.st.drewN n, pw_below_drewN h.b0 n, h.kp, blk_drewN h.rs n, h.hr, h.hg⟩
theorem DtS.set {w0 W W2 : World} {g r : Nat} {s : ByteArray} {i : Int} (h : DtS w0 W g r s i W2) (j : Int) : DtS w0 W g r s j (W2.setCell ⟨g, 1, none⟩ (.int .i64 j)) :=
  ⟨h.st.set_1 j, h.b0.setCell h.st.ge _, keep_set h.kp 1 _, (Below.heap_setCell W2 ⟨g, 1, none⟩ _ r (by show r ≠ g; have := h.hg; omega)).trans h.rs, h.hr, h.hg⟩
theorem DtS.below {w0 W W2 W3 : World} {g r : Nat} {s : ByteArray} {i : Int} (h : DtS w0 W g r s i W2) (hb : Below W2.heap.size W2 W3) : DtS w0 W g r s i W3 :=
  h.keep (h.st.below hb) (below_weaken h.b0 h.b0.size hb) (keep_below (KeepBut.refl _ _ _) hb)

set_option maxRecDepth 100000 in
set_option maxHeartbeats 8000000 in
theorem datum_at (n : Nat) (hit : ItAt n) : DatAt (n + 1) := by
  intro dep g s i x rest w0 W hs hi hd hx hI hB
  have hu24 := Tryd.underlying24
  obtain ⟨ks, hks⟩ := (skip_ev s (by omega) i hi).rounds
  have hskl := sk_le (s.data.toList.drop i)
  have hsks := suf_drop ((sk_suf (s.data.toList.drop i)).trans (List.drop_suffix _ _))
  have hL : s.data.toList.length = s.size := by simp
  have hLd : (s.data.toList.drop i).length = s.size - i := by simp
  rw [hL] at hsks
  have hsuf := (dat_it_suf (n + 1)).1 _ _ _ hx
  rw [datF] at hx
  cases hsk : sk (s.data.toList.drop i) with
  | nil => rw [hsk] at hx; simp at hx
  | cons c r =>
    rw [hsk] at hx hskl hsks hks
    simp only at hx
    simp only [List.length_cons] at hskl hsks hks
    obtain ⟨j, hj⟩ : ∃ j, j = s.size - (r.length + 1) := ⟨_, rfl⟩
    rw [← hj] at hks hsks
    have hjs : j < s.size := by omega
    obtain ⟨c', r', hdr, hbt, hnx⟩ := bt_drop s j hjs
    rw [← hsks] at hdr
    simp only [List.cons.injEq] at hdr
    obtain ⟨rfl, rfl⟩ := hdr
    have HS0 := Aside0.mk (show DtS w0 W g W.heap.size s (i : Int) (W.alloc (.cells #[.int .i64 0, .string ⟨#[]⟩, .slice none 0 0, .slice none 0 0] 24)) from
      ⟨hI.alloc _, below_alloc hB _, keep_below (KeepBut.refl _ _ _) (below_alloc (Below.refl _ _) _), blk_new W _, rfl, hI.lt⟩)
    have HKS := Aside0.mk hks
    have hpk := peek_at s j hjs
    rw [hbt] at hpk
    have HPK := Aside0.mk hpk
    have hvp := vec_pre s j (by omega)
    rw [← hsks] at hvp
    have HVP := Aside0.mk hvp
    have HX := Aside0.mk hx
    have HNX := Aside0.mk hnx
    have HDR := Aside0.mk hsks
    have HJ := Aside0.mk hj
    have HRL := Aside0.mk (show r.length + 1 ≤ s.size by omega)
    clear hks hx hI hB hpk hvp hnx hbt hj hsks hskl
    go_enter Tryd.func16, Tryd.ntmps16
    go_wp2_with (go_at_call 15; refine (datum_reader_skip.calls ks g s (i : Int) s (j : Int) w0 _ HS0.out.st HS0.out.b0 HKS.out).mono ?_; rintro e w1 ⟨rfl, h1, h2, h3⟩; have HS1 := Aside0.mk (HS0.out.keep h1 h2 h3); clear h1 h2 h3)
    generalize hrr : W.heap.size = rb at *
    have HRR := Aside0.mk hrr
    clear HS0
    obtain ⟨x0, x1, x2⟩ := HS1.out.st.cells
    have hge : decide ((s.size : Int) ≤ (j : Int)) = false := decide_eq_false (by omega)
    have hgn : decide (s.size ≤ j) = false := decide_eq_false (by omega)
    have hgc : ¬ ((j : Int) ≥ (s.size : Int)) := by omega
    repeat (go_quiet (first | (go_at_call 28; (with_reducible refine (strings_HasPrefix.calls (s.extract j s.size) (⟨#[35, 40]⟩ : ByteArray) (vecU (c :: r)) _ HVP.out).mono ?_); rintro e' w' ⟨rfl, ⟨nd, rfl⟩⟩; (try first | exact ⟨rfl, _, World.drewN_drewN _ _ _⟩ | exact ⟨rfl, _, Eq.trans (World.drewN_drewN _ _ _) (congrArg (World.drewN _) (Nat.add_assoc _ _ _))⟩))); try go_wp2_with fail)
    refine (datum_reader_peek.calls g s (j : Int) (c.toNat : Int) s (j : Int) w0 _ (HS1.out.drewN _).st (HS1.out.drewN _).b0 HPK.out).mono ?_
    rintro e w2 ⟨rfl, h1, h2, h3⟩
    have HS2 := Aside0.mk ((HS1.out.drewN _).keep h1 h2 h3)
    clear h1 h2 h3 x0 x1 x2
    obtain ⟨x0, x1, x2⟩ := HS2.out.st.cells
    clear HS1 HPK HVP HKS
    have hr0w : w0.heap.size ≤ rb := by have := HS2.out.st.ge; have := HS2.out.hg; omega
    have hrg : rb ≠ g := by have := HS2.out.hg; omega
    by_cases c34 : c = 34
    · have hx := HX.out
      rw [if_pos c34] at hx
      obtain ⟨o, ho, he⟩ := Option.map_eq_some_iff.1 hx
      obtain ⟨t, rest'⟩ := o
      simp only [Prod.mk.injEq] at he
      obtain ⟨rfl, rfl⟩ := he
      rw [← HNX.out] at ho
      have b34 : ((c.toNat : Int) == 34) = true := by rw [c34]; decide
      have HO := Aside0.mk ho
      clear hx ho hd hi c34
      go_wp2_with fail
      refine (text_calls g s hs j hjs t rest' HO.out w0 w2 HS2.out.st HS2.out.b0).mono ?_
      rintro e w3 ⟨rfl, h1, h2, h3⟩
      have HS3 := Aside0.mk (HS2.out.keep h1 h2 h3)
      obtain ⟨⟨rc0, rc1, rc2, rc3⟩, rf0, rf1, rf2, rf3⟩ := blk4 HS3.out.rs
      clear h1 h2 h3 x0 x1 x2
      go_wp2_with fail
      obtain ⟨f1, f2, f3⟩ := fin4 HS3.out.st HS3.out.b0 HS3.out.kp HRR.out hr0w hrg (.int .i64 3) (.string (bU t)) (.slice none 0 0) (.slice none 0 0)
      (try simp only [Exit.inBlock, Exit.then])
      refine bodyPost_ret (results_cell24 (n := 4) Tryd.results16 _ _ rb _ _ _ _ rfl (fin4r HS3.out.rs (.int .i64 3) (.string (bU t)) (.slice none 0 0) (.slice none 0 0))) rfl ?_
      exact ⟨none, 0, none, 0, rfl, FK4 (x := ⟨3, bU t, [], []⟩) (Nat.le_refl 0) (Kd.F_nil _ _ _) (Nat.le_refl 0) (Kd.F_nil _ _ _), f1, f2, f3⟩
    · have b34 : ((c.toNat : Int) == 34) = false := beq_eq_false_iff_ne.mpr (fun h => c34 ((u8_eq c 34 (by decide)).1 h))
      have hx := HX.out
      rw [if_neg c34] at hx
      by_cases hat : c ≠ 40 ∧ c ≠ 39 ∧ vecU (c :: r) = false
      · rw [if_pos hat] at hx
        obtain ⟨x', ho, he⟩ := Option.map_eq_some_iff.1 hx
        simp only [Prod.mk.injEq] at he
        obtain ⟨rfl, rfl⟩ := he
        have b40 : ((c.toNat : Int) != 40) = true := bne_iff_ne.mpr (fun h => hat.1 ((u8_eq c 40 (by decide)).1 h))
        have b39 : ((c.toNat : Int) != 39) = true := bne_iff_ne.mpr (fun h => hat.2.1 ((u8_eq c 39 (by decide)).1 h))
        have bv := hat.2.2
        have hpl := pieceL_le (c :: r)
        simp only [List.length_cons] at hpl
        rw [HDR.out] at ho
        have HO := Aside0.mk ho
        have hfl := atom_flat ho
        clear hx ho hd hi c34 hat
        go_wp2_with fail
        refine (atom_calls g s hs j (by omega) x' HO.out w0 w2 HS2.out.st HS2.out.b0).mono ?_
        rintro e w3 ⟨rfl, h1, h2, h3⟩
        have HS3 := Aside0.mk (HS2.out.keep h1 h2 h3)
        obtain ⟨⟨rc0, rc1, rc2, rc3⟩, rf0, rf1, rf2, rf3⟩ := blk4 HS3.out.rs
        have HPL := Aside0.mk hpl
        have HFL := Aside0.mk hfl
        clear h1 h2 h3 x0 x1 x2 hpl hfl
        go_wp2_with fail
        obtain ⟨f1, f2, f3⟩ := fin4 HS3.out.st HS3.out.b0 HS3.out.kp HRR.out hr0w hrg (.int .i64 x'.f0) (.string x'.f1) (.slice none 0 0) (.slice none 0 0)
        (try simp only [Exit.inBlock, Exit.then])
        refine bodyPost_ret (results_cell24 (n := 4) Tryd.results16 _ _ rb _ _ _ _ rfl (fin4r HS3.out.rs (.int .i64 x'.f0) (.string x'.f1) (.slice none 0 0) (.slice none 0 0))) rfl ?_
        obtain ⟨k', t', l', u'⟩ := x'
        obtain ⟨rfl, rfl⟩ := HFL.out
        refine ⟨none, 0, none, 0, rfl, FK4 (x := ⟨k', t', [], []⟩) (Nat.le_refl 0) (Kd.F_nil _ _ _) (Nat.le_refl 0) (Kd.F_nil _ _ _), f1.to ?_, f2, f3⟩
        rw [← HDR.out]
        have h7 := HPL.out
        have h8 := HJ.out
        rw [List.length_drop, List.length_cons]
        have h9 := HRL.out
        omega
      · rw [if_neg hat] at hx
        by_cases hdp : 64 ≤ dep
        · rw [if_pos hdp] at hx; cases hx
        · rw [if_neg hdp] at hx
          by_cases c39 : c = 39
          · rw [if_pos c39] at hx; cases hx
          · rw [if_neg c39] at hx
            have b39 : ((c.toNat : Int) == 39) = false := beq_eq_false_iff_ne.mpr (fun h => c39 ((u8_eq c 39 (by decide)).1 h))
            have b39n : ((c.toNat : Int) != 39) = true := bne_iff_ne.mpr (fun h => c39 ((u8_eq c 39 (by decide)).1 h))
            have hdi : decide ((64 : Int) ≤ (dep : Int)) = false := decide_eq_false (by omega)
            have hdn : ¬ ((dep : Int) ≥ 64) := by omega
            obtain ⟨y0, y1, y2⟩ := (HS2.out.set ((j : Int) + 1)).st.cells
            have HS3 := Aside0.mk (HS2.out.set ((j : Int) + 1))
            by_cases hv : vecU (c :: r) = true
            · rw [if_pos hv] at hx
              obtain ⟨o, ho, he⟩ := Option.map_eq_some_iff.1 hx
              obtain ⟨l, tl, rest'⟩ := o
              simp only [Prod.mk.injEq] at he
              obtain ⟨rfl, rfl⟩ := he
              have c35 : c = 35 := by
                have := hv
                unfold vecU at this
                rw [beq_iff_eq] at this
                have h0 := congrArg (·.head?) this
                simpa using h0
              have b40 : ((c.toNat : Int) != 40) = true := by rw [c35]; decide
              have hrl : 1 ≤ r.length := by
                have := hv
                unfold vecU at this
                rw [beq_iff_eq] at this
                have h0 := congrArg List.length this
                simp at h0
                omega
              have h9 := HRL.out
              have h8 := HJ.out
              have hj2 : j + 2 ≤ s.size := by omega
              have hd2 : r.drop 1 = s.data.toList.drop (j + 2) := by rw [← HNX.out, List.drop_drop]
              rw [hd2] at ho
              have HS4 := Aside0.mk (HS3.out.set ((j : Int) + 1 + 1))
              have hcall := hit (dep + 1) g true s (j + 2) l tl rest' w0 _ hs hj2 (by omega) ho (HS4.out.st.to (by omega)) HS4.out.b0
              rw [show ((dep + 1 : Nat) : Int) = (dep : Int) + 1 by omega] at hcall
              have HC := Aside0.mk hcall
              clear hcall ho hx hat hd2 h8 h9 hi hd c34 c39 c35
              go_wp2_with fail
              refine HC.out.mono ?_
              rintro e w4 ⟨A, cA, A2, c2, rfl, ⟨hl1, hl2⟩, -, h1, h2, h3⟩
              have HS5 := Aside0.mk (HS4.out.keep h1 h2 h3)
              have hsz4 : rb < ((w2.setCell ⟨g, 1, none⟩ (.int .i64 ((j : Int) + 1))).setCell ⟨g, 1, none⟩ (.int .i64 ((j : Int) + 1 + 1))).heap.size := blk_lt HS4.out.rs
              have HF := Aside0.mk (F_fin4 hl2 (r := rb) (fun k hk => by omega) (.int .i64 6) (.string ⟨#[]⟩) (.slice A l.length cA) (.slice none 0 0))
              have HLL := Aside0.mk hl1
              have HSZ := Aside0.mk hsz4
              obtain ⟨⟨rc0, rc1, rc2, rc3⟩, rf0, rf1, rf2, rf3⟩ := blk4 HS5.out.rs
              clear h1 h2 h3 hl1 hl2 x0 x1 x2 y0 y1 y2 HC hsz4
              go_wp2_with fail
              obtain ⟨f1, f2, f3⟩ := fin4 HS5.out.st HS5.out.b0 HS5.out.kp HRR.out hr0w hrg (.int .i64 6) (.string ⟨#[]⟩) (.slice A l.length cA) (.slice none 0 0)
              (try simp only [Exit.inBlock, Exit.then])
              refine bodyPost_ret (results_cell24 (n := 4) Tryd.results16 _ _ rb _ _ _ _ rfl (fin4r HS5.out.rs (.int .i64 6) (.string ⟨#[]⟩) (.slice A l.length cA) (.slice none 0 0))) rfl ?_
              exact ⟨A, cA, none, 0, rfl, FK4 (x := ⟨6, ⟨#[]⟩, l, []⟩) HLL.out (Kd.F_mono HF.out (fun k hk => by have := HSZ.out; have := HRR.out; omega)) (Nat.le_refl 0) (Kd.F_nil _ _ _), f1, f2, f3⟩
            · rw [if_neg hv] at hx
              obtain ⟨o, ho, he⟩ := Option.bind_eq_some_iff.1 hx
              obtain ⟨l, tl, rest'⟩ := o
              simp only at he
              by_cases hk5 : tl.length = 1 ∧ headKind tl = 5
              · rw [if_pos hk5] at he; cases he
              · rw [if_neg hk5] at he
                simp only [Option.some.injEq, Prod.mk.injEq] at he
                obtain ⟨rfl, rfl⟩ := he
                have hvf : vecU (c :: r) = false := by simpa using hv
                have c40 : c = 40 := by
                  by_cases h : c = 40
                  · exact h
                  · exact absurd ⟨h, c39, hvf⟩ hat
                have b40 : ((c.toNat : Int) != 40) = false := by rw [c40]; decide
                rw [← HNX.out] at ho
                have hcall := hit (dep + 1) g false s (j + 1) l tl rest' w0 _ hs (by omega) (by omega) ho (HS3.out.st.to (by omega)) HS3.out.b0
                rw [show ((dep + 1 : Nat) : Int) = (dep : Int) + 1 by omega] at hcall
                have HC := Aside0.mk hcall
                clear hcall ho hx hat hv hi hd c34 c39 c40
                go_wp2_with fail
                refine HC.out.mono ?_
                rintro e w4 ⟨A, cA, A2, c2, rfl, ⟨hl1, hl2⟩, ⟨ht1, ht2⟩, h1, h2, h3⟩
                have HS5 := Aside0.mk (HS3.out.keep h1 h2 h3)
                have hsz4 : rb < (w2.setCell ⟨g, 1, none⟩ (.int .i64 ((j : Int) + 1))).heap.size := blk_lt HS3.out.rs
                have HF := Aside0.mk hl2
                have HF2 := Aside0.mk ht2
                have HLL := Aside0.mk hl1
                have HLT := Aside0.mk ht1
                have HSZ := Aside0.mk hsz4
                clear h1 h2 h3 hl1 hl2 ht1 ht2 x0 x1 x2 y0 y1 y2 HC hsz4
                go_wp2_with fail
                refine (list_calls l tl hk5 A A2 cA c2 w4 (Kd.F_now HF2.out)).mono ?_
                rintro e w5 ⟨rfl, hb5⟩
                have HS6 := Aside0.mk (HS5.out.below hb5)
                have HF3 := Aside0.mk (F_fin4 (Kd.F_below HF.out hb5) (r := rb) (fun k hk => by have := HSZ.out; omega) (.int .i64 5) (.string ⟨#[]⟩) (.slice A l.length cA) (.slice A2 tl.length c2))
                have HF4 := Aside0.mk (F_fin4 (Kd.F_below HF2.out hb5) (r := rb) (fun k hk => by have := HSZ.out; omega) (.int .i64 5) (.string ⟨#[]⟩) (.slice A l.length cA) (.slice A2 tl.length c2))
                obtain ⟨⟨rc0, rc1, rc2, rc3⟩, rf0, rf1, rf2, rf3⟩ := blk4 HS6.out.rs
                clear hb5
                go_wp2_with fail
                obtain ⟨f1, f2, f3⟩ := fin4 HS6.out.st HS6.out.b0 HS6.out.kp HRR.out hr0w hrg (.int .i64 5) (.string ⟨#[]⟩) (.slice A l.length cA) (.slice A2 tl.length c2)
                (try simp only [Exit.inBlock, Exit.then])
                refine bodyPost_ret (results_cell24 (n := 4) Tryd.results16 _ _ rb _ _ _ _ rfl (fin4r HS6.out.rs (.int .i64 5) (.string ⟨#[]⟩) (.slice A l.length cA) (.slice A2 tl.length c2))) rfl ?_
                exact ⟨A, cA, A2, c2, rfl, FK4 (x := ⟨5, ⟨#[]⟩, l, tl⟩) HLL.out (Kd.F_mono HF3.out (fun k hk => by have := HSZ.out; have := HRR.out; omega)) HLT.out (Kd.F_mono HF4.out (fun k hk => by have := HSZ.out; have := HRR.out; omega)), f1, f2, f3⟩
end Go.Proofs.YtjphkokfleoinaaDoor.D
