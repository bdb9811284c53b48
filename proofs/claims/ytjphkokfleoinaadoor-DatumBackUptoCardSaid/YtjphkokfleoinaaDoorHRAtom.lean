
/- The reader's atom. -/
import Derived.Test.YtjphkokfleoinaaDoorHRd1
import Derived.Test.YtjphkokfleoinaaDoorHRight
namespace Go.Proofs.YtjphkokfleoinaaDoor.D
open Go.RowKit Go.Proofs.YtjphkokfleoinaaDoorW.PrintWords Go.Proofs.YtjphkokfleoinaaDoorW.PrintLast Go.Proofs.YtjphkokfleoinaaDoorW.PrintMore
set_option linter.unusedVariables false
set_option linter.unusedSimpArgs false

def natsU (p : List UInt8) : List Int := p.map fun c => (c.toNat : Int)
def atomU (p : List UInt8) : Option S24 := match numL p with
  | none => none
  | some (some t) => some ⟨1, bU t, [], []⟩
  | some none => if p = [35, 116] ∨ p = [35, 102] then some ⟨2, bU p, [], []⟩ else if nameL (natsU p) = true then some ⟨4, bU p, [], []⟩ else none
theorem atom_flat {p : List UInt8} {x : S24} (h : atomU p = some x) : x.f2 = [] ∧ x.f3 = [] := by
  unfold atomU at h
  split at h
  · cases h
  · obtain rfl := Option.some.inj h; exact ⟨rfl, rfl⟩
  · split at h
    · obtain rfl := Option.some.inj h; exact ⟨rfl, rfl⟩
    · split at h
      · obtain rfl := Option.some.inj h; exact ⟨rfl, rfl⟩
      · cases h
theorem IsS46.cells {w0 W : World} {g : Nat} {s : ByteArray} {i : Int} (h : IsS46 w0 W g s i) : W.cell? ⟨g, 0, none⟩ = some (.string s) ∧ W.cell? ⟨g, 1, none⟩ = some (.int .i64 i) ∧ W.frozen? ⟨g, 1, none⟩ = false :=
  ⟨blk_cell h.1 0, blk_cell h.1 1, blk_frozen h.1 1⟩
theorem IsS46.to {w0 W : World} {g : Nat} {s : ByteArray} {a b : Int} (h : IsS46 w0 W g s a) (e : a = b) : IsS46 w0 W g s b := e ▸ h
theorem keep_below {w W W2 : World} {g : Nat} (h : KeepBut w W g none) (hb : Below W.heap.size W W2) : KeepBut w W2 g none :=
  ⟨Nat.le_trans h.1 hb.size, fun i hi hg hr => (hb.block i (Nat.lt_of_lt_of_le hi h.1)).trans (h.2 i hi hg hr)⟩
theorem keep_trans {w W W2 : World} {g : Nat} (h : KeepBut w W g none) (k : KeepBut W W2 g none) : KeepBut w W2 g none :=
  ⟨Nat.le_trans h.1 k.1, fun i hi hg hr => (k.2 i (Nat.lt_of_lt_of_le hi h.1) hg hr).trans (h.2 i hi hg hr)⟩
theorem keep_set {w W : World} {g : Nat} (h : KeepBut w W g none) (j : Nat) (u : Value) : KeepBut w (W.setCell ⟨g, j, none⟩ u) g none :=
  ⟨Nat.le_trans h.1 (by simp), fun i hi hg hr => (Below.heap_setCell W ⟨g, j, none⟩ u i hg).trans (h.2 i hi hg hr)⟩

theorem keep_new {w W : World} {g r : Nat} (h : KeepBut w W g none) (hr : w.heap.size = r) (j : Nat) (u : Value) : KeepBut w (W.setCell ⟨r, j, none⟩ u) g none :=
  ⟨Nat.le_trans h.1 (by simp), fun i hi hg hrr => (Below.heap_setCell W ⟨r, j, none⟩ u i (by show i ≠ r; omega)).trans (h.2 i hi hg hrr)⟩
/-- The result's cells are written. -/
theorem fin4 {w0 W W2 : World} {g r : Nat} {s : ByteArray} {i : Int} (HI : IsS46 w0 W2 g s i) (HB : Below w0.heap.size w0 W2) (HK : KeepBut W W2 g none) (hr : W.heap.size = r) (hB0 : w0.heap.size ≤ r) (hrg : r ≠ g) (u0 u1 u2 u3 : Value) :
    IsS46 w0 ((((W2.setCell ⟨r, 0, none⟩ u0).setCell ⟨r, 1, none⟩ u1).setCell ⟨r, 2, none⟩ u2).setCell ⟨r, 3, none⟩ u3) g s i ∧ Below w0.heap.size w0 ((((W2.setCell ⟨r, 0, none⟩ u0).setCell ⟨r, 1, none⟩ u1).setCell ⟨r, 2, none⟩ u2).setCell ⟨r, 3, none⟩ u3) ∧ KeepBut W ((((W2.setCell ⟨r, 0, none⟩ u0).setCell ⟨r, 1, none⟩ u1).setCell ⟨r, 2, none⟩ u2).setCell ⟨r, 3, none⟩ u3) g none :=
  ⟨(((HI.far (Ne.symm hrg) _).far (Ne.symm hrg) _).far (Ne.symm hrg) _).far (Ne.symm hrg) _, (((HB.setCell hB0 _).setCell hB0 _).setCell hB0 _).setCell hB0 _, keep_new (keep_new (keep_new (keep_new HK hr _ _) hr _ _) hr _ _) hr _ _⟩
theorem fin4r {W2 : World} {r : Nat} {a b c d : Value} (h : W2.heap[r]? = some (.cells #[a, b, c, d] 24 (0, 0))) (u0 u1 u2 u3 : Value) :
    ((((W2.setCell ⟨r, 0, none⟩ u0).setCell ⟨r, 1, none⟩ u1).setCell ⟨r, 2, none⟩ u2).setCell ⟨r, 3, none⟩ u3).heap[r]? = some (.cells #[u0, u1, u2, u3] 24 (0, 0)) :=
  blk_put (blk_put (blk_put (blk_put h 0 u0 rfl) 1 u1 rfl) 2 u2 rfl) 3 u3 rfl
theorem results_cell24 {fn : Func} {n : Nat} (h : fn.results = #[.cell n 24]) (tmps : Array Value) (w : World) (r : Nat) (u0 u1 u2 u3 : Value) (hn : tmps.getD n undef = .pointer (some ⟨r, 0, none⟩)) (hb : w.heap[r]? = some (.cells #[u0, u1, u2, u3] 24 (0, 0))) :
    (results fn tmps).run Tryd.prog w = .ok (.agg #[u0, u1, u2, u3]) w := by
  have hu24 := Tryd.underlying24
  have hn' : tmps[n]?.getD undef = .pointer (some ⟨r, 0, none⟩) := by rw [← hn]; simp
  have c0 := blk_cell hb 0
  have c1 := blk_cell hb 1
  have c2 := blk_cell hb 2
  have c3 := blk_cell hb 3
  simp at c0 c1 c2 c3
  simp [results, h, go_sem, hn, hn', c0, c1, c2, c3]
structure RdS (w0 W : World) (g r : Nat) (s : ByteArray) (i : Int) (cs : Array Value) (W2 : World) : Prop where
  i : IsS46 w0 W2 g s i
  b : Below w0.heap.size w0 W2
  k : KeepBut W W2 g none
  r : W2.heap[r]? = some (.cells cs 24 (0, 0))
theorem RdS.drawn {w0 W W2 W3 : World} {g r : Nat} {s : ByteArray} {i : Int} {cs : Array Value} (h : RdS w0 W g r s i cs W2) (hd : Drawn0 W2 W3) : RdS w0 W g r s i cs W3 := by
  obtain ⟨n, rfl⟩ := hd.out
  exact ⟨h.i.drewN n, pw_below_drewN h.b n, h.k, blk_drewN h.r n⟩
theorem keep_drewN {w W : World} {g : Nat} (h : KeepBut w W g none) (n : Nat) : KeepBut w (W.drewN n) g none := h
theorem blk4 {W : World} {r t : Nat} {a b c d : Value} (h : W.heap[r]? = some (.cells #[a, b, c, d] t (0, 0))) : (W.cell? ⟨r, 0, none⟩ = some a ∧ W.cell? ⟨r, 1, none⟩ = some b ∧ W.cell? ⟨r, 2, none⟩ = some c ∧ W.cell? ⟨r, 3, none⟩ = some d) ∧ (W.frozen? ⟨r, 0, none⟩ = false ∧ W.frozen? ⟨r, 1, none⟩ = false ∧ W.frozen? ⟨r, 2, none⟩ = false ∧ W.frozen? ⟨r, 3, none⟩ = false) :=
  ⟨⟨blk_cell h 0, blk_cell h 1, blk_cell h 2, blk_cell h 3⟩, blk_frozen h 0, blk_frozen h 1, blk_frozen h 2, blk_frozen h 3⟩
set_option maxRecDepth 100000 in
set_option maxHeartbeats 2000000 in
theorem atom_calls (g : Nat) (s : ByteArray) (hs : s.size ≤ 1000000000) (i : Nat) (hi : i ≤ s.size) (x : S24) (hx : atomU (pieceL (s.data.toList.drop i)) = some x) (w0 W : World) (hI : IsS46 w0 W g s i) (hB : Below w0.heap.size w0 W) :
    Calls Tryd.prog 31 #[.pointer (some ⟨g, 0, none⟩)] W fun e W' => e = .returned (.agg #[.int .i64 x.f0, .string x.f1, .slice none 0 0, .slice none 0 0]) ∧ IsS46 w0 W' g s ((i + (pieceL (s.data.toList.drop i)).length : Nat) : Int) ∧ Below w0.heap.size w0 W' ∧ KeepBut W W' g none := by
  have hu24 := Tryd.underlying24
  obtain ⟨p, hp⟩ : ∃ p, p = pieceL (s.data.toList.drop i) := ⟨_, rfl⟩
  have hpl : i + p.length ≤ s.size := by
    have := pieceL_le (s.data.toList.drop i)
    rw [← hp] at this
    simp at this
    omega
  obtain ⟨kp, hkp⟩ := (piece_ev s (by omega) i hi).rounds
  rw [← hp] at hkp hx
  rw [← hp]
  have hkn : ∀ o, numL p = some o → ∃ k, datum_numeral.f k (bU p) (i : Int) = some (ansN o) := fun o ho => (num_ev p (by omega) (i : Int) o ho).rounds
  have hname := fun w => name_calls (bU p) (by rw [bU_size]; omega) w
  rw [bytesOf_bU] at hname
  have HN := Aside0.mk hname
  have HKP := Aside0.mk hkp
  have HKN := Aside0.mk hkn
  have HIA := Aside0.mk (hI.alloc (.cells #[.int .i64 0, .string ⟨#[]⟩, .slice none 0 0, .slice none 0 0] 24))
  have HBA := Aside0.mk (below_alloc hB (.cells #[.int .i64 0, .string ⟨#[]⟩, .slice none 0 0, .slice none 0 0] 24))
  have HX := Aside0.mk hx
  clear hname hkp hkn hx hp
  go_enter Tryd.func31, Tryd.ntmps31
  go_wp2_with fail
  have hr0 := blk_new W (.cells #[.int .i64 0, .string ⟨#[]⟩, .slice none 0 0, .slice none 0 0] 24)
  have hk0 : KeepBut W (W.alloc (.cells #[.int .i64 0, .string ⟨#[]⟩, .slice none 0 0, .slice none 0 0] 24)) g none := keep_below (KeepBut.refl W g none) (below_alloc (Below.refl _ _) _)
  have hrg : W.heap.size ≠ g := by have := hI.lt; omega
  have hr0w : w0.heap.size ≤ W.heap.size := hB.size
  clear hI hB
  generalize W.alloc (.cells #[.int .i64 0, .string ⟨#[]⟩, .slice none 0 0, .slice none 0 0] 24) = W1 at *
  have HK0 := Aside0.mk hk0
  clear hk0
  generalize hrw : W.heap.size = r at *
  have HRW := Aside0.mk hrw
  have HR0W := Aside0.mk hr0w
  clear hrw hr0w
  have HR0 := Aside0.mk hr0
  clear hr0
  have n_ := Aside0.mk (HIA.out.drew)
  clear HIA
  have HI := n_
  clear n_
  have HB := Aside0.mk (below_drew1 HBA.out)
  have HK := Aside0.mk (keep_below HK0.out (below_drew1 (Below.refl _ _)))
  have HR := Aside0.mk (blk_drew HR0.out)
  clear HBA HK0 HR0
  go_region_held3 (fun w' => w'.cell? ⟨g, 1, none⟩ = some (.int .i64 (i : Int))) (first | exact HI.out.cells.2.1)
    (first
      | (go_at_call 44; refine (datum_reader_piece.calls kp g s (i : Int) (bU p) s (i : Int) w0 _ HI.out HB.out HKP.out).mono ?_; rintro e w2 ⟨rfl, hi2, hb2, hk2⟩; have hr2 := (hk2.2 r (blk_lt HR.out) hrg (by simp)).trans HR.out; have n1_ := Aside0.mk hi2; have n2_ := Aside0.mk hb2; have n3_ := Aside0.mk (keep_trans HK.out hk2); have n4_ := Aside0.mk hr2; clear HI HB HK HR hi2 hb2 hk2 hr2; have HI := n1_; have HB := n2_; have HK := n3_; have HR := n4_; clear n1_ n2_ n3_ n4_))
  obtain ⟨q, hq⟩ : ∃ q, q = bU p := ⟨_, rfl⟩
  have hqz : q.size = p.length := by rw [hq, bU_size]
  rw [← hq] at HN HKN
  rw [← hq]
  have hc1 := HI.out.cells.2.1
  have hf1 := HI.out.cells.2.2
  have hqs : i + q.size ≤ s.size := by omega
  have e1 : (i : Int) + (q.size : Int) = ((i + p.length : Nat) : Int) := by omega
  have HQ := Aside0.mk hq
  have HI2 := Aside0.mk (HI.out.set_1 ((i : Int) + (q.size : Int)))
  have HB2 := Aside0.mk (show Below w0.heap.size w0 (w2.setCell ⟨g, 1, none⟩ (.int .i64 ((i : Int) + (q.size : Int)))) from HB.out.setCell HI.out.ge _)
  have HK2 := Aside0.mk (keep_set HK.out 1 (.int .i64 ((i : Int) + (q.size : Int))))
  have HR2 := Aside0.mk (show (w2.setCell ⟨g, 1, none⟩ (.int .i64 ((i : Int) + (q.size : Int)))).heap[r]? = _ from (Below.heap_setCell w2 ⟨g, 1, none⟩ _ r hrg).trans HR.out)
  have HQZ := Aside0.mk hqz
  have HE1 := Aside0.mk e1
  clear hq hqz e1
  obtain ⟨⟨rc0, rc1, rc2, rc3⟩, rf0, rf1, rf2, rf3⟩ := blk4 HR2.out
  cases hnl : numL p with
  | none =>
    have := HX.out
    unfold atomU at this
    rw [hnl] at this
    cases this
  | some o =>
    obtain ⟨kn, hkn⟩ := HKN.out o hnl
    have hx := HX.out
    unfold atomU at hx
    rw [hnl] at hx
    cases o with
    | some t =>
      obtain rfl := Option.some.inj hx
      have HKn := Aside0.mk hkn
      clear hkn hx hnl HKN HX HN HKP
      go_wp2_with (go_at_call 45; refine (datum_numeral.calls kn q (i : Int) (bU t) true _ HKn.out).mono ?_; rintro e w3 ⟨rfl, hd⟩; obtain ⟨nd, rfl⟩ := hd.out; clear hd)
      obtain ⟨f1, f2, f3⟩ := fin4 (HI2.out.drewN nd) (pw_below_drewN HB2.out nd) (keep_drewN HK2.out nd) HRW.out HR0W.out hrg (.int .i64 1) (.string (bU t)) (.slice none 0 0) (.slice none 0 0)
      (try simp only [Exit.inBlock, Exit.then])
      refine bodyPost_ret (results_cell24 (n := 2) Tryd.results31 _ _ r _ _ _ _ rfl (fin4r (blk_drewN HR2.out nd) (.int .i64 1) (.string (bU t)) (.slice none 0 0) (.slice none 0 0))) rfl ?_

      exact ⟨by first | rfl | (rw [HQ.out]), f1.to (by have := HQZ.out; omega), f2, f3⟩
    | none =>
      obtain ⟨c1, hc1⟩ : ∃ c1, c1 = decide (p = [35, 116]) := ⟨_, rfl⟩
      have hql : q.toList = p := by rw [HQ.out, Lib.toList_data, bU_list]
      have HKn := Aside0.mk hkn
      clear hkn hnl HKN HX HKP
      replace hx : (if p = [35, 116] ∨ p = [35, 102] then some (⟨2, bU p, [], []⟩ : S24) else if nameL (natsU p) = true then some ⟨4, bU p, [], []⟩ else none) = some x := hx
      by_cases h1 : p = [35, 116] ∨ p = [35, 102]
      · rw [if_pos h1] at hx
        obtain rfl := Option.some.inj hx
        have ht : (q.toList == ([35, 116] : List UInt8)) = decide (p = [35, 116]) := by rw [hql]; by_cases h : p = [35, 116] <;> simp [h]
        clear hx HN hql
        by_cases h2 : p = [35, 116]
        · rw [decide_eq_true h2] at ht
          clear h2 h1 hc1
          go_wp2_with (go_at_call 45; refine (datum_numeral.calls kn q (i : Int) ⟨#[]⟩ false _ HKn.out).mono ?_; rintro e w3 ⟨rfl, hd⟩; obtain ⟨nd, rfl⟩ := hd.out; clear hd)
          obtain ⟨f1, f2, f3⟩ := fin4 (HI2.out.drewN nd) (pw_below_drewN HB2.out nd) (keep_drewN HK2.out nd) HRW.out HR0W.out hrg (.int .i64 2) (.string q) (.slice none 0 0) (.slice none 0 0)
          (try simp only [Exit.inBlock, Exit.then])
          refine bodyPost_ret (results_cell24 (n := 2) Tryd.results31 _ _ r _ _ _ _ rfl (fin4r (blk_drewN HR2.out nd) (.int .i64 2) (.string q) (.slice none 0 0) (.slice none 0 0))) rfl ?_
          exact ⟨by first | rfl | (rw [HQ.out]), f1.to (by have := HQZ.out; omega), f2, f3⟩
        · rw [decide_eq_false h2] at ht
          have h3 := h1.resolve_left h2
          have ht2 : (q.toList == ([35, 102] : List UInt8)) = true := by rw [HQ.out, Lib.toList_data, bU_list, h3]; rfl
          clear h2 h1 hc1 h3
          go_wp2_with (go_at_call 45; refine (datum_numeral.calls kn q (i : Int) ⟨#[]⟩ false _ HKn.out).mono ?_; rintro e w3 ⟨rfl, hd⟩; obtain ⟨nd, rfl⟩ := hd.out; clear hd)
          obtain ⟨f1, f2, f3⟩ := fin4 (HI2.out.drewN nd) (pw_below_drewN HB2.out nd) (keep_drewN HK2.out nd) HRW.out HR0W.out hrg (.int .i64 2) (.string q) (.slice none 0 0) (.slice none 0 0)
          (try simp only [Exit.inBlock, Exit.then])
          refine bodyPost_ret (results_cell24 (n := 2) Tryd.results31 _ _ r _ _ _ _ rfl (fin4r (blk_drewN HR2.out nd) (.int .i64 2) (.string q) (.slice none 0 0) (.slice none 0 0))) rfl ?_
          exact ⟨by first | rfl | (rw [HQ.out]), f1.to (by have := HQZ.out; omega), f2, f3⟩
      · rw [if_neg h1] at hx
        by_cases hnm : nameL (natsU p) = true
        · rw [if_pos hnm] at hx
          obtain rfl := Option.some.inj hx
          rw [show natsU p = p.map fun c => (c.toNat : Int) from rfl] at hnm
          rw [hnm] at HN
          have ht : (q.toList == ([35, 116] : List UInt8)) = false := by rw [hql]; exact beq_eq_false_iff_ne.mpr (fun h => h1 (.inl h))
          have ht2 : (q.toList == ([35, 102] : List UInt8)) = false := by rw [hql]; exact beq_eq_false_iff_ne.mpr (fun h => h1 (.inr h))
          clear hx hql hnm h1 hc1
          have HS2 := Aside0.mk (show RdS w0 W g r s ((i : Int) + (q.size : Int)) _ (w2.setCell ⟨g, 1, none⟩ (.int .i64 ((i : Int) + (q.size : Int)))) from ⟨HI2.out, HB2.out, HK2.out, HR2.out⟩)
          clear rc0 rc1 rc2 rc3 rf0 rf1 rf2 rf3
          go_wp2_with (first
            | (go_at_call 45; refine (datum_numeral.calls kn q (i : Int) ⟨#[]⟩ false _ HKn.out).mono ?_; rintro e w3 ⟨rfl, hd⟩; have HS3 := Aside0.mk (HS2.out.drawn hd); clear hd)
            | (go_at_call 24; refine (HN.out _).mono ?_; rintro e w4 ⟨rfl, hd⟩; have HS4 := Aside0.mk (HS3.out.drawn hd); obtain ⟨⟨rc0, rc1, rc2, rc3⟩, rf0, rf1, rf2, rf3⟩ := blk4 HS4.out.r; clear hd))
          obtain ⟨f1, f2, f3⟩ := fin4 HS4.out.i HS4.out.b HS4.out.k HRW.out HR0W.out hrg (.int .i64 4) (.string q) (.slice none 0 0) (.slice none 0 0)
          (try simp only [Exit.inBlock, Exit.then])
          refine bodyPost_ret (results_cell24 (n := 2) Tryd.results31 _ _ r _ _ _ _ rfl (fin4r HS4.out.r (.int .i64 4) (.string q) (.slice none 0 0) (.slice none 0 0))) rfl ?_
          exact ⟨by first | rfl | (rw [HQ.out]), f1.to (by have := HQZ.out; omega), f2, f3⟩
        · rw [if_neg hnm] at hx
          cases hx
end Go.Proofs.YtjphkokfleoinaaDoor.D
