
/- The reader's items, walked. -/
import Derived.Test.YtjphkokfleoinaaDoorHRDat
namespace Go.Proofs.YtjphkokfleoinaaDoor.D
open Go.RowKit Go.Proofs.YtjphkokfleoinaaDoorW.PrintWords Go.Proofs.YtjphkokfleoinaaDoorW.PrintLast Go.Proofs.YtjphkokfleoinaaDoorW.PrintMore
set_option linter.unusedVariables false
set_option linter.unusedSimpArgs false

theorem atom_ne {p : List UInt8} {x : S24} (h : atomU p = some x) : p ≠ [] := by
  rintro rfl
  revert h
  simp [atomU, numL, nameL, natsU]
theorem dat_lt : ∀ (n dep : Nat) (r : List UInt8) (o : S24 × List UInt8), datF n dep r = some o → o.2.length < r.length
  | 0, dep, r, o, h => by simp [datF] at h
  | n + 1, dep, r0, o, h => by
    have hs := sk_le r0
    rw [datF] at h
    cases hsk : sk r0 with
    | nil => rw [hsk] at h; simp at h
    | cons c r =>
      rw [hsk] at h hs
      simp only at h
      simp only [List.length_cons] at hs
      by_cases h1 : c = 34
      · rw [if_pos h1] at h
        obtain ⟨o1, h2, rfl⟩ := Option.map_eq_some_iff.1 h
        have := (txtF_le _ r [] o1 (Nat.le_refl _) h2).2.1
        simp only
        omega
      · rw [if_neg h1] at h
        by_cases h2 : c ≠ 40 ∧ c ≠ 39 ∧ vecU (c :: r) = false
        · rw [if_pos h2] at h
          obtain ⟨o1, h3, rfl⟩ := Option.map_eq_some_iff.1 h
          have h4 : 0 < (pieceL (c :: r)).length := List.length_pos_iff.2 (atom_ne h3)
          have h5 := pieceL_le (c :: r)
          simp only [List.length_drop, List.length_cons] at *
          omega
        · rw [if_neg h2] at h
          by_cases h3 : 64 ≤ dep
          · rw [if_pos h3] at h; cases h
          · rw [if_neg h3] at h
            by_cases h4 : c = 39
            · rw [if_pos h4] at h; cases h
            · rw [if_neg h4] at h
              by_cases h5 : vecU (c :: r) = true
              · rw [if_pos h5] at h
                obtain ⟨o1, h6, rfl⟩ := Option.map_eq_some_iff.1 h
                have := ((dat_it_suf n).2 _ _ _ _ _ _ _ h6).length_le
                simp only [List.length_drop] at this
                simp only
                omega
              · rw [if_neg h5] at h
                obtain ⟨o1, h6, h7⟩ := Option.bind_eq_some_iff.1 h
                split at h7
                · cases h7
                · obtain rfl := Option.some.inj h7
                  have := ((dat_it_suf n).2 _ _ _ _ _ _ _ h6).length_le
                  simp only
                  omega
abbrev z24v : Value := .agg #[.int .i64 0, .string ⟨#[]⟩, .slice none 0 0, .slice none 0 0]
theorem infoD : (Tryd.prog.info? 24).map (fun i => (i.zero, i.size, i.bytes)) = some (some z24v, 4, 72) := by kernel_rfl

def TailIs (W w : World) (v : Value) (t : List S24) : Prop := (t = [] ∧ v = .slice none 0 0) ∨ (t.length = 1 ∧ Kd.V k24 24 w 0 (fun k => W.heap.size ≤ k) v t)
theorem TailIs.step {W w w1 : World} {v : Value} {t : List S24} (h : TailIs W w v t) (hm : ∀ k, W.heap.size ≤ k → k < w.heap.size → w1.heap[k]? = w.heap[k]?) : TailIs W w1 v t :=
  h.elim .inl (fun x => .inr ⟨x.1, Kd.V_step x.2 hm⟩)
/-- The state of items between two rounds. -/
structure ItS (w0 W : World) (g : Nat) (s : ByteArray) (j : Nat) (l t : List S24) (dot : Bool) (v8 v9 : Value) (w : World) : Prop where
  row : Kd.N k24 24 w W.heap.size (fun k => W.heap.size ≤ k) v8 l
  tail : TailIs W w v9 t
  dott : dot = false → t = []
  st : IsS46 w0 w g s (j : Int)
  b0 : Below w0.heap.size w0 w
  kp : KeepBut W w g none
  hg : g < W.heap.size
  ll : l.length ≤ j
theorem ItS.keep {w0 W w w1 : World} {g : Nat} {s : ByteArray} {j j1 : Nat} {l t : List S24} {dot : Bool} {v8 v9 : Value} (h : ItS w0 W g s j l t dot v8 v9 w) (h1 : IsS46 w0 w1 g s (j1 : Int)) (h2 : Below w0.heap.size w0 w1) (h3 : KeepBut w w1 g none) (hj : j ≤ j1) : ItS w0 W g s j1 l t dot v8 v9 w1 :=
  ⟨Kd.N_keep h.row h3 (fun k hk => by have := h.hg; omega), h.tail.step (fun k hk hlt => h3.2 k hlt (by have := h.hg; omega) (by simp)), h.dott, h1, h2, keep_trans h.kp h3, h.hg, Nat.le_trans h.ll hj⟩
theorem ItS.drewN {w0 W w : World} {g : Nat} {s : ByteArray} {j : Nat} {l t : List S24} {dot : Bool} {v8 v9 : Value} (h : ItS w0 W g s j l t dot v8 v9 w) (n : Nat) : ItS w0 W g s j l t dot v8 v9 (w.drewN n) :=
  h.keep (h.st.drewN n) (pw_below_drewN h.b0 n) (KeepBut.refl _ _ _) (Nat.le_refl _)
theorem ItS.set {w0 W w : World} {g : Nat} {s : ByteArray} {j : Nat} {l t : List S24} {dot : Bool} {v8 v9 : Value} (h : ItS w0 W g s j l t dot v8 v9 w) : ItS w0 W g s (j + 1) l t dot v8 v9 (w.setCell ⟨g, 1, none⟩ (.int .i64 ((j : Int) + 1))) :=
  h.keep ((h.st.set_1 _).to (by omega)) (h.b0.setCell h.st.ge _) (keep_set (KeepBut.refl _ _ _) 1 _) (Nat.le_succ _)
theorem ItS.form {w0 W w : World} {g : Nat} {s : ByteArray} {j : Nat} {l t : List S24} {dot : Bool} {v8 v9 : Value} (h : ItS w0 W g s j l t dot v8 v9 w) : ∃ A c A2 c2, v8 = .slice A l.length c ∧ v9 = .slice A2 t.length c2 ∧ l.length ≤ c ∧ Kd.F k24 w (fun k => W.heap.size ≤ k) A l.length l ∧ t.length ≤ c2 ∧ Kd.F k24 w (fun k => W.heap.size ≤ k) A2 t.length t := by
  obtain ⟨A, c, rfl, hl, hf⟩ := Kd.N_V (base' := 0) h.row
  rcases h.tail with ⟨rfl, rfl⟩ | ⟨-, A2, c2, rfl, hl2, hf2⟩
  · exact ⟨A, c, none, 0, rfl, rfl, hl, hf, Nat.le_refl _, Kd.F_nil _ _ _⟩
  · exact ⟨A, c, A2, c2, rfl, rfl, hl, hf, hl2, hf2⟩

theorem ItS.app {w0 W w w1 : World} {g : Nat} {s : ByteArray} {j : Nat} {l t : List S24} {dot : Bool} {v8 v9 : Value} (h : ItS w0 W g s j l t dot v8 v9 w) (hb : Below W.heap.size w w1) : IsS46 w0 w1 g s (j : Int) ∧ Below w0.heap.size w0 w1 ∧ KeepBut W w1 g none :=
  ⟨⟨(hb.block g h.hg).trans h.st.1, h.st.2⟩, h.b0.trans (hb.mono (by have := h.st.2; have := h.hg; omega)), ⟨Nat.le_trans h.kp.1 hb.size, fun i hi hg hr => (hb.block i hi).trans (h.kp.2 i hi hg hr)⟩⟩
set_option maxRecDepth 100000 in
set_option maxHeartbeats 8000000 in
theorem items_at (n : Nat) (hda : ∀ m, m ≤ n → DatAt m) : ItAt (n + 1) := by
  intro dep g v s i l tl rest w0 W hs hi hd hx hI hB
  have hu24 := Tryd.underlying24
  have HX0 := Aside0.mk hx
  have HI0 := Aside0.mk (show ItS w0 W g s i [] [] false (.slice none 0 0) (.slice none 0 0) W from ⟨Kd.N_nil _ _ _ _ _, .inl ⟨rfl, rfl⟩, fun _ => rfl, hI, hB, KeepBut.refl _ _ _, hI.lt, by simp⟩)
  have HDA := Aside0.mk hda
  clear hx hI hB hda
  go_enter Tryd.func33, Tryd.ntmps33
  go_wp2_with fail
  go_loopg [8, 9, 10] (n + 1) (fun kq v8 v9 v10 w' => ∃ (j : Nat) (l1 t1 : List S24) (dot : Bool), v10 = .bool dot ∧ Aside0 (itF kq dep v (s.data.toList.drop j) l1 t1 dot = some (l, tl, rest)) ∧ Aside0 (kq ≤ n + 1 ∧ j ≤ s.size) ∧ Aside0 (ItS w0 W g s j l1 t1 dot v8 v9 w'))
  case atStart => exact ⟨i, [], [], false, rfl, HX0, ⟨Nat.le_refl _, hi⟩, HI0⟩
  case round =>
    clear HX0 HI0
    obtain ⟨j0, l1, t1, dot, rfl, HX, HK, HS⟩ := hrel
    cases gk with
    | zero => exact absurd HX.out (by simp [itF])
    | succ k =>
      obtain ⟨hk1, hj0⟩ := HK.out
      obtain ⟨ks, hks⟩ := (skip_ev s (by omega) j0 hj0).rounds
      have hskl := sk_le (s.data.toList.drop j0)
      have hsks := suf_drop ((sk_suf (s.data.toList.drop j0)).trans (List.drop_suffix _ _))
      have hL : s.data.toList.length = s.size := by simp
      have hLd : (s.data.toList.drop j0).length = s.size - j0 := by simp
      rw [hL] at hsks
      have hx := HX.out
      rw [itF] at hx
      cases hsk : sk (s.data.toList.drop j0) with
      | nil => rw [hsk] at hx; simp at hx
      | cons c r =>
        rw [hsk] at hx hskl hsks hks
        simp only at hx
        simp only [List.length_cons] at hskl hsks hks
        obtain ⟨j, hj⟩ : ∃ j, j = s.size - (r.length + 1) := ⟨_, rfl⟩
        rw [← hj] at hks hsks
        have hjs : j < s.size := by omega
        have hjj : j0 ≤ j := by omega
        have hrl : r.length + 1 = s.size - j := by omega
        obtain ⟨c', r', hdr, hbt, hnx⟩ := bt_drop s j hjs
        rw [← hsks] at hdr
        simp only [List.cons.injEq] at hdr
        obtain ⟨rfl, rfl⟩ := hdr
        have HKS := Aside0.mk hks
        have hpk := peek_at s j hjs
        rw [hbt] at hpk
        have HPK := Aside0.mk hpk
        obtain ⟨kp, hkp⟩ := (piece_ev s (by omega) j (by omega)).rounds
        rw [← hsks] at hkp
        have HKP := Aside0.mk hkp
        have HX1 := Aside0.mk hx
        have HNX := Aside0.mk hnx
        have HDR := Aside0.mk hsks
        have HRL := Aside0.mk hrl
        have HJJ := Aside0.mk hjj
        clear hks hx hpk hnx hbt hj hsks hskl hkp hrl HX HK hL hLd
        go_wp2_with (go_at_call 15; refine (datum_reader_skip.calls ks g s (j0 : Int) s (j : Int) w0 _ HS.out.st HS.out.b0 HKS.out).mono ?_; rintro e w1 ⟨rfl, h1, h2, h3⟩; have HS1 := Aside0.mk (HS.out.keep h1 h2 h3 HJJ.out); clear h1 h2 h3)
        obtain ⟨x0, x1, x2⟩ := HS1.out.st.cells
        have hge : decide ((s.size : Int) ≤ (j : Int)) = false := decide_eq_false (by omega)
        have hgn : decide (s.size ≤ j) = false := decide_eq_false (by omega)
        have hgc : ¬ ((j : Int) ≥ (s.size : Int)) := by omega
        repeat (go_quiet (fail); try go_wp2_with fail)
        refine (datum_reader_peek.calls g s (j : Int) (c.toNat : Int) s (j : Int) w0 _ (HS1.out.drewN _).st (HS1.out.drewN _).b0 HPK.out).mono ?_
        rintro e w2 ⟨rfl, h1, h2, h3⟩
        have HS2 := Aside0.mk ((HS1.out.drewN _).keep h1 h2 h3 (Nat.le_refl _))
        clear h1 h2 h3 x0 x1 x2 HS HS1 HKS HPK hge hgn hgc
        obtain ⟨x0, x1, x2⟩ := HS2.out.st.cells
        have hx := HX1.out
        by_cases c41 : c = 41
        · rw [if_pos c41] at hx
          have b41 : ((c.toNat : Int) == 41) = true := by rw [c41]; decide
          by_cases hdt : dot = true ∧ t1 = []
          · rw [if_pos hdt] at hx; cases hx
          · rw [if_neg hdt] at hx
            simp only [Option.some.injEq, Prod.mk.injEq] at hx
            obtain ⟨rfl, rfl, rfl⟩ := hx
            obtain ⟨A, cA, A2, c2, rfl, rfl, hl, hf, hl2, hf2⟩ := HS2.out.form
            have HF := Aside0.mk (And.intro (And.intro hl hf) (And.intro hl2 hf2))
            have HS3 := Aside0.mk HS2.out.set
            have htl : dot = true → ((t1.length : Int) == 0) = false := fun h => beq_eq_false_iff_ne.mpr (by
              have : t1 ≠ [] := fun h0 => hdt ⟨h, h0⟩
              have := List.length_pos_iff.2 this
              omega)
            have hFG : g < W.heap.size := HS2.out.hg
            have HFS := Aside0.mk (show (l1.length ≤ cA ∧ Kd.F k24 (w2.setCell ⟨g, 1, none⟩ (.int .i64 ((j : Int) + 1))) (fun k => W.heap.size ≤ k) A l1.length l1) ∧ (t1.length ≤ c2 ∧ Kd.F k24 (w2.setCell ⟨g, 1, none⟩ (.int .i64 ((j : Int) + 1))) (fun k => W.heap.size ≤ k) A2 t1.length t1) from
              ⟨⟨hl, Kd.F_far hf (fun k hk => by show k ≠ g; omega) _⟩, ⟨hl2, Kd.F_far hf2 (fun k hk => by show k ≠ g; omega) _⟩⟩)
            clear hl hf hl2 hf2 hdt c41
            cases dot with
            | true =>
              have htl' := htl rfl
              clear htl
              go_wp2_with fail
              go_ret2
              exact ⟨A, cA, A2, c2, rfl, HFS.out.1, HFS.out.2, HS3.out.st.to (by have := HRL.out; omega), HS3.out.b0, HS3.out.kp⟩
            | false =>
              clear htl
              go_wp2_with fail
              go_ret2
              exact ⟨A, cA, A2, c2, rfl, HFS.out.1, HFS.out.2, HS3.out.st.to (by have := HRL.out; omega), HS3.out.b0, HS3.out.kp⟩
        · rw [if_neg c41] at hx
          have b41 : ((c.toNat : Int) == 41) = false := beq_eq_false_iff_ne.mpr (fun h => c41 ((u8_eq c 41 (by decide)).1 h))
          obtain ⟨q, hq⟩ : ∃ q : ByteArray, q = ⟨(pieceL (c :: r)).toArray⟩ := ⟨_, rfl⟩
          have hql : q.toList = pieceL (c :: r) := by rw [hq, Lib.toList_data]
          rw [← hq] at HKP
          obtain ⟨A, cA, A2, c2, rfl, rfl, hl, -, -, -⟩ := HS2.out.form
          by_cases hp : pieceL (c :: r) = [46]
          · rw [if_pos hp] at hx
            by_cases hbad : v = true ∨ dot = true ∨ l1 = []
            · rw [if_pos hbad] at hx; cases hx
            · rw [if_neg hbad] at hx
              have hv : v = false := by cases v with
                | false => rfl
                | true => exact absurd (.inl rfl) hbad
              have hd2 : dot = false := by cases dot with
                | false => rfl
                | true => exact absurd (.inr (.inl rfl)) hbad
              have hln : ((l1.length : Int) == 0) = false := beq_eq_false_iff_ne.mpr (by
                have : l1 ≠ [] := fun h => hbad (.inr (.inr h))
                have := List.length_pos_iff.2 this
                omega)
              subst hv hd2
              have hpe : (q.toList == ([46] : List UInt8)) = true := by rw [hql, hp]; rfl
              have HXX := Aside0.mk hx
              clear hx hbad hp hql hq hl c41
              go_wp2_with fail
              refine (datum_reader_piece.calls kp g s (j : Int) q s (j : Int) w0 w2 HS2.out.st HS2.out.b0 HKP.out).mono ?_
              rintro e w3 ⟨rfl, h1, h2, h3⟩
              have HS3 := Aside0.mk (HS2.out.keep h1 h2 h3 (Nat.le_refl _))
              clear h1 h2 h3 x0 x1 x2
              obtain ⟨x0, x1, x2⟩ := HS3.out.st.cells
              have HS4 := Aside0.mk HS3.out.set
              go_wp2_with fail
              go_roundg k
              case measure => omega
              case rel => exact ⟨j + 1, l1, t1, true, rfl, ⟨by rw [HNX.out]; exact HXX.out⟩, ⟨by omega⟩, ⟨⟨HS4.out.row, HS4.out.tail, fun h => (by cases h), HS4.out.st, HS4.out.b0, HS4.out.kp, HS4.out.hg, HS4.out.ll⟩⟩⟩
          · rw [if_neg hp] at hx
            by_cases ht1 : t1.length = 1
            · rw [if_pos ht1] at hx; cases hx
            · rw [if_neg ht1] at hx
              have hpe : (q.toList == ([46] : List UInt8)) = false := by rw [hql]; exact beq_eq_false_iff_ne.mpr hp
              have htb : ((t1.length : Int) == 1) = false := beq_eq_false_iff_ne.mpr (by omega)
              rw [HDR.out] at hx
              cases dot with
              | false =>
                rw [if_neg (by simp)] at hx
                obtain ⟨o, ho, hx2⟩ := Option.bind_eq_some_iff.1 hx
                obtain ⟨x, rest'⟩ := o
                have hlt := dat_lt _ _ _ _ ho
                have hsf := suf_drop (((dat_it_suf k).1 _ _ _ ho).trans (List.drop_suffix j _))
                have hL : s.data.toList.length = s.size := by simp
                rw [hL] at hsf
                simp only [List.length_drop, hL] at hlt
                simp only at hsf hx2
                have HXX := Aside0.mk hx2
                have HHO := Aside0.mk ho
                have HSF := Aside0.mk hsf
                have HLT := Aside0.mk hlt
                clear hx hx2 ho hsf hlt hp hql hq hl c41 hL
                go_wp2_with fail
                refine (datum_reader_piece.calls kp g s (j : Int) q s (j : Int) w0 w2 HS2.out.st HS2.out.b0 HKP.out).mono ?_
                rintro e w3 ⟨rfl, h1, h2, h3⟩
                have HS3 := Aside0.mk (HS2.out.keep h1 h2 h3 (Nat.le_refl _))
                clear h1 h2 h3 x0 x1 x2
                go_wp2_with fail
                refine (HDA.out k (by omega) dep g s j x rest' w0 w3 hs (by omega) hd HHO.out HS3.out.st HS3.out.b0).mono ?_
                rintro e w4 ⟨B2, d2, B3, d3, rfl, hfk, h1, h2, h3⟩
                have HS4 := Aside0.mk (HS3.out.keep h1 h2 h3 (by have := HLT.out; omega))
                have HFK := Aside0.mk hfk
                have hsz3 := h3.1
                have hrow3 := HS3.out.row
                have hlt3 := Kd.N_lt hrow3
                have hszW := HS3.out.kp.1
                have HLT3 := Aside0.mk hlt3
                clear h1 h2 h3 hfk hrow3 hlt3
                go_wp2_with (first | ((with_reducible refine gate_builtin (b := .append) (xs := #[.tmp 13, .tmp 17]) rfl ?_); at_builtin; refine Kd.N_append k24 (w0 := w4) W.heap.size rfl (.tmp 13) (.tmp 17) 22 24 z24v 72 rfl Tryd.underlying22 infoD rfl (by decide) (by decide) (.slice A l1.length cA) l1 x [.int .i64 x.f0, .string x.f1, .slice B2 x.f2.length d2, .slice B3 x.f3.length d3] (fun k => W.heap.size ≤ k) (fun k => w3.heap.size ≤ k) rfl rfl HFK.out ?aK ?aF HS4.out.row (Below.refl _ _) ?aS ?aL ?_; (case aK => exact fun k hk => ⟨by omega, fun h => by have := HLT3.out k h.symm; omega⟩); (case aF => exact fun k hk => by omega); (case aS => omega); (case aL => have := HS4.out.ll; omega); intro v1 w5 ho hb hg hat))
                obtain ⟨a1, a2, a3⟩ := HS4.out.app hb
                go_roundg k
                case measure => omega
                case rel => exact ⟨s.size - rest'.length, l1 ++ [x], t1, false, rfl, ⟨by rw [← HSF.out]; exact HXX.out⟩, ⟨by omega⟩, ⟨⟨ho, HS4.out.tail.elim .inl (fun h => absurd (HS4.out.dott rfl) (fun h0 => by rw [h0] at h; exact absurd h.1 (by simp))), fun _ => HS4.out.dott rfl, a1, a2, a3, HS4.out.hg, by have := HS4.out.ll; have := HS3.out.ll; have := HLT.out; simp only [List.length_append, List.length_cons, List.length_nil]; omega⟩⟩⟩
              | true =>
                rw [if_pos rfl] at hx
                obtain ⟨o, ho, hx2⟩ := Option.bind_eq_some_iff.1 hx
                obtain ⟨x, rest'⟩ := o
                have hlt := dat_lt _ _ _ _ ho
                have hsf := suf_drop (((dat_it_suf k).1 _ _ _ ho).trans (List.drop_suffix j _))
                have hL : s.data.toList.length = s.size := by simp
                rw [hL] at hsf
                simp only [List.length_drop, hL] at hlt
                simp only at hsf hx2
                have htn : t1 = [] ∧ Value.slice A2 t1.length c2 = .slice none 0 0 := HS2.out.tail.elim id (fun h => absurd h.1 ht1)
                obtain ⟨rfl, hv9⟩ := htn
                rw [hv9] at HS2
                rw [show Value.slice A2 ([] : List S24).length c2 = .slice none 0 0 from hv9]
                have HXX := Aside0.mk hx2
                have HHO := Aside0.mk ho
                have HSF := Aside0.mk hsf
                have HLT := Aside0.mk hlt
                clear hx hx2 ho hsf hlt hp hql hq hl c41 hL hv9 htb ht1
                go_wp2_with fail
                refine (datum_reader_piece.calls kp g s (j : Int) q s (j : Int) w0 w2 HS2.out.st HS2.out.b0 HKP.out).mono ?_
                rintro e w3 ⟨rfl, h1, h2, h3⟩
                have HS3 := Aside0.mk (HS2.out.keep h1 h2 h3 (Nat.le_refl _))
                clear h1 h2 h3 x0 x1 x2
                go_wp2_with fail
                refine (HDA.out k (by omega) dep g s j x rest' w0 w3 hs (by omega) hd HHO.out HS3.out.st HS3.out.b0).mono ?_
                rintro e w4 ⟨B2, d2, B3, d3, rfl, hfk, h1, h2, h3⟩
                have HS4 := Aside0.mk (HS3.out.keep h1 h2 h3 (by have := HLT.out; omega))
                have HFK := Aside0.mk hfk
                have hsz3 := h3.1
                have hszW := HS3.out.kp.1
                clear h1 h2 h3 hfk
                go_wp2_with (first | ((with_reducible refine gate_builtin (b := .append) (xs := #[.tmp 96, .tmp 100]) rfl ?_); at_builtin; refine Kd.N_append k24 (w0 := w4) W.heap.size rfl (.tmp 96) (.tmp 100) 22 24 z24v 72 rfl Tryd.underlying22 infoD rfl (by decide) (by decide) (.slice none 0 0) [] x [.int .i64 x.f0, .string x.f1, .slice B2 x.f2.length d2, .slice B3 x.f3.length d3] (fun k => W.heap.size ≤ k) (fun k => w3.heap.size ≤ k) rfl rfl HFK.out ?aK ?aF (Kd.N_nil _ _ _ _ _) (Below.refl _ _) ?aS ?aL ?_; (case aK => exact fun k hk => ⟨by omega, by simp [Value.ownBlock]⟩); (case aF => exact fun k hk => by omega); (case aS => omega); (case aL => simp); intro v1 w5 ho hb hg hat))
                obtain ⟨a1, a2, a3⟩ := HS4.out.app hb
                go_roundg k
                case measure => omega
                case rel => exact ⟨s.size - rest'.length, l1, [x], true, rfl, ⟨by rw [← HSF.out]; exact HXX.out⟩, ⟨by omega⟩, ⟨⟨Kd.N_grown HS4.out.row hg (fun k _ => by simp [Value.ownBlock]), .inr ⟨rfl, Kd.N_V ho⟩, fun h => (by cases h), a1, a2, a3, HS4.out.hg, HS4.out.ll⟩⟩⟩
theorem reads_at : ∀ n : Nat, DatAt n ∧ ItAt n
  | 0 => ⟨fun dep g s i x rest w0 W _ _ _ h => by simp [datF] at h, fun dep g v s i l tl rest w0 W _ _ _ h => by simp [itF] at h⟩
  | n + 1 => by
    have hall : ∀ m, m ≤ n → DatAt m := fun m hm => (reads_at m).1
    exact ⟨datum_at n (reads_at n).2, items_at n hall⟩
end Go.Proofs.YtjphkokfleoinaaDoor.D
