
/- datum.write, the builder's String and datum.Print. -/
import Derived.Test.YtjphkokfleoinaaDoorDx3
import Derived.Test.YtjphkokfleoinaaDoorHBuilder
import Derived.Test.YtjphkokfleoinaaDoorHPut
import Derived.Test.YtjphkokfleoinaaDoorHIndex
import Derived.Test.YtjphkokfleoinaaDoorHDepth
import Derived.Test.YtjphkokfleoinaaDoorHShelf
namespace Go.Proofs.YtjphkokfleoinaaDoor.D
open Go.RowKit Go.Proofs.YtjphkokfleoinaaDoorW.PrintWords Go.Proofs.YtjphkokfleoinaaDoorW.PrintLast Go.Proofs.YtjphkokfleoinaaDoorW.PrintMore
attribute [local go_sem] max2_int min2_int max_two min_two max_three min_three max_four min_four
set_option linter.unusedVariables false
set_option linter.unusedSimpArgs false

/-- The builder holds ys; below and beside it nothing has changed. -/
structure St (w0 W0 : World) (b : Nat) (w : World) (ys : List UInt8) : Prop where
  bld : Lib.IsBuilderF 35 5 w0.heap.size b (Lib.byteCells ys) w
  bel : Below w0.heap.size w0 w
  oth : Lib.OthersKept 5 (some b) W0 w
theorem St.alloc {w0 W0 w : World} {b : Nat} {ys : List UInt8} (h : St w0 W0 b w ys) (o : Obj) : St w0 W0 b (w.alloc o) ys :=
  ⟨h.bld.elim (fun x => .inl (x.alloc o)) (fun x => .inr (x.alloc o)), below_alloc h.bel _, h.oth.alloc _⟩
theorem St.box {w0 W0 w : World} {b k : Nat} {ys : List UInt8} {cs : Array Value} (h : St w0 W0 b w ys) (hk : W0.heap[k]? = some (.cells cs 24 (0, 0))) (hkb : k ≠ b) : w.heap[k]? = some (.cells cs 24 (0, 0)) :=
  h.oth k _ hk (by simpa using hkb) (by rintro c fz e; cases e)
theorem St.byte {w0 W0 w : World} {b : Nat} {ys : List UInt8} (h : St w0 W0 b w ys) (c : UInt8) (hl : ys.length + 1 ≤ 140737488355328) :
    Calls Tryd.prog 18 #[.pointer (some ⟨b, 0, none⟩), .int .u8 c.toNat] w fun e w' => e = .returned .nilIface ∧ St w0 W0 b w' (ys ++ [c]) := by
  refine (writeByte_k w0.heap.size b _ c.toNat w h.bld (by rw [byteCells_length]; exact hl) h.bel.size).mono ?_
  rintro e w' ⟨rfl, h1, h2, h3⟩
  exact ⟨rfl, .inr (by rw [byteCells_append]; exact h1), h.bel.trans h2, h.oth.trans h3⟩
theorem St.str {w0 W0 w : World} {b : Nat} {ys : List UInt8} (h : St w0 W0 b w ys) (s : ByteArray) (hl : ys.length + s.data.toList.length ≤ 140737488355328) :
    Calls Tryd.prog 20 #[.pointer (some ⟨b, 0, none⟩), .string s] w fun e w' => e = .returned (.tuple #[.int .i64 s.size, .nilIface]) ∧ St w0 W0 b w' (ys ++ s.data.toList) := by
  refine (writeString_k w0.heap.size b _ s w h.bld (by rw [byteCells_length]; simpa using hl) h.bel.size).mono ?_
  rintro e w' ⟨rfl, h1, h2, h3⟩
  exact ⟨rfl, .inr (by rw [byteCells_append, ← Lib.strCells_eq]; exact h1), h.bel.trans h2, h.oth.trans h3⟩

theorem St.start {w0 W0 W : World} {b : Nat} {ys : List UInt8} (h : St w0 W0 b W ys) (o : Obj) : St w0 (W.alloc o) b (W.alloc o) ys :=
  ⟨(h.alloc o).bld, (h.alloc o).bel, Lib.OthersKept.refl _ _ _⟩
theorem St.back {w0 W0 W w' : World} {b : Nat} {ys zs : List UInt8} {o : Obj} (h : St w0 W0 b W ys) (k : St w0 (W.alloc o) b w' zs) : St w0 W0 b w' zs :=
  ⟨k.bld, k.bel, (h.oth.alloc o).trans k.oth⟩
theorem St.lt {w0 W0 W : World} {b : Nat} {ys : List UInt8} (h : St w0 W0 b W ys) : b < W.heap.size := h.bld.elim (fun x => x.lt) (fun x => x.lt)

theorem St.drewN {w0 W0 w : World} {b : Nat} {ys : List UInt8} (h : St w0 W0 b w ys) (n : Nat) : St w0 W0 b (w.drewN n) ys :=
  ⟨h.bld, pw_below_drewN h.bel _, h.oth⟩

theorem St.eq {w0 W0 w : World} {b : Nat} {ys zs : List UInt8} (h : St w0 W0 b w ys) (e : zs = ys) : St w0 W0 b w zs := by rw [e]; exact h

def PutAt (x : S24) : Prop := ∀ (w0 : World) (va : List Value) (W0 W : World) (b : Nat) (ys : List UInt8), k24.K w0 x va → St w0 W0 b W ys → ys.length + (putB x).length ≤ 140737488355328 →
  Calls Tryd.prog 9 #[.pointer (some ⟨b, 0, none⟩), .agg va.toArray] W fun e w' => e = .returned (.tuple #[]) ∧ St w0 W0 b w' (ys ++ putB x)

set_option maxHeartbeats 2000000 in
set_option maxRecDepth 100000 in
theorem put_string (t : ByteArray) (la ua : List S24) : PutAt ⟨3, t, la, ua⟩ := by
  intro w0 va W0 W b ys hK hS hl
  obtain ⟨A2, c2, A3, c3, rfl, l2, g2, l3, g3⟩ := k24_open hK
  have hu24 := Tryd.underlying24
  simp only [putB, if_true] at hl ⊢
  have hsz : t.data.toList.length = t.size := by simp
  have hge := escB_ge t.data.toList
  have hbne : W.heap.size ≠ b := by have := hS.lt; omega
  have HN := Aside0.mk hbne
  have HK := Aside0.mk (blk_new W (.cells #[.int .i64 3, .string t, .slice A2 la.length c2, .slice A3 ua.length c3] 24))
  have HS0 := Aside0.mk hS
  have HS := Aside0.mk (hS.start (.cells #[.int .i64 3, .string t, .slice A2 la.length c2, .slice A3 ua.length c3] 24))
  simp only [List.length_append, List.length_cons, List.length_nil] at hl
  have hts : t.size < 140737488355328 := by omega
  have HL := Aside0.mk hl
  have h34 : Aside0 (ys.length + 1 ≤ 140737488355328) := ⟨by omega⟩
  clear hS hK g2 g3 hl hge hbne
  show Calls Tryd.prog 9 #[.pointer (some ⟨b, 0, none⟩), .agg #[.int .i64 3, .string t, .slice A2 la.length c2, .slice A3 ua.length c3]] W _
  go_enter Tryd.func9, Tryd.ntmps9
  go_wp2_with fail
  refine (HS.out.byte 34 h34.out).mono ?_
  rintro e w1 ⟨rfl, hs1⟩
  have HS1 := Aside0.mk hs1
  have hx1 : w1.cell? ⟨W.heap.size, 1, none⟩ = some (.string t) := (blk_cell (hs1.box HK.out HN.out) 1).trans rfl
  clear hs1
  go_wp2_with fail
  clear hx1
  go_loopw [24] (fun v24 wr => ∃ i : Nat, v24 = .int .i64 i ∧ Aside0 (i ≤ t.size) ∧ Aside0 (St w0 (W.alloc (.cells #[.int .i64 3, .string t, .slice A2 la.length c2, .slice A3 ua.length c3] 24)) b wr (ys ++ [34] ++ escB (t.data.toList.take i)))) (fun v24 wr => t.size - (intOf v24).toNat)
  case atStart => exact ⟨0, rfl, ⟨Nat.zero_le _⟩, ⟨by simpa [escB] using HS1.out⟩⟩
  case round =>
    clear HS1
    obtain ⟨i, rfl, hi, HS1⟩ := hrel
    by_cases hlt : i < t.size
    · have hx1 : wr.cell? ⟨W.heap.size, 1, none⟩ = some (.string t) := (blk_cell (HS1.out.box HK.out HN.out) 1).trans rfl
      have hltb : decide ((i : Int) < (t.size : Int)) = true := decide_eq_true (by omega)
      have hcl : escB (t.data.toList.take (i + 1)) = escB (t.data.toList.take i) ++ escOne t[i] := by
        rw [escB_take _ _ (by rw [hsz]; exact hlt)]
        rfl
      have hpre := escB_pre t.data.toList (i + 1)
      rw [hcl] at hpre
      simp only [List.length_append] at hpre
      have HCL := Aside0.mk hcl
      have hidx : ∀ k : Int, Lib.indexByte [92, 34, 10, 9] t[i] = k → strings_IndexByte.f ⟨#[92, 34, 10, 9]⟩ (t[i].toNat : Int) = some k := fun k hk => by
        unfold strings_IndexByte.f
        rw [show ((t[i].toNat : Int)).toNat.toUInt8 = t[i] by simp, ← hk]
      rcases esc_index t[i] with ⟨h1, h2⟩ | ⟨k, hk4, h1, h2⟩
      · have hix := Aside0.mk (hidx _ h1)
        have H2 := Aside0.mk h2
        have hlen : Aside0 ((ys ++ [34] ++ escB (t.data.toList.take i)).length + 1 ≤ 140737488355328) := ⟨by
          have := HL.out
          rw [h2] at hpre
          simp only [List.length_append, List.length_cons, List.length_nil] at *
          omega⟩
        clear hidx h1 h2 hpre hcl
        go_wp2_with fail
        refine (strings_IndexByte.calls _ _ _ _ hix.out).mono ?_
        rintro e w2 ⟨rfl, ⟨nd, rfl⟩⟩
        go_wp2_with fail
        refine ((HS1.out.drewN nd).byte t[i] hlen.out).mono ?_
        rintro e w3 ⟨rfl, hs3⟩
        have HS3 : Aside0 (St w0 (W.alloc (.cells #[.int .i64 3, .string t, .slice A2 la.length c2, .slice A3 ua.length c3] 24)) b w3 (ys ++ [34] ++ escB (t.data.toList.take (i + 1)))) := ⟨by
          rw [HCL.out, H2.out, ← List.append_assoc]; exact hs3⟩
        clear hs3
        go_wp2_with fail
        go_roundw
        case rel => exact ⟨i + 1, by go_num, ⟨hlt⟩, HS3⟩
        case measure => simp [intOf]; omega
      · have hix := Aside0.mk (hidx _ h1)
        have H2 := Aside0.mk h2
        have hlen : Aside0 ((ys ++ [34] ++ escB (t.data.toList.take i)).length + 2 ≤ 140737488355328) := ⟨by
          have := HL.out
          rw [h2] at hpre
          simp only [List.length_append, List.length_cons, List.length_nil] at *
          omega⟩
        clear hidx h1 h2 hpre hcl
        go_wp2_with fail
        refine (strings_IndexByte.calls _ _ _ _ hix.out).mono ?_
        rintro e w2 ⟨rfl, ⟨nd, rfl⟩⟩
        have hk0 : decide ((k : Int) ≥ 0) = true := decide_eq_true (by omega)
        go_wp2_with fail
        refine ((HS1.out.drewN nd).byte 92 (by have := hlen.out; omega)).mono ?_
        rintro e w3 ⟨rfl, hs3⟩
        have HS3 := Aside0.mk hs3
        clear hs3
        have hgo : ∀ (j : Nat) (v : UInt8), k = j → v = ([92, 34, 110, 116] : List UInt8)[j]! → St w0 (W.alloc (.cells #[.int .i64 3, .string t, .slice A2 la.length c2, .slice A3 ua.length c3] 24)) b w3 ((ys ++ [34] ++ escB (t.data.toList.take i)) ++ [92]) → Calls Tryd.prog 18 #[.pointer (some ⟨b, 0, none⟩), .int .u8 v.toNat] w3 fun e w' => e = .returned .nilIface ∧ St w0 (W.alloc (.cells #[.int .i64 3, .string t, .slice A2 la.length c2, .slice A3 ua.length c3] 24)) b w' (ys ++ [34] ++ escB (t.data.toList.take (i + 1))) := by
          intro j v hj hv hs
          subst hj
          refine (hs.byte v (by have := hlen.out; simp only [List.length_append, List.length_cons, List.length_nil] at *; omega)).mono ?_
          rintro e w' ⟨rfl, h⟩
          refine ⟨rfl, ?_⟩
          rw [HCL.out, H2.out, ← hv]
          simpa using h
        have HGO := Aside0.mk hgo
        clear hgo
        match k, hk4 with
        | 0, _ =>
          go_wp2_with fail
          refine (HGO.out 0 _ rfl (by decide) HS3.out).mono ?_
          rintro e w4 ⟨rfl, hs4⟩
          have HS4 := Aside0.mk hs4
          clear hs4 HGO HS3 HS1
          go_wp2_with fail
          go_roundw
          case rel => exact ⟨i + 1, by go_num, ⟨hlt⟩, HS4⟩
          case measure => simp [intOf]; omega
        | 1, _ =>
          go_wp2_with fail
          refine (HGO.out 1 _ rfl (by decide) HS3.out).mono ?_
          rintro e w4 ⟨rfl, hs4⟩
          have HS4 := Aside0.mk hs4
          clear hs4 HGO HS3 HS1
          go_wp2_with fail
          go_roundw
          case rel => exact ⟨i + 1, by go_num, ⟨hlt⟩, HS4⟩
          case measure => simp [intOf]; omega
        | 2, _ =>
          go_wp2_with fail
          refine (HGO.out 2 _ rfl (by decide) HS3.out).mono ?_
          rintro e w4 ⟨rfl, hs4⟩
          have HS4 := Aside0.mk hs4
          clear hs4 HGO HS3 HS1
          go_wp2_with fail
          go_roundw
          case rel => exact ⟨i + 1, by go_num, ⟨hlt⟩, HS4⟩
          case measure => simp [intOf]; omega
        | 3, _ =>
          go_wp2_with fail
          refine (HGO.out 3 _ rfl (by decide) HS3.out).mono ?_
          rintro e w4 ⟨rfl, hs4⟩
          have HS4 := Aside0.mk hs4
          clear hs4 HGO HS3 HS1
          go_wp2_with fail
          go_roundw
          case rel => exact ⟨i + 1, by go_num, ⟨hlt⟩, HS4⟩
          case measure => simp [intOf]; omega
    · have hltb : decide ((i : Int) < (t.size : Int)) = false := decide_eq_false (by omega)
      have HS2 : Aside0 (St w0 (W.alloc (.cells #[.int .i64 3, .string t, .slice A2 la.length c2, .slice A3 ua.length c3] 24)) b wr (ys ++ [34] ++ escB t.data.toList)) := ⟨by
        have := HS1.out; rw [List.take_of_length_le (by rw [hsz]; omega)] at this; exact this⟩
      clear HS1
      go_wp2_with fail
      refine (HS2.out.byte 34 (by have := HL.out; simp only [List.length_append, List.length_cons, List.length_nil] at *; omega)).mono ?_
      rintro e w3 ⟨rfl, hs3⟩
      have HS3 := Aside0.mk hs3
      clear hs3
      go_wp2_with fail
      go_returns
      exact ⟨rfl, HS0.out.back (by simpa using HS3.out)⟩

set_option maxHeartbeats 2000000 in
set_option maxRecDepth 100000 in
theorem put_text (k : Int) (t : ByteArray) (la ua : List S24) (h3 : ¬ k = 3) (h6 : ¬ k = 6) (h5 : ¬ k = 5) : PutAt ⟨k, t, la, ua⟩ := by
  intro w0 va W0 W b ys hK hS hl
  obtain ⟨A2, c2, A3, c3, rfl, l2, g2, l3, g3⟩ := k24_open hK
  have hu24 := Tryd.underlying24
  simp only [putB, if_neg h3, if_neg h6, if_neg h5] at hl ⊢
  have HS0 := Aside0.mk hS
  have HS := Aside0.mk (hS.start (.cells #[.int .i64 k, .string t, .slice A2 la.length c2, .slice A3 ua.length c3] 24))
  have HL := Aside0.mk hl
  have k3 : (k == 3) = false := by simpa using h3
  have k6 : (k == 6) = false := by simpa using h6
  have k5 : (k == 5) = false := by simpa using h5
  clear hS hK g2 g3 hl h3 h6 h5
  show Calls Tryd.prog 9 #[.pointer (some ⟨b, 0, none⟩), .agg #[.int .i64 k, .string t, .slice A2 la.length c2, .slice A3 ua.length c3]] W _
  go_enter Tryd.func9, Tryd.ntmps9
  go_wp2_with fail
  refine (HS.out.str t HL.out).mono ?_
  rintro e w1 ⟨rfl, hs1⟩
  have HS1 := Aside0.mk hs1
  clear hs1
  go_wp2_with fail
  go_returns
  exact ⟨rfl, HS0.out.back HS1.out⟩

set_option maxHeartbeats 8000000 in
set_option maxRecDepth 100000 in
theorem put_rows (k : Int) (t : ByteArray) (la ua : List S24) (hk : k = 5 ∨ k = 6)
    (hL : ∀ i : Nat, i < la.length → PutAt (rd_T24 la i)) (hU : ∀ i : Nat, i < ua.length → PutAt (rd_T24 ua i)) : PutAt ⟨k, t, la, ua⟩ := by
  intro w0 va W0 W b ys hK hS hl
  obtain ⟨A2, c2, A3, c3, rfl, l2, g2, l3, g3⟩ := k24_open hK
  have hu24 := Tryd.underlying24
  have hml := Kd.C_max g2
  have hmu := Kd.C_max g3
  have HL := Aside0.mk hL
  have HU := Aside0.mk hU
  have G2 := Aside0.mk g2
  have G3 := Aside0.mk g3
  have hbne : W.heap.size ≠ b := by have := hS.lt; omega
  have HN := Aside0.mk hbne
  have HK := Aside0.mk (blk_new W (.cells #[.int .i64 k, .string t, .slice A2 la.length c2, .slice A3 ua.length c3] 24))
  have HS0 := Aside0.mk hS
  have HS := Aside0.mk (hS.start (.cells #[.int .i64 k, .string t, .slice A2 la.length c2, .slice A3 ua.length c3] 24))
  clear hS hK g2 g3 hbne hL hU l2 l3
  show Calls Tryd.prog 9 #[.pointer (some ⟨b, 0, none⟩), .agg #[.int .i64 k, .string t, .slice A2 la.length c2, .slice A3 ua.length c3]] W _
  have hpre : ∃ pre : List UInt8, Aside0 (putB ⟨k, t, la, ua⟩ = pre ++ [40] ++ putL true la ++ putT ua ++ [41]) ∧ (k = 5 ∧ pre = [] ∨ k = 6 ∧ pre = [35]) := by
    rcases hk with rfl | rfl
    · exact ⟨[], ⟨by simp [putB]⟩, .inl ⟨rfl, rfl⟩⟩
    · exact ⟨[35], ⟨by simp [putB]⟩, .inr ⟨rfl, rfl⟩⟩
  obtain ⟨pre, hpu, hkp⟩ := hpre
  rw [hpu.out] at hl
  simp only [List.length_append, List.length_cons, List.length_nil] at hl
  have HB := Aside0.mk hl
  clear hl hk
  rcases hkp with ⟨rfl, hp⟩ | ⟨rfl, hp⟩
  · have HQ : Aside0 (St w0 (W.alloc (.cells #[.int .i64 5, .string t, .slice A2 la.length c2, .slice A3 ua.length c3] 24)) b (W.alloc (.cells #[.int .i64 5, .string t, .slice A2 la.length c2, .slice A3 ua.length c3] 24)) (ys ++ pre)) := ⟨by rw [hp]; simpa using HS.out⟩
    clear HS hp
    go_enter Tryd.func9, Tryd.ntmps9
    go_wp2_with fail
    refine (HQ.out.byte 40 (by have := HB.out; simp only [List.length_append, List.length_cons, List.length_nil] at *; omega)).mono ?_
    rintro e w1 ⟨rfl, hs1⟩
    have HS1 : Aside0 (St w0 (W.alloc (.cells #[.int .i64 5, .string t, .slice A2 la.length c2, .slice A3 ua.length c3] 24)) b w1 (ys ++ (pre ++ [40]))) := ⟨by simpa using hs1⟩
    clear hs1 HQ
    have hx2 : w1.cell? ⟨W.heap.size, 2, none⟩ = some (.slice A2 la.length c2) := (blk_cell (HS1.out.box HK.out HN.out) 2).trans rfl
    go_wp2_with fail
    clear hx2
    go_loopw [56] (fun v56 wr => ∃ i : Nat, v56 = .int .i64 i ∧ Aside0 (i ≤ la.length) ∧ Aside0 (St w0 (W.alloc (.cells #[.int .i64 5, .string t, .slice A2 la.length c2, .slice A3 ua.length c3] 24)) b wr (ys ++ (pre ++ [40]) ++ putL true (la.take i)))) (fun v56 wr => la.length - (intOf v56).toNat)
    case atStart => exact ⟨0, rfl, ⟨Nat.zero_le _⟩, ⟨by simpa [putL] using HS1.out⟩⟩
    case round =>
      clear HS1
      obtain ⟨i, rfl, hi, HS1⟩ := hrel
      by_cases hlt : i < la.length
      · have hlt' : ((i : Int) < (la.length : Int)) := by omega
        have hltb : decide ((i : Int) < (la.length : Int)) = true := decide_eq_true hlt'
        obtain ⟨ad', B2', d2', B3', d3', e1', x0', x1', x2', x3', ll2', hi2', ll3', hi3'⟩ := at_T24 (Kd.C_below G2.out HS1.out.bel) i (by omega) (by omega)
        cases e1'
        simp only [Int.toNat_natCast] at x0' x1' x2' x3'
        have HKe := Aside0.mk (show ∃ va, k24.K w0 (rd_T24 la i) va ∧ va = [.int .i64 (rd_T24 la i).f0, .string (rd_T24 la i).f1, .slice B2' (rd_T24 la i).f2.length d2', .slice B3' (rd_T24 la i).f3.length d3'] from by
          obtain ⟨ad2, C2, f2, C3, f3, e2, y0, y1, y2, y3, mm2, ji2, mm3, ji3⟩ := at_T24 G2.out i (by omega) (by omega)
          cases e2
          simp only [Int.toNat_natCast] at y0 y1 y2 y3
          have z2 := (HS1.out.bel.cell (World.block_lt_of_cell? w0 _ y2)).trans y2
          have z3 := (HS1.out.bel.cell (World.block_lt_of_cell? w0 _ y3)).trans y3
          have e2 := z2.symm.trans x2'
          have e3 := z3.symm.trans x3'
          simp only [Option.some.injEq, Value.slice.injEq, true_and] at e2 e3
          obtain ⟨rfl, rfl⟩ := e2
          obtain ⟨rfl, rfl⟩ := e3
          exact ⟨_, k24_mk w0 (rd_T24 la i) mm2 ji2 mm3 ji3, rfl⟩)
        clear ll2' hi2' ll3' hi3'
        have hcl : putL true (la.take (i + 1)) = putL true (la.take i) ++ sep i ++ putB (rd_T24 la i) := by rw [putL_take la i hlt, rd_cast' hlt]
        have hpr := putL_pre la (i + 1)
        rw [hcl] at hpr
        simp only [List.length_append] at hpr
        have HPR := Aside0.mk hpr
        have HCL := Aside0.mk hcl
        clear hcl hpr
        rcases Nat.eq_zero_or_pos i with h0 | h0 <;> replace h0 := Aside0.mk h0
        · have hgt : decide ((i : Int) > 0) = false := decide_eq_false (by have := h0.out; omega)
          have hgt2 : decide (0 < i) = false := decide_eq_false (by have := h0.out; omega)
          have hgt3 : decide ((0 : Int) < (i : Int)) = false := decide_eq_false (by have := h0.out; omega)
          have hsp : Aside0 (sep i = []) := ⟨by rw [h0.out]; rfl⟩
          go_wp2_with fail
          clear x0' x1' x2' x3' hgt hgt2 hgt3
          obtain ⟨va, hK, rfl⟩ := HKe.out
          refine (HL.out i hlt w0 [_, _, _, _] _ _ b _ hK (HS1.out.alloc _) (by have := HB.out; have := HPR.out; rw [hsp.out] at *; simp only [List.length_append, List.length_cons, List.length_nil] at *; omega)).mono ?_
          rintro e w3 ⟨rfl, hs3⟩
          have HS3 := Aside0.mk (hs3.eq (zs := (ys ++ (pre ++ [40]) ++ putL true (la.take (i + 1)))) (by rw [HCL.out]; simp [hsp.out]))
          clear hs3 HS1 HKe
          go_wp2_with fail
          go_roundw
          case rel => exact ⟨i + 1, by go_num, ⟨hlt⟩, HS3⟩
          case measure => simp [intOf]; omega
        · have hgt : decide ((i : Int) > 0) = true := decide_eq_true (by have := h0.out; omega)
          have hgt2 : decide (0 < i) = true := decide_eq_true (by have := h0.out; omega)
          have hgt3 : decide ((0 : Int) < (i : Int)) = true := decide_eq_true (by have := h0.out; omega)
          have hsp : Aside0 (sep i = [32]) := ⟨if_neg (by have := h0.out; omega)⟩
          go_wp2_with fail
          clear x0' x1' x2' x3' hgt hgt2 hgt3
          refine ((HS1.out.start _).byte 32 (by have := HB.out; have := HPR.out; rw [hsp.out] at *; simp only [List.length_append, List.length_cons, List.length_nil] at *; omega)).mono ?_
          rintro e w2 ⟨rfl, hs2⟩
          have HX := Aside0.mk (hs2.box (blk_new wr _) (by have := HS1.out.lt; omega))
          have hx0 := (blk_cell HX.out 0).trans rfl
          have hx1 := (blk_cell HX.out 1).trans rfl
          have hx2 := (blk_cell HX.out 2).trans rfl
          have hx3 := (blk_cell HX.out 3).trans rfl
          have HS2 := Aside0.mk (HS1.out.back hs2)
          clear hs2
          go_wp2_with fail
          clear hx0 hx1 hx2 hx3
          obtain ⟨va, hK, rfl⟩ := HKe.out
          refine (HL.out i hlt w0 [_, _, _, _] _ _ b _ hK HS2.out (by have := HB.out; have := HPR.out; rw [hsp.out] at *; simp only [List.length_append, List.length_cons, List.length_nil] at *; omega)).mono ?_
          rintro e w3 ⟨rfl, hs3⟩
          have HS3 := Aside0.mk (hs3.eq (zs := (ys ++ (pre ++ [40]) ++ putL true (la.take (i + 1)))) (by rw [HCL.out]; simp [hsp.out]))
          clear hs3 HS1 HKe HS2 HX
          go_wp2_with fail
          go_roundw
          case rel => exact ⟨i + 1, by go_num, ⟨hlt⟩, HS3⟩
          case measure => simp [intOf]; omega
      · have hltb : decide ((i : Int) < (la.length : Int)) = false := decide_eq_false (by omega)
        have HS2 := Aside0.mk (HS1.out.eq (zs := ys ++ (pre ++ [40]) ++ putL true la) (by rw [List.take_of_length_le (show la.length ≤ i by omega)]))
        have hx3 : wr.cell? ⟨W.heap.size, 3, none⟩ = some (.slice A3 ua.length c3) := (blk_cell (HS1.out.box HK.out HN.out) 3).trans rfl
        clear HS1
        go_wp2_with fail
        clear hx3 hltb
        go_loopw [72] (fun v72 wq => ∃ i : Nat, v72 = .int .i64 i ∧ Aside0 (i ≤ ua.length) ∧ Aside0 (St w0 (W.alloc (.cells #[.int .i64 5, .string t, .slice A2 la.length c2, .slice A3 ua.length c3] 24)) b wq (ys ++ (pre ++ [40]) ++ putL true la ++ putT (ua.take i)))) (fun v72 wq => ua.length - (intOf v72).toNat)
        case atStart => exact ⟨0, rfl, ⟨Nat.zero_le _⟩, ⟨by simpa [putT] using HS2.out⟩⟩
        case round =>
          clear HS2 hi hlt
          obtain ⟨i, rfl, hi, HS1⟩ := hrel
          by_cases hlt : i < ua.length
          · have hlt' : ((i : Int) < (ua.length : Int)) := by omega
            have hltb : decide ((i : Int) < (ua.length : Int)) = true := decide_eq_true hlt'
            obtain ⟨ad', B2', d2', B3', d3', e1', x0', x1', x2', x3', ll2', hi2', ll3', hi3'⟩ := at_T24 (Kd.C_below G3.out HS1.out.bel) i (by omega) (by omega)
            cases e1'
            simp only [Int.toNat_natCast] at x0' x1' x2' x3'
            have HKe := Aside0.mk (show ∃ va, k24.K w0 (rd_T24 ua i) va ∧ va = [.int .i64 (rd_T24 ua i).f0, .string (rd_T24 ua i).f1, .slice B2' (rd_T24 ua i).f2.length d2', .slice B3' (rd_T24 ua i).f3.length d3'] from by
              obtain ⟨ad2, C2, f2, C3, f3, e2, y0, y1, y2, y3, mm2, ji2, mm3, ji3⟩ := at_T24 G3.out i (by omega) (by omega)
              cases e2
              simp only [Int.toNat_natCast] at y0 y1 y2 y3
              have z2 := (HS1.out.bel.cell (World.block_lt_of_cell? w0 _ y2)).trans y2
              have z3 := (HS1.out.bel.cell (World.block_lt_of_cell? w0 _ y3)).trans y3
              have e2 := z2.symm.trans x2'
              have e3 := z3.symm.trans x3'
              simp only [Option.some.injEq, Value.slice.injEq, true_and] at e2 e3
              obtain ⟨rfl, rfl⟩ := e2
              obtain ⟨rfl, rfl⟩ := e3
              exact ⟨_, k24_mk w0 (rd_T24 ua i) mm2 ji2 mm3 ji3, rfl⟩)
            clear ll2' hi2' ll3' hi3'
            have hcl : putT (ua.take (i + 1)) = putT (ua.take i) ++ [32, 46, 32] ++ putB (rd_T24 ua i) := by rw [putT_take ua i hlt, rd_cast' hlt]
            have hpr := putT_pre ua (i + 1)
            rw [hcl] at hpr
            simp only [List.length_append, List.length_cons, List.length_nil] at hpr
            have HPR := Aside0.mk hpr
            have HCL := Aside0.mk hcl
            clear hcl hpr
            go_wp2_with fail
            clear x0' x1' x2' x3'
            refine ((HS1.out.start _).str ⟨#[32, 46, 32]⟩ (by have := HB.out; have := HPR.out; simp only [List.length_append, List.length_cons, List.length_nil] at *; omega)).mono ?_
            rintro e w2 ⟨rfl, hs2⟩
            have HX := Aside0.mk (hs2.box (blk_new wr _) (by have := HS1.out.lt; omega))
            have hx0 := (blk_cell HX.out 0).trans rfl
            have hx1 := (blk_cell HX.out 1).trans rfl
            have hx2 := (blk_cell HX.out 2).trans rfl
            have hx3 := (blk_cell HX.out 3).trans rfl
            have HS2 := Aside0.mk (HS1.out.back hs2)
            clear hs2
            go_wp2_with fail
            clear hx0 hx1 hx2 hx3
            obtain ⟨va, hK, rfl⟩ := HKe.out
            refine (HU.out i hlt w0 [_, _, _, _] _ _ b _ hK HS2.out (by have := HB.out; have := HPR.out; simp only [List.length_append, List.length_cons, List.length_nil] at *; omega)).mono ?_
            rintro e w3 ⟨rfl, hs3⟩
            have HS3 := Aside0.mk (hs3.eq (zs := (ys ++ (pre ++ [40]) ++ putL true la ++ putT (ua.take (i + 1)))) (by rw [HCL.out]; simp))
            clear hs3 HS1 HKe HS2 HX
            go_wp2_with fail
            go_roundw
            case rel => exact ⟨i + 1, by go_num, ⟨hlt⟩, HS3⟩
            case measure => simp [intOf]; omega
          · have hltb : decide ((i : Int) < (ua.length : Int)) = false := decide_eq_false (by omega)
            have HS2 := Aside0.mk (HS1.out.eq (zs := ys ++ (pre ++ [40]) ++ putL true la ++ putT ua) (by rw [List.take_of_length_le (show ua.length ≤ i by omega)]))
            clear HS1
            go_wp2_with fail
            refine (HS2.out.byte 41 (by have := HB.out; simp only [List.length_append, List.length_cons, List.length_nil] at *; omega)).mono ?_
            rintro e w3 ⟨rfl, hs3⟩
            have HS3 := Aside0.mk (hs3.eq (zs := ys ++ putB ⟨5, t, la, ua⟩) (by rw [hpu.out]; simp))
            clear hs3 HS2
            go_wp2_with fail
            go_returns
            exact ⟨rfl, HS0.out.back HS3.out⟩
  · go_enter Tryd.func9, Tryd.ntmps9
    go_wp2_with fail
    refine (HS.out.byte 35 (by have := HB.out; rw [hp] at this; simp only [List.length_append, List.length_cons, List.length_nil] at *; omega)).mono ?_
    rintro e wq ⟨rfl, hq⟩
    have HQ : Aside0 (St w0 (W.alloc (.cells #[.int .i64 6, .string t, .slice A2 la.length c2, .slice A3 ua.length c3] 24)) b wq (ys ++ pre)) := ⟨by rw [hp]; exact hq⟩
    clear HS hp hq
    go_wp2_with fail
    refine (HQ.out.byte 40 (by have := HB.out; simp only [List.length_append, List.length_cons, List.length_nil] at *; omega)).mono ?_
    rintro e w1 ⟨rfl, hs1⟩
    have HS1 : Aside0 (St w0 (W.alloc (.cells #[.int .i64 6, .string t, .slice A2 la.length c2, .slice A3 ua.length c3] 24)) b w1 (ys ++ (pre ++ [40]))) := ⟨by simpa using hs1⟩
    clear hs1 HQ
    have hx2 : w1.cell? ⟨W.heap.size, 2, none⟩ = some (.slice A2 la.length c2) := (blk_cell (HS1.out.box HK.out HN.out) 2).trans rfl
    go_wp2_with fail
    clear hx2
    go_loopw [56] (fun v56 wr => ∃ i : Nat, v56 = .int .i64 i ∧ Aside0 (i ≤ la.length) ∧ Aside0 (St w0 (W.alloc (.cells #[.int .i64 6, .string t, .slice A2 la.length c2, .slice A3 ua.length c3] 24)) b wr (ys ++ (pre ++ [40]) ++ putL true (la.take i)))) (fun v56 wr => la.length - (intOf v56).toNat)
    case atStart => exact ⟨0, rfl, ⟨Nat.zero_le _⟩, ⟨by simpa [putL] using HS1.out⟩⟩
    case round =>
      clear HS1
      obtain ⟨i, rfl, hi, HS1⟩ := hrel
      by_cases hlt : i < la.length
      · have hlt' : ((i : Int) < (la.length : Int)) := by omega
        have hltb : decide ((i : Int) < (la.length : Int)) = true := decide_eq_true hlt'
        obtain ⟨ad', B2', d2', B3', d3', e1', x0', x1', x2', x3', ll2', hi2', ll3', hi3'⟩ := at_T24 (Kd.C_below G2.out HS1.out.bel) i (by omega) (by omega)
        cases e1'
        simp only [Int.toNat_natCast] at x0' x1' x2' x3'
        have HKe := Aside0.mk (show ∃ va, k24.K w0 (rd_T24 la i) va ∧ va = [.int .i64 (rd_T24 la i).f0, .string (rd_T24 la i).f1, .slice B2' (rd_T24 la i).f2.length d2', .slice B3' (rd_T24 la i).f3.length d3'] from by
          obtain ⟨ad2, C2, f2, C3, f3, e2, y0, y1, y2, y3, mm2, ji2, mm3, ji3⟩ := at_T24 G2.out i (by omega) (by omega)
          cases e2
          simp only [Int.toNat_natCast] at y0 y1 y2 y3
          have z2 := (HS1.out.bel.cell (World.block_lt_of_cell? w0 _ y2)).trans y2
          have z3 := (HS1.out.bel.cell (World.block_lt_of_cell? w0 _ y3)).trans y3
          have e2 := z2.symm.trans x2'
          have e3 := z3.symm.trans x3'
          simp only [Option.some.injEq, Value.slice.injEq, true_and] at e2 e3
          obtain ⟨rfl, rfl⟩ := e2
          obtain ⟨rfl, rfl⟩ := e3
          exact ⟨_, k24_mk w0 (rd_T24 la i) mm2 ji2 mm3 ji3, rfl⟩)
        clear ll2' hi2' ll3' hi3'
        have hcl : putL true (la.take (i + 1)) = putL true (la.take i) ++ sep i ++ putB (rd_T24 la i) := by rw [putL_take la i hlt, rd_cast' hlt]
        have hpr := putL_pre la (i + 1)
        rw [hcl] at hpr
        simp only [List.length_append] at hpr
        have HPR := Aside0.mk hpr
        have HCL := Aside0.mk hcl
        clear hcl hpr
        rcases Nat.eq_zero_or_pos i with h0 | h0 <;> replace h0 := Aside0.mk h0
        · have hgt : decide ((i : Int) > 0) = false := decide_eq_false (by have := h0.out; omega)
          have hgt2 : decide (0 < i) = false := decide_eq_false (by have := h0.out; omega)
          have hgt3 : decide ((0 : Int) < (i : Int)) = false := decide_eq_false (by have := h0.out; omega)
          have hsp : Aside0 (sep i = []) := ⟨by rw [h0.out]; rfl⟩
          go_wp2_with fail
          clear x0' x1' x2' x3' hgt hgt2 hgt3
          obtain ⟨va, hK, rfl⟩ := HKe.out
          refine (HL.out i hlt w0 [_, _, _, _] _ _ b _ hK (HS1.out.alloc _) (by have := HB.out; have := HPR.out; rw [hsp.out] at *; simp only [List.length_append, List.length_cons, List.length_nil] at *; omega)).mono ?_
          rintro e w3 ⟨rfl, hs3⟩
          have HS3 := Aside0.mk (hs3.eq (zs := (ys ++ (pre ++ [40]) ++ putL true (la.take (i + 1)))) (by rw [HCL.out]; simp [hsp.out]))
          clear hs3 HS1 HKe
          go_wp2_with fail
          go_roundw
          case rel => exact ⟨i + 1, by go_num, ⟨hlt⟩, HS3⟩
          case measure => simp [intOf]; omega
        · have hgt : decide ((i : Int) > 0) = true := decide_eq_true (by have := h0.out; omega)
          have hgt2 : decide (0 < i) = true := decide_eq_true (by have := h0.out; omega)
          have hgt3 : decide ((0 : Int) < (i : Int)) = true := decide_eq_true (by have := h0.out; omega)
          have hsp : Aside0 (sep i = [32]) := ⟨if_neg (by have := h0.out; omega)⟩
          go_wp2_with fail
          clear x0' x1' x2' x3' hgt hgt2 hgt3
          refine ((HS1.out.start _).byte 32 (by have := HB.out; have := HPR.out; rw [hsp.out] at *; simp only [List.length_append, List.length_cons, List.length_nil] at *; omega)).mono ?_
          rintro e w2 ⟨rfl, hs2⟩
          have HX := Aside0.mk (hs2.box (blk_new wr _) (by have := HS1.out.lt; omega))
          have hx0 := (blk_cell HX.out 0).trans rfl
          have hx1 := (blk_cell HX.out 1).trans rfl
          have hx2 := (blk_cell HX.out 2).trans rfl
          have hx3 := (blk_cell HX.out 3).trans rfl
          have HS2 := Aside0.mk (HS1.out.back hs2)
          clear hs2
          go_wp2_with fail
          clear hx0 hx1 hx2 hx3
          obtain ⟨va, hK, rfl⟩ := HKe.out
          refine (HL.out i hlt w0 [_, _, _, _] _ _ b _ hK HS2.out (by have := HB.out; have := HPR.out; rw [hsp.out] at *; simp only [List.length_append, List.length_cons, List.length_nil] at *; omega)).mono ?_
          rintro e w3 ⟨rfl, hs3⟩
          have HS3 := Aside0.mk (hs3.eq (zs := (ys ++ (pre ++ [40]) ++ putL true (la.take (i + 1)))) (by rw [HCL.out]; simp [hsp.out]))
          clear hs3 HS1 HKe HS2 HX
          go_wp2_with fail
          go_roundw
          case rel => exact ⟨i + 1, by go_num, ⟨hlt⟩, HS3⟩
          case measure => simp [intOf]; omega
      · have hltb : decide ((i : Int) < (la.length : Int)) = false := decide_eq_false (by omega)
        have HS2 := Aside0.mk (HS1.out.eq (zs := ys ++ (pre ++ [40]) ++ putL true la) (by rw [List.take_of_length_le (show la.length ≤ i by omega)]))
        have hx3 : wr.cell? ⟨W.heap.size, 3, none⟩ = some (.slice A3 ua.length c3) := (blk_cell (HS1.out.box HK.out HN.out) 3).trans rfl
        clear HS1
        go_wp2_with fail
        clear hx3 hltb
        go_loopw [72] (fun v72 wq => ∃ i : Nat, v72 = .int .i64 i ∧ Aside0 (i ≤ ua.length) ∧ Aside0 (St w0 (W.alloc (.cells #[.int .i64 6, .string t, .slice A2 la.length c2, .slice A3 ua.length c3] 24)) b wq (ys ++ (pre ++ [40]) ++ putL true la ++ putT (ua.take i)))) (fun v72 wq => ua.length - (intOf v72).toNat)
        case atStart => exact ⟨0, rfl, ⟨Nat.zero_le _⟩, ⟨by simpa [putT] using HS2.out⟩⟩
        case round =>
          clear HS2 hi hlt
          obtain ⟨i, rfl, hi, HS1⟩ := hrel
          by_cases hlt : i < ua.length
          · have hlt' : ((i : Int) < (ua.length : Int)) := by omega
            have hltb : decide ((i : Int) < (ua.length : Int)) = true := decide_eq_true hlt'
            obtain ⟨ad', B2', d2', B3', d3', e1', x0', x1', x2', x3', ll2', hi2', ll3', hi3'⟩ := at_T24 (Kd.C_below G3.out HS1.out.bel) i (by omega) (by omega)
            cases e1'
            simp only [Int.toNat_natCast] at x0' x1' x2' x3'
            have HKe := Aside0.mk (show ∃ va, k24.K w0 (rd_T24 ua i) va ∧ va = [.int .i64 (rd_T24 ua i).f0, .string (rd_T24 ua i).f1, .slice B2' (rd_T24 ua i).f2.length d2', .slice B3' (rd_T24 ua i).f3.length d3'] from by
              obtain ⟨ad2, C2, f2, C3, f3, e2, y0, y1, y2, y3, mm2, ji2, mm3, ji3⟩ := at_T24 G3.out i (by omega) (by omega)
              cases e2
              simp only [Int.toNat_natCast] at y0 y1 y2 y3
              have z2 := (HS1.out.bel.cell (World.block_lt_of_cell? w0 _ y2)).trans y2
              have z3 := (HS1.out.bel.cell (World.block_lt_of_cell? w0 _ y3)).trans y3
              have e2 := z2.symm.trans x2'
              have e3 := z3.symm.trans x3'
              simp only [Option.some.injEq, Value.slice.injEq, true_and] at e2 e3
              obtain ⟨rfl, rfl⟩ := e2
              obtain ⟨rfl, rfl⟩ := e3
              exact ⟨_, k24_mk w0 (rd_T24 ua i) mm2 ji2 mm3 ji3, rfl⟩)
            clear ll2' hi2' ll3' hi3'
            have hcl : putT (ua.take (i + 1)) = putT (ua.take i) ++ [32, 46, 32] ++ putB (rd_T24 ua i) := by rw [putT_take ua i hlt, rd_cast' hlt]
            have hpr := putT_pre ua (i + 1)
            rw [hcl] at hpr
            simp only [List.length_append, List.length_cons, List.length_nil] at hpr
            have HPR := Aside0.mk hpr
            have HCL := Aside0.mk hcl
            clear hcl hpr
            go_wp2_with fail
            clear x0' x1' x2' x3'
            refine ((HS1.out.start _).str ⟨#[32, 46, 32]⟩ (by have := HB.out; have := HPR.out; simp only [List.length_append, List.length_cons, List.length_nil] at *; omega)).mono ?_
            rintro e w2 ⟨rfl, hs2⟩
            have HX := Aside0.mk (hs2.box (blk_new wr _) (by have := HS1.out.lt; omega))
            have hx0 := (blk_cell HX.out 0).trans rfl
            have hx1 := (blk_cell HX.out 1).trans rfl
            have hx2 := (blk_cell HX.out 2).trans rfl
            have hx3 := (blk_cell HX.out 3).trans rfl
            have HS2 := Aside0.mk (HS1.out.back hs2)
            clear hs2
            go_wp2_with fail
            clear hx0 hx1 hx2 hx3
            obtain ⟨va, hK, rfl⟩ := HKe.out
            refine (HU.out i hlt w0 [_, _, _, _] _ _ b _ hK HS2.out (by have := HB.out; have := HPR.out; simp only [List.length_append, List.length_cons, List.length_nil] at *; omega)).mono ?_
            rintro e w3 ⟨rfl, hs3⟩
            have HS3 := Aside0.mk (hs3.eq (zs := (ys ++ (pre ++ [40]) ++ putL true la ++ putT (ua.take (i + 1)))) (by rw [HCL.out]; simp))
            clear hs3 HS1 HKe HS2 HX
            go_wp2_with fail
            go_roundw
            case rel => exact ⟨i + 1, by go_num, ⟨hlt⟩, HS3⟩
            case measure => simp [intOf]; omega
          · have hltb : decide ((i : Int) < (ua.length : Int)) = false := decide_eq_false (by omega)
            have HS2 := Aside0.mk (HS1.out.eq (zs := ys ++ (pre ++ [40]) ++ putL true la ++ putT ua) (by rw [List.take_of_length_le (show ua.length ≤ i by omega)]))
            clear HS1
            go_wp2_with fail
            refine (HS2.out.byte 41 (by have := HB.out; simp only [List.length_append, List.length_cons, List.length_nil] at *; omega)).mono ?_
            rintro e w3 ⟨rfl, hs3⟩
            have HS3 := Aside0.mk (hs3.eq (zs := ys ++ putB ⟨6, t, la, ua⟩) (by rw [hpu.out]; simp))
            clear hs3 HS2
            go_wp2_with fail
            go_returns
            exact ⟨rfl, HS0.out.back HS3.out⟩

theorem put_at (n : Nat) : ∀ x : S24, SizeOf.sizeOf x ≤ n → PutAt x := by
  induction n with
  | zero => intro a h; cases a; simp at h
  | succ n ih =>
    intro x hn
    obtain ⟨k, t, la, ua⟩ := x
    have hL : ∀ i : Nat, i < la.length → PutAt (rd_T24 la i) := fun i h => ih _ (by
      have := List.sizeOf_lt_of_mem (rd_mem h)
      simp only [S24.mk.sizeOf_spec] at hn
      omega)
    have hU : ∀ i : Nat, i < ua.length → PutAt (rd_T24 ua i) := fun i h => ih _ (by
      have := List.sizeOf_lt_of_mem (rd_mem h)
      simp only [S24.mk.sizeOf_spec] at hn
      omega)
    by_cases h3 : k = 3
    · subst h3; exact put_string t la ua
    · by_cases h6 : k = 6
      · exact put_rows k t la ua (.inr h6) hL hU
      · by_cases h5 : k = 5
        · exact put_rows k t la ua (.inl h5) hL hU
        · exact put_text k t la ua h3 h6 h5

def datum_PrintB (x : S24) : ByteArray := if rightB x 64 = true then ⟨(putB x).toArray⟩ else ⟨#[]⟩
set_option maxHeartbeats 2000000 in
set_option maxRecDepth 100000 in
theorem datum_Print_any (x : S24) (hfit : Fit x) (hlen : (putB x).length ≤ 140737488355328) (va : List Value) (w : World) (hK : k24.K w x va) : Calls Tryd.prog 4 #[.agg va.toArray] w fun e w' => e = .returned (.string (datum_PrintB x)) ∧ Below w.heap.size w w' := by
  obtain ⟨A2, c2, A3, c3, rfl, l2, g2, l3, g3⟩ := k24_open hK
  have hu24 := Tryd.underlying24
  have HK := Aside0.mk hK
  have G2 := Aside0.mk g2
  have G3 := Aside0.mk g3
  have L2 := Aside0.mk l2
  have L3 := Aside0.mk l3
  have HLN := Aside0.mk hlen
  clear hK g2 g3 l2 l3 hlen
  show Calls Tryd.prog 4 #[.agg #[.int .i64 x.f0, .string x.f1, .slice A2 x.f2.length c2, .slice A3 x.f3.length c3]] w _
  have hcan : Aside0 (datum_Can.f x.f0 x.f1 x.f2 x.f3 = some (rightB x 64)) := ⟨by
    obtain ⟨k, t, l, u⟩ := x
    simp only [datum_Can.f, datum_right.f]
    rw [if_pos ⟨of_fit hfit, by omega, by omega⟩]
    rfl⟩
  have HB0 := Aside0.mk (below_alloc (Below.refl w.heap.size w) (.cells #[.int .i64 x.f0, .string x.f1, .slice A2 x.f2.length c2, .slice A3 x.f3.length c3] 24))
  go_enter Tryd.func4, Tryd.ntmps4
  go_wp2_with fail
  refine (datum_Can.calls x.f0 x.f1 _ _ x.f2 _ _ x.f3 _ _ (Kd.C_alloc G2.out _) L2.out (Kd.C_alloc G3.out _) L3.out hcan.out).mono ?_
  rintro e w1 ⟨rfl, hb⟩
  have HB := Aside0.mk (below_step HB0.out hb)
  have HX := Aside0.mk (blk_below (blk_new w _) hb)
  clear hb
  cases hr : rightB x 64 with
  | false =>
    have hz : Aside0 (datum_PrintB x = ⟨#[]⟩) := ⟨by unfold datum_PrintB; rw [hr, if_neg (by simp)]⟩
    clear hr
    go_wp2_with fail
    go_ret
    exact ⟨by rw [hz.out]; rfl, HB.out⟩
  | true =>
    have hz : Aside0 (datum_PrintB x = ⟨(putB x).toArray⟩) := ⟨by unfold datum_PrintB; rw [hr, if_pos rfl]⟩
    clear hr
    have hx0 : ∀ o : Obj, (w1.alloc o).cell? ⟨w.heap.size, 0, none⟩ = some (.int .i64 x.f0) := fun o => (blk_cell (blk_alloc HX.out o) 0).trans rfl
    have hx1 : ∀ o : Obj, (w1.alloc o).cell? ⟨w.heap.size, 1, none⟩ = some (.string x.f1) := fun o => (blk_cell (blk_alloc HX.out o) 1).trans rfl
    have hx2 : ∀ o : Obj, (w1.alloc o).cell? ⟨w.heap.size, 2, none⟩ = some (.slice A2 x.f2.length c2) := fun o => (blk_cell (blk_alloc HX.out o) 2).trans rfl
    have hx3 : ∀ o : Obj, (w1.alloc o).cell? ⟨w.heap.size, 3, none⟩ = some (.slice A3 x.f3.length c3) := fun o => (blk_cell (blk_alloc HX.out o) 3).trans rfl
    go_wp2_with fail
    clear hx0 hx1 hx2 hx3
    have HS : Aside0 (St w1 (w1.alloc (.cells #[.pointer none, .slice none 0 0] 35)) w1.heap.size (w1.alloc (.cells #[.pointer none, .slice none 0 0] 35)) []) := ⟨⟨.of (Lib.fresh_isBuilder 35 5 w1), below_alloc (Below.refl _ _) _, Lib.OthersKept.refl _ _ _⟩⟩
    refine (put_at _ x (Nat.le_refl _) w1 [_, _, _, _] _ _ w1.heap.size [] (k24.K_below HB.out HK.out) HS.out (by simpa using HLN.out)).mono ?_
    rintro e w2 ⟨rfl, hs⟩
    have HS2 := Aside0.mk hs
    clear hs HS
    go_wp2_with fail
    refine (Tryd.Builder_String_any_k w1.heap.size w1.heap.size (putB x) _ (by simpa using HS2.out.bld) HS2.out.bel.size).mono ?_
    rintro e w3 ⟨rfl, -, hb3, -⟩
    have HB3 := Aside0.mk (below_step HB.out (HS2.out.bel.trans hb3))
    clear hb3
    go_wp2_with fail
    go_ret
    exact ⟨by rw [hz.out]; rfl, HB3.out⟩

def datum_Print.f (a0_0 : Int) (a0_1 : ByteArray) (l0_2 : List (S24)) (l0_3 : List (S24)) : Option (ByteArray) :=
  if fitB ⟨a0_0, a0_1, l0_2, l0_3⟩ = true ∧ (putB ⟨a0_0, a0_1, l0_2, l0_3⟩).length ≤ 140737488355328 then some (datum_PrintB ⟨a0_0, a0_1, l0_2, l0_3⟩) else none
end Go.Proofs.YtjphkokfleoinaaDoor.D
