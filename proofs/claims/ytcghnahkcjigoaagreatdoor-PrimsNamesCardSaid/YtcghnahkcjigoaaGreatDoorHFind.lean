/- prims.Name, slices.IndexFunc, prims.Find. -/
import Derived.Test.YtcghnahkcjigoaaGreatDoorHPrims
namespace Go.Proofs.YtcghnahkcjigoaaGreatDoor.D
open Go.RowKit Go.Proofs.YtcghnahkcjigoaaGreatDoorW.PrintWords Go.Proofs.YtcghnahkcjigoaaGreatDoorW.PrintLast Go.Proofs.YtcghnahkcjigoaaGreatDoorW.PrintMore
set_option linter.unusedVariables false
set_option linter.unusedSimpArgs false

theorem field0 (nm : ByteArray) (a b : Int) (f : Value) (w : World) : (Instr.field 28 (.agg #[.string nm, .int .i64 a, .int .i64 b, f]) 0).run Tryz.prog w = .ok (.string nm) w := by
  simp [Instr.field, run_underlying Tryz.underlying28, run_underlying Tryz.underlying9, go_sem, part, asAgg]
def prims_Name.f (n : Int) : Option ByteArray := some (if 0 ≤ n ∧ n < 47 then NM.getD n.toNat ByteArray.empty else ByteArray.empty)
set_option maxRecDepth 100000 in
theorem prims_Name.calls (a0 : Int) (r : ByteArray) (w : World) (h : prims_Name.f a0 = some r) : Calls Tryz.prog 6 #[.int .i64 a0] w fun e w' => e = .returned (.string r) ∧ Below w.heap.size w w' := by
  unfold prims_Name.f at h
  obtain rfl := Option.some.inj h
  by_cases hn : 0 ≤ a0 ∧ a0 < 47
  · rw [if_pos hn]
    obtain ⟨n, rfl⟩ := Int.eq_ofNat_of_zero_le hn.1
    have hn47 : n < 47 := by omega
    obtain ⟨a, b, f, hix⟩ := prim_at hn47
    rw [show (n : Int).toNat = n from rfl]
    generalize NM.getD n ByteArray.empty = nm at *
    have b1 : decide ((n : Int) < 0) = false := decide_eq_false (by omega)
    have b2 : decide ((47 : Int) ≤ (n : Int)) = false := decide_eq_false (by omega)
    clear hn
    have hu28 := Tryz.underlying28
    go_enter Tryz.func6, Tryz.ntmps6
    go_wp2_with fail
    refine (prims_calls _).mono ?_
    rintro e w1 ⟨rfl, hb⟩
    have HB := Aside0.mk hb
    clear hb
    generalize PV.toArray = pv at *
    have hfd := field0 nm a b f
    go_wp2_with fail
    go_returns
    exact ⟨rfl, HB.out⟩
  · rw [if_neg hn]
    by_cases h0 : a0 < 0
    · have b1 : decide (a0 < 0) = true := decide_eq_true h0
      have hu28 := Tryz.underlying28
      go_enter Tryz.func6, Tryz.ntmps6
      go_wp2_with fail
      go_returns
      exact ⟨rfl, Below.refl _ _⟩
    · have b1 : decide (a0 < 0) = false := decide_eq_false h0
      have b2 : decide ((47 : Int) ≤ a0) = true := decide_eq_true (by omega)
      have hu28 := Tryz.underlying28
      go_enter Tryz.func6, Tryz.ntmps6
      go_wp2_with fail
      go_returns
      exact ⟨rfl, Below.refl _ _⟩

set_option maxRecDepth 100000 in
theorem does_calls {w : World} {q : Nat} {s nm : ByteArray} {a b : Int} {f : Value} (hq : w.heap[q]? = some (.cells #[.string s] 9 (0, 0))) : Calls Tryz.prog 10 #[.agg #[.string nm, .int .i64 a, .int .i64 b, f], .pointer (some ⟨q, 0, none⟩)] w fun e w' => e = .returned (.bool (nm.toList == s.toList)) ∧ Below w.heap.size w w' := by
  have hc : ∀ o : Obj, (w.alloc o).cell? ⟨q, 0, none⟩ = some (.string s) := fun o => (blk_cell (blk_alloc hq o) 0).trans rfl
  clear hq
  have hu28 := Tryz.underlying28
  go_enter Tryz.func10, Tryz.ntmps10
  go_wp2_with fail
  go_returns
  exact ⟨rfl, (Below.refl _ w).alloc (Nat.le_refl _) _⟩
/-- The first of some names that is a name. -/
def findF (s : ByteArray) : List ByteArray → Nat → Int
  | [], _ => -1
  | x :: l, i => if x.toList = s.toList then (i : Int) else findF s l (i + 1)
theorem findF_step (s : ByteArray) (l : List ByteArray) (i j : Nat) (h : j < l.length) : findF s (l.drop j) (i + j) = if (l.getD j ByteArray.empty).toList = s.toList then ((i + j : Nat) : Int) else findF s (l.drop (j + 1)) (i + (j + 1)) := by
  rw [List.drop_eq_getElem_cons h]
  simp [findF, List.getD, h, Nat.add_assoc]
theorem findF_end (s : ByteArray) (l : List ByteArray) (i : Nat) : findF s (l.drop l.length) i = -1 := by simp [findF]
theorem findF_lo (s : ByteArray) : ∀ (l : List ByteArray) (i : Nat), -1 ≤ findF s l i
  | [], _ => Int.le_refl _
  | x :: l, i => by
    unfold findF
    split
    · omega
    · exact findF_lo s l _
/-- The primitives' array and the name, in memory. -/
structure TabAt (w : World) (g q : Nat) (s : ByteArray) (ty : TypeId) : Prop where
  tab : w.heap[g]? = some (.cells PV.toArray ty (0, 0))
  nm : w.heap[q]? = some (.cells #[.string s] 9 (0, 0))
theorem TabAt.below {w w' : World} {g q : Nat} {s : ByteArray} {ty : TypeId} (h : TabAt w g q s ty) (hb : Below w.heap.size w w') : TabAt w' g q s ty := ⟨blk_below h.tab hb, blk_below h.nm hb⟩
theorem TabAt.cells {w : World} {g q : Nat} {s : ByteArray} {ty : TypeId} (h : TabAt w g q s ty) {n : Nat} (hn : n < 47) : ∃ a b f, w.cell? ⟨g, n * 4, none⟩ = some (.string (NM.getD n ByteArray.empty)) ∧ w.cell? ⟨g, n * 4 + 1, none⟩ = some (.int .i64 a) ∧ w.cell? ⟨g, n * 4 + 2, none⟩ = some (.int .i64 b) ∧ w.cell? ⟨g, n * 4 + 3, none⟩ = some f := by
  obtain ⟨a, b, f, h0, h1, h2, h3⟩ := PV_at hn
  rw [Nat.mul_comm] at h0 h1 h2 h3
  have e : ∀ i v, PV[i]? = some v → w.cell? ⟨g, i, none⟩ = some v := fun i v hv => (blk_cell h.tab i).trans (by simpa using hv)
  exact ⟨a, b, f, e _ _ h0, e _ _ h1, e _ _ h2, e _ _ h3⟩
set_option maxRecDepth 100000 in
set_option maxHeartbeats 1000000 in
theorem index_calls {w : World} {g q : Nat} {s : ByteArray} {ty : TypeId} (h : TabAt w g q s ty) : Calls Tryz.prog 9 #[.slice (some ⟨g, 0, none⟩) 47 47, .func (.func 10) #[] #[.pointer (some ⟨q, 0, none⟩)]] w fun e w' => e = .returned (.int .i64 (findF s NM 0)) ∧ Below w.heap.size w w' := by
  have hu28 := Tryz.underlying28
  have H := Aside0.mk h
  clear h
  obtain ⟨r, hr⟩ : ∃ r, r = findF s NM 0 := ⟨_, rfl⟩
  rw [← hr]
  have HR := Aside0.mk hr
  clear hr
  go_enter Tryz.func9, Tryz.ntmps9
  go_wp2_with fail
  go_loopw [8] (fun v wr => ∃ j : Nat, v = .int .i64 j ∧ Aside0 (j ≤ 47) ∧ Aside0 (TabAt wr g q s ty) ∧ Aside0 (Below w.heap.size w wr) ∧ Aside0 (r = findF s (NM.drop j) (0 + j))) (fun v wr => 47 - (intOf v).toNat)
  case atStart => exact ⟨0, rfl, ⟨Nat.zero_le _⟩, H, ⟨Below.refl _ _⟩, ⟨by rw [HR.out]; rfl⟩⟩
  case round =>
    clear H HR
    obtain ⟨j, rfl, hj, H, HB, HR⟩ := hrel
    by_cases hlt : j < 47
    · have hlt' : ((j : Int) < 47) := by omega
      have hltb : decide ((j : Int) < 47) = true := decide_eq_true hlt'
      obtain ⟨a, b, f, h0, h1, h2, h3⟩ := H.out.cells hlt
      have hs := findF_step s NM 0 j (by rw [NM_len]; exact hlt)
      have HS := Aside0.mk hs
      clear hs
      generalize NM.getD j ByteArray.empty = nm at *
      go_wp2_with fail
      refine (does_calls H.out.nm).mono ?_
      rintro e w1 ⟨rfl, hb⟩
      have H1 := Aside0.mk (H.out.below hb)
      have HB1 := Aside0.mk (below_step HB.out hb)
      clear hb H HB h0 h1 h2 h3
      by_cases he : nm.toList = s.toList
      · have hb1 : (nm.toList == s.toList) = true := by simpa using he
        have hrj : r = (j : Int) := by rw [HR.out, HS.out, if_pos he]; simp
        clear he
        go_wp2_with fail
        go_returns
        exact ⟨by rw [hrj]; rfl, HB1.out⟩
      · have hb1 : (nm.toList == s.toList) = false := by simpa using he
        have HR1 := Aside0.mk (show r = findF s (NM.drop (j + 1)) (0 + (j + 1)) by rw [HR.out, HS.out, if_neg he])
        clear he HR HS
        go_wp2_with fail
        go_roundw
        case rel => exact ⟨j + 1, by go_num, ⟨hlt⟩, H1, HB1, HR1⟩
        case measure => simp [intOf]; omega
    · have hltb : decide ((j : Int) < 47) = false := decide_eq_false (by omega)
      have hj47 : j = 47 := by have := hj.out; omega
      have hrj : r = -1 := by rw [HR.out, hj47, show (47 : Nat) = NM.length from NM_len.symm]; exact findF_end s NM _
      clear hj47
      go_wp2_with fail
      go_returns
      exact ⟨by rw [hrj]; rfl, HB.out⟩
def prims_Find.f (s : ByteArray) : Option (Int × Bool) := some (if 0 ≤ findF s NM 0 then (findF s NM 0, true) else (0, false))
set_option maxRecDepth 100000 in
set_option maxHeartbeats 1000000 in
theorem prims_Find.calls (a0 : ByteArray) (r1 : Int) (r2 : Bool) (w : World) (h : prims_Find.f a0 = some (r1, r2)) : Calls Tryz.prog 4 #[.string a0] w fun e w' => e = .returned (.tuple #[.int .i64 r1, .bool r2]) ∧ Below w.heap.size w w' := by
  unfold prims_Find.f at h
  have h := Option.some.inj h
  have H := Aside0.mk h
  clear h
  go_enter Tryz.func4, Tryz.ntmps4
  go_wp2_with fail
  refine (prims_calls _).mono ?_
  rintro e w1 ⟨rfl, hb⟩
  have HQ := Aside0.mk (blk_below (blk_new w (.cells #[.string a0] 9)) hb)
  have HB := Aside0.mk (((Below.refl _ w).alloc (Nat.le_refl _) (.cells #[.string a0] 9)).trans (hb.mono (by simp)))
  clear hb
  obtain ⟨PW, hPW⟩ : ∃ PW, PW = PV.toArray := ⟨_, rfl⟩
  rw [← hPW]
  go_wp2_with ((with_reducible refine gate_ (.store 29 _ _) rfl ?_); refine wpList_store_row rfl 29 _ _ rfl w1.heap.size PV.toArray rfl (by rw [← hPW]; rfl) _ _ (heap_alloc_new w1 _) (by kernel_rfl) (by kernel_rfl) (by kernel_rfl) ?_)
  have hb2 : Below w1.heap.size w1 ((w1.alloc (Obj.cells Tryz.zeroCells29 29)).setRow w1.heap.size PV.toArray) :=
    have hb : Below w1.heap.size w1 (w1.alloc (Obj.cells Tryz.zeroCells29 29)) := (Below.refl _ w1).alloc (Nat.le_refl _) _
    ⟨hb.os, hb.tape, hb.output, by simp, fun k hk => (setRow_other _ _ _ _ (by omega)).trans (hb.block k hk)⟩
  have ht : TabAt ((w1.alloc (Obj.cells Tryz.zeroCells29 29)).setRow w1.heap.size PV.toArray) w1.heap.size w.heap.size a0 29 :=
    ⟨setRow_heap _ _ _ _ _ _ (heap_alloc_new w1 _), blk_below HQ.out hb2⟩
  have HB2 := Aside0.mk (below_step HB.out hb2)
  have HT := Aside0.mk ht
  clear HB HQ hb2 ht
  generalize (w1.alloc (Obj.cells Tryz.zeroCells29 29)).setRow w1.heap.size PV.toArray = W at *
  refine (index_calls HT.out).mono ?_
  rintro e w2 ⟨rfl, hb⟩
  have HB3 := Aside0.mk (below_step HB2.out hb)
  clear hb HB2 HT hPW
  have hlo : -1 ≤ findF a0 NM 0 := findF_lo a0 NM 0
  generalize findF a0 NM 0 = r at *
  by_cases hr : 0 ≤ r
  · have hrb : decide (0 ≤ r) = true := decide_eq_true hr
    rw [if_pos hr] at H
    obtain ⟨rfl, rfl⟩ := Prod.mk.inj H.out
    clear H
    have hmx := max2_int
    go_wp2_with fail
    go_returns
    exact ⟨rfl, HB3.out⟩
  · have hrb : decide (0 ≤ r) = false := decide_eq_false hr
    rw [if_neg hr] at H
    obtain ⟨rfl, rfl⟩ := Prod.mk.inj H.out
    clear H
    obtain rfl : r = -1 := by omega
    go_wp2_with fail
    go_returns
    exact ⟨rfl, HB3.out⟩
end Go.Proofs.YtcghnahkcjigoaaGreatDoor.D
