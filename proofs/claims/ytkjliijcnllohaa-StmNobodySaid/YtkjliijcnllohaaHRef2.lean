/- The reference's find and New. -/
import Derived.Test.YtkjliijcnllohaaHRef
namespace Go.Proofs.Ytkjliijcnllohaa.S
open Go.RowKit Go.Proofs.YtkjliijcnllohaaW.PrintWords Go.Proofs.YtkjliijcnllohaaW.PrintLast Go.Proofs.YtkjliijcnllohaaW.PrintMore
set_option linter.unusedVariables false
set_option linter.unusedSimpArgs false

/-- A slot of the reference's space. -/
structure RS where
  name : ByteArray
  g : Nat
  had : Bool
  v : Value
def RS.obj (x : RS) : Obj := .cells #[.string x.name, .int .i64 0, x.v, .pointer none, .bool x.had] 94 (0, 0)
/-- The reference's space in memory, above B. -/
structure RSt (w : World) (B rs : Nat) (R : List RS) : Prop where
  sp : ∃ v, w.heap[rs]? = some (.cells #[v, .int .i64 0] 89 (0, 0)) ∧ w.ownsRow B 90 1 v R.length (R.map fun x => ptr x.g)
  slot : ∀ x ∈ R, w.heap[x.g]? = some x.obj
  apart : R.Pairwise fun x y => x.g ≠ y.g
  up : B ≤ rs ∧ ∀ x ∈ R, B ≤ x.g
theorem name_eq {a b : ByteArray} : (a.toList == b.toList) = decide (a = b) := by
  by_cases h : a = b
  · subst h; simp
  · rw [decide_eq_false h, beq_eq_false_iff_ne]
    intro e
    rw [ByteArray.toList_eq, ByteArray.toList_eq] at e
    exact h (Go.WideShapes.bytes_inj e)
theorem ptr_info : (Try.prog.info? 90).map (fun i => (i.zero, i.size, i.bytes)) = some (some (.pointer none), 1, 8) := by kernel_rfl
def hasR (R : List RS) (name : ByteArray) : Bool := R.any fun x => decide (x.name = name)

set_option maxRecDepth 100000 in
set_option maxHeartbeats 2000000 in
/-- find, of a name that is there. -/
theorem find_there {w : World} {B rs : Nat} {R : List RS} (h : RSt w B rs R) {x : RS} (hx : x ∈ R) (hu : R.Pairwise fun a b => a.name ≠ b.name) : Calls Try.prog 40 #[ptr rs, .string x.name] w fun e w' => e = .returned (ptr x.g) ∧ w' = w := by
  obtain ⟨v, hsp, hown⟩ := h.sp
  have hpos : 0 < R.length := List.length_pos_of_mem hx
  obtain ⟨k, hk, hkx⟩ := List.getElem_of_mem hx
  rcases hown.2 with ⟨_, h0⟩ | ⟨g, cap, cur, rfl, hg, hb, hcap, hcm, hcs, htk⟩
  · omega
  have c0 := (blk_cell hsp 0).trans rfl
  have HC := Aside0.mk (show ∀ i (hi : i < R.length), w.cell? ⟨g, i, none⟩ = some (.pointer (some ⟨R[i].g, 0, none⟩)) from fun i hi => by
    rw [blk_cell hb i]
    have h8 : (cur.toList.take R.length)[i]? = (R.map fun x => ptr x.g)[i]? := by
      have := congrArg (·[i]?) htk
      simpa using this
    rw [List.getElem?_take, if_pos hi] at h8
    rw [← Array.getElem?_toList, h8]
    simp [List.getElem?_eq_getElem hi, ptr])
  have HS := Aside0.mk h.slot
  have HU := Aside0.mk hu
  have HK := Aside0.mk (And.intro hkx (And.intro hx hcap))
  have hmx : R.length ≤ 9223372036854775807 := by unfold maxLen at hcm; omega
  clear h hsp hown hx hkx hb hcs htk hu hcm hg
  unfold ptr
  go_enter Try.func40, Try.ntmps40
  go_wp2_with fail
  clear c0
  go_loopw [13] (fun v13 wr => ∃ i : Nat, v13 = .int .i64 i ∧ Aside0 (i ≤ k) ∧ wr = w) (fun v13 wr => R.length - (intOf v13).toNat)
  case atStart => exact ⟨0, rfl, ⟨Nat.zero_le _⟩, rfl⟩
  case round =>
    obtain ⟨i, rfl, hi, rfl⟩ := hrel
    have hlt : i < R.length := by have := hi.out; omega
    have hlt' : ((i : Int) < (R.length : Int)) := by omega
    have hltb : decide ((i : Int) < (R.length : Int)) = true := decide_eq_true hlt'
    have hcl := HC.out i hlt
    have hsl := HS.out _ (List.getElem_mem hlt)
    have hn0 : wr.cell? ⟨R[i].g, 0, none⟩ = some (.string R[i].name) := (blk_cell hsl 0).trans rfl
    clear hsl
    by_cases hik : i = k
    · have heq : (R[i].name.toList == x.name.toList) = true := by
        subst hik; rw [HK.out.1]; simp
      have HG : Aside0 (R[i].g = x.g) := ⟨by subst hik; rw [HK.out.1]⟩
      have HIK := Aside0.mk hik
      clear hik
      go_wp2_with fail
      go_returns
      exact ⟨by rw [← HG.out]; rfl, rfl⟩
    · have heq : (R[i].name.toList == x.name.toList) = false := by
        rw [name_eq, decide_eq_false]
        have := List.pairwise_iff_getElem.1 HU.out i k hlt hk (by have := hi.out; omega)
        rw [HK.out.1] at this
        exact this
      have HIK := Aside0.mk hik
      clear hik
      go_wp2_with fail
      go_roundw
      case rel => exact ⟨i + 1, by go_num, ⟨by have := hi.out; have := HIK.out; omega⟩, trivial⟩
      case measure => simp [intOf]; omega

theorem ownsRow_set {w : World} {B n rs : Nat} {v : Value} {xs : List Value} {cs : Array Value} {ty : TypeId} (h : w.ownsRow B 90 1 v n xs) (hb : w.heap[rs]? = some (.cells cs ty (0, 0))) (ht : ty ≠ 90) (u : Value) : (w.setCell ⟨rs, 0, none⟩ u).ownsRow B 90 1 v n xs := by
  refine ⟨h.1, ?_⟩
  rcases h.2 with h0 | ⟨g, cap, cur, h1, h2, h3, h4⟩
  · exact .inl h0
  · exact .inr ⟨g, cap, cur, h1, h2, (Below.heap_setCell _ _ _ _ (fun e => blk_ne h3 hb (fun e' => ht e'.symm) e)).trans h3, h4⟩
set_option maxRecDepth 100000 in
set_option maxHeartbeats 2000000 in
/-- find, of a name that is not there: it is made. -/
theorem find_new {w : World} {B rs : Nat} {R : List RS} (h : RSt w B rs R) (hBw : B ≤ w.heap.size) (hlen : R.length < 10000000000000) (name : ByteArray) (hno : ∀ x ∈ R, x.name ≠ name) :
    Calls Try.prog 40 #[ptr rs, .string name] w fun e w' => ∃ g, e = .returned (ptr g) ∧ w.heap.size ≤ g ∧ RSt w' B rs (R ++ [⟨name, g, false, .slice none 0 0⟩]) ∧ Below B w w' ∧ ∀ (k : Nat) (c : Array Value), w.heap[k]? = some (.cells c 28 (0, 0)) → w'.heap[k]? = some (.cells c 28 (0, 0)) := by
  obtain ⟨i0, hi, hz0, hz1, hz2⟩ := info_parts ptr_info
  obtain ⟨v, hsp, hown⟩ := h.sp
  have hform : (v = .slice none 0 0 ∧ R.length = 0) ∨ ∃ g cap cur, v = .slice (some ⟨g, 0, none⟩) R.length cap ∧ w.heap[g]? = some (.cells cur 90 (0, 0)) ∧ R.length ≤ cap ∧ ∀ i (hi : i < R.length), w.cell? ⟨g, i, none⟩ = some (.pointer (some ⟨R[i].g, 0, none⟩)) := by
    rcases hown.2 with h0 | ⟨g, cap, cur, rfl, hg, hb, hcap, hcm, hcs, htk⟩
    · exact .inl h0
    · refine .inr ⟨g, cap, cur, rfl, hb, hcap, fun i hi => ?_⟩
      rw [blk_cell hb i]
      have h8 : (cur.toList.take R.length)[i]? = (R.map fun x => ptr x.g)[i]? := by
        have := congrArg (·[i]?) htk
        simpa using this
      rw [List.getElem?_take, if_pos hi] at h8
      rw [← Array.getElem?_toList, h8]
      simp [List.getElem?_eq_getElem hi, ptr]
  have hvf : ∃ A cap, v = .slice A R.length cap ∧ ∀ i (hi : i < R.length), ∃ g, A = some ⟨g, 0, none⟩ ∧ w.cell? ⟨g, i, none⟩ = some (.pointer (some ⟨R[i].g, 0, none⟩)) := by
    rcases hform with ⟨rfl, h0⟩ | ⟨g, cap, cur, rfl, hb, hcap, hc⟩
    · exact ⟨none, 0, by rw [h0], fun i hi => by omega⟩
    · exact ⟨some ⟨g, 0, none⟩, cap, rfl, fun i hi => ⟨g, rfl, hc i hi⟩⟩
  obtain ⟨A, cap, rfl, hcl⟩ := hvf
  have c0 : w.cell? ⟨rs, 0, none⟩ = some (.slice A R.length cap) := (blk_cell hsp 0).trans rfl
  have c0a : ∀ o : Obj, (w.alloc o).cell? ⟨rs, 0, none⟩ = some (.slice A R.length cap) := fun o => (blk_cell (blk_alloc hsp o) 0).trans rfl
  have HCL := Aside0.mk hcl
  have HS := Aside0.mk h
  have HSP := Aside0.mk hsp
  have HOWN := Aside0.mk hown
  have HNO := Aside0.mk hno
  have hrl := blk_lt hsp
  have HRL := Aside0.mk hrl
  clear h hsp hown hform hcl hno hrl
  unfold ptr
  go_enter Try.func40, Try.ntmps40
  go_wp2_with fail
  go_loopw [13] (fun v13 wr => ∃ i : Nat, v13 = .int .i64 i ∧ Aside0 (i ≤ R.length) ∧ wr = w) (fun v13 wr => R.length - (intOf v13).toNat)
  case atStart => exact ⟨0, rfl, ⟨Nat.zero_le _⟩, rfl⟩
  case round =>
    obtain ⟨i, rfl, hi', rfl⟩ := hrel
    by_cases hlt : i < R.length
    · have hlt' : ((i : Int) < (R.length : Int)) := by omega
      have hltb : decide ((i : Int) < (R.length : Int)) = true := decide_eq_true hlt'
      obtain ⟨g, hA, hc⟩ := HCL.out i hlt
      cases hA
      have hsl := HS.out.slot _ (List.getElem_mem hlt)
      have hn0 : wr.cell? ⟨R[i].g, 0, none⟩ = some (.string R[i].name) := (blk_cell hsl 0).trans rfl
      clear hsl
      have heq : (R[i].name.toList == name.toList) = false := by
        rw [name_eq, decide_eq_false]
        exact HNO.out _ (List.getElem_mem hlt)
      go_wp2_with fail
      go_roundw
      case rel => exact ⟨i + 1, by go_num, ⟨hlt⟩, trivial⟩
      case measure => simp [intOf]; omega
    · have hltb : decide ((i : Int) < (R.length : Int)) = false := decide_eq_false (by omega)
      have c0b : ∀ o o' : Obj, ((wr.alloc o).alloc o').cell? ⟨rs, 0, none⟩ = some (.slice A R.length cap) := fun o o' => (blk_cell (blk_alloc (blk_alloc HSP.out o) o') 0).trans rfl
      go_wp2_with (at_builtin; refine wpList_append_own _ rfl _ _ 87 rfl B 90 i0 (.pointer none) 1 8 Try.underlying87 hi hz0 hz1 hz2 rfl (by decide) _ _ _ rfl ((HOWN.out.alloc _).alloc _) ⟨wr.heap.size + 1, 0, none⟩ 1 1 [.pointer (some ⟨wr.heap.size, 0, none⟩)] rfl ?qc1 ?qc2 ?qc3 ?qc4 ?qc5 ?qc6 ?_)
      case qc1 => rfl
      case qc2 =>
        intro j u hj
        match j, hj with
        | 0, hj =>
          simp only [List.getElem?_cons_zero, Option.some.injEq] at hj
          subst hj
          simp [Addr.add]
        | j + 1, hj => simp at hj
      case qc3 => intro u hu; simp at hu; subst hu; rfl
      case qc4 => unfold maxLen; omega
      case qc5 => omega
      case qc6 => simp; omega
      intro v' w1 hown' hgrow hnil
      have hkind : ∀ gr, (Value.slice A R.length cap).ownBlock = some gr → ∃ cur, wr.heap[gr]? = some (.cells cur 90 (0, 0)) := fun gr hgr => by
        rcases HOWN.out.2 with ⟨h1, _⟩ | ⟨g, cap', cur, h1, _, h3, _⟩
        · rw [h1] at hgr; cases hgr
        · rw [h1] at hgr
          simp only [Value.ownBlock, Option.some.injEq] at hgr
          subst hgr
          exact ⟨cur, h3⟩
      have hrs1 : w1.heap[rs]? = some (.cells #[.slice A R.length cap, .int .i64 0] 89 (0, 0)) := blk_grown (blk_alloc (blk_alloc HSP.out _) _) hgrow (fun e => by
        obtain ⟨cur, h3⟩ := hkind rs e.symm
        exact blk_ne HSP.out h3 (by decide) rfl)
      have hsl1 : ∀ x ∈ R, w1.heap[x.g]? = some x.obj := fun x hx => blk_grown (blk_alloc (blk_alloc (HS.out.slot x hx) _) _) hgrow (fun e => by
        obtain ⟨cur, h3⟩ := hkind x.g e.symm
        exact blk_ne (HS.out.slot x hx) h3 (by decide) rfl)
      have hnw1 : w1.heap[wr.heap.size]? = some (.cells #[.string name, .int .i64 0, .slice none 0 0, .pointer none, .bool false] 94 (0, 0)) := blk_grown (blk_alloc (blk_new wr _) _) hgrow (fun e => by
        obtain ⟨cur, h3⟩ := hkind _ e.symm
        have := blk_lt h3
        omega)
      have hkp : ∀ (k : Nat) (c : Array Value), wr.heap[k]? = some (.cells c 28 (0, 0)) → w1.heap[k]? = some (.cells c 28 (0, 0)) := fun k c hk => blk_grown (blk_alloc (blk_alloc hk _) _) hgrow (fun e => by
        obtain ⟨cur, h3⟩ := hkind k e.symm
        exact blk_ne hk h3 (by decide) rfl)
      have hbel : Below B wr w1 := (((Below.refl B wr).alloc hBw _).alloc (by simp; omega) _).grown hgrow (by simp; omega) (by intro k hk; exact (HOWN.out.lt k hk).1)
      have d0 : w1.cell? ⟨rs, 0, none⟩ = some (.slice A R.length cap) := (blk_cell hrs1 0).trans rfl
      have df : w1.frozen? ⟨rs, 0, none⟩ = false := blk_frozen hrs1 0
      have HO := Aside0.mk hown'
      have hform : ∃ A' n' c', v' = .slice A' n' c' := by
        rcases HO.out.2 with ⟨h1, _⟩ | ⟨g, cap, cur, h1, _⟩
        · exact ⟨_, _, _, h1⟩
        · exact ⟨_, _, _, h1⟩
      obtain ⟨A', n', c', rfl⟩ := hform
      have HW := Aside0.mk (And.intro hrs1 (And.intro hsl1 (And.intro hnw1 (And.intro hbel hkp))))
      clear hown' hgrow hnil hkind hrs1 hsl1 hnw1 hbel hkp c0 c0a c0b
      go_wp2
      go_returns
      refine ⟨wr.heap.size, rfl, Nat.le_refl _, ⟨⟨_, blk_set HW.out.1 0 _, ?_⟩, ?_, ?_, ?_⟩, HW.out.2.2.2.1.setCell (p := ⟨rs, 0, none⟩) HS.out.up.1 _, fun k c hk => (Below.heap_setCell _ _ _ _ (fun e => blk_ne (HW.out.2.2.2.2 k c hk) HW.out.1 (by decide) e)).trans (HW.out.2.2.2.2 k c hk)⟩
      · have h1 := ownsRow_set HO.out HW.out.1 (by decide) (.slice A' n' c')
        simpa [ptr] using h1
      · intro x hx
        rcases List.mem_append.1 hx with hx | hx
        · exact (Below.heap_setCell _ _ _ _ (fun e => blk_ne (HW.out.2.1 x hx) HW.out.1 (by decide) e)).trans (HW.out.2.1 x hx)
        · obtain rfl := List.mem_singleton.1 hx
          exact (Below.heap_setCell _ _ _ _ (fun e => blk_ne HW.out.2.2.1 HW.out.1 (by decide) e)).trans HW.out.2.2.1
      · rw [List.pairwise_append]
        refine ⟨HS.out.apart, by simp, fun x hx y hy => ?_⟩
        obtain rfl := List.mem_singleton.1 hy
        have := blk_lt (HS.out.slot x hx)
        show x.g ≠ wr.heap.size
        omega
      · refine ⟨HS.out.up.1, fun x hx => ?_⟩
        rcases List.mem_append.1 hx with hx | hx
        · exact HS.out.up.2 x hx
        · obtain rfl := List.mem_singleton.1 hx
          exact hBw
end Go.Proofs.Ytkjliijcnllohaa.S
