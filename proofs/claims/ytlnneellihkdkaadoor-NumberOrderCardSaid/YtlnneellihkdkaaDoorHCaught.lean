/- number.caught: what a deferred recover makes of a panic. -/
import Derived.Test.YtlnneellihkdkaaDoorHValue
import Derived.Recover
import Derived.Laws.Pointers
namespace Go.Proofs.YtlnneellihkdkaaDoor.D
open Go Go.Proofs Go.RowKit Go.Shelf Go.Proofs.YtlnneellihkdkaaDoorW.PrintWords Go.Proofs.YtlnneellihkdkaaDoorW.PrintLast Go.Proofs.YtlnneellihkdkaaDoorW.PrintMore
set_option linter.unusedVariables false
set_option linter.unusedSimpArgs false

theorem caught_idle (p q : Addr) (w : World) :
    CallsD Tryd.prog 31 #[.pointer (some p), .pointer (some q)] .returning w fun e u' w' => e = .returned (.tuple #[]) ∧ u' = .returning ∧ w' = w := by
  refine callsD_of_wpS Tryd.func31 rfl fun c₀ cs hu => ?_
  apply wpS_seq
  apply wpS_region
  simp [wpOpsS, go_sem, recoverD, hu, Tryd.ntmps31, Exit.thenS]
  apply wpS_seq
  apply wpS_region
  simp [wpOpsS, go_sem, recoverD, hu, Tryd.ntmps31, Exit.thenS]
  refine wpS_cond (t := false) (by simp [Act.eval, Array.replicate]) ?_
  simp only [Bool.false_eq_true, if_false]
  refine wpS_of_wp (wp_skip ?_)
  cases c₀
  simp_all [bodyPostS, results, Tryd.results31]

set_option maxRecDepth 100000 in
set_option maxHeartbeats 2000000 in
theorem caught_panic (p q : Addr) (n : Int) (w : World) (hc : w.cell? p = some (.string ⟨#[]⟩)) (hz : w.frozen? p = false) (hq : w.cell? q = some (.int .i64 0)) (hzq : w.frozen? q = false) (hpq : p.block ≠ q.block) :
    CallsD Tryd.prog 31 #[.pointer (some p), .pointer (some q)] (.panicking [{ v := .iface 27 (.int .i64 n), recovered := false }]) w fun e u' w' =>
      e = .returned (.tuple #[]) ∧ u' = .panicking [{ v := .iface 27 (.int .i64 n), recovered := true }] ∧ w' = (w.setCell p (.string ⟨#[]⟩)).setCell q (.int .i64 n) := by
  refine callsD_of_wpS Tryd.func31 rfl fun c₀ cs hu => ?_
  apply wpS_seq
  apply wpS_region
  simp [wpOpsS, go_sem, recoverD, hu, Tryd.ntmps31, Exit.thenS]
  apply wpS_seq
  apply wpS_region
  simp [wpOpsS, go_sem, recoverD, hu, Tryd.ntmps31, Exit.thenS]
  refine wpS_cond (t := true) (by simp [Act.eval, Array.replicate]) ?_
  simp only [if_true]
  refine wpS_of_wp ?_
  have hq2 : (w.setCell p (.string ⟨#[]⟩)).cell? q = some (.int .i64 0) := (World.cell?_of_block (Below.heap_setCell _ _ _ _ (Ne.symm hpq))).trans hq
  have hzq2 : (w.setCell p (.string ⟨#[]⟩)).frozen? q = false := by
    rw [← hzq]
    unfold World.frozen?
    rw [Below.heap_setCell _ _ _ _ (Ne.symm hpq)]
  have hta : ∀ W, (Instr.typeAssert (.iface 27 (.int .i64 n)) 20 27 true).run Tryd.prog W = .ok (.tuple #[.int .i64 n, .bool true]) W := fun W => by
    simp [Instr.typeAssert, go_sem]
  simp only [Array.replicate_succ, Array.replicate_zero, List.push_toArray, List.append_toArray, List.nil_append, List.cons_append]
  go_wp2
  simp [bodyPostS, results, Tryd.results31]

abbrev badE : Ending := .panicked [{ v := .iface 27 (.int .i64 90), recovered := false }]
set_option maxRecDepth 100000 in
set_option maxHeartbeats 2000000 in
theorem parse_bad (s : ByteArray) (hs : s.size ≤ 9223372036854775807) (hc : N.canU s.data.toList = false) (w : World) :
    Calls Tryd.prog 33 #[.string s] w fun e w' => e = badE ∧ Below w.heap.size w w' := by
  obtain ⟨k, hk⟩ := Ev.rounds (can_prog_u s hs)
  rw [hc] at hk
  have HC := Aside0.mk (fun W => number_Can.calls k s false W hk)
  clear hk
  go_enter Tryd.func33, Tryd.ntmps33
  go_wp2_with (go_at_call 12; refine (HC.out _).mono ?_; rintro e w' ⟨rfl, hd⟩)
  rw [show (Instr.panic (.iface 27 (.int .i64 90))).run Tryd.prog w' = .halt (.panic (.iface 27 (.int .i64 90))) w' from rfl]
  simp only [Result.andThen]
  rw [Oper.upon_panic]
  go_wp2
  exact ⟨rfl, rfl, ((Below.refl _ w).alloc (Nat.le_refl _) _).trans (hd.below.mono (by simp))⟩

/-- number.parse: the limbs of a numeral, or the panic. -/
theorem parse_ok (s : ByteArray) (hs : s.size ≤ 9223372036854775807) (hc : N.canU s.data.toList = true) (w : World) :
    Calls Tryd.prog 33 #[.string s] w fun e w' => ∃ A c, e = .returned (.agg #[.slice A (limbsU s.data.toList).length c, .bool (negU s.data.toList)]) ∧ Kd.V (Kd.int .u64) 65 w' w.heap.size (fun k => w.heap.size ≤ k) (.slice A (limbsU s.data.toList).length c) (limbsU s.data.toList) ∧ Below w.heap.size w w' := by
  obtain ⟨k, hk⟩ := Ev.rounds (parse_prog_ev s hs hc)
  refine (number_parse.calls k s _ _ w hk).mono ?_
  rintro e w' ⟨v, rfl, hV, hB⟩
  obtain ⟨A, c, rfl⟩ := Kd.V_slice hV
  exact ⟨A, c, rfl, hV, hB⟩

/-- How the arithmetic answers. -/
def ansV : Option Int → Value
  | none => .tuple #[.string ⟨#[]⟩, .int .i64 90]
  | some z => if (Lib.decDigits z.natAbs).length ≤ 200 then .tuple #[.string (baU (Lib.itoa z)), .int .i64 0] else .tuple #[.string ⟨#[]⟩, .int .i64 91]
def valO (a : ByteArray) : Option Int := if N.canU a.data.toList = true then some (N.valU a.data.toList) else none
def opO (f : Int → Int → Int) (a b : ByteArray) : Option Int := (valO a).bind fun x => (valO b).map fun y => f x y

/-! ### the door -/
theorem results_cells {fn : Func} (h : fn.results = #[.cell 4 9, .cell 5 27]) (tmps : Array Value) (w : World) (p q : Addr) (u v : Value) (h4 : tmps.getD 4 undef = .pointer (some p)) (h5 : tmps.getD 5 undef = .pointer (some q)) (hp : w.cell? p = some u) (hq : w.cell? q = some v) :
    (results fn tmps).run Tryd.prog w = .ok (.tuple #[u, v]) w := by
  have h4' : tmps[4]?.getD undef = .pointer (some p) := by rw [← h4]; simp
  have h5' : tmps[5]?.getD undef = .pointer (some q) := by rw [← h5]; simp
  simp [results, h, go_sem, h4, h5, h4', h5', hp, hq]
theorem set_cell_at {W : World} {k : Nat} {v v' : Value} {t : TypeId} (h : W.heap[k]? = some (.cells #[v] t (0, 0))) : (W.setCell ⟨k, 0, none⟩ v').heap[k]? = some (.cells #[v'] t (0, 0)) := blk_put h 0 v' rfl
theorem door_panic (fn : Func) (hres : fn.results = #[.cell 4 9, .cell 5 27]) (tmps : Array Value) (b : Nat) (h4 : tmps.getD 4 undef = .pointer (some ⟨b, 0, none⟩)) (h5 : tmps.getD 5 undef = .pointer (some ⟨b + 1, 0, none⟩)) (W : World)
    (hs : W.heap[b]? = some (.cells #[.string ⟨#[]⟩] 9 (0, 0))) (he : W.heap[b + 1]? = some (.cells #[.int .i64 0] 27 (0, 0))) (n : Int) (R : Ending → World → Prop)
    (hR : ∀ W', Below b W W' → R (.returned (.tuple #[.string ⟨#[]⟩, .int .i64 n])) W') :
    Leaves Tryd.prog fn tmps R [{ target := .fn (.func 31) #[], args := #[.pointer (some ⟨b, 0, none⟩), .pointer (some ⟨b + 1, 0, none⟩)] }] (.panicking [{ v := .iface 27 (.int .i64 n), recovered := false }]) W := by
  refine leaves_cons (f := 31) (args := #[.pointer (some ⟨b, 0, none⟩), .pointer (some ⟨b + 1, 0, none⟩)]) (by simp) (by simp [go_sem]) ?_
  refine (caught_panic ⟨b, 0, none⟩ ⟨b + 1, 0, none⟩ n W (blk_cell hs 0) (blk_frozen hs 0) (blk_cell he 0) (blk_frozen he 0) (by simp)).mono ?_
  rintro e u' W' ⟨rfl, rfl, rfl⟩
  have hs' : ((W.setCell ⟨b, 0, none⟩ (.string ⟨#[]⟩)).setCell ⟨b + 1, 0, none⟩ (.int .i64 n)).heap[b]? = some (.cells #[.string ⟨#[]⟩] 9 (0, 0)) := blk_far (set_cell_at hs) (by simp) _
  have he' : ((W.setCell ⟨b, 0, none⟩ (.string ⟨#[]⟩)).setCell ⟨b + 1, 0, none⟩ (.int .i64 n)).heap[b + 1]? = some (.cells #[.int .i64 n] 27 (0, 0)) := set_cell_at (blk_far he (by simp) _)
  refine ⟨_, results_cells hres tmps _ _ _ _ _ h4 h5 (blk_cell hs' 0) (blk_cell he' 0), hR _ ?_⟩
  exact ((Below.refl _ W).setCell (p := ⟨b, 0, none⟩) (Nat.le_refl _) _).setCell (p := ⟨b + 1, 0, none⟩) (Nat.le_succ _) _
theorem door_ok (fn : Func) (hres : fn.results = #[.cell 4 9, .cell 5 27]) (tmps : Array Value) (b : Nat) (h4 : tmps.getD 4 undef = .pointer (some ⟨b, 0, none⟩)) (h5 : tmps.getD 5 undef = .pointer (some ⟨b + 1, 0, none⟩)) (W : World) (u v : Value)
    (hs : W.heap[b]? = some (.cells #[u] 9 (0, 0))) (he : W.heap[b + 1]? = some (.cells #[v] 27 (0, 0))) (R : Ending → World → Prop)
    (hR : R (.returned (.tuple #[u, v])) W) :
    Leaves Tryd.prog fn tmps R [{ target := .fn (.func 31) #[], args := #[.pointer (some ⟨b, 0, none⟩), .pointer (some ⟨b + 1, 0, none⟩)] }] .returning W := by
  refine leaves_cons (f := 31) (args := #[.pointer (some ⟨b, 0, none⟩), .pointer (some ⟨b + 1, 0, none⟩)]) (by simp) (by simp [go_sem]) ?_
  refine (caught_idle ⟨b, 0, none⟩ ⟨b + 1, 0, none⟩ W).mono ?_
  rintro e u' W' ⟨rfl, rfl, rfl⟩
  exact ⟨_, results_cells hres tmps _ _ _ _ _ h4 h5 (blk_cell hs 0) (blk_cell he 0), hR⟩

theorem ansV_ok {z : Int} (h : (Lib.decDigits z.natAbs).length ≤ 200) : ansV (some z) = .tuple #[.string (baU (Lib.itoa z)), .int .i64 0] := if_pos h
theorem ansV_big {z : Int} (h : ¬ (Lib.decDigits z.natAbs).length ≤ 200) : ansV (some z) = .tuple #[.string ⟨#[]⟩, .int .i64 91] := if_neg h
theorem door_new {w W : World} (hB : Below ((w.alloc (.cells #[.string ⟨#[]⟩] 9)).alloc (.cells #[.int .i64 0] 27)).heap.size ((w.alloc (.cells #[.string ⟨#[]⟩] 9)).alloc (.cells #[.int .i64 0] 27)) W) :
    W.heap[w.heap.size]? = some (.cells #[.string ⟨#[]⟩] 9 (0, 0)) ∧ W.heap[w.heap.size + 1]? = some (.cells #[.int .i64 0] 27 (0, 0)) ∧ Below w.heap.size w W := by
  refine ⟨?_, ?_, (((Below.refl _ w).alloc (Nat.le_refl _) _).alloc (by simp) _).trans (hB.mono (by simp; omega))⟩
  · rw [hB.block _ (by simp; omega)]
    exact blk_alloc (World.alloc_heap_new w _) _
  · rw [hB.block _ (by simp)]
    have := World.alloc_heap_new (w.alloc (.cells #[.string ⟨#[]⟩] 9)) (.cells #[.int .i64 0] 27)
    simpa using this
theorem text_R (r : List Int) (nr : Bool) (hok : OkB G r) (hlen : r.length ≤ 1000) {base e : Nat} {ok : Nat → Prop} {v : Value} (w : World) (hL : LaidW w) (hV : Kd.V (Kd.int .u64) e w base ok v r) :
    Calls Tryd.prog 34 #[.agg #[v, .bool nr]] w fun e w' => e = numE (sv G r nr) ∧ Below w.heap.size w w' := by
  obtain ⟨A, c, rfl⟩ := Kd.V_slice hV
  exact text_calls r nr hok hlen A c w hL (Kd.V_mono hV (fun _ _ => trivial))
theorem sv_val {l : List UInt8} (h : N.canU l = true) : sv G (limbsU l) (negU l) = N.valU l := by
  obtain ⟨h1, h2⟩ := val_neg h
  unfold sv
  rw [(limbs_val h).1]
  cases hn : negU l
  · simp [h2 hn]
  · simp [(h1 hn).1]
theorem opO_none_l {f : Int → Int → Int} {a b : ByteArray} (h : N.canU a.data.toList = false) : opO f a b = none := by simp [opO, valO, h]
theorem opO_none_r {f : Int → Int → Int} {a b : ByteArray} (h : N.canU b.data.toList = false) : opO f a b = none := by
  unfold opO
  rw [show valO b = none by simp [valO, h]]
  cases valO a <;> rfl
theorem opO_some {f : Int → Int → Int} {a b : ByteArray} (ha : N.canU a.data.toList = true) (hb : N.canU b.data.toList = true) : opO f a b = some (f (N.valU a.data.toList) (N.valU b.data.toList)) := by simp [opO, valO, ha, hb]

set_option maxRecDepth 100000 in
set_option maxHeartbeats 2000000 in
theorem add_calls (a b : ByteArray) (ha : a.size ≤ 9223372036854775807) (hb : b.size ≤ 9223372036854775807) (w : World) (hL : LaidW w) :
    Calls Tryd.prog 15 #[.string a, .string b] w fun e w' => e = .returned (ansV (opO (· + ·) a b)) ∧ Below w.heap.size w w' := by
  have HL := Aside0.mk hL
  clear hL
  cases hca : N.canU a.data.toList
  · go_enter_defers Tryd.func15, Tryd.ntmps15
    go_wp2_with (go_at_call 33; with_reducible refine (parse_bad a ha hca _).mono ?_; rintro e w' ⟨rfl, hB⟩)
    obtain ⟨hs, he, hBw⟩ := door_new hB
    rw [opO_none_l hca]
    exact door_panic _ rfl _ w.heap.size rfl rfl _ hs he 90 _ (fun W' hW => ⟨rfl, hBw.trans hW⟩)
  cases hcb : N.canU b.data.toList
  · go_enter_defers Tryd.func15, Tryd.ntmps15
    go_wp2_with (first
      | (go_at_call 33; with_reducible refine (parse_bad b hb hcb _).mono ?_; rintro e w' ⟨rfl, hB2⟩)
      | (go_at_call 33; with_reducible refine (parse_ok a ha hca _).mono ?_; rintro e w' ⟨A, c, rfl, hV, hB⟩))
    obtain ⟨hs, he, hBw⟩ := door_new (hB.trans (hB2.mono hB.size))
    rw [opO_none_r hcb]
    exact door_panic _ rfl _ w.heap.size rfl rfl _ hs he 90 _ (fun W' hW => ⟨rfl, hBw.trans hW⟩)
  rw [opO_some hca hcb]
  obtain ⟨la1, la2, la3, la4⟩ := limbs_val hca
  obtain ⟨lb1, lb2, lb3, lb4⟩ := limbs_val hcb
  obtain ⟨r, nr, hEv, hr1, hr2, hr3⟩ := add_prog_ev (limbsU a.data.toList) (limbsU b.data.toList) (negU a.data.toList) (negU b.data.toList) la2 lb2 (by omega) (by omega)
  rw [sv_val hca, sv_val hcb] at hr2
  obtain ⟨k, hk⟩ := hEv.rounds
  have HK := Aside0.mk hk
  have HR := Aside0.mk hr1
  clear hEv hk
  have HA := Aside0.mk la2
  by_cases h2 : (Lib.decDigits (N.valU a.data.toList + N.valU b.data.toList).natAbs).length ≤ 200
  · have hnum : numE (sv G r nr) = .returned (.string (baU (Lib.itoa (N.valU a.data.toList + N.valU b.data.toList)))) := by rw [hr2]; unfold numE; rw [if_pos h2]
    have hans : ansV (some (N.valU a.data.toList + N.valU b.data.toList)) = .tuple #[.string (baU (Lib.itoa (N.valU a.data.toList + N.valU b.data.toList))), .int .i64 0] := ansV_ok h2
    rw [hans]
    generalize Lib.itoa (N.valU a.data.toList + N.valU b.data.toList) = it at *
    go_enter_defers Tryd.func15, Tryd.ntmps15
    go_wp2_with (first
      | (go_at_call 33; with_reducible refine (parse_ok a ha hca _).mono ?_; rintro e w1 ⟨A, c, rfl, hV, hB⟩)
      | (go_at_call 33; with_reducible refine (parse_ok b hb hcb _).mono ?_; rintro e w2 ⟨A2, c2, rfl, hV2, hB2⟩)
      | (go_at_call 32; refine (number_add.calls k A c _ _ A2 c2 _ _ r nr _ (Kd.V_reads' (Kd.V_below hV hB2)).2.2 (Kd.V_reads' (Kd.V_below hV hB2)).2.1 (Kd.V_reads' hV2).2.2 (Kd.V_reads' hV2).2.1 HK.out).mono ?_; rintro e w3 ⟨v0, rfl, hR3, hB3⟩
         have hB03 := (hB.trans (hB2.mono hB.size)).trans (hB3.mono (Nat.le_trans hB.size hB2.size))
         have hLw := HL.out.below (door_new hB03).2.2 (Nat.le_refl _))
      | (go_at_call 34; refine (text_R r nr HR.out (by omega) w3 hLw (Kd.R_V (base' := 0) hR3)).mono ?_; rintro e w4 ⟨he4, hB4⟩; rw [hnum] at he4; subst he4
         have hd := door_new (hB03.trans (hB4.mono hB03.size))
         have c0 := blk_cell hd.1 0
         have c1 := blk_cell hd.2.1 0
         have f0 := blk_frozen hd.1 0
         have f1 := blk_frozen hd.2.1 0
         simp only [List.getElem?_toArray, List.getElem?_cons_zero] at c0 c1))
    exact door_ok _ rfl _ w.heap.size rfl rfl _ _ _ (blk_far (set_cell_at hd.1) (by simp) _) (set_cell_at (blk_far hd.2.1 (by simp) _)) _ ⟨rfl, (hd.2.2.setCell (p := ⟨w.heap.size, 0, none⟩) (Nat.le_refl _) _).setCell (p := ⟨w.heap.size + 1, 0, none⟩) (Nat.le_succ _) _⟩
  · have hnum : numE (sv G r nr) = bigE := by rw [hr2]; unfold numE; rw [if_neg h2]
    rw [ansV_big h2]
    go_enter_defers Tryd.func15, Tryd.ntmps15
    go_wp2_with (first
      | (go_at_call 33; with_reducible refine (parse_ok a ha hca _).mono ?_; rintro e w1 ⟨A, c, rfl, hV, hB⟩)
      | (go_at_call 33; with_reducible refine (parse_ok b hb hcb _).mono ?_; rintro e w2 ⟨A2, c2, rfl, hV2, hB2⟩)
      | (go_at_call 32; refine (number_add.calls k A c _ _ A2 c2 _ _ r nr _ (Kd.V_reads' (Kd.V_below hV hB2)).2.2 (Kd.V_reads' (Kd.V_below hV hB2)).2.1 (Kd.V_reads' hV2).2.2 (Kd.V_reads' hV2).2.1 HK.out).mono ?_; rintro e w3 ⟨v0, rfl, hR3, hB3⟩
         have hB03 := (hB.trans (hB2.mono hB.size)).trans (hB3.mono (Nat.le_trans hB.size hB2.size))
         have hLw := HL.out.below (door_new hB03).2.2 (Nat.le_refl _))
      | (go_at_call 34; refine (text_R r nr HR.out (by omega) w3 hLw (Kd.R_V (base' := 0) hR3)).mono ?_; rintro e w4 ⟨he4, hB4⟩; rw [hnum] at he4; subst he4))
    obtain ⟨hs, he, hBw⟩ := door_new (hB03.trans (hB4.mono hB03.size))
    exact door_panic _ rfl _ w.heap.size rfl rfl _ hs he 91 _ (fun W' hW => ⟨rfl, hBw.trans hW⟩)
end Go.Proofs.YtlnneellihkdkaaDoor.D
