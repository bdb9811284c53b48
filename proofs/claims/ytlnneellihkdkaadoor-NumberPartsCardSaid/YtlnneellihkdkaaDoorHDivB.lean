/- A region that draws its order inside a round of a range-over-func; what slices.Backward hands back, over limbs whose places are known, an empty row too. bits.Add64, bits.Div64 where the high part is nought. number.small: a row of limbs divided by one limb. -/
import Derived.Test.YtlnneellihkdkaaDoorHBack
import Derived.OrdersHeld
import Derived.OrdersIn
import Derived.Deep.RegionHeld
import Derived.Test.YtlnneellihkdkaaDoorHShelf
import Derived.Shelf.Spec.BitsCarry
import Derived.Deep.QuietTactic
import Derived.BigQuiet
import Derived.Test.YtlnneellihkdkaaDoorHText
import Derived.Laws.MakeOwn
namespace Go.Proofs.YtlnneellihkdkaaDoor.D
open Go Go.Proofs Go.RowKit Go.Shelf Go.Proofs.YtlnneellihkdkaaDoorW.PrintWords Go.Proofs.YtlnneellihkdkaaDoorW.PrintLast Go.Proofs.YtlnneellihkdkaaDoorW.PrintMore
attribute [local go_sem] Oper.semAt_some
set_option linter.unusedVariables false
set_option linter.unusedSimpArgs false

/-- Neither a defer nor a row of the library's nor a round: what every operation of these regions comes to. -/
def tameOp (o : Oper) : Bool := match o.op with | .defer _ => false | _ => true
def tameOps (ops : Array Oper) : Bool := ops.toList.all tameOp
theorem tame_defer {o : Oper} (h : tameOp o = true) : ∀ c, o.op ≠ .defer c := fun c e => by simp [tameOp, e] at h
theorem rowsIn_round {P : Program} {n l : Nat} {row : String} {args : Array Value} {w : World} {R : Value → World → Prop} (h : Rows P row args w R) : RowsIn (Fence.wide.inRound l) n P row args w R :=
  fun c cs _ => let ⟨v, w', r, s⟩ := h c cs; ⟨v, w', r, stepsIn_wide.2 s⟩

theorem wpOpIn_of_held {P : Program} {ops : Array Oper} {K0 : Act → World → Prop} {n l i : Nat} (ht : tameOps ops = true) {K : Act → World → Prop} {a : Act} {w : World}
    (h : wpOp P ops (fun e a w => e = .normal ∧ K0 a w) i K a w) :
    wpOpIn (Fence.wide.inRound l) n P ops (fun e a w => e = .normal ∧ K0 a w) i K a w := by
  unfold wpOp at h
  unfold wpOpIn
  cases hi : ops[i]? with
  | none => simp only [hi] at h ⊢; exact h
  | some o =>
    simp only [hi] at h ⊢
    have htm : tameOp o = true := by
      have := List.all_eq_true.1 ht o
      exact this (by
        have := Array.getElem?_eq_some_iff.1 hi
        obtain ⟨h1, h2⟩ := this
        exact h2 ▸ (Array.mem_toList_iff.2 (Array.getElem_mem h1)))
    by_cases hw : Region.wanted o (yielded ops a.tmps) = true
    · rw [if_pos hw] at h ⊢
      have h1 : o.wp P a w K (fun e a w => e = .normal ∧ K0 a w) := by
        rcases h with h | ⟨_, b, v, h⟩
        · exact h
        · exact absurd h.1 (by simp)
      unfold Oper.wp at h1
      unfold Oper.wpIn
      refine ⟨fun _ _ => trivial, ?_⟩
      rw [Fence.inRound_round, Oper.semAt_eq (some l) a.eval o (tame_defer htm)]
      generalize (execOp a.eval o).run P w = r at h1 ⊢
      cases r with
      | ok x w' =>
        cases x with
        | value v => exact h1
        | skip => exact h1
        | defer d => exact h1
        | enter f args => exact ⟨fun h => by simp [Fence.inRound, Fence.wide] at h, CallsIn.inRound l (callsIn_wide.2 h1)⟩
        | row row args => exact ⟨fun h => by simp [Fence.inRound, Fence.wide] at h, rowsIn_round h1⟩
        | _ => exact h1.elim
      | halt x w' => cases x <;> first | exact h1 | exact h1.elim
    · rw [if_neg hw] at h ⊢
      exact ⟨fun _ _ => trivial, h⟩
theorem wpAnyIn_of_held {P : Program} {ops : Array Oper} {K0 : Act → World → Prop} {n l : Nat} {md : Region.Mode} {S : World → Prop} (ht : tameOps ops = true) : ∀ (fuel : Nat) (listed : Array Bool) (a : Act) (w : World),
    wpAnyH P md ops (fun e a w => e = .normal ∧ K0 a w) S fuel listed a w → wpAnyIn (Fence.wide.inRound l) n P md ops (fun e a w => e = .normal ∧ K0 a w) fuel listed a w
  | 0, _, _, _, h => h
  | fuel + 1, _, _, _, h => ⟨h.1, fun i hi => wpOpIn_of_held ht (wpOp_mono (fun a' w' h' => wpAnyIn_of_held ht fuel _ a' w' h'.2) (h.2 i hi))⟩
/-- A region that draws its order, in a round: S holds all along; nothing in it panics. -/
theorem region_round {P : Program} {ops : Array Oper} {n l id : Nat} {S : World → Prop} {Q : Exit → Act → World → Prop} {a : Act} {w : World} (hm : P.follows .mixedOrders = true) (ht : tameOps ops = true) (hS : S w.drew)
    (h : S w.drew → wpAnyH P .any ops (fun e a w => e = .normal ∧ Q .normal a w) S ops.size (Array.replicate ops.size false) a w.drew) : (Code.region id ops true).wpIn (Fence.wide.inRound l) n P Q a w :=
  wpIn_mono (wpIn_region_any hm (wpAnyIn_of_held ht _ _ _ _ (h hS))) (fun e a w ⟨he, h⟩ => by subst he; exact h)
theorem quietQ {K0 : Act → World → Prop} {d : Option Tmp} {v : Value} : ∀ c a w, (fun (e : Exit) (a : Act) (w : World) => e = .normal ∧ K0 a w) (.panic c) (a.put d v) w → (fun (e : Exit) (a : Act) (w : World) => e = .normal ∧ K0 a w) (.panic c) a w := fun c a w h => absurd h.1 (by simp)

/-! ### limbs from behind, their places below the row's length -/
abbrev PLn (len : Nat) : Type := { p : Nat × Nat // p.2 < 1000000000 ∧ p.1 < len }
abbrev encPLn (len : Nat) (x : PLn len) : Array Value := #[Value.int .i64 (x.1.1 : Int), Value.int .u64 (x.1.2 : Int)]

set_option maxRecDepth 100000 in
set_option maxHeartbeats 1000000 in
theorem backn_in (F : Fence) (n : Nat) (h8 : F.fn 69) (hro : F.round = none) (hn : 1 ≤ n) (l Bs n₀ m len cap : Nat) (A : Option Addr) (f : Nat → PLn m) (hf : ∀ j, j < len → (f j).1.1 = j) (hreach : len ≤ 1000000) (J Jx : List (PLn m) → World → Prop)
    (hY : ∀ pre x W, J pre W → pre.length < len → YieldAt F (n - 1) Tryd.prog l (encPLn m x) W fun e W' =>
      (e = .returned (.bool true) ∧ J (pre ++ [x]) W' ∧ KpS n₀ Bs W W') ∨ (e = .returned (.bool false) ∧ Jx (pre ++ [x]) W'))
    (W : World) (hBs : W.cell? ⟨Bs, 0, none⟩ = some (.slice A len cap)) (hA : len = 0 ∨ ∃ ad, A = some ad ∧ ad.block < n₀ ∧ ∀ j, j < len → W.cell? (ad.add j) = some (.int .u64 ((f j).1.2 : Int))) (h0 : J [] W) :
    CallsIn F n Tryd.prog 69 #[.func (.yield l) #[] #[], .pointer (some ⟨Bs, 0, none⟩)] W fun e W' => (∃ v, e = .returned v) ∧
      ((∃ ys, ys = downTo f len len ∧ J ys W') ∨ (∃ pre, (∃ k, k ≤ len ∧ pre = downTo f len k) ∧ Jx pre W')) := by
  refine callsIn_of_wp Tryd.func69 rfl h8 ?_ hro
  simp only [Tryd.ntmps69, List.size_toArray, List.length_cons, List.length_nil, Nat.reduceAdd, Nat.reduceSub, Array.replicate_succ, Array.replicate_zero, List.push_toArray, List.append_toArray, List.nil_append, List.cons_append]
  gi_wp2
  gi_loopw [3] (fun i wr => ∃ k : Nat, k ≤ len ∧ i = .int .i64 ((len : Int) - 1 - k) ∧ J (downTo f len k) wr ∧ KpS n₀ Bs W wr)
    (fun i _ => (intOf i + 1).toNat)
  case atStart => exact ⟨0, Nat.zero_le _, by simp, h0, KpS.refl _ _ _⟩
  case round =>
    obtain ⟨k, hk, rfl, hJs, hnx⟩ := hrel
    have hbs : wr.cell? ⟨Bs, 0, none⟩ = some (.slice A len cap) := (hnx.cell Bs 0 (.inr rfl)).trans hBs
    by_cases hlt : k < len
    · obtain ⟨ad, rfl, hb, hc⟩ := hA.resolve_left (by omega)
      have hcx' : wr.cell? (ad.add (len - 1 - k)) = some (.int .u64 ((f (len - 1 - k)).1.2 : Int)) := (World.cell?_of_block (hnx.1 _ (by rw [add_block']; exact hb))).trans (hc _ (by omega))
      obtain ⟨fn, tmps, assign, body, hy, hR⟩ := hY _ (f (len - 1 - k)) wr hJs (by rw [downTo_length]; exact hlt)
      have hfj := hf (len - 1 - k) (by omega)
      have ej : (((f (len - 1 - k)).1.1 : Nat) : Int) = (len : Int) - 1 - k := by rw [hfj]; omega
      dsimp only [encPLn] at hy
      rw [ej] at hy
      have htn : ((len : Int) - 1 - k).toNat = len - 1 - k := by omega
      have hge : (0 : Int) ≤ (len : Int) - 1 - k := by omega
      have hlt2 : (len : Int) - 1 - k < len := by omega
      clear hA hc
      gi_wp2
      refine hR.mono ?_
      rintro e W3 (⟨rfl, hJ3, hk3⟩ | ⟨rfl, hJx3⟩)
      · gi_wp2
        go_roundw
        case rel => exact ⟨k + 1, by omega, by simp; omega, by rw [downTo_succ]; exact hJ3, hnx.trans hk3⟩
        case measure => simp [intOf]; omega
      · gi_wp2
        refine bodyPost_ret (results_none rfl _ _ _) rfl ?_
        exact ⟨⟨_, rfl⟩, .inr ⟨_, ⟨k + 1, by omega, (downTo_succ _ _ _).symm⟩, hJx3⟩⟩
    · obtain rfl : k = len := by omega
      have hneg : ¬ (0 : Int) ≤ (k : Int) - 1 - k := by omega
      clear hA
      gi_wp2
      go_end0
      first | exact ⟨⟨_, rfl⟩, .inl hJs⟩ | exact ⟨⟨_, rfl⟩, .inl ⟨_, rfl, hJs⟩⟩

theorem backn_stops (F : Fence) (n : Nat) (h8 : F.fn 69) (hro : F.round = none) (hn : 1 ≤ n) (Bs n₀ m len cap : Nat) (A : Option Addr) (f : Nat → PLn m) (hf : ∀ j, j < len → (f j).1.1 = j) (hreach : len ≤ 1000000) (w : World) (hBl : Bs < w.heap.size)
    (hBs : w.cell? ⟨Bs, 0, none⟩ = some (.slice A len cap)) (hA : len = 0 ∨ ∃ ad, A = some ad ∧ ad.block < n₀ ∧ ad.block < w.heap.size ∧ ∀ j, j < len → w.cell? (ad.add j) = some (.int .u64 ((f j).1.2 : Int))) :
    SeqStopsK F n Tryd.prog 69 #[.pointer (some ⟨Bs, 0, none⟩)] (encPLn m) (KpS n₀ Bs) (fun ys => ys = downTo f len len) (fun pre => ∃ k, k ≤ len ∧ pre = downTo f len k) len w := fun l J Jx W hW _ _ hY h0 =>
  backn_in F n h8 hro hn l Bs n₀ m len cap A f hf hreach J Jx hY W ((hW.cell (p := ⟨Bs, 0, none⟩) hBl).trans hBs) (hA.imp id (fun ⟨ad, e, h1, h2, h3⟩ => ⟨ad, e, h1, fun j hj => (hW.cell (p := ad.add j) (by rw [add_block']; exact h2)).trans (h3 j hj)⟩)) h0
end Go.Proofs.YtlnneellihkdkaaDoor.D
namespace Go.Proofs.YtlnneellihkdkaaDoor.D
open Go Go.Proofs Go.RowKit Go.Shelf Go.Proofs.YtlnneellihkdkaaDoorW.PrintWords Go.Proofs.YtlnneellihkdkaaDoorW.PrintLast Go.Proofs.YtlnneellihkdkaaDoorW.PrintMore
set_option linter.unusedVariables false
set_option linter.unusedSimpArgs false

theorem add64_run (x y : Int) (w : World) (hx : 0 ≤ x) (hy : 0 ≤ y) (h : x + y < 18446744073709551616) :
    (callFunc 87 #[.int .u64 x, .int .u64 y, .int .u64 0]).run Tryd.prog w = .ok (.value (.tuple #[.int .u64 (x + y), .int .u64 0])) w := by
  rw [run_callFunc_extern Tryd.func87 (by kernel_rfl) (by kernel_rfl) (by kernel_rfl) (e := add64Entry) (by kernel_rfl), run_add64 x y 0 (by omega) (by omega) (by omega) (by omega),
    show (x + y + 0) % 18446744073709551616 = x + y by omega, show (x + y + 0) / 18446744073709551616 = 0 by omega]
  rfl

set_option maxHeartbeats 1000000 in
theorem div64_low (lo y : Int) (h0 : 0 ≤ lo) (h1 : lo ≤ 18446744073709551615) (hy : 1 ≤ y) (hy1 : y ≤ 18446744073709551615) (w : World) :
    Calls Tryd.prog 88 #[.int .u64 0, .int .u64 lo, .int .u64 y] w fun e w' => e = .returned (.tuple #[.int .u64 (lo / y), .int .u64 (lo % y)]) ∧ ∃ n, w' = w.drewN n := by
  have e1 : (y == 0) = false := by simp; omega
  have e2 : ¬ y ≤ 0 := by omega
  go_enter Tryd.func88, Tryd.ntmps88
  go_wp2
  go_quiet (fail)
  go_wp2
  go_ret2
  exact ⟨rfl, _, rfl⟩
end Go.Proofs.YtlnneellihkdkaaDoor.D
namespace Go.Proofs.YtlnneellihkdkaaDoor.D
open Go Go.Proofs Go.RowKit Go.Shelf Go.Proofs.YtlnneellihkdkaaDoorW.PrintWords Go.Proofs.YtlnneellihkdkaaDoorW.PrintLast Go.Proofs.YtlnneellihkdkaaDoorW.PrintMore
attribute [local go_sem] Oper.semAt_some
set_option linter.unusedVariables false
set_option linter.unusedSimpArgs false

theorem mul64_low (r p : Int) (h0 : 0 ≤ r) (h1 : r < 1000000000) (hp : p = r * 1000000000) (w : World) :
    Calls Tryd.prog 85 #[.int .u64 r, .int .u64 1000000000] w fun e w' => e = .returned (.tuple #[.int .u64 0, .int .u64 p]) ∧ w' = w := by
  obtain ⟨n, rfl⟩ := Int.eq_ofNat_of_zero_le h0
  have h := Tryd.bits_Mul64 n 1000000000 (by omega) (by decide) w
  rw [show n * 1000000000 / 18446744073709551616 = 0 by omega, show n * 1000000000 % 18446744073709551616 = n * 1000000000 by omega] at h
  rw [hp]
  exact h
theorem nums_len (k : IntKind) (l : List Int) : (nums k l).length = l.length := by simp [nums]
theorem zeros_made (n : Nat) : madeCells (Value.cells (.int .u64 0)) (n * 1) = (nums .u64 (List.replicate n 0)).toArray := by
  apply Array.ext
  · simp [size_madeCells, nums]
  · intro i h1 h2
    simp [madeCells, nums, Value.cells, Nat.mod_one]
theorem make_u64 (n : Nat) (hn : n ≤ 1000000) (W : World) : (Instr.makeSlice 43 (.int .i64 (n : Int)) (.int .i64 (n : Int))).run Tryd.prog W = .ok (.slice (some ⟨W.heap.size, 0, none⟩) n n) (W.alloc (.cells (nums .u64 (List.replicate n 0)).toArray 65)) := by
  obtain ⟨i0, hi, hz0, hz1, hz2⟩ := info_parts info65
  have h := run_makeSlice (P := Tryd.prog) (w := W) 43 65 i0 (.int .u64 0) Tryd.underlying43 hi hz0 .i64 .i64 (n : Int) (n : Int) (by omega) (by omega) (by rw [hz1]; omega) (by rw [hz2]; omega) (by omega)
  rw [hz1, Int.toNat_natCast, zeros_made] at h
  exact h
/-- a row of limbs in a block of its own -/
theorem V_blk {W : World} {g base : Nat} {qs : List Int} (h : W.heap[g]? = some (.cells (nums .u64 qs).toArray 65 (0, 0))) (hl : qs.length ≤ 1000000) (ok : Nat → Prop) (hok : ok g) (e : Nat) :
    Kd.V (Kd.int .u64) e W base ok (.slice (some ⟨g, 0, none⟩) qs.length qs.length) qs := by
  refine ⟨_, _, rfl, Nat.le_refl _, fun W' hW => ?_⟩
  have h' : W'.heap[g]? = some (.cells (nums .u64 qs).toArray 65 (0, 0)) := (hW g hok (blk_lt h)).trans h
  refine ⟨rfl, by omega, fun _ => ⟨_, rfl, fun j p hp => ⟨[.int .u64 p], rfl, rfl, fun i u hu => ?_⟩⟩⟩
  have hi : i = 0 := by
    cases i with
    | zero => rfl
    | succ i => simp at hu
  subst hi
  obtain rfl : Value.int .u64 p = u := by simpa using hu
  have : (⟨g, 0, none⟩ : Addr).add (j * 1 + 0) = ⟨g, j, none⟩ := by unfold Addr.add; by_cases h0 : j = 0 <;> simp [h0]
  show W'.cell? ((⟨g, 0, none⟩ : Addr).add (j * 1 + 0)) = _
  rw [this, blk_cell h' j]
  simp [nums, hp]
/-- A drawing of the state: the row, the rest. -/
def smStep (y : Int) {len : Nat} (st : List Int × Int) (x : PLn len) : List Int × Int := (st.1.set x.1.1 ((st.2 * 1000000000 + (x.1.2 : Int)) / y), (st.2 * 1000000000 + (x.1.2 : Int)) % y)
structure SmJ (w wL : World) (y : Int) (len : Nat) (st : List Int × Int) (W : World) : Prop where
  q : W.heap[w.heap.size + 1]? = some (.cells (nums .u64 st.1).toArray 65 (0, 0))
  v : W.heap[w.heap.size + 2]? = some (.cells #[.slice (some ⟨w.heap.size + 1, 0, none⟩) len len] 43 (0, 0))
  r : W.heap[w.heap.size + 3]? = some (.cells #[.int .u64 st.2] 65 (0, 0))
  kp : KpS (w.heap.size + 1) (w.heap.size + 4) wL W
  sz : wL.heap.size ≤ W.heap.size
  bel : Below w.heap.size w W
  len : st.1.length = len
  lo : 0 ≤ st.2
  hi : st.2 < y
theorem SmJ_own (w wL : World) (y : Int) (len : Nat) (hs : wL.heap.size = w.heap.size + 5) : OwnFrom wL.heap.size (SmJ w wL y len) := fun s W W' row h hg hr => by
  have hne : ∀ k, k < wL.heap.size → some k ≠ row := fun k hk e => by have := (hr k e.symm).1; omega
  have hz := h.sz
  exact ⟨blk_grown h.q hg (hne _ (by omega)), blk_grown h.v hg (hne _ (by omega)), blk_grown h.r hg (hne _ (by omega)), h.kp.grown (by omega) (by omega) hz hg (fun r e => (hr r e).1), Nat.le_trans hz hg.size,
    ownFrom_below (β := Unit) (Nat.le_refl w.heap.size) (by omega) () W W' row h.bel hg hr, h.len, h.lo, h.hi⟩
theorem ff {len : Nat} (l : List Int) (hl : l.length = len) (h : OkB G l) (j : Nat) (hj : j < len) : (l.getD j 0).toNat < 1000000000 := by
  have := getD_ok (by decide : 1 ≤ G) h j
  have e : G = 1000000000 := rfl
  omega
def limbF (l : List Int) (h : OkB G l) (j : Nat) : PLn (max l.length 1) :=
  if hj : j < l.length then ⟨(j, (l.getD j 0).toNat), ff l rfl h j hj, Nat.lt_of_lt_of_le hj (Nat.le_max_left _ _)⟩ else ⟨(0, 0), by decide, Nat.lt_of_lt_of_le Nat.zero_lt_one (Nat.le_max_right _ _)⟩

set_option maxRecDepth 100000 in
set_option maxHeartbeats 4000000 in
theorem small_in (l : List Int) (y : Int) (hok : OkB G l) (hlen : l.length ≤ 100000) (hy : 1 ≤ y ∧ y < 1000000000) (A : Option Addr) (c : Nat) (w : World) (hV : Kd.V (Kd.int .u64) 65 w w.heap.size (fun _ => True) (.slice A l.length c) l) :
    CallsIn Fence.wide 8 Tryd.prog 74 #[.slice A l.length c, .int .u64 y] w fun e w' => ∃ v q r, e = .returned (.tuple #[v, .int .u64 r]) ∧ Kd.V (Kd.int .u64) 65 w' 0 (fun k => w.heap.size ≤ k) v q ∧ (q, r) = (downTo (limbF l hok) l.length l.length).foldl (smStep y) (List.replicate l.length 0, 0) ∧ Below w.heap.size w w' := by
  have hmk := make_u64 l.length (by omega)
  refine callsIn_of_wp_marks Tryd.func74 rfl trivial ?_ rfl
  simp only [Tryd.ntmps74, List.size_toArray, List.length_cons, List.length_nil, Nat.reduceAdd, Nat.reduceSub, Array.replicate_succ, Array.replicate_zero, List.push_toArray, List.append_toArray, List.nil_append, List.cons_append]
  gi_wp2_with (refine ⟨trivial, ?_⟩; gi_at_call 52; refine (back_in Fence.wide 7 trivial rfl _ _ _ _).mono ?_; rintro e w' ⟨rfl, rfl⟩)
  simp only [Nat.add_assoc, Nat.reduceAdd]
  have hA : l.length = 0 ∨ ∃ ad, A = some ad ∧ ad.block < w.heap.size ∧ ∀ j, j < l.length → w.cell? (ad.add j) = some (.int .u64 (l.getD j 0)) := by
    rcases Nat.eq_zero_or_pos l.length with hz | hpos
    · exact .inl hz
    · obtain ⟨ad, e, _, hcells⟩ := limb_cells hV hpos
      refine .inr ⟨ad, e, ?_, hcells⟩
      obtain ⟨o, ho, _⟩ := cells_of_cell (hcells 0 hpos)
      rw [add_block'] at ho
      exact (Array.getElem?_eq_some_iff.1 ho).1
  have hBL : Below w.heap.size w (((((w.alloc (.cells #[.int .u64 y] 65)).alloc (.cells (nums .u64 (List.replicate l.length 0)).toArray 65)).alloc (.cells #[.slice (some ⟨w.heap.size + 1, 0, none⟩) l.length l.length] 43)).alloc (.cells #[.int .u64 0] 65)).alloc (.cells #[.slice A l.length c] 43)) :=
    (((((Below.refl _ w).alloc (Nat.le_refl _) _).alloc (by simp) _).alloc (by simp; omega) _).alloc (by simp; omega) _).alloc (by simp; omega) _
  have h0 := blk_alloc (blk_alloc (blk_alloc (blk_alloc (blk_new w (.cells #[.int .u64 y] 65)) (.cells (nums .u64 (List.replicate l.length 0)).toArray 65)) (.cells #[.slice (some ⟨w.heap.size + 1, 0, none⟩) l.length l.length] 43)) (.cells #[.int .u64 0] 65)) (.cells #[.slice A l.length c] 43)
  have h1 := blk_alloc (blk_alloc (blk_alloc (blk_new (w.alloc (.cells #[.int .u64 y] 65)) (.cells (nums .u64 (List.replicate l.length 0)).toArray 65)) (.cells #[.slice (some ⟨w.heap.size + 1, 0, none⟩) l.length l.length] 43)) (.cells #[.int .u64 0] 65)) (.cells #[.slice A l.length c] 43)
  have h2 := blk_alloc (blk_alloc (blk_new ((w.alloc (.cells #[.int .u64 y] 65)).alloc (.cells (nums .u64 (List.replicate l.length 0)).toArray 65)) (.cells #[.slice (some ⟨w.heap.size + 1, 0, none⟩) l.length l.length] 43)) (.cells #[.int .u64 0] 65)) (.cells #[.slice A l.length c] 43)
  have h3 := blk_alloc (blk_new (((w.alloc (.cells #[.int .u64 y] 65)).alloc (.cells (nums .u64 (List.replicate l.length 0)).toArray 65)).alloc (.cells #[.slice (some ⟨w.heap.size + 1, 0, none⟩) l.length l.length] 43)) (.cells #[.int .u64 0] 65)) (.cells #[.slice A l.length c] 43)
  have h4 := blk_new ((((w.alloc (.cells #[.int .u64 y] 65)).alloc (.cells (nums .u64 (List.replicate l.length 0)).toArray 65)).alloc (.cells #[.slice (some ⟨w.heap.size + 1, 0, none⟩) l.length l.length] 43)).alloc (.cells #[.int .u64 0] 65)) (.cells #[.slice A l.length c] 43)
  simp only [World.size_alloc, Nat.add_assoc, Nat.reduceAdd] at h1 h2 h3 h4
  have hsL : (((((w.alloc (.cells #[.int .u64 y] 65)).alloc (.cells (nums .u64 (List.replicate l.length 0)).toArray 65)).alloc (.cells #[.slice (some ⟨w.heap.size + 1, 0, none⟩) l.length l.length] 43)).alloc (.cells #[.int .u64 0] 65)).alloc (.cells #[.slice A l.length c] 43)).heap.size = w.heap.size + 5 := by simp
  have hAL : l.length = 0 ∨ ∃ ad, A = some ad ∧ ad.block < w.heap.size ∧ ∀ j, j < l.length → (((((w.alloc (.cells #[.int .u64 y] 65)).alloc (.cells (nums .u64 (List.replicate l.length 0)).toArray 65)).alloc (.cells #[.slice (some ⟨w.heap.size + 1, 0, none⟩) l.length l.length] 43)).alloc (.cells #[.int .u64 0] 65)).alloc (.cells #[.slice A l.length c] 43)).cell? (ad.add j) = some (.int .u64 (l.getD j 0)) :=
    hA.imp id (fun ⟨ad, e, h, hc⟩ => ⟨ad, e, h, fun j hj => (hBL.cell (p := ad.add j) (by rw [add_block']; exact h)).trans (hc j hj)⟩)
  generalize (((((w.alloc (.cells #[.int .u64 y] 65)).alloc (.cells (nums .u64 (List.replicate l.length 0)).toArray 65)).alloc (.cells #[.slice (some ⟨w.heap.size + 1, 0, none⟩) l.length l.length] 43)).alloc (.cells #[.int .u64 0] 65)).alloc (.cells #[.slice A l.length c] 43)) = wL at *
  clear hA hV hmk
  have hT0 : SmJ w wL y l.length (List.replicate l.length 0, 0) wL := ⟨h1, h2, h3, KpS.refl _ _ _, Nat.le_refl _, hBL, by simp, Int.le_refl _, by omega⟩
  have hf : ∀ j, j < l.length → (limbF l hok j).1.1 = j ∧ ((limbF l hok j).1.2 : Int) = l.getD j 0 := fun j hj => by
    unfold limbF
    rw [dif_pos hj]
    exact ⟨rfl, by have := getD_ok (by decide : 1 ≤ G) hok j; show ((l.getD j 0).toNat : Int) = _; omega⟩
  refine wpIn_rangeFunc_ownG rfl (by decide) (gf := 69) (lb := #[.pointer (some ⟨w.heap.size + 4, 0, none⟩)]) rfl trivial (enters_of Tryd.func69 (by kernel_rfl) rfl)
    (backn_stops Fence.wide 7 trivial rfl (by decide) (w.heap.size + 4) (w.heap.size + 1) (max l.length 1) l.length c A (limbF l hok) (fun j hj => (hf j hj).1) (by omega) wL (by omega) (by rw [Lib.cell_of_heap h4]; rfl) (hAL.imp id (fun ⟨ad, e, h, hc⟩ => ⟨ad, e, by omega, by omega, fun j hj => by rw [(hf j hj).2]; exact hc j hj⟩)))
    KpS.trans (fun W l o o' hl ho hc hk => KpS.put (w := wL) (by omega) (by omega) W l o o' hl ho hc hk) (Below.refl _ _) (fun _ => rfl)
    (fun pre W => SmJ w wL y l.length (pre.foldl (smStep y) (List.replicate l.length 0, 0)) W) (fun _ _ _ => False)
    (fun pre W W' row h hg hr => SmJ_own w wL y l.length hsL _ W W' row h hg hr) (fun _ _ _ _ _ hs _ _ => hs) hT0
    (fun x => { tmps := #[Value.slice A l.length c, Value.int IntKind.u64 y, undef, Value.pointer (some { block := w.heap.size, off := 0 }), Value.slice none 0 0, Value.int IntKind.u64 0, Value.pointer (some { block := w.heap.size + 2, off := 0 }), Value.pointer (some { block := w.heap.size + 3, off := 0 }), .int .i64 (x.1.1 : Int), .int .u64 (x.1.2 : Int), undef, undef, undef,
          Value.slice A l.length c, Value.int IntKind.i64 ↑l.length, Value.slice (some { block := w.heap.size + 1, off := 0 }) l.length l.length, Value.slice A l.length c, Value.func (Fn.func 69) #[] #[Value.pointer (some { block := w.heap.size + 4, off := 0 })], .int .i64 (x.1.1 : Int), .int .u64 (x.1.2 : Int),
          undef, undef, undef, undef, undef, undef, undef, undef, undef, undef, undef, undef, undef, undef, undef, undef, undef, undef, undef, undef, undef, undef, undef, undef, undef], defers := [] }) ?assign ?body ?done ?stop
  case assign =>
    intro l x W K hK
    gi_wp2
    exact hK
  case stop =>
    rintro D c pre W _ _ h _
    exact h.elim
  case body =>
    intro lp pre x W hJ hltp
    have hx := x.2
    have e1 : (pre ++ [x]).foldl (smStep y) (List.replicate l.length 0, 0) = smStep y (pre.foldl (smStep y) (List.replicate l.length 0, 0)) x := by simp

    have hpost : ∀ a' W', KeepsFrom wL.heap.size W W' ∧ KpS (w.heap.size + 1) (w.heap.size + 4) W W' ∧ SmJ w wL y l.length (smStep y (pre.foldl (smStep y) (List.replicate l.length 0, 0)) x) W' → ownPostG wL.heap.size (KpS (w.heap.size + 1) (w.heap.size + 4)) (fun pre W => SmJ w wL y l.length (pre.foldl (smStep y) (List.replicate l.length 0, 0)) W) (fun _ _ _ => False) (pre ++ [x]) W Exit.normal a' W' := fun a' W' h => by
      show _ ∧ _ ∧ SmJ w wL y l.length _ W'
      rw [e1]; exact h
    generalize pre.foldl (smStep y) (List.replicate l.length 0, 0) = st at hJ hpost
    obtain ⟨p, hp⟩ : ∃ p, p = st.2 * 1000000000 := ⟨_, rfl⟩
    have hp0 : 0 ≤ p := by have := hJ.lo; omega
    have hp1 : p ≤ 999999999 * 1000000000 := by have := hJ.hi; omega
    have hlo := hJ.lo
    have hhi := hJ.hi
    have HP := Aside0.mk hp
    have HPOST := Aside0.mk hpost
    clear hp hpost e1
    have c7 := blk_cell hJ.r 0
    have hadd := fun W => add64_run p (x.1.2 : Int) W hp0 (by omega) (by omega)
    simp only [List.getElem?_toArray, List.getElem?_cons_zero] at c7
    gi_wp2_with (first | (refine ⟨trivial, ?_⟩; gi_at_call 85; refine (((callsIn_wide (n := 5)).2 (mul64_low st.2 p hlo (by omega) HP.out W)).inRound lp).mono ?_; rintro e W2 ⟨rfl, rfl⟩) | refine ⟨trivial, ?_⟩)
    gi_wp2
    have hxl : x.1.1 < l.length := by have := x.2.2; omega
    have hb0 : W2.heap[w.heap.size]? = some (.cells #[.int .u64 y] 65 (0, 0)) := (hJ.kp.1 _ (by omega)).trans h0
    have hcq : ∀ W' : World, W'.heap = W2.heap → W'.cell? ⟨w.heap.size + 1, x.1.1, none⟩ = some (.int .u64 (st.1.getD x.1.1 0)) := fun W' hW' => by
      have := hJ.q
      rw [← hW'] at this
      rw [blk_cell this]
      have hl := hJ.len
      simp [nums, List.getD_eq_getElem?_getD, List.getElem?_eq_getElem (show x.1.1 < st.1.length by omega)]
    have hfq : ∀ W' : World, W'.heap = W2.heap → W'.frozen? ⟨w.heap.size + 1, x.1.1, none⟩ = false := fun W' hW' => by
      have := hJ.q
      rw [← hW'] at this
      exact blk_frozen this _
    have HJ := Aside0.mk hJ
    have HB0 := Aside0.mk hb0
    have HCQ := Aside0.mk hcq
    have HFQ := Aside0.mk hfq
    clear hJ hb0 hcq hfq c7 hadd
    have hi0 : (0 : Int) ≤ (x.1.1 : Int) := by omega
    have hi1 : (x.1.1 : Int) < (l.length : Int) := by omega
    refine region_round (S := fun W' => W'.cell? ⟨w.heap.size + 2, 0, none⟩ = some (.slice (some ⟨w.heap.size + 1, 0, none⟩) l.length l.length) ∧ W'.cell? ⟨w.heap.size, 0, none⟩ = some (.int .u64 y)) (by kernel_rfl) (by kernel_rfl) ⟨blk_cell (blk_drew HJ.out.v) 0, blk_cell (blk_drew HB0.out) 0⟩ (fun hHeld => ?_)
    refine wpAnyH_take (i := 0) (v := ?_) rfl (by kernel_rfl) (by kernel_rfl) (by kernel_rfl) quietQ (Or.inl ⟨by rfl, ?_⟩) (by assumption) ?_
    rotate_left
    · intro w hSw; (try dsimp only at hSw); go_simp
      all_goals with_reducible rfl
    try simp only [List.getElem_toArray, List.getElem_cons_succ, List.getElem_cons_zero, Act.put, List.setIfInBounds_toArray, List.set_cons_zero, List.set_cons_succ]
    refine wpAnyH_take (i := 1) (v := ?_) rfl (by kernel_rfl) (by kernel_rfl) (by kernel_rfl) quietQ (Or.inl ⟨by rfl, ?_⟩) (by assumption) ?_
    rotate_left
    · intro w hSw; (try dsimp only at hSw); go_simp
      all_goals with_reducible rfl
    try simp only [List.getElem_toArray, List.getElem_cons_succ, List.getElem_cons_zero, Act.put, List.setIfInBounds_toArray, List.set_cons_zero, List.set_cons_succ]
    refine wpAnyH_take (i := 2) (v := ?_) rfl (by kernel_rfl) (by kernel_rfl) (by kernel_rfl) quietQ (Or.inl ⟨by rfl, ?_⟩) (by assumption) ?_
    rotate_left
    · intro w hSw; (try dsimp only at hSw); go_simp
      all_goals with_reducible rfl
    try simp only [List.getElem_toArray, List.getElem_cons_succ, List.getElem_cons_zero, Act.put, List.setIfInBounds_toArray, List.set_cons_zero, List.set_cons_succ]
    refine wpAnyH_take (i := 3) (v := ?_) rfl (by kernel_rfl) (by kernel_rfl) (by kernel_rfl) quietQ (Or.inl ⟨by rfl, ?_⟩) (by assumption) ?_
    rotate_left
    · intro w hSw; (try dsimp only at hSw); go_simp
      all_goals with_reducible rfl
    try simp only [List.getElem_toArray, List.getElem_cons_succ, List.getElem_cons_zero, Act.put, List.setIfInBounds_toArray, List.set_cons_zero, List.set_cons_succ]
    refine wpAnyH_take (i := 4) (v := ?_) rfl (by kernel_rfl) (by kernel_rfl) (by kernel_rfl) quietQ (Or.inl ⟨by rfl, ?_⟩) (by assumption) ?_
    rotate_left
    · intro w hSw; (try dsimp only at hSw); go_simp
      all_goals with_reducible rfl
    try simp only [List.getElem_toArray, List.getElem_cons_succ, List.getElem_cons_zero, Act.put, List.setIfInBounds_toArray, List.set_cons_zero, List.set_cons_succ]
    refine wpAnyH_take (i := 5) (v := ?_) rfl (by kernel_rfl) (by kernel_rfl) (by kernel_rfl) quietQ (Or.inl ⟨by rfl, ?_⟩) (by assumption) ?_
    rotate_left
    · intro w hSw; (try dsimp only at hSw); go_simp
      all_goals with_reducible rfl
    try simp only [List.getElem_toArray, List.getElem_cons_succ, List.getElem_cons_zero, Act.put, List.setIfInBounds_toArray, List.set_cons_zero, List.set_cons_succ]
    refine wpAnyH_take (i := 6) (v := ?_) rfl (by kernel_rfl) (by kernel_rfl) (by kernel_rfl) quietQ (Or.inl ⟨by rfl, ?_⟩) (by assumption) ?_
    rotate_left
    · intro w hSw; (try dsimp only at hSw); go_simp
      all_goals with_reducible rfl
    try simp only [List.getElem_toArray, List.getElem_cons_succ, List.getElem_cons_zero, Act.put, List.setIfInBounds_toArray, List.set_cons_zero, List.set_cons_succ]
    refine wpAnyH_ready (rs := [7]) (by kernel_rfl) (by simp) ?_
    refine AllReadyH.cons rfl (fun K hK => ?_) AllReadyH.nil
    go_simp
    go_at_call 88
    refine (div64_low (p + (x.1.2 : Int)) y (by omega) (by omega) hy.1 (by omega) _).mono ?_
    rintro e w3 ⟨rfl, n3, rfl⟩
    refine hK.out _ _ ⟨blk_cell (blk_drewN (blk_drew HJ.out.v) n3) 0, blk_cell (blk_drewN (blk_drew HB0.out) n3) 0⟩ (fun hHeld3 => ?_)
    clear hK K hHeld
    try simp only [List.getElem_toArray, List.getElem_cons_succ, List.getElem_cons_zero, Act.put, List.setIfInBounds_toArray, List.set_cons_zero, List.set_cons_succ]
    refine wpAnyH_take (i := 8) (v := ?_) rfl (by kernel_rfl) (by kernel_rfl) (by kernel_rfl) quietQ (Or.inl ⟨by rfl, ?_⟩) (by assumption) ?_
    rotate_left
    · intro w hSw; (try dsimp only at hSw); go_simp
      all_goals with_reducible rfl
    try simp only [List.getElem_toArray, List.getElem_cons_succ, List.getElem_cons_zero, Act.put, List.setIfInBounds_toArray, List.set_cons_zero, List.set_cons_succ]
    refine wpAnyH_take (i := 9) (v := ?_) rfl (by kernel_rfl) (by kernel_rfl) (by kernel_rfl) quietQ (Or.inl ⟨by rfl, ?_⟩) (by assumption) ?_
    rotate_left
    · intro w hSw; (try dsimp only at hSw); go_simp
      all_goals with_reducible rfl
    try simp only [List.getElem_toArray, List.getElem_cons_succ, List.getElem_cons_zero, Act.put, List.setIfInBounds_toArray, List.set_cons_zero, List.set_cons_succ]
    refine wpAnyH_take (i := 10) (v := ?_) rfl (by kernel_rfl) (by kernel_rfl) (by kernel_rfl) quietQ (Or.inl ⟨by rfl, ?_⟩) (by assumption) ?_
    rotate_left
    · intro w hSw; (try dsimp only at hSw); go_simp
      all_goals with_reducible rfl
    try simp only [List.getElem_toArray, List.getElem_cons_succ, List.getElem_cons_zero, Act.put, List.setIfInBounds_toArray, List.set_cons_zero, List.set_cons_succ]
    refine wpAnyH_take (i := 11) (v := ?_) rfl (by kernel_rfl) (by kernel_rfl) (by kernel_rfl) quietQ (Or.inl ⟨by rfl, ?_⟩) (by assumption) ?_
    rotate_left
    · intro w hSw; (try dsimp only at hSw); go_simp
      all_goals with_reducible rfl
    try simp only [List.getElem_toArray, List.getElem_cons_succ, List.getElem_cons_zero, Act.put, List.setIfInBounds_toArray, List.set_cons_zero, List.set_cons_succ]
    have hcq := HCQ.out W2 rfl
    have hfq := HFQ.out W2 rfl
    have hs7 : ((W2.drew.drewN n3).setCell ⟨w.heap.size + 1, x.1.1, none⟩ (.int .u64 ((p + (x.1.2 : Int)) / y))).heap[w.heap.size + 3]? = some (.cells #[.int .u64 st.2] 65 (0, 0)) := blk_far (blk_drewN (blk_drew HJ.out.r) n3) (by simp) _
    have hc7 := blk_cell hs7 0
    have hf7 := blk_frozen hs7 0
    simp only [List.getElem?_toArray, List.getElem?_cons_zero] at hc7
    have hc7b := blk_cell HJ.out.r 0
    have hf7b := blk_frozen HJ.out.r 0
    simp only [List.getElem?_toArray, List.getElem?_cons_zero] at hc7b
    have HS7 := Aside0.mk hs7
    clear hs7
    refine wpAnyH_ready (rs := [12]) (by kernel_rfl) (by simp) ?_
    refine AllReadyH.cons rfl (fun K hK => ?_) AllReadyH.nil
    go_simp
    refine hK.out _ _ ⟨blk_cell (blk_far (p := ⟨w.heap.size + 1, x.1.1, none⟩) (blk_drewN (blk_drew HJ.out.v) n3) (by simp) _) 0, blk_cell (blk_far (p := ⟨w.heap.size + 1, x.1.1, none⟩) (blk_drewN (blk_drew HB0.out) n3) (by simp) _) 0⟩ (fun hHeld4 => ?_)
    clear hK K hHeld3 hcq hfq
    try simp only [List.getElem_toArray, List.getElem_cons_succ, List.getElem_cons_zero, Act.put, List.setIfInBounds_toArray, List.set_cons_zero, List.set_cons_succ]
    refine wpAnyH_ready (rs := [13]) (by kernel_rfl) (by simp) ?_
    refine AllReadyH.cons rfl (fun K hK => ?_) AllReadyH.nil
    go_simp
    refine hK.out _ _ ⟨blk_cell (blk_far (p := ⟨w.heap.size + 3, 0, none⟩) (blk_far (p := ⟨w.heap.size + 1, x.1.1, none⟩) (blk_drewN (blk_drew HJ.out.v) n3) (by simp) _) (by simp) _) 0, blk_cell (blk_far (p := ⟨w.heap.size + 3, 0, none⟩) (blk_far (p := ⟨w.heap.size + 1, x.1.1, none⟩) (blk_drewN (blk_drew HB0.out) n3) (by simp) _) (by simp) _) 0⟩ (fun hHeld5 => ?_)
    refine wpAnyH_done (by kernel_rfl) ?_ _
    refine And.intro rfl ?_
    refine HPOST.out { tmps := #[], defers := [] } _ ?_
    have hJ := HJ.out
    have hpd := HP.out
    have hmod := Int.emod_nonneg (p + (x.1.2 : Int)) (show y ≠ 0 by omega)
    have hmod2 := Int.emod_lt_of_pos (p + (x.1.2 : Int)) (show 0 < y by omega)
    refine ⟨⟨by simp, fun k o _ ho hc => ?_⟩, ⟨fun k hk => ?_, ?_⟩, ⟨?_, ?_, ?_, hJ.kp.trans ⟨fun k hk => ?_, ?_⟩, ?_, ?_, ?_, ?_, ?_⟩⟩
    · have n1 : k ≠ w.heap.size + 1 := by rintro rfl; rw [hJ.q] at ho; cases ho; simp [Obj.isCells] at hc
      have n3' : k ≠ w.heap.size + 3 := by rintro rfl; rw [hJ.r] at ho; cases ho; simp [Obj.isCells] at hc
      rw [Below.heap_setCell _ _ _ _ n3', Below.heap_setCell _ _ _ _ n1]
      exact ho
    · rw [Below.heap_setCell _ _ _ _ (by simp; omega), Below.heap_setCell _ _ _ _ (by simp; omega)]; rfl
    · rw [Below.heap_setCell _ _ _ _ (by simp), Below.heap_setCell _ _ _ _ (by simp)]; rfl
    · refine blk_far (blk_put (blk_drewN (blk_drew hJ.q) n3) _ _ ?_) (by simp) _
      simp only [smStep, nums, List.setIfInBounds_toArray, ← List.map_set, hpd]
    · exact blk_far (blk_far (blk_drewN (blk_drew hJ.v) n3) (by simp) _) (by simp) _
    · refine blk_put HS7.out 0 _ ?_
      simp only [smStep, hpd]; rfl
    · rw [Below.heap_setCell _ _ _ _ (by simp; omega), Below.heap_setCell _ _ _ _ (by simp; omega)]; rfl
    · rw [Below.heap_setCell _ _ _ _ (by simp), Below.heap_setCell _ _ _ _ (by simp)]; rfl
    · have := hJ.sz; simpa using this
    · exact ((show Below w.heap.size w (W2.drewN (1 + n3)) from hJ.bel.trans ⟨rfl, rfl, rfl, Nat.le_refl _, fun _ _ => rfl⟩).setCell (p := ⟨w.heap.size + 1, x.1.1, none⟩) (by simp) _).setCell (p := ⟨w.heap.size + 3, 0, none⟩) (by simp) _
    · simp [smStep, hJ.len]
    · simp only [smStep, ← hpd]; exact hmod
    · simp only [smStep, ← hpd]; exact hmod2
  case done =>
    rintro D ys W hD rfl hJ hK
    obtain ⟨st, hst⟩ : ∃ st, st = (downTo (limbF l hok) l.length l.length).foldl (smStep y) (List.replicate l.length 0, 0) := ⟨_, rfl⟩
    rw [← hst] at hJ
    have HST := Aside0.mk hst
    clear hst
    have c6 := blk_cell hJ.v 0
    have c7 := blk_cell hJ.r 0
    simp only [List.getElem?_toArray, List.getElem?_cons_zero] at c6 c7
    gi_wp2
    gi_region
    all_goals gi_wp2
    refine ⟨by simp, .inl ⟨_, _, rfl, run_takeDeferred (w := W.drew) hK, ?_⟩⟩
    refine ⟨Value.tuple #[.slice (some ⟨w.heap.size + 1, 0, none⟩) l.length l.length, .int .u64 st.2], by simp [results, Tryd.results74, go_sem], ?_⟩
    have hbel := (below_drew1 hJ.bel).trans (belowK_b (w := w) (Nat.le_refl _) W.drew D _ (.deferred none) (by omega) hK rfl rfl)
    have hq : (W.drew.putObj D (.deferred none)).heap[w.heap.size + 1]? = some (.cells (nums .u64 st.1).toArray 65 (0, 0)) := (World.putObj_heap_other (by omega)).trans (blk_drew hJ.q)
    have hV := V_blk (base := 0) hq (by have := hJ.len; omega) (fun k => w.heap.size ≤ k) (Nat.le_succ _) 65
    rw [hJ.len] at hV
    exact ⟨_, st.1, st.2, rfl, hV, HST.out, hbel⟩

/-! ### what the rounds come to -/
def smR (y : Int) : List Int → List Int × Int
  | [] => ([], 0)
  | x :: l => (((smR y l).2 * 1000000000 + x) / y :: (smR y l).1, ((smR y l).2 * 1000000000 + x) % y)
theorem smR_all (y : Int) (hy : 1 ≤ y) (l : List Int) (h : OkB G l) : vB G l = y * vB G (smR y l).1 + (smR y l).2 ∧ 0 ≤ (smR y l).2 ∧ (smR y l).2 < y ∧ OkB G (smR y l).1 ∧ (smR y l).1.length = l.length := by
  have hG : G = 1000000000 := rfl
  induction l with
  | nil => exact ⟨by simp [smR, vB], Int.le_refl _, by show (0 : Int) < y; omega, fun x hx => by simp [smR] at hx, rfl⟩
  | cons x l ih =>
    obtain ⟨h1, h2, h3, h4, h5⟩ := ih (fun z hz => h z (List.mem_cons_of_mem _ hz))
    have hx := h x (List.mem_cons_self ..)
    obtain ⟨r, hr⟩ : ∃ r, r = (smR y l).2 := ⟨_, rfl⟩
    obtain ⟨q, hq⟩ : ∃ q, q = (smR y l).1 := ⟨_, rfl⟩
    simp only [smR, ← hr, ← hq]
    rw [← hr, ← hq] at h1
    rw [← hr] at h2 h3
    rw [← hq] at h4 h5
    have hdm := Int.mul_ediv_add_emod (r * 1000000000 + x) y
    refine ⟨?_, Int.emod_nonneg _ (by omega), Int.emod_lt_of_pos _ (by omega), ?_, by simp [h5]⟩
    · rw [vB, vB, h1, hG, Int.mul_add, Int.mul_add]
      rw [show y * (1000000000 * vB 1000000000 q) = 1000000000 * (y * vB 1000000000 q) by rw [Int.mul_left_comm]]
      omega
    · intro z hz
      rcases List.mem_cons.1 hz with rfl | hz
      · refine ⟨Int.ediv_nonneg (by omega) (by omega), ?_⟩
        refine Int.ediv_lt_of_lt_mul (by omega) ?_
        rw [hG]
        have : (r + 1) * 1000000000 ≤ y * 1000000000 := Int.mul_le_mul_of_nonneg_right (by omega) (by omega)
        rw [Int.mul_comm 1000000000 y]
        omega
      · exact h4 z hz
theorem fold_sm (l : List Int) (y : Int) (hok : OkB G l) (k : Nat) (hk : k ≤ l.length) :
    (downTo (limbF l hok) l.length k).foldl (smStep y) (List.replicate l.length 0, 0) = (List.replicate (l.length - k) 0 ++ (smR y (l.drop (l.length - k))).1, (smR y (l.drop (l.length - k))).2) := by
  have hl : ∀ m : List Int, (smR y m).1.length = m.length := fun m => by
    induction m with
    | nil => rfl
    | cons x m ih => simp [smR, ih]
  induction k with
  | zero => simp [downTo, smR]
  | succ k ih =>
    rw [downTo_succ, List.foldl_append, ih (by omega), List.foldl_cons, List.foldl_nil]
    have hj : l.length - 1 - k < l.length := by omega
    have e : l.drop (l.length - (k + 1)) = l.getD (l.length - 1 - k) 0 :: l.drop (l.length - k) := by
      rw [show l.length - (k + 1) = l.length - 1 - k by omega, List.drop_eq_getElem_cons hj, show l.length - 1 - k + 1 = l.length - k by omega, List.getD_eq_getElem?_getD, List.getElem?_eq_getElem hj]
      rfl
    have hx : ((limbF l hok (l.length - 1 - k)).1.2 : Int) = l.getD (l.length - 1 - k) 0 := by
      unfold limbF
      rw [dif_pos hj]
      have := getD_ok (by decide : 1 ≤ G) hok (l.length - 1 - k)
      show ((l.getD (l.length - 1 - k) 0).toNat : Int) = _
      omega
    have hi : (limbF l hok (l.length - 1 - k)).1.1 = l.length - (k + 1) := by
      unfold limbF
      rw [dif_pos hj]
      show l.length - 1 - k = _
      omega
    unfold smStep
    rw [hx, hi, e]
    simp only [smR]
    congr 1
    rw [List.set_append_left _ _ (by simp; omega), show l.length - k = (l.length - (k + 1)) + 1 by omega, List.replicate_succ', List.set_append_right _ _ (by simp)]
    simp
theorem smalldiv_calls (l : List Int) (y : Int) (hok : OkB G l) (hlen : l.length ≤ 100000) (hy : 1 ≤ y ∧ y < 1000000000) (A : Option Addr) (c : Nat) (w : World) (hV : Kd.V (Kd.int .u64) 65 w w.heap.size (fun _ => True) (.slice A l.length c) l) :
    Calls Tryd.prog 74 #[.slice A l.length c, .int .u64 y] w fun e w' => ∃ v q r, e = .returned (.tuple #[v, .int .u64 r]) ∧ Kd.V (Kd.int .u64) 65 w' 0 (fun k => w.heap.size ≤ k) v q ∧ (vB G l = y * vB G q + r ∧ 0 ≤ r ∧ r < y ∧ OkB G q ∧ q.length = l.length) ∧ Below w.heap.size w w' := by
  refine (callsIn_wide.1 (small_in l y hok hlen hy A c w hV)).mono ?_
  rintro e w' ⟨v, q, r, rfl, hV', hqr, hB⟩
  rw [fold_sm l y hok _ (Nat.le_refl _)] at hqr
  simp only [Nat.sub_self, List.replicate_zero, List.nil_append, List.drop_zero] at hqr
  cases hqr
  exact ⟨_, _, _, rfl, hV', smR_all y hy.1 l hok, hB⟩
end Go.Proofs.YtlnneellihkdkaaDoor.D
