/- number.divide's test: whether a limb times the divisor fits into the rest. number.divide by one limb. number.divide by several limbs: parts. -/
import Derived.Test.YtlnneellihkdkaaDoorDx15
import Derived.Test.YtlnneellihkdkaaDoorDx17
import Derived.Test.YtlnneellihkdkaaDoorDx20
import Derived.Test.YtlnneellihkdkaaDoorHDivB
import Derived.Laws.AppendOwn
import Derived.Laws.OwnMore
namespace Go.Proofs.YtlnneellihkdkaaDoor.D
open Go Go.Proofs Go.RowKit Go.Shelf Go.Proofs.YtlnneellihkdkaaDoorW.PrintWords Go.Proofs.YtlnneellihkdkaaDoorW.PrintLast Go.Proofs.YtlnneellihkdkaaDoorW.PrintMore
set_option linter.unusedVariables false
set_option linter.unusedSimpArgs false

theorem C_blk {W : World} {g : Nat} {qs : List Int} (h : W.heap[g]? = some (.cells (nums .u64 qs).toArray 65 (0, 0))) (hl : qs.length ≤ 1000000) :
    Kd.C (Kd.int .u64) W (some ⟨g, 0, none⟩) qs.length qs := (Kd.V_reads' (V_blk (base := 0) h hl (fun _ => True) trivial 65)).2.2
theorem R_from {e : Nat} {w : World} {base : Nat} {ok : Nat → Prop} {v : Value} {xs : List Int} (h : Kd.R (Kd.int .u64) e w base ok v xs) (hp : 0 < xs.length) : Kd.V (Kd.int .u64) e w 0 (fun k => base ≤ k) v xs := by
  refine Kd.R_V (base := base) ⟨fun k hk => ?_, h.2⟩
  obtain ⟨g, cap, rfl, hg, _⟩ := Kd.R_form h hp
  have : g = k := by simpa [Value.ownBlock] using hk
  omega
/-- times, as an answer -/
theorem times_at (b : List Int) (n : Int) (hb : OkB G b) (hlb : b.length ≤ 100000) (hn : 0 ≤ n ∧ n < G) :
    ∃ r : List Int, (OkB G r ∧ r.length = b.length + 2 ∧ vB G r = vB G b * n) ∧ ∀ (A : Option Addr) (c : Nat) (g : Nat) (W : World), Kd.C (Kd.int .u64) W A b.length b → b.length ≤ c → W.heap[g]? = some (.cells #[.int .u64 n] 65 (0, 0)) →
      Calls Tryd.prog 35 #[.slice A b.length c, .slice (some ⟨g, 0, none⟩) 1 1] W fun e w' => ∃ A' c', e = .returned (.slice A' r.length c') ∧ Kd.V (Kd.int .u64) 65 w' 0 (fun k => W.heap.size ≤ k) (.slice A' r.length c') r ∧ Below W.heap.size W w' := by
  obtain ⟨r, hr, h1, h2, h3⟩ := times_prog_ev b [n] hb (fun x hx => by rw [List.mem_singleton.1 hx]; exact hn) hlb (by simp)
  obtain ⟨k, hk⟩ := hr.rounds
  refine ⟨r, ⟨h1, by simpa using h2, by rw [h3]; simp [vB]⟩, fun A c g W hC hc hg => ?_⟩
  refine (number_times.calls k A c b (some ⟨g, 0, none⟩) 1 [n] r W hC hc (C_blk (qs := [n]) hg (by simp)) (Nat.le_refl _) hk).mono ?_
  rintro e w' ⟨v, rfl, hR, hB⟩
  obtain ⟨A', c', rfl⟩ := Kd.R_slice hR
  exact ⟨A', c', rfl, R_from hR (by rw [h2]; simp), hB⟩
theorem size_at (a b : List Int) (ha : OkB G a) (hb : OkB G b) (hla : a.length ≤ 1000000) (hlb : b.length ≤ 1000000) (A A2 : Option Addr) (c c2 : Nat) (W : World) (h1 : Kd.C (Kd.int .u64) W A a.length a) (h2 : a.length ≤ c) (h3 : Kd.C (Kd.int .u64) W A2 b.length b) (h4 : b.length ≤ c2) :
    Calls Tryd.prog 40 #[.slice A a.length c, .slice A2 b.length c2] W fun e w' => e = .returned (.int .i64 (cmpI (vB G a) (vB G b))) ∧ Below W.heap.size W w' := by
  obtain ⟨k, hk⟩ := (size_prog_ev a b ha hb (by omega) (by omega)).rounds
  exact number_size.calls k A c a A2 c2 b _ W h1 h2 h3 h4 hk
theorem region_plain {P : Program} {ops : Array Oper} {id : Nat} {S : World → Prop} {Q : Exit → Act → World → Prop} {a : Act} {w : World} (hm : P.follows .mixedOrders = true) (hS : S w.drew)
    (h : S w.drew → wpAnyH P .any ops (fun e a w => e = .normal ∧ Q .normal a w) S ops.size (Array.replicate ops.size false) a w.drew) : (Code.region id ops true).wp P Q a w :=
  wp_mono (wp_region_held_drew hm hS h) (fun e a w ⟨he, h⟩ => by subst he; exact h)
theorem cmpI_le (x y : Int) : decide (cmpI x y ≤ 0) = decide (x ≤ y) := by
  unfold cmpI
  by_cases h : x < y
  · rw [if_pos h]; simp; omega
  · rw [if_neg h]
    by_cases h2 : x = y
    · rw [if_pos h2]; simp; omega
    · rw [if_neg h2]; simp; omega
theorem cells2 {p q : Addr} {u v : Value} {W W' : World} (h : W.cell? p = some u ∧ W.cell? q = some v) (hp : p.block < W.heap.size) (hq : q.block < W.heap.size) (hB : Below W.heap.size W W') : W'.cell? p = some u ∧ W'.cell? q = some v :=
  ⟨(hB.cell hp).trans h.1, (hB.cell hq).trans h.2⟩

set_option maxRecDepth 100000 in
set_option maxHeartbeats 2000000 in
theorem fits_calls (b r : List Int) (n : Int) (hb : OkB G b) (hr : OkB G r) (hlb : b.length ≤ 100000) (hlr : r.length ≤ 100000) (hn : 0 ≤ n ∧ n < G) (p3 p9 : Addr) (A A2 : Option Addr) (c c2 : Nat) (W : World)
    (h3 : W.cell? p3 = some (.slice A b.length c)) (h9 : W.cell? p9 = some (.slice A2 r.length c2)) (hC : Kd.C (Kd.int .u64) W A b.length b) (hc : b.length ≤ c) (hC2 : Kd.C (Kd.int .u64) W A2 r.length r) (hc2 : r.length ≤ c2) :
    Calls Tryd.prog 75 #[.int .u64 n, .pointer (some p3), .pointer (some p9)] W fun e w' => e = .returned (.bool (decide (vB G b * n ≤ vB G r))) ∧ Below W.heap.size W w' := by
  obtain ⟨x, ⟨hx1, hx2, hx3⟩, ht⟩ := times_at b n hb hlb hn
  have hx2' : x.length ≤ 1000000 := by omega
  clear hx2
  have hp3 := World.block_lt_of_cell? W p3 h3
  have hp9 := World.block_lt_of_cell? W p9 h9
  have hcm := cmpI_le (vB G x) (vB G r)
  rw [hx3] at hcm
  have HCM := Aside0.mk hcm
  have HX3 := Aside0.mk hx3
  have HT := Aside0.mk ht
  have HC := Aside0.mk hC
  have HC2 := Aside0.mk hC2
  have H39 := Aside0.mk (show W.cell? p3 = some (.slice A b.length c) ∧ W.cell? p9 = some (.slice A2 r.length c2) from ⟨h3, h9⟩)
  clear hcm hx3 ht hC hC2 h3 h9
  go_enter Tryd.func75, Tryd.ntmps75
  go_wp2
  refine region_plain (S := fun w' => w'.cell? p3 = some (.slice A b.length c) ∧ w'.cell? p9 = some (.slice A2 r.length c2)) (by kernel_rfl) H39.out (fun hHeld => ?_)
  refine wpAnyH_take (i := 0) (v := ?_) rfl (by kernel_rfl) (by kernel_rfl) (by kernel_rfl) quietQ (Or.inl ⟨by rfl, ?_⟩) (by assumption) ?_
  rotate_left
  · intro w hSw; (try dsimp only at hSw); go_simp
    all_goals with_reducible rfl
  try simp only [List.getElem_toArray, List.getElem_cons_succ, List.getElem_cons_zero, Act.put, List.setIfInBounds_toArray, List.set_cons_zero, List.set_cons_succ]
  refine wpAnyH_take (i := 1) (v := ?_) rfl (by kernel_rfl) (by kernel_rfl) (by kernel_rfl) quietQ (Or.inl ⟨by rfl, ?_⟩) (by assumption) ?_
  rotate_left
  · intro w hSw; (try dsimp only at hSw); go_simp
    all_goals with_reducible rfl
  try simp only [List.getElem_toArray, List.getElem_cons_succ, List.getElem_cons_zero, Act.put, List.setIfInBounds_toArray, List.set_cons_zero, List.set_cons_succ]
  refine wpAnyH_take (i := 4) (v := ?_) rfl (by kernel_rfl) (by kernel_rfl) (by kernel_rfl) quietQ (Or.inl ⟨by rfl, ?_⟩) (by assumption) ?_
  rotate_left
  · intro w hSw; (try dsimp only at hSw); go_simp
    all_goals with_reducible rfl
  try simp only [List.getElem_toArray, List.getElem_cons_succ, List.getElem_cons_zero, Act.put, List.setIfInBounds_toArray, List.set_cons_zero, List.set_cons_succ]
  refine wpAnyH_ready (rs := [2]) (by kernel_rfl) (by simp) ?_
  refine AllReadyH.cons rfl (fun K hK => ?_) AllReadyH.nil
  go_simp
  have hB1 : Below W.heap.size W ((W.alloc (.cells #[.int .u64 n] 65)).drew) := below_drew1 ((Below.refl _ W).alloc (Nat.le_refl _) _)
  refine hK.out _ _ (cells2 H39.out hp3 hp9 hB1) (fun hHeld1 => ?_)
  clear hK K hHeld
  try simp only [List.getElem_toArray, List.getElem_cons_succ, List.getElem_cons_zero, Act.put, List.setIfInBounds_toArray, List.set_cons_zero, List.set_cons_succ]
  refine wpAnyH_ready (rs := [3]) (by kernel_rfl) (by simp) ?_
  refine AllReadyH.cons rfl (fun K hK => ?_) AllReadyH.nil
  go_simp
  go_at_call 35
  refine (HT.out A c W.heap.size ((W.alloc (.cells #[.int .u64 n] 65)).drew) (Kd.C_below HC.out hB1) hc (blk_drew (blk_new W _))).mono ?_
  rintro e w3 ⟨A3, c3, rfl, hV3, hB3⟩
  have hB13 := hB1.trans (hB3.mono hB1.size)
  refine hK.out _ _ (cells2 H39.out hp3 hp9 hB13) (fun hHeld3 => ?_)
  clear hK K hHeld1
  try simp only [List.getElem_toArray, List.getElem_cons_succ, List.getElem_cons_zero, Act.put, List.setIfInBounds_toArray, List.set_cons_zero, List.set_cons_succ]
  refine wpAnyH_ready (rs := [5]) (by kernel_rfl) (by simp) ?_
  refine AllReadyH.cons rfl (fun K hK => ?_) AllReadyH.nil
  go_simp
  go_at_call 40
  refine (size_at x r hx1 hr hx2' (by omega) A3 A2 c3 c2 w3 (Kd.V_reads' hV3).2.2 (Kd.V_reads' hV3).2.1 (Kd.C_below HC2.out hB13) hc2).mono ?_
  rintro e w4 ⟨rfl, hB4⟩
  have hB14 := hB13.trans (hB4.mono hB13.size)
  refine hK.out _ _ (cells2 H39.out hp3 hp9 hB14) (fun hHeld4 => ?_)
  clear hK K hHeld3
  try simp only [List.getElem_toArray, List.getElem_cons_succ, List.getElem_cons_zero, Act.put, List.setIfInBounds_toArray, List.set_cons_zero, List.set_cons_succ]
  refine wpAnyH_take (i := 6) (v := ?_) rfl (by kernel_rfl) (by kernel_rfl) (by kernel_rfl) quietQ (Or.inl ⟨by rfl, ?_⟩) (by assumption) ?_
  rotate_left
  · intro w hSw; (try dsimp only at hSw); go_simp
    all_goals with_reducible rfl
  try simp only [List.getElem_toArray, List.getElem_cons_succ, List.getElem_cons_zero, Act.put, List.setIfInBounds_toArray, List.set_cons_zero, List.set_cons_succ]
  refine wpAnyH_take (i := 7) (v := ?_) rfl (by kernel_rfl) (by kernel_rfl) (by kernel_rfl) quietQ (Or.inl ⟨by rfl, ?_⟩) (by assumption) ?_
  rotate_left
  · intro w hSw; (try dsimp only at hSw); go_simp
    all_goals with_reducible rfl
  try simp only [List.getElem_toArray, List.getElem_cons_succ, List.getElem_cons_zero, Act.put, List.setIfInBounds_toArray, List.set_cons_zero, List.set_cons_succ]
  refine wpAnyH_done (by kernel_rfl) ?_ _
  refine And.intro rfl ?_
  go_wp2
  go_ret
  exact ⟨by rw [HX3.out, HCM.out]; rfl, hB14⟩
end Go.Proofs.YtlnneellihkdkaaDoor.D
namespace Go.Proofs.YtlnneellihkdkaaDoor.D
open Go Go.Proofs Go.RowKit Go.Shelf Go.Proofs.YtlnneellihkdkaaDoorW.PrintWords Go.Proofs.YtlnneellihkdkaaDoorW.PrintLast Go.Proofs.YtlnneellihkdkaaDoorW.PrintMore
set_option linter.unusedVariables false
set_option linter.unusedSimpArgs false

theorem C_cells {W : World} {A : Option Addr} {n : Nat} {xs : List Int} (h : Kd.C (Kd.int .u64) W A n xs) (hp : 0 < n) : ∃ ad, A = some ad ∧ ∀ j, j < n → W.cell? (ad.add j) = some (.int .u64 (xs.getD j 0)) := by
  obtain ⟨h1, h2, h3⟩ := h
  obtain ⟨ad, e, hc⟩ := h3 hp
  refine ⟨ad, e, fun j hj => ?_⟩
  have hx : xs[j]? = some (xs.getD j 0) := by rw [List.getD_eq_getElem?_getD, List.getElem?_eq_getElem (by omega)]; rfl
  obtain ⟨c, h4, h5, h6⟩ := hc j _ hx
  have : c = [.int .u64 (xs.getD j 0)] := h5
  subst this
  have := h6 0 _ rfl
  have e1 : j * (Kd.int IntKind.u64).sz + 0 = j := by show j * 1 + 0 = j; omega
  rwa [e1] at this
theorem C_of_cells {W : World} {A : Option Addr} {xs : List Int} (hl : xs.length ≤ 1000000) (h : 0 < xs.length → ∃ ad, A = some ad ∧ ∀ j, j < xs.length → W.cell? (ad.add j) = some (.int .u64 (xs.getD j 0))) : Kd.C (Kd.int .u64) W A xs.length xs := by
  refine ⟨rfl, by omega, fun hp => ?_⟩
  obtain ⟨ad, e, hc⟩ := h hp
  refine ⟨ad, e, fun j p hj => ⟨[.int .u64 p], rfl, rfl, fun i u hu => ?_⟩⟩
  have hi : i = 0 := by
    cases i with
    | zero => rfl
    | succ i => simp at hu
  subst hi
  obtain rfl : Value.int .u64 p = u := by simpa using hu
  have hlt : j < xs.length := (List.getElem?_eq_some_iff.1 hj).1
  have := hc j hlt
  rw [List.getD_eq_getElem?_getD, hj, Option.getD_some] at this
  show W.cell? (ad.add (j * 1 + 0)) = _
  rw [show j * 1 + 0 = j by omega]
  exact this
/-- a row that is read, with its one block -/
theorem V_of_C {W : World} {A : Option Addr} {c e base : Nat} {xs : List Int} (h : Kd.C (Kd.int .u64) W A xs.length xs) (hl : xs.length ≤ 1000000) (hc : xs.length ≤ c) (ok : Nat → Prop) (hok : ∀ ad, A = some ad → 0 < xs.length → ok ad.block) : Kd.V (Kd.int .u64) e W base ok (.slice A xs.length c) xs := by
  refine ⟨_, _, rfl, hc, fun W' hW => C_of_cells hl fun hp => ?_⟩
  obtain ⟨ad, e, hcs⟩ := C_cells h hp
  have h0 := hcs 0 hp
  have hb : ad.block < W.heap.size := by have := World.block_lt_of_cell? W _ h0; rwa [add_block'] at this
  exact ⟨ad, e, fun j hj => (World.cell?_of_block (by rw [add_block']; exact hW _ (hok ad e hp) hb)).trans (hcs j hj)⟩

set_option maxRecDepth 100000 in
set_option maxHeartbeats 2000000 in
theorem divide_one (l : List Int) (y : Int) (hok : OkB G l) (hlen : l.length ≤ 100000) (hy : 1 ≤ y ∧ y < 1000000000) (A A2 : Option Addr) (c c2 : Nat) (w : World) (hC : Kd.C (Kd.int .u64) w A l.length l) (hc : l.length ≤ c) (hC2 : Kd.C (Kd.int .u64) w A2 1 [y]) :
    Calls Tryd.prog 61 #[.slice A l.length c, .slice A2 1 c2] w fun e w' => ∃ v q g r, e = .returned (.tuple #[v, .slice (some ⟨g, 0, none⟩) 1 1]) ∧ w.heap.size ≤ g ∧ Kd.V (Kd.int .u64) 65 w' 0 (fun k => w.heap.size ≤ k) v q ∧ w'.heap[g]? = some (.cells #[.int .u64 r] 65 (0, 0)) ∧ (vB G l = y * vB G q + r ∧ 0 ≤ r ∧ r < y ∧ OkB G q ∧ q.length = l.length) ∧ Below w.heap.size w w' := by
  obtain ⟨ad, rfl, hcell⟩ := C_cells hC2 Nat.zero_lt_one
  have h0 := hcell 0 Nat.zero_lt_one
  have e0 : ad.add 0 = ad := by unfold Addr.add; split <;> simp_all
  rw [e0] at h0
  have h0' : w.cell? ad = some (.int .u64 y) := h0
  have HV := Aside0.mk (V_of_C (e := 65) (base := w.heap.size) hC (by omega) hc (fun _ => True) (fun _ _ _ => trivial))
  have had := World.block_lt_of_cell? w ad h0'
  clear hcell hC2 hC h0
  go_enter Tryd.func61, Tryd.ntmps61
  have hB1 : Below w.heap.size w (w.alloc (.cells #[.slice (some ad) 1 c2] 43)) := (Below.refl _ w).alloc (Nat.le_refl _) _
  have HV1 := Aside0.mk (Kd.V_below HV.out hB1)
  go_wp2_with (go_at_call 74; refine (smalldiv_calls l y hok hlen hy A c _ HV1.out).mono ?_; rintro e w3 ⟨v, q, r, rfl, hV3, hq3, hB3⟩)
  have hB13 := hB1.trans (hB3.mono hB1.size)
  refine bodyPost_ret (v := .tuple #[v, .slice (some ⟨w3.heap.size, 0, none⟩) 1 1]) (by simp [results, Tryd.results61, go_sem]) rfl ?_
  exact ⟨v, q, w3.heap.size, r, rfl, hB13.size, Kd.V_mono (Kd.V_below hV3 ((Below.refl _ w3).alloc (Nat.le_refl _) _)) (fun k hk => Nat.le_trans hB1.size hk), blk_new w3 _, hq3, hB13.alloc hB13.size _⟩
end Go.Proofs.YtlnneellihkdkaaDoor.D
namespace Go.Proofs.YtlnneellihkdkaaDoor.D
open Go Go.Proofs Go.RowKit Go.Shelf Go.Proofs.YtlnneellihkdkaaDoorW.PrintWords Go.Proofs.YtlnneellihkdkaaDoorW.PrintLast Go.Proofs.YtlnneellihkdkaaDoorW.PrintMore
set_option linter.unusedVariables false
set_option linter.unusedSimpArgs false

theorem wpListIn_append_run {F : Fence} {n : Nat} {P : Program} {w : World} {ops : Array Oper} {rest : List Oper} {o : Oper} {a : Act} {Q : Exit → Act → World → Prop}
    (hg : o.guard = none) (s x : Operand) (t : TypeId) (hop : o.op = Op.call { callee := Callee.builtin Builtin.append, args := #[s, x], argTypes := #[t, t] }) {v xv v' : Value} {w' : World}
    (hs : a.eval s = v) (hx : a.eval x = xv) (hrun : (Builtin.append_ #[t, t] o.type #[v, xv]).run P w = .ok v' w') (hK : wpListIn F n P ops Q rest (a.put o.dst v') w') : wpListIn F n P ops Q (o :: rest) a w := by
  refine wpListIn_plain hg fun K hK' => ?_
  unfold Oper.wpIn
  refine ⟨?_, ?_⟩
  · simp [Oper.about, hop, resolve, Target.leads, Sem.run_pure]
  · rw [Oper.semAt_plain F _ _ (by rw [hop]; intro c hc'; cases hc')]
    simp [execOp, hop, resolve, invoke, builtin, hs, hx, hrun, Result.andThen]
    exact hK' _ _ hK

/-- append([]uint64{x}, rest...) -/
theorem append_front (x : Int) (xs : List Int) (A : Option Addr) (c : Nat) (W : World) (hC : Kd.C (Kd.int .u64) W A xs.length xs) (hl : xs.length ≤ 200000) :
    ∃ g cap w', (Builtin.append_ #[43, 43] 43 #[.slice (some ⟨W.heap.size, 0, none⟩) 1 1, .slice A xs.length c]).run Tryd.prog (W.alloc (.cells #[.int .u64 x] 65)) = .ok (.slice (some ⟨g, 0, none⟩) (x :: xs).length cap) w' ∧
      Kd.C (Kd.int .u64) w' (some ⟨g, 0, none⟩) (x :: xs).length (x :: xs) ∧ (x :: xs).length ≤ cap ∧ W.heap.size ≤ g ∧ Below W.heap.size W w' := by
  obtain ⟨i0, hi, hz0, hz1, hz2⟩ := info_parts info65
  have hown := World.ownsRow_lit (base := W.heap.size) (e := 65) (size := 1) W #[.int .u64 x] 1 (Nat.le_refl _) (by decide) rfl
  have hBa : Below W.heap.size W (W.alloc (.cells #[.int .u64 x] 65)) := (Below.refl _ W).alloc (Nat.le_refl _) _
  cases A with
  | none =>
    have h0 : xs = [] := by
      rcases Nat.eq_zero_or_pos xs.length with h | h
      · exact List.length_eq_zero_iff.1 h
      · obtain ⟨ad, e, _⟩ := C_cells hC h
        cases e
    subst h0
    refine ⟨W.heap.size, 1, W.alloc (.cells #[.int .u64 x] 65), ?_, C_blk (qs := [x]) (blk_new W _) (by simp), Nat.le_refl _, Nat.le_refl _, hBa⟩
    simp [Builtin.append_, run_underlying Tryd.underlying43, sizeOf, typeInfo, hi, Builtin.lenOf, Builtin.firstCells, storeCells]
  | some ad =>
    obtain ⟨v', w', hrun, h1, h2, h3⟩ := run_append_own (P := Tryd.prog) (w := W.alloc (.cells #[.int .u64 x] 65)) W.heap.size 43 43 65 i0 (.int .u64 0) 1 8 Tryd.underlying43 hi hz0 hz1 hz2 rfl (by decide) _ 1 _ hown ad xs.length c (nums .u64 xs) (by simp [nums])
      (fun j u hj => by
        have hj' : j < xs.length := by have := (List.getElem?_eq_some_iff.1 hj).1; simpa [nums] using this
        obtain ⟨ad', e, hc⟩ := C_cells hC (by omega)
        cases e
        have := hc j hj'
        rw [List.getD_eq_getElem?_getD, List.getElem?_eq_getElem hj', Option.getD_some] at this
        have hu : u = .int .u64 xs[j] := by
          have := hj
          simp [nums, List.getElem?_eq_getElem hj'] at this
          exact this.symm
        rw [hu]
        exact (Below.cell hBa (by have := World.block_lt_of_cell? W _ this; exact this)).trans this)
      (fun u hu => by
        obtain ⟨z, _, rfl⟩ := List.mem_map.1 hu
        rfl) (by unfold maxLen; omega) (by omega) (by simp)
    have hb := hBa.grown h2 (by simp) (fun k e => by simp [Value.ownBlock] at e; omega)
    rcases h1.2 with ⟨rfl, h0⟩ | ⟨g, cap, cur, rfl, hg, hh, hnc, hcm, hcs, htk⟩
    · exact absurd (h3.1 rfl).1 (by simp)
    · refine ⟨g, cap, w', ?_, ?_, by simp; omega, hg, hb⟩
      · rw [hrun]; simp [Nat.add_comm]
      · refine C_of_cells (by simp; omega) fun _ => ⟨_, rfl, fun j hj => ?_⟩
        have e1 : (⟨g, 0, none⟩ : Addr).add j = ⟨g, j, none⟩ := by unfold Addr.add; by_cases h0 : j = 0 <;> simp [h0]
        rw [e1, blk_cell hh j]
        have h4 : cur[j]? = (cur.toList.take ((1 + xs.length) * 1))[j]? := by
          rw [List.getElem?_take, if_pos (by simp at hj; omega)]
          simp
        rw [h4, htk]
        have e2 : #[Value.int .u64 x].toList ++ nums .u64 xs = nums .u64 (x :: xs) := rfl
        rw [e2]
        simp only [nums, List.getElem?_map]
        rw [List.getElem?_eq_getElem hj, List.getD_eq_getElem?_getD, List.getElem?_eq_getElem hj]
        rfl
theorem field_limbs (W : World) (A : Option Addr) (n c : Nat) : (Instr.field 45 (.agg #[.slice A n c, .bool false]) 0).run Tryd.prog W = .ok (.slice A n c) W := by kernel_rfl
theorem trim_at (l : List Int) (hok : OkB G l) (hl : l.length ≤ 1000000) : ∃ t : List Int, (vB G t = vB G l ∧ OkB G t ∧ t.length ≤ l.length) ∧ ∀ (P : Nat → Prop) (A : Option Addr) (c : Nat) (W : World), Kd.V (Kd.int .u64) 65 W W.heap.size P (.slice A l.length c) l →
    Calls Tryd.prog 51 #[.agg #[.slice A l.length c, .bool false]] W fun e w' => ∃ A' c', e = .returned (.agg #[.slice A' t.length c', .bool false]) ∧ Kd.V (Kd.int .u64) 65 w' 0 (fun k => P k ∨ W.heap.size ≤ k) (.slice A' t.length c') t ∧ Below W.heap.size W w' := by
  obtain ⟨k, hk⟩ := (trim_prog_ev l false (by omega)).rounds
  obtain ⟨h1, h2, h3, _⟩ := trimN_all G l.length l rfl
  refine ⟨trimL l, ⟨h1, h2 hok, h3⟩, fun P A c W hV => ?_⟩
  refine (number_value_trim.calls k P A c l false _ _ W hV hk).mono ?_
  rintro e w' ⟨v, rfl, h1, h2⟩
  obtain ⟨A', c', rfl⟩ := Kd.V_slice h1
  refine ⟨A', c', ?_, h1, h2⟩
  by_cases h : trimL l = [] <;> simp [trimP, h]
theorem minus_at (a b : List Int) (ha : OkB G a) (hb : OkB G b) (hla : a.length ≤ 1000000) (hp : 0 < a.length) (hle : vB G b ≤ vB G a) : ∃ m : List Int, (vB G m = vB G a - vB G b ∧ OkB G m ∧ m.length ≤ a.length) ∧ ∀ (A A2 : Option Addr) (c c2 : Nat) (W : World), Kd.C (Kd.int .u64) W A a.length a → a.length ≤ c → Kd.C (Kd.int .u64) W A2 b.length b → b.length ≤ c2 →
    Calls Tryd.prog 50 #[.slice A a.length c, .slice A2 b.length c2] W fun e w' => ∃ A' c', e = .returned (.slice A' m.length c') ∧ Kd.V (Kd.int .u64) 65 w' w'.heap.size (fun k => W.heap.size ≤ k) (.slice A' m.length c') m ∧ Below W.heap.size W w' := by
  obtain ⟨k, hk⟩ := (minus_prog_ev a b ha hb (by omega)).rounds
  refine ⟨minusS G a b a.length 0 0, ⟨minus_val G (by decide) a b ha hb _ (Nat.le_refl _) hle, minusS_ok G (by decide) a b ha hb _ _ _ (by decide), by rw [minusS_len]; exact Nat.le_refl _⟩, fun A A2 c c2 W h1 h2 h3 h4 => ?_⟩
  refine (number_minus.calls k A c a A2 c2 b _ W h1 h2 h3 h4 hk).mono ?_
  rintro e w' ⟨v, rfl, hR, hB⟩
  obtain ⟨A', c', rfl⟩ := Kd.R_slice hR
  exact ⟨A', c', rfl, R_from hR (by rw [minusS_len]; exact hp), hB⟩

/-- The state of number.divide between two rounds: the quotient's row, the rest's value. -/
structure DvJ (w wL : World) (b : List Int) (len n : Nat) (st : List Int × Int) (W : World) : Prop where
  q : W.heap[w.heap.size + 1]? = some (.cells (nums .u64 st.1).toArray 65 (0, 0))
  v : W.heap[w.heap.size + 2]? = some (.cells #[.slice (some ⟨w.heap.size + 1, 0, none⟩) len len] 43 (0, 0))
  r : ∃ rs A c, W.heap[w.heap.size + 3]? = some (.cells #[.slice A rs.length c] 43 (0, 0)) ∧ rs.length ≤ c ∧ Kd.C (Kd.int .u64) W A rs.length rs ∧ (∀ ad, A = some ad → 0 < rs.length → wL.heap.size ≤ ad.block) ∧ OkB G rs ∧ vB G rs = st.2 ∧ rs.length ≤ n
  kp : KpS (w.heap.size + 1) (w.heap.size + 4) wL W
  sz : wL.heap.size ≤ W.heap.size
  bel : Below w.heap.size w W
  len : st.1.length = len
  lo : 0 ≤ st.2
  hi : st.2 < vB G b
theorem C_step {W W' : World} {A : Option Addr} {xs : List Int} (h : Kd.C (Kd.int .u64) W A xs.length xs) (hl : xs.length ≤ 1000000) (hm : ∀ ad, A = some ad → 0 < xs.length → (∃ o, W.heap[ad.block]? = some o ∧ o.isCells = true) → W'.heap[ad.block]? = W.heap[ad.block]?) : Kd.C (Kd.int .u64) W' A xs.length xs :=
  C_of_cells hl fun hp => by
    obtain ⟨ad, e, hcs⟩ := C_cells h hp
    obtain ⟨o, ho, ho2⟩ := cells_of_cell (hcs 0 hp)
    rw [add_block'] at ho
    have := hm ad e hp ⟨o, ho, ho2⟩
    exact ⟨ad, e, fun j hj => (World.cell?_of_block (by rw [add_block']; exact this)).trans (hcs j hj)⟩
theorem DvJ_own (w wL : World) (b : List Int) (len n : Nat) (hn : n ≤ 200000) (hs : wL.heap.size = w.heap.size + 5) : OwnFrom wL.heap.size (DvJ w wL b len n) := fun s W W' row h hg hr => by
  have hne : ∀ k, k < wL.heap.size → some k ≠ row := fun k hk e => by have := (hr k e.symm).1; omega
  have hz := h.sz
  obtain ⟨rs, A, c, h1, h2, h3, h4, h5, h6, h7⟩ := h.r
  refine ⟨blk_grown h.q hg (hne _ (by omega)), blk_grown h.v hg (hne _ (by omega)), ⟨rs, A, c, blk_grown h1 hg (hne _ (by omega)), h2, C_step h3 (by omega) fun ad e hp ⟨o, ho, hoc⟩ => ?_, h4, h5, h6, h7⟩, h.kp.grown (by omega) (by omega) hz hg (fun r e => (hr r e).1), Nat.le_trans hz hg.size,
    ownFrom_below (β := Unit) (Nat.le_refl w.heap.size) (by omega) () W W' row h.bel hg hr, h.len, h.lo, h.hi⟩
  refine hg.block _ (Array.getElem?_eq_some_iff.1 ho).1 fun e' => ?_
  obtain ⟨o', ho', hoc'⟩ := (hr _ e'.symm).2
  rw [ho] at ho'
  cases ho'
  rw [hoc] at hoc'
  cases hoc'
end Go.Proofs.YtlnneellihkdkaaDoor.D
