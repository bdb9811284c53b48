/- value.text: limbs as a text, or the panic of too many digits. The text of limbs is the numeral of their value. number.caught: what a deferred recover makes of a panic. -/
import Derived.Test.YtlnneellihkdkaaDoorDx1
import Derived.Test.YtlnneellihkdkaaDoorDx17
import Derived.Test.YtlnneellihkdkaaDoorHBack
import Derived.Test.YtlnneellihkdkaaDoorHFmt
import Derived.Test.YtlnneellihkdkaaDoorHBuilder
import Derived.Lib.Repeat
import Derived.Recover
import Derived.Laws.Pointers
namespace Go.Proofs.YtlnneellihkdkaaDoor.D
open Go Go.Proofs Go.RowKit Go.Shelf Go.Proofs.YtlnneellihkdkaaDoorW.PrintWords Go.Proofs.YtlnneellihkdkaaDoorW.PrintLast Go.Proofs.YtlnneellihkdkaaDoorW.PrintMore
attribute [local go_sem] Oper.semAt_some
set_option linter.unusedVariables false
set_option linter.unusedSimpArgs false

/-! ### the builder abides -/
theorem builderF_grown {B b : Nat} {bs : List Value} {W W' : World} {row : Option Nat} (h : Lib.IsBuilderF 69 5 B b bs W) (hg : W.grownBy W' row) (hr : ∀ r, row = some r → ∃ o : Obj, W.heap[r]? = some o ∧ o.isCells = false) : Lib.IsBuilderF 69 5 B b bs W' := by
  have keep : ∀ (k : Nat) (c : Array Value) (t : TypeId) (fz : Nat × Nat), W.heap[k]? = some (.cells c t fz) → W'.heap[k]? = some (.cells c t fz) := fun k c t fz hk =>
    (hg.block k (Array.getElem?_eq_some_iff.1 hk).1 (fun e => by
      obtain ⟨o, ho, hc⟩ := hr k e.symm
      rw [hk] at ho
      cases ho
      simp [Obj.isCells] at hc)).trans hk
  have one : ∀ p, Lib.BuilderAtF 69 5 B b p bs W → Lib.BuilderAtF 69 5 B b p bs W' := by
    rintro p ⟨hB, v, hb, ⟨hl, hown⟩, hne⟩
    refine ⟨hB, v, keep _ _ _ _ hb, ⟨hl, ?_⟩, hne⟩
    rcases hown with h0 | ⟨g, cap, cur, fz, e1, e2, e3, e4, e5, e6, e7, e8⟩
    · exact .inl h0
    · exact .inr ⟨g, cap, cur, fz, e1, e2, keep _ _ _ _ e3, e4, e5, e6, e7, e8⟩
  exact h.imp (one _) (one _)
theorem builderF_below {B b : Nat} {bs : List Value} {W W' : World} (h : Lib.IsBuilderF 69 5 B b bs W) (hb : Below W.heap.size W W') : Lib.IsBuilderF 69 5 B b bs W' := by
  have keep : ∀ (k : Nat) (o : Obj), W.heap[k]? = some o → W'.heap[k]? = some o := fun k o hk => (hb.block k (Array.getElem?_eq_some_iff.1 hk).1).trans hk
  have one : ∀ p, Lib.BuilderAtF 69 5 B b p bs W → Lib.BuilderAtF 69 5 B b p bs W' := by
    rintro p ⟨hB, v, hbk, ⟨hl, hown⟩, hne⟩
    refine ⟨hB, v, keep _ _ hbk, ⟨hl, ?_⟩, hne⟩
    rcases hown with h0 | ⟨g, cap, cur, fz, e1, e2, e3, e4, e5, e6, e7, e8⟩
    · exact .inl h0
    · exact .inr ⟨g, cap, cur, fz, e1, e2, keep _ _ e3, e4, e5, e6, e7, e8⟩
  exact h.imp (one _) (one _)

/-- What a round writes. -/
def pieceT (last : Nat) (x : PL) : List UInt8 := (if x.1.1 < last then List.replicate (9 - (Lib.decDigits x.1.2).length) 48 else []) ++ Lib.decDigits x.1.2
theorem dec9 (x : PL) : (Lib.decDigits x.1.2).length ≤ 9 := N.dec_len _ 9 (by omega) (Nat.lt_of_lt_of_le x.2.1 (by decide))
theorem pieceT_len (last : Nat) (x : PL) : (pieceT last x).length ≤ 20 := by
  have := dec9 x
  unfold pieceT
  split <;> simp <;> omega
theorem flat_len (last : Nat) (pre : List PL) : (pre.flatMap (pieceT last)).length ≤ 20 * pre.length := by
  induction pre with
  | nil => simp
  | cons x pre ih => have := pieceT_len last x; simp only [List.flatMap_cons, List.length_append, List.length_cons]; omega

/-- The builder with what it holds, beside what a round keeps. -/
def TB (w wL : World) (b Bs : Nat) (bs : List UInt8) (W : World) : Prop :=
  (Lib.IsBuilderF 69 5 b b (Lib.byteCells bs) W ∧ KpS b Bs wL W ∧ wL.heap.size ≤ W.heap.size) ∧ Below w.heap.size w W
theorem TB_own {β : Type} (g : β → List UInt8) (w wL : World) (b Bs : Nat) (hw : w.heap.size ≤ b) (hb : b < wL.heap.size) (hBs : Bs < wL.heap.size) : OwnFrom wL.heap.size (fun (pre : β) W => TB w wL b Bs (g pre) W) :=
  OwnFrom.and (fun s W W' row hs hg hr => ⟨builderF_grown hs.1 hg (fun r e => (hr r e).2), hs.2.1.grown (by omega) hBs hs.2.2 hg (fun r e => (hr r e).1), Nat.le_trans hs.2.2 hg.size⟩) (ownFrom_below (Nat.le_refl _) (by omega))
theorem builderF_cells {b : Nat} {bs : List Value} {W : World} (h : Lib.IsBuilderF 69 5 b b bs W) : ∃ c, W.heap[b]? = some (.cells c 69 (0, 0)) := by
  rcases h with ⟨_, v, hb, _⟩ | ⟨_, v, hb, _⟩ <;> exact ⟨_, hb⟩
theorem TB.fresh {w wL W W' : World} {b Bs : Nat} {bs : List UInt8} (h : TB w wL b Bs bs W) (hw : w.heap.size ≤ b) (hb : b < wL.heap.size) (hBs : Bs < wL.heap.size) (hB : Below W.heap.size W W') : TB w wL b Bs bs W' ∧ KpS b Bs W W' ∧ KeepsFrom 0 W W' := by
  obtain ⟨⟨h1, h2, h3⟩, h4⟩ := h
  have hk : KpS b Bs W W' := ⟨fun k hk => hB.block k (by omega), hB.block Bs (by omega)⟩
  exact ⟨⟨⟨builderF_below h1 hB, h2.trans hk, Nat.le_trans h3 hB.size⟩, h4.trans (hB.mono h4.size)⟩, hk, hB.size, fun k o _ ho _ => (hB.block k (Array.getElem?_eq_some_iff.1 ho).1).trans ho⟩
theorem TB.write {w wL W W' : World} {b Bs : Nat} {bs bs' : List UInt8} {cs : Array Value} (h : TB w wL b Bs bs W) (hw : w.heap.size ≤ b) (hb : b < wL.heap.size) (hBs : Bs < wL.heap.size) (hne : Bs ≠ b) (hc : wL.heap[Bs]? = some (.cells cs 43 (0, 0)))
    (hat : Lib.BuilderAtF 69 5 b b (.pointer (some ⟨b, 0, none⟩)) (Lib.byteCells bs') W') (hB : Below b W W') (hO : Lib.OthersKept 5 (some b) W W') : TB w wL b Bs bs' W' ∧ KpS b Bs W W' ∧ KeepsFrom 0 W W' := by
  obtain ⟨⟨h1, h2, h3⟩, h4⟩ := h
  have hcW : W.heap[Bs]? = some (.cells cs 43 (0, 0)) := h2.2.trans hc
  have hk : KpS b Bs W W' := ⟨fun k hk => hB.block k hk, (hO Bs _ hcW (fun e => hne (Option.some.inj e)) (fun c fz e => by cases e)).trans hcW.symm⟩
  refine ⟨⟨⟨.inr hat, h2.trans hk, Nat.le_trans h3 hB.size⟩, h4.trans (hB.mono hw)⟩, hk, hB.size, fun k o _ ho hoc => ?_⟩
  obtain ⟨c, hcb⟩ := builderF_cells h1
  exact hO k o ho (fun e => by cases Option.some.inj e; rw [hcb] at ho; cases ho; simp [Obj.isCells] at hoc) (fun c fz e => by subst e; simp [Obj.isCells] at hoc)
theorem writeT {w wL W : World} {b Bs : Nat} {bs : List UInt8} {cs : Array Value} (h : TB w wL b Bs bs W) (hw : w.heap.size ≤ b) (hb : b < wL.heap.size) (hBs : Bs < wL.heap.size) (hne : Bs ≠ b) (hc : wL.heap[Bs]? = some (.cells cs 43 (0, 0))) (us : List UInt8) (hlen : bs.length + us.length ≤ 140737488355328) :
    Calls Tryd.prog 54 #[.pointer (some ⟨b, 0, none⟩), .string (baU us)] W fun e W' => e = .returned (.tuple #[.int .i64 us.length, .nilIface]) ∧ TB w wL b Bs (bs ++ us) W' ∧ KpS b Bs W W' ∧ KeepsFrom 0 W W' := by
  have hs : (baU us).size = us.length := by simp [baU, ByteArray.size]
  refine (writeString_k b b (Lib.byteCells bs) (baU us) W h.1.1 (by rw [hs]; simpa [Lib.byteCells] using hlen) (by have := h.1.2.2; omega)).mono ?_
  rintro e W' ⟨rfl, hat, hB, hO⟩
  rw [hs]
  refine ⟨rfl, h.write hw hb hBs hne hc ?_ hB hO⟩
  have e1 : Lib.byteCells (bs ++ us) = Lib.byteCells bs ++ Lib.strCells (baU us) := by simp [Lib.byteCells, Lib.strCells, baU]
  rw [e1]
  exact hat
theorem kf0 {W W' : World} (h : KeepsFrom 0 W W') (B : Nat) : KeepsFrom B W W' := ⟨h.size, fun k o _ ho hc => h.same k o (Nat.zero_le _) ho hc⟩
theorem limb_cells {W : World} {base c : Nat} {ok : Nat → Prop} {A : Option Addr} {t : List Int} (h : Kd.V (Kd.int .u64) 65 W base ok (.slice A t.length c) t) (hne : 0 < t.length) : ∃ ad, A = some ad ∧ ok ad.block ∧ ∀ j, j < t.length → W.cell? (ad.add j) = some (.int .u64 (t.getD j 0)) := by
  have hF := Kd.V_F h
  obtain ⟨ad, c0, rfl, _, _, _, hin⟩ := Kd.F_get hF 0 0 (by omega) (by omega)
  refine ⟨ad, rfl, hin (by decide), fun j hj => ?_⟩
  have := Kd.foot_int (Kd.F_now hF) (j : Int) (by omega) (by omega)
  rw [Int.toNat_natCast] at this
  rw [this]
  simp [rd]

/-- The limb at a place, as a round is handed it. -/
def limbAt (t : List Int) (h : OkB G t) (hl : t.length ≤ 1000000) (j : Nat) : PL :=
  if hj : j < 1000000 then ⟨(j, (t.getD j 0).toNat), by have := getD_ok (by decide : 1 ≤ G) h j; have hG : G = 1000000000 := rfl; exact ⟨by show (t.getD j 0).toNat < 1000000000; omega, hj⟩⟩ else ⟨(0, 0), by decide⟩
theorem limbAt_1 (t : List Int) (h : OkB G t) (hl : t.length ≤ 1000000) (j : Nat) (hj : j < t.length) : (limbAt t h hl j).1.1 = j ∧ ((limbAt t h hl j).1.2 : Int) = t.getD j 0 := by
  have := getD_ok (by decide : 1 ≤ G) h j
  unfold limbAt
  rw [dif_pos (by omega)]
  exact ⟨rfl, by show (((t.getD j 0).toNat : Nat) : Int) = _; omega⟩
/-- The digits of limbs without a nought above. -/
def textT (t : List Int) (h : OkB G t) (hl : t.length ≤ 1000000) : List UInt8 := (downTo (limbAt t h hl) t.length t.length).flatMap (pieceT (t.length - 1))
abbrev bigE : Ending := .panicked [{ v := .iface 27 (.int .i64 91), recovered := false }]

set_option maxRecDepth 100000 in
set_option maxHeartbeats 4000000 in
theorem text_ne (l : List Int) (neg : Bool) (hok : OkB G (trimL l)) (hlen : l.length ≤ 1000) (hlt : (trimL l).length ≤ 1000000) (hne : trimL l ≠ []) (A : Option Addr) (c : Nat) (w : World) (hL : LaidW w) (hV : Kd.V (Kd.int .u64) 65 w w.heap.size (fun _ => True) (.slice A l.length c) l) :
    CallsIn Fence.wide 8 Tryd.prog 34 #[.agg #[.slice A l.length c, .bool neg]] w fun e w' => (e = if (textT (trimL l) hok hlt).length ≤ 200 then .returned (.string (baU (if neg = true then 45 :: textT (trimL l) hok hlt else textT (trimL l) hok hlt))) else bigE) ∧ Below w.heap.size w w' := by
  have hu45 := Tryd.underlying45
  obtain ⟨k, hk⟩ := Ev.rounds (trim_prog_ev l neg (by omega))
  unfold trimP at hk
  rw [if_neg hne] at hk
  have HT := Aside0.mk (fun (W : World) (hb : Below w.heap.size w W) => (callsIn_wide (n := 7)).2 (number_value_trim.calls k (fun k => k < w.heap.size) A c l neg _ _ W (Kd.V_below (Kd.V_mono (Kd.V_bound hV) (fun k h => h.2)) hb) hk))
  have HL := Aside0.mk hL
  have HOK := Aside0.mk hok
  have HNE := Aside0.mk (List.length_pos_iff.2 hne)
  have HNEL := Aside0.mk hne
  clear hk hL hV
  refine callsIn_of_wp_marks Tryd.func34 rfl trivial ?_ rfl
  simp only [Tryd.ntmps34, List.size_toArray, List.length_cons, List.length_nil, Nat.reduceAdd, Nat.reduceSub, Array.replicate_succ, Array.replicate_zero, List.push_toArray, List.append_toArray, List.nil_append, List.cons_append]
  gi_wp2_with (first
    | (refine ⟨trivial, ?_⟩; gi_at_call 51; refine (HT.out _ (by exact (Below.refl _ w).alloc (Nat.le_refl _) _)).mono ?_; rintro e w' ⟨v0, rfl, hV, hB⟩; obtain ⟨A', c', rfl⟩ := Kd.V_slice hV
       have hbk : w'.heap[w.heap.size]? = some (.cells #[.slice A l.length c, .bool neg] 45) := (hB.block _ (by simp)).trans (World.alloc_heap_new w _)
       have c0 : w'.cell? ⟨w.heap.size, 0, none⟩ = some (.slice A l.length c) := by rw [Lib.cell_of_heap hbk]; rfl
       have c1 : w'.cell? ⟨w.heap.size, 1, none⟩ = some (.bool neg) := by rw [Lib.cell_of_heap hbk]; rfl
       have f0 : w'.frozen? ⟨w.heap.size, 0, none⟩ = false := Lib.frozen_of_heap hbk 0
       have f1 : w'.frozen? ⟨w.heap.size, 1, none⟩ = false := Lib.frozen_of_heap hbk 1
       have hW1 : ((w'.setCell ⟨w.heap.size, 0, none⟩ (.slice A' (trimL l).length c')).setCell ⟨w.heap.size, 1, none⟩ (.bool neg)).heap[w.heap.size]? = some (.cells #[.slice A' (trimL l).length c', .bool neg] 45) := blk_put (blk_put hbk 0 _ rfl) 1 _ rfl
       have hW2 := blk_alloc hW1 (.cells #[Value.pointer none, Value.slice none 0 0] 69)
       have e0 := (blk_cell hW2 0).trans (show _ = some (Value.slice A' (trimL l).length c') from rfl)
       have HW1 := Aside0.mk hW1
       have HV := Aside0.mk hV
       have HBB := Aside0.mk hB
       have hne0 : (((trimL l).length : Int) == 0) = false := by have := HNE.out; simp; exact HNEL.out
       clear hW1 hW2 hbk hV hB)
    | (refine ⟨trivial, ?_⟩; gi_at_call 52; refine (back_in Fence.wide 7 trivial rfl _ _ _ _).mono ?_; rintro e w' ⟨rfl, rfl⟩))
  have hV := HV.out
  have hB := HBB.out
  have hW1 := HW1.out
  clear HV HBB HW1 c0 c1 f0 f1 e0
  have hBel : Below w.heap.size w ((w'.setCell ⟨w.heap.size, 0, none⟩ (.slice A' (trimL l).length c')).setCell ⟨w.heap.size, 1, none⟩ (.bool neg)) := ((((Below.refl _ w).alloc (Nat.le_refl _) _).trans (hB.mono (by simp))).setCell (p := ⟨w.heap.size, 0, none⟩) (Nat.le_refl _) _).setCell (p := ⟨w.heap.size, 1, none⟩) (Nat.le_refl _) _
  have hbs := hB.size
  obtain ⟨ad, rfl, had, hcells⟩ := limb_cells hV HNE.out
  have hadw : ad.block ≠ w.heap.size := by simp only [World.size_alloc] at had; omega
  have hcells1 : ∀ j, j < (trimL l).length → ((w'.setCell ⟨w.heap.size, 0, none⟩ (.slice (some ad) (trimL l).length c')).setCell ⟨w.heap.size, 1, none⟩ (.bool neg)).cell? (ad.add j) = some (.int .u64 ((trimL l).getD j 0)) := fun j hj =>
    (World.cell?_of_block ((Below.heap_setCell _ _ _ _ (by rw [add_block']; exact hadw)).trans (Below.heap_setCell _ _ _ _ (by rw [add_block']; exact hadw)))).trans (hcells j hj)
  obtain ⟨W1, hW1e⟩ : ∃ W1, (w'.setCell ⟨w.heap.size, 0, none⟩ (.slice (some ad) (trimL l).length c')).setCell ⟨w.heap.size, 1, none⟩ (.bool neg) = W1 := ⟨_, rfl⟩
  have hsz : W1.heap.size = w'.heap.size := by rw [← hW1e]; simp
  rw [hW1e] at hBel hW1 hcells1 ⊢
  clear hW1e hcells hV
  simp only [World.size_alloc] at hbs
  have hadlt : ad.block < W1.heap.size := by
    obtain ⟨o, ho, _⟩ := cells_of_cell (hcells1 0 HNE.out)
    rw [add_block'] at ho
    exact (Array.getElem?_eq_some_iff.1 ho).1
  have hbw : w.heap.size < W1.heap.size := by omega
  have hBL : Below W1.heap.size W1 ((W1.alloc (.cells #[.pointer none, .slice none 0 0] 69)).alloc (.cells #[.slice (some ad) (trimL l).length c'] 43)) := ((Below.refl _ W1).alloc (Nat.le_refl _) _).alloc (by simp) _
  have hsL : ((W1.alloc (.cells #[.pointer none, .slice none 0 0] 69)).alloc (.cells #[.slice (some ad) (trimL l).length c'] 43)).heap.size = W1.heap.size + 2 := by simp
  have hBsL : ((W1.alloc (.cells #[.pointer none, .slice none 0 0] 69)).alloc (.cells #[.slice (some ad) (trimL l).length c'] 43)).heap[W1.heap.size + 1]? = some (.cells #[.slice (some ad) (trimL l).length c'] 43 (0, 0)) := by
    have := World.alloc_heap_new (W1.alloc (.cells #[.pointer none, .slice none 0 0] 69)) (.cells #[.slice (some ad) (trimL l).length c'] 43)
    simpa using this
  have hbox : ((W1.alloc (.cells #[.pointer none, .slice none 0 0] 69)).alloc (.cells #[.slice (some ad) (trimL l).length c'] 43)).heap[w.heap.size]? = some (.cells #[.slice (some ad) (trimL l).length c', .bool neg] 45 (0, 0)) := (hBL.block _ hbw).trans hW1
  have hbld : Lib.IsBuilderF 69 5 W1.heap.size W1.heap.size (Lib.byteCells []) ((W1.alloc (.cells #[.pointer none, .slice none 0 0] 69)).alloc (.cells #[.slice (some ad) (trimL l).length c'] 43)) := (Lib.IsBuilderF.of (Lib.fresh_isBuilder 69 5 W1)).alloc _
  have hcL := fun j hj => (hBL.cell (p := ad.add j) (by rw [add_block']; exact hadlt)).trans (hcells1 j hj)
  obtain ⟨wL, hwL⟩ : ∃ wL, (W1.alloc (.cells #[.pointer none, .slice none 0 0] 69)).alloc (.cells #[.slice (some ad) (trimL l).length c'] 43) = wL := ⟨_, rfl⟩
  rw [hwL] at hBL hsL hBsL hbox hbld hcL ⊢
  have hT0 : TB w wL W1.heap.size (W1.heap.size + 1) [] wL := ⟨⟨hbld, KpS.refl _ _ _, Nat.le_refl _⟩, hBel.trans (hBL.mono (by omega))⟩
  clear hwL hcells1 hBL hbld hW1 hBel
  rw [hsz] at hT0 hsL hBsL hadlt hbw
  clear hsz
  generalize w'.heap.size = b at *
  have hlenp := HNE.out
  refine wpIn_rangeFunc_ownG rfl (by decide) (gf := 69) (lb := #[.pointer (some ⟨b + 1, 0, none⟩)]) rfl trivial (enters_of Tryd.func69 (by kernel_rfl) rfl)
    (back_stops Fence.wide 7 trivial rfl (by decide) (b + 1) b (trimL l).length c' ad (limbAt (trimL l) hok hlt) (fun j hj => (limbAt_1 (trimL l) hok hlt j hj).1) hlt hadlt wL (by omega) (by omega) (by rw [Lib.cell_of_heap hBsL]; rfl) (fun j hj => by rw [(limbAt_1 (trimL l) hok hlt j hj).2]; exact hcL j hj))
    KpS.trans (fun W l o o' hl ho hc hk => KpS.put (w := wL) (by omega) (by omega) W l o o' hl ho hc hk) (Below.refl _ _) (fun _ => rfl)
    (fun pre W => TB w wL b (b + 1) (pre.flatMap (pieceT ((trimL l).length - 1))) W) (fun _ _ _ => False)
    (TB_own (fun pre : List PL => pre.flatMap (pieceT ((trimL l).length - 1))) w wL b (b + 1) (by omega) (by omega) (by omega)) (fun _ _ _ _ _ hs _ _ => hs) hT0
    (fun x => { tmps := #[Value.agg #[Value.slice A l.length c, Value.bool neg], Value.pointer (some { block := w.heap.size, off := 0 }), Value.string { data := #[] }, Value.pointer (some { block := b, off := 0 }), .int .i64 (x.1.1 : Int), .int .u64 (x.1.2 : Int), undef, Value.agg #[Value.slice A l.length c, Value.bool neg], Value.agg #[Value.slice (some ad) (trimL l).length c', Value.bool neg], Value.pointer (some { block := w.heap.size, off := 0 }), Value.slice (some ad) (trimL l).length c', Value.int IntKind.i64 ↑(trimL l).length, Value.bool false, Value.pointer (some { block := w.heap.size, off := 0 }), Value.slice (some ad) (trimL l).length c', Value.func (Fn.func 69) #[] #[Value.pointer (some { block := b + 1, off := 0 })], .int .i64 (x.1.1 : Int), .int .u64 (x.1.2 : Int),
          undef, undef, undef, undef, undef, undef, undef, undef, undef, undef, undef, undef, undef, undef, undef, undef, undef, undef, undef, undef, undef, undef, undef], defers := [] }) ?assign ?body ?done ?stop
  case assign =>
    intro l x W K hK
    gi_wp2
    exact hK
  case stop =>
    rintro D c pre W _ _ h _
    exact h.elim
  case body =>
    intro lp pre x W hT hltp
    have hx := x.2
    have h9 := dec9 x
    have hbox2 : ∀ W', KpS b (b + 1) wL W' → W'.cell? ⟨w.heap.size, 0, none⟩ = some (.slice (some ad) (trimL l).length c') := fun W' hk => by rw [hk.cell w.heap.size 0 (.inl (by omega)), Lib.cell_of_heap hbox]; rfl
    have hsz9 : (baU (Lib.decDigits x.1.2)).size = (Lib.decDigits x.1.2).length := by simp [baU, ByteArray.size]
    have hfl := flat_len ((trimL l).length - 1) pre
    have e9 : (9 : Int) - ((Lib.decDigits x.1.2).length : Int) = ((9 - (Lib.decDigits x.1.2).length : Nat) : Int) := by omega
    have e48 : (⟨(Lib.repeatL (baU [48]).data.toList (9 - (Lib.decDigits x.1.2).length)).toArray⟩ : ByteArray) = baU (List.replicate (9 - (Lib.decDigits x.1.2).length) 48) := by
      rw [baU_list, show [(48 : UInt8)] = List.replicate 1 48 from rfl, Lib.repeatL_replicate, Nat.mul_one]
      rfl
    dsimp only
    by_cases hcx : x.1.1 < (trimL l).length - 1
    · have hcx' : (x.1.1 : Int) < ((trimL l).length : Int) - 1 := by omega
      gi_wp2_with (first
        | (refine ⟨trivial, ?_⟩; gi_at_call 53; refine (((callsIn_wide (n := 5)).2 (fmt_calls x.1.2 (by omega) W (HL.out.below hT.2 (Nat.le_refl _)).2)).inRound lp).mono ?_; rintro e W2 ⟨rfl, hb2⟩
           have h2 := hT.fresh (by omega) (by omega) (by omega) hb2
           have hc2 := hbox2 _ h2.1.1.2.1)
        | (refine ⟨trivial, ?_⟩; gi_at_call 55; refine (((callsIn_wide (n := 5)).2 (Tryd.strings_Repeat (baU [48]) (9 - (Lib.decDigits x.1.2).length) W2 (by omega) (by show 1 * _ ≤ _; omega))).inRound lp).mono ?_; rintro e W3 ⟨rfl, hb3⟩
           have h3 := h2.1.fresh (by omega) (by omega) (by omega) hb3
           rw [e48])
        | (refine ⟨trivial, ?_⟩; gi_at_call 54; refine (((callsIn_wide (n := 5)).2 (writeT h4.1 (by omega) (by omega) (by omega) (by omega) hBsL (Lib.decDigits x.1.2) (by rw [List.length_append, List.length_replicate]; omega))).inRound lp).mono ?_; rintro e W5 ⟨rfl, h5⟩)
        | (refine ⟨trivial, ?_⟩; gi_at_call 54; refine (((callsIn_wide (n := 5)).2 (writeT h3.1 (by omega) (by omega) (by omega) (by omega) hBsL (List.replicate (9 - (Lib.decDigits x.1.2).length) 48) (by rw [List.length_replicate]; omega))).inRound lp).mono ?_; rintro e W4 ⟨rfl, h4⟩))
      refine ⟨kf0 (((h2.2.2.trans h3.2.2).trans h4.2.2).trans h5.2.2) _, ((h2.2.1.trans h3.2.1).trans h4.2.1).trans h5.2.1, ?_⟩
      have e1 : (pre ++ [x]).flatMap (pieceT ((trimL l).length - 1)) = pre.flatMap (pieceT ((trimL l).length - 1)) ++ List.replicate (9 - (Lib.decDigits x.1.2).length) 48 ++ Lib.decDigits x.1.2 := by
        rw [List.flatMap_append, List.append_assoc]
        simp [pieceT, hcx]
      show TB _ _ _ _ _ _
      rw [e1]
      exact h5.1
    · have hcx' : ¬ (x.1.1 : Int) < ((trimL l).length : Int) - 1 := by omega
      gi_wp2_with (first
        | (refine ⟨trivial, ?_⟩; gi_at_call 53; refine (((callsIn_wide (n := 5)).2 (fmt_calls x.1.2 (by omega) W (HL.out.below hT.2 (Nat.le_refl _)).2)).inRound lp).mono ?_; rintro e W2 ⟨rfl, hb2⟩
           have h2 := hT.fresh (by omega) (by omega) (by omega) hb2
           have hc2 := hbox2 _ h2.1.1.2.1)
        | (refine ⟨trivial, ?_⟩; gi_at_call 54; refine (((callsIn_wide (n := 5)).2 (writeT h2.1 (by omega) (by omega) (by omega) (by omega) hBsL (Lib.decDigits x.1.2) (by omega))).inRound lp).mono ?_; rintro e W5 ⟨rfl, h5⟩))
      refine ⟨kf0 (h2.2.2.trans h5.2.2) _, h2.2.1.trans h5.2.1, ?_⟩
      have e1 : (pre ++ [x]).flatMap (pieceT ((trimL l).length - 1)) = pre.flatMap (pieceT ((trimL l).length - 1)) ++ Lib.decDigits x.1.2 := by
        rw [List.flatMap_append]
        simp [pieceT, hcx]
      show TB _ _ _ _ _ _
      rw [e1]
      exact h5.1
  case done =>
    rintro D ys W hD rfl hT hK
    have hcn : W.cell? ⟨w.heap.size, 1, none⟩ = some (.bool neg) := by rw [hT.1.2.1.cell w.heap.size 1 (.inl (by omega)), Lib.cell_of_heap hbox]; rfl
    have hTt : TB w wL b (b + 1) (textT (trimL l) hok hlt) W := hT
    clear hT
    have hfl : (textT (trimL l) hok hlt).length ≤ 20 * (trimL l).length := by
      have := flat_len ((trimL l).length - 1) (downTo (limbAt (trimL l) hok hlt) (trimL l).length (trimL l).length)
      rw [downTo_length] at this
      exact this
    have hlc : (Lib.byteCells (textT (trimL l) hok hlt)).length = (textT (trimL l) hok hlt).length := by simp [Lib.byteCells]
    generalize htt : textT (trimL l) hok hlt = tt at *
    have hDb : D ≠ b := by
      rintro rfl
      obtain ⟨c, hc⟩ := builderF_cells hTt.1.1
      rw [hc] at hK
      cases hK
    by_cases h200 : tt.length ≤ 200
    · have h200' : ¬ (200 : Int) < (tt.length : Int) := by omega
      have hd : decide ((200 : Int) < (tt.length : Int)) = false := decide_eq_false h200'
      cases neg
      all_goals
        gi_wp2_with (first
          | (refine ⟨trivial, ?_⟩; gi_at_call 56; refine ((callsIn_wide (n := 7)).2 (Tryd.Builder_Len_f b b _ W hTt.1.1)).mono ?_; rintro e W2 ⟨rfl, rfl⟩; rw [hlc])
          | (refine ⟨trivial, ?_⟩; gi_at_call 57; refine ((callsIn_wide (n := 7)).2 (Tryd.Builder_String_any_k b b tt _ hTt.1.1 (by have := hTt.1.2.2; omega))).mono ?_; rintro e W3 ⟨rfl, hI3, hB3, hO3⟩
             have hK3 := hO3 D _ hK (fun e => hDb (Option.some.inj e)) (fun c fz e => by cases e)
             have hb4 := hTt.2.trans (hB3.mono (by omega))))
      all_goals refine ⟨by simp, .inl ⟨_, _, rfl, run_takeDeferred hK3, ?_⟩⟩
      all_goals refine ⟨_, results_tmp rfl _ _ _, ?_, hb4.trans (belowK_b (w := w) (Nat.le_refl _) W3 D _ _ (by have := hTt.1.2.2; omega) hK3 rfl rfl)⟩
      all_goals rfl
    · have h200' : (200 : Int) < (tt.length : Int) := by omega
      have hd : decide ((200 : Int) < (tt.length : Int)) = true := decide_eq_true h200'
      gi_wp2_with (first
          | (refine ⟨trivial, ?_⟩; gi_at_call 56; refine ((callsIn_wide (n := 7)).2 (Tryd.Builder_Len_f b b _ W hTt.1.1)).mono ?_; rintro e W2 ⟨rfl, rfl⟩; rw [hlc]))
      rw [show (Instr.panic (.iface 27 (.int .i64 91))).run Tryd.prog W2 = .halt (.panic (.iface 27 (.int .i64 91))) W2 from rfl]
      simp only [Result.andThen]
      rw [Oper.uponIn_panic]
      gi_wp2
      all_goals exact ⟨by simp, .inl ⟨_, _, rfl, run_takeDeferred hK, rfl, hTt.2.trans (belowK_b (w := w) (Nat.le_refl _) W2 D _ _ (by have := hTt.1.2.2; omega) hK rfl rfl)⟩⟩
end Go.Proofs.YtlnneellihkdkaaDoor.D
namespace Go.Proofs.YtlnneellihkdkaaDoor.D
open Go Go.Proofs Go.RowKit Go.Shelf Go.Proofs.YtlnneellihkdkaaDoorW.PrintWords Go.Proofs.YtlnneellihkdkaaDoorW.PrintLast Go.Proofs.YtlnneellihkdkaaDoorW.PrintMore
attribute [local go_sem] Oper.semAt_some
set_option linter.unusedVariables false
set_option linter.unusedSimpArgs false

theorem dv_zeros (n : Nat) (d : List UInt8) : N.dv (List.replicate n 48 ++ d) = N.dv d := by
  rw [dv_app]
  have : N.dv (List.replicate n 48) = 0 := by
    induction n with
    | zero => rfl
    | succ n ih => rw [List.replicate_succ', N.dv_snoc, ih]; rfl
  rw [this, Nat.zero_mul, Nat.zero_add]
/-- One limb more behind a number that is not nought. -/
theorem dec_join (u d : Nat) (hu : 0 < u) (hd : d < 1000000000) : Lib.decDigits (u * 1000000000 + d) = Lib.decDigits u ++ (List.replicate (9 - (Lib.decDigits d).length) 48 ++ Lib.decDigits d) := by
  have h9 : (Lib.decDigits d).length ≤ 9 := N.dec_len _ 9 (by omega) (Nat.lt_of_lt_of_le hd (by decide))
  have hl : (List.replicate (9 - (Lib.decDigits d).length) 48 ++ Lib.decDigits d).length = 9 := by rw [List.length_append, List.length_replicate]; omega
  have hv : N.dv (Lib.decDigits u ++ (List.replicate (9 - (Lib.decDigits d).length) 48 ++ Lib.decDigits d)) = u * 1000000000 + d := by
    rw [dv_app, hl, dv_zeros, N.dv_dec, N.dv_dec]
  have hne := N.dec_ne u
  rw [← hv]
  refine N.dec_dv _ _ rfl (by simp [hne]) ?_ ?_
  · rw [List.all_append, List.all_append, N.dec_all, N.dec_all]
    simp [N.digU]
  · rw [N.head_app hne]
    intro h
    have := N.dec_head u h
    omega
theorem G_def : G = 1000000000 := rfl

theorem flat_down (t : List Int) (h : OkB G t) (hl : t.length ≤ 1000000) (htop : t.getD (t.length - 1) 0 ≠ 0) (k : Nat) : k + 1 ≤ t.length → (downTo (limbAt t h hl) t.length (k + 1)).flatMap (pieceT (t.length - 1)) = Lib.decDigits (vB G (t.drop (t.length - (k + 1)))).toNat ∧ 0 < vB G (t.drop (t.length - (k + 1))) := by
  induction k with
  | zero =>
    intro hk
    have e1 := limbAt_1 t h hl (t.length - 1) (by omega)
    have hb := getD_ok (by decide : 1 ≤ G) h (t.length - 1)
    have e2 : vB G (t.drop (t.length - (0 + 1))) = t.getD (t.length - 1) 0 := by
      rw [vB_drop, List.drop_eq_nil_of_le (by omega)]
      simp [vB]
    rw [e2]
    refine ⟨?_, by omega⟩
    simp only [downTo, List.range_succ, List.range_zero, List.nil_append, List.map_cons, List.map_nil, List.flatMap_cons, List.flatMap_nil, List.append_nil, Nat.sub_zero]
    unfold pieceT
    rw [if_neg (by rw [e1.1]; omega), List.nil_append]
    congr 1
    have := e1.2
    omega
  | succ k ih =>
    intro hk
    obtain ⟨ih1, ih2⟩ := ih (by omega)
    have e1 := limbAt_1 t h hl (t.length - 1 - (k + 1)) (by omega)
    have hb := getD_ok (by decide : 1 ≤ G) h (t.length - 1 - (k + 1))
    have e2 : vB G (t.drop (t.length - (k + 1 + 1))) = t.getD (t.length - 1 - (k + 1)) 0 + G * vB G (t.drop (t.length - (k + 1))) := by
      rw [vB_drop, show t.length - (k + 1 + 1) + 1 = t.length - (k + 1) by omega, show t.length - (k + 1 + 1) = t.length - 1 - (k + 1) by omega]
    rw [downTo_succ, List.flatMap_append, ih1, e2]
    have hG := G_def
    generalize hV : vB G (t.drop (t.length - (k + 1))) = V at *
    refine ⟨?_, by rw [hG]; omega⟩
    have hN : (t.getD (t.length - 1 - (k + 1)) 0 + G * V).toNat = V.toNat * 1000000000 + (t.getD (t.length - 1 - (k + 1)) 0).toNat := by rw [hG]; omega
    rw [hN, dec_join _ _ (by omega) (by omega)]
    simp only [List.flatMap_cons, List.flatMap_nil, List.append_nil]
    congr 1
    unfold pieceT
    rw [if_pos (by rw [e1.1]; omega)]
    have : (limbAt t h hl (t.length - 1 - (k + 1))).1.2 = (t.getD (t.length - 1 - (k + 1)) 0).toNat := by have := e1.2; omega
    rw [this]
theorem textT_val (t : List Int) (h : OkB G t) (hl : t.length ≤ 1000000) (hne : t ≠ []) (htop : t.getD (t.length - 1) 0 ≠ 0) : textT t h hl = Lib.decDigits (vB G t).toNat ∧ 0 < vB G t := by
  have hp := List.length_pos_iff.2 hne
  have := flat_down t h hl htop (t.length - 1) (by omega)
  rw [show t.length - 1 + 1 = t.length by omega, Nat.sub_self, List.drop_zero] at this
  exact this
/-- What a number's text is answered as. -/
def numE (z : Int) : Ending := if (Lib.decDigits z.natAbs).length ≤ 200 then .returned (.string (baU (Lib.itoa z))) else bigE

set_option maxRecDepth 100000 in
set_option maxHeartbeats 4000000 in
theorem text_nil (l : List Int) (neg : Bool) (hnil : trimL l = []) (hlen : l.length ≤ 1000) (A : Option Addr) (c : Nat) (w : World) (hV : Kd.V (Kd.int .u64) 65 w w.heap.size (fun _ => True) (.slice A l.length c) l) :
    CallsIn Fence.wide 8 Tryd.prog 34 #[.agg #[.slice A l.length c, .bool neg]] w fun e w' => e = .returned (.string (baU [48])) ∧ Below w.heap.size w w' := by
  have hu45 := Tryd.underlying45
  obtain ⟨k, hk⟩ := Ev.rounds (trim_prog_ev l neg (by omega))
  unfold trimP at hk
  rw [if_pos hnil] at hk
  have HT := Aside0.mk (fun (W : World) (hb : Below w.heap.size w W) => (callsIn_wide (n := 7)).2 (number_value_trim.calls k (fun k => k < w.heap.size) A c l neg _ _ W (Kd.V_below (Kd.V_mono (Kd.V_bound hV) (fun k h => h.2)) hb) hk))
  clear hk hV
  refine callsIn_of_wp_marks Tryd.func34 rfl trivial ?_ rfl
  simp only [Tryd.ntmps34, List.size_toArray, List.length_cons, List.length_nil, Nat.reduceAdd, Nat.reduceSub, Array.replicate_succ, Array.replicate_zero, List.push_toArray, List.append_toArray, List.nil_append, List.cons_append]
  gi_wp2_with (first
    | (refine ⟨trivial, ?_⟩; gi_at_call 51; refine (HT.out _ (by exact (Below.refl _ w).alloc (Nat.le_refl _) _)).mono ?_; rintro e w' ⟨v0, rfl, hV, hB⟩; obtain ⟨A', c', rfl⟩ := Kd.V_slice hV
       have hbk : w'.heap[w.heap.size]? = some (.cells #[.slice A l.length c, .bool neg] 45) := (hB.block _ (by simp)).trans (World.alloc_heap_new w _)
       have c0 : w'.cell? ⟨w.heap.size, 0, none⟩ = some (.slice A l.length c) := by rw [Lib.cell_of_heap hbk]; rfl
       have c1 : w'.cell? ⟨w.heap.size, 1, none⟩ = some (.bool neg) := by rw [Lib.cell_of_heap hbk]; rfl
       have f0 : w'.frozen? ⟨w.heap.size, 0, none⟩ = false := Lib.frozen_of_heap hbk 0
       have f1 : w'.frozen? ⟨w.heap.size, 1, none⟩ = false := Lib.frozen_of_heap hbk 1
       have hW1 : ((w'.setCell ⟨w.heap.size, 0, none⟩ (.slice A' (trimL l).length c')).setCell ⟨w.heap.size, 1, none⟩ (.bool false)).heap[w.heap.size]? = some (.cells #[.slice A' (trimL l).length c', .bool false] 45) := blk_put (blk_put hbk 0 _ rfl) 1 _ rfl
       have hW2 := blk_alloc hW1 (.cells #[Value.pointer none, Value.slice none 0 0] 69)
       have e0 := (blk_cell hW2 0).trans (show _ = some (Value.slice A' (trimL l).length c') from rfl)
       have hBel : Below w.heap.size w ((w'.setCell ⟨w.heap.size, 0, none⟩ (.slice A' (trimL l).length c')).setCell ⟨w.heap.size, 1, none⟩ (.bool false)) := ((((Below.refl _ w).alloc (Nat.le_refl _) _).trans (hB.mono (by simp))).setCell (p := ⟨w.heap.size, 0, none⟩) (Nat.le_refl _) _).setCell (p := ⟨w.heap.size, 1, none⟩) (Nat.le_refl _) _
       have hne0 : (((trimL l).length : Int) == 0) = true := by rw [hnil]; rfl
       clear hW1 hW2 hbk hV hB)
    | fail)
  exact ⟨_, results_tmp rfl _ _ _, rfl, by rw [hnil] at hBel; exact hBel⟩

/-- value.text. -/
theorem text_calls (l : List Int) (neg : Bool) (hok : OkB G l) (hlen : l.length ≤ 1000) (A : Option Addr) (c : Nat) (w : World) (hL : LaidW w) (hV : Kd.V (Kd.int .u64) 65 w w.heap.size (fun _ => True) (.slice A l.length c) l) :
    Calls Tryd.prog 34 #[.agg #[.slice A l.length c, .bool neg]] w fun e w' => e = numE (sv G l neg) ∧ Below w.heap.size w w' := by
  obtain ⟨h1, h2, h3, h4⟩ := trimN_all G l.length l rfl
  by_cases hn : trimL l = []
  · refine (callsIn_wide.1 (text_nil l neg hn hlen A c w hV)).mono ?_
    rintro e w' ⟨rfl, hb⟩
    refine ⟨?_, hb⟩
    have hv : vB G l = 0 := by
      rw [← h1]
      show vB G (trimL l) = 0
      rw [hn]
      rfl
    have : sv G l neg = 0 := by unfold sv; rw [hv]; simp
    rw [this]
    have d0 : Lib.decDigits 0 = [48] := by rw [Lib.decDigits]; simp
    unfold numE Lib.itoa
    simp [d0]
  · have hok' : OkB G (trimL l) := h2 hok
    have hlt : (trimL l).length ≤ 1000000 := Nat.le_trans h3 (by omega)
    obtain ⟨ht, hp⟩ := textT_val (trimL l) hok' hlt hn (h4 hn)
    have hv : vB G (trimL l) = vB G l := h1
    refine (callsIn_wide.1 (text_ne l neg hok' hlen hlt hn A c w hL hV)).mono ?_
    rintro e w' ⟨rfl, hb⟩
    refine ⟨?_, hb⟩
    rw [hv] at hp
    rw [ht, hv]
    have hab : (sv G l neg).natAbs = (vB G l).toNat := by unfold sv; split <;> omega
    have hit : Lib.itoa (sv G l neg) = if neg = true then 45 :: Lib.decDigits (vB G l).toNat else Lib.decDigits (vB G l).toNat := by
      unfold Lib.itoa
      cases neg
      · rw [show sv G l false = vB G l from rfl, if_neg (by omega)]
        rfl
      · rw [show sv G l true = -(vB G l) from rfl, if_pos (by omega)]
        simp only [if_true]
        congr 2
        all_goals omega
    unfold numE
    rw [hab, hit]
end Go.Proofs.YtlnneellihkdkaaDoor.D
namespace Go.Proofs.YtlnneellihkdkaaDoor.D
open Go Go.Proofs Go.RowKit Go.Shelf Go.Proofs.YtlnneellihkdkaaDoorW.PrintWords Go.Proofs.YtlnneellihkdkaaDoorW.PrintLast Go.Proofs.YtlnneellihkdkaaDoorW.PrintMore
set_option linter.unusedVariables false
set_option linter.unusedSimpArgs false

theorem caught_idle (p q : Addr) (w : World) :
    CallsD Tryd.prog 31 #[.pointer (some p), .pointer (some q)] .returning w fun e u' w' => e = .returned (.tuple #[]) ∧ u' = .returning ∧ w' = w := by
  refine callsD_of_wpS Tryd.func31 rfl fun c₀ cs hu => ?_
  apply wpS_seq
  apply wpS_region
  simp [wpOpsS, go_sem, recoverD, hu, Tryd.ntmps31, Exit.thenS]
  apply wpS_seq
  apply wpS_region
  simp [wpOpsS, go_sem, recoverD, hu, Tryd.ntmps31, Exit.thenS]
  refine wpS_cond (t := false) (by simp [Act.eval, Array.replicate]) ?_
  simp only [Bool.false_eq_true, if_false]
  refine wpS_of_wp (wp_skip ?_)
  cases c₀
  simp_all [bodyPostS, results, Tryd.results31]

set_option maxRecDepth 100000 in
set_option maxHeartbeats 2000000 in
theorem caught_panic (p q : Addr) (n : Int) (w : World) (hc : w.cell? p = some (.string ⟨#[]⟩)) (hz : w.frozen? p = false) (hq : w.cell? q = some (.int .i64 0)) (hzq : w.frozen? q = false) (hpq : p.block ≠ q.block) :
    CallsD Tryd.prog 31 #[.pointer (some p), .pointer (some q)] (.panicking [{ v := .iface 27 (.int .i64 n), recovered := false }]) w fun e u' w' =>
      e = .returned (.tuple #[]) ∧ u' = .panicking [{ v := .iface 27 (.int .i64 n), recovered := true }] ∧ w' = (w.setCell p (.string ⟨#[]⟩)).setCell q (.int .i64 n) := by
  refine callsD_of_wpS Tryd.func31 rfl fun c₀ cs hu => ?_
  apply wpS_seq
  apply wpS_region
  simp [wpOpsS, go_sem, recoverD, hu, Tryd.ntmps31, Exit.thenS]
  apply wpS_seq
  apply wpS_region
  simp [wpOpsS, go_sem, recoverD, hu, Tryd.ntmps31, Exit.thenS]
  refine wpS_cond (t := true) (by simp [Act.eval, Array.replicate]) ?_
  simp only [if_true]
  refine wpS_of_wp ?_
  have hq2 : (w.setCell p (.string ⟨#[]⟩)).cell? q = some (.int .i64 0) := (World.cell?_of_block (Below.heap_setCell _ _ _ _ (Ne.symm hpq))).trans hq
  have hzq2 : (w.setCell p (.string ⟨#[]⟩)).frozen? q = false := by
    rw [← hzq]
    unfold World.frozen?
    rw [Below.heap_setCell _ _ _ _ (Ne.symm hpq)]
  have hta : ∀ W, (Instr.typeAssert (.iface 27 (.int .i64 n)) 20 27 true).run Tryd.prog W = .ok (.tuple #[.int .i64 n, .bool true]) W := fun W => by
    simp [Instr.typeAssert, go_sem]
  simp only [Array.replicate_succ, Array.replicate_zero, List.push_toArray, List.append_toArray, List.nil_append, List.cons_append]
  go_wp2
  simp [bodyPostS, results, Tryd.results31]

abbrev badE : Ending := .panicked [{ v := .iface 27 (.int .i64 90), recovered := false }]
set_option maxRecDepth 100000 in
set_option maxHeartbeats 2000000 in
theorem parse_bad (s : ByteArray) (hs : s.size ≤ 9223372036854775807) (hc : N.canU s.data.toList = false) (w : World) :
    Calls Tryd.prog 33 #[.string s] w fun e w' => e = badE ∧ Below w.heap.size w w' := by
  obtain ⟨k, hk⟩ := Ev.rounds (can_prog_u s hs)
  rw [hc] at hk
  have HC := Aside0.mk (fun W => number_Can.calls k s false W hk)
  clear hk
  go_enter Tryd.func33, Tryd.ntmps33
  go_wp2_with (go_at_call 12; refine (HC.out _).mono ?_; rintro e w' ⟨rfl, hd⟩)
  rw [show (Instr.panic (.iface 27 (.int .i64 90))).run Tryd.prog w' = .halt (.panic (.iface 27 (.int .i64 90))) w' from rfl]
  simp only [Result.andThen]
  rw [Oper.upon_panic]
  go_wp2
  exact ⟨rfl, rfl, ((Below.refl _ w).alloc (Nat.le_refl _) _).trans (hd.below.mono (by simp))⟩

/-- number.parse: the limbs of a numeral, or the panic. -/
theorem parse_ok (s : ByteArray) (hs : s.size ≤ 9223372036854775807) (hc : N.canU s.data.toList = true) (w : World) :
    Calls Tryd.prog 33 #[.string s] w fun e w' => ∃ A c, e = .returned (.agg #[.slice A (limbsU s.data.toList).length c, .bool (negU s.data.toList)]) ∧ Kd.V (Kd.int .u64) 65 w' w.heap.size (fun k => w.heap.size ≤ k) (.slice A (limbsU s.data.toList).length c) (limbsU s.data.toList) ∧ Below w.heap.size w w' := by
  obtain ⟨k, hk⟩ := Ev.rounds (parse_prog_ev s hs hc)
  refine (number_parse.calls k s _ _ w hk).mono ?_
  rintro e w' ⟨v, rfl, hV, hB⟩
  obtain ⟨A, c, rfl⟩ := Kd.V_slice hV
  exact ⟨A, c, rfl, hV, hB⟩

/-- How the arithmetic answers. -/
def ansV : Option Int → Value
  | none => .tuple #[.string ⟨#[]⟩, .int .i64 90]
  | some z => if (Lib.decDigits z.natAbs).length ≤ 200 then .tuple #[.string (baU (Lib.itoa z)), .int .i64 0] else .tuple #[.string ⟨#[]⟩, .int .i64 91]
def valO (a : ByteArray) : Option Int := if N.canU a.data.toList = true then some (N.valU a.data.toList) else none
def opO (f : Int → Int → Int) (a b : ByteArray) : Option Int := (valO a).bind fun x => (valO b).map fun y => f x y

/-! ### the door -/
theorem results_cells {fn : Func} (h : fn.results = #[.cell 4 9, .cell 5 27]) (tmps : Array Value) (w : World) (p q : Addr) (u v : Value) (h4 : tmps.getD 4 undef = .pointer (some p)) (h5 : tmps.getD 5 undef = .pointer (some q)) (hp : w.cell? p = some u) (hq : w.cell? q = some v) :
    (results fn tmps).run Tryd.prog w = .ok (.tuple #[u, v]) w := by
  have h4' : tmps[4]?.getD undef = .pointer (some p) := by rw [← h4]; simp
  have h5' : tmps[5]?.getD undef = .pointer (some q) := by rw [← h5]; simp
  simp [results, h, go_sem, h4, h5, h4', h5', hp, hq]
theorem set_cell_at {W : World} {k : Nat} {v v' : Value} {t : TypeId} (h : W.heap[k]? = some (.cells #[v] t (0, 0))) : (W.setCell ⟨k, 0, none⟩ v').heap[k]? = some (.cells #[v'] t (0, 0)) := blk_put h 0 v' rfl
theorem door_panic (fn : Func) (hres : fn.results = #[.cell 4 9, .cell 5 27]) (tmps : Array Value) (b : Nat) (h4 : tmps.getD 4 undef = .pointer (some ⟨b, 0, none⟩)) (h5 : tmps.getD 5 undef = .pointer (some ⟨b + 1, 0, none⟩)) (W : World)
    (hs : W.heap[b]? = some (.cells #[.string ⟨#[]⟩] 9 (0, 0))) (he : W.heap[b + 1]? = some (.cells #[.int .i64 0] 27 (0, 0))) (n : Int) (R : Ending → World → Prop)
    (hR : ∀ W', Below b W W' → R (.returned (.tuple #[.string ⟨#[]⟩, .int .i64 n])) W') :
    Leaves Tryd.prog fn tmps R [{ target := .fn (.func 31) #[], args := #[.pointer (some ⟨b, 0, none⟩), .pointer (some ⟨b + 1, 0, none⟩)] }] (.panicking [{ v := .iface 27 (.int .i64 n), recovered := false }]) W := by
  refine leaves_cons (f := 31) (args := #[.pointer (some ⟨b, 0, none⟩), .pointer (some ⟨b + 1, 0, none⟩)]) (by simp) (by simp [go_sem]) ?_
  refine (caught_panic ⟨b, 0, none⟩ ⟨b + 1, 0, none⟩ n W (blk_cell hs 0) (blk_frozen hs 0) (blk_cell he 0) (blk_frozen he 0) (by simp)).mono ?_
  rintro e u' W' ⟨rfl, rfl, rfl⟩
  have hs' : ((W.setCell ⟨b, 0, none⟩ (.string ⟨#[]⟩)).setCell ⟨b + 1, 0, none⟩ (.int .i64 n)).heap[b]? = some (.cells #[.string ⟨#[]⟩] 9 (0, 0)) := blk_far (set_cell_at hs) (by simp) _
  have he' : ((W.setCell ⟨b, 0, none⟩ (.string ⟨#[]⟩)).setCell ⟨b + 1, 0, none⟩ (.int .i64 n)).heap[b + 1]? = some (.cells #[.int .i64 n] 27 (0, 0)) := set_cell_at (blk_far he (by simp) _)
  refine ⟨_, results_cells hres tmps _ _ _ _ _ h4 h5 (blk_cell hs' 0) (blk_cell he' 0), hR _ ?_⟩
  exact ((Below.refl _ W).setCell (p := ⟨b, 0, none⟩) (Nat.le_refl _) _).setCell (p := ⟨b + 1, 0, none⟩) (Nat.le_succ _) _
theorem door_ok (fn : Func) (hres : fn.results = #[.cell 4 9, .cell 5 27]) (tmps : Array Value) (b : Nat) (h4 : tmps.getD 4 undef = .pointer (some ⟨b, 0, none⟩)) (h5 : tmps.getD 5 undef = .pointer (some ⟨b + 1, 0, none⟩)) (W : World) (u v : Value)
    (hs : W.heap[b]? = some (.cells #[u] 9 (0, 0))) (he : W.heap[b + 1]? = some (.cells #[v] 27 (0, 0))) (R : Ending → World → Prop)
    (hR : R (.returned (.tuple #[u, v])) W) :
    Leaves Tryd.prog fn tmps R [{ target := .fn (.func 31) #[], args := #[.pointer (some ⟨b, 0, none⟩), .pointer (some ⟨b + 1, 0, none⟩)] }] .returning W := by
  refine leaves_cons (f := 31) (args := #[.pointer (some ⟨b, 0, none⟩), .pointer (some ⟨b + 1, 0, none⟩)]) (by simp) (by simp [go_sem]) ?_
  refine (caught_idle ⟨b, 0, none⟩ ⟨b + 1, 0, none⟩ W).mono ?_
  rintro e u' W' ⟨rfl, rfl, rfl⟩
  exact ⟨_, results_cells hres tmps _ _ _ _ _ h4 h5 (blk_cell hs 0) (blk_cell he 0), hR⟩

theorem ansV_ok {z : Int} (h : (Lib.decDigits z.natAbs).length ≤ 200) : ansV (some z) = .tuple #[.string (baU (Lib.itoa z)), .int .i64 0] := if_pos h
theorem ansV_big {z : Int} (h : ¬ (Lib.decDigits z.natAbs).length ≤ 200) : ansV (some z) = .tuple #[.string ⟨#[]⟩, .int .i64 91] := if_neg h
theorem door_new {w W : World} (hB : Below ((w.alloc (.cells #[.string ⟨#[]⟩] 9)).alloc (.cells #[.int .i64 0] 27)).heap.size ((w.alloc (.cells #[.string ⟨#[]⟩] 9)).alloc (.cells #[.int .i64 0] 27)) W) :
    W.heap[w.heap.size]? = some (.cells #[.string ⟨#[]⟩] 9 (0, 0)) ∧ W.heap[w.heap.size + 1]? = some (.cells #[.int .i64 0] 27 (0, 0)) ∧ Below w.heap.size w W := by
  refine ⟨?_, ?_, (((Below.refl _ w).alloc (Nat.le_refl _) _).alloc (by simp) _).trans (hB.mono (by simp; omega))⟩
  · rw [hB.block _ (by simp; omega)]
    exact blk_alloc (World.alloc_heap_new w _) _
  · rw [hB.block _ (by simp)]
    have := World.alloc_heap_new (w.alloc (.cells #[.string ⟨#[]⟩] 9)) (.cells #[.int .i64 0] 27)
    simpa using this
theorem text_R (r : List Int) (nr : Bool) (hok : OkB G r) (hlen : r.length ≤ 1000) {base e : Nat} {ok : Nat → Prop} {v : Value} (w : World) (hL : LaidW w) (hV : Kd.V (Kd.int .u64) e w base ok v r) :
    Calls Tryd.prog 34 #[.agg #[v, .bool nr]] w fun e w' => e = numE (sv G r nr) ∧ Below w.heap.size w w' := by
  obtain ⟨A, c, rfl⟩ := Kd.V_slice hV
  exact text_calls r nr hok hlen A c w hL (Kd.V_mono hV (fun _ _ => trivial))
theorem sv_val {l : List UInt8} (h : N.canU l = true) : sv G (limbsU l) (negU l) = N.valU l := by
  obtain ⟨h1, h2⟩ := val_neg h
  unfold sv
  rw [(limbs_val h).1]
  cases hn : negU l
  · simp [h2 hn]
  · simp [(h1 hn).1]
theorem opO_none_l {f : Int → Int → Int} {a b : ByteArray} (h : N.canU a.data.toList = false) : opO f a b = none := by simp [opO, valO, h]
theorem opO_none_r {f : Int → Int → Int} {a b : ByteArray} (h : N.canU b.data.toList = false) : opO f a b = none := by
  unfold opO
  rw [show valO b = none by simp [valO, h]]
  cases valO a <;> rfl
theorem opO_some {f : Int → Int → Int} {a b : ByteArray} (ha : N.canU a.data.toList = true) (hb : N.canU b.data.toList = true) : opO f a b = some (f (N.valU a.data.toList) (N.valU b.data.toList)) := by simp [opO, valO, ha, hb]

theorem two_new (w : World) (o o' : Obj) : Below w.heap.size w ((w.alloc o).alloc o') := ((Below.refl _ w).alloc (Nat.le_refl _) _).alloc (by simp) _
theorem S4 {W : World} {g : Nat} {u0 u1 v0 v1 : Value} (hx : W.heap[g]? = some (.cells #[u0, u1] 45 (0, 0))) (hy : W.heap[g + 1]? = some (.cells #[v0, v1] 45 (0, 0))) :
    W.cell? ⟨g, 0, none⟩ = some u0 ∧ W.cell? ⟨g, 1, none⟩ = some u1 ∧ W.cell? ⟨g + 1, 0, none⟩ = some v0 ∧ W.cell? ⟨g + 1, 1, none⟩ = some v1 := ⟨blk_cell hx 0, blk_cell hx 1, blk_cell hy 0, blk_cell hy 1⟩
theorem ansV_form (o : Option Int) : ∃ s n, ansV o = .tuple #[.string s, .int .i64 n] := by
  cases o with
  | none => exact ⟨_, _, rfl⟩
  | some z =>
    by_cases h : (Lib.decDigits z.natAbs).length ≤ 200
    · exact ⟨_, _, ansV_ok h⟩
    · exact ⟨_, _, ansV_big h⟩
abbrev Ans (f : Nat) (a b : ByteArray) (s : ByteArray) (n : Int) : Prop := ∀ W : World, LaidW W → Calls Tryd.prog f #[.string a, .string b] W fun e w' => e = .returned (.tuple #[.string s, .int .i64 n]) ∧ Below W.heap.size W w'
abbrev CanIs (a : ByteArray) (b : Bool) : Prop := ∀ W : World, Calls Tryd.prog 12 #[.string a] W fun e w' => e = .returned (.bool b) ∧ Below W.heap.size W w'
theorem canIs (a : ByteArray) (ha : a.size ≤ 9223372036854775807) : CanIs a (N.canU a.data.toList) := fun W => by
  obtain ⟨k, hk⟩ := Ev.rounds (can_prog_u a ha)
  exact (number_Can.calls k a _ W hk).mono (fun e w' h => ⟨h.1, h.2.below⟩)
end Go.Proofs.YtlnneellihkdkaaDoor.D
