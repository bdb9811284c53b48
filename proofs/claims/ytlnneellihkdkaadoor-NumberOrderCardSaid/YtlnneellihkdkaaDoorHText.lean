/- value.text: limbs as a text, or the panic of too many digits. -/
import Derived.Test.YtlnneellihkdkaaDoorHBack
import Derived.Test.YtlnneellihkdkaaDoorHFmt
import Derived.Test.YtlnneellihkdkaaDoorHBuilder
import Derived.Lib.Repeat
namespace Go.Proofs.YtlnneellihkdkaaDoor.D
open Go Go.Proofs Go.RowKit Go.Shelf Go.Proofs.YtlnneellihkdkaaDoorW.PrintWords Go.Proofs.YtlnneellihkdkaaDoorW.PrintLast Go.Proofs.YtlnneellihkdkaaDoorW.PrintMore
attribute [local go_sem] Oper.semAt_some
set_option linter.unusedVariables false
set_option linter.unusedSimpArgs false

/-! ### the builder abides -/
theorem builderF_grown {B b : Nat} {bs : List Value} {W W' : World} {row : Option Nat} (h : Lib.IsBuilderF 69 5 B b bs W) (hg : W.grownBy W' row) (hr : ∀ r, row = some r → ∃ o : Obj, W.heap[r]? = some o ∧ o.isCells = false) : Lib.IsBuilderF 69 5 B b bs W' := by
  have keep : ∀ (k : Nat) (c : Array Value) (t : TypeId) (fz : Nat × Nat), W.heap[k]? = some (.cells c t fz) → W'.heap[k]? = some (.cells c t fz) := fun k c t fz hk =>
    (hg.block k (Array.getElem?_eq_some_iff.1 hk).1 (fun e => by
      obtain ⟨o, ho, hc⟩ := hr k e.symm
      rw [hk] at ho
      cases ho
      simp [Obj.isCells] at hc)).trans hk
  have one : ∀ p, Lib.BuilderAtF 69 5 B b p bs W → Lib.BuilderAtF 69 5 B b p bs W' := by
    rintro p ⟨hB, v, hb, ⟨hl, hown⟩, hne⟩
    refine ⟨hB, v, keep _ _ _ _ hb, ⟨hl, ?_⟩, hne⟩
    rcases hown with h0 | ⟨g, cap, cur, fz, e1, e2, e3, e4, e5, e6, e7, e8⟩
    · exact .inl h0
    · exact .inr ⟨g, cap, cur, fz, e1, e2, keep _ _ _ _ e3, e4, e5, e6, e7, e8⟩
  exact h.imp (one _) (one _)
theorem builderF_below {B b : Nat} {bs : List Value} {W W' : World} (h : Lib.IsBuilderF 69 5 B b bs W) (hb : Below W.heap.size W W') : Lib.IsBuilderF 69 5 B b bs W' := by
  have keep : ∀ (k : Nat) (o : Obj), W.heap[k]? = some o → W'.heap[k]? = some o := fun k o hk => (hb.block k (Array.getElem?_eq_some_iff.1 hk).1).trans hk
  have one : ∀ p, Lib.BuilderAtF 69 5 B b p bs W → Lib.BuilderAtF 69 5 B b p bs W' := by
    rintro p ⟨hB, v, hbk, ⟨hl, hown⟩, hne⟩
    refine ⟨hB, v, keep _ _ hbk, ⟨hl, ?_⟩, hne⟩
    rcases hown with h0 | ⟨g, cap, cur, fz, e1, e2, e3, e4, e5, e6, e7, e8⟩
    · exact .inl h0
    · exact .inr ⟨g, cap, cur, fz, e1, e2, keep _ _ e3, e4, e5, e6, e7, e8⟩
  exact h.imp (one _) (one _)

/-- What a round writes. -/
def pieceT (last : Nat) (x : PL) : List UInt8 := (if x.1.1 < last then List.replicate (9 - (Lib.decDigits x.1.2).length) 48 else []) ++ Lib.decDigits x.1.2
theorem dec9 (x : PL) : (Lib.decDigits x.1.2).length ≤ 9 := N.dec_len _ 9 (by omega) (Nat.lt_of_lt_of_le x.2.1 (by decide))
theorem pieceT_len (last : Nat) (x : PL) : (pieceT last x).length ≤ 20 := by
  have := dec9 x
  unfold pieceT
  split <;> simp <;> omega
theorem flat_len (last : Nat) (pre : List PL) : (pre.flatMap (pieceT last)).length ≤ 20 * pre.length := by
  induction pre with
  | nil => simp
  | cons x pre ih => have := pieceT_len last x; simp only [List.flatMap_cons, List.length_append, List.length_cons]; omega

/-- The builder with what it holds, beside what a round keeps. -/
def TB (w wL : World) (b Bs : Nat) (bs : List UInt8) (W : World) : Prop :=
  (Lib.IsBuilderF 69 5 b b (Lib.byteCells bs) W ∧ KpS b Bs wL W ∧ wL.heap.size ≤ W.heap.size) ∧ Below w.heap.size w W
theorem TB_own {β : Type} (g : β → List UInt8) (w wL : World) (b Bs : Nat) (hw : w.heap.size ≤ b) (hb : b < wL.heap.size) (hBs : Bs < wL.heap.size) : OwnFrom wL.heap.size (fun (pre : β) W => TB w wL b Bs (g pre) W) :=
  OwnFrom.and (fun s W W' row hs hg hr => ⟨builderF_grown hs.1 hg (fun r e => (hr r e).2), hs.2.1.grown (by omega) hBs hs.2.2 hg (fun r e => (hr r e).1), Nat.le_trans hs.2.2 hg.size⟩) (ownFrom_below (Nat.le_refl _) (by omega))
theorem builderF_cells {b : Nat} {bs : List Value} {W : World} (h : Lib.IsBuilderF 69 5 b b bs W) : ∃ c, W.heap[b]? = some (.cells c 69 (0, 0)) := by
  rcases h with ⟨_, v, hb, _⟩ | ⟨_, v, hb, _⟩ <;> exact ⟨_, hb⟩
theorem TB.fresh {w wL W W' : World} {b Bs : Nat} {bs : List UInt8} (h : TB w wL b Bs bs W) (hw : w.heap.size ≤ b) (hb : b < wL.heap.size) (hBs : Bs < wL.heap.size) (hB : Below W.heap.size W W') : TB w wL b Bs bs W' ∧ KpS b Bs W W' ∧ KeepsFrom 0 W W' := by
  obtain ⟨⟨h1, h2, h3⟩, h4⟩ := h
  have hk : KpS b Bs W W' := ⟨fun k hk => hB.block k (by omega), hB.block Bs (by omega)⟩
  exact ⟨⟨⟨builderF_below h1 hB, h2.trans hk, Nat.le_trans h3 hB.size⟩, h4.trans (hB.mono h4.size)⟩, hk, hB.size, fun k o _ ho _ => (hB.block k (Array.getElem?_eq_some_iff.1 ho).1).trans ho⟩
theorem TB.write {w wL W W' : World} {b Bs : Nat} {bs bs' : List UInt8} {cs : Array Value} (h : TB w wL b Bs bs W) (hw : w.heap.size ≤ b) (hb : b < wL.heap.size) (hBs : Bs < wL.heap.size) (hne : Bs ≠ b) (hc : wL.heap[Bs]? = some (.cells cs 43 (0, 0)))
    (hat : Lib.BuilderAtF 69 5 b b (.pointer (some ⟨b, 0, none⟩)) (Lib.byteCells bs') W') (hB : Below b W W') (hO : Lib.OthersKept 5 (some b) W W') : TB w wL b Bs bs' W' ∧ KpS b Bs W W' ∧ KeepsFrom 0 W W' := by
  obtain ⟨⟨h1, h2, h3⟩, h4⟩ := h
  have hcW : W.heap[Bs]? = some (.cells cs 43 (0, 0)) := h2.2.trans hc
  have hk : KpS b Bs W W' := ⟨fun k hk => hB.block k hk, (hO Bs _ hcW (fun e => hne (Option.some.inj e)) (fun c fz e => by cases e)).trans hcW.symm⟩
  refine ⟨⟨⟨.inr hat, h2.trans hk, Nat.le_trans h3 hB.size⟩, h4.trans (hB.mono hw)⟩, hk, hB.size, fun k o _ ho hoc => ?_⟩
  obtain ⟨c, hcb⟩ := builderF_cells h1
  exact hO k o ho (fun e => by cases Option.some.inj e; rw [hcb] at ho; cases ho; simp [Obj.isCells] at hoc) (fun c fz e => by subst e; simp [Obj.isCells] at hoc)
theorem writeT {w wL W : World} {b Bs : Nat} {bs : List UInt8} {cs : Array Value} (h : TB w wL b Bs bs W) (hw : w.heap.size ≤ b) (hb : b < wL.heap.size) (hBs : Bs < wL.heap.size) (hne : Bs ≠ b) (hc : wL.heap[Bs]? = some (.cells cs 43 (0, 0))) (us : List UInt8) (hlen : bs.length + us.length ≤ 140737488355328) :
    Calls Tryd.prog 54 #[.pointer (some ⟨b, 0, none⟩), .string (baU us)] W fun e W' => e = .returned (.tuple #[.int .i64 us.length, .nilIface]) ∧ TB w wL b Bs (bs ++ us) W' ∧ KpS b Bs W W' ∧ KeepsFrom 0 W W' := by
  have hs : (baU us).size = us.length := by simp [baU, ByteArray.size]
  refine (writeString_k b b (Lib.byteCells bs) (baU us) W h.1.1 (by rw [hs]; simpa [Lib.byteCells] using hlen) (by have := h.1.2.2; omega)).mono ?_
  rintro e W' ⟨rfl, hat, hB, hO⟩
  rw [hs]
  refine ⟨rfl, h.write hw hb hBs hne hc ?_ hB hO⟩
  have e1 : Lib.byteCells (bs ++ us) = Lib.byteCells bs ++ Lib.strCells (baU us) := by simp [Lib.byteCells, Lib.strCells, baU]
  rw [e1]
  exact hat
theorem kf0 {W W' : World} (h : KeepsFrom 0 W W') (B : Nat) : KeepsFrom B W W' := ⟨h.size, fun k o _ ho hc => h.same k o (Nat.zero_le _) ho hc⟩
theorem limb_cells {W : World} {base c : Nat} {ok : Nat → Prop} {A : Option Addr} {t : List Int} (h : Kd.V (Kd.int .u64) 65 W base ok (.slice A t.length c) t) (hne : 0 < t.length) : ∃ ad, A = some ad ∧ ok ad.block ∧ ∀ j, j < t.length → W.cell? (ad.add j) = some (.int .u64 (t.getD j 0)) := by
  have hF := Kd.V_F h
  obtain ⟨ad, c0, rfl, _, _, _, hin⟩ := Kd.F_get hF 0 0 (by omega) (by omega)
  refine ⟨ad, rfl, hin (by decide), fun j hj => ?_⟩
  have := Kd.foot_int (Kd.F_now hF) (j : Int) (by omega) (by omega)
  rw [Int.toNat_natCast] at this
  rw [this]
  simp [rd]

/-- The limb at a place, as a round is handed it. -/
def limbAt (t : List Int) (h : OkB G t) (hl : t.length ≤ 1000000) (j : Nat) : PL :=
  if hj : j < 1000000 then ⟨(j, (t.getD j 0).toNat), by have := getD_ok (by decide : 1 ≤ G) h j; have hG : G = 1000000000 := rfl; exact ⟨by show (t.getD j 0).toNat < 1000000000; omega, hj⟩⟩ else ⟨(0, 0), by decide⟩
theorem limbAt_1 (t : List Int) (h : OkB G t) (hl : t.length ≤ 1000000) (j : Nat) (hj : j < t.length) : (limbAt t h hl j).1.1 = j ∧ ((limbAt t h hl j).1.2 : Int) = t.getD j 0 := by
  have := getD_ok (by decide : 1 ≤ G) h j
  unfold limbAt
  rw [dif_pos (by omega)]
  exact ⟨rfl, by show (((t.getD j 0).toNat : Nat) : Int) = _; omega⟩
/-- The digits of limbs without a nought above. -/
def textT (t : List Int) (h : OkB G t) (hl : t.length ≤ 1000000) : List UInt8 := (downTo (limbAt t h hl) t.length t.length).flatMap (pieceT (t.length - 1))
abbrev bigE : Ending := .panicked [{ v := .iface 27 (.int .i64 91), recovered := false }]

set_option maxRecDepth 100000 in
set_option maxHeartbeats 4000000 in
theorem text_ne (l : List Int) (neg : Bool) (hok : OkB G (trimL l)) (hlen : l.length ≤ 1000) (hlt : (trimL l).length ≤ 1000000) (hne : trimL l ≠ []) (A : Option Addr) (c : Nat) (w : World) (hL : LaidW w) (hV : Kd.V (Kd.int .u64) 65 w w.heap.size (fun _ => True) (.slice A l.length c) l) :
    CallsIn Fence.wide 8 Tryd.prog 34 #[.agg #[.slice A l.length c, .bool neg]] w fun e w' => (e = if (textT (trimL l) hok hlt).length ≤ 200 then .returned (.string (baU (if neg = true then 45 :: textT (trimL l) hok hlt else textT (trimL l) hok hlt))) else bigE) ∧ Below w.heap.size w w' := by
  have hu45 := Tryd.underlying45
  obtain ⟨k, hk⟩ := Ev.rounds (trim_prog_ev l neg (by omega))
  unfold trimP at hk
  rw [if_neg hne] at hk
  have HT := Aside0.mk (fun (W : World) (hb : Below w.heap.size w W) => (callsIn_wide (n := 7)).2 (number_value_trim.calls k (fun k => k < w.heap.size) A c l neg _ _ W (Kd.V_below (Kd.V_mono (Kd.V_bound hV) (fun k h => h.2)) hb) hk))
  have HL := Aside0.mk hL
  have HOK := Aside0.mk hok
  have HNE := Aside0.mk (List.length_pos_iff.2 hne)
  have HNEL := Aside0.mk hne
  clear hk hL hV
  refine callsIn_of_wp_marks Tryd.func34 rfl trivial ?_ rfl
  simp only [Tryd.ntmps34, List.size_toArray, List.length_cons, List.length_nil, Nat.reduceAdd, Nat.reduceSub, Array.replicate_succ, Array.replicate_zero, List.push_toArray, List.append_toArray, List.nil_append, List.cons_append]
  gi_wp2_with (first
    | (refine ⟨trivial, ?_⟩; gi_at_call 51; refine (HT.out _ (by exact (Below.refl _ w).alloc (Nat.le_refl _) _)).mono ?_; rintro e w' ⟨v0, rfl, hV, hB⟩; obtain ⟨A', c', rfl⟩ := Kd.V_slice hV
       have hbk : w'.heap[w.heap.size]? = some (.cells #[.slice A l.length c, .bool neg] 45) := (hB.block _ (by simp)).trans (World.alloc_heap_new w _)
       have c0 : w'.cell? ⟨w.heap.size, 0, none⟩ = some (.slice A l.length c) := by rw [Lib.cell_of_heap hbk]; rfl
       have c1 : w'.cell? ⟨w.heap.size, 1, none⟩ = some (.bool neg) := by rw [Lib.cell_of_heap hbk]; rfl
       have f0 : w'.frozen? ⟨w.heap.size, 0, none⟩ = false := Lib.frozen_of_heap hbk 0
       have f1 : w'.frozen? ⟨w.heap.size, 1, none⟩ = false := Lib.frozen_of_heap hbk 1
       have hW1 : ((w'.setCell ⟨w.heap.size, 0, none⟩ (.slice A' (trimL l).length c')).setCell ⟨w.heap.size, 1, none⟩ (.bool neg)).heap[w.heap.size]? = some (.cells #[.slice A' (trimL l).length c', .bool neg] 45) := blk_put (blk_put hbk 0 _ rfl) 1 _ rfl
       have hW2 := blk_alloc hW1 (.cells #[Value.pointer none, Value.slice none 0 0] 69)
       have e0 := (blk_cell hW2 0).trans (show _ = some (Value.slice A' (trimL l).length c') from rfl)
       have HW1 := Aside0.mk hW1
       have HV := Aside0.mk hV
       have HBB := Aside0.mk hB
       have hne0 : (((trimL l).length : Int) == 0) = false := by have := HNE.out; simp; exact HNEL.out
       clear hW1 hW2 hbk hV hB)
    | (refine ⟨trivial, ?_⟩; gi_at_call 52; refine (back_in Fence.wide 7 trivial rfl _ _ _ _).mono ?_; rintro e w' ⟨rfl, rfl⟩))
  have hV := HV.out
  have hB := HBB.out
  have hW1 := HW1.out
  clear HV HBB HW1 c0 c1 f0 f1 e0
  have hBel : Below w.heap.size w ((w'.setCell ⟨w.heap.size, 0, none⟩ (.slice A' (trimL l).length c')).setCell ⟨w.heap.size, 1, none⟩ (.bool neg)) := ((((Below.refl _ w).alloc (Nat.le_refl _) _).trans (hB.mono (by simp))).setCell (p := ⟨w.heap.size, 0, none⟩) (Nat.le_refl _) _).setCell (p := ⟨w.heap.size, 1, none⟩) (Nat.le_refl _) _
  have hbs := hB.size
  obtain ⟨ad, rfl, had, hcells⟩ := limb_cells hV HNE.out
  have hadw : ad.block ≠ w.heap.size := by simp only [World.size_alloc] at had; omega
  have hcells1 : ∀ j, j < (trimL l).length → ((w'.setCell ⟨w.heap.size, 0, none⟩ (.slice (some ad) (trimL l).length c')).setCell ⟨w.heap.size, 1, none⟩ (.bool neg)).cell? (ad.add j) = some (.int .u64 ((trimL l).getD j 0)) := fun j hj =>
    (World.cell?_of_block ((Below.heap_setCell _ _ _ _ (by rw [add_block']; exact hadw)).trans (Below.heap_setCell _ _ _ _ (by rw [add_block']; exact hadw)))).trans (hcells j hj)
  obtain ⟨W1, hW1e⟩ : ∃ W1, (w'.setCell ⟨w.heap.size, 0, none⟩ (.slice (some ad) (trimL l).length c')).setCell ⟨w.heap.size, 1, none⟩ (.bool neg) = W1 := ⟨_, rfl⟩
  have hsz : W1.heap.size = w'.heap.size := by rw [← hW1e]; simp
  rw [hW1e] at hBel hW1 hcells1 ⊢
  clear hW1e hcells hV
  simp only [World.size_alloc] at hbs
  have hadlt : ad.block < W1.heap.size := by
    obtain ⟨o, ho, _⟩ := cells_of_cell (hcells1 0 HNE.out)
    rw [add_block'] at ho
    exact (Array.getElem?_eq_some_iff.1 ho).1
  have hbw : w.heap.size < W1.heap.size := by omega
  have hBL : Below W1.heap.size W1 ((W1.alloc (.cells #[.pointer none, .slice none 0 0] 69)).alloc (.cells #[.slice (some ad) (trimL l).length c'] 43)) := ((Below.refl _ W1).alloc (Nat.le_refl _) _).alloc (by simp) _
  have hsL : ((W1.alloc (.cells #[.pointer none, .slice none 0 0] 69)).alloc (.cells #[.slice (some ad) (trimL l).length c'] 43)).heap.size = W1.heap.size + 2 := by simp
  have hBsL : ((W1.alloc (.cells #[.pointer none, .slice none 0 0] 69)).alloc (.cells #[.slice (some ad) (trimL l).length c'] 43)).heap[W1.heap.size + 1]? = some (.cells #[.slice (some ad) (trimL l).length c'] 43 (0, 0)) := by
    have := World.alloc_heap_new (W1.alloc (.cells #[.pointer none, .slice none 0 0] 69)) (.cells #[.slice (some ad) (trimL l).length c'] 43)
    simpa using this
  have hbox : ((W1.alloc (.cells #[.pointer none, .slice none 0 0] 69)).alloc (.cells #[.slice (some ad) (trimL l).length c'] 43)).heap[w.heap.size]? = some (.cells #[.slice (some ad) (trimL l).length c', .bool neg] 45 (0, 0)) := (hBL.block _ hbw).trans hW1
  have hbld : Lib.IsBuilderF 69 5 W1.heap.size W1.heap.size (Lib.byteCells []) ((W1.alloc (.cells #[.pointer none, .slice none 0 0] 69)).alloc (.cells #[.slice (some ad) (trimL l).length c'] 43)) := (Lib.IsBuilderF.of (Lib.fresh_isBuilder 69 5 W1)).alloc _
  have hcL := fun j hj => (hBL.cell (p := ad.add j) (by rw [add_block']; exact hadlt)).trans (hcells1 j hj)
  obtain ⟨wL, hwL⟩ : ∃ wL, (W1.alloc (.cells #[.pointer none, .slice none 0 0] 69)).alloc (.cells #[.slice (some ad) (trimL l).length c'] 43) = wL := ⟨_, rfl⟩
  rw [hwL] at hBL hsL hBsL hbox hbld hcL ⊢
  have hT0 : TB w wL W1.heap.size (W1.heap.size + 1) [] wL := ⟨⟨hbld, KpS.refl _ _ _, Nat.le_refl _⟩, hBel.trans (hBL.mono (by omega))⟩
  clear hwL hcells1 hBL hbld hW1 hBel
  rw [hsz] at hT0 hsL hBsL hadlt hbw
  clear hsz
  generalize w'.heap.size = b at *
  have hlenp := HNE.out
  refine wpIn_rangeFunc_ownG rfl (by decide) (gf := 69) (lb := #[.pointer (some ⟨b + 1, 0, none⟩)]) rfl trivial (enters_of Tryd.func69 (by kernel_rfl) rfl)
    (back_stops Fence.wide 7 trivial rfl (by decide) (b + 1) b (trimL l).length c' ad (limbAt (trimL l) hok hlt) (fun j hj => (limbAt_1 (trimL l) hok hlt j hj).1) hlt hadlt wL (by omega) (by omega) (by rw [Lib.cell_of_heap hBsL]; rfl) (fun j hj => by rw [(limbAt_1 (trimL l) hok hlt j hj).2]; exact hcL j hj))
    KpS.trans (fun W l o o' hl ho hc hk => KpS.put (w := wL) (by omega) (by omega) W l o o' hl ho hc hk) (Below.refl _ _) (fun _ => rfl)
    (fun pre W => TB w wL b (b + 1) (pre.flatMap (pieceT ((trimL l).length - 1))) W) (fun _ _ _ => False)
    (TB_own (fun pre : List PL => pre.flatMap (pieceT ((trimL l).length - 1))) w wL b (b + 1) (by omega) (by omega) (by omega)) (fun _ _ _ _ _ hs _ _ => hs) hT0
    (fun x => { tmps := #[Value.agg #[Value.slice A l.length c, Value.bool neg], Value.pointer (some { block := w.heap.size, off := 0 }), Value.string { data := #[] }, Value.pointer (some { block := b, off := 0 }), .int .i64 (x.1.1 : Int), .int .u64 (x.1.2 : Int), undef, Value.agg #[Value.slice A l.length c, Value.bool neg], Value.agg #[Value.slice (some ad) (trimL l).length c', Value.bool neg], Value.pointer (some { block := w.heap.size, off := 0 }), Value.slice (some ad) (trimL l).length c', Value.int IntKind.i64 ↑(trimL l).length, Value.bool false, Value.pointer (some { block := w.heap.size, off := 0 }), Value.slice (some ad) (trimL l).length c', Value.func (Fn.func 69) #[] #[Value.pointer (some { block := b + 1, off := 0 })], .int .i64 (x.1.1 : Int), .int .u64 (x.1.2 : Int),
          undef, undef, undef, undef, undef, undef, undef, undef, undef, undef, undef, undef, undef, undef, undef, undef, undef, undef, undef, undef, undef, undef, undef], defers := [] }) ?assign ?body ?done ?stop
  case assign =>
    intro l x W K hK
    gi_wp2
    exact hK
  case stop =>
    rintro D c pre W _ _ h _
    exact h.elim
  case body =>
    intro lp pre x W hT hltp
    have hx := x.2
    have h9 := dec9 x
    have hbox2 : ∀ W', KpS b (b + 1) wL W' → W'.cell? ⟨w.heap.size, 0, none⟩ = some (.slice (some ad) (trimL l).length c') := fun W' hk => by rw [hk.cell w.heap.size 0 (.inl (by omega)), Lib.cell_of_heap hbox]; rfl
    have hsz9 : (baU (Lib.decDigits x.1.2)).size = (Lib.decDigits x.1.2).length := by simp [baU, ByteArray.size]
    have hfl := flat_len ((trimL l).length - 1) pre
    have e9 : (9 : Int) - ((Lib.decDigits x.1.2).length : Int) = ((9 - (Lib.decDigits x.1.2).length : Nat) : Int) := by omega
    have e48 : (⟨(Lib.repeatL (baU [48]).data.toList (9 - (Lib.decDigits x.1.2).length)).toArray⟩ : ByteArray) = baU (List.replicate (9 - (Lib.decDigits x.1.2).length) 48) := by
      rw [baU_list, show [(48 : UInt8)] = List.replicate 1 48 from rfl, Lib.repeatL_replicate, Nat.mul_one]
      rfl
    dsimp only
    by_cases hcx : x.1.1 < (trimL l).length - 1
    · have hcx' : (x.1.1 : Int) < ((trimL l).length : Int) - 1 := by omega
      gi_wp2_with (first
        | (refine ⟨trivial, ?_⟩; gi_at_call 53; refine (((callsIn_wide (n := 5)).2 (fmt_calls x.1.2 (by omega) W (HL.out.below hT.2 (Nat.le_refl _)).2)).inRound lp).mono ?_; rintro e W2 ⟨rfl, hb2⟩
           have h2 := hT.fresh (by omega) (by omega) (by omega) hb2
           have hc2 := hbox2 _ h2.1.1.2.1)
        | (refine ⟨trivial, ?_⟩; gi_at_call 55; refine (((callsIn_wide (n := 5)).2 (Tryd.strings_Repeat (baU [48]) (9 - (Lib.decDigits x.1.2).length) W2 (by omega) (by show 1 * _ ≤ _; omega))).inRound lp).mono ?_; rintro e W3 ⟨rfl, hb3⟩
           have h3 := h2.1.fresh (by omega) (by omega) (by omega) hb3
           rw [e48])
        | (refine ⟨trivial, ?_⟩; gi_at_call 54; refine (((callsIn_wide (n := 5)).2 (writeT h4.1 (by omega) (by omega) (by omega) (by omega) hBsL (Lib.decDigits x.1.2) (by rw [List.length_append, List.length_replicate]; omega))).inRound lp).mono ?_; rintro e W5 ⟨rfl, h5⟩)
        | (refine ⟨trivial, ?_⟩; gi_at_call 54; refine (((callsIn_wide (n := 5)).2 (writeT h3.1 (by omega) (by omega) (by omega) (by omega) hBsL (List.replicate (9 - (Lib.decDigits x.1.2).length) 48) (by rw [List.length_replicate]; omega))).inRound lp).mono ?_; rintro e W4 ⟨rfl, h4⟩))
      refine ⟨kf0 (((h2.2.2.trans h3.2.2).trans h4.2.2).trans h5.2.2) _, ((h2.2.1.trans h3.2.1).trans h4.2.1).trans h5.2.1, ?_⟩
      have e1 : (pre ++ [x]).flatMap (pieceT ((trimL l).length - 1)) = pre.flatMap (pieceT ((trimL l).length - 1)) ++ List.replicate (9 - (Lib.decDigits x.1.2).length) 48 ++ Lib.decDigits x.1.2 := by
        rw [List.flatMap_append, List.append_assoc]
        simp [pieceT, hcx]
      show TB _ _ _ _ _ _
      rw [e1]
      exact h5.1
    · have hcx' : ¬ (x.1.1 : Int) < ((trimL l).length : Int) - 1 := by omega
      gi_wp2_with (first
        | (refine ⟨trivial, ?_⟩; gi_at_call 53; refine (((callsIn_wide (n := 5)).2 (fmt_calls x.1.2 (by omega) W (HL.out.below hT.2 (Nat.le_refl _)).2)).inRound lp).mono ?_; rintro e W2 ⟨rfl, hb2⟩
           have h2 := hT.fresh (by omega) (by omega) (by omega) hb2
           have hc2 := hbox2 _ h2.1.1.2.1)
        | (refine ⟨trivial, ?_⟩; gi_at_call 54; refine (((callsIn_wide (n := 5)).2 (writeT h2.1 (by omega) (by omega) (by omega) (by omega) hBsL (Lib.decDigits x.1.2) (by omega))).inRound lp).mono ?_; rintro e W5 ⟨rfl, h5⟩))
      refine ⟨kf0 (h2.2.2.trans h5.2.2) _, h2.2.1.trans h5.2.1, ?_⟩
      have e1 : (pre ++ [x]).flatMap (pieceT ((trimL l).length - 1)) = pre.flatMap (pieceT ((trimL l).length - 1)) ++ Lib.decDigits x.1.2 := by
        rw [List.flatMap_append]
        simp [pieceT, hcx]
      show TB _ _ _ _ _ _
      rw [e1]
      exact h5.1
  case done =>
    rintro D ys W hD rfl hT hK
    have hcn : W.cell? ⟨w.heap.size, 1, none⟩ = some (.bool neg) := by rw [hT.1.2.1.cell w.heap.size 1 (.inl (by omega)), Lib.cell_of_heap hbox]; rfl
    have hTt : TB w wL b (b + 1) (textT (trimL l) hok hlt) W := hT
    clear hT
    have hfl : (textT (trimL l) hok hlt).length ≤ 20 * (trimL l).length := by
      have := flat_len ((trimL l).length - 1) (downTo (limbAt (trimL l) hok hlt) (trimL l).length (trimL l).length)
      rw [downTo_length] at this
      exact this
    have hlc : (Lib.byteCells (textT (trimL l) hok hlt)).length = (textT (trimL l) hok hlt).length := by simp [Lib.byteCells]
    generalize htt : textT (trimL l) hok hlt = tt at *
    have hDb : D ≠ b := by
      rintro rfl
      obtain ⟨c, hc⟩ := builderF_cells hTt.1.1
      rw [hc] at hK
      cases hK
    by_cases h200 : tt.length ≤ 200
    · have h200' : ¬ (200 : Int) < (tt.length : Int) := by omega
      have hd : decide ((200 : Int) < (tt.length : Int)) = false := decide_eq_false h200'
      cases neg
      all_goals
        gi_wp2_with (first
          | (refine ⟨trivial, ?_⟩; gi_at_call 56; refine ((callsIn_wide (n := 7)).2 (Tryd.Builder_Len_f b b _ W hTt.1.1)).mono ?_; rintro e W2 ⟨rfl, rfl⟩; rw [hlc])
          | (refine ⟨trivial, ?_⟩; gi_at_call 57; refine ((callsIn_wide (n := 7)).2 (Tryd.Builder_String_any_k b b tt _ hTt.1.1 (by have := hTt.1.2.2; omega))).mono ?_; rintro e W3 ⟨rfl, hI3, hB3, hO3⟩
             have hK3 := hO3 D _ hK (fun e => hDb (Option.some.inj e)) (fun c fz e => by cases e)
             have hb4 := hTt.2.trans (hB3.mono (by omega))))
      all_goals refine ⟨by simp, .inl ⟨_, _, rfl, run_takeDeferred hK3, ?_⟩⟩
      all_goals refine ⟨_, results_tmp rfl _ _ _, ?_, hb4.trans (belowK_b (w := w) (Nat.le_refl _) W3 D _ _ (by have := hTt.1.2.2; omega) hK3 rfl rfl)⟩
      all_goals rfl
    · have h200' : (200 : Int) < (tt.length : Int) := by omega
      have hd : decide ((200 : Int) < (tt.length : Int)) = true := decide_eq_true h200'
      gi_wp2_with (first
          | (refine ⟨trivial, ?_⟩; gi_at_call 56; refine ((callsIn_wide (n := 7)).2 (Tryd.Builder_Len_f b b _ W hTt.1.1)).mono ?_; rintro e W2 ⟨rfl, rfl⟩; rw [hlc]))
      rw [show (Instr.panic (.iface 27 (.int .i64 91))).run Tryd.prog W2 = .halt (.panic (.iface 27 (.int .i64 91))) W2 from rfl]
      simp only [Result.andThen]
      rw [Oper.uponIn_panic]
      gi_wp2
      all_goals exact ⟨by simp, .inl ⟨_, _, rfl, run_takeDeferred hK, rfl, hTt.2.trans (belowK_b (w := w) (Nat.le_refl _) W2 D _ _ (by have := hTt.1.2.2; omega) hK rfl rfl)⟩⟩
end Go.Proofs.YtlnneellihkdkaaDoor.D
