/- stm: Publish, its walk. -/
import Derived.Test.YtkjliijcnllohaaHPub
namespace Go.Proofs.Ytkjliijcnllohaa.S
open Go.RowKit Go.Proofs.YtkjliijcnllohaaW.PrintWords Go.Proofs.YtkjliijcnllohaaW.PrintLast Go.Proofs.YtkjliijcnllohaaW.PrintMore
set_option linter.unusedVariables false
set_option linter.unusedSimpArgs false
attribute [local go_sem ↓] Go.wp_at_zero Go.wp_at_succ

set_option maxRecDepth 100000 in
theorem publish_state {w : World} {t s br bw : Nat} {time phase : Int} (hT : TxAt w t s time phase br bw) (hp : phase ≠ 2) :
    Calls Try.prog 16 #[ptr t] w fun e w' => e = .returned (.int .i64 3) ∧ w' = w := by
  have HT := Aside0.mk hT
  have HP := Aside0.mk hp
  clear hT hp
  unfold ptr
  go_enter Try.func16, Try.ntmps16
  go_wp2_with fail
  refine (in_calls HT.out 2).mono ?_
  rintro e w1 ⟨rfl, rfl⟩
  rw [if_neg HP.out]
  go_wp2_with fail
  go_returns
  exact ⟨rfl, rfl⟩

theorem Later.put_ {X : ByteArray → Prop} {w : World} {S S' : List Ent} (h : Later X w S S') {x x' : Ent} (hx : x ∈ S') (hg : x'.g = x.g) (hn : x'.name = x.name) : Later X w S (S'.map (repl x.g x')) :=
  ⟨fun i hi hm => h.g i hi (by rw [repl_g hg] at hm; exact hm), fun n hm => by
    rw [List.map_map] at hm
    obtain ⟨y, hy, rfl⟩ := List.mem_map.1 hm
    simp only [Function.comp]
    unfold repl
    split
    · rw [hn]; exact h.nm _ (List.mem_map.2 ⟨x, hx, rfl⟩)
    · exact h.nm _ (List.mem_map.2 ⟨y, hy, rfl⟩)⟩
def PubPost (w : World) (t s bm br bw : Nat) (clock time : Int) (S : List Ent) (mr m : List (ByteArray × Value)) (wb : ByteArray → List Int) (e : Ending) (w' : World) : Prop :=
  ∃ S', Later (fun n => has m n = true ∨ has mr n = true) w S S' ∧ Fr (s :: bm :: t :: gs S) w w' ∧
    (((∀ n, has mr n = true → Good t time (sv S n)) ∧ e = .returned (.int .i64 0) ∧ SpAt w' s bm (if m = [] then clock else clock + 1) S' ∧ TxAt w' t s time 3 br bw ∧
        ∀ n, sv S' n = (if has m n = true then ⟨clock + 1, wb n, true, (sv S n).lock⟩ else sv S n).unlock t) ∨
     ((∃ n, has mr n = true ∧ ¬ Good t time (sv S n)) ∧ e = .returned (.int .i64 180) ∧ SpAt w' s bm clock S' ∧ TxAt w' t s time 4 br bw ∧ ∀ n, sv S' n = (sv S n).unlock t))
structure PubRel (w1 wr : World) (r b c : Nat) (es : Array MapEntry) (seen : Array Nat) (s bm t : Nat) (clock : Int) (m : List (ByteArray × Value)) (wb : ByteArray → List Int) (S S' : List Ent) : Prop where
  lp : Lp w1 wr r b c es seen (bm :: gs S) s bm clock S S'
  done : ∀ e ∈ es.toList, e.born ∈ seen → ∀ n, e.key = .string n → sv S' n = ⟨clock, wb n, true, (sv S n).lock⟩
  some_ : ∀ n, sv S' n = sv S n ∨ sv S' n = ⟨clock, wb n, true, (sv S n).lock⟩
  else_ : ∀ n, has m n = false → sv S' n = sv S n

theorem SpAt.tick {w : World} {s bm : Nat} {clock : Int} {S : List Ent} (h : SpAt w s bm clock S) : SpAt (w.setCell ⟨s, 1, none⟩ (.int .i64 (clock + 1))) s bm (clock + 1) S ∧ Fr [s] w (w.setCell ⟨s, 1, none⟩ (.int .i64 (clock + 1))) := by
  have hf := Fr.set h.sp (by decide) 1 (.int .i64 (clock + 1))
  refine ⟨⟨blk_set h.sp 1 _, h.mp.fr hf ?_, fun x hx => hf.get (h.slot x hx) ?_, h.apart, fun x hx b hb => ?_, fun x hx => (h.rows x hx).fr hf⟩, hf⟩
  · simp only [List.mem_singleton]; exact fun e => h.s_ne e.symm
  · simp only [List.mem_singleton]; exact fun e => blk_ne (h.slot x hx) h.sp (by decide) e
  · obtain ⟨ca, hc⟩ := h.locks x hx b hb
    exact hf.kinds b ca 67 _ hc
theorem RowAt.form {w : World} {v : Value} {xs : List Int} (h : RowAt w v xs) : ∃ A n c, v = .slice A n c := by
  rcases h.2 with ⟨rfl, _⟩ | ⟨g, c, cur, rfl, _⟩
  · exact ⟨_, _, _, rfl⟩
  · exact ⟨_, _, _, rfl⟩
theorem cell_set_ne {w : World} {b i t j : Nat} {v : Value} (h : t ≠ b) : (w.setCell ⟨b, i, none⟩ v).cell? ⟨t, j, none⟩ = w.cell? ⟨t, j, none⟩ := by
  unfold World.cell?
  rw [Below.heap_setCell w ⟨b, i, none⟩ v t h]
theorem write3 {w : World} {x : Ent} (h : w.heap[x.g]? = some x.obj) (ck : Int) (v : Value) :
    (((w.setCell ⟨x.g, 1, none⟩ v).setCell ⟨x.g, 0, none⟩ (.int .i64 ck)).setCell ⟨x.g, 2, none⟩ (.bool true)).heap[x.g]? = some (.cells #[.int .i64 ck, v, .bool true, lockV x.lock] 82 (0, 0)) ∧
    Fr [x.g] w (((w.setCell ⟨x.g, 1, none⟩ v).setCell ⟨x.g, 0, none⟩ (.int .i64 ck)).setCell ⟨x.g, 2, none⟩ (.bool true)) := by
  have h1 := blk_set h 1 v
  have h2 := blk_set h1 0 (.int .i64 ck)
  have h3 := blk_set h2 2 (.bool true)
  exact ⟨h3, ((Fr.set h (by decide) 1 v).trans (Fr.set h1 (by decide) 0 _)).trans (Fr.set h2 (by decide) 2 _)⟩
theorem has_nil (n : ByteArray) : has [] n = false := rfl

set_option maxRecDepth 100000 in
set_option maxHeartbeats 8000000 in
theorem publish_calls {w : World} {t s bm br bw : Nat} {clock time : Int} {S : List Ent} {mr m : List (ByteArray × Value)} {wb : ByteArray → List Int} (h : SpAt w s bm clock S) (hT : TxAt w t s time 2 br bw) (hmr : MapIs w br mr) (hm : MapIs w bw m) (hbr : br ≠ bm) (hbw : bw ≠ bm) (hwb : ∀ p ∈ m, RowAt w p.2 (wb p.1)) (hc0 : 0 ≤ clock) (hc1 : clock < 4611686018427387904) :
    Calls Try.prog 16 #[ptr t] w (PubPost w t s bm br bw clock time S mr m wb) := by
  have H := Aside0.mk h
  have HT := Aside0.mk hT
  have HMR := Aside0.mk hmr
  have HM := Aside0.mk hm
  have HBR := Aside0.mk hbr
  have HBW := Aside0.mk hbw
  have HWB := Aside0.mk hwb
  have HBT : Aside0 (bw ≠ t) := ⟨fun e => hT.ne_map hm e.symm⟩
  have HBG : Aside0 (bw ∉ gs S) := ⟨fun hm' => by obtain ⟨x, hx, e⟩ := List.mem_map.1 hm'; exact g_ne_map h hx hm e⟩
  clear h hT hmr hm hbr hbw hwb
  unfold ptr
  go_enter Try.func16, Try.ntmps16
  go_wp2_with fail
  refine (in_calls HT.out 2).mono ?_
  rintro e w1 ⟨rfl, rfl⟩
  go_wp2_with fail
  refine (check_calls (.inr rfl) H.out HT.out HMR.out HBR.out).mono ?_
  rintro e w2 ⟨S2, hL2, hf2, ⟨hgood, rfl, hs2, ht2, hsv2⟩ | ⟨hbad, rfl, hs2, ht2, hsv2⟩⟩
  · have HM2 := Aside0.mk (HM.out.fr hf2 (by simp only [List.mem_cons, not_or]; exact ⟨HBW.out, HBT.out, HBG.out⟩))
    have hlen := fun ty => map_len Try.underlying47 HM2.out ty
    have c4 := ht2.c4
    have c0 := ht2.c0
    have s1 := hs2.c1
    have sf := hs2.fz 1
    have HS2 := Aside0.mk hs2
    have HT2 := Aside0.mk ht2
    have HF2 := Aside0.mk hf2
    have HL2 := Aside0.mk hL2
    have HSV2 := Aside0.mk hsv2
    have HG := Aside0.mk hgood
    clear hs2 ht2 hf2 hL2 hsv2 hgood
    cases hmm : m with
    | nil =>
      rw [hmm] at hlen
      simp only [List.length_nil] at hlen
      have HM0 : Aside0 (MapIs w2 bw m) := HM2
      have HSP0 := HS2
      have HTX0 := HT2
      have HROW := Aside0.mk (show ∀ p ∈ m, RowAt w2 p.2 (wb p.1) from fun p hp => (HWB.out p hp).fr HF2.out)
      have HF0 : Aside0 (Fr (s :: bm :: t :: gs S) w1 w2) := ⟨HF2.out.mono (fun k _ hk => List.mem_cons_of_mem _ hk)⟩
      have HSZ := Aside0.mk HF2.out.size
      have HMM := Aside0.mk hmm
      rw [← hmm]
      clear hmm
      obtain ⟨es, c, hb0, hst, hes, hse⟩ := HM0.out.open_
      have HB0 := Aside0.mk hb0
      have HST := Aside0.mk hst
      have HES := Aside0.mk hes
      have HSE := Aside0.mk hse
      have hrg := map_range (P := Try.prog) Try.underlying47 hb0
      have c4w := HTX0.out.c4
      clear hb0 hst hes hse
      go_wp2_with fail
      clear c4 c0 s1 sf hlen hrg c4w
      go_loopw [5] (fun v5 wr => ∃ seen S', Aside0 (PubRel (w2.alloc (.mapIter (some bw) c #[] c)) wr w2.heap.size bw c es seen s bm t (clock) m wb S2 S')) (fun v5 wr => left es (seenAt wr w2.heap.size))
      case atStart => exact ⟨#[], S2, ⟨⟨lp_start HB0.out HSP0.out, fun e he hm => by simp at hm, fun _ => .inl rfl, fun _ _ => rfl⟩⟩⟩
      case round =>
        obtain ⟨seen, S', hr⟩ := hrel
        have htx : TxAt wr t s time 2 br bw := hr.out.lp.fr.get (blk_alloc HTX0.out _) (by
          have := HTX0.out.lt
          simp only [List.mem_cons, not_or]
          exact ⟨by omega, HTX0.out.ne_map HSP0.out.mp, fun hm => by
            obtain ⟨x, hx, e⟩ := List.mem_map.1 hm
            exact blk_ne (HSP0.out.slot x hx) HTX0.out (by decide) e⟩)
        rcases next_at (P := Try.prog) hr.out.lp.it hr.out.lp.mp HST.out 0 with ⟨hall, hrun⟩ | ⟨e, he, hnew, w5, hrun, hit2, hbut⟩
        · have hnx : ∀ ty, (Instr.next (.pointer (some ⟨w2.heap.size, 0, none⟩)) false ty).run Try.prog wr = .ok (.tuple #[.bool false]) wr := fun _ => hrun
          have HA := Aside0.mk hall
          have HX := Aside0.mk htx
          clear hall hrun htx
          go_wp2_with fail
          refine (end_calls hr.out.lp.sp HX.out 3).mono ?_
          rintro e6 w6 ⟨rfl, h1, h2, h3⟩
          have H6 := Aside0.mk (And.intro h1 (And.intro h2 h3))
          clear h1 h2 h3 hnx
          go_wp2
          go_returns
          have hL0 : Later (fun n => has m n = true ∨ has mr n = true) w2 S2 S' := (hr.out.lp.later.size (by simp)).mono (fun n hn => .inl (ks_has HES.out n hn))
          have hL1 := later_trans (HL2.out.mono (fun n hn => .inr hn)) hL0 HSZ.out
          refine ⟨S'.map (Ent.unlock t), hL1.map (Ent.unlock_g t) (Ent.unlock_name t), ?_, .inl ⟨HG.out, rfl, (by rw [if_pos HMM.out]; exact H6.out.1), H6.out.2.1, fun n => ?_⟩⟩
          · refine ((HF0.out.trans' (Fr.alloc [] w2 (.mapIter (some bw) c #[] c)) (fun i _ hm => by cases hm)).trans' hr.out.lp.fr (fun i hi hm => ?_)).trans' H6.out.2.2 (fun i hi hm => ?_)
            · have hsz := HSZ.out
              rcases List.mem_cons.1 hm with rfl | hm
              · omega
              · rcases List.mem_cons.1 hm with rfl | hm
                · simp
                · exact List.mem_cons_of_mem _ (List.mem_cons_of_mem _ (List.mem_cons_of_mem _ (HL2.out.g i hi hm)))
            · rcases List.mem_cons.1 hm with rfl | hm
              · simp
              · exact List.mem_cons_of_mem _ (List.mem_cons_of_mem _ (List.mem_cons_of_mem _ (hL1.g i hi hm)))
          · rw [sv_unlock]
            congr 1
            cases hh : has m n with
            | true =>
              rw [HMM.out, has_nil] at hh; cases hh
            | false =>
              rw [if_neg (by simp), hr.out.else_ n hh, HSV2.out]
        · obtain ⟨p, hp, hek, hev⟩ := HES.out e he
          have hlp2 := hr.out.lp.next (e := e) hit2 hbut
          have hen := entry_at (P := Try.prog) hit2 hlp2.mp HST.out he
          rw [hek, hev] at hen hrun
          have hfw : Fr (w2.heap.size :: bm :: gs S2) (w2.alloc (.mapIter (some bw) c #[] c)) w5 := hlp2.fr
          have htx2 : TxAt w5 t s time 2 br bw := by
            unfold TxAt
            rw [hbut.block _ (by have := HTX0.out.lt; omega)]; exact htx
          have hrow : RowAt w5 p.2 (wb p.1) := ((HROW.out p hp).fr (Fr.alloc [] w2 _)).fr hfw
          have t0 := htx2.c0
          have HR := Aside0.mk hr.out
          have HLP := Aside0.mk hlp2
          have HTX := Aside0.mk htx2
          have HRW := Aside0.mk hrow
          have HE := Aside0.mk (And.intro he (And.intro hnew (And.intro hek hp)))
          clear hr hlp2 htx2 htx he hnew hek hev hp hbut hit2 hfw hrow
          go_wp2_with fail
          refine (at_sv (X := Ks es) HLP.out.sp p.1 ⟨_, HE.out.1, HE.out.2.2.1⟩).mono ?_
          rintro e3 w7 ⟨S3, x, hx, hxn, hxs, rfl, hs3, hsv3, hl3, hf3⟩
          have hb3 := hs3.slot x hx
          have htx3 := HTX.out.fr hf3 (by simp only [List.mem_singleton]; exact HTX0.out.ne_map HSP0.out.mp)
          have hlp3 := HLP.out.step hf3 (by simp only [List.mem_singleton]; exact HLP.out.r_ne_bm) (by simpa using HBW.out) (fun i _ hm => by simp at hm; simp [hm]) hs3 (later_trans HLP.out.later hl3 HLP.out.fr.size)
          have hrw3 := HRW.out.fr hf3
          have t0' := htx3.c0
          have s1' := hs3.c1
          have hne1 : t ≠ x.g := blk_ne htx3 hb3 (by decide)
          have hne2 : s ≠ x.g := blk_ne hs3.sp hb3 (by decide)
          have hlt1 := Aside0.mk (htx3.lt)
          have hlt2 := Aside0.mk (hs3.lt)
          have HX3 := Aside0.mk (And.intro hx (And.intro hxn (And.intro hxs hsv3)))
          have HS3 := Aside0.mk hs3
          have HLP3 := Aside0.mk hlp3
          have HRW3 := Aside0.mk hrw3
          have HB3 := Aside0.mk hb3
          clear hx hxn hxs hs3 hsv3 hl3 hf3 t0 hen hrun hlp3 htx3 hrw3 hb3
          unfold ptr
          go_wp2_with fail
          go_region_held3 (fun w' => w'.cell? ⟨t, 0, none⟩ = some (.pointer (some ⟨s, 0, none⟩)) ∧ w'.cell? ⟨s, 1, none⟩ = some (.int .i64 (clock))) (first | exact ⟨t0', s1'⟩ | exact ⟨k0, k1⟩ | (simp only [cell_set_ne hne1, cell_set_ne hne2]; exact ⟨k0, k1⟩)) (first | (go_at_call 35; refine (clone_calls (HRW3.out.reads.drewN 1)).mono ?_; rintro e8 w8 ⟨v', rfl, hr8, hb8⟩; obtain ⟨A8, n8, c8, rfl⟩ := hr8.form; have k0 : w8.cell? ⟨t, 0, none⟩ = some (.pointer (some ⟨s, 0, none⟩)) := (hb8.cell hlt1.out).trans t0'; have k1 : w8.cell? ⟨s, 1, none⟩ = some (.int .i64 (clock)) := (hb8.cell hlt2.out).trans s1'; have hb9 : w8.heap[x.g]? = some x.obj := (hb8.block _ (blk_lt HB3.out)).trans HB3.out; have e0 := Ent.c0 hb9; have e1 := Ent.c1 hb9; have e2 := Ent.c2 hb9; have g0 := Ent.fz hb9 0; have g1 := Ent.fz hb9 1; have g2 := Ent.fz hb9 2; have HR8 := Aside0.mk hr8; have HB8 := Aside0.mk hb8; have HB9 := Aside0.mk hb9; clear hr8 hb8 hb9))
          have hf8 := Fr.ofBelow HB8.out []
          have hs8 := HS3.out.drew.fr hf8 (by simp) (by simp) (fun _ _ => by simp)
          have hlp8 := HLP3.out.drew.step hf8 (by simp) (by simp) (fun _ _ hm => by cases hm) hs8 HLP3.out.later
          obtain ⟨hw9, hf9⟩ := write3 HB9.out (clock) (.slice A8 n8 c8)
          obtain ⟨x9, hx9g, hx9n, hx9l, hx9o, hx9v, hx9b, hx9s⟩ : ∃ x9 : Ent, x9.g = x.g ∧ x9.name = x.name ∧ x9.lock = x.lock ∧ x9.obj = .cells #[.int .i64 (clock), .slice A8 n8 c8, .bool true, lockV x.lock] 82 (0, 0) ∧ x9.v = .slice A8 n8 c8 ∧ x9.bs = wb p.1 ∧ x9.sv = ⟨clock, wb p.1, true, x.lock⟩ := ⟨{ x with ver := clock, v := .slice A8 n8 c8, had := true, bs := wb p.1 }, rfl, rfl, rfl, rfl, rfl, rfl, rfl⟩
          have hs9 := hs8.repl_ HX3.out.1 x9 hx9g hx9n (fun _ h => by rw [hx9l] at h; exact h) hf9 (by rw [hx9o]; exact hw9) (by rw [hx9v, hx9b]; exact HR8.out.fr hf9)
          have hne9 := hlp8.r_ne_g HB9.out
          have HLP9 := Aside0.mk (hlp8.step hf9 (by simpa using hne9.1) (by simpa using hne9.2) (fun i hi hm => by
            obtain rfl := List.mem_singleton.1 hm
            exact List.mem_cons_of_mem _ (hlp8.later.g _ hi (mem_gs HX3.out.1))) hs9 (hlp8.later.put_ HX3.out.1 hx9g hx9n))
          have HSV9 := Aside0.mk (show ∀ n, sv (S3.map (repl x.g x9)) n = if n = p.1 then ⟨clock, wb p.1, true, x.lock⟩ else sv S' n from fun n => by
            rw [sv_repl hs8.names hs8.apart HX3.out.1 hx9n, HX3.out.2.1, HX3.out.2.2.2, hx9s])
          have hlk : x.lock = (sv S2 p.1).lock := by
            have h0 : x.lock = (sv S' p.1).lock := congrArg Sv.lock HX3.out.2.2.1
            rw [h0]
            rcases HR.out.some_ p.1 with h | h <;> rw [h]
          have HLK := Aside0.mk hlk
          clear hf8 hs8 hlp8 hw9 hf9 hs9 hne9 hlk hx9g hx9n hx9l hx9o hx9v hx9b hx9s k0 k1 e0 e1 e2 g0 g1 g2
          go_wp2
          go_roundw
          case rel =>
            refine ⟨seen.push e.born, _, ⟨⟨HLP9.out, fun e' he' hm n hn => ?_, fun n => ?_, fun n hn => ?_⟩⟩⟩
            · rw [HSV9.out]
              by_cases hnp : n = p.1
              · rw [if_pos hnp, hnp, HLK.out]
              · rw [if_neg hnp]
                rcases Array.mem_push.1 hm with hm | hm
                · exact HR.out.done e' he' hm n hn
                · exfalso
                  have hn' := ((MapKept.stamped_iff es c).1 HST.out).2.1
                  have h1 := find_born e' es.toList hn' he'
                  have h2 := find_born e es.toList hn' HE.out.1
                  rw [hm] at h1
                  rw [h1] at h2
                  cases h2
                  rw [HE.out.2.2.1] at hn
                  simp only [Value.string.injEq] at hn
                  exact hnp hn.symm
            · rw [HSV9.out]
              by_cases hnp : n = p.1
              · rw [if_pos hnp]; exact .inr (by rw [hnp, HLK.out])
              · rw [if_neg hnp]; exact HR.out.some_ n
            · rw [HSV9.out, if_neg (fun hnp => by
                rw [hnp] at hn
                rw [has_iff.2 ⟨p, HE.out.2.2.2, rfl⟩] at hn
                cases hn)]
              exact HR.out.else_ n hn
          case measure =>
            rw [seenAt_of HLP9.out.it, seenAt_of HR.out.lp.it]
            exact left_less _ _ _ HE.out.1 HE.out.2.1
    | cons p0 m0 =>
      have hpos : Aside0 (0 < m.length) := ⟨by rw [hmm]; simp⟩
      have HMM : Aside0 (m ≠ []) := ⟨by rw [hmm]; simp⟩
      rw [← hmm]
      clear hmm
      have hp0 := hpos.out
      generalize m.length = ln at hlen hpos hp0
      have hpos1 : decide (0 < ln) = true := decide_eq_true hp0
      clear hp0
      obtain ⟨hst3, hft3⟩ := HS2.out.tick
      obtain ⟨w3, hw3⟩ : ∃ w3, w2.setCell ⟨s, 1, none⟩ (.int .i64 (clock + 1)) = w3 := ⟨_, rfl⟩
      rw [hw3] at hst3 hft3
      have hsm : bw ∉ [s] := by simp only [List.mem_singleton]; exact fun e => sp_ne_map HS2.out HM2.out e.symm
      have HM0 := Aside0.mk (HM2.out.fr hft3 hsm)
      have HSP0 := Aside0.mk hst3
      have HTX0 := Aside0.mk (HT2.out.fr hft3 (by simp only [List.mem_singleton]; exact fun e => blk_ne HT2.out HS2.out.sp (by decide) e))
      have HROW := Aside0.mk (show ∀ p ∈ m, RowAt w3 p.2 (wb p.1) from fun p hp => ((HWB.out p hp).fr HF2.out).fr hft3)
      have HF0 : Aside0 (Fr (s :: bm :: t :: gs S) w1 w3) := ⟨(HF2.out.mono (fun k _ hk => List.mem_cons_of_mem _ hk)).trans' hft3 (fun i _ hm => by simp at hm; simp [hm])⟩
      have HSZ := Aside0.mk (HF0.out.size)
      clear hst3 hft3 hsm
      obtain ⟨es, c, hb0, hst, hes, hse⟩ := HM0.out.open_
      have HB0 := Aside0.mk hb0
      have HST := Aside0.mk hst
      have HES := Aside0.mk hes
      have HSE := Aside0.mk hse
      have hrg := map_range (P := Try.prog) Try.underlying47 hb0
      have c4w := HTX0.out.c4
      clear hb0 hst hes hse
      go_wp2_with fail
      clear c4 c0 s1 sf hlen hrg c4w hw3 hpos1
      go_loopw [5] (fun v5 wr => ∃ seen S', Aside0 (PubRel (w3.alloc (.mapIter (some bw) c #[] c)) wr w3.heap.size bw c es seen s bm t (clock + 1) m wb S2 S')) (fun v5 wr => left es (seenAt wr w3.heap.size))
      case atStart => exact ⟨#[], S2, ⟨⟨lp_start HB0.out HSP0.out, fun e he hm => by simp at hm, fun _ => .inl rfl, fun _ _ => rfl⟩⟩⟩
      case round =>
        obtain ⟨seen, S', hr⟩ := hrel
        have htx : TxAt wr t s time 2 br bw := hr.out.lp.fr.get (blk_alloc HTX0.out _) (by
          have := HTX0.out.lt
          simp only [List.mem_cons, not_or]
          exact ⟨by omega, HTX0.out.ne_map HSP0.out.mp, fun hm => by
            obtain ⟨x, hx, e⟩ := List.mem_map.1 hm
            exact blk_ne (HSP0.out.slot x hx) HTX0.out (by decide) e⟩)
        rcases next_at (P := Try.prog) hr.out.lp.it hr.out.lp.mp HST.out 0 with ⟨hall, hrun⟩ | ⟨e, he, hnew, w5, hrun, hit2, hbut⟩
        · have hnx : ∀ ty, (Instr.next (.pointer (some ⟨w3.heap.size, 0, none⟩)) false ty).run Try.prog wr = .ok (.tuple #[.bool false]) wr := fun _ => hrun
          have HA := Aside0.mk hall
          have HX := Aside0.mk htx
          clear hall hrun htx
          go_wp2_with fail
          refine (end_calls hr.out.lp.sp HX.out 3).mono ?_
          rintro e6 w6 ⟨rfl, h1, h2, h3⟩
          have H6 := Aside0.mk (And.intro h1 (And.intro h2 h3))
          clear h1 h2 h3 hnx
          go_wp2
          go_returns
          have hL0 : Later (fun n => has m n = true ∨ has mr n = true) w3 S2 S' := (hr.out.lp.later.size (by simp)).mono (fun n hn => .inl (ks_has HES.out n hn))
          have hL1 := later_trans (HL2.out.mono (fun n hn => .inr hn)) hL0 HSZ.out
          refine ⟨S'.map (Ent.unlock t), hL1.map (Ent.unlock_g t) (Ent.unlock_name t), ?_, .inl ⟨HG.out, rfl, (by rw [if_neg HMM.out]; exact H6.out.1), H6.out.2.1, fun n => ?_⟩⟩
          · refine ((HF0.out.trans' (Fr.alloc [] w3 (.mapIter (some bw) c #[] c)) (fun i _ hm => by cases hm)).trans' hr.out.lp.fr (fun i hi hm => ?_)).trans' H6.out.2.2 (fun i hi hm => ?_)
            · have hsz := HSZ.out
              rcases List.mem_cons.1 hm with rfl | hm
              · omega
              · rcases List.mem_cons.1 hm with rfl | hm
                · simp
                · exact List.mem_cons_of_mem _ (List.mem_cons_of_mem _ (List.mem_cons_of_mem _ (HL2.out.g i hi hm)))
            · rcases List.mem_cons.1 hm with rfl | hm
              · simp
              · exact List.mem_cons_of_mem _ (List.mem_cons_of_mem _ (List.mem_cons_of_mem _ (hL1.g i hi hm)))
          · rw [sv_unlock]
            congr 1
            cases hh : has m n with
            | true =>
              rw [if_pos rfl]
              obtain ⟨p, hp, rfl⟩ := has_iff.1 hh
              obtain ⟨e, he, hek, -⟩ := HSE.out p hp
              rw [hr.out.done e he (HA.out e he) _ hek, HSV2.out]
            | false =>
              rw [if_neg (by simp), hr.out.else_ n hh, HSV2.out]
        · obtain ⟨p, hp, hek, hev⟩ := HES.out e he
          have hlp2 := hr.out.lp.next (e := e) hit2 hbut
          have hen := entry_at (P := Try.prog) hit2 hlp2.mp HST.out he
          rw [hek, hev] at hen hrun
          have hfw : Fr (w3.heap.size :: bm :: gs S2) (w3.alloc (.mapIter (some bw) c #[] c)) w5 := hlp2.fr
          have htx2 : TxAt w5 t s time 2 br bw := by
            unfold TxAt
            rw [hbut.block _ (by have := HTX0.out.lt; omega)]; exact htx
          have hrow : RowAt w5 p.2 (wb p.1) := ((HROW.out p hp).fr (Fr.alloc [] w3 _)).fr hfw
          have t0 := htx2.c0
          have HR := Aside0.mk hr.out
          have HLP := Aside0.mk hlp2
          have HTX := Aside0.mk htx2
          have HRW := Aside0.mk hrow
          have HE := Aside0.mk (And.intro he (And.intro hnew (And.intro hek hp)))
          clear hr hlp2 htx2 htx he hnew hek hev hp hbut hit2 hfw hrow
          go_wp2_with fail
          refine (at_sv (X := Ks es) HLP.out.sp p.1 ⟨_, HE.out.1, HE.out.2.2.1⟩).mono ?_
          rintro e3 w7 ⟨S3, x, hx, hxn, hxs, rfl, hs3, hsv3, hl3, hf3⟩
          have hb3 := hs3.slot x hx
          have htx3 := HTX.out.fr hf3 (by simp only [List.mem_singleton]; exact HTX0.out.ne_map HSP0.out.mp)
          have hlp3 := HLP.out.step hf3 (by simp only [List.mem_singleton]; exact HLP.out.r_ne_bm) (by simpa using HBW.out) (fun i _ hm => by simp at hm; simp [hm]) hs3 (later_trans HLP.out.later hl3 HLP.out.fr.size)
          have hrw3 := HRW.out.fr hf3
          have t0' := htx3.c0
          have s1' := hs3.c1
          have hne1 : t ≠ x.g := blk_ne htx3 hb3 (by decide)
          have hne2 : s ≠ x.g := blk_ne hs3.sp hb3 (by decide)
          have hlt1 := Aside0.mk (htx3.lt)
          have hlt2 := Aside0.mk (hs3.lt)
          have HX3 := Aside0.mk (And.intro hx (And.intro hxn (And.intro hxs hsv3)))
          have HS3 := Aside0.mk hs3
          have HLP3 := Aside0.mk hlp3
          have HRW3 := Aside0.mk hrw3
          have HB3 := Aside0.mk hb3
          clear hx hxn hxs hs3 hsv3 hl3 hf3 t0 hen hrun hlp3 htx3 hrw3 hb3
          unfold ptr
          go_wp2_with fail
          go_region_held3 (fun w' => w'.cell? ⟨t, 0, none⟩ = some (.pointer (some ⟨s, 0, none⟩)) ∧ w'.cell? ⟨s, 1, none⟩ = some (.int .i64 (clock + 1))) (first | exact ⟨t0', s1'⟩ | exact ⟨k0, k1⟩ | (simp only [cell_set_ne hne1, cell_set_ne hne2]; exact ⟨k0, k1⟩)) (first | (go_at_call 35; refine (clone_calls (HRW3.out.reads.drewN 1)).mono ?_; rintro e8 w8 ⟨v', rfl, hr8, hb8⟩; obtain ⟨A8, n8, c8, rfl⟩ := hr8.form; have k0 : w8.cell? ⟨t, 0, none⟩ = some (.pointer (some ⟨s, 0, none⟩)) := (hb8.cell hlt1.out).trans t0'; have k1 : w8.cell? ⟨s, 1, none⟩ = some (.int .i64 (clock + 1)) := (hb8.cell hlt2.out).trans s1'; have hb9 : w8.heap[x.g]? = some x.obj := (hb8.block _ (blk_lt HB3.out)).trans HB3.out; have e0 := Ent.c0 hb9; have e1 := Ent.c1 hb9; have e2 := Ent.c2 hb9; have g0 := Ent.fz hb9 0; have g1 := Ent.fz hb9 1; have g2 := Ent.fz hb9 2; have HR8 := Aside0.mk hr8; have HB8 := Aside0.mk hb8; have HB9 := Aside0.mk hb9; clear hr8 hb8 hb9))
          have hf8 := Fr.ofBelow HB8.out []
          have hs8 := HS3.out.drew.fr hf8 (by simp) (by simp) (fun _ _ => by simp)
          have hlp8 := HLP3.out.drew.step hf8 (by simp) (by simp) (fun _ _ hm => by cases hm) hs8 HLP3.out.later
          obtain ⟨hw9, hf9⟩ := write3 HB9.out (clock + 1) (.slice A8 n8 c8)
          obtain ⟨x9, hx9g, hx9n, hx9l, hx9o, hx9v, hx9b, hx9s⟩ : ∃ x9 : Ent, x9.g = x.g ∧ x9.name = x.name ∧ x9.lock = x.lock ∧ x9.obj = .cells #[.int .i64 (clock + 1), .slice A8 n8 c8, .bool true, lockV x.lock] 82 (0, 0) ∧ x9.v = .slice A8 n8 c8 ∧ x9.bs = wb p.1 ∧ x9.sv = ⟨clock + 1, wb p.1, true, x.lock⟩ := ⟨{ x with ver := clock + 1, v := .slice A8 n8 c8, had := true, bs := wb p.1 }, rfl, rfl, rfl, rfl, rfl, rfl, rfl⟩
          have hs9 := hs8.repl_ HX3.out.1 x9 hx9g hx9n (fun _ h => by rw [hx9l] at h; exact h) hf9 (by rw [hx9o]; exact hw9) (by rw [hx9v, hx9b]; exact HR8.out.fr hf9)
          have hne9 := hlp8.r_ne_g HB9.out
          have HLP9 := Aside0.mk (hlp8.step hf9 (by simpa using hne9.1) (by simpa using hne9.2) (fun i hi hm => by
            obtain rfl := List.mem_singleton.1 hm
            exact List.mem_cons_of_mem _ (hlp8.later.g _ hi (mem_gs HX3.out.1))) hs9 (hlp8.later.put_ HX3.out.1 hx9g hx9n))
          have HSV9 := Aside0.mk (show ∀ n, sv (S3.map (repl x.g x9)) n = if n = p.1 then ⟨clock + 1, wb p.1, true, x.lock⟩ else sv S' n from fun n => by
            rw [sv_repl hs8.names hs8.apart HX3.out.1 hx9n, HX3.out.2.1, HX3.out.2.2.2, hx9s])
          have hlk : x.lock = (sv S2 p.1).lock := by
            have h0 : x.lock = (sv S' p.1).lock := congrArg Sv.lock HX3.out.2.2.1
            rw [h0]
            rcases HR.out.some_ p.1 with h | h <;> rw [h]
          have HLK := Aside0.mk hlk
          clear hf8 hs8 hlp8 hw9 hf9 hs9 hne9 hlk hx9g hx9n hx9l hx9o hx9v hx9b hx9s k0 k1 e0 e1 e2 g0 g1 g2
          go_wp2
          go_roundw
          case rel =>
            refine ⟨seen.push e.born, _, ⟨⟨HLP9.out, fun e' he' hm n hn => ?_, fun n => ?_, fun n hn => ?_⟩⟩⟩
            · rw [HSV9.out]
              by_cases hnp : n = p.1
              · rw [if_pos hnp, hnp, HLK.out]
              · rw [if_neg hnp]
                rcases Array.mem_push.1 hm with hm | hm
                · exact HR.out.done e' he' hm n hn
                · exfalso
                  have hn' := ((MapKept.stamped_iff es c).1 HST.out).2.1
                  have h1 := find_born e' es.toList hn' he'
                  have h2 := find_born e es.toList hn' HE.out.1
                  rw [hm] at h1
                  rw [h1] at h2
                  cases h2
                  rw [HE.out.2.2.1] at hn
                  simp only [Value.string.injEq] at hn
                  exact hnp hn.symm
            · rw [HSV9.out]
              by_cases hnp : n = p.1
              · rw [if_pos hnp]; exact .inr (by rw [hnp, HLK.out])
              · rw [if_neg hnp]; exact HR.out.some_ n
            · rw [HSV9.out, if_neg (fun hnp => by
                rw [hnp] at hn
                rw [has_iff.2 ⟨p, HE.out.2.2.2, rfl⟩] at hn
                cases hn)]
              exact HR.out.else_ n hn
          case measure =>
            rw [seenAt_of HLP9.out.it, seenAt_of HR.out.lp.it]
            exact left_less _ _ _ HE.out.1 HE.out.2.1
  · have H3 := Aside0.mk (And.intro hbad (And.intro hs2 (And.intro ht2 hsv2)))
    have HF2 := Aside0.mk hf2
    have HL2 := Aside0.mk hL2
    clear hbad hs2 ht2 hsv2 hf2 hL2
    go_wp2_with fail
    go_returns
    exact ⟨S2, HL2.out.mono (fun n hn => .inr hn), HF2.out.mono (fun k _ hk => List.mem_cons_of_mem _ hk), .inr ⟨H3.out.1, rfl, H3.out.2⟩⟩
end Go.Proofs.Ytkjliijcnllohaa.S
