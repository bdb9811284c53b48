
/- heap: the document's heap: collectYoung. -/
import Derived.Test.YtlghnldlkbgajaaHRf10
namespace Go.Proofs.Ytlghnldlkbgajaa.S
open Go.RowKit Go.Proofs.YtlghnldlkbgajaaW.PrintWords Go.Proofs.YtlghnldlkbgajaaW.PrintLast Go.Proofs.YtlghnldlkbgajaaW.PrintMore
set_option linter.unusedVariables false
set_option linter.unusedSimpArgs false
def notedW (L : List OW) : List Int := L.flatMap fun x => if x.o.old && x.o.noted then x.o.fs else []
theorem notedW_take (L : List OW) {i : Nat} (hi : i < L.length) : notedW (L.take (i + 1)) = notedW (L.take i) ++ (if L[i].o.old && L[i].o.noted then L[i].o.fs else []) := by
  unfold notedW
  rw [List.take_add_one, List.getElem?_eq_getElem hi, List.flatMap_append]
  simp
theorem notedW_len {L : List OW} (hf : ∀ x ∈ L, x.o.Fine) : (notedW L).length ≤ 1000 * L.length := by
  induction L with
  | nil => simp [notedW]
  | cons a L ih =>
    have h1 := ih (fun x hx => hf x (by simp [hx]))
    have h2 := (hf a (by simp)).fl
    unfold notedW at h1 ⊢
    rw [List.flatMap_cons, List.length_append, List.length_cons]
    have h3 : (if a.o.old && a.o.noted then a.o.fs else []).length ≤ 1000 := by split <;> simp [h2]
    omega
def stayL (L yg : List OW) : List OW := L.filter fun x => x.o.old || hasB yg x.t
theorem stayL_take (L yg : List OW) {i : Nat} (hi : i < L.length) : stayL (L.take (i + 1)) yg = if L[i].o.old || hasB yg L[i].t then stayL (L.take i) yg ++ [L[i]] else stayL (L.take i) yg := by
  unfold stayL
  rw [List.take_add_one, List.getElem?_eq_getElem hi, List.filter_append]
  show List.filter _ _ ++ List.filter _ [L[i]] = _
  rw [List.filter_cons]
  split <;> simp
section
variable {w : World} {g rc : Nat} {V : Value} {R : Option Addr} {L : List OW} {h : RS}
set_option maxRecDepth 100000 in
set_option maxHeartbeats 2000000 in
theorem collectYoung_calls (H : HR w g V R rc L h) (hs : SmR L h) :
    Calls Try.prog 45 #[ptr g] w fun e w' => e = .returned (.tuple #[]) ∧ ∃ yg SA sc, ReachOk L true (h.roots ++ notedW L) yg ∧ HR w' g (.slice SA (stayL L yg).length sc) R rc (movL h.nx (stayL L yg)) ({ h with minor := h.minor + 1 }.moved (stayL L yg)) ∧ StepR g V R L (.slice SA (stayL L yg).length sc) R (movL h.nx (stayL L yg)) w w' := by
  obtain ⟨A, c, rfl⟩ := H.ps.shape
  have hbB : Below w.heap.size w (w.alloc (.cells #[] 28)) := (Below.refl _ _).alloc (Nat.le_refl _) _
  have h2 := H.new hbB
  have own0 : (w.alloc (.cells #[] 28)).ownsRow 0 28 1 (.slice (some ⟨w.heap.size, 0, none⟩) 0 0) 0 (([] : List Int).map (Value.int .i64)) := World.ownsRow_made w #[] 0 (Nat.zero_le _) (Nat.zero_le _) rfl
  have hrt := WsAt.src (WsAt.ofOwn h2.q.rt rfl)
  obtain ⟨R1, rc1, w3, hrun1, own1, hfa, hblk1⟩ := append_from own0 (A := R) (c := rc) (m := h.roots) hrt (by have := hs.roots; omega)
  rw [List.nil_append] at own1
  have hB1 : Below w.heap.size (w.alloc (.cells #[] 28)) w3 := hfa.below hbB.size (fun k hk => Nat.le_of_eq (by simpa using hk))
  have h3 := H.new (hbB.trans hB1)
  have hfr1 : ∀ k, R1 = some ⟨k, 0, none⟩ → w.heap.size ≤ k := fun k hk => (hblk1 k hk).elim (fun e => Nat.le_of_eq (by simpa using e)) (fun e => Nat.le_trans hbB.size e)
  simp only [Nat.zero_add] at hrun1 own1
  have HS := Aside0.mk hs
  have HH := Aside0.mk H
  have c3 : (w.alloc (.cells #[] 28)).cell? ⟨g, 3, none⟩ = some (.slice R h.roots.length rc) := h2.q.c3
  have c23 : w3.cell? ⟨g, 2, none⟩ = some (.slice A L.length c) := h3.q.c2
  have HST := Aside0.mk (show ∃ ws : List Int, ws = h.roots ++ notedW (L.take 0) ∧ ws.length = h.roots.length ∧ w3.ownsRow 0 28 1 (.slice R1 ws.length rc1) ws.length (ws.map (Value.int .i64)) ∧ (∀ k, R1 = some ⟨k, 0, none⟩ → w.heap.size ≤ k) ∧ Below w.heap.size w w3 from
    ⟨h.roots, by simp [notedW], rfl, own1, hfr1, hbB.trans hB1⟩)
  unfold ptr
  clear H hs hbB h2 own0 hrt own1 hfa hblk1 hB1 h3 hfr1
  go_enter Try.func45, Try.ntmps45
  go_wp2_with (at_builtin; refine wpList_plain rfl fun K hK => wp_append_words _ _ 33 rfl _ _ _ _ rfl rfl hrun1 (hK _ _ ?_))
  go_loopw [2, 20] (fun s v wr => ∃ (i : Nat) (ws : List Int) (A1 : Option Addr) (c1 : Nat), s = .slice A1 ws.length c1 ∧ v = .int .i64 i ∧ Aside0 (i ≤ L.length) ∧ Aside0 (ws = h.roots ++ notedW (L.take i)) ∧ Aside0 (wr.ownsRow 0 28 1 (.slice A1 ws.length c1) ws.length (ws.map (Value.int .i64)) ∧ (∀ k, A1 = some ⟨k, 0, none⟩ → w.heap.size ≤ k) ∧ Below w.heap.size w wr)) (fun s v wr => L.length - (intOf v).toNat)
  case atStart =>
    obtain ⟨ws, e1, e2, e3⟩ := HST.out
    exact ⟨0, ws, R1, rc1, by rw [e2], rfl, ⟨Nat.zero_le _⟩, ⟨e1⟩, ⟨e3⟩⟩
  case round =>
    clear HST hrun1 c3 c23
    obtain ⟨i, ws, A1, c1, rfl, rfl, hi, HE, HO⟩ := hrel
    have hL := HS.out.len
    have HRr := Aside0.mk (HH.out.new HO.out.2.2)
    by_cases hlt : i < L.length
    · have hltb : decide ((i : Int) < (L.length : Int)) = true := decide_eq_true (by omega)
      have hil : (i : Int) < (L.length : Int) := by omega
      obtain ⟨q, hA, qc⟩ := HRr.out.ps.at hlt
      rw [hA]
      have hmem := List.getElem_mem hlt
      have hob := HRr.out.q.ob _ hmem
      have hrow := HRr.out.q.row _ hmem
      have hfl := (HS.out.fine _ hmem).fl
      have hnt := notedW_take L hlt
      have hnl := notedW_len (L := L.take i) (fun x hx => HS.out.fine x (List.mem_of_mem_take hx))
      rw [List.length_take] at hnl
      obtain ⟨x, hx⟩ : ∃ x, x = L[i] := ⟨_, rfl⟩
      rw [← hx] at qc hob hrow hfl hnt
      have k4 : wr.cell? ⟨x.t, 4, none⟩ = some (.bool x.o.old) := (blk_cell hob 4).trans rfl
      have k5 : wr.cell? ⟨x.t, 5, none⟩ = some (.bool x.o.noted) := (blk_cell hob 5).trans rfl
      have k2 : wr.cell? ⟨x.t, 2, none⟩ = some (.slice x.A x.o.fs.length x.c) := (blk_cell hob 2).trans rfl
      have hwl : ws.length ≤ 1000000 + 100000000 := by
        rw [HE.out, List.length_append]
        have := HS.out.roots
        omega
      obtain ⟨A2, c2, w2, hrun2, own2, hf2, hblk2⟩ := append_from HO.out.1 (A := x.A) (c := x.c) (m := x.o.fs) (fun hne => by
        obtain ⟨hA, hr⟩ := hrow hne
        exact ⟨_, hA, fun j hj => by
          rw [show (⟨x.fb, 0, none⟩ : Addr).add j = ⟨x.fb, j, none⟩ from by unfold Addr.add; split <;> simp_all]
          exact hr.cell hj⟩) (by omega)
      have hB2 : Below w.heap.size w w2 := HO.out.2.2.trans (hf2.below HO.out.2.2.size (fun k hk => HO.out.2.1 k hk))
      have HO2 := Aside0.mk (show w2.ownsRow 0 28 1 (.slice A2 (ws ++ x.o.fs).length c2) (ws ++ x.o.fs).length ((ws ++ x.o.fs).map (Value.int .i64)) ∧ (∀ k, A2 = some ⟨k, 0, none⟩ → w.heap.size ≤ k) ∧ Below w.heap.size w w2 from
        ⟨by rw [List.length_append]; exact own2, fun k hk => (hblk2 k hk).elim (HO.out.2.1 k) (fun e => Nat.le_trans HO.out.2.2.size e), hB2⟩)
      have HNT := Aside0.mk hnt
      unfold ptr at qc
      clear hx hA hmem hob hrow hfl hnt hnl hwl own2 hf2 hblk2 hB2 HRr
      cases hold : x.o.old with
      | false =>
        rw [hold] at k4
        have HE2 := Aside0.mk (show ws = h.roots ++ notedW (L.take (i + 1)) by rw [HNT.out, hold, HE.out]; simp)
        go_wp2_with fail
        go_roundw
        case rel => exact ⟨i + 1, ws, A1, c1, rfl, by go_num, ⟨hlt⟩, HE2, HO⟩
        case measure => simp [intOf]; omega
      | true =>
        rw [hold] at k4
        cases hno : x.o.noted with
        | false =>
          rw [hno] at k5
          have HE2 := Aside0.mk (show ws = h.roots ++ notedW (L.take (i + 1)) by rw [HNT.out, hold, hno, HE.out]; simp)
          go_wp2_with fail
          go_roundw
          case rel => exact ⟨i + 1, ws, A1, c1, rfl, by go_num, ⟨hlt⟩, HE2, HO⟩
          case measure => simp [intOf]; omega
        | true =>
          rw [hno] at k5
          have HE2 := Aside0.mk (show ws ++ x.o.fs = h.roots ++ notedW (L.take (i + 1)) by rw [HNT.out, hold, hno, HE.out]; simp)
          go_wp2_with (at_builtin; refine wpList_plain rfl fun K hK => wp_append_words _ _ 33 rfl _ _ _ _ rfl rfl hrun2 (hK _ _ ?_))
          go_roundw
          case rel => exact ⟨i + 1, ws ++ x.o.fs, A2, c2, by rw [List.length_append], by go_num, ⟨hlt⟩, HE2, HO2⟩
          case measure => simp [intOf]; omega
    · have hltb : decide ((i : Int) < (L.length : Int)) = false := decide_eq_false (by omega)
      have hi' := hi.out
      obtain rfl : i = L.length := by omega
      rw [List.take_length] at HE
      have hws := HE.out
      have hwl : ws.length ≤ 200000000 := by
        have := notedW_len HS.out.fine
        have := HS.out.roots
        rw [hws, List.length_append]
        omega
      have HRC := Aside0.mk (reach_calls HRr.out HS.out.len HS.out.fine true (WsAt.ofOwn HO.out.1 rfl) hwl)
      unfold ptr at HRC
      clear hi' hi hws hwl
      go_wp2_with fail
      refine HRC.out.mono ?_
      rintro e w4 ⟨O, oc, yg, rfl, hp4, hO, hrch, hb4⟩
      have h4 := HRr.out.new hb4
      have c24 : w4.cell? ⟨g, 2, none⟩ = some (.slice A L.length c) := h4.q.c2
      rw [HE.out] at hrch
      have H4 := Aside0.mk (And.intro hp4 (And.intro hrch h4))
      have HSZ := Aside0.mk (show Below w.heap.size w w4 from HO.out.2.2.trans (Below.mono hb4 HO.out.2.2.size))
      clear hp4 hO hrch hb4 h4 HRC HE HO HRr hltb
      go_wp2_with fail
      go_loopw [6, 49] (fun s v wq => ∃ (i : Nat) (O2 : Option Addr) (oc2 : Nat), s = .slice O2 (stayL (L.take i) yg).length oc2 ∧ v = .int .i64 i ∧ Aside0 (i ≤ L.length) ∧ Aside0 (Ptrs wq (.slice O2 (stayL (L.take i) yg).length oc2) (stayL (L.take i) yg) ∧ (∀ k, O2 = some ⟨k, 0, none⟩ → w4.heap.size ≤ k) ∧ Below w4.heap.size w4 wq)) (fun s v wq => L.length - (intOf v).toNat)
      case atStart => exact ⟨0, none, 0, by simp [stayL], rfl, ⟨Nat.zero_le _⟩, ⟨by simp [stayL]; exact ⟨World.ownsRow_nil _ _ _ _, Below.refl _ _⟩⟩⟩
      case round =>
        obtain ⟨i, O2, oc2, rfl, rfl, hi, HP⟩ := hrel
        have hL := HS.out.len
        have HRr := Aside0.mk (H4.out.2.2.new HP.out.2.2)
        by_cases hlt : i < L.length
        · have hltb : decide ((i : Int) < (L.length : Int)) = true := decide_eq_true (by omega)
          have hil : (i : Int) < (L.length : Int) := by omega
          obtain ⟨q, hA, qc⟩ := HRr.out.ps.at hlt
          rw [hA]
          have hmem := List.getElem_mem hlt
          have hob := HRr.out.q.ob _ hmem
          have hnt := stayL_take L yg hlt
          have hsl : (stayL (L.take i) yg).length ≤ L.length := by
            unfold stayL
            have h1 := List.length_filter_le (fun x : OW => x.o.old || hasB yg x.t) (L.take i)
            rw [List.length_take] at h1
            omega
          have HHS := Aside0.mk (has_calls (H4.out.1.new HP.out.2.2) (Nat.le_trans (ts_le H4.out.2.1.sub H4.out.2.1.nd) (by omega)) (fun y hy => ⟨_, _, HRr.out.q.ob y (H4.out.2.1.sub y hy)⟩) (t := L[i].t) ⟨_, _, hob⟩)
          obtain ⟨x, hx⟩ : ∃ x, x = L[i] := ⟨_, rfl⟩
          rw [← hx] at qc hob hnt HHS
          have k4 : wr.cell? ⟨x.t, 4, none⟩ = some (.bool x.o.old) := (blk_cell hob 4).trans rfl
          have hbL : Below wr.heap.size wr (wr.alloc (.cells #[.pointer (some ⟨x.t, 0, none⟩)] 105)) := (Below.refl _ _).alloc (Nat.le_refl _) _
          obtain ⟨O3, oc3, w7, hrunP, hps7, hf7, hblk7⟩ := append_ptr x (HP.out.1.new hbL) (q := wr.heap.size) (c := 1) ((blk_cell (heap_alloc_new wr _) 0).trans rfl) (by omega)
          have HP3 := Aside0.mk (show Ptrs w7 (.slice O3 (stayL (L.take i) yg ++ [x]).length oc3) (stayL (L.take i) yg ++ [x]) ∧ (∀ k, O3 = some ⟨k, 0, none⟩ → w4.heap.size ≤ k) ∧ Below w4.heap.size w4 w7 from
            ⟨by rw [List.length_append]; exact hps7, fun k hk => (hblk7 k hk).elim (HP.out.2.1 k) (fun e => Nat.le_trans HP.out.2.2.size (Nat.le_trans hbL.size e)),
              (HP.out.2.2.trans (Below.mono hbL HP.out.2.2.size)).trans (hf7.below (Nat.le_trans HP.out.2.2.size hbL.size) (fun k hk => HP.out.2.1 k hk))⟩)
          have HNT := Aside0.mk hnt
          have HX := Aside0.mk hx
          unfold ptr at qc HHS
          clear hx hA hmem hob hnt hbL hps7 hf7 hblk7 HRr hsl
          cases hold : x.o.old with
          | true =>
            rw [hold] at k4
            clear HHS
            have HSTEP := Aside0.mk (show stayL (L.take (i + 1)) yg = stayL (L.take i) yg ++ [x] by rw [HNT.out, if_pos (by rw [hold]; rfl)])
            go_wp2_with (at_builtin; refine wpList_plain rfl fun K hK => wp_append_words _ _ 81 rfl _ _ _ _ rfl rfl hrunP (hK _ _ ?_))
            go_roundw
            case rel => exact ⟨i + 1, O3, oc3, by rw [HSTEP.out, List.length_append, List.length_singleton], by go_num, ⟨hlt⟩, ⟨by rw [HSTEP.out]; exact HP3.out⟩⟩
            case measure => simp [intOf]; omega
          | false =>
            rw [hold] at k4
            cases hhs : hasB yg x.t with
            | true =>
              rw [hhs] at HHS
              have HSTEP := Aside0.mk (show stayL (L.take (i + 1)) yg = stayL (L.take i) yg ++ [x] by rw [HNT.out, if_pos (by rw [hold, hhs]; rfl)])
              clear hhs
              go_wp2_with fail
              refine HHS.out.mono ?_
              rintro e w1' ⟨rfl, rfl⟩
              clear HHS
              go_wp2_with (at_builtin; refine wpList_plain rfl fun K hK => wp_append_words _ _ 81 rfl _ _ _ _ rfl rfl hrunP (hK _ _ ?_))
              go_roundw
              case rel => exact ⟨i + 1, O3, oc3, by rw [HSTEP.out, List.length_append, List.length_singleton], by go_num, ⟨hlt⟩, ⟨by rw [HSTEP.out]; exact HP3.out⟩⟩
              case measure => simp [intOf]; omega
            | false =>
              rw [hhs] at HHS
              have HSTEP := Aside0.mk (show stayL (L.take (i + 1)) yg = stayL (L.take i) yg by rw [HNT.out, if_neg (by rw [hold, hhs]; simp)])
              clear hhs hrunP HP3
              go_wp2_with fail
              refine HHS.out.mono ?_
              rintro e w1' ⟨rfl, rfl⟩
              clear HHS
              go_wp2_with fail
              go_roundw
              case rel => exact ⟨i + 1, O2, oc2, by rw [HSTEP.out], by go_num, ⟨hlt⟩, ⟨by rw [HSTEP.out]; exact HP.out⟩⟩
              case measure => simp [intOf]; omega
        · have hltb : decide ((i : Int) < (L.length : Int)) = false := decide_eq_false (by omega)
          have hi' := hi.out
          obtain rfl : i = L.length := by omega
          rw [List.take_length] at HP ⊢
          obtain ⟨S, hS⟩ : ∃ S, S = stayL L yg := ⟨_, rfl⟩
          rw [← hS] at HP ⊢
          have hsub : ∀ x ∈ S, x ∈ L := fun x hx => by rw [hS] at hx; exact (List.mem_filter.1 hx).1
          have hnd : S.Pairwise fun x y => x.t ≠ y.t := by
            rw [hS]
            exact (HRr.out.q.one.imp fun h => h.1).filter _
          have c5 := HRr.out.q.c5
          have f5 := HRr.out.q.fz 5
          have hfm := Fr.set wr g 5 (.int .i64 (h.minor + 1))
          have hfq1 : FrP (FootQ g R L) wr (wr.setCell ⟨g, 5, none⟩ (.int .i64 (h.minor + 1))) := (FrP.ofFr hfm).mono (fun k _ hk => .inl (by simpa using hk))
          have h5 := HRr.out.after (h' := { h with minor := h.minor + 1 }) (HRr.out.q.turned (V' := .slice A L.length c) (h' := { h with minor := h.minor + 1 }) hfm (by rw [blk_put HRr.out.q.hp 5 (.int .i64 (h.minor + 1)) rfl]; rfl) rfl) hfq1 (by show h.nx ≤ h.nx; omega)
          have hp5 := HP.out.1.foot HRr.out.q hfq1
          have HMV := Aside0.mk (moved_calls (h5.q.sub hsub hnd) hp5 (tsame_keys h5 hsub hnd) (Nat.le_trans (ts_le hsub hnd) HS.out.len) (by have := HS.out.nx; exact ⟨by show 0 ≤ h.nx; omega, by show h.nx ≤ _; omega⟩) (fun x hx => (HS.out.fine x (hsub x hx)).fl) HS.out.roots)
          have HWR := Aside0.mk (show wrap64 (h.minor + 1) = h.minor + 1 by have := HS.out.mm; unfold wrap64; omega)
          have HQ1 := Aside0.mk hfq1
          have HSB := Aside0.mk (And.intro hsub hS)
          rw [← HWR.out] at HMV
          unfold ptr at HMV
          clear hi' hi hS hsub hnd hfm hfq1 h5 hp5 HRr
          go_wp2_with fail
          refine HMV.out.mono ?_
          rintro e w5 ⟨rfl, hm⟩
          have HM := Aside0.mk hm
          clear hm HMV
          go_wp2_with fail
          go_returns
          obtain ⟨hsub, hS⟩ := HSB.out
          have hm : MvS (wr.setCell ⟨g, 5, none⟩ (.int .i64 (wrap64 (h.minor + 1)))) w5 g (.slice O2 S.length oc2) R rc O2 oc2 S (movL h.nx S) ({ h with minor := h.minor + 1 }.moved S) (wr.setCell ⟨g, 5, none⟩ (.int .i64 (wrap64 (h.minor + 1)))).heap.size (stT h.nx S) := by
            rw [← movL_eq, HWR.out]
            have := HM.out
            rw [HWR.out] at this
            exact this
          have hq1 := HQ1.out
          rw [← HWR.out] at hq1
          refine ⟨rfl, yg, O2, oc2, H4.out.2.1, ?_⟩
          rw [← hS]
          have hfs : ∀ k, FootQ g R S k → FootQ g R L k := fun k hk => hk.imp id (fun e => e.imp id (fun ⟨y, hy, h⟩ => ⟨y, hsub y hy, h⟩))
          have hbw : Below w.heap.size w wr := HSZ.out.trans (Below.mono HP.out.2.2 HSZ.out.size)
          refine ⟨HR.moved (h := { h with minor := h.minor + 1 }) hm HS.out.nx.1 HS.out.nx.2.1, ⟨?_, fun k hk => ?_⟩⟩
          · exact ((FrP.new hbw _).trans (hq1.mono (fun k _ hk => .inl hk))).trans (hm.fr.mono (fun k _ hk => .inl (hfs k hk)))
          · rcases hk with hk | hk
            · exact .inl (.inl (hfs k (hm.ft k hk)))
            · refine .inr (Nat.le_trans HSZ.out.size (HP.out.2.1 k ?_))
              rcases HP.out.1.2 with ⟨h1, -⟩ | ⟨qb, cap, cur2, h1, -, h3, -⟩
              · rw [h1] at hk; simp [Value.ownBlock] at hk
              · rw [h1] at hk
                obtain rfl : qb = k := by simpa [Value.ownBlock] using hk
                simp only [Value.slice.injEq] at h1
                exact h1.1
end
end Go.Proofs.Ytlghnldlkbgajaa.S
