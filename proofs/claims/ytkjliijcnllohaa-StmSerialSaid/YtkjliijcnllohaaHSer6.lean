/- stm: StmSerial, walked. -/
import Derived.Test.YtkjliijcnllohaaHSevA
import Derived.Deep.LoopGhost
import Derived.Deep.CutBlock
import Derived.Deep.DeepCutAuto
namespace Go.Proofs.Ytkjliijcnllohaa.S
open Go.RowKit Go.Proofs.YtkjliijcnllohaaW.PrintWords Go.Proofs.YtkjliijcnllohaaW.PrintLast Go.Proofs.YtkjliijcnllohaaW.PrintMore
set_option linter.unusedVariables false
set_option linter.unusedSimpArgs false
/-- A call that came in. -/
structure DA where
  op : Int
  tx : Int
  nm : ByteArray
  v : Value
  bs : List Int
/-- Calls that came in, in memory. -/
def DosIn (w : World) (p : Option Addr) (L : List DA) : Prop :=
  L.length ≤ 4611686018427387904 ∧ ∀ i (h : i < L.length), ∃ a, p = some a ∧ w.cell? (a.add (i * 4)) = some (.int .i64 L[i].op) ∧ w.cell? ⟨(a.add (i * 4)).block, (a.add (i * 4)).off + 1, none⟩ = some (.int .i64 L[i].tx) ∧ w.cell? ⟨(a.add (i * 4)).block, (a.add (i * 4)).off + 2, none⟩ = some (.string L[i].nm) ∧ w.cell? ⟨(a.add (i * 4)).block, (a.add (i * 4)).off + 3, none⟩ = some L[i].v ∧ Reads w L[i].v L[i].bs ∧ L[i].nm.size ≤ 9223372036854775807 ∧ (-9223372036854775808 ≤ L[i].op ∧ L[i].op ≤ 9223372036854775807) ∧ (-9223372036854775808 ≤ L[i].tx ∧ L[i].tx ≤ 9223372036854775807)
theorem u64_small {n : Int} (h0 : 0 ≤ n) (h1 : n < 18446744073709551616) : IntKind.u64.wrap n = n := by
  simp [IntKind.wrap, IntKind.min, IntKind.max, IntKind.bits, IntKind.signed]
  omega
theorem u64_range (n : Int) : 0 ≤ IntKind.u64.wrap n ∧ IntKind.u64.wrap n < 18446744073709551616 := by
  simp [IntKind.wrap, IntKind.min, IntKind.max, IntKind.bits, IntKind.signed]
  omega
/-- Where the law's loop stands. -/
def SerAt (w wr : World) (s bm mb lb : Nat) (i : Nat) (v5 : Value) : Prop :=
  ∃ clock S Q Mm Lm mv, Ser w wr s bm mb lb v5 i clock S Q Mm Lm mv
set_option maxRecDepth 100000 in
set_option maxHeartbeats 8000000 in
theorem serial_calls {L : List DA} {A : Option Addr} {c : Nat} {w : World} (h : DosIn w A L) : Calls Try.prog 5 #[.slice A L.length c] w fun e w' => e = .returned (.bool true) ∧ Below w.heap.size w w' := by
  have hmm := @run_makeMap Try.prog
  have hu50 := Try.underlying50
  have hu28 := Try.underlying28
  have HIN := Aside0.mk h.2
  have hmx := h.1
  have HN := Aside0.mk (new_calls (L := []) (A := none) (c := 0) (w := w) ⟨by simp, fun i hi => by simp at hi⟩)
  clear h
  go_enter Try.func5, Try.ntmps5
  go_wp2_with fail
  refine HN.out.mono ?_
  rintro e w1 ⟨hb1, ⟨hf, -⟩ | ⟨-, hf, -⟩ | ⟨-, -, s, bm, S, rfl, hsp, hnm, hbs, hfr, hup⟩⟩
  · simp at hf
  · exact absurd List.Pairwise.nil hf
  have hS : S = [] := by simpa using congrArg List.length hnm
  subst hS
  have HB1 := Aside0.mk hb1
  have HSP := Aside0.mk hsp
  have HUP := Aside0.mk hup
  clear hb1 hsp hnm hbs hfr hup HN
  unfold ptr
  go_wp2_with fail
  have hst : SerAt w ((w1.alloc (.map #[] 0)).alloc (.map #[] 0)) s bm w1.heap.size (w1.heap.size + 1) 0 (.slice none 0 0) := by
    have hlt1 := HSP.out.mp.lt
    have hb1a : Below w1.heap.size w1 (w1.alloc (.map #[] 0)) := (Below.refl _ w1).alloc (Nat.le_refl _) _
    have hb1b : Below w1.heap.size w1 ((w1.alloc (.map #[] 0)).alloc (.map #[] 0)) := below_alloc hb1a _
    have hsz1 : (w1.alloc (.map #[] 0)).heap.size = w1.heap.size + 1 := by simp
    have hbw := HB1.out.size
    have hlm := MapIs.new (w1.alloc (.map #[] 0))
    rw [hsz1] at hlm
    refine ⟨0, [], [], [], [], fun _ => [], ⟨⟨HSP.out.fr0 (Fr.ofBelow hb1b []), HB1.out.trans (hb1b.mono hbw), HUP.out.1, HUP.out.2.1, fun i hi => by simp [gs] at hi⟩, fun j hj => by simp at hj, fun j k hj => by simp at hj, (MapIs.new w1).fr (Fr.alloc [] _ _) (by simp), hlm, RowsOf.nil _ _, ⟨by omega, by omega, by omega⟩, fun j hj => by simp at hj, ⟨by omega, by omega⟩, ⟨rfl, .inl ⟨rfl, rfl⟩⟩⟩, ⟨⟨by omega, by simp⟩, fun n => ⟨Int.le_refl _, Int.le_refl _⟩, fun n _ => rfl, fun p hp => by simp at hp, fun j hj => by simp at hj, fun n hn => by simp at hn, fun j hj => by simp at hj, by simp⟩, ⟨fun n hn => (by cases hn), fun n _ => rfl⟩⟩
  have HST := Aside0.mk hst
  clear hst
  go_loopg [5, 33] L.length (fun kq v5 v33 wr => ∃ i : Nat, v33 = .int .i64 i ∧ Aside0 (i + kq = L.length) ∧ Aside0 (SerAt w wr s bm w1.heap.size (w1.heap.size + 1) i v5))
  case atStart => exact ⟨0, rfl, ⟨by omega⟩, HST⟩
  case round =>
    clear HST
    obtain ⟨i, rfl, hi, hs⟩ := hrel
    obtain ⟨clock, S, Q, Mm, Lm, mv, ⟨hM, hL, hMod⟩⟩ := hs.out
    obtain ⟨A5, c5, rfl⟩ := ps_form hM.ps
    by_cases hlt : i < L.length
    · have hlt' : ((i : Int) < (L.length : Int)) := by omega
      have hltb : decide ((i : Int) < (L.length : Int)) = true := decide_eq_true hlt'
      obtain ⟨ad, hA, x0, x1, x2, x3, hrd, hnm, hop, htx⟩ := HIN.out i hlt
      cases hA
      have hbel := hM.st.bel
      replace x0 := (hbel.cell (World.block_lt_of_cell? w _ x0)).trans x0
      replace x1 := (hbel.cell (World.block_lt_of_cell? w _ x1)).trans x1
      replace x2 := (hbel.cell (World.block_lt_of_cell? w _ x2)).trans x2
      replace x3 := (hbel.cell (World.block_lt_of_cell? w _ x3)).trans x3
      obtain ⟨Ab, nb, cb, hvb⟩ := hrd.form
      rw [hvb] at x3
      have HRD := Aside0.mk (show Reads wr (.slice Ab nb cb) (L[i]'hlt).bs by rw [← hvb]; exact hrd.below hbel (Nat.le_refl _))
      generalize (L[i]'hlt).op = op at *
      generalize (L[i]'hlt).tx = tx at *
      generalize (L[i]'hlt).nm = nm at *
      generalize (L[i]'hlt).bs = bs at *
      have HM := Aside0.mk hM
      have HL := Aside0.mk hL
      have HMod := Aside0.mk hMod
      clear hM hL hMod hrd hvb hbel hs
      by_cases hbig : 120 < i
      · have hbb : decide ((120 : Int) < (i : Int)) = true := decide_eq_true (by omega)
        go_wp2_with fail
        go_returns
        exact ⟨rfl, HM.out.st.bel.trans ((Below.mono ((Below.refl _ wr).alloc (Nat.le_refl _) (.cells #[.int .i64 op, .int .i64 tx, .string nm, .slice Ab nb cb] 50)) HM.out.st.bel.size))⟩
      · have hbb : decide ((120 : Int) < (i : Int)) = false := decide_eq_false (by omega)
        obtain ⟨n, hn⟩ : ∃ n, n = Q.length := ⟨_, rfl⟩
        rw [← hn] at HM ⊢
        have HN := Aside0.mk hn
        have hnb : n ≤ 121 := by have := HL.out.len; omega
        have hDo : DoAt (wr.alloc (.cells #[.int .i64 op, .int .i64 tx, .string nm, .slice Ab nb cb] 50)) wr.heap.size op tx nm (.slice Ab nb cb) := ⟨⟨_, _, _, rfl⟩, blk_new _ _⟩
        have hMA := HM.out.new ((Below.refl _ wr).alloc (Nat.le_refl _) (.cells #[.int .i64 op, .int .i64 tx, .string nm, .slice Ab nb cb] 50))
        have HDO := Aside0.mk hDo
        have HMA := Aside0.mk hMA
        have HRA := Aside0.mk (HRD.out.below ((Below.refl wr.heap.size wr).alloc (Nat.le_refl _) (.cells #[.int .i64 op, .int .i64 tx, .string nm, .slice Ab nb cb] 50)) (Nat.le_refl _))
        clear hn hDo hMA
        by_cases hbeg : op.tmod 6 = 0 ∨ n = 0
        · have HI := Aside0.mk (show i < L.length ∧ i + gk = L.length ∧ i ≤ 120 from ⟨hlt, hi.out, by omega⟩)
          have HCB := Aside0.mk (begin_is HMA.out.st.sp)
          unfold ptr at HCB
          have hbt : (op.tmod 6 == 0) = true ∨ ((op.tmod 6 == 0) = false ∧ ((n : Int) == 0) = true) := by
            by_cases h6 : op.tmod 6 = 0
            · exact .inl (by simpa using h6)
            · exact .inr ⟨by simpa using h6, by simp; omega⟩
          have HSA := Aside0.mk (Ser.mk HMA.out HL.out HMod.out)
          clear hbeg HM HL HMod HRD HDO HRA HMA
          rcases hbt with hb1 | ⟨hb1, hb2⟩
          all_goals
            as_aux_lemma =>
              go_wp2_with fail
              refine HCB.out.mono ?_
              rintro e w2 ⟨t, br, bw, rfl, htx, hfr, hsp, hf2⟩
              have hS2 := HSA.out.new (hf2.below (Nat.le_refl _) (fun k hk => by simp at hk))
              have hbm : Below w2.heap.size w2 (w2.alloc (.map #[] 0)) := (Below.refl _ w2).alloc (Nat.le_refl _) _
              have hS3 := hS2.new hbm
              have HCO := Aside0.mk (bytesOf_calls hS3.mem.st.sp (fun x hx => nmK_size (hS3.log.nmS _ (List.mem_map.2 ⟨x, hx, rfl⟩))) (by have := hS3.mem.st.sp.few hS3.log.nmS; omega))
              have HS3 := Aside0.mk hS3
              have HTX := Aside0.mk (And.intro (htx.fr (Fr.ofBelow hbm [])) (And.intro htx.lt hfr))
              have HRM := Aside0.mk (MapIs.new w2)
              have hszm : Aside0 ((w2.alloc (.map #[] 0)).heap.size = w2.heap.size + 1) := ⟨by simp⟩
              unfold ptr at HCO
              clear htx hfr hsp hf2 hS2 hbm hS3 HCB
              go_wp2_with fail
              refine HCO.out.mono ?_
              rintro e w3 ⟨gb, Gm, rfl, hgb, hgm, hrg, hhas, hb3⟩
              obtain ⟨A', c', w4, hrun1, hpush⟩ := (HS3.out.mem.new hb3).push HN.out.symm HSA.out.mem (by have := HS3.out.log.len; omega) (HTX.out.1.fr (Fr.ofBelow hb3 [])) (HRM.out.fr (Fr.ofBelow hb3 []) (by simp)) hgm hrg HTX.out.2.2 (by have := HTX.out.2.1; have := hszm.out; omega) (fun _ => []) (fun _ => [])
              have HP := Aside0.mk hpush
              have HLG := Aside0.mk (HS3.out.log.push (x := ⟨w3.heap.size, t, br, bw, w2.heap.size, gb, clock, 0, [], [], [], Gm, fun _ => [], fun _ => [], fun n => (sv S n).bs⟩) rfl (fun k => by
                show (if has Gm k = true then (sv S k).bs else []) = _
                rw [hhas]
                cases hh : (sv S k).had with
                | true => rw [if_pos rfl]; rfl
                | false => rw [if_neg (by simp)]; exact (HS3.out.log.nb k hh).symm) rfl ⟨rfl, rfl⟩)
              have HMo := Aside0.mk HS3.out.mod
              clear hgb hgm hrg hhas hb3 hpush HCO
              go_wp2_with (at_builtin; refine wpList_plain rfl fun KK hK => wp_append_v _ _ 46 rfl _ _ _ _ rfl rfl hrun1 (hK _ _ ?_))
              go_roundg (L.length - (i + 1))
              case measure => have := HI.out; omega
              case rel => exact ⟨i + 1, by go_num, ⟨by have := HI.out; omega⟩, ⟨_, _, _, _, _, _, HP.out, HLG.out, HMo.out⟩⟩
        · have ho6 : (op.tmod 6 == 0) = false := by simp; omega
          have hn0 : ((n : Int) == 0) = false := by simp; omega
          have hnp : 0 < n := by omega
          have hwn : IntKind.u64.wrap (n : Int) = n := u64_small (by omega) (by omega)
          obtain ⟨u, hu⟩ : ∃ u, u = IntKind.u64.wrap tx := ⟨_, rfl⟩
          have hu1 : 0 ≤ u := by rw [hu]; exact (u64_range tx).1
          have hu2 : u < 18446744073709551616 := by rw [hu]; exact (u64_range tx).2
          obtain ⟨z, hz⟩ : ∃ z, z = IntKind.u64.wrap op := ⟨_, rfl⟩
          have hz1 : 0 ≤ z := by rw [hz]; exact (u64_range op).1
          have hz2 : z < 18446744073709551616 := by rw [hz]; exact (u64_range op).2
          obtain ⟨j, hj⟩ : ∃ j : Nat, u % (n : Int) = (j : Int) := ⟨(u % (n : Int)).toNat, (Int.toNat_of_nonneg (Int.emod_nonneg _ (by omega))).symm⟩
          have hjn : j < n := by have := Int.emod_lt_of_pos u (show (0 : Int) < n by omega); omega
          obtain ⟨y, hy⟩ : ∃ y : Int, z % 6 = y := ⟨_, rfl⟩
          have hy0 : 0 ≤ y := by omega
          have hy6 : y < 6 := by omega
          have hjQ : j < Q.length := by rw [← HN.out]; exact hjn
          have hps := HMA.out.ps
          rw [← HN.out] at hps
          obtain ⟨g5, hA5, pc⟩ := ps_at hps HN.out.symm hjQ
          clear hps
          cases hA5
          have HJ := Aside0.mk hjQ
          have hu' := hu.symm
          have hz' := hz.symm
          clear hbeg hu hz
          obtain ⟨x, hx⟩ : ∃ x, x = Q[j]'hjQ := ⟨_, rfl⟩
          rw [← hx] at pc
          have HX0 := Aside0.mk (show IsAt Q j x from ⟨hjQ, hx.symm⟩)
          clear hx hjQ
          go_upto_block 2 with fail
          clear x0 x1 x2 x3 pc
          go_cut [] from 34 to 230 (fun wx => Aside0 (SerAt w wx s bm w1.heap.size (w1.heap.size + 1) (i + 1) (.slice (some ⟨g5, 0, none⟩) n c5)))
          case first =>
            have HS0 := Aside0.mk (Ser.mk HMA.out HL.out HMod.out)
            have HNM := Aside0.mk hnm
            have HI := Aside0.mk (show i < L.length ∧ i + gk = L.length ∧ i ≤ 120 from ⟨hlt, hi.out, by omega⟩)
            have HQ0 := Aside0.mk (HS0.out.q HX0.out)
            clear HM HL HMod HRD HMA hnm hop htx hi hlt hlt' hltb hbig hbb ho6 hn0 hnp hnb hwn hu1 hu2 hz1 hz2 hj hjn hy hu' hz'
            generalize wr.alloc (.cells #[.int .i64 op, .int .i64 tx, .string nm, .slice Ab nb cb] 50) = W at *
            generalize wr.heap.size = kb at *
            have hy5 : y = 1 ∨ y = 2 ∨ y = 3 ∨ y = 4 ∨ ((y == 1) = false ∧ (y == 2) = false ∧ (y == 3) = false ∧ (y == 4) = false) := by simp; omega
            clear hy0 hy6
            rcases hy5 with rfl | rfl | rfl | rfl | ⟨hy1, hy2, hy3, hy4⟩
            · as_aux_lemma =>
                have HC1 := Aside0.mk (HS0.out.writes_x HX0.out)
                unfold ptr at HC1
                have q0 := HQ0.out.c0
                go_wp2_with fail
                refine HC1.out.mono ?_
                rintro e w2 ⟨p, cp, Lw, rfl, hsl, hkk, hb2⟩
                have HS2 := Aside0.mk (HS0.out.new hb2)
                have HD2 := Aside0.mk (HDO.out.below hb2)
                have HC2 := Aside0.mk (own_x HD2.out HNM.out hsl hkk)
                unfold ptr at HC2
                clear hsl hkk hb2 HC1 HS0 HDO q0 HQ0
                go_wp2_with fail
                refine HC2.out.mono ?_
                rintro e w3 ⟨rfl, hb3⟩
                have HS3 := Aside0.mk ((HS2.out.new hb3).new (below_drew w3))
                have HD3 := Aside0.mk ((HD2.out.below hb3).below (below_drew w3))
                have HQ3 := Aside0.mk (HS3.out.q HX0.out)
                have HCN := Aside0.mk (name_calls op tx nm (.slice Ab nb cb) w3.drew HNM.out)
                obtain ⟨own, hown⟩ : ∃ own, own = has x.m (nmOf nm) := ⟨_, rfl⟩
                rw [← hown]
                have HOWN := Aside0.mk hown
                clear hb3 HC2 HS2 HD2 hown
                go_wp2_with fail
                refine start_ (n := 12) (S := (fun w' => w'.cell? ⟨x.q, 0, none⟩ = some (.pointer (some ⟨x.t, 0, none⟩)) ∧ w'.cell? ⟨kb, 0, none⟩ = some (.int .i64 op) ∧ w'.cell? ⟨kb, 1, none⟩ = some (.int .i64 tx) ∧ w'.cell? ⟨kb, 2, none⟩ = some (.string nm) ∧ w'.cell? ⟨kb, 3, none⟩ = some (.slice Ab nb cb))) (ds := []) #[false, false, false, false, false, false, false, false, false, false, false, false] (by kernel_rfl) rfl rfl ⟨HQ3.out.c0, HD3.out.kc⟩ (fun hHeld => ?_)
                refine pure_ (i := 0) (N := some 142) (v := ?_) (a' := ?_) #[true, false, false, false, false, false, false, false, false, false, false, false] rfl rfl (by kernel_rfl) (fun _ _ _ h => h) (Or.inl ⟨by rfl, ?_⟩) ?_ ?_
                rotate_left
                · intro w'
                  go_simp
                  with_reducible rfl
                rotate_left
                · simp only [Act.put, List.setIfInBounds_toArray, List.set_cons_zero, List.set_cons_succ, i64_w, i32_w]
                  rfl
                refine pure_ (i := 1) (N := some 143) (v := ?_) (a' := ?_) #[true, true, false, false, false, false, false, false, false, false, false, false] rfl rfl (by kernel_rfl) (fun _ _ _ h => h) (Or.inl ⟨by rfl, ?_⟩) ?_ ?_
                rotate_left
                · intro w'
                  go_simp
                  with_reducible rfl
                rotate_left
                · simp only [Act.put, List.setIfInBounds_toArray, List.set_cons_zero, List.set_cons_succ, i64_w, i32_w]
                  rfl
                refine pure_ (i := 2) (N := some 144) (v := ?_) (a' := ?_) #[true, true, true, false, false, false, false, false, false, false, false, false] rfl rfl (by kernel_rfl) (fun _ _ _ h => h) (Or.inl ⟨by rfl, ?_⟩) ?_ ?_
                rotate_left
                · intro w'
                  go_simp
                  with_reducible rfl
                rotate_left
                · simp only [Act.put, List.setIfInBounds_toArray, List.set_cons_zero, List.set_cons_succ, i64_w, i32_w]
                  rfl
                refine take_ (i := 3) (N := some 145) (v := ?_) (a' := ?_) #[true, true, true, true, false, false, false, false, false, false, false, false] rfl rfl (by kernel_rfl) (fun _ _ _ h => h) (Or.inl ⟨by rfl, ?_⟩) hHeld ?_ ?_
                rotate_left
                · rintro w' ⟨s0, s1, s2, s3, s4⟩
                  go_simp
                  with_reducible rfl
                rotate_left
                · simp only [Act.put, List.setIfInBounds_toArray, List.set_cons_zero, List.set_cons_succ, i64_w, i32_w]
                  rfl
                refine take_ (i := 4) (N := some 146) (v := ?_) (a' := ?_) #[true, true, true, true, true, false, false, false, false, false, false, false] rfl rfl (by kernel_rfl) (fun _ _ _ h => h) (Or.inl ⟨by rfl, ?_⟩) hHeld ?_ ?_
                rotate_left
                · rintro w' ⟨s0, s1, s2, s3, s4⟩
                  go_simp
                  with_reducible rfl
                rotate_left
                · simp only [Act.put, List.setIfInBounds_toArray, List.set_cons_zero, List.set_cons_succ, i64_w, i32_w]
                  rfl
                refine one_ (i := 5) (N := some 147) #[true, true, true, true, true, true, false, false, false, false, false, false] rfl rfl (by kernel_rfl) (by decide) (fun KK hK => ?_)
                refine goes_ Try.func25 (by kernel_rfl) rfl #[.agg #[.int .i64 op, .int .i64 tx, .string nm, .slice Ab nb cb]] (by rfl) rfl rfl (by simp only [List.map_toArray, List.map_cons, List.map_nil]; rfl) ?_
                refine HCN.out.mono ?_
                rintro e w4 ⟨rfl, hb4⟩
                have HS4 := Aside0.mk (HS3.out.new hb4)
                have HD4 := Aside0.mk (HD3.out.below hb4)
                have HQ4 := Aside0.mk (HS4.out.q HX0.out)
                refine ⟨_, rfl, ?_⟩
                refine hK.out _ _ ⟨HQ4.out.c0, HD4.out.kc⟩ (fun hHeld => ?_)
                clear hK KK
                refine norm_ (a' := ?_) ?_ ?_
                rotate_left
                · show Act.put _ (some 147) _ = _
                  simp only [Act.put, List.setIfInBounds_toArray, List.set_cons_zero, List.set_cons_succ, i64_w, i32_w]
                  rfl
                have HCG := Aside0.mk (HS4.out.get_x HX0.out nm)
                unfold ptr at HCG
                clear hb4 HCN HS3 HD3 HQ3
                refine one_ (i := 6) (N := some 148) #[true, true, true, true, true, true, true, false, false, false, false, false] rfl rfl (by kernel_rfl) (by decide) (fun KK hK => ?_)
                refine goes_ Try.func12 (by kernel_rfl) rfl #[.pointer (some ⟨x.t, 0, none⟩), .string (nmOf nm)] (by rfl) rfl rfl (by simp only [List.map_toArray, List.map_cons, List.map_nil]; rfl) ?_
                refine HCG.out.mono ?_
                rintro e w5 ⟨A6, n6, c6, er, S6, ph6, mr6, Q6, rfl, hx6, hs6, hf6, hok6⟩
                have HS5 := Aside0.mk (hs6.new (below_drew w5))
                have HD5 := Aside0.mk (HD4.out.fq hf6)
                have HQ5 := Aside0.mk (HQ4.out.fq hf6)
                have HX5 := Aside0.mk hx6
                have HOK := Aside0.mk hok6
                refine ⟨_, rfl, ?_⟩
                refine hK.out _ _ ⟨HQ5.out.c0, HD5.out.kc⟩ (fun hHeld => ?_)
                clear hK KK
                refine norm_ (a' := ?_) ?_ ?_
                rotate_left
                · show Act.put _ (some 148) _ = _
                  simp only [Act.put, List.setIfInBounds_toArray, List.set_cons_zero, List.set_cons_succ, i64_w, i32_w]
                  rfl
                have HSW5 := Aside0.mk hs6
                clear hx6 hs6 hf6 hok6 HCG HS4 HD4 HQ4
                refine pure_ (i := 7) (N := some 141) (v := ?_) (a' := ?_) #[true, true, true, true, true, true, true, true, false, false, false, false] rfl rfl (by kernel_rfl) (fun _ _ _ h => h) (Or.inl ⟨by rfl, ?_⟩) ?_ ?_
                rotate_left
                · intro w'
                  go_simp
                  with_reducible rfl
                rotate_left
                · simp only [Act.put, List.setIfInBounds_toArray, List.set_cons_zero, List.set_cons_succ, i64_w, i32_w]
                  rfl
                refine pure_ (i := 8) (N := some 149) (v := ?_) (a' := ?_) #[true, true, true, true, true, true, true, true, true, false, false, false] rfl rfl (by kernel_rfl) (fun _ _ _ h => h) (Or.inl ⟨by rfl, ?_⟩) ?_ ?_
                rotate_left
                · intro w'
                  go_simp
                  with_reducible rfl
                rotate_left
                · simp only [Act.put, List.setIfInBounds_toArray, List.set_cons_zero, List.set_cons_succ, i64_w, i32_w]
                  rfl
                refine pure_ (i := 9) (N := some 150) (v := ?_) (a' := ?_) #[true, true, true, true, true, true, true, true, true, true, false, false] rfl rfl (by kernel_rfl) (fun _ _ _ h => h) (Or.inl ⟨by rfl, ?_⟩) ?_ ?_
                rotate_left
                · intro w'
                  go_simp
                  with_reducible rfl
                rotate_left
                · simp only [Act.put, List.setIfInBounds_toArray, List.set_cons_zero, List.set_cons_succ, i64_w, i32_w]
                  rfl
                refine pure_ (i := 10) (N := some 14) (v := ?_) (a' := ?_) #[true, true, true, true, true, true, true, true, true, true, true, false] rfl rfl (by kernel_rfl) (fun _ _ _ h => h) (Or.inl ⟨by rfl, ?_⟩) ?_ ?_
                rotate_left
                · intro w'
                  go_simp
                  with_reducible rfl
                rotate_left
                · simp only [Act.put, List.setIfInBounds_toArray, List.set_cons_zero, List.set_cons_succ, i64_w, i32_w]
                  rfl
                refine pure_ (i := 11) (N := some 15) (v := ?_) (a' := ?_) #[true, true, true, true, true, true, true, true, true, true, true, true] rfl rfl (by kernel_rfl) (fun _ _ _ h => h) (Or.inl ⟨by rfl, ?_⟩) ?_ ?_
                rotate_left
                · intro w'
                  go_simp
                  with_reducible rfl
                rotate_left
                · simp only [Act.put, List.setIfInBounds_toArray, List.set_cons_zero, List.set_cons_succ, i64_w, i32_w]
                  rfl
                refine done_ (by kernel_rfl) ?_
                by_cases he : er = 0
                · subst he
                  cases own with
                  | true =>
                    go_wp2_with fail
                    go_meet
                    exact ⟨⟨_, _, _, _, _, _, HSW5.out.mono (Nat.le_succ _)⟩⟩
                  | false =>
                    obtain ⟨hr6, hv6, hm6⟩ := HOK.out rfl HOWN.out.symm
                    have hgot : bsS S6 (nmOf nm) = x.bf (nmOf nm) := by
                      obtain ⟨hj6, e6⟩ := HX5.out
                      have h1 := (HSW5.out.log.ser j hj6).got (n := nmOf nm) (by rw [e6]; exact hv6)
                      rw [e6] at h1; exact h1
                    obtain ⟨Ag, ng, cg, hlk, hrg⟩ := HS5.out.began HX5.out (nmOf nm)
                    have HLK := Aside0.mk hlk
                    have HCN := Aside0.mk (name_calls op tx nm (.slice Ab nb cb) w5.drew HNM.out)
                    have HD5d := Aside0.mk (HD5.out.below (below_drew w5))
                    have HQ5d := Aside0.mk (HQ5.out.fq (Fq.drew w5))
                    have HR6 := Aside0.mk (And.intro (show RowAt w5.drew (.slice A6 n6 c6) (bsS S6 (nmOf nm)) from hr6.fr (Fr.drewN (T := []) w5 1)) (show RowAt w5.drew (.slice Ag ng cg) (bsS S6 (nmOf nm)) by rw [hgot]; exact hrg))
                    have HV6 := Aside0.mk (And.intro hv6 hm6)
                    clear hr6 hv6 hm6 hgot hrg hlk
                    go_wp2_with fail
                    refine start_ (n := 10) (S := (fun w' => w'.cell? ⟨x.q, 2, none⟩ = some (.map (some x.gb)) ∧ w'.cell? ⟨kb, 0, none⟩ = some (.int .i64 op) ∧ w'.cell? ⟨kb, 1, none⟩ = some (.int .i64 tx) ∧ w'.cell? ⟨kb, 2, none⟩ = some (.string nm) ∧ w'.cell? ⟨kb, 3, none⟩ = some (.slice Ab nb cb) ∧ (Instr.lookup 47 (.map (some x.gb)) (.string (nmOf nm)) false).run Try.prog w' = .ok (.slice Ag ng cg) w')) (ds := []) #[false, false, false, false, false, false, false, false, false, false] (by kernel_rfl) rfl rfl ⟨HQ5d.out.c2, HD5d.out.c0, HD5d.out.c1, HD5d.out.c2, HD5d.out.c3, HLK.out _ (Fr.refl _ _)⟩ (fun hHeld => ?_)
                    refine pure_ (i := 0) (N := some 157) (v := ?_) (a' := ?_) #[true, false, false, false, false, false, false, false, false, false] rfl rfl (by kernel_rfl) (fun _ _ _ h => h) (Or.inl ⟨by rfl, ?_⟩) ?_ ?_
                    rotate_left
                    · intro w'
                      go_simp
                      with_reducible rfl
                    rotate_left
                    · simp only [Act.put, List.setIfInBounds_toArray, List.set_cons_zero, List.set_cons_succ, i64_w, i32_w]
                      rfl
                    refine pure_ (i := 1) (N := some 158) (v := ?_) (a' := ?_) #[true, true, false, false, false, false, false, false, false, false] rfl rfl (by kernel_rfl) (fun _ _ _ h => h) (Or.inl ⟨by rfl, ?_⟩) ?_ ?_
                    rotate_left
                    · intro w'
                      go_simp
                      with_reducible rfl
                    rotate_left
                    · simp only [Act.put, List.setIfInBounds_toArray, List.set_cons_zero, List.set_cons_succ, i64_w, i32_w]
                      rfl
                    refine pure_ (i := 2) (N := some 159) (v := ?_) (a' := ?_) #[true, true, true, false, false, false, false, false, false, false] rfl rfl (by kernel_rfl) (fun _ _ _ h => h) (Or.inl ⟨by rfl, ?_⟩) ?_ ?_
                    rotate_left
                    · intro w'
                      go_simp
                      with_reducible rfl
                    rotate_left
                    · simp only [Act.put, List.setIfInBounds_toArray, List.set_cons_zero, List.set_cons_succ, i64_w, i32_w]
                      rfl
                    refine pure_ (i := 3) (N := some 160) (v := ?_) (a' := ?_) #[true, true, true, true, false, false, false, false, false, false] rfl rfl (by kernel_rfl) (fun _ _ _ h => h) (Or.inl ⟨by rfl, ?_⟩) ?_ ?_
                    rotate_left
                    · intro w'
                      go_simp
                      with_reducible rfl
                    rotate_left
                    · simp only [Act.put, List.setIfInBounds_toArray, List.set_cons_zero, List.set_cons_succ, i64_w, i32_w]
                      rfl
                    refine take_ (i := 4) (N := some 161) (v := ?_) (a' := ?_) #[true, true, true, true, true, false, false, false, false, false] rfl rfl (by kernel_rfl) (fun _ _ _ h => h) (Or.inl ⟨by rfl, ?_⟩) hHeld ?_ ?_
                    rotate_left
                    · rintro w' ⟨s0, s1, s2, s3, s4, s5⟩
                      go_simp
                      with_reducible rfl
                    rotate_left
                    · simp only [Act.put, List.setIfInBounds_toArray, List.set_cons_zero, List.set_cons_succ, i64_w, i32_w]
                      rfl
                    refine take_ (i := 5) (N := some 162) (v := ?_) (a' := ?_) #[true, true, true, true, true, true, false, false, false, false] rfl rfl (by kernel_rfl) (fun _ _ _ h => h) (Or.inl ⟨by rfl, ?_⟩) hHeld ?_ ?_
                    rotate_left
                    · rintro w' ⟨s0, s1, s2, s3, s4, s5⟩
                      go_simp
                      with_reducible rfl
                    rotate_left
                    · simp only [Act.put, List.setIfInBounds_toArray, List.set_cons_zero, List.set_cons_succ, i64_w, i32_w]
                      rfl
                    refine one_ (i := 6) (N := some 163) #[true, true, true, true, true, true, true, false, false, false] rfl rfl (by kernel_rfl) (by decide) (fun KK hK => ?_)
                    refine goes_ Try.func25 (by kernel_rfl) rfl #[.agg #[.int .i64 op, .int .i64 tx, .string nm, .slice Ab nb cb]] (by rfl) rfl rfl (by simp only [List.map_toArray, List.map_cons, List.map_nil]; rfl) ?_
                    refine HCN.out.mono ?_
                    rintro e w7 ⟨rfl, hb7⟩
                    have HS7 := Aside0.mk (HS5.out.new hb7)
                    have HD7 := Aside0.mk (HD5d.out.below hb7)
                    have HQ7 := Aside0.mk (HQ5d.out.fq (Fq.ofBelow hb7))
                    have HR7 := Aside0.mk (And.intro (HR6.out.1.fr (Fr.ofBelow hb7 [])) (HR6.out.2.fr (Fr.ofBelow hb7 [])))
                    have HB7 := Aside0.mk hb7
                    have HL7 := Aside0.mk (HLK.out w7 (Fr.ofBelow hb7 []))
                    refine ⟨_, rfl, ?_⟩
                    refine hK.out _ _ ⟨HQ7.out.c2, HD7.out.c0, HD7.out.c1, HD7.out.c2, HD7.out.c3, HL7.out⟩ (fun hHeld => ?_)
                    clear hK KK
                    refine norm_ (a' := ?_) ?_ ?_
                    rotate_left
                    · show Act.put _ (some 163) _ = _
                      simp only [Act.put, List.setIfInBounds_toArray, List.set_cons_zero, List.set_cons_succ, i64_w, i32_w]
                      rfl
                    have HCE := Aside0.mk (equal_self HR7.out.1 HR7.out.2)
                    clear hb7 HCN
                    refine take_ (i := 7) (N := some 164) (v := ?_) (a' := ?_) #[true, true, true, true, true, true, true, true, false, false] rfl rfl (by kernel_rfl) (fun _ _ _ h => h) (Or.inl ⟨by rfl, ?_⟩) hHeld ?_ ?_
                    rotate_left
                    · rintro w' ⟨s0, s1, s2, s3, s4, s5⟩
                      go_simp
                      with_reducible rfl
                    rotate_left
                    · simp only [Act.put, List.setIfInBounds_toArray, List.set_cons_zero, List.set_cons_succ, i64_w, i32_w]
                      rfl
                    refine one_ (i := 8) (N := some 165) #[true, true, true, true, true, true, true, true, true, false] rfl rfl (by kernel_rfl) (by decide) (fun KK hK => ?_)
                    refine goes_ Try.func19 (by kernel_rfl) rfl #[.slice A6 n6 c6, .slice Ag ng cg] (by rfl) rfl rfl (by simp only [List.map_toArray, List.map_cons, List.map_nil]; rfl) ?_
                    refine HCE.out.mono ?_
                    rintro e w8 ⟨rfl, hb8⟩
                    have HS8 := Aside0.mk (HS7.out.new hb8)
                    have HD8 := Aside0.mk (HD7.out.below hb8)
                    have HQ8 := Aside0.mk (HQ7.out.fq (Fq.ofBelow hb8))
                    have HR8 := Aside0.mk (HR7.out.1.fr (Fr.ofBelow hb8 []))
                    refine ⟨_, rfl, ?_⟩
                    refine hK.out _ _ ⟨HQ8.out.c2, HD8.out.c0, HD8.out.c1, HD8.out.c2, HD8.out.c3, HLK.out w8 ((Fr.ofBelow HB7.out []).trans (Fr.ofBelow hb8 []))⟩ (fun hHeld => ?_)
                    clear hK KK
                    refine norm_ (a' := ?_) ?_ ?_
                    rotate_left
                    · show Act.put _ (some 165) _ = _
                      simp only [Act.put, List.setIfInBounds_toArray, List.set_cons_zero, List.set_cons_succ, i64_w, i32_w]
                      rfl
                    have HCN := Aside0.mk (name_calls op tx nm (.slice Ab nb cb) w8.drew HNM.out)
                    clear hb8 HCE
                    refine pure_ (i := 9) (N := some 166) (v := ?_) (a' := ?_) #[true, true, true, true, true, true, true, true, true, true] rfl rfl (by kernel_rfl) (fun _ _ _ h => h) (Or.inl ⟨by rfl, ?_⟩) ?_ ?_
                    rotate_left
                    · intro w'
                      go_simp
                      with_reducible rfl
                    rotate_left
                    · simp only [Act.put, List.setIfInBounds_toArray, List.set_cons_zero, List.set_cons_succ, i64_w, i32_w]
                      rfl
                    refine done_ (by kernel_rfl) ?_
                    have HD8d := Aside0.mk (HD8.out.below (below_drew w8))
                    have HQ8d := Aside0.mk (HQ8.out.fq (Fq.drew w8))
                    have HS8d := Aside0.mk (HS8.out.new (below_drew w8))
                    have HR8d := Aside0.mk (HR8.out.fr (Fr.drewN (T := []) w8 1))
                    clear HD8 HQ8 HS8 HR8
                    go_wp2_with fail
                    refine start_ (n := 8) (S := (fun w' => w'.cell? ⟨x.q, 1, none⟩ = some (.map (some x.rb)) ∧ w'.cell? ⟨kb, 0, none⟩ = some (.int .i64 op) ∧ w'.cell? ⟨kb, 1, none⟩ = some (.int .i64 tx) ∧ w'.cell? ⟨kb, 2, none⟩ = some (.string nm) ∧ w'.cell? ⟨kb, 3, none⟩ = some (.slice Ab nb cb))) (ds := [7]) #[false, false, false, false, false, false, false, false] (by kernel_rfl) rfl rfl ⟨HQ8d.out.c1, HD8d.out.kc⟩ (fun hHeld => ?_)
                    refine pure_ (i := 0) (N := some 167) (v := ?_) (a' := ?_) #[true, false, false, false, false, false, false, false] rfl rfl (by kernel_rfl) (fun _ _ _ h => h) (Or.inl ⟨by rfl, ?_⟩) ?_ ?_
                    rotate_left
                    · intro w'
                      go_simp
                      with_reducible rfl
                    rotate_left
                    · simp only [Act.put, List.setIfInBounds_toArray, List.set_cons_zero, List.set_cons_succ, i64_w, i32_w]
                      rfl
                    refine pure_ (i := 1) (N := some 168) (v := ?_) (a' := ?_) #[true, true, false, false, false, false, false, false] rfl rfl (by kernel_rfl) (fun _ _ _ h => h) (Or.inl ⟨by rfl, ?_⟩) ?_ ?_
                    rotate_left
                    · intro w'
                      go_simp
                      with_reducible rfl
                    rotate_left
                    · simp only [Act.put, List.setIfInBounds_toArray, List.set_cons_zero, List.set_cons_succ, i64_w, i32_w]
                      rfl
                    refine pure_ (i := 2) (N := some 169) (v := ?_) (a' := ?_) #[true, true, true, false, false, false, false, false] rfl rfl (by kernel_rfl) (fun _ _ _ h => h) (Or.inl ⟨by rfl, ?_⟩) ?_ ?_
                    rotate_left
                    · intro w'
                      go_simp
                      with_reducible rfl
                    rotate_left
                    · simp only [Act.put, List.setIfInBounds_toArray, List.set_cons_zero, List.set_cons_succ, i64_w, i32_w]
                      rfl
                    refine take_ (i := 3) (N := some 170) (v := ?_) (a' := ?_) #[true, true, true, true, false, false, false, false] rfl rfl (by kernel_rfl) (fun _ _ _ h => h) (Or.inl ⟨by rfl, ?_⟩) hHeld ?_ ?_
                    rotate_left
                    · rintro w' ⟨s0, s1, s2, s3, s4⟩
                      go_simp
                      with_reducible rfl
                    rotate_left
                    · simp only [Act.put, List.setIfInBounds_toArray, List.set_cons_zero, List.set_cons_succ, i64_w, i32_w]
                      rfl
                    refine take_ (i := 4) (N := some 171) (v := ?_) (a' := ?_) #[true, true, true, true, true, false, false, false] rfl rfl (by kernel_rfl) (fun _ _ _ h => h) (Or.inl ⟨by rfl, ?_⟩) hHeld ?_ ?_
                    rotate_left
                    · rintro w' ⟨s0, s1, s2, s3, s4⟩
                      go_simp
                      with_reducible rfl
                    rotate_left
                    · simp only [Act.put, List.setIfInBounds_toArray, List.set_cons_zero, List.set_cons_succ, i64_w, i32_w]
                      rfl
                    refine pure_ (i := 6) (N := some 173) (v := ?_) (a' := ?_) #[true, true, true, true, true, false, true, false] rfl rfl (by kernel_rfl) (fun _ _ _ h => h) (Or.inl ⟨by rfl, ?_⟩) ?_ ?_
                    rotate_left
                    · intro w'
                      go_simp
                      with_reducible rfl
                    rotate_left
                    · simp only [Act.put, List.setIfInBounds_toArray, List.set_cons_zero, List.set_cons_succ, i64_w, i32_w]
                      rfl
                    refine one_ (i := 5) (N := some 172) #[true, true, true, true, true, true, true, false] rfl rfl (by kernel_rfl) (by decide) (fun KK hK => ?_)
                    refine goes_ Try.func25 (by kernel_rfl) rfl #[.agg #[.int .i64 op, .int .i64 tx, .string nm, .slice Ab nb cb]] (by rfl) rfl rfl (by simp only [List.map_toArray, List.map_cons, List.map_nil]; rfl) ?_
                    refine HCN.out.mono ?_
                    rintro e w9 ⟨rfl, hb9⟩
                    have HD9 := Aside0.mk (HD8d.out.below hb9)
                    have HQ9 := Aside0.mk (HQ8d.out.fq (Fq.ofBelow hb9))
                    obtain ⟨w10, hu0, hs10, hf10⟩ := (HS8d.out.new hb9).readput HX5.out (n := nmOf nm) (v := .slice A6 n6 c6) HV6.out.1 HV6.out.2 (HR8d.out.fr (Fr.ofBelow hb9 []))
                    have hu : (Instr.mapUpdate 47 (.map (some x.rb)) (.string (nmOf nm)) (.slice A6 n6 c6)).run Try.prog w9 = .ok () w10 := hu0
                    refine ⟨_, rfl, ?_⟩
                    refine hK.out _ _ ⟨HQ9.out.c1, HD9.out.kc⟩ (fun hHeld => ?_)
                    clear hK KK
                    refine norm_ (a' := ?_) ?_ ?_
                    rotate_left
                    · show Act.put _ (some 172) _ = _
                      simp only [Act.put, List.setIfInBounds_toArray, List.set_cons_zero, List.set_cons_succ, i64_w, i32_w]
                      rfl
                    have HS10 := Aside0.mk hs10
                    clear hb9 HCN hs10 hf10
                    refine last_ (i := 7) (N := none) #[true, true, true, true, true, true, true, true] rfl rfl (by kernel_rfl) (by decide) (fun K hK => ?_)
                    refine skip_ (w1 := ?_) (by rfl) rfl ?_ ?_
                    rotate_left
                    · go_simp
                      rfl
                    refine hK.out _ _ ?_
                    clear hK K
                    refine done_ (by kernel_rfl) ?_
                    go_wp2_with fail
                    go_meet
                    obtain ⟨Q10, h10⟩ := HS10.out
                    exact ⟨⟨_, _, _, _, _, _, h10.mono (Nat.le_succ _)⟩⟩
                · have heb : (er == 0) = false := by simpa using he
                  go_wp2_with fail
                  go_meet
                  exact ⟨⟨_, _, _, _, _, _, HSW5.out.mono (Nat.le_succ _)⟩⟩
            · as_aux_lemma =>
                have HC1 := Aside0.mk (HS0.out.writes_x HX0.out)
                unfold ptr at HC1
                have q0 := HQ0.out.c0
                go_wp2_with fail
                refine HC1.out.mono ?_
                rintro e w2 ⟨p, cp, Lw, rfl, hsl, hkk, hb2⟩
                have HS2 := Aside0.mk (HS0.out.new hb2)
                have HD2 := Aside0.mk (HDO.out.below hb2)
                have HC2 := Aside0.mk (own_x HD2.out HNM.out hsl hkk)
                unfold ptr at HC2
                clear hsl hkk hb2 HC1 HS0 HDO q0 HQ0
                go_wp2_with fail
                refine HC2.out.mono ?_
                rintro e w3 ⟨rfl, hb3⟩
                have HS3 := Aside0.mk ((HS2.out.new hb3).new (below_drew w3))
                have HD3 := Aside0.mk ((HD2.out.below hb3).below (below_drew w3))
                have HQ3 := Aside0.mk (HS3.out.q HX0.out)
                have HCN := Aside0.mk (name_calls op tx nm (.slice Ab nb cb) w3.drew HNM.out)
                obtain ⟨own, hown⟩ : ∃ own, own = has x.m (nmOf nm) := ⟨_, rfl⟩
                rw [← hown]
                have HOWN := Aside0.mk hown
                clear hb3 HC2 HS2 HD2 hown
                go_wp2_with fail
                refine start_ (n := 12) (S := (fun w' => w'.cell? ⟨x.q, 0, none⟩ = some (.pointer (some ⟨x.t, 0, none⟩)) ∧ w'.cell? ⟨kb, 0, none⟩ = some (.int .i64 op) ∧ w'.cell? ⟨kb, 1, none⟩ = some (.int .i64 tx) ∧ w'.cell? ⟨kb, 2, none⟩ = some (.string nm) ∧ w'.cell? ⟨kb, 3, none⟩ = some (.slice Ab nb cb))) (ds := []) #[false, false, false, false, false, false, false, false, false, false, false, false] (by kernel_rfl) rfl rfl ⟨HQ3.out.c0, HD3.out.kc⟩ (fun hHeld => ?_)
                refine pure_ (i := 0) (N := some 142) (v := ?_) (a' := ?_) #[true, false, false, false, false, false, false, false, false, false, false, false] rfl rfl (by kernel_rfl) (fun _ _ _ h => h) (Or.inl ⟨by rfl, ?_⟩) ?_ ?_
                rotate_left
                · intro w'
                  go_simp
                  with_reducible rfl
                rotate_left
                · simp only [Act.put, List.setIfInBounds_toArray, List.set_cons_zero, List.set_cons_succ, i64_w, i32_w]
                  rfl
                refine pure_ (i := 1) (N := some 143) (v := ?_) (a' := ?_) #[true, true, false, false, false, false, false, false, false, false, false, false] rfl rfl (by kernel_rfl) (fun _ _ _ h => h) (Or.inl ⟨by rfl, ?_⟩) ?_ ?_
                rotate_left
                · intro w'
                  go_simp
                  with_reducible rfl
                rotate_left
                · simp only [Act.put, List.setIfInBounds_toArray, List.set_cons_zero, List.set_cons_succ, i64_w, i32_w]
                  rfl
                refine pure_ (i := 2) (N := some 144) (v := ?_) (a' := ?_) #[true, true, true, false, false, false, false, false, false, false, false, false] rfl rfl (by kernel_rfl) (fun _ _ _ h => h) (Or.inl ⟨by rfl, ?_⟩) ?_ ?_
                rotate_left
                · intro w'
                  go_simp
                  with_reducible rfl
                rotate_left
                · simp only [Act.put, List.setIfInBounds_toArray, List.set_cons_zero, List.set_cons_succ, i64_w, i32_w]
                  rfl
                refine take_ (i := 3) (N := some 145) (v := ?_) (a' := ?_) #[true, true, true, true, false, false, false, false, false, false, false, false] rfl rfl (by kernel_rfl) (fun _ _ _ h => h) (Or.inl ⟨by rfl, ?_⟩) hHeld ?_ ?_
                rotate_left
                · rintro w' ⟨s0, s1, s2, s3, s4⟩
                  go_simp
                  with_reducible rfl
                rotate_left
                · simp only [Act.put, List.setIfInBounds_toArray, List.set_cons_zero, List.set_cons_succ, i64_w, i32_w]
                  rfl
                refine take_ (i := 4) (N := some 146) (v := ?_) (a' := ?_) #[true, true, true, true, true, false, false, false, false, false, false, false] rfl rfl (by kernel_rfl) (fun _ _ _ h => h) (Or.inl ⟨by rfl, ?_⟩) hHeld ?_ ?_
                rotate_left
                · rintro w' ⟨s0, s1, s2, s3, s4⟩
                  go_simp
                  with_reducible rfl
                rotate_left
                · simp only [Act.put, List.setIfInBounds_toArray, List.set_cons_zero, List.set_cons_succ, i64_w, i32_w]
                  rfl
                refine one_ (i := 5) (N := some 147) #[true, true, true, true, true, true, false, false, false, false, false, false] rfl rfl (by kernel_rfl) (by decide) (fun KK hK => ?_)
                refine goes_ Try.func25 (by kernel_rfl) rfl #[.agg #[.int .i64 op, .int .i64 tx, .string nm, .slice Ab nb cb]] (by rfl) rfl rfl (by simp only [List.map_toArray, List.map_cons, List.map_nil]; rfl) ?_
                refine HCN.out.mono ?_
                rintro e w4 ⟨rfl, hb4⟩
                have HS4 := Aside0.mk (HS3.out.new hb4)
                have HD4 := Aside0.mk (HD3.out.below hb4)
                have HQ4 := Aside0.mk (HS4.out.q HX0.out)
                refine ⟨_, rfl, ?_⟩
                refine hK.out _ _ ⟨HQ4.out.c0, HD4.out.kc⟩ (fun hHeld => ?_)
                clear hK KK
                refine norm_ (a' := ?_) ?_ ?_
                rotate_left
                · show Act.put _ (some 147) _ = _
                  simp only [Act.put, List.setIfInBounds_toArray, List.set_cons_zero, List.set_cons_succ, i64_w, i32_w]
                  rfl
                have HCG := Aside0.mk (HS4.out.get_x HX0.out nm)
                unfold ptr at HCG
                clear hb4 HCN HS3 HD3 HQ3
                refine one_ (i := 6) (N := some 148) #[true, true, true, true, true, true, true, false, false, false, false, false] rfl rfl (by kernel_rfl) (by decide) (fun KK hK => ?_)
                refine goes_ Try.func12 (by kernel_rfl) rfl #[.pointer (some ⟨x.t, 0, none⟩), .string (nmOf nm)] (by rfl) rfl rfl (by simp only [List.map_toArray, List.map_cons, List.map_nil]; rfl) ?_
                refine HCG.out.mono ?_
                rintro e w5 ⟨A6, n6, c6, er, S6, ph6, mr6, Q6, rfl, hx6, hs6, hf6, hok6⟩
                have HS5 := Aside0.mk (hs6.new (below_drew w5))
                have HD5 := Aside0.mk (HD4.out.fq hf6)
                have HQ5 := Aside0.mk (HQ4.out.fq hf6)
                have HX5 := Aside0.mk hx6
                have HOK := Aside0.mk hok6
                refine ⟨_, rfl, ?_⟩
                refine hK.out _ _ ⟨HQ5.out.c0, HD5.out.kc⟩ (fun hHeld => ?_)
                clear hK KK
                refine norm_ (a' := ?_) ?_ ?_
                rotate_left
                · show Act.put _ (some 148) _ = _
                  simp only [Act.put, List.setIfInBounds_toArray, List.set_cons_zero, List.set_cons_succ, i64_w, i32_w]
                  rfl
                have HSW5 := Aside0.mk hs6
                clear hx6 hs6 hf6 hok6 HCG HS4 HD4 HQ4
                refine pure_ (i := 7) (N := some 141) (v := ?_) (a' := ?_) #[true, true, true, true, true, true, true, true, false, false, false, false] rfl rfl (by kernel_rfl) (fun _ _ _ h => h) (Or.inl ⟨by rfl, ?_⟩) ?_ ?_
                rotate_left
                · intro w'
                  go_simp
                  with_reducible rfl
                rotate_left
                · simp only [Act.put, List.setIfInBounds_toArray, List.set_cons_zero, List.set_cons_succ, i64_w, i32_w]
                  rfl
                refine pure_ (i := 8) (N := some 149) (v := ?_) (a' := ?_) #[true, true, true, true, true, true, true, true, true, false, false, false] rfl rfl (by kernel_rfl) (fun _ _ _ h => h) (Or.inl ⟨by rfl, ?_⟩) ?_ ?_
                rotate_left
                · intro w'
                  go_simp
                  with_reducible rfl
                rotate_left
                · simp only [Act.put, List.setIfInBounds_toArray, List.set_cons_zero, List.set_cons_succ, i64_w, i32_w]
                  rfl
                refine pure_ (i := 9) (N := some 150) (v := ?_) (a' := ?_) #[true, true, true, true, true, true, true, true, true, true, false, false] rfl rfl (by kernel_rfl) (fun _ _ _ h => h) (Or.inl ⟨by rfl, ?_⟩) ?_ ?_
                rotate_left
                · intro w'
                  go_simp
                  with_reducible rfl
                rotate_left
                · simp only [Act.put, List.setIfInBounds_toArray, List.set_cons_zero, List.set_cons_succ, i64_w, i32_w]
                  rfl
                refine pure_ (i := 10) (N := some 14) (v := ?_) (a' := ?_) #[true, true, true, true, true, true, true, true, true, true, true, false] rfl rfl (by kernel_rfl) (fun _ _ _ h => h) (Or.inl ⟨by rfl, ?_⟩) ?_ ?_
                rotate_left
                · intro w'
                  go_simp
                  with_reducible rfl
                rotate_left
                · simp only [Act.put, List.setIfInBounds_toArray, List.set_cons_zero, List.set_cons_succ, i64_w, i32_w]
                  rfl
                refine pure_ (i := 11) (N := some 15) (v := ?_) (a' := ?_) #[true, true, true, true, true, true, true, true, true, true, true, true] rfl rfl (by kernel_rfl) (fun _ _ _ h => h) (Or.inl ⟨by rfl, ?_⟩) ?_ ?_
                rotate_left
                · intro w'
                  go_simp
                  with_reducible rfl
                rotate_left
                · simp only [Act.put, List.setIfInBounds_toArray, List.set_cons_zero, List.set_cons_succ, i64_w, i32_w]
                  rfl
                refine done_ (by kernel_rfl) ?_
                by_cases he : er = 0
                · subst he
                  cases own with
                  | true =>
                    go_wp2_with fail
                    go_meet
                    exact ⟨⟨_, _, _, _, _, _, HSW5.out.mono (Nat.le_succ _)⟩⟩
                  | false =>
                    obtain ⟨hr6, hv6, hm6⟩ := HOK.out rfl HOWN.out.symm
                    have hgot : bsS S6 (nmOf nm) = x.bf (nmOf nm) := by
                      obtain ⟨hj6, e6⟩ := HX5.out
                      have h1 := (HSW5.out.log.ser j hj6).got (n := nmOf nm) (by rw [e6]; exact hv6)
                      rw [e6] at h1; exact h1
                    obtain ⟨Ag, ng, cg, hlk, hrg⟩ := HS5.out.began HX5.out (nmOf nm)
                    have HLK := Aside0.mk hlk
                    have HCN := Aside0.mk (name_calls op tx nm (.slice Ab nb cb) w5.drew HNM.out)
                    have HD5d := Aside0.mk (HD5.out.below (below_drew w5))
                    have HQ5d := Aside0.mk (HQ5.out.fq (Fq.drew w5))
                    have HR6 := Aside0.mk (And.intro (show RowAt w5.drew (.slice A6 n6 c6) (bsS S6 (nmOf nm)) from hr6.fr (Fr.drewN (T := []) w5 1)) (show RowAt w5.drew (.slice Ag ng cg) (bsS S6 (nmOf nm)) by rw [hgot]; exact hrg))
                    have HV6 := Aside0.mk (And.intro hv6 hm6)
                    clear hr6 hv6 hm6 hgot hrg hlk
                    go_wp2_with fail
                    refine start_ (n := 10) (S := (fun w' => w'.cell? ⟨x.q, 2, none⟩ = some (.map (some x.gb)) ∧ w'.cell? ⟨kb, 0, none⟩ = some (.int .i64 op) ∧ w'.cell? ⟨kb, 1, none⟩ = some (.int .i64 tx) ∧ w'.cell? ⟨kb, 2, none⟩ = some (.string nm) ∧ w'.cell? ⟨kb, 3, none⟩ = some (.slice Ab nb cb) ∧ (Instr.lookup 47 (.map (some x.gb)) (.string (nmOf nm)) false).run Try.prog w' = .ok (.slice Ag ng cg) w')) (ds := []) #[false, false, false, false, false, false, false, false, false, false] (by kernel_rfl) rfl rfl ⟨HQ5d.out.c2, HD5d.out.c0, HD5d.out.c1, HD5d.out.c2, HD5d.out.c3, HLK.out _ (Fr.refl _ _)⟩ (fun hHeld => ?_)
                    refine pure_ (i := 0) (N := some 157) (v := ?_) (a' := ?_) #[true, false, false, false, false, false, false, false, false, false] rfl rfl (by kernel_rfl) (fun _ _ _ h => h) (Or.inl ⟨by rfl, ?_⟩) ?_ ?_
                    rotate_left
                    · intro w'
                      go_simp
                      with_reducible rfl
                    rotate_left
                    · simp only [Act.put, List.setIfInBounds_toArray, List.set_cons_zero, List.set_cons_succ, i64_w, i32_w]
                      rfl
                    refine pure_ (i := 1) (N := some 158) (v := ?_) (a' := ?_) #[true, true, false, false, false, false, false, false, false, false] rfl rfl (by kernel_rfl) (fun _ _ _ h => h) (Or.inl ⟨by rfl, ?_⟩) ?_ ?_
                    rotate_left
                    · intro w'
                      go_simp
                      with_reducible rfl
                    rotate_left
                    · simp only [Act.put, List.setIfInBounds_toArray, List.set_cons_zero, List.set_cons_succ, i64_w, i32_w]
                      rfl
                    refine pure_ (i := 2) (N := some 159) (v := ?_) (a' := ?_) #[true, true, true, false, false, false, false, false, false, false] rfl rfl (by kernel_rfl) (fun _ _ _ h => h) (Or.inl ⟨by rfl, ?_⟩) ?_ ?_
                    rotate_left
                    · intro w'
                      go_simp
                      with_reducible rfl
                    rotate_left
                    · simp only [Act.put, List.setIfInBounds_toArray, List.set_cons_zero, List.set_cons_succ, i64_w, i32_w]
                      rfl
                    refine pure_ (i := 3) (N := some 160) (v := ?_) (a' := ?_) #[true, true, true, true, false, false, false, false, false, false] rfl rfl (by kernel_rfl) (fun _ _ _ h => h) (Or.inl ⟨by rfl, ?_⟩) ?_ ?_
                    rotate_left
                    · intro w'
                      go_simp
                      with_reducible rfl
                    rotate_left
                    · simp only [Act.put, List.setIfInBounds_toArray, List.set_cons_zero, List.set_cons_succ, i64_w, i32_w]
                      rfl
                    refine take_ (i := 4) (N := some 161) (v := ?_) (a' := ?_) #[true, true, true, true, true, false, false, false, false, false] rfl rfl (by kernel_rfl) (fun _ _ _ h => h) (Or.inl ⟨by rfl, ?_⟩) hHeld ?_ ?_
                    rotate_left
                    · rintro w' ⟨s0, s1, s2, s3, s4, s5⟩
                      go_simp
                      with_reducible rfl
                    rotate_left
                    · simp only [Act.put, List.setIfInBounds_toArray, List.set_cons_zero, List.set_cons_succ, i64_w, i32_w]
                      rfl
                    refine take_ (i := 5) (N := some 162) (v := ?_) (a' := ?_) #[true, true, true, true, true, true, false, false, false, false] rfl rfl (by kernel_rfl) (fun _ _ _ h => h) (Or.inl ⟨by rfl, ?_⟩) hHeld ?_ ?_
                    rotate_left
                    · rintro w' ⟨s0, s1, s2, s3, s4, s5⟩
                      go_simp
                      with_reducible rfl
                    rotate_left
                    · simp only [Act.put, List.setIfInBounds_toArray, List.set_cons_zero, List.set_cons_succ, i64_w, i32_w]
                      rfl
                    refine one_ (i := 6) (N := some 163) #[true, true, true, true, true, true, true, false, false, false] rfl rfl (by kernel_rfl) (by decide) (fun KK hK => ?_)
                    refine goes_ Try.func25 (by kernel_rfl) rfl #[.agg #[.int .i64 op, .int .i64 tx, .string nm, .slice Ab nb cb]] (by rfl) rfl rfl (by simp only [List.map_toArray, List.map_cons, List.map_nil]; rfl) ?_
                    refine HCN.out.mono ?_
                    rintro e w7 ⟨rfl, hb7⟩
                    have HS7 := Aside0.mk (HS5.out.new hb7)
                    have HD7 := Aside0.mk (HD5d.out.below hb7)
                    have HQ7 := Aside0.mk (HQ5d.out.fq (Fq.ofBelow hb7))
                    have HR7 := Aside0.mk (And.intro (HR6.out.1.fr (Fr.ofBelow hb7 [])) (HR6.out.2.fr (Fr.ofBelow hb7 [])))
                    have HB7 := Aside0.mk hb7
                    have HL7 := Aside0.mk (HLK.out w7 (Fr.ofBelow hb7 []))
                    refine ⟨_, rfl, ?_⟩
                    refine hK.out _ _ ⟨HQ7.out.c2, HD7.out.c0, HD7.out.c1, HD7.out.c2, HD7.out.c3, HL7.out⟩ (fun hHeld => ?_)
                    clear hK KK
                    refine norm_ (a' := ?_) ?_ ?_
                    rotate_left
                    · show Act.put _ (some 163) _ = _
                      simp only [Act.put, List.setIfInBounds_toArray, List.set_cons_zero, List.set_cons_succ, i64_w, i32_w]
                      rfl
                    have HCE := Aside0.mk (equal_self HR7.out.1 HR7.out.2)
                    clear hb7 HCN
                    refine take_ (i := 7) (N := some 164) (v := ?_) (a' := ?_) #[true, true, true, true, true, true, true, true, false, false] rfl rfl (by kernel_rfl) (fun _ _ _ h => h) (Or.inl ⟨by rfl, ?_⟩) hHeld ?_ ?_
                    rotate_left
                    · rintro w' ⟨s0, s1, s2, s3, s4, s5⟩
                      go_simp
                      with_reducible rfl
                    rotate_left
                    · simp only [Act.put, List.setIfInBounds_toArray, List.set_cons_zero, List.set_cons_succ, i64_w, i32_w]
                      rfl
                    refine one_ (i := 8) (N := some 165) #[true, true, true, true, true, true, true, true, true, false] rfl rfl (by kernel_rfl) (by decide) (fun KK hK => ?_)
                    refine goes_ Try.func19 (by kernel_rfl) rfl #[.slice A6 n6 c6, .slice Ag ng cg] (by rfl) rfl rfl (by simp only [List.map_toArray, List.map_cons, List.map_nil]; rfl) ?_
                    refine HCE.out.mono ?_
                    rintro e w8 ⟨rfl, hb8⟩
                    have HS8 := Aside0.mk (HS7.out.new hb8)
                    have HD8 := Aside0.mk (HD7.out.below hb8)
                    have HQ8 := Aside0.mk (HQ7.out.fq (Fq.ofBelow hb8))
                    have HR8 := Aside0.mk (HR7.out.1.fr (Fr.ofBelow hb8 []))
                    refine ⟨_, rfl, ?_⟩
                    refine hK.out _ _ ⟨HQ8.out.c2, HD8.out.c0, HD8.out.c1, HD8.out.c2, HD8.out.c3, HLK.out w8 ((Fr.ofBelow HB7.out []).trans (Fr.ofBelow hb8 []))⟩ (fun hHeld => ?_)
                    clear hK KK
                    refine norm_ (a' := ?_) ?_ ?_
                    rotate_left
                    · show Act.put _ (some 165) _ = _
                      simp only [Act.put, List.setIfInBounds_toArray, List.set_cons_zero, List.set_cons_succ, i64_w, i32_w]
                      rfl
                    have HCN := Aside0.mk (name_calls op tx nm (.slice Ab nb cb) w8.drew HNM.out)
                    clear hb8 HCE
                    refine pure_ (i := 9) (N := some 166) (v := ?_) (a' := ?_) #[true, true, true, true, true, true, true, true, true, true] rfl rfl (by kernel_rfl) (fun _ _ _ h => h) (Or.inl ⟨by rfl, ?_⟩) ?_ ?_
                    rotate_left
                    · intro w'
                      go_simp
                      with_reducible rfl
                    rotate_left
                    · simp only [Act.put, List.setIfInBounds_toArray, List.set_cons_zero, List.set_cons_succ, i64_w, i32_w]
                      rfl
                    refine done_ (by kernel_rfl) ?_
                    have HD8d := Aside0.mk (HD8.out.below (below_drew w8))
                    have HQ8d := Aside0.mk (HQ8.out.fq (Fq.drew w8))
                    have HS8d := Aside0.mk (HS8.out.new (below_drew w8))
                    have HR8d := Aside0.mk (HR8.out.fr (Fr.drewN (T := []) w8 1))
                    clear HD8 HQ8 HS8 HR8
                    go_wp2_with fail
                    refine start_ (n := 8) (S := (fun w' => w'.cell? ⟨x.q, 1, none⟩ = some (.map (some x.rb)) ∧ w'.cell? ⟨kb, 0, none⟩ = some (.int .i64 op) ∧ w'.cell? ⟨kb, 1, none⟩ = some (.int .i64 tx) ∧ w'.cell? ⟨kb, 2, none⟩ = some (.string nm) ∧ w'.cell? ⟨kb, 3, none⟩ = some (.slice Ab nb cb))) (ds := [7]) #[false, false, false, false, false, false, false, false] (by kernel_rfl) rfl rfl ⟨HQ8d.out.c1, HD8d.out.kc⟩ (fun hHeld => ?_)
                    refine pure_ (i := 0) (N := some 167) (v := ?_) (a' := ?_) #[true, false, false, false, false, false, false, false] rfl rfl (by kernel_rfl) (fun _ _ _ h => h) (Or.inl ⟨by rfl, ?_⟩) ?_ ?_
                    rotate_left
                    · intro w'
                      go_simp
                      with_reducible rfl
                    rotate_left
                    · simp only [Act.put, List.setIfInBounds_toArray, List.set_cons_zero, List.set_cons_succ, i64_w, i32_w]
                      rfl
                    refine pure_ (i := 1) (N := some 168) (v := ?_) (a' := ?_) #[true, true, false, false, false, false, false, false] rfl rfl (by kernel_rfl) (fun _ _ _ h => h) (Or.inl ⟨by rfl, ?_⟩) ?_ ?_
                    rotate_left
                    · intro w'
                      go_simp
                      with_reducible rfl
                    rotate_left
                    · simp only [Act.put, List.setIfInBounds_toArray, List.set_cons_zero, List.set_cons_succ, i64_w, i32_w]
                      rfl
                    refine pure_ (i := 2) (N := some 169) (v := ?_) (a' := ?_) #[true, true, true, false, false, false, false, false] rfl rfl (by kernel_rfl) (fun _ _ _ h => h) (Or.inl ⟨by rfl, ?_⟩) ?_ ?_
                    rotate_left
                    · intro w'
                      go_simp
                      with_reducible rfl
                    rotate_left
                    · simp only [Act.put, List.setIfInBounds_toArray, List.set_cons_zero, List.set_cons_succ, i64_w, i32_w]
                      rfl
                    refine take_ (i := 3) (N := some 170) (v := ?_) (a' := ?_) #[true, true, true, true, false, false, false, false] rfl rfl (by kernel_rfl) (fun _ _ _ h => h) (Or.inl ⟨by rfl, ?_⟩) hHeld ?_ ?_
                    rotate_left
                    · rintro w' ⟨s0, s1, s2, s3, s4⟩
                      go_simp
                      with_reducible rfl
                    rotate_left
                    · simp only [Act.put, List.setIfInBounds_toArray, List.set_cons_zero, List.set_cons_succ, i64_w, i32_w]
                      rfl
                    refine take_ (i := 4) (N := some 171) (v := ?_) (a' := ?_) #[true, true, true, true, true, false, false, false] rfl rfl (by kernel_rfl) (fun _ _ _ h => h) (Or.inl ⟨by rfl, ?_⟩) hHeld ?_ ?_
                    rotate_left
                    · rintro w' ⟨s0, s1, s2, s3, s4⟩
                      go_simp
                      with_reducible rfl
                    rotate_left
                    · simp only [Act.put, List.setIfInBounds_toArray, List.set_cons_zero, List.set_cons_succ, i64_w, i32_w]
                      rfl
                    refine pure_ (i := 6) (N := some 173) (v := ?_) (a' := ?_) #[true, true, true, true, true, false, true, false] rfl rfl (by kernel_rfl) (fun _ _ _ h => h) (Or.inl ⟨by rfl, ?_⟩) ?_ ?_
                    rotate_left
                    · intro w'
                      go_simp
                      with_reducible rfl
                    rotate_left
                    · simp only [Act.put, List.setIfInBounds_toArray, List.set_cons_zero, List.set_cons_succ, i64_w, i32_w]
                      rfl
                    refine one_ (i := 5) (N := some 172) #[true, true, true, true, true, true, true, false] rfl rfl (by kernel_rfl) (by decide) (fun KK hK => ?_)
                    refine goes_ Try.func25 (by kernel_rfl) rfl #[.agg #[.int .i64 op, .int .i64 tx, .string nm, .slice Ab nb cb]] (by rfl) rfl rfl (by simp only [List.map_toArray, List.map_cons, List.map_nil]; rfl) ?_
                    refine HCN.out.mono ?_
                    rintro e w9 ⟨rfl, hb9⟩
                    have HD9 := Aside0.mk (HD8d.out.below hb9)
                    have HQ9 := Aside0.mk (HQ8d.out.fq (Fq.ofBelow hb9))
                    obtain ⟨w10, hu0, hs10, hf10⟩ := (HS8d.out.new hb9).readput HX5.out (n := nmOf nm) (v := .slice A6 n6 c6) HV6.out.1 HV6.out.2 (HR8d.out.fr (Fr.ofBelow hb9 []))
                    have hu : (Instr.mapUpdate 47 (.map (some x.rb)) (.string (nmOf nm)) (.slice A6 n6 c6)).run Try.prog w9 = .ok () w10 := hu0
                    refine ⟨_, rfl, ?_⟩
                    refine hK.out _ _ ⟨HQ9.out.c1, HD9.out.kc⟩ (fun hHeld => ?_)
                    clear hK KK
                    refine norm_ (a' := ?_) ?_ ?_
                    rotate_left
                    · show Act.put _ (some 172) _ = _
                      simp only [Act.put, List.setIfInBounds_toArray, List.set_cons_zero, List.set_cons_succ, i64_w, i32_w]
                      rfl
                    have HS10 := Aside0.mk hs10
                    clear hb9 HCN hs10 hf10
                    refine last_ (i := 7) (N := none) #[true, true, true, true, true, true, true, true] rfl rfl (by kernel_rfl) (by decide) (fun K hK => ?_)
                    refine skip_ (w1 := ?_) (by rfl) rfl ?_ ?_
                    rotate_left
                    · go_simp
                      rfl
                    refine hK.out _ _ ?_
                    clear hK K
                    refine done_ (by kernel_rfl) ?_
                    go_wp2_with fail
                    go_meet
                    obtain ⟨Q10, h10⟩ := HS10.out
                    exact ⟨⟨_, _, _, _, _, _, h10.mono (Nat.le_succ _)⟩⟩
                · have heb : (er == 0) = false := by simpa using he
                  go_wp2_with fail
                  go_meet
                  exact ⟨⟨_, _, _, _, _, _, HSW5.out.mono (Nat.le_succ _)⟩⟩
            · as_aux_lemma =>
                have HCN := Aside0.mk (name_calls op tx nm (.slice Ab nb cb) W.drew HNM.out)
                have HSd := Aside0.mk (HS0.out.new (below_drew W))
                have HDd := Aside0.mk (HDO.out.below (below_drew W))
                have HQd := Aside0.mk (HQ0.out.fq (Fq.drew W))
                have HRd := Aside0.mk (HRA.out.below (below_drew W) (Nat.le_refl _))
                clear HS0 HDO HQ0 HRA
                go_wp2_with fail
                refine start_ (n := 9) (S := (fun w' => w'.cell? ⟨x.q, 0, none⟩ = some (.pointer (some ⟨x.t, 0, none⟩)) ∧ w'.cell? ⟨kb, 0, none⟩ = some (.int .i64 op) ∧ w'.cell? ⟨kb, 1, none⟩ = some (.int .i64 tx) ∧ w'.cell? ⟨kb, 2, none⟩ = some (.string nm) ∧ w'.cell? ⟨kb, 3, none⟩ = some (.slice Ab nb cb))) (ds := []) #[false, false, false, false, false, false, false, false, false] (by kernel_rfl) rfl rfl ⟨HQd.out.c0, HDd.out.kc⟩ (fun hHeld => ?_)
                refine pure_ (i := 0) (N := some 176) (v := ?_) (a' := ?_) #[true, false, false, false, false, false, false, false, false] rfl rfl (by kernel_rfl) (fun _ _ _ h => h) (Or.inl ⟨by rfl, ?_⟩) ?_ ?_
                rotate_left
                · intro w'
                  go_simp
                  with_reducible rfl
                rotate_left
                · simp only [Act.put, List.setIfInBounds_toArray, List.set_cons_zero, List.set_cons_succ, i64_w, i32_w]
                  rfl
                refine pure_ (i := 1) (N := some 177) (v := ?_) (a' := ?_) #[true, true, false, false, false, false, false, false, false] rfl rfl (by kernel_rfl) (fun _ _ _ h => h) (Or.inl ⟨by rfl, ?_⟩) ?_ ?_
                rotate_left
                · intro w'
                  go_simp
                  with_reducible rfl
                rotate_left
                · simp only [Act.put, List.setIfInBounds_toArray, List.set_cons_zero, List.set_cons_succ, i64_w, i32_w]
                  rfl
                refine pure_ (i := 2) (N := some 178) (v := ?_) (a' := ?_) #[true, true, true, false, false, false, false, false, false] rfl rfl (by kernel_rfl) (fun _ _ _ h => h) (Or.inl ⟨by rfl, ?_⟩) ?_ ?_
                rotate_left
                · intro w'
                  go_simp
                  with_reducible rfl
                rotate_left
                · simp only [Act.put, List.setIfInBounds_toArray, List.set_cons_zero, List.set_cons_succ, i64_w, i32_w]
                  rfl
                refine take_ (i := 3) (N := some 179) (v := ?_) (a' := ?_) #[true, true, true, true, false, false, false, false, false] rfl rfl (by kernel_rfl) (fun _ _ _ h => h) (Or.inl ⟨by rfl, ?_⟩) hHeld ?_ ?_
                rotate_left
                · rintro w' ⟨s0, s1, s2, s3, s4⟩
                  go_simp
                  with_reducible rfl
                rotate_left
                · simp only [Act.put, List.setIfInBounds_toArray, List.set_cons_zero, List.set_cons_succ, i64_w, i32_w]
                  rfl
                refine take_ (i := 4) (N := some 180) (v := ?_) (a' := ?_) #[true, true, true, true, true, false, false, false, false] rfl rfl (by kernel_rfl) (fun _ _ _ h => h) (Or.inl ⟨by rfl, ?_⟩) hHeld ?_ ?_
                rotate_left
                · rintro w' ⟨s0, s1, s2, s3, s4⟩
                  go_simp
                  with_reducible rfl
                rotate_left
                · simp only [Act.put, List.setIfInBounds_toArray, List.set_cons_zero, List.set_cons_succ, i64_w, i32_w]
                  rfl
                refine pure_ (i := 6) (N := some 182) (v := ?_) (a' := ?_) #[true, true, true, true, true, false, true, false, false] rfl rfl (by kernel_rfl) (fun _ _ _ h => h) (Or.inl ⟨by rfl, ?_⟩) ?_ ?_
                rotate_left
                · intro w'
                  go_simp
                  with_reducible rfl
                rotate_left
                · simp only [Act.put, List.setIfInBounds_toArray, List.set_cons_zero, List.set_cons_succ, i64_w, i32_w]
                  rfl
                refine take_ (i := 7) (N := some 183) (v := ?_) (a' := ?_) #[true, true, true, true, true, false, true, true, false] rfl rfl (by kernel_rfl) (fun _ _ _ h => h) (Or.inl ⟨by rfl, ?_⟩) hHeld ?_ ?_
                rotate_left
                · rintro w' ⟨s0, s1, s2, s3, s4⟩
                  go_simp
                  with_reducible rfl
                rotate_left
                · simp only [Act.put, List.setIfInBounds_toArray, List.set_cons_zero, List.set_cons_succ, i64_w, i32_w]
                  rfl
                refine one_ (i := 5) (N := some 181) #[true, true, true, true, true, true, true, true, false] rfl rfl (by kernel_rfl) (by decide) (fun KK hK => ?_)
                refine goes_ Try.func25 (by kernel_rfl) rfl #[.agg #[.int .i64 op, .int .i64 tx, .string nm, .slice Ab nb cb]] (by rfl) rfl rfl (by simp only [List.map_toArray, List.map_cons, List.map_nil]; rfl) ?_
                refine HCN.out.mono ?_
                rintro e w4 ⟨rfl, hb4⟩
                have HS4 := Aside0.mk (HSd.out.new hb4)
                have HD4 := Aside0.mk (HDd.out.below hb4)
                have HQ4 := Aside0.mk (HS4.out.q HX0.out)
                have HR4 := Aside0.mk (HRd.out.below hb4 (Nat.le_refl _))
                refine ⟨_, rfl, ?_⟩
                refine hK.out _ _ ⟨HQ4.out.c0, HD4.out.kc⟩ (fun hHeld => ?_)
                clear hK KK
                refine norm_ (a' := ?_) ?_ ?_
                rotate_left
                · show Act.put _ (some 181) _ = _
                  simp only [Act.put, List.setIfInBounds_toArray, List.set_cons_zero, List.set_cons_succ, i64_w, i32_w]
                  rfl
                have HCP := Aside0.mk (HS4.out.put_x HX0.out nm HR4.out)
                unfold ptr at HCP
                clear hb4 HCN HSd HDd HQd HRd HR4
                refine one_ (i := 8) (N := some 184) #[true, true, true, true, true, true, true, true, true] rfl rfl (by kernel_rfl) (by decide) (fun KK hK => ?_)
                refine goes_ Try.func10 (by kernel_rfl) rfl #[.pointer (some ⟨x.t, 0, none⟩), .string (nmOf nm), .slice Ab nb cb] (by rfl) rfl rfl (by simp only [List.map_toArray, List.map_cons, List.map_nil]; rfl) ?_
                refine HCP.out.mono ?_
                rintro e w5 ⟨er, S5, Q5, rfl, hs5, hf5⟩
                have HS5 := Aside0.mk hs5
                have HD5 := Aside0.mk (HD4.out.fq hf5)
                have HQ5 := Aside0.mk (HQ4.out.fq hf5)
                refine ⟨_, rfl, ?_⟩
                refine hK.out _ _ ⟨HQ5.out.c0, HD5.out.kc⟩ (fun hHeld => ?_)
                clear hK KK
                refine norm_ (a' := ?_) ?_ ?_
                rotate_left
                · show Act.put _ (some 184) _ = _
                  simp only [Act.put, List.setIfInBounds_toArray, List.set_cons_zero, List.set_cons_succ, i64_w, i32_w]
                  rfl
                clear hs5 hf5 HCP HS4 HD4 HQ4
                refine done_ (by kernel_rfl) ?_
                go_wp2_with fail
                go_meet
                exact ⟨⟨_, _, _, _, _, _, HS5.out.mono (Nat.le_succ _)⟩⟩
            · as_aux_lemma =>
                have HCL := Aside0.mk (HS0.out.lock_x HX0.out)
                unfold ptr at HCL
                have q0 := HQ0.out.c0
                clear HDO HRA
                go_wp2_with fail
                refine HCL.out.mono ?_
                rintro e w5 ⟨er, S5, ph5, Q5, rfl, hx5, hs5, hf5, hok5⟩
                have q5 := (HQ0.out.fq hf5).c0
                have HS5 := Aside0.mk hs5
                have HOK := Aside0.mk hok5
                have HX5 := Aside0.mk hx5
                clear hx5 hs5 hf5 hok5 HCL q0 HS0
                by_cases he : er = 0
                · subst he
                  obtain rfl := HOK.out rfl
                  have HCP : Aside0 (Calls Try.prog 13 #[.pointer (some ⟨x.t, 0, none⟩)] w5 fun e w' => e = .returned (.int .i64 1) ∧ w' = w5) := ⟨HS5.out.phase_x HX5.out⟩
                  go_wp2_with fail
                  refine HCP.out.mono ?_
                  rintro e w6 ⟨rfl, rfl⟩
                  go_wp2_with fail
                  go_meet
                  exact ⟨⟨_, _, _, _, _, _, HS5.out.mono (Nat.le_succ _)⟩⟩
                · have heb : (er == 0) = false := by simpa using he
                  go_wp2_with fail
                  go_meet
                  exact ⟨⟨_, _, _, _, _, _, HS5.out.mono (Nat.le_succ _)⟩⟩
            · as_aux_lemma =>
                have hi120 : i ≤ 120 := HI.out.2.2
                have HCP := Aside0.mk (HS0.out.phase_x HX0.out)
                unfold ptr at HCP
                have q0 := HQ0.out.c0
                clear HDO HRA
                go_wp2_with fail
                refine HCP.out.mono ?_
                rintro e w1' ⟨rfl, rfl⟩
                by_cases hp : x.phase = 1
                · have hpb : (x.phase == 1) = true := by simpa using hp
                  have HCC := Aside0.mk (HS0.out.check_x HX0.out hp)
                  unfold ptr at HCC
                  clear hp
                  go_wp2_with fail
                  refine HCC.out.mono ?_
                  rintro e w5 ⟨er, S5, Q5, rfl, hs5⟩
                  have HS5 := Aside0.mk hs5
                  clear hs5 HCC HS0 q0
                  go_wp2_with fail
                  go_roundg (L.length - (i + 1))
                  case measure => have := HI.out; omega
                  case rel => exact ⟨i + 1, by go_num, ⟨by have := HI.out; omega⟩, ⟨_, _, _, _, _, _, HS5.out.mono (Nat.le_succ _)⟩⟩

                · have hpb : (x.phase == 1) = false := by simpa using hp
                  have HCW := Aside0.mk (HS0.out.writes_x HX0.out)
                  unfold ptr at HCW
                  clear hp
                  go_wp2_with fail
                  refine HCW.out.mono ?_
                  rintro e w2 ⟨p, cp, Lw, rfl, hsl, hkk, hb2⟩
                  have HS2 := Aside0.mk (HS0.out.new hb2)
                  have HQ2 := Aside0.mk (HS2.out.q HX0.out)
                  have HSL := Aside0.mk (And.intro hsl hkk)
                  have HCB := Aside0.mk (HS2.out.publish_x (by have := HI.out; omega) HX0.out)
                  unfold ptr at HCB
                  have q2 := HQ2.out.c0
                  clear hsl hkk hb2 q0 HCW
                  go_wp2_with fail
                  refine HCB.out.mono ?_
                  rintro e w3 ⟨er, rfl, ⟨h0, S3, Q3, hs3⟩ | ⟨rfl, clock3, S3, Q3, hx3, hm3, hl3, hf3, hser, hbs⟩⟩
                  · have heb : (er != 0) = true := by simpa using h0
                    have HS3 := Aside0.mk hs3
                    clear hs3 h0 HCB q2
                    go_wp2_with fail
                    go_roundg (L.length - (i + 1))
                    case measure => have := HI.out; omega
                    case rel => exact ⟨i + 1, by go_num, ⟨by have := HI.out; omega⟩, ⟨_, _, _, _, _, _, HS3.out.mono (Nat.le_succ _)⟩⟩

                  · have HM3 := Aside0.mk hm3
                    have HL3 := Aside0.mk hl3
                    have HX3 := Aside0.mk hx3
                    have HB3 := Aside0.mk hbs
                    have HSE := Aside0.mk hser
                    have HSL3 := Aside0.mk (And.intro (HSL.out.1.fq hf3) HSL.out.2)
                    have q3 := (HQ2.out.fq hf3).c1
                    obtain ⟨es, cc, hes, hst, hen⟩ := hm3.reads_open hx3
                    have hrg := map_range (P := Try.prog) Try.underlying47 hes
                    have HES := Aside0.mk hes
                    have HST := Aside0.mk hst
                    have HEN := Aside0.mk hen
                    have HMD := Aside0.mk HS2.out.mod
                    clear hm3 hl3 hx3 hbs hser hf3 HCB q2 hes hst hen HS0 HSL HQ2
                    go_wp2_with fail
                    clear hrg q3
                    obtain ⟨r, hr⟩ : ∃ r, r = w3.heap.size := ⟨_, rfl⟩
                    have HRE := Aside0.mk hr
                    have HW3 := Aside0.mk (show IterAt (w3.alloc (.mapIter (some x.rb) cc #[] cc)) r x.rb cc #[] from by rw [hr]; exact heap_alloc_new _ _)
                    have HBX := Aside0.mk ((Below.refl _ w3).alloc (Nat.le_refl _) (.mapIter (some x.rb) cc #[] cc))
                    rw [← hr]
                    clear hr
                    go_loopw [] (fun wr => ∃ seen, Aside0 (IterAt wr r x.rb cc seen) ∧ Aside0 (Below w3.heap.size w3 wr)) (fun wr => left es (seenAt wr r))
                    case atStart => exact ⟨#[], HW3, HBX⟩
                    case round =>
                      clear HW3 HBX
                      obtain ⟨seen, hit, hbl⟩ := hrel
                      have hmp : wr.heap[x.rb]? = some (.map es cc) := (hbl.out.block _ (Array.getElem?_eq_some_iff.1 HES.out).1).trans HES.out
                      rcases next_at (P := Try.prog) hit.out hmp HST.out 0 with ⟨hall, hrun⟩ | ⟨e, he, hnew, w4, hrun, hit4, hbut⟩
                      · have hnx : ∀ ty, (Instr.next (.pointer (some ⟨r, 0, none⟩)) false ty).run Try.prog wr = .ok (.tuple #[.bool false]) wr := fun _ => hrun
                        clear hall hrun hmp
                        have HMP := Aside0.mk (ModP.start (HM3.out.new hbl.out) x.wb)
                        have hLw : Lw.length ≤ 1000000000 := HSL3.out.1.1
                        have HSW := Aside0.mk (And.intro (HSL3.out.1.fq (Fq.ofBelow hbl.out)) HSL3.out.2)
                        clear HM3 HSL3 hit hbl HST HEN HES
                        go_wp2_with fail
                        clear hnx
                        obtain ⟨wx, rfl⟩ : ∃ wx, wx = wr := ⟨_, rfl⟩
                        go_loopw [121] (fun v121 wr => ∃ k : Nat, v121 = .int .i64 k ∧ Aside0 (k ≤ Lw.length) ∧ Aside0 (ModP w wr s bm w1.heap.size (w1.heap.size + 1) (.slice (some ⟨g5, 0, none⟩) n c5) clock3 S3 Q3 Lm (has Mm) mv x.wb (Lw.take k)) ∧ Aside0 (SlotsAt wr (.slice p Lw.length cp) Lw)) (fun v121 wr => Lw.length - (intOf v121).toNat)
                        case atStart => exact ⟨0, rfl, ⟨Nat.zero_le _⟩, HMP, ⟨HSW.out.1⟩⟩
                        case round =>
                          clear HMP
                          obtain ⟨k, rfl, hk, hmp, hsw⟩ := hrel
                          by_cases hlk : k < Lw.length
                          · have hlk' : ((k : Int) < (Lw.length : Int)) := by omega
                            have hlkb : decide ((k : Int) < (Lw.length : Int)) = true := decide_eq_true hlk'
                            obtain ⟨ad2, hA2, y0, y1, y2, hrow⟩ := hsw.out.at_ hlk
                            cases hA2
                            have hbs := listW_at HSW.out.2 hlk
                            rw [hbs] at hrow
                            have HTK := Aside0.mk (take_snoc Lw hlk)
                            obtain ⟨yy, hyy⟩ : ∃ yy, yy = Lw[k]'hlk := ⟨_, rfl⟩
                            rw [← hyy] at y0 y1 y2 hrow HTK
                            clear hyy hbs
                            obtain ⟨A8, n8, c8, hv8⟩ := hrow.form
                            rw [hv8] at y2
                            have hbA : Below wr.heap.size wr (wr.alloc (.cells #[.string yy.name, .int .i64 yy.ver, .slice A8 n8 c8] 28)) := (Below.refl _ wr).alloc (Nat.le_refl _) _
                            obtain ⟨w5, hu0, hm5, hf5⟩ := (hmp.out.new hbA).step (y := yy) (hrow.fr (Fr.ofBelow hbA []))
                            rw [hv8] at hu0
                            have HM5 := Aside0.mk hm5
                            have HS5 := Aside0.mk ((hsw.out.fq (Fq.ofBelow hbA)).fq hf5)
                            clear hrow hv8 hbA hm5 hf5 hmp hsw
                            go_wp2_with fail
                            go_roundw
                            case rel => exact ⟨k + 1, by go_num, ⟨hlk⟩, ⟨by rw [HTK.out]; exact HM5.out⟩, HS5⟩
                            case measure => simp [intOf]; omega
                          · have hlkb : decide ((k : Int) < (Lw.length : Int)) = false := decide_eq_false (by omega)
                            go_wp2_with fail
                            go_meet
                            have hke : Lw.take k = Lw := List.take_of_length_le (by omega)
                            have hmp' := hmp.out
                            rw [hke] at hmp'
                            obtain ⟨Mm', mv', h⟩ := hmp'.done HMD.out HSW.out.2 HB3.out HL3.out
                            exact ⟨⟨_, _, _, _, _, _, h⟩⟩
                      · obtain ⟨nn, Ae, ke, ce, hek, hev, hrow, hR⟩ := HEN.out e he
                        have hb4 : Below w3.heap.size w3 w4 := hbl.out.trans ⟨hbut.os, hbut.tape, hbut.output, Nat.le_of_eq hbut.size.symm, fun k hk => hbut.block k (by have := HRE.out; omega)⟩
                        have hen := entry_at (P := Try.prog) hit4 ((hb4.block _ (Array.getElem?_eq_some_iff.1 HES.out).1).trans HES.out) HST.out he
                        rw [hek, hev] at hen hrun
                        obtain ⟨Ag, ng, cg, hlk, hrg⟩ := (HM3.out.new hb4).model nn
                        have hlk4 := hlk w4 (Fr.refl _ _)
                        rw [HMD.out.look nn, HSE.out nn _ hR] at hrg
                        have HCE := Aside0.mk (equal_self hrg (hrow.fr (Fr.ofBelow hb4 [])))
                        have HE := Aside0.mk (And.intro he hnew)
                        have HB4 := Aside0.mk hb4
                        have HI4 := Aside0.mk hit4
                        have HI3 := Aside0.mk hit.out
                        clear hek hev hrow hR hb4 hlk hrg he hnew hit hit4 hmp hbl hbut
                        go_wp2_with fail
                        refine HCE.out.mono ?_
                        rintro e5 w5 ⟨rfl, hb5⟩
                        have HB5 := Aside0.mk (HB4.out.trans (Below.mono hb5 HB4.out.size))
                        have HI5 := Aside0.mk ((hb5.block _ (Array.getElem?_eq_some_iff.1 HI4.out).1).trans HI4.out)
                        clear hb5 HCE hlk4 hen hrun
                        go_wp2_with fail
                        go_roundw
                        case rel => exact ⟨seen.push e.born, HI5, HB5⟩
                        case measure =>
                          rw [seenAt_of HI5.out, seenAt_of HI3.out]
                          exact left_less _ _ _ HE.out.1 HE.out.2
          case rest =>
            have HI := Aside0.mk (show i < L.length ∧ i + gk = L.length ∧ i ≤ 120 from ⟨hlt, hi.out, by omega⟩)
            as_aux_lemma =>
              clear HM HMA HDO HRA HL HMod HRD HX0 hnm hop htx hlt hlt' hltb hbig hbb ho6 hn0 hnp hnb hwn hu1 hu2 hz1 hz2 hj hjn hy hy0 hy6 hu' hz'
              obtain ⟨clock9, S9, Q9, Mm9, Lm9, mv9, hs9⟩ := hcut.out
              have HCS := Aside0.mk hs9.slots_x
              have HS9 := Aside0.mk hs9
              unfold ptr at HCS
              clear hs9 hcut
              go_wp2_with fail
              refine HCS.out.mono ?_
              rintro e w2 ⟨p, cp, Ls, rfl, hsl, hkk, hb2⟩
              have HS2 := Aside0.mk (HS9.out.new hb2)
              have HSL := Aside0.mk hsl
              have HKK := Aside0.mk hkk
              have hLs : Ls.length ≤ 1000000000 := HSL.out.1
              clear hsl hkk hb2 HCS HS9
              go_wp2_with fail
              go_loopw [204] (fun v204 wr => ∃ (k : Nat) (Lm : List (ByteArray × Value)), v204 = .int .i64 k ∧ Aside0 (k ≤ Ls.length) ∧ Aside0 (Ser w wr s bm w1.heap.size (w1.heap.size + 1) (.slice (some ⟨g5, 0, none⟩) n c5) (i + 1) clock9 S9 Q9 Mm9 Lm mv9) ∧ Aside0 (SlotsAt wr (.slice p Ls.length cp) Ls)) (fun v204 wr => Ls.length - (intOf v204).toNat)
              case atStart => exact ⟨0, _, rfl, ⟨Nat.zero_le _⟩, HS2, HSL⟩
              case round =>
                clear HS2 HSL
                obtain ⟨k, Lm9, rfl, hk, HS, HSL⟩ := hrel
                by_cases hlk : k < Ls.length
                · have hlk' : ((k : Int) < (Ls.length : Int)) := by omega
                  have hlkb : decide ((k : Int) < (Ls.length : Int)) = true := decide_eq_true hlk'
                  obtain ⟨ad2, hA2, y0, y1, y2, hrow⟩ := HSL.out.at_ hlk
                  cases hA2
                  obtain ⟨hver, hbs⟩ := listS_at HKK.out hlk
                  rw [hbs] at hrow
                  obtain ⟨yy, hyy⟩ : ∃ yy, yy = Ls[k]'hlk := ⟨_, rfl⟩
                  rw [← hyy] at y0 y1 y2 hrow hver
                  obtain ⟨nm9, hnm9⟩ : ∃ nm9, nm9 = yy.name := ⟨_, rfl⟩
                  obtain ⟨vr9, hvr9⟩ : ∃ vr9, vr9 = yy.ver := ⟨_, rfl⟩
                  rw [← hnm9] at y0 hrow hver
                  rw [← hvr9] at y1 hver
                  obtain ⟨A8, n8, c8, hv8⟩ := hrow.form
                  rw [hv8] at y2 hrow
                  have hbA : Below wr.heap.size wr (wr.alloc (.cells #[.string nm9, .int .i64 vr9, .slice A8 n8 c8] 28)) := (Below.refl _ wr).alloc (Nat.le_refl _) _
                  have hSA := HS.out.new hbA
                  obtain ⟨zl, hl1, hzl⟩ := hSA.lastAt nm9
                  have hl1 := hl1 _ (Fr.refl _ _)
                  obtain ⟨Ag, ng, cg, hlm, hrg⟩ := hSA.mem.model nm9
                  have hlm := hlm _ (Fr.refl _ _)
                  rw [hSA.mod.look nm9] at hrg
                  have hcmp : decide (vr9 < zl) = false := decide_eq_false (by rw [hver]; omega)
                  have HCE := Aside0.mk (equal_self (hrow.fr (Fr.ofBelow hbA [])) hrg)
                  have HSA := Aside0.mk hSA
                  have HLA := Aside0.mk (HSL.out.fq (Fq.ofBelow hbA))
                  have HNB := Aside0.mk (blk_new wr (.cells #[.string nm9, .int .i64 vr9, .slice A8 n8 c8] 28))
                  have HV := Aside0.mk hver
                  clear hyy hnm9 hvr9 hrow hv8 hbs hbA hSA hzl hrg hver HS HSL
                  go_wp2_with fail
                  refine HCE.out.mono ?_
                  rintro e w6 ⟨rfl, hb6⟩
                  have hn6 := (hb6.block _ (blk_lt HNB.out)).trans HNB.out
                  have k0 : w6.cell? ⟨wr.heap.size, 0, none⟩ = some (.string nm9) := (blk_cell hn6 0).trans rfl
                  have k1 : w6.cell? ⟨wr.heap.size, 1, none⟩ = some (.int .i64 vr9) := (blk_cell hn6 1).trans rfl
                  obtain ⟨w7, hu, hs7, hf7⟩ := (HSA.out.new hb6).lastput (n := nm9) (z := vr9) (by rw [HV.out]; exact Int.le_refl _)
                  obtain ⟨Lm7, hs7⟩ := hs7
                  have HS7 := Aside0.mk hs7
                  have HL7 := Aside0.mk ((HLA.out.fq (Fq.ofBelow hb6)).fq hf7)
                  clear hb6 hn6 hs7 hf7 HCE HSA HLA HNB hl1 hlm y0 y1 y2
                  go_wp2_with fail
                  go_roundw
                  case rel => exact ⟨k + 1, Lm7, by go_num, ⟨hlk⟩, HS7, HL7⟩
                  case measure => simp [intOf]; omega
                · have hlkb : decide ((k : Int) < (Ls.length : Int)) = false := decide_eq_false (by omega)
                  have hi120 : i ≤ 120 := HI.out.2.2
                  go_wp2_with fail
                  go_roundg (L.length - (i + 1))
                  case measure => have := HI.out; omega
                  case rel => exact ⟨i + 1, by go_num, ⟨by have := HI.out; omega⟩, ⟨_, _, _, _, _, _, HS.out⟩⟩
    · have hltb : decide ((i : Int) < (L.length : Int)) = false := decide_eq_false (by omega)
      go_wp2_with fail
      go_returns
      exact ⟨rfl, hM.st.bel⟩
end Go.Proofs.Ytkjliijcnllohaa.S
