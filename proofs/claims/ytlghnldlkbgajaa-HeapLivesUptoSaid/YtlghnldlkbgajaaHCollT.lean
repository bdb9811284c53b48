
/- heap: a whole collection, walked. -/
import Derived.Test.YtlghnldlkbgajaaHColl0
namespace Go.Proofs.Ytlghnldlkbgajaa.S
open Go.RowKit Go.Proofs.YtlghnldlkbgajaaW.PrintWords Go.Proofs.YtlghnldlkbgajaaW.PrintLast Go.Proofs.YtlghnldlkbgajaaW.PrintMore
set_option linter.unusedVariables false
set_option linter.unusedSimpArgs false

set_option maxRecDepth 100000 in
set_option maxHeartbeats 4000000 in
theorem collect_true {w : World} {g b B : Nat} {R : Option Addr} {rc : Nat} {L : List OW} {h : HH} (H : HW w g b B R rc L h) (hbd : Bds L h) :
    Calls Try.prog 37 #[.pointer (some ⟨g, 0, none⟩), .bool true] w fun e w' => e = .returned (.tuple #[]) ∧ ∃ kb, HW w' g kb B R rc (collL L h true) (collHH L h true) ∧ w.heap.size ≤ kb ∧ FrP (Foot g b R L) w w' := by
  have hmm := @run_makeMap Try.prog
  have hp := H.apart
  -- the mover
  obtain ⟨wB, hwB⟩ : ∃ wB, wB = (w.alloc (.map #[] 0)).alloc (.cells #[.pointer (some ⟨g, 0, none⟩), .map (some w.heap.size), .slice none 0 0, .bool true] 99) := ⟨_, rfl⟩
  have hb0 : Below w.heap.size w wB := by rw [hwB]; exact ((Below.refl _ _).alloc (Nat.le_refl _) _).alloc (by simp) _
  have hs0 : wB.heap.size = w.heap.size + 2 := by rw [hwB]; simp
  have hmv : wB.heap[w.heap.size + 1]? = some (.cells #[.pointer (some ⟨g, 0, none⟩), .map (some w.heap.size), .slice none 0 0, .bool true] 99 (0, 0)) := by
    rw [hwB, show w.heap.size + 1 = (w.alloc (.map #[] 0)).heap.size from by simp]
    exact heap_alloc_new _ _
  have htb : MapIs wB w.heap.size [] := by rw [hwB]; exact (MapIs.new w).fr (Fr.alloc [] _ _) (by simp)
  have hne : w.heap.size ≠ b := fun e => by have := H.foot_lt (k := b) (.inr (.inl rfl)); omega
  have hlt : ∀ k, Foot g b R L k → k < w.heap.size := fun k hk => H.foot_lt hk
  have hms := MS.start (all := true) (H.new hb0) hmv htb hne
  have HM0 := Aside0.mk (show MS wB wB g b B R rc L (h.at (⟨h.nx, [], []⟩ : Mv).nx) (w.heap.size + 1) w.heap.size true (⟨h.nx, [], []⟩ : Mv).tt (⟨h.nx, [], []⟩ : Mv).q from hms)
  have HF0 := Aside0.mk (FrP.new hb0 (Foot g b R L))
  have HQ0 := Aside0.mk (show QOk L ⟨h.nx, [], []⟩ from ⟨rfl, by simp, by simp⟩)
  have HK0 := Aside0.mk (MvOk.nil h.nx)
  obtain ⟨s1, hs1⟩ : ∃ s1 : Mv, s1 = ⟨h.nx, [], []⟩ := ⟨_, rfl⟩
  rw [← hs1] at HM0 HQ0 HK0
  have hs1d := hs1
  have HN0 := Aside0.mk (show s1.nx + 2 * (L.length - s1.q.length) ≤ 1000000000000 by rw [hs1]; have := hbd.nx.2.2; simpa using this)
  have HS0 := Aside0.mk (And.intro hs0 (And.intro hlt hp))
  have HSD := Aside0.mk hs1d
  have HBD := Aside0.mk hbd
  have c2 := (H.new hb0).c2
  rw [hwB] at c2
  clear hms hb0 hs0 hmv htb hne hlt hs1 hs1d H hbd hp
  obtain ⟨w0, hw0⟩ : ∃ w0, w0 = wB := ⟨_, rfl⟩
  rw [← hw0] at HM0 HF0
  have HW0 := Aside0.mk (show w.heap.size + 2 ≤ w0.heap.size by rw [hw0, HS0.out.1]; exact Nat.le_refl _)
  go_enter Try.func37, Try.ntmps37
  go_wp2_with fail
  rw [← hwB, ← hw0]
  clear hwB hw0 c2 hmm
  -- the roots
  go_loopw [57] (fun v wr => ∃ j : Nat, v = .int .i64 j ∧ Aside0 (j ≤ h.roots.length) ∧ Aside0 (MS w0 wr g b B R rc L (h.at (mvAll L s1 (h.roots.take j)).nx) (w.heap.size + 1) w.heap.size true (mvAll L s1 (h.roots.take j)).tt (mvAll L s1 (h.roots.take j)).q) ∧ Aside0 (QOk L (mvAll L s1 (h.roots.take j))) ∧ Aside0 ((mvAll L s1 (h.roots.take j)).nx + 2 * (L.length - (mvAll L s1 (h.roots.take j)).q.length) ≤ 1000000000000)) (fun v wr => h.roots.length - (intOf v).toNat)
  case atStart => exact ⟨0, rfl, ⟨Nat.zero_le _⟩, HM0, HQ0, HN0⟩
  case round =>
    clear HM0 HQ0 HN0
    obtain ⟨j, rfl, hj, HM, HQ, HN⟩ := hrel
    have hL := HBD.out.len
    have hrl := HBD.out.roots
    by_cases hlt : j < h.roots.length
    · have hjb : decide ((j : Int) < (h.roots.length : Int)) = true := decide_eq_true (by omega)
      have hjl : (j : Int) < (h.roots.length : Int) := by omega
      obtain ⟨rb, hR, fc0, -⟩ := HM.out.hw.rootAt (i := j) hlt
      obtain ⟨f, hfx⟩ : ∃ f, f = h.roots.getD j 0 := ⟨_, rfl⟩
      have fc : wr.cell? ⟨rb, j, none⟩ = some (.int .i64 f) := by rw [hfx]; exact fc0
      clear fc0
      have hq2 := HQ.out.len
      have hn2 := HN.out
      have hnx2 : (mvAll L s1 (h.roots.take j)).nx ≤ 1000000000000000 := by omega
      have hql2 : (mvAll L s1 (h.roots.take j)).q.length ≤ 1000000000000 := by omega
      have hnext : mvAll L s1 (h.roots.take (j + 1)) = (mvF L (mvAll L s1 (h.roots.take j)) f).2 := by rw [take_step _ hlt, mvAll_snoc, hfx]
      have hq3 := HQ.out.move f
      have hn3 := mvF_nx L (mvAll L s1 (h.roots.take j)) f
      have HNE := Aside0.mk hnext
      have HQ3 := Aside0.mk hq3
      have HN3 := Aside0.mk (show (mvF L (mvAll L s1 (h.roots.take j)) f).2.nx + 2 * (L.length - (mvF L (mvAll L s1 (h.roots.take j)) f).2.q.length) ≤ 1000000000000 by rw [hn3]; omega)
      subst hR
      clear hq2 hn2 hq3 hn3 hnext hfx
      go_wp2_with fail
      refine (move_calls HM.out _ hnx2 hql2).mono ?_
      rintro e w5 ⟨rfl, hms⟩
      have HM5 := Aside0.mk hms
      clear hms
      rw [← HNE.out] at HM5 HQ3 HN3
      go_wp2_with fail
      go_roundw
      case rel => exact ⟨j + 1, by go_num, ⟨hlt⟩, HM5, HQ3, HN3⟩
      case measure => simp [intOf]; omega
    · have hjb : decide ((j : Int) < (h.roots.length : Int)) = false := decide_eq_false (by omega)
      have hjl : ¬ (j : Int) < (h.roots.length : Int) := by omega
      have hj' := hj.out
      obtain rfl : j = h.roots.length := by omega
      rw [List.take_length] at HM HQ HN
      go_wp2_with fail
      refine (run_calls HM.out HQ.out hL HN.out HBD.out.fs).mono ?_
      rintro e w6 ⟨rfl, hms, hqok⟩
      have HK := Aside0.mk (MvOk.run (all := true) (L := L) (L.length + 1) 0 (HK0.out.all (L := L) h.roots))
      obtain ⟨s, hs⟩ : ∃ s, s = collMv L h true := ⟨_, rfl⟩
      have hrun : runF L true (L.length + 1) 0 (mvAll L s1 h.roots) = s := by rw [hs]; unfold collMv; rw [HSD.out]; rfl
      rw [hrun] at hms hqok HK
      have HM6 := Aside0.mk hms
      have HQ6 := Aside0.mk hqok
      have HS6 := Aside0.mk hs
      clear hms hqok hs hrun HM HQ HN
      have hmm := @run_makeMap Try.prog
      have hbA : Below w6.heap.size w6 (w6.alloc (.map #[] 0)) := (Below.refl _ _).alloc (Nat.le_refl _) _
      have hwA := HM6.out.hw.new hbA
      have c5 := hwA.c5
      have c6 := hwA.c6
      have f5 := hwA.fz 5
      have f6 := hwA.fz 6
      obtain ⟨w7, hw7⟩ : ∃ w7, w7 = ((w6.alloc (.map #[] 0)).setCell ⟨g, 5, none⟩ (.int .i64 0)).setCell ⟨g, 6, none⟩ (.int .i64 0) := ⟨_, rfl⟩
      have hwB := hwA.turned (h' := { h.at s.nx with has0 := 0 }) (Fr.set _ g 5 _) (blk_put hwA.hp 5 _ rfl) rfl (Int.le_refl _)
      have hwC := hwB.turned (h' := { h.at s.nx with has0 := 0, has1 := 0 }) (Fr.set _ g 6 _) (blk_put hwB.hp 6 _ rfl) rfl (Int.le_refl _)
      rw [← hw7] at hwC
      have frA : FrP (fun k => k = g ∨ w6.heap.size ≤ k) w6 w7 := by
        rw [hw7]
        exact (((FrP.ofBelow hbA).mono (fun k _ hk => .inr hk)).trans ((FrP.ofFr (Fr.set _ g 5 _)).mono (fun k _ hk => .inl (by simpa using hk)))).trans ((FrP.ofFr (Fr.set _ g 6 _)).mono (fun k _ hk => .inl (by simpa using hk)))
      have hkm : MapIs w7 w6.heap.size [] := by
        have hg : g < w6.heap.size := blk_lt HM6.out.hw.hp
        rw [hw7]
        exact ((MapIs.new w6).fr (Fr.set _ g 5 _) (by simp; omega)).fr (Fr.set _ g 6 _) (by simp; omega)
      obtain ⟨Q, qc, hcs⟩ : ∃ Q qc, CS (Foot g b R L) w w7 g b B R rc L { h.at s.nx with has0 := 0, has1 := 0 } (w.heap.size + 1) w.heap.size w6.heap.size true Q qc s.tt s.q [] :=
        CS.start HM6.out ⟨Nat.le_succ _, Nat.le_refl _⟩ (by have := HW0.out; omega) HS0.out.2.1 HF0.out hwC frA hkm
      have m2 := hcs.queue
      rw [hw7] at m2
      have HC7 := Aside0.mk hcs
      clear hbA hwA hwB hwC frA hkm hcs
      go_wp2_with fail
      rw [← hw7]
      clear hw7 m2 c5 c6 f5 f6 hmm
      clear HM6
      have hnil : CS (Foot g b R L) w w7 g b B R rc (markL s.tt (s.q.take 0) L) { h.at s.nx with has0 := 0, has1 := sumC L (s.q.take 0) } (w.heap.size + 1) w.heap.size w6.heap.size true Q qc s.tt s.q (keptP L h.nx (s.q.take 0)) := by
        rw [List.take_zero, markL_nil]; exact HC7.out
      have HC0 := Aside0.mk hnil
      clear hnil HC7
      go_loopw [77] (fun v wr => ∃ i : Nat, v = .int .i64 i ∧ Aside0 (i ≤ s.q.length) ∧ Aside0 (CS (Foot g b R L) w wr g b B R rc (markL s.tt (s.q.take i) L) { h.at s.nx with has0 := 0, has1 := sumC L (s.q.take i) } (w.heap.size + 1) w.heap.size w6.heap.size true Q qc s.tt s.q (keptP L h.nx (s.q.take i)))) (fun v wr => s.q.length - (intOf v).toNat)
      case atStart => exact ⟨0, rfl, ⟨Nat.zero_le _⟩, HC0⟩
      case round =>
        clear HC0
        obtain ⟨i, rfl, hi, HC⟩ := hrel
        have hql := HQ6.out.len
        by_cases hlt : i < s.q.length
        · have hib : decide ((i : Int) < (s.q.length : Int)) = true := decide_eq_true (by omega)
          have hil : (i : Int) < (s.q.length : Int) := by omega
          obtain ⟨x, hx, hxk⟩ := HQ6.out.mem (s.q.getD i 0) (by simp [List.getD, hlt])
          have hni : x.k ∉ s.q.take i := by
            rw [hxk]
            intro hm
            obtain ⟨j, hj⟩ := List.mem_iff_getElem?.1 hm
            rw [List.getElem?_take] at hj
            by_cases hji : j < i
            · rw [if_pos hji, List.getElem?_eq_getElem (by omega : j < s.q.length)] at hj
              simp only [List.getD, List.getElem?_eq_getElem hlt, Option.getD_some, Option.some.injEq] at hj
              exact List.pairwise_iff_getElem.1 HQ6.out.nodup j i (by omega) hlt hji hj
            · rw [if_neg hji] at hj; cases hj
          have hxi := markL_at s.tt hx hni
          have hat := HK.out.at HQ6.out hlt
          obtain ⟨qb, hQ, qcell⟩ := HC.out.queueAt hlt
          rw [← hxk] at hat qcell
          have c0 := HC.out.hw.c0
          have hlook := HC.out.hw.look hxi
          have hob := HC.out.hw.ob x hxi
          have o1 : wr.cell? ⟨x.t, 1, none⟩ = some (.slice x.A x.o.fs.length x.c) := (blk_cell hob 1).trans rfl
          unfold ptr at hlook
          have hfl := HBD.out.fs x hx
          have HX := Aside0.mk (And.intro hx (And.intro hxi (And.intro hxk (And.intro hni hat))))
          have HT := Aside0.mk (take_step s.q hlt)
          subst hQ
          clear hx hxi hxk hni hat hob
          obtain ⟨wC, hwC⟩ : ∃ wC, wC = wr := ⟨_, rfl⟩
          subst hwC
          go_wp2_with fail
          have hD0 : CS (Foot g b R L) w wC g b B R rc (upd (markL s.tt (s.q.take i) L) x.k (PO.part s.tt 0)) { h.at s.nx with has0 := 0, has1 := sumC L (s.q.take i) } (w.heap.size + 1) w.heap.size w6.heap.size true (some ⟨qb, 0, none⟩) qc s.tt s.q (keptP L h.nx (s.q.take i)) := by
            rw [upd_id (fun y _ _ => part_zero s.tt y.o)]; exact HC.out
          have HD0 := Aside0.mk hD0
          clear hD0 c0 hlook o1 qcell
          go_loopw [92] (fun v wq => ∃ j : Nat, v = .int .i64 j ∧ Aside0 (j ≤ x.o.fs.length) ∧ Aside0 (CS (Foot g b R L) w wq g b B R rc (upd (markL s.tt (s.q.take i) L) x.k (PO.part s.tt j)) { h.at s.nx with has0 := 0, has1 := sumC L (s.q.take i) } (w.heap.size + 1) w.heap.size w6.heap.size true (some ⟨qb, 0, none⟩) qc s.tt s.q (keptP L h.nx (s.q.take i)))) (fun v wq => x.o.fs.length - (intOf v).toNat)
          case atStart => exact ⟨0, rfl, ⟨Nat.zero_le _⟩, HD0⟩
          case round =>
            clear HD0
            obtain ⟨j, rfl, hj, HD⟩ := hrel
            have hxj := upd_at HX.out.2.1 (PO.part s.tt j)
            have hsame : ∀ y ∈ markL s.tt (s.q.take i) L, y.k = x.k → y = x := fun y hy e => HC.out.hw.same hy HX.out.2.1 e
            have hob := HD.out.hw.ob _ hxj
            have o1 : wr.cell? ⟨x.t, 1, none⟩ = some (.slice x.A x.o.fs.length x.c) := by rw [← part_len s.tt j x.o]; exact (blk_cell hob 1).trans rfl
            by_cases hjt : j < x.o.fs.length
            · have hjb : decide ((j : Int) < (x.o.fs.length : Int)) = true := decide_eq_true (by omega)
              have hjl : (j : Int) < (x.o.fs.length : Int) := by omega
              have hne : (x.o.part s.tt j).fs ≠ [] := fun e => by have := part_len s.tt j x.o; rw [e] at this; simp at this; omega
              obtain ⟨hA, hrow⟩ := HD.out.hw.row _ hxj hne
              have hA : x.A = some ⟨x.fb, 0, none⟩ := hA
              have fc0 := hrow.cell (i := j) (by show j < (x.o.part s.tt j).fs.length; rw [part_len]; exact hjt)
              have ff : wr.frozen? ⟨x.fb, j, none⟩ = false := hrow.fz j
              obtain ⟨f, hf⟩ : ∃ f, f = x.o.fs.getD j 0 := ⟨_, rfl⟩
              have fc : wr.cell? ⟨x.fb, j, none⟩ = some (.int .i64 f) := by rw [hf, ← part_get s.tt x.o hjt]; exact fc0
              clear fc0 hrow
              have m1 := HD.out.m1
              have hlk := HD.out.look f true
              rw [if_pos rfl] at hlk
              rw [hA] at o1
              rw [hA]
              cases hg : toGet s.tt f with
              | none =>
                rw [hg] at hlk
                have hlk : (Instr.lookup 85 (.map (some w.heap.size)) (.int .i64 f) true).run Try.prog wr = .ok (.tuple #[.int .i64 0, .bool false]) wr := hlk
                have hnx : upd (markL s.tt (s.q.take i) L) x.k (PO.part s.tt (j + 1)) = upd (markL s.tt (s.q.take i) L) x.k (PO.part s.tt j) :=
                  upd_congr (fun y hy e => by rw [hsame y hy e]; exact part_none s.tt x.o hjt (by rw [← hf]; exact hg))
                have HN := Aside0.mk hnx
                clear hnx hg hf hA hob hsame hxj
                go_wp2_with fail
                go_roundw
                case rel => exact ⟨j + 1, by go_num, ⟨hjt⟩, ⟨by rw [HN.out]; exact HD.out⟩⟩
                case measure => simp [intOf]; omega
              | some n =>
                rw [hg] at hlk
                have hlk : (Instr.lookup 85 (.map (some w.heap.size)) (.int .i64 f) true).run Try.prog wr = .ok (.tuple #[.int .i64 n, .bool true]) wr := hlk
                have hnew := HD.out.hw.setField hxj hne j n
                have hnx : upd (upd (markL s.tt (s.q.take i) L) x.k (PO.part s.tt j)) x.k (fun o => o.set j n) = upd (markL s.tt (s.q.take i) L) x.k (PO.part s.tt (j + 1)) := by
                  rw [upd_upd]
                  exact upd_congr (fun y hy e => by
                    rw [hsame y hy e, part_succ s.tt x.o hjt, ← hf]
                    show _ = PO.set _ j (ren s.tt f)
                    unfold ren
                    rw [hg]; rfl)
                have hcs := HD.out.go (T := (· ∈ [x.fb])) hnew (FrP.ofFr (Fr.set wr x.fb j (.int .i64 n))) (fun k hk => by
                  have hk : k = x.fb := by simpa using hk
                  exact HD.out.sub k (.inr (.inr (.inr ⟨_, hxj, .inr ⟨hne, hk⟩⟩)))) (fun k hk => HD.out.sub k (foot_upd (fun o => by simp [PO.set]) hk))
                have hcs : CS (Foot g b R L) w (wr.setCell ⟨x.fb, j, none⟩ (.int .i64 n)) g b B R rc (upd (upd (markL s.tt (s.q.take i) L) x.k (PO.part s.tt j)) x.k (fun o => o.set j n)) _ _ _ _ _ _ _ _ _ _ := hcs
                rw [hnx] at hcs
                have HN := Aside0.mk hcs
                clear hcs hnx hnew hg hf hA hob hsame hxj
                go_wp2_with fail
                go_roundw
                case rel => exact ⟨j + 1, by go_num, ⟨hjt⟩, HN⟩
                case measure => simp [intOf]; omega
            · have hjb : decide ((j : Int) < (x.o.fs.length : Int)) = false := decide_eq_false (by omega)
              have hjl : ¬ (j : Int) < (x.o.fs.length : Int) := by omega
              have hj' := hj.out
              obtain rfl : j = x.o.fs.length := by omega
              -- the flags
              have hxn := hxj
              have hu1 := HD.out.hw.setOld hxn true
              have hx1 := upd_at hxn (fun o : PO => { o with old := true })
              have hu2 := hu1.setNoted hx1 false
              have hmk : upd (upd (upd (markL s.tt (s.q.take i) L) x.k (PO.part s.tt x.o.fs.length)) x.k (fun o => { o with old := true })) x.k (fun o => { o with noted := false }) = markL s.tt (s.q.take (i + 1)) L := by
                rw [upd_upd, upd_upd, HT.out, ← HX.out.2.2.1, ← markL_step s.tt (s.q.take i) L HX.out.2.2.2.1]
                exact upd_congr (fun y hy e => by rw [hsame y hy e]; exact part_all s.tt x.o)
              obtain ⟨w27, hw27⟩ : ∃ w27, w27 = (wr.setCell ⟨x.t, 3, none⟩ (.bool true)).setCell ⟨x.t, 4, none⟩ (.bool false) := ⟨_, rfl⟩
              have hu3 : HW w27 g b B R rc (markL s.tt (s.q.take (i + 1)) L) { h.at s.nx with has0 := 0, has1 := sumC L (s.q.take i) } := by rw [hw27, ← hmk]; exact hu2
              have h27 := HD.out.go (T := (· ∈ [x.t])) hu3 (by rw [hw27]; exact (FrP.ofFr (Fr.set wr x.t 3 (.bool true))).trans (FrP.ofFr (Fr.set _ x.t 4 (.bool false)))) (fun k hk => by
                have hk : k = x.t := by simpa using hk
                exact HD.out.sub k (.inr (.inr (.inr ⟨_, hxn, .inl hk⟩)))) (fun k hk => HD.out.sub k (foot_upd (k := x.k) (f := fun o : PO => { o with old := true }) (fun _ => rfl) (foot_upd (k := x.k) (f := fun o : PO => { o with noted := false }) (fun _ => rfl) (by rw [hmk]; exact hk))))
              have H27 := Aside0.mk h27
              have o3 : wr.cell? ⟨x.t, 3, none⟩ = some (.bool (x.o.part s.tt x.o.fs.length).old) := (blk_cell hob 3).trans rfl
              have o4 : wr.cell? ⟨x.t, 4, none⟩ = some (.bool (x.o.part s.tt x.o.fs.length).noted) := (blk_cell hob 4).trans rfl
              have f3 : wr.frozen? ⟨x.t, 3, none⟩ = false := blk_frozen hob 3
              have f4 : wr.frozen? ⟨x.t, 4, none⟩ = false := blk_frozen hob 4
              have hmem : x.k ∈ s.q.take (i + 1) := by rw [HT.out, ← HX.out.2.2.1]; simp
              obtain ⟨u, hu⟩ : ∃ u, u = sumC L (s.q.take i) := ⟨_, rfl⟩
              rw [← hu] at H27
              have c6 : w27.drew.cell? ⟨g, 6, none⟩ = some (.int .i64 u) := H27.out.hw.c6
              have hsum := sumC_le L 2000000 (fun y hy => by
                have h1 := HBD.out.fs y hy
                have h2 := HBD.out.tx y hy
                unfold PO.cells; omega) HS0.out.2.2 (s.q.take (i + 1)) (fun k hk => by
                obtain ⟨y, hy, e⟩ := HQ6.out.mem k (List.mem_of_mem_take hk)
                exact ⟨y, hy, e⟩)
              rw [HT.out, ← HX.out.2.2.1, sumC_snoc, ← hu, getO_of HS0.out.2.2 HX.out.1] at hsum
              have hwrap : wrap64 (u + x.o.cells) = u + x.o.cells := by
                have : ((s.q.take i ++ [x.k]).length : Int) ≤ 1000000 := by rw [List.length_append, List.length_take, List.length_singleton]; omega
                unfold wrap64; omega
              have HU := Aside0.mk hu
              have HWR := Aside0.mk hwrap
              clear hu hwrap hsum hsame hu1 hu2 hu3 hx1 hmk h27 hxn hxj hob HD
              go_wp2_with fail
              rw [← hw27]
              clear hw27 o1 o3 o4 f3 f4
              refine start_ (n := 12) (S := (fun w' => w'.cell? ⟨g, 6, none⟩ = some (.int .i64 u) ∧ Fr [] w27 w')) (ds := [11]) #[false, false, false, false, false, false, false, false, false, false, false, false] (by kernel_rfl) rfl rfl ⟨c6, Fr.drew _ _⟩ (fun hHeld => ?_)
              refine take_ (i := 0) (N := some 121) (v := ?_) (a' := ?_) #[true, false, false, false, false, false, false, false, false, false, false, false] rfl rfl (by kernel_rfl) (fun _ _ _ h => h) (Or.inl ⟨by rfl, ?_⟩) hHeld ?_ ?_
              rotate_left
              · rintro w' ⟨s0, s1⟩
                go_simp
                with_reducible rfl
              rotate_left
              · simp only [Act.put, List.setIfInBounds_toArray, List.set_cons_zero, List.set_cons_succ, i64_w, i32_w]
                rfl
              refine take_ (i := 1) (N := some 122) (v := ?_) (a' := ?_) #[true, true, false, false, false, false, false, false, false, false, false, false] rfl rfl (by kernel_rfl) (fun _ _ _ h => h) (Or.inl ⟨by rfl, ?_⟩) hHeld ?_ ?_
              rotate_left
              · rintro w' ⟨s0, s1⟩
                go_simp
                with_reducible rfl
              rotate_left
              · simp only [Act.put, List.setIfInBounds_toArray, List.set_cons_zero, List.set_cons_succ, i64_w, i32_w]
                rfl
              refine take_ (i := 2) (N := some 123) (v := ?_) (a' := ?_) #[true, true, true, false, false, false, false, false, false, false, false, false] rfl rfl (by kernel_rfl) (fun _ _ _ h => h) (Or.inl ⟨by rfl, ?_⟩) hHeld ?_ ?_
              rotate_left
              · rintro w' ⟨s0, s1⟩
                go_simp
                with_reducible rfl
              rotate_left
              · simp only [Act.put, List.setIfInBounds_toArray, List.set_cons_zero, List.set_cons_succ, i64_w, i32_w]
                rfl
              refine take_ (i := 3) (N := some 124) (v := ?_) (a' := ?_) #[true, true, true, true, false, false, false, false, false, false, false, false] rfl rfl (by kernel_rfl) (fun _ _ _ h => h) (Or.inl ⟨by rfl, ?_⟩) hHeld ?_ ?_
              rotate_left
              · rintro w' ⟨s0, s1⟩
                go_simp
                with_reducible rfl
              rotate_left
              · simp only [Act.put, List.setIfInBounds_toArray, List.set_cons_zero, List.set_cons_succ, i64_w, i32_w]
                rfl
              refine take_ (i := 4) (N := some 125) (v := ?_) (a' := ?_) #[true, true, true, true, true, false, false, false, false, false, false, false] rfl rfl (by kernel_rfl) (fun _ _ _ h => h) (Or.inl ⟨by rfl, ?_⟩) hHeld ?_ ?_
              rotate_left
              · rintro w' ⟨s0, s1⟩
                go_simp
                with_reducible rfl
              rotate_left
              · simp only [Act.put, List.setIfInBounds_toArray, List.set_cons_zero, List.set_cons_succ, i64_w, i32_w]
                rfl
              refine take_ (i := 5) (N := some 126) (v := ?_) (a' := ?_) #[true, true, true, true, true, true, false, false, false, false, false, false] rfl rfl (by kernel_rfl) (fun _ _ _ h => h) (Or.inl ⟨by rfl, ?_⟩) hHeld ?_ ?_
              rotate_left
              · rintro w' ⟨s0, s1⟩
                go_simp
                with_reducible rfl
              rotate_left
              · simp only [Act.put, List.setIfInBounds_toArray, List.set_cons_zero, List.set_cons_succ, i64_w, i32_w]
                rfl
              refine take_ (i := 8) (N := some 129) (v := ?_) (a' := ?_) #[true, true, true, true, true, true, false, false, true, false, false, false] rfl rfl (by kernel_rfl) (fun _ _ _ h => h) (Or.inl ⟨by rfl, ?_⟩) hHeld ?_ ?_
              rotate_left
              · rintro w' ⟨s0, s1⟩
                go_simp
                with_reducible rfl
              rotate_left
              · simp only [Act.put, List.setIfInBounds_toArray, List.set_cons_zero, List.set_cons_succ, i64_w, i32_w]
                rfl
              refine take_ (i := 9) (N := some 130) (v := ?_) (a' := ?_) #[true, true, true, true, true, true, false, false, true, true, false, false] rfl rfl (by kernel_rfl) (fun _ _ _ h => h) (Or.inl ⟨by rfl, ?_⟩) hHeld ?_ ?_
              rotate_left
              · rintro w' ⟨s0, s1⟩
                go_simp
                with_reducible rfl
              rotate_left
              · simp only [Act.put, List.setIfInBounds_toArray, List.set_cons_zero, List.set_cons_succ, i64_w, i32_w]
                rfl
              refine one_ (i := 6) (N := some 127) #[true, true, true, true, true, true, true, false, true, true, false, false] rfl rfl (by kernel_rfl) (by decide) (fun K hK => ?_)
              refine goes_ Try.func56 (by kernel_rfl) rfl #[ptr x.t] (by rfl) rfl rfl (by simp only [List.map_toArray, List.map_cons, List.map_nil]; rfl) ?_
              have hcl := cells_any (x := { x with o := x.o.done s.tt }) (w := w27.drew) (by rw [show (x.o.done s.tt).fs.length = x.o.fs.length from by simp [PO.done]]; exact hfl) (HBD.out.tx x HX.out.1) (H27.out.hw.ob _ (markL_done s.tt HX.out.1 hmem))
              rw [show ({ x with o := x.o.done s.tt } : OW).o.cells = x.o.cells from done_cells s.tt x.o] at hcl
              refine hcl.mono ?_
              rintro e w9 ⟨rfl, hf9⟩
              refine ⟨_, rfl, ?_⟩
              have hfr9 : Fr [] w27 w9 := (Fr.drew [] w27).trans hf9
              have H9 := Aside0.mk (H27.out.quiet hfr9)
              have c69 : w9.cell? ⟨g, 6, none⟩ = some (.int .i64 u) := H9.out.hw.c6
              have f69 : w9.frozen? ⟨g, 6, none⟩ = false := H9.out.hw.fz 6
              refine hK.out _ _ ⟨c69, hfr9⟩ (fun hHeld => ?_)
              clear hK K hcl
              refine norm_ (a' := ?_) ?_ ?_
              rotate_left
              · show Act.put _ (some 127) _ = _
                simp only [Act.put, List.setIfInBounds_toArray, List.set_cons_zero, List.set_cons_succ, i64_w, i32_w]
                rfl
              refine take_ (i := 7) (N := some 128) (v := ?_) (a' := ?_) #[true, true, true, true, true, true, true, true, true, true, false, false] rfl rfl (by kernel_rfl) (fun _ _ _ h => h) (Or.inl ⟨by rfl, ?_⟩) hHeld ?_ ?_
              rotate_left
              · rintro w' ⟨s0, s1⟩
                go_simp
                with_reducible rfl
              rotate_left
              · simp only [Act.put, List.setIfInBounds_toArray, List.set_cons_zero, List.set_cons_succ, i64_w, i32_w]
                rfl
              refine take_ (i := 10) (N := some 131) (v := ?_) (a' := ?_) #[true, true, true, true, true, true, true, true, true, true, true, false] rfl rfl (by kernel_rfl) (fun _ _ _ h => h) (Or.inl ⟨by rfl, ?_⟩) hHeld ?_ ?_
              rotate_left
              · rintro w' ⟨s0, s1⟩
                go_simp
                with_reducible rfl
              rotate_left
              · simp only [Act.put, List.setIfInBounds_toArray, List.set_cons_zero, List.set_cons_succ, i64_w, i32_w]
                rfl
              refine last_ (i := 11) (N := none) #[true, true, true, true, true, true, true, true, true, true, true, true] rfl rfl (by kernel_rfl) (by decide) (fun K hK => ?_)
              refine skip_ (w1 := ?_) (by rfl) rfl ?_ ?_
              rotate_left
              · go_simp
                rfl
              refine hK.out _ _ ?_
              clear hK K
              refine done_ (by kernel_rfl) ?_
              -- kept
              rw [HWR.out]
              have hturn := H9.out.hw.turned (h' := { h.at s.nx with has0 := 0, has1 := u + x.o.cells }) (Fr.set w9 g 6 (.int .i64 (u + x.o.cells))) (blk_put H9.out.hw.hp 6 _ rfl) rfl (Int.le_refl _)
              have h10 := H9.out.go (T := (· ∈ [g])) hturn (FrP.ofFr (Fr.set w9 g 6 _)) (fun k hk => by
                have hk : k = g := by simpa using hk
                exact .inl hk) H9.out.sub
              have H10 := Aside0.mk h10
              clear h10 hturn c6 c69 f69 hfr9 hf9 H27
              obtain ⟨w10, hw10⟩ : ∃ w10, w10 = w9.setCell ⟨g, 6, none⟩ (.int .i64 (u + x.o.cells)) := ⟨_, rfl⟩
              rw [← hw10]
              rw [← hw10] at H10
              clear hw10
              have m1 := H10.out.m1
              have hlk := H10.out.look x.k false
              rw [HX.out.2.2.2.2] at hlk
              have hlk : (Instr.lookup 85 (.map (some w.heap.size)) (.int .i64 x.k) false).run Try.prog w10 = .ok (.int .i64 (h.nx + 2 * (i : Int))) w10 := hlk
              obtain ⟨w11, hup, hm11, hb11⟩ := map_update (P := Try.prog) Try.underlying63 Try.underlying28 H10.out.kp (h.nx + 2 * (i : Int)) (ptr x.t)
              have hlen : ((s.q.take i).length : Int) = (i : Int) := by rw [List.length_take]; omega
              have hkp := keptP_step L h.nx (s.q.take i) x.k
              rw [hlen, getO_of HS0.out.2.2 HX.out.1] at hkp
              rw [hkp] at hm11
              have h11 := H10.out.put hm11 (Fr.but1 hb11)
              have hsm : sumC L (s.q.take (i + 1)) = u + x.o.cells := by rw [HT.out, ← HX.out.2.2.1, sumC_snoc, getO_of HS0.out.2.2 HX.out.1, ← HU.out]
              have hkt : s.q.take i ++ [x.k] = s.q.take (i + 1) := by rw [HT.out, HX.out.2.2.1]
              rw [hkt, ← hsm] at h11
              have H11 := Aside0.mk h11
              unfold ptr at hup
              clear h11 hsm hkp hkt hm11 hb11 hlen
              go_wp2_with fail
              go_roundw
              case rel => exact ⟨i + 1, by go_num, ⟨hlt⟩, H11⟩
              case measure => simp [intOf]; omega
        · have hib : decide ((i : Int) < (s.q.length : Int)) = false := decide_eq_false (by omega)
          have hil : ¬ (i : Int) < (s.q.length : Int) := by omega
          have hi' := hi.out
          obtain rfl : i = s.q.length := by omega
          rw [List.take_length] at HC
          obtain ⟨u, hu⟩ : ∃ u, u = sumC L s.q := ⟨_, rfl⟩
          rw [← hu] at HC
          have HU := Aside0.mk hu
          clear hu
          have c2 : wr.cell? ⟨g, 2, none⟩ = some (.slice R h.roots.length rc) := HC.out.hw.c2
          obtain ⟨wC, hwC⟩ : ∃ wC, wC = wr := ⟨_, rfl⟩
          subst hwC
          have hE0 : CS (Foot g b R L) w wC g b B R rc (markL s.tt s.q L) { h.at s.nx with has0 := 0, has1 := u, roots := partL s.tt 0 h.roots } (w.heap.size + 1) w.heap.size w6.heap.size true Q qc s.tt s.q (keptP L h.nx s.q) := by
            rw [show partL s.tt 0 h.roots = h.roots from by unfold partL; simp]; exact HC.out
          have HE0 := Aside0.mk hE0
          clear hE0 HC
          go_wp2_with fail
          clear c2
          go_loopw [146] (fun v wq => ∃ j : Nat, v = .int .i64 j ∧ Aside0 (j ≤ h.roots.length) ∧ Aside0 (CS (Foot g b R L) w wq g b B R rc (markL s.tt s.q L) { h.at s.nx with has0 := 0, has1 := u, roots := partL s.tt j h.roots } (w.heap.size + 1) w.heap.size w6.heap.size true Q qc s.tt s.q (keptP L h.nx s.q))) (fun v wq => h.roots.length - (intOf v).toNat)
          case atStart => exact ⟨0, rfl, ⟨Nat.zero_le _⟩, HE0⟩
          case round =>
            clear HE0
            obtain ⟨j, rfl, hj, HE⟩ := hrel
            have c2 : wr.cell? ⟨g, 2, none⟩ = some (.slice R h.roots.length rc) := by rw [← partL_len s.tt j h.roots]; exact HE.out.hw.c2
            by_cases hjt : j < h.roots.length
            · have hjb : decide ((j : Int) < (h.roots.length : Int)) = true := decide_eq_true (by omega)
              have hjl : (j : Int) < (h.roots.length : Int) := by omega
              have hjp : j < (partL s.tt j h.roots).length := by rw [partL_len]; exact hjt
              obtain ⟨rb, hR, fc0, ffz⟩ := HE.out.hw.rootAt (i := j) hjp
              have ff := ffz j
              obtain ⟨f, hf⟩ : ∃ f, f = h.roots.getD j 0 := ⟨_, rfl⟩
              have fc : wr.cell? ⟨rb, j, none⟩ = some (.int .i64 f) := by rw [hf, ← partL_get s.tt h.roots hjt]; exact fc0
              clear fc0 ffz
              have m1 := HE.out.m1
              have hlk := HE.out.look f true
              rw [if_pos rfl] at hlk
              subst hR
              cases hg : toGet s.tt f with
              | none =>
                rw [hg] at hlk
                have hlk : (Instr.lookup 85 (.map (some w.heap.size)) (.int .i64 f) true).run Try.prog wr = .ok (.tuple #[.int .i64 0, .bool false]) wr := hlk
                have HN := Aside0.mk (partL_none s.tt h.roots hjt (by rw [← hf]; exact hg))
                clear hg hf hjp
                go_wp2_with fail
                go_roundw
                case rel => exact ⟨j + 1, by go_num, ⟨hjt⟩, ⟨by rw [HN.out]; exact HE.out⟩⟩
                case measure => simp [intOf]; omega
              | some n =>
                rw [hg] at hlk
                have hlk : (Instr.lookup 85 (.map (some w.heap.size)) (.int .i64 f) true).run Try.prog wr = .ok (.tuple #[.int .i64 n, .bool true]) wr := hlk
                have hnew := HE.out.hw.setRoot hjp n
                have hnx : (HH.setRoot { h.at s.nx with has0 := 0, has1 := u, roots := partL s.tt j h.roots } j n) = { h.at s.nx with has0 := 0, has1 := u, roots := partL s.tt (j + 1) h.roots } := by
                  unfold HH.setRoot
                  rw [partL_succ s.tt h.roots hjt, ← hf]
                  unfold ren
                  rw [hg]; rfl
                rw [hnx] at hnew
                have hcs := HE.out.go (T := (· ∈ [rb])) hnew (FrP.ofFr (Fr.set wr rb j (.int .i64 n))) (fun k hk => by
                  have hk : k = rb := by simpa using hk
                  exact .inr (.inr (.inl (by rw [hk])))) HE.out.sub
                have HN := Aside0.mk hcs
                clear hcs hnx hnew hg hf hjp
                go_wp2_with fail
                go_roundw
                case rel => exact ⟨j + 1, by go_num, ⟨hjt⟩, HN⟩
                case measure => simp [intOf]; omega
            · have hjb : decide ((j : Int) < (h.roots.length : Int)) = false := decide_eq_false (by omega)
              have hjl : ¬ (j : Int) < (h.roots.length : Int) := by omega
              have hj' := hj.out
              obtain rfl : j = h.roots.length := by omega
              rw [partL_all] at HE
              have c0 := HE.out.hw.c0
              have f0 := HE.out.hw.fz 0
              have hkg : w6.heap.size ≠ g := fun e => by
                have h1 := HE.out.lt g (.inl rfl)
                have h2 := HE.out.ge.2.2.1
                omega
              have hkept := HE.out.hw.kept (w' := wr.setCell ⟨g, 0, none⟩ (.map (some w6.heap.size))) HS0.out.2.2 HE.out.kp HQ6.out.mem HQ6.out.nodup HBD.out.nx.1 HBD.out.nx.2.1 HK.out.nx hkg rfl
              have c8 : (wr.setCell ⟨g, 0, none⟩ (.map (some w6.heap.size))).cell? ⟨g, 8, none⟩ = some (.int .i64 h.major) := hkept.c8
              have f8 := hkept.fz 8
              have hmm := HBD.out.mm
              have hw1 : wrap64 (h.major + 1) = h.major + 1 := by unfold wrap64; omega
              have HKK := Aside0.mk hkept
              have HW1 := Aside0.mk hw1
              clear hkept hkg hmm hw1
              go_wp2_with fail
              go_returns
              rw [HW1.out]
              have hs := HS6.out
              have hu := HU.out
              subst hs
              subst hu
              have f1 := Fr.set wr g 0 (.map (some w6.heap.size))
              have f2 := Fr.set (wr.setCell ⟨g, 0, none⟩ (.map (some w6.heap.size))) g 8 (.int .i64 (h.major + 1))
              exact ⟨rfl, w6.heap.size, HKK.out.turned (h' := collHH L h true) f2 (blk_put HKK.out.hp 8 _ rfl) rfl (Int.le_refl _), HE.out.ge.2.2.1, HE.out.fr.trans (((FrP.ofFr f1).trans (FrP.ofFr f2)).mono (fun k _ hk => .inl (by simpa using hk)))⟩
end Go.Proofs.Ytlghnldlkbgajaa.S
