
/- heap: run, walked. -/
import Derived.Test.YtlghnldlkbgajaaHRun
namespace Go.Proofs.Ytlghnldlkbgajaa.S
open Go.RowKit Go.Proofs.YtlghnldlkbgajaaW.PrintWords Go.Proofs.YtlghnldlkbgajaaW.PrintLast Go.Proofs.YtlghnldlkbgajaaW.PrintMore
set_option linter.unusedVariables false
set_option linter.unusedSimpArgs false

def skipB (all : Bool) (o : PO) : Bool := !all && o.old && !o.noted
def runStep (L : List OW) (all : Bool) (s : Mv) (x : Int) : Mv :=
  match L.find? (fun o => decide (o.k = x)) with
  | some o => if skipB all o.o then s else mvAll L s o.o.fs
  | none => s
def runF (L : List OW) (all : Bool) : Nat → Nat → Mv → Mv
  | 0, _, s => s
  | n + 1, i, s => if i < s.q.length then runF L all n (i + 1) (runStep L all s (s.q.getD i 0)) else s
theorem QOk.step {L : List OW} {all : Bool} {s : Mv} (h : QOk L s) (x : Int) : QOk L (runStep L all s x) := by
  unfold runStep
  split
  · split
    · exact h
    · exact QOk.all _ h
  · exact h
theorem mvF_len (L : List OW) (s : Mv) (x : Int) : s.q.length ≤ (mvF L s x).2.q.length := by
  unfold mvF
  split
  · split
    · exact Nat.le_refl _
    · simp
  · exact Nat.le_refl _
theorem mvAll_len (L : List OW) : ∀ (s : Mv) (l : List Int), s.q.length ≤ (mvAll L s l).q.length := fun s l => by
  induction l generalizing s with
  | nil => exact Nat.le_refl _
  | cons x l ih => exact Nat.le_trans (mvF_len L s x) (ih (mvF L s x).2)
theorem MS.bel {w0 w w' : World} {g b B : Nat} {R : Option Addr} {rc : Nat} {L : List OW} {h : HH} {mv tb : Nat} {all : Bool} {tt : List (Int × Int)} {q : List Int} (H : MS w0 w g b B R rc L h mv tb all tt q) (hf : Fr [] w w') : MS w0 w' g b B R rc L h mv tb all tt q := by
  obtain ⟨Q, qc, hm, hq⟩ := H.qs
  exact ⟨H.hw.fr0 hf, ⟨Q, qc, hf.get hm (by simp), own_fr hq hf (fun _ _ => by simp)⟩, H.tm.fr hf (by simp), H.ge, H.lt, H.fr.trans ((FrP.ofFr hf).mono (by simp))⟩
/-- What the queue's slice is, and its cells. -/
theorem MS.queue {w0 w : World} {g b B : Nat} {R : Option Addr} {rc : Nat} {L : List OW} {h : HH} {mv tb : Nat} {all : Bool} {tt : List (Int × Int)} {q : List Int} (H : MS w0 w g b B R rc L h mv tb all tt q) {i : Nat} (hi : i < q.length) :
    ∃ qb qc, w.cell? ⟨mv, 2, none⟩ = some (.slice (some ⟨qb, 0, none⟩) q.length qc) ∧ w.cell? ⟨qb, i, none⟩ = some (.int .i64 (q.getD i 0)) := by
  obtain ⟨Q, qc, hm, hq⟩ := H.qs
  rcases hq.2 with ⟨-, h2⟩ | ⟨qb, cap, cur, h1, h2, h3, h4, h5, h6, h7⟩
  · omega
  · simp only [Value.slice.injEq] at h1
    obtain ⟨rfl, -, rfl⟩ := h1
    refine ⟨qb, _, (blk_cell hm 2).trans rfl, (blk_cell h3 i).trans ?_⟩
    have h8 : (cur.toList.take (q.length * 1))[i]? = (q.map (Value.int .i64))[i]? := congrArg (fun l : List Value => l[i]?) h7
    rw [List.getElem?_take, if_pos (by omega)] at h8
    rw [← Array.getElem?_toList, h8]
    simp [List.getD, List.getElem?_eq_getElem hi]
set_option maxRecDepth 100000 in
set_option maxHeartbeats 1000000 in
theorem run_calls {w0 w : World} {g b B : Nat} {R : Option Addr} {rc : Nat} {L : List OW} {h : HH} {mv tb : Nat} {all : Bool} {s : Mv} (H : MS w0 w g b B R rc L (h.at s.nx) mv tb all s.tt s.q) (hok : QOk L s) (hL : L.length ≤ 1000000) (hnx : s.nx + 2 * (L.length - s.q.length) ≤ 1000000000000) (hfs : ∀ o ∈ L, o.o.fs.length ≤ 1000000) :
    Calls Try.prog 60 #[ptr mv] w fun e w' => e = .returned (.tuple #[]) ∧ MS w0 w' g b B R rc L (h.at (runF L all (L.length + 1) 0 s).nx) mv tb all (runF L all (L.length + 1) 0 s).tt (runF L all (L.length + 1) 0 s).q ∧ QOk L (runF L all (L.length + 1) 0 s) := by
  obtain ⟨z, hz⟩ : ∃ z, z = runF L all (L.length + 1) 0 s := ⟨_, rfl⟩
  rw [← hz]
  have HM0 := Aside0.mk H
  have HQ0 := Aside0.mk hok
  have HZ0 := Aside0.mk hz
  have HL := Aside0.mk hL
  have HN0 := Aside0.mk hnx
  have HFS := Aside0.mk hfs
  clear H hok hz hL hnx hfs
  unfold ptr
  go_enter Try.func60, Try.ntmps60
  go_wp2_with fail
  go_loopw [2] (fun v wr => ∃ (i : Nat) (s : Mv), v = .int .i64 i ∧ Aside0 (i ≤ s.q.length) ∧ Aside0 (MS w0 wr g b B R rc L (h.at s.nx) mv tb all s.tt s.q) ∧ Aside0 (QOk L s) ∧ Aside0 (z = runF L all (L.length + 1 - i) i s) ∧ Aside0 (s.nx + 2 * (L.length - s.q.length) ≤ 1000000000000)) (fun v wr => L.length - (intOf v).toNat)
  case atStart => exact ⟨0, s, rfl, ⟨Nat.zero_le _⟩, HM0, HQ0, HZ0, HN0⟩
  case round =>
    clear HM0 HQ0 HZ0 HN0
    obtain ⟨i, s, rfl, hi, HM, HQ, HZ, HN⟩ := hrel
    obtain ⟨Q, qc, hm, hq⟩ := HM.out.qs
    have m2 : wr.cell? ⟨mv, 2, none⟩ = some (.slice Q s.q.length qc) := (blk_cell hm 2).trans rfl
    by_cases hlt : i < s.q.length
    · have hltb : decide ((i : Int) < (s.q.length : Int)) = true := decide_eq_true (by omega)
      clear m2 hm hq
      obtain ⟨qb, qc, m2, qcell⟩ := HM.out.queue hlt
      obtain ⟨o, ho, hk⟩ := HQ.out.mem (s.q.getD i 0) (by simp [List.getD, List.getElem?_eq_getElem hlt])
      have hfind : ∃ o', L.find? (fun o => decide (o.k = s.q.getD i 0)) = some o' := by
        cases hf : L.find? (fun o => decide (o.k = s.q.getD i 0)) with
        | some o' => exact ⟨o', rfl⟩
        | none => exact absurd (by simpa using hk) ((List.find?_eq_none.1 hf) o ho)
      obtain ⟨o', hf⟩ := hfind
      have hk' : o'.k = s.q.getD i 0 := by simpa using List.find?_some hf
      have ho' := List.mem_of_find?_eq_some hf
      clear ho hk o
      have hlook := HM.out.hw.look ho'
      have hob := HM.out.hw.ob o' ho'
      have hrow := HM.out.hw.row o' ho'
      have hfl := HFS.out o' ho'
      have hstep : runStep L all s (s.q.getD i 0) = if skipB all o'.o then s else mvAll L s o'.o.fs := by
        unfold runStep
        rw [hf]
      rw [← hk'] at qcell
      have hlookd := (HM.out.hw.fr0 (Fr.drew [] wr)).look ho'
      unfold ptr at hlook hlookd
      obtain ⟨Q0, qc0, hm, -⟩ := HM.out.qs
      have m0 : wr.cell? ⟨mv, 0, none⟩ = some (.pointer (some ⟨g, 0, none⟩)) := (blk_cell hm 0).trans rfl
      have m3 : wr.cell? ⟨mv, 3, none⟩ = some (.bool all) := (blk_cell hm 3).trans rfl
      have c0 := HM.out.hw.c0
      have HOB := Aside0.mk (And.intro hob hrow)
      have HST := Aside0.mk (And.intro hstep (And.intro hk' hfl))
      have o1 : wr.cell? ⟨o'.t, 1, none⟩ = some (.slice o'.A o'.o.fs.length o'.c) := (blk_cell hob 1).trans rfl
      have o3 : wr.cell? ⟨o'.t, 3, none⟩ = some (.bool o'.o.old) := (blk_cell hob 3).trans rfl
      have o4 : wr.cell? ⟨o'.t, 4, none⟩ = some (.bool o'.o.noted) := (blk_cell hob 4).trans rfl
      have HO := Aside0.mk ho'
      clear hf ho' hm hob hrow hstep hk' hfl
      go_wp2_with fail
      go_region_held3 (fun w' => w'.cell? ⟨mv, 0, none⟩ = some (.pointer (some ⟨g, 0, none⟩)) ∧ w'.cell? ⟨g, 0, none⟩ = some (.map (some b)) ∧ w'.cell? ⟨mv, 2, none⟩ = some (.slice (some ⟨qb, 0, none⟩) s.q.length qc) ∧ w'.cell? ⟨qb, i, none⟩ = some (.int .i64 o'.k) ∧ (Instr.lookup 63 (.map (some b)) (.int .i64 o'.k) false).run Try.prog w' = .ok (.pointer (some ⟨o'.t, 0, none⟩)) w') (first | exact ⟨m0, c0, m2, qcell, hlookd⟩ | exact ⟨m0, c0, m2, qcell, hlook⟩) (fail)
      have HMd := Aside0.mk (HM.out.bel (Fr.drew [] wr))
      have hobd := HOB.out.1
      have o1 : wr.drew.cell? ⟨o'.t, 1, none⟩ = some (.slice o'.A o'.o.fs.length o'.c) := o1
      have o3 : wr.drew.cell? ⟨o'.t, 3, none⟩ = some (.bool o'.o.old) := o3
      have o4 : wr.drew.cell? ⟨o'.t, 4, none⟩ = some (.bool o'.o.noted) := o4
      have m3 : wr.drew.cell? ⟨mv, 3, none⟩ = some (.bool all) := m3
      have HR := Aside0.mk (HOB.out.2.fr (Fr.drew [] wr) (fun _ => by simp))
      clear HOB hobd m0 c0 m2 qcell hlook hlookd HM
      generalize wr.drew = W at *
      by_cases hsk : skipB all o'.o = true
      · have hs1 : all = false ∧ o'.o.old = true ∧ o'.o.noted = false := by
          unfold skipB at hsk
          simp at hsk
          exact ⟨hsk.1.1, hsk.1.2, hsk.2⟩
        obtain ⟨rfl, hs2, hs3⟩ := hs1
        rw [hs2] at o3
        rw [hs3] at o4
        clear hs2 hs3
        have hlen := HQ.out.len
        have hL := HL.out
        have hzn : z = runF L false (L.length + 1 - (i + 1)) (i + 1) s := by
          have := HZ.out
          rw [show L.length + 1 - i = (L.length - i) + 1 from by omega] at this
          unfold runF at this
          rw [if_pos hlt, HST.out.1, if_pos hsk] at this
          rw [show L.length + 1 - (i + 1) = L.length - i from by omega]
          exact this
        have HZN := Aside0.mk hzn
        clear hzn
        go_wp2_with fail
        go_roundw
        case rel => exact ⟨i + 1, s, by go_num, ⟨hlt⟩, HMd, HQ, HZN, HN⟩
        case measure => simp [intOf]; omega
      · have hs1 : all = true ∨ (all = false ∧ o'.o.old = false) ∨ (all = false ∧ o'.o.old = true ∧ o'.o.noted = true) := by
          unfold skipB at hsk
          cases all <;> cases ho : o'.o.old <;> cases hn : o'.o.noted <;> simp_all
        rcases hs1 with rfl | ⟨rfl, hs2⟩ | ⟨rfl, hs2, hs3⟩
        · skip
          go_wp2_with fail
          go_loopw [53] (fun v wq => ∃ j : Nat, v = .int .i64 j ∧ Aside0 (j ≤ o'.o.fs.length) ∧ Aside0 (MS w0 wq g b B R rc L (h.at (mvAll L s (o'.o.fs.take j)).nx) mv tb true (mvAll L s (o'.o.fs.take j)).tt (mvAll L s (o'.o.fs.take j)).q) ∧ Aside0 (QOk L (mvAll L s (o'.o.fs.take j))) ∧ Aside0 ((mvAll L s (o'.o.fs.take j)).nx + 2 * (L.length - (mvAll L s (o'.o.fs.take j)).q.length) ≤ 1000000000000)) (fun v wq => o'.o.fs.length - (intOf v).toNat)
          case atStart => exact ⟨0, rfl, ⟨Nat.zero_le _⟩, HMd, HQ, HN⟩
          case round =>
            obtain ⟨j, rfl, hj, HM2, HQ2, HN2⟩ := hrel
            have hL := HL.out
            have hfl := HST.out.2.2
            by_cases hjt : j < o'.o.fs.length
            · have hjb : decide ((j : Int) < (o'.o.fs.length : Int)) = true := decide_eq_true (by omega)
              have hjl : (j : Int) < (o'.o.fs.length : Int) := by omega
              obtain ⟨hA, hrow⟩ := HM2.out.hw.row o' HO.out (by intro e; rw [e] at hjt; simp at hjt)
              have fc := hrow.cell hjt
              obtain ⟨f, hfx⟩ : ∃ f, f = o'.o.fs.getD j 0 := ⟨_, rfl⟩
              rw [← hfx] at fc
              have hq2 := HQ2.out.len
              have hn2 := HN2.out
              have hnx2 : (mvAll L s (o'.o.fs.take j)).nx ≤ 1000000000000000 := by omega
              have hql2 : (mvAll L s (o'.o.fs.take j)).q.length ≤ 1000000000000 := by omega
              have hnext : mvAll L s (o'.o.fs.take (j + 1)) = (mvF L (mvAll L s (o'.o.fs.take j)) f).2 := by
                rw [hfx]
                unfold mvAll
                rw [List.take_add_one, List.getElem?_eq_getElem hjt, List.foldl_append]
                simp [List.getD, List.getElem?_eq_getElem hjt]
              have hq3 := HQ2.out.move f
              have hn3 := mvF_nx L (mvAll L s (o'.o.fs.take j)) f
              have HNE := Aside0.mk hnext
              have HQ3 := Aside0.mk hq3
              have HN3 := Aside0.mk (show (mvF L (mvAll L s (o'.o.fs.take j)) f).2.nx + 2 * (L.length - (mvF L (mvAll L s (o'.o.fs.take j)) f).2.q.length) ≤ 1000000000000 by rw [hn3]; omega)
              rw [hA]
              clear hA hrow hq2 hn2 hq3 hn3 hnext hfx
              go_wp2_with fail
              refine (move_calls HM2.out _ hnx2 hql2).mono ?_
              rintro e w5 ⟨rfl, hms⟩
              have HM5 := Aside0.mk hms
              clear hms
              rw [← HNE.out] at HM5 HQ3 HN3
              go_wp2_with fail
              go_roundw
              case rel => exact ⟨j + 1, by go_num, ⟨hjt⟩, HM5, HQ3, HN3⟩
              case measure => simp [intOf]; omega
            · have hjb : decide ((j : Int) < (o'.o.fs.length : Int)) = false := decide_eq_false (by omega)
              have hjl : ¬ (j : Int) < (o'.o.fs.length : Int) := by omega
              have hj' := hj.out
              obtain rfl : j = o'.o.fs.length := by omega
              rw [List.take_length] at HM2 HQ2 HN2
              have hlen := HQ.out.len
              have hzn := HZ.out
              rw [show L.length + 1 - i = (L.length - i) + 1 from by omega] at hzn
              unfold runF at hzn
              rw [if_pos hlt, HST.out.1, if_neg hsk, show L.length - i = L.length + 1 - (i + 1) from by omega] at hzn
              have HZN := Aside0.mk hzn
              have hgrow := mvAll_len L s o'.o.fs
              clear hzn
              go_wp2_with fail
              go_roundw
              case rel => exact ⟨i + 1, _, by go_num, ⟨by omega⟩, HM2, HQ2, HZN, HN2⟩
              case measure => simp [intOf]; omega
        · rw [hs2] at o3
          clear hs2
          go_wp2_with fail
          go_loopw [53] (fun v wq => ∃ j : Nat, v = .int .i64 j ∧ Aside0 (j ≤ o'.o.fs.length) ∧ Aside0 (MS w0 wq g b B R rc L (h.at (mvAll L s (o'.o.fs.take j)).nx) mv tb false (mvAll L s (o'.o.fs.take j)).tt (mvAll L s (o'.o.fs.take j)).q) ∧ Aside0 (QOk L (mvAll L s (o'.o.fs.take j))) ∧ Aside0 ((mvAll L s (o'.o.fs.take j)).nx + 2 * (L.length - (mvAll L s (o'.o.fs.take j)).q.length) ≤ 1000000000000)) (fun v wq => o'.o.fs.length - (intOf v).toNat)
          case atStart => exact ⟨0, rfl, ⟨Nat.zero_le _⟩, HMd, HQ, HN⟩
          case round =>
            obtain ⟨j, rfl, hj, HM2, HQ2, HN2⟩ := hrel
            have hL := HL.out
            have hfl := HST.out.2.2
            by_cases hjt : j < o'.o.fs.length
            · have hjb : decide ((j : Int) < (o'.o.fs.length : Int)) = true := decide_eq_true (by omega)
              have hjl : (j : Int) < (o'.o.fs.length : Int) := by omega
              obtain ⟨hA, hrow⟩ := HM2.out.hw.row o' HO.out (by intro e; rw [e] at hjt; simp at hjt)
              have fc := hrow.cell hjt
              obtain ⟨f, hfx⟩ : ∃ f, f = o'.o.fs.getD j 0 := ⟨_, rfl⟩
              rw [← hfx] at fc
              have hq2 := HQ2.out.len
              have hn2 := HN2.out
              have hnx2 : (mvAll L s (o'.o.fs.take j)).nx ≤ 1000000000000000 := by omega
              have hql2 : (mvAll L s (o'.o.fs.take j)).q.length ≤ 1000000000000 := by omega
              have hnext : mvAll L s (o'.o.fs.take (j + 1)) = (mvF L (mvAll L s (o'.o.fs.take j)) f).2 := by
                rw [hfx]
                unfold mvAll
                rw [List.take_add_one, List.getElem?_eq_getElem hjt, List.foldl_append]
                simp [List.getD, List.getElem?_eq_getElem hjt]
              have hq3 := HQ2.out.move f
              have hn3 := mvF_nx L (mvAll L s (o'.o.fs.take j)) f
              have HNE := Aside0.mk hnext
              have HQ3 := Aside0.mk hq3
              have HN3 := Aside0.mk (show (mvF L (mvAll L s (o'.o.fs.take j)) f).2.nx + 2 * (L.length - (mvF L (mvAll L s (o'.o.fs.take j)) f).2.q.length) ≤ 1000000000000 by rw [hn3]; omega)
              rw [hA]
              clear hA hrow hq2 hn2 hq3 hn3 hnext hfx
              go_wp2_with fail
              refine (move_calls HM2.out _ hnx2 hql2).mono ?_
              rintro e w5 ⟨rfl, hms⟩
              have HM5 := Aside0.mk hms
              clear hms
              rw [← HNE.out] at HM5 HQ3 HN3
              go_wp2_with fail
              go_roundw
              case rel => exact ⟨j + 1, by go_num, ⟨hjt⟩, HM5, HQ3, HN3⟩
              case measure => simp [intOf]; omega
            · have hjb : decide ((j : Int) < (o'.o.fs.length : Int)) = false := decide_eq_false (by omega)
              have hjl : ¬ (j : Int) < (o'.o.fs.length : Int) := by omega
              have hj' := hj.out
              obtain rfl : j = o'.o.fs.length := by omega
              rw [List.take_length] at HM2 HQ2 HN2
              have hlen := HQ.out.len
              have hzn := HZ.out
              rw [show L.length + 1 - i = (L.length - i) + 1 from by omega] at hzn
              unfold runF at hzn
              rw [if_pos hlt, HST.out.1, if_neg hsk, show L.length - i = L.length + 1 - (i + 1) from by omega] at hzn
              have HZN := Aside0.mk hzn
              have hgrow := mvAll_len L s o'.o.fs
              clear hzn
              go_wp2_with fail
              go_roundw
              case rel => exact ⟨i + 1, _, by go_num, ⟨by omega⟩, HM2, HQ2, HZN, HN2⟩
              case measure => simp [intOf]; omega
        · rw [hs2] at o3
          rw [hs3] at o4
          clear hs2 hs3
          go_wp2_with fail
          go_loopw [53] (fun v wq => ∃ j : Nat, v = .int .i64 j ∧ Aside0 (j ≤ o'.o.fs.length) ∧ Aside0 (MS w0 wq g b B R rc L (h.at (mvAll L s (o'.o.fs.take j)).nx) mv tb false (mvAll L s (o'.o.fs.take j)).tt (mvAll L s (o'.o.fs.take j)).q) ∧ Aside0 (QOk L (mvAll L s (o'.o.fs.take j))) ∧ Aside0 ((mvAll L s (o'.o.fs.take j)).nx + 2 * (L.length - (mvAll L s (o'.o.fs.take j)).q.length) ≤ 1000000000000)) (fun v wq => o'.o.fs.length - (intOf v).toNat)
          case atStart => exact ⟨0, rfl, ⟨Nat.zero_le _⟩, HMd, HQ, HN⟩
          case round =>
            obtain ⟨j, rfl, hj, HM2, HQ2, HN2⟩ := hrel
            have hL := HL.out
            have hfl := HST.out.2.2
            by_cases hjt : j < o'.o.fs.length
            · have hjb : decide ((j : Int) < (o'.o.fs.length : Int)) = true := decide_eq_true (by omega)
              have hjl : (j : Int) < (o'.o.fs.length : Int) := by omega
              obtain ⟨hA, hrow⟩ := HM2.out.hw.row o' HO.out (by intro e; rw [e] at hjt; simp at hjt)
              have fc := hrow.cell hjt
              obtain ⟨f, hfx⟩ : ∃ f, f = o'.o.fs.getD j 0 := ⟨_, rfl⟩
              rw [← hfx] at fc
              have hq2 := HQ2.out.len
              have hn2 := HN2.out
              have hnx2 : (mvAll L s (o'.o.fs.take j)).nx ≤ 1000000000000000 := by omega
              have hql2 : (mvAll L s (o'.o.fs.take j)).q.length ≤ 1000000000000 := by omega
              have hnext : mvAll L s (o'.o.fs.take (j + 1)) = (mvF L (mvAll L s (o'.o.fs.take j)) f).2 := by
                rw [hfx]
                unfold mvAll
                rw [List.take_add_one, List.getElem?_eq_getElem hjt, List.foldl_append]
                simp [List.getD, List.getElem?_eq_getElem hjt]
              have hq3 := HQ2.out.move f
              have hn3 := mvF_nx L (mvAll L s (o'.o.fs.take j)) f
              have HNE := Aside0.mk hnext
              have HQ3 := Aside0.mk hq3
              have HN3 := Aside0.mk (show (mvF L (mvAll L s (o'.o.fs.take j)) f).2.nx + 2 * (L.length - (mvF L (mvAll L s (o'.o.fs.take j)) f).2.q.length) ≤ 1000000000000 by rw [hn3]; omega)
              rw [hA]
              clear hA hrow hq2 hn2 hq3 hn3 hnext hfx
              go_wp2_with fail
              refine (move_calls HM2.out _ hnx2 hql2).mono ?_
              rintro e w5 ⟨rfl, hms⟩
              have HM5 := Aside0.mk hms
              clear hms
              rw [← HNE.out] at HM5 HQ3 HN3
              go_wp2_with fail
              go_roundw
              case rel => exact ⟨j + 1, by go_num, ⟨hjt⟩, HM5, HQ3, HN3⟩
              case measure => simp [intOf]; omega
            · have hjb : decide ((j : Int) < (o'.o.fs.length : Int)) = false := decide_eq_false (by omega)
              have hjl : ¬ (j : Int) < (o'.o.fs.length : Int) := by omega
              have hj' := hj.out
              obtain rfl : j = o'.o.fs.length := by omega
              rw [List.take_length] at HM2 HQ2 HN2
              have hlen := HQ.out.len
              have hzn := HZ.out
              rw [show L.length + 1 - i = (L.length - i) + 1 from by omega] at hzn
              unfold runF at hzn
              rw [if_pos hlt, HST.out.1, if_neg hsk, show L.length - i = L.length + 1 - (i + 1) from by omega] at hzn
              have HZN := Aside0.mk hzn
              have hgrow := mvAll_len L s o'.o.fs
              clear hzn
              go_wp2_with fail
              go_roundw
              case rel => exact ⟨i + 1, _, by go_num, ⟨by omega⟩, HM2, HQ2, HZN, HN2⟩
              case measure => simp [intOf]; omega
    · have hltb : decide ((i : Int) < (s.q.length : Int)) = false := decide_eq_false (by omega)
      clear hm hq
      have hlen := HQ.out.len
      have hi' := hi.out
      go_wp2_with fail
      go_returns
      have hzs : z = s := by
        rw [HZ.out, show L.length + 1 - i = (L.length - i) + 1 from by omega]
        unfold runF
        rw [if_neg hlt]
      rw [hzs]
      exact ⟨rfl, HM.out, HQ.out⟩
end Go.Proofs.Ytlghnldlkbgajaa.S
