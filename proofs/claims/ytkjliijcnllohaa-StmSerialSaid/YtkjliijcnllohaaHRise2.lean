/- stm: rising, walked; Slots, Writes, Reads. -/
import Derived.Test.YtkjliijcnllohaaHRise1
namespace Go.Proofs.Ytkjliijcnllohaa.S
open Go.RowKit Go.Proofs.YtkjliijcnllohaaW.PrintWords Go.Proofs.YtkjliijcnllohaaW.PrintLast Go.Proofs.YtkjliijcnllohaaW.PrintMore
set_option linter.unusedVariables false
set_option linter.unusedSimpArgs false
def SA.k (x : SA) : ByteArray × Int × List Int := (x.name, x.ver, x.bs)
def keyS (S : List Ent) (n : ByteArray) : ByteArray × Int × List Int := (n, (sv S n).ver, (sv S n).bs)
def upTo (S : List Ent) (N : List ByteArray) : List (ByteArray × Int × List Int) := (N.filter fun n => (sv S n).had).map (keyS S)
/-- All slots that had bytes, by their names. -/
def listS (S : List Ent) : List (ByteArray × Int × List Int) := upTo S (sortS (S.map (·.name)))
def keyW (wb : ByteArray → List Int) (n : ByteArray) : ByteArray × Int × List Int := (n, 0, wb n)
/-- What is to be written, by the names. -/
def listW (m : List (ByteArray × Value)) (wb : ByteArray → List Int) : List (ByteArray × Int × List Int) := (sortS (m.map (·.1))).map (keyW wb)
theorem upTo_snoc (S : List Ent) (N : List ByteArray) (n : ByteArray) : upTo S (N ++ [n]) = upTo S N ++ (if (sv S n).had = true then [keyS S n] else []) := by
  unfold upTo
  rw [List.filter_append, List.map_append]
  congr 1
  by_cases h : (sv S n).had = true <;> simp [List.filter_cons, h]
theorem upTo_len (S : List Ent) (N : List ByteArray) : (upTo S N).length ≤ N.length := by
  unfold upTo; rw [List.length_map]; exact List.length_filter_le _ _
/-- A row of names in memory: its cells. -/
theorem names_form {w : World} {base n : Nat} {v : Value} {N : List ByteArray} (h : w.ownsRow base 9 1 v n (N.map Value.string)) (hn : N.length = n) :
    ∃ A c, v = .slice A n c ∧ ∀ i (hi : i < N.length), ∃ kb, A = some ⟨kb, 0, none⟩ ∧ w.cell? ⟨kb, i, none⟩ = some (.string N[i]) := by
  rcases h.2 with ⟨h1, h2⟩ | ⟨g, cap, cur, h1, h2, h3, h4, h5, h6, h7⟩
  · exact ⟨none, 0, by rw [h2, h1], fun i hi => by omega⟩
  · refine ⟨_, cap, h1, fun i hi => ⟨g, rfl, ?_⟩⟩
    refine (blk_cell h3 i).trans ?_
    have : cur[i]? = (N.map Value.string)[i]? := by
      rw [← h7, List.getElem?_take, if_pos (by omega)]; simp
    rw [this]
    simp [hi]
theorem take_snoc {α : Type} (l : List α) {i : Nat} (h : i < l.length) : l.take (i + 1) = l.take i ++ [l[i]] := List.take_succ_eq_append_getElem h

set_option maxRecDepth 100000 in
set_option maxHeartbeats 1000000 in
theorem rising45_calls {w : World} {B g0 : Nat} {v : Value} {s bm : Nat} {clock : Int} {S : List Ent} (H : LAt w B g0 v []) (hB : B ≤ w.heap.size) (hM : SpAt w s bm clock S) (hfit : ∀ x ∈ S, x.name.size ≤ 11) (hlen : S.length ≤ 100000000) :
    Calls Try.prog 45 #[.map (some bm), .func (.func 46) #[] #[ptr g0]] w fun e w' => e = .returned (.tuple #[]) ∧ ∃ v' L, LAt w' B g0 v' L ∧ L.map SA.k = listS S ∧ Fs B w w' := by
  have hkk : ∀ p ∈ S.map Ent.pair, p.1.size ≤ 11 := fun p hp => by obtain ⟨x, hx, rfl⟩ := List.mem_map.1 hp; exact hfit x hx
  have hso := sorted66 hM.mp (by rw [List.length_map]; omega) hkk
  rw [List.length_map, List.map_map] at hso
  have HSO := Aside0.mk (show Calls Try.prog 47 _ _ fun e w' => ∃ v, e = .returned v ∧ w'.ownsRow (w.heap.size + 1) 9 1 v S.length ((sortS (S.map (·.name))).map Value.string) ∧ (v = .slice none 0 0 ↔ S.map Ent.pair = []) ∧ Below w.heap.size w w' from hso)
  have HL := Aside0.mk H
  have HBB := Aside0.mk hB
  have HS := Aside0.mk hM
  have HLE := Aside0.mk hlen
  clear hso hkk
  clear H hlen hfit hM hB
  unfold ptr
  go_enter Try.func45, Try.ntmps45
  go_wp2_with fail
  refine (keys66 (some bm) w).mono ?_
  rintro e w1 ⟨rfl, rfl⟩
  go_wp2_with fail
  refine HSO.out.mono ?_
  rintro e w1 ⟨kv, rfl, hown, -, hb⟩
  obtain ⟨kA, kc, rfl, hcells⟩ := names_form hown (by rw [sortS_len, List.length_map])
  have HB1 := Aside0.mk hb
  have HCE := Aside0.mk hcells
  have HOW := Aside0.mk hown
  have HL1 := Aside0.mk (HL.out.same hb)
  clear HSO hb hcells hown HL
  obtain ⟨N, hN⟩ : ∃ N, N = sortS (S.map (·.name)) := ⟨_, rfl⟩
  obtain ⟨nn, hnn⟩ : ∃ nn, nn = S.length := ⟨_, rfl⟩
  have hNl : N.length = nn := by rw [hN, hnn, sortS_len, List.length_map]
  have HN := Aside0.mk hN
  have HNN := Aside0.mk hnn
  have HNL := Aside0.mk hNl
  rw [← hN] at HCE HOW
  rw [← hnn] at HOW ⊢
  have hnb : nn ≤ 100000000 := by rw [hnn]; exact HLE.out
  clear hN hnn hNl
  go_wp2_with fail
  go_loopw [10] (fun v10 wr => ∃ (i : Nat) (v : Value) (L : List SA), v10 = .int .i64 i ∧ Aside0 (i ≤ nn) ∧ Aside0 (LAt wr B g0 v L) ∧ Aside0 (L.map SA.k = upTo S (N.take i)) ∧ Aside0 (Fs B w1 wr)) (fun v10 wr => nn - (intOf v10).toNat)
  case atStart => exact ⟨0, _, [], rfl, ⟨Nat.zero_le _⟩, HL1, ⟨rfl⟩, ⟨Fs.refl _ _⟩⟩
  case round =>
    clear HL1
    obtain ⟨i, v, L, rfl, hi, HL, HLL, HF⟩ := hrel
    by_cases hlt : i < nn
    · have hlt' : ((i : Int) < (nn : Int)) := by omega
      have hltb : decide ((i : Int) < (nn : Int)) = true := decide_eq_true hlt'
      have hiN : i < N.length := by rw [HNL.out]; exact hlt
      obtain ⟨kb, hkA, -⟩ := HCE.out i hiN
      cases hkA
      obtain ⟨A2, c2, e2, hcl⟩ := names_form (ownsRow_fs HOW.out HF.out) HNL.out
      cases e2
      obtain ⟨kb2, e3, kcell⟩ := hcl i hiN
      cases e3
      have HTK := Aside0.mk (take_snoc N hiN)
      have HIN := Aside0.mk (show N[i] ∈ N from List.getElem_mem hiN)
      have HLN := Aside0.mk (show L.length ≤ i from by
        have h1 := congrArg List.length HLL.out
        rw [List.length_map] at h1
        rw [h1]
        exact Nat.le_trans (upTo_len _ _) (by rw [List.length_take]; omega))
      generalize N[i] = nm at *
      have hB1 : B ≤ wr.heap.size := Nat.le_trans (Nat.le_trans HBB.out HB1.out.size) HF.out.size
      have HB2 := Aside0.mk hB1
      have hex : ∃ x ∈ S, x.name = nm := by
        have h1 := HIN.out
        rw [HN.out] at h1
        obtain ⟨x, hx, e⟩ := List.mem_map.1 (sortS_mem.1 h1)
        exact ⟨x, hx, e⟩
      obtain ⟨x, hx, rfl⟩ := hex
      have hSr : SpAt wr s bm clock S := (HS.out.fs (Fs.ofBelow B HB1.out)).fs HF.out
      have hl := map_lookup Try.underlying61 Try.underlying9 (Try.zeroValue78 wr) hSr.mp x.name false
      have hg : get? (S.map Ent.pair) x.name = some (ptr x.g) := by
        refine get_of_mem ?_ (List.mem_map.2 ⟨x, hx, rfl⟩)
        have := hSr.names
        rw [List.pairwise_map]
        exact this
      rw [hg] at hl
      simp only [Bool.false_eq_true, if_false, Option.getD_some] at hl
      have hsv := sv_mem hSr.names hx
      have HSX := Aside0.mk (hSr.slot x hx)
      have HRX := Aside0.mk (hSr.rows x hx)
      have HSV := Aside0.mk hsv
      have HKK := Aside0.mk (show keyS S x.name = (x.name, x.ver, x.bs) by unfold keyS; rw [hsv]; rfl)
      have HLL1 : Aside0 (L.length < 1000000000) := ⟨by have := HLN.out; omega⟩
      unfold ptr at hl
      clear hSr hg hsv hcl hx
      cases hh : x.had with
      | true =>
        have HC := Aside0.mk (sl1_had HL.out HB2.out HSX.out HRX.out hh HLL1.out)
        have HH := Aside0.mk hh
        clear hh
        unfold ptr at HC
        go_wp2_with fail
        refine HC.out.mono ?_
        rintro e w3 ⟨rfl, v3, bv3, hl3, hf3⟩
        have H3 := Aside0.mk hl3
        have H4 := Aside0.mk (HF.out.trans hf3)
        clear hl3 hf3 hl kcell
        go_wp2_with fail
        go_roundw
        case rel => exact ⟨i + 1, v3, _, by go_num, ⟨hlt⟩, H3, ⟨by rw [List.map_append, HLL.out, HTK.out, upTo_snoc, if_pos (by rw [HSV.out]; exact HH.out), HKK.out]; rfl⟩, H4⟩
        case measure => simp [intOf]; omega
      | false =>
        have HC := Aside0.mk (sl1_no (g0 := g0) HSX.out hh)
        have HH := Aside0.mk hh
        clear hh
        unfold ptr at HC
        go_wp2_with fail
        refine HC.out.mono ?_
        rintro e w3 ⟨rfl, rfl⟩
        clear hl kcell
        go_wp2_with fail
        go_roundw
        case rel => exact ⟨i + 1, v, L, by go_num, ⟨hlt⟩, HL, ⟨by rw [HLL.out, HTK.out, upTo_snoc, if_neg (by rw [HSV.out]; show ¬ x.had = true; rw [HH.out]; simp), List.append_nil]⟩, HF⟩
        case measure => simp [intOf]; omega
    · have hltb : decide ((i : Int) < (nn : Int)) = false := decide_eq_false (by omega)
      go_wp2_with fail
      go_returns
      have e : i = nn := by have := hi.out; omega
      have hall : N.take i = N := List.take_of_length_le (by rw [HNL.out]; omega)
      refine ⟨rfl, _, _, HL.out, ?_, (Fs.ofBelow B HB1.out).trans HF.out⟩
      rw [HLL.out, hall, HN.out]
      rfl

set_option maxRecDepth 100000 in
set_option maxHeartbeats 1000000 in
theorem rising43_calls {w : World} {B g0 : Nat} {v : Value} {bw : Nat} {m : List (ByteArray × Value)} {wb : ByteArray → List Int} (H : LAt w B g0 v []) (hB : B ≤ w.heap.size) (hM : MapIs w bw m) (hr : ∀ p ∈ m, RowAt w p.2 (wb p.1)) (hfit : ∀ x ∈ m, x.1.size ≤ 11) (hlen : m.length ≤ 100000000) :
    Calls Try.prog 43 #[.map (some bw), .func (.func 44) #[] #[ptr g0]] w fun e w' => e = .returned (.tuple #[]) ∧ ∃ v' L, LAt w' B g0 v' L ∧ L.map SA.k = listW m wb ∧ Fs B w w' := by
  have hso := sorted65 hM (by omega) hfit
  have HSO := Aside0.mk hso
  have HL := Aside0.mk H
  have HBB := Aside0.mk hB
  have HS := Aside0.mk hM
  have HR := Aside0.mk hr
  have HLE := Aside0.mk hlen
  clear hso hr
  clear H hlen hfit hM hB
  unfold ptr
  go_enter Try.func43, Try.ntmps43
  go_wp2_with fail
  refine (keys65 (some bw) w).mono ?_
  rintro e w1 ⟨rfl, rfl⟩
  go_wp2_with fail
  refine HSO.out.mono ?_
  rintro e w1 ⟨kv, rfl, hown, -, hb⟩
  obtain ⟨kA, kc, rfl, hcells⟩ := names_form hown (by rw [sortS_len, List.length_map])
  have HB1 := Aside0.mk hb
  have HCE := Aside0.mk hcells
  have HOW := Aside0.mk hown
  have HL1 := Aside0.mk (HL.out.same hb)
  clear HSO hb hcells hown HL
  obtain ⟨N, hN⟩ : ∃ N, N = sortS (m.map (·.1)) := ⟨_, rfl⟩
  obtain ⟨nn, hnn⟩ : ∃ nn, nn = m.length := ⟨_, rfl⟩
  have hNl : N.length = nn := by rw [hN, hnn, sortS_len, List.length_map]
  have HN := Aside0.mk hN
  have HNN := Aside0.mk hnn
  have HNL := Aside0.mk hNl
  rw [← hN] at HCE HOW
  rw [← hnn] at HOW ⊢
  have hnb : nn ≤ 100000000 := by rw [hnn]; exact HLE.out
  clear hN hnn hNl
  go_wp2_with fail
  go_loopw [10] (fun v10 wr => ∃ (i : Nat) (v : Value) (L : List SA), v10 = .int .i64 i ∧ Aside0 (i ≤ nn) ∧ Aside0 (LAt wr B g0 v L) ∧ Aside0 (L.map SA.k = (N.take i).map (keyW wb)) ∧ Aside0 (Fs B w1 wr)) (fun v10 wr => nn - (intOf v10).toNat)
  case atStart => exact ⟨0, _, [], rfl, ⟨Nat.zero_le _⟩, HL1, ⟨rfl⟩, ⟨Fs.refl _ _⟩⟩
  case round =>
    clear HL1
    obtain ⟨i, v, L, rfl, hi, HL, HLL, HF⟩ := hrel
    by_cases hlt : i < nn
    · have hlt' : ((i : Int) < (nn : Int)) := by omega
      have hltb : decide ((i : Int) < (nn : Int)) = true := decide_eq_true hlt'
      have hiN : i < N.length := by rw [HNL.out]; exact hlt
      obtain ⟨kb, hkA, -⟩ := HCE.out i hiN
      cases hkA
      obtain ⟨A2, c2, e2, hcl⟩ := names_form (ownsRow_fs HOW.out HF.out) HNL.out
      cases e2
      obtain ⟨kb2, e3, kcell⟩ := hcl i hiN
      cases e3
      have HTK := Aside0.mk (take_snoc N hiN)
      have HIN := Aside0.mk (show N[i] ∈ N from List.getElem_mem hiN)
      have HLN := Aside0.mk (show L.length ≤ i from by
        have h1 := congrArg List.length HLL.out
        rw [List.length_map] at h1
        rw [h1]
        rw [List.length_map, List.length_take]; omega)
      generalize N[i] = nm at *
      have hB1 : B ≤ wr.heap.size := Nat.le_trans (Nat.le_trans HBB.out HB1.out.size) HF.out.size
      have HB2 := Aside0.mk hB1
      have hex : ∃ x ∈ m, x.1 = nm := by
        have h1 := HIN.out
        rw [HN.out] at h1
        obtain ⟨x, hx, e⟩ := List.mem_map.1 (sortS_mem.1 h1)
        exact ⟨x, hx, e⟩
      obtain ⟨x, hx, rfl⟩ := hex
      have hSr : MapIs wr bw m := (HS.out.fs (Fs.ofBelow B HB1.out)).fs HF.out
      have hl := map_lookup Try.underlying47 Try.underlying9 (Try.zeroValue22 wr) hSr x.1 false
      have hg : get? m x.1 = some x.2 := by
        obtain ⟨es, c, h1, h2, h3⟩ := hSr
        exact get_of_mem (pairs_apart h2 h3) hx
      rw [hg] at hl
      simp only [Bool.false_eq_true, if_false, Option.getD_some] at hl
      have hrow := ((HR.out x hx).fs (Fs.ofBelow B HB1.out)).fs HF.out
      have HLL1 : Aside0 (L.length < 1000000000) := ⟨by have := HLN.out; omega⟩
      have HC := Aside0.mk (wr1_calls (name := x.1) HL.out HB2.out hrow.reads HLL1.out)
      clear hSr hg hcl hx hrow
      unfold ptr at HC
      go_wp2_with fail
      refine HC.out.mono ?_
      rintro e w3 ⟨rfl, v3, bv3, hl3, hf3⟩
      have H3 := Aside0.mk hl3
      have H4 := Aside0.mk (HF.out.trans hf3)
      clear hl3 hf3 hl kcell
      go_wp2_with fail
      go_roundw
      case rel => exact ⟨i + 1, v3, _, by go_num, ⟨hlt⟩, H3, ⟨by rw [List.map_append, HLL.out, HTK.out, List.map_append]; rfl⟩, H4⟩
      case measure => simp [intOf]; omega
    · have hltb : decide ((i : Int) < (nn : Int)) = false := decide_eq_false (by omega)
      go_wp2_with fail
      go_returns
      have e : i = nn := by have := hi.out; omega
      have hall : N.take i = N := List.take_of_length_le (by rw [HNL.out]; omega)
      refine ⟨rfl, _, _, HL.out, ?_, (Fs.ofBelow B HB1.out).trans HF.out⟩
      rw [HLL.out, hall, HN.out]
      rfl

set_option maxRecDepth 100000 in
/-- Slots of a space. -/
theorem slots_calls {w : World} {s bm : Nat} {clock : Int} {S : List Ent} (h : SpAt w s bm clock S) (hfit : ∀ x ∈ S, x.name.size ≤ 11) (hlen : S.length ≤ 100000000) :
    Calls Try.prog 26 #[ptr s] w fun e w' => ∃ v L, e = .returned v ∧ SlotsAt w' v L ∧ L.map SA.k = listS S ∧ Below w.heap.size w w' := by
  have hb1 : Below w.heap.size w (w.alloc (.cells #[.slice none 0 0] 29)) := (Below.refl _ w).alloc (Nat.le_refl _) _
  have c1 : (w.alloc (.cells #[.slice none 0 0] 29)).cell? ⟨s, 0, none⟩ = some (.map (some bm)) := Lib.cell?_alloc_some _ h.c0
  have HC := Aside0.mk (rising45_calls (LAt.new w (Nat.le_refl _)) (by simp) (h.fs (Fs.ofBelow 0 hb1)) hfit hlen)
  have HLE := Aside0.mk hlen
  have HB := Aside0.mk hb1
  unfold ptr
  unfold ptr at HC
  clear h hfit hlen hb1
  go_enter Try.func26, Try.ntmps26
  go_wp2_with fail
  refine HC.out.mono ?_
  rintro e w1 ⟨rfl, v, L, hl, hk, hf⟩
  obtain ⟨A, c, rfl⟩ := hl.form
  have c2 : w1.cell? ⟨w.heap.size, 0, none⟩ = some (.slice A L.length c) := (blk_cell hl.cell 0).trans rfl
  have hll : L.length ≤ 1000000000 := by
    have h1 := congrArg List.length hk
    rw [List.length_map] at h1
    rw [h1]
    have h2 := upTo_len S (sortS (S.map (·.name)))
    rw [sortS_len, List.length_map] at h2
    have := HLE.out
    exact Nat.le_trans h2 (by omega)
  have HS := Aside0.mk (hl.slots hll)
  have HK := Aside0.mk hk
  have HF := Aside0.mk hf
  clear hl hk hf hll
  go_wp2_with fail
  go_returns
  exact ⟨_, L, rfl, HS.out, HK.out, HB.out.trans (HF.out.below (by simp))⟩
set_option maxRecDepth 100000 in
/-- Writes of a transaction. -/
theorem writes_calls {w : World} {t s br bw : Nat} {time phase : Int} {m : List (ByteArray × Value)} {wb : ByteArray → List Int} (ht : TxAt w t s time phase br bw) (hm : MapIs w bw m) (hr : ∀ p ∈ m, RowAt w p.2 (wb p.1)) (hfit : ∀ x ∈ m, x.1.size ≤ 11) (hlen : m.length ≤ 100000000) :
    Calls Try.prog 23 #[ptr t] w fun e w' => ∃ v L, e = .returned v ∧ SlotsAt w' v L ∧ L.map SA.k = listW m wb ∧ Below w.heap.size w w' := by
  have hb1 : Below w.heap.size w (w.alloc (.cells #[.slice none 0 0] 29)) := (Below.refl _ w).alloc (Nat.le_refl _) _
  have c1 : (w.alloc (.cells #[.slice none 0 0] 29)).cell? ⟨t, 4, none⟩ = some (.map (some bw)) := Lib.cell?_alloc_some _ ht.c4
  have HC := Aside0.mk (rising43_calls (LAt.new w (Nat.le_refl _)) (by simp) (hm.fs (Fs.ofBelow 0 hb1)) (fun p hp => (hr p hp).fs (Fs.ofBelow 0 hb1)) hfit hlen)
  have HLE := Aside0.mk hlen
  have HB := Aside0.mk hb1
  unfold ptr
  unfold ptr at HC
  clear ht hm hr hfit hlen hb1
  go_enter Try.func23, Try.ntmps23
  go_wp2_with fail
  refine HC.out.mono ?_
  rintro e w1 ⟨rfl, v, L, hl, hk, hf⟩
  obtain ⟨A, c, rfl⟩ := hl.form
  have c2 : w1.cell? ⟨w.heap.size, 0, none⟩ = some (.slice A L.length c) := (blk_cell hl.cell 0).trans rfl
  have hll : L.length ≤ 1000000000 := by
    have h1 := congrArg List.length hk
    rw [List.length_map] at h1
    rw [h1]
    unfold listW
    rw [List.length_map, sortS_len, List.length_map]
    have := HLE.out
    omega
  have HS := Aside0.mk (hl.slots hll)
  have HK := Aside0.mk hk
  have HF := Aside0.mk hf
  clear hl hk hf hll
  go_wp2_with fail
  go_returns
  exact ⟨_, L, rfl, HS.out, HK.out, HB.out.trans (HF.out.below (by simp))⟩
set_option maxRecDepth 100000 in
/-- Reads of a transaction. -/
theorem reads_calls {w : World} {t s br bw : Nat} {time phase : Int} {mr : List (ByteArray × Value)} (ht : TxAt w t s time phase br bw) (hm : MapIs w br mr) (hfit : ∀ x ∈ mr, x.1.size ≤ 11) (hlen : mr.length ≤ 100000000) :
    Calls Try.prog 28 #[ptr t] w fun e w' => ∃ v, e = .returned v ∧ w'.ownsRow (w.heap.size + 1) 9 1 v mr.length ((sortS (mr.map (·.1))).map Value.string) ∧ (v = .slice none 0 0 ↔ mr = []) ∧ Below w.heap.size w w' := by
  have c0 := ht.c3
  have HC := Aside0.mk (sorted48 hm (by omega) hfit)
  unfold ptr
  clear ht hm hfit hlen
  go_enter Try.func28, Try.ntmps28
  go_wp2_with fail
  refine (keys48 (some br) w).mono ?_
  rintro e w1 ⟨rfl, rfl⟩
  go_wp2_with fail
  refine HC.out.mono ?_
  rintro e w1 ⟨v, rfl, h1, h2, h3⟩
  have H1 := Aside0.mk (And.intro h1 (And.intro h2 h3))
  clear h1 h2 h3 HC
  go_wp2_with fail
  go_returns
  exact ⟨_, rfl, H1.out⟩
end Go.Proofs.Ytkjliijcnllohaa.S
