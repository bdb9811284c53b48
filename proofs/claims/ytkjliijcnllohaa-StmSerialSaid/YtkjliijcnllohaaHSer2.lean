/- stm: StmSerial: maps of bytes by names; bytesOf. -/
import Derived.Test.YtkjliijcnllohaaHSer1
namespace Go.Proofs.Ytkjliijcnllohaa.S
open Go.RowKit Go.Proofs.YtkjliijcnllohaaW.PrintWords Go.Proofs.YtkjliijcnllohaaW.PrintLast Go.Proofs.YtkjliijcnllohaaW.PrintMore
set_option linter.unusedVariables false
set_option linter.unusedSimpArgs false
theorem get_cons (p : ByteArray × Value) (m : List (ByteArray × Value)) (n : ByteArray) : get? (p :: m) n = if p.1 = n then some p.2 else get? m n := by
  unfold get?
  rw [List.find?_cons]
  by_cases h : p.1 = n <;> simp [h]
theorem get_append (m : List (ByteArray × Value)) (p : ByteArray × Value) (n : ByteArray) : get? (m ++ [p]) n = (get? m n).or (if p.1 = n then some p.2 else none) := by
  induction m with
  | nil => rw [List.nil_append, get_cons]; simp [get?]
  | cons q m ih =>
    rw [List.cons_append, get_cons, get_cons, ih]
    split <;> simp
theorem get_map (m : List (ByteArray × Value)) (s : ByteArray) (v : Value) (n : ByteArray) : get? (m.map (fun p => if p.1 = s then (s, v) else p)) n = if n = s then (get? m s).map (fun _ => v) else get? m n := by
  induction m with
  | nil => simp [get?]
  | cons q m ih =>
    rw [List.map_cons, get_cons, get_cons, get_cons, ih]
    by_cases h1 : q.1 = s
    · simp only [if_pos h1]
      by_cases h2 : n = s
      · subst h2; simp
      · rw [if_neg (fun e => h2 e.symm), if_neg h2, if_neg h2, if_neg (fun e => h2 (by rw [← e]; exact h1))]
    · simp only [if_neg h1]
      by_cases h2 : n = s
      · subst h2; simp [h1]
      · rw [if_neg h2]; simp only [if_neg h2]
theorem get_put (m : List (ByteArray × Value)) (s : ByteArray) (v : Value) (n : ByteArray) : get? (put m s v) n = if n = s then some v else get? m n := by
  unfold put
  by_cases h : (get? m s).isSome = true
  · rw [if_pos h, get_map]
    obtain ⟨u, hu⟩ := Option.isSome_iff_exists.1 h
    rw [hu]; rfl
  · rw [if_neg h, get_append]
    have hn : get? m s = none := by simpa using h
    by_cases h2 : n = s
    · subst h2; rw [hn]; simp
    · rw [if_neg (fun e => h2 e.symm), if_neg h2]; simp
theorem has_put (m : List (ByteArray × Value)) (s : ByteArray) (v : Value) (n : ByteArray) : has (put m s v) n = (decide (n = s) || has m n) := by
  unfold has
  rw [get_put]
  by_cases h : n = s <;> simp [h]
theorem put_len (m : List (ByteArray × Value)) (s : ByteArray) (v : Value) : (put m s v).length ≤ m.length + 1 := by
  unfold put; split <;> simp
theorem mem_put {m : List (ByteArray × Value)} {s : ByteArray} {v : Value} {p : ByteArray × Value} (h : p ∈ put m s v) : p = (s, v) ∨ (p ∈ m ∧ p.1 ≠ s) := by
  unfold put at h
  split at h
  · obtain ⟨q, hq, rfl⟩ := List.mem_map.1 h
    by_cases e : q.1 = s
    · rw [if_pos e]; exact .inl rfl
    · rw [if_neg e]; exact .inr ⟨hq, e⟩
  · rename_i hn
    rcases List.mem_append.1 h with h | h
    · refine .inr ⟨h, fun e => ?_⟩
      have : get? m s = none := by simpa using hn
      exact get_none.1 this p h e
    · exact .inl (List.mem_singleton.1 h)
/-- A map of bytes: what each name has. -/
def RowsOf (w : World) (m : List (ByteArray × Value)) (f : ByteArray → List Int) : Prop := ∀ p ∈ m, RowAt w p.2 (f p.1)
theorem RowsOf.fr {T : List Nat} {w w' : World} {m : List (ByteArray × Value)} {f : ByteArray → List Int} (h : RowsOf w m f) (hf : Fr T w w') : RowsOf w' m f := fun p hp => (h p hp).fr hf
theorem RowsOf.put {w : World} {m : List (ByteArray × Value)} {f g : ByteArray → List Int} (h : RowsOf w m f) {s : ByteArray} {v : Value} (hv : RowAt w v (g s)) (hg : ∀ n, n ≠ s → g n = f n) : RowsOf w (put m s v) g := fun p hp => by
  rcases mem_put hp with rfl | ⟨h1, h2⟩
  · exact hv
  · rw [hg _ h2]; exact h p h1
theorem RowsOf.nil (w : World) (f : ByteArray → List Int) : RowsOf w [] f := fun p hp => by simp at hp
/-- What a look-up in such a map reads as. -/
theorem RowsOf.look {w : World} {m : List (ByteArray × Value)} {f : ByteArray → List Int} (h : RowsOf w m f) (n : ByteArray) : RowAt w ((get? m n).getD (.slice none 0 0)) (if has m n = true then f n else []) := by
  unfold has
  cases hg : get? m n with
  | none => simp only [Option.isSome_none, Bool.false_eq_true, if_false, Option.getD_none]; exact RowAt.nil w
  | some v => simp only [Option.isSome_some, if_true, Option.getD_some]; exact h _ (get_some_mem hg)
theorem listS_mem {S : List Ent} {y : ByteArray × Int × List Int} : y ∈ listS S ↔ ∃ n ∈ S.map (·.name), (sv S n).had = true ∧ y = keyS S n := by
  unfold listS upTo
  rw [List.mem_map]
  constructor
  · rintro ⟨n, hn, rfl⟩
    rw [List.mem_filter] at hn
    exact ⟨n, sortS_mem.1 hn.1, hn.2, rfl⟩
  · rintro ⟨n, hn, hh, rfl⟩
    exact ⟨n, List.mem_filter.2 ⟨sortS_mem.2 hn, hh⟩, rfl⟩
theorem had_name {S : List Ent} {n : ByteArray} (h : (sv S n).had = true) : n ∈ S.map (·.name) := by
  unfold sv at h
  cases hf : find S n with
  | none => rw [hf] at h; cases h
  | some x =>
    unfold find at hf
    have h1 := List.find?_some hf
    exact List.mem_map.2 ⟨x, List.mem_of_find?_eq_some hf, by simpa using h1⟩
set_option maxRecDepth 100000 in
set_option maxHeartbeats 1000000 in
/-- All slots by their names, as a map. -/
theorem bytesOf_calls {w : World} {s bm : Nat} {clock : Int} {S : List Ent} (h : SpAt w s bm clock S) (hfit : ∀ x ∈ S, x.name.size ≤ 11) (hlen : S.length ≤ 100000000) :
    Calls Try.prog 21 #[ptr s] w fun e w' => ∃ gb Gm, e = .returned (.map (some gb)) ∧ w.heap.size ≤ gb ∧ MapIs w' gb Gm ∧ RowsOf w' Gm (fun n => (sv S n).bs) ∧ (∀ n, has Gm n = (sv S n).had) ∧ Below w.heap.size w w' := by
  have hmm := @run_makeMap Try.prog
  have hu28 := Try.underlying28
  have hb1 : Below w.heap.size w (w.alloc (.map #[] 0)) := (Below.refl _ w).alloc (Nat.le_refl _) _
  have HC := Aside0.mk (slots_calls (h.fs (Fs.ofBelow 0 hb1)) hfit hlen)
  have HM := Aside0.mk (MapIs.new w)
  have HB := Aside0.mk hb1
  unfold ptr
  unfold ptr at HC
  clear h hfit hlen hb1
  go_enter Try.func21, Try.ntmps21
  go_wp2_with fail
  refine HC.out.mono ?_
  rintro e w1 ⟨v, L, rfl, hs, hk, hb⟩
  obtain ⟨p, c, rfl, hin⟩ := hs.in_
  have hsz : (w.alloc (.map #[] 0)).heap.size = w.heap.size + 1 := by simp
  have HM1 := Aside0.mk (HM.out.fr (Fr.ofBelow hb []) (by simp))
  have HBW := Aside0.mk (HB.out.trans (hb.mono (by rw [hsz]; omega)))
  have hmx := hin.1
  have HSL := Aside0.mk (And.intro hs hk)
  obtain ⟨gb, hgb⟩ : ∃ gb, gb = w.heap.size := ⟨_, rfl⟩
  rw [← hgb] at HM1 ⊢
  have HG := Aside0.mk hgb
  have HNR := Aside0.mk (fun c fz => HM1.out.norow c 28 fz)
  clear hs hk hb hin hsz HC HM HB hgb
  go_wp2_with fail
  go_loopw [10] (fun v10 wr => ∃ (i : Nat) (Gm : List (ByteArray × Value)), v10 = .int .i64 i ∧ Aside0 (i ≤ L.length) ∧ Aside0 (MapIs wr gb Gm) ∧ Aside0 (RowsOf wr Gm (fun n => (sv S n).bs)) ∧ Aside0 (∀ n, has Gm n = true ↔ n ∈ (L.take i).map SA.name) ∧ Aside0 (Fr [gb] w1 wr)) (fun v10 wr => L.length - (intOf v10).toNat)
  case atStart => exact ⟨0, [], rfl, ⟨Nat.zero_le _⟩, HM1, ⟨RowsOf.nil _ _⟩, ⟨fun n => by simp [has, get?]⟩, ⟨Fr.refl _ _⟩⟩
  case round =>
    clear HM1
    obtain ⟨i, Gm, rfl, hi, HM, HR, HH, HF⟩ := hrel
    by_cases hlt : i < L.length
    · have hlt' : ((i : Int) < (L.length : Int)) := by omega
      have hltb : decide ((i : Int) < (L.length : Int)) = true := decide_eq_true hlt'
      have hsr := HSL.out.1.fr HF.out (fun k hk c fz => by
        obtain rfl := List.mem_singleton.1 hk
        exact HNR.out c fz)
      obtain ⟨p2, c2, e2, hin2⟩ := hsr.in_
      simp only [Value.slice.injEq] at e2
      obtain ⟨rfl, -, rfl⟩ := e2
      obtain ⟨ad, hA, x0, x1, x2, -⟩ := hin2.2 i hlt
      cases hA
      have hrow := hsr.2.2 _ (List.getElem_mem hlt)
      have hkey : (L[i]'hlt).k ∈ listS S := by rw [← HSL.out.2]; exact List.mem_map.2 ⟨_, List.getElem_mem hlt, rfl⟩
      obtain ⟨n, hn, hh, hke⟩ := listS_mem.1 hkey
      have hbs : (L[i]'hlt).bs = (sv S (L[i]'hlt).name).bs := by
        unfold SA.k keyS at hke
        simp only [Prod.mk.injEq] at hke
        rw [hke.1, hke.2.2]
      rw [hbs] at hrow
      have HEL : Aside0 (∀ n, n ∈ (L.take (i + 1)).map SA.name ↔ n ∈ (L.take i).map SA.name ∨ n = (L[i]'hlt).name) := ⟨fun n => by
        rw [List.take_succ_eq_append_getElem hlt, List.map_append, List.mem_append]; simp⟩
      generalize (L[i]'hlt).name = nm at x0 hrow HEL
      generalize (L[i]'hlt).ver = vr at x1
      generalize (L[i]'hlt).v = vv at x2 hrow
      obtain ⟨A8, n8, c8, rfl⟩ := hrow.form
      have hbA : Below wr.heap.size wr (wr.alloc (.cells #[.string nm, .int .i64 vr, .slice A8 n8 c8] 28)) := (Below.refl _ wr).alloc (Nat.le_refl _) _
      obtain ⟨w3, hu, hm3, hbut⟩ := map_update (P := Try.prog) Try.underlying47 Try.underlying9 (HM.out.fr (Fr.ofBelow hbA []) (by simp)) nm (.slice A8 n8 c8)
      have hf3 : Fr [gb] wr w3 := (Fr.ofBelow hbA [gb]).trans (Fr.but1 hbut (MapIs.norow (HM.out.fr (Fr.ofBelow hbA []) (by simp))))
      have HU := Aside0.mk (And.intro hm3 (And.intro hf3 (hrow.fr hf3)))
      clear hsr hrow hkey hn hh hke hbs hbA hm3 hbut hf3 hin2
      go_wp2_with fail
      go_roundw
      case rel =>
        refine ⟨i + 1, _, by go_num, ⟨hlt⟩, ⟨HU.out.1⟩, ⟨RowsOf.put (HR.out.fr HU.out.2.1) HU.out.2.2 (fun _ _ => rfl)⟩, ⟨fun n => ?_⟩, ⟨HF.out.trans HU.out.2.1⟩⟩
        rw [has_put, HEL.out, Bool.or_eq_true, HH.out n, decide_eq_true_eq]
        exact or_comm
      case measure => simp [intOf]; omega
    · have hltb : decide ((i : Int) < (L.length : Int)) = false := decide_eq_false (by omega)
      go_wp2_with fail
      go_returns
      have e : i = L.length := by have := hi.out; omega
      refine ⟨gb, Gm, rfl, by rw [HG.out]; exact Nat.le_refl _, HM.out, HR.out, fun n => ?_, HBW.out.trans (HF.out.below HBW.out.size (fun k hk => by obtain rfl := List.mem_singleton.1 hk; rw [HG.out]; exact Nat.le_refl _))⟩
      rw [Bool.eq_iff_iff, HH.out n, e, List.take_length]
      constructor
      · intro hm
        obtain ⟨x, hx, rfl⟩ := List.mem_map.1 hm
        have hkey : x.k ∈ listS S := by rw [← HSL.out.2]; exact List.mem_map.2 ⟨_, hx, rfl⟩
        obtain ⟨n, hn, hh, hke⟩ := listS_mem.1 hkey
        unfold SA.k keyS at hke
        simp only [Prod.mk.injEq] at hke
        rw [hke.1]; exact hh
      · intro hh
        have hkey : keyS S n ∈ listS S := listS_mem.2 ⟨n, had_name hh, hh, rfl⟩
        rw [← HSL.out.2] at hkey
        obtain ⟨x, hx, e2⟩ := List.mem_map.1 hkey
        unfold SA.k keyS at e2
        simp only [Prod.mk.injEq] at e2
        exact List.mem_map.2 ⟨x, hx, e2.1⟩
end Go.Proofs.Ytkjliijcnllohaa.S
