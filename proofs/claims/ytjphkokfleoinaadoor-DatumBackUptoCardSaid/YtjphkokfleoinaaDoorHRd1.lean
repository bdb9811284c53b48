
/- The reader's pieces and numerals in plain words. -/
import Derived.Test.YtjphkokfleoinaaDoorHRd0
import Derived.Test.YtjphkokfleoinaaDoorHTrim
namespace Go.Proofs.YtjphkokfleoinaaDoor.D
open Go.RowKit Go.Proofs.YtjphkokfleoinaaDoorW.PrintWords Go.Proofs.YtjphkokfleoinaaDoorW.PrintLast Go.Proofs.YtjphkokfleoinaaDoorW.PrintMore
set_option linter.unusedVariables false
set_option linter.unusedSimpArgs false

def delimU (c : UInt8) : Bool := ([32, 9, 10, 13, 40, 41, 34, 39, 59] : List UInt8).contains c
def vecU (r : List UInt8) : Bool := r.take 2 == [35, 40]
def pieceL : List UInt8 → List UInt8
  | [] => []
  | c :: r => if delimU c then [] else if vecU (c :: r) then [] else c :: pieceL r
theorem pieceL_le : ∀ r : List UInt8, (pieceL r).length ≤ r.length
  | [] => by simp [pieceL]
  | c :: r => by
    have := pieceL_le r
    simp only [pieceL]
    repeat' split
    all_goals simp
    exact this
theorem pieceL_take : ∀ r : List UInt8, pieceL r = r.take (pieceL r).length
  | [] => by simp [pieceL]
  | c :: r => by
    have := pieceL_take r
    simp only [pieceL]
    split
    · simp
    · split
      · simp
      · rw [List.length_cons, List.take_succ_cons, ← this]
theorem delim_index (s : ByteArray) (i : Nat) (c : UInt8) (h : bt s i = (c.toNat : Int)) : ∃ n, strings_IndexByte.f (⟨#[32, 9, 10, 13, 40, 41, 34, 39, 59]⟩ : ByteArray) (bt s i) = some n ∧ (n < 0 ↔ delimU c = false) := by
  refine ⟨_, rfl, ?_⟩
  rw [h]
  have e : ((c.toNat : Int)).toNat.toUInt8 = c := by simp
  rw [e]
  show Lib.indexByte [32, 9, 10, 13, 40, 41, 34, 39, 59] c < 0 ↔ _
  have hc := index_contains [32, 9, 10, 13, 40, 41, 34, 39, 59] c
  have hd : delimU c = true ↔ c ∈ ([32, 9, 10, 13, 40, 41, 34, 39, 59] : List UInt8) := by unfold delimU; rw [List.contains_iff_mem]
  rw [← hd] at hc
  cases hdd : delimU c with
  | true => rw [hdd] at hc; have := hc.2 rfl; constructor
            · intro h; omega
            · intro h; cases h
  | false => rw [hdd] at hc; constructor
             · intro _; rfl
             · intro _; apply Int.not_le.1; intro h; have := hc.1 h; cases this
theorem vec_pre (s : ByteArray) (i : Nat) (hi : i ≤ s.size) : strings_HasPrefix.f (s.extract i s.size) (⟨#[35, 40]⟩ : ByteArray) = some (vecU (s.data.toList.drop i)) := by
  have hz : (s.extract i s.size).size = s.size - i := by simp
  have hl : (s.data.toList.drop i).length = s.size - i := by simp
  simp only [strings_HasPrefix.f, stringslite_HasPrefix.f, hz]
  have h2 : ((⟨#[35, 40]⟩ : ByteArray).size : Int) = 2 := rfl
  rw [h2]
  by_cases hg : ((s.size - i : Nat) : Int) ≥ 2
  · rw [if_pos hg, if_pos (by omega), if_pos (by omega)]
    show some _ = some _
    congr 1
    rw [Lib.toList_data, Lib.toList_data, Lib.extract_data, Lib.extract_to_end]
    rfl
  · rw [if_neg hg]
    show some _ = some _
    congr 1
    unfold vecU
    symm
    rw [beq_eq_false_iff_ne]
    intro h
    have := congrArg List.length h
    rw [List.length_take, hl] at this
    simp at this
    omega
set_option maxHeartbeats 1000000 in
theorem piece_l0 (s : ByteArray) (hs : s.size ≤ 9223372036854775807) (at_ : Nat) (d : Nat) : ∀ i : Nat, s.size - i ≤ d → i ≤ s.size → at_ ≤ i →
    Ev (fun k => datum_reader_piece.l0 k (i : Int) s (at_ : Int)) (s.extract at_ (i + (pieceL (s.data.toList.drop i)).length), s, (at_ : Int)) := by
  have hend : ∀ i : Nat, i ≤ s.size → at_ ≤ i → pieceL (s.data.toList.drop i) = [] → ∀ k : Nat, (if 0 ≤ (at_ : Int) then (if (at_ : Int) ≤ (i : Int) then (if (i : Int) ≤ (s.size : Int) then (some (s.extract (at_ : Int).toNat (i : Int).toNat, s, (at_ : Int))) else (none)) else (none)) else (none)) = some (s.extract at_ (i + (pieceL (s.data.toList.drop i)).length), s, (at_ : Int)) := fun i h1 h2 h3 k => by
    rw [if_pos (by omega), if_pos (by omega), if_pos (by omega), h3]
    simp
  induction d with
  | zero =>
    intro i hd hi ha
    obtain rfl : i = s.size := by omega
    have hp : pieceL (s.data.toList.drop s.size) = [] := by rw [List.drop_eq_nil_of_le (by simp)]; rfl
    refine Ev.step (f := fun _ => some (s.extract at_ (s.size + (pieceL (s.data.toList.drop s.size)).length), s, (at_ : Int))) (fun k => ?_) (Ev.now _)
    simp only [datum_reader_piece.l0]
    rw [if_neg (by omega)]
    exact hend _ hi ha hp k
  | succ d ih =>
    intro i hd hi ha
    by_cases hlt : i < s.size
    · obtain ⟨c, r, hdr, hbt, hnx⟩ := bt_drop s i hlt
      obtain ⟨n, hn, hneg⟩ := delim_index s i c hbt
      have hup : wrap64 ((i : Int) + 1) = ((i + 1 : Nat) : Int) := up_ hlt hs
      have hv := vec_pre s i hi
      rw [hdr] at hv
      have hih := ih (i + 1) (by omega) (by omega) (by omega)
      rw [hnx] at hih
      have hst : ∀ k, datum_reader_piece.l0 (k + 1) (i : Int) s (at_ : Int) = if n < 0 then (if vecU (c :: r) = true then (if 0 ≤ (at_ : Int) then (if (at_ : Int) ≤ (i : Int) then (some (s.extract (at_ : Int).toNat (i : Int).toNat, s, (at_ : Int))) else (none)) else (none)) else datum_reader_piece.l0 k ((i + 1 : Nat) : Int) s (at_ : Int)) else (if 0 ≤ (at_ : Int) then (if (at_ : Int) ≤ (i : Int) then (if (i : Int) ≤ (s.size : Int) then (some (s.extract (at_ : Int).toNat (i : Int).toNat, s, (at_ : Int))) else (none)) else (none)) else (none)) := fun k => by
        simp only [datum_reader_piece.l0]
        rw [if_pos (by omega), if_pos (by omega), hn, Option.bind_some]
        simp only [Int.toNat_natCast]
        rw [if_pos (show (i : Int) ≤ (s.size : Int) by omega), hv, Option.bind_some, hup]
      cases hdl : delimU c with
      | true =>
        have hp : pieceL (s.data.toList.drop i) = [] := by rw [hdr]; simp [pieceL, hdl]
        have hn0 : ¬ n < 0 := fun h => by have := hneg.1 h; rw [hdl] at this; cases this
        refine Ev.step (f := fun _ => some (s.extract at_ (i + (pieceL (s.data.toList.drop i)).length), s, (at_ : Int))) (fun k => ?_) (Ev.now _)
        rw [hst, if_neg hn0]
        exact hend i hi ha hp k
      | false =>
        have hn0 : n < 0 := hneg.2 hdl
        cases hvv : vecU (c :: r) with
        | true =>
          have hp : pieceL (s.data.toList.drop i) = [] := by rw [hdr]; simp [pieceL, hdl, hvv]
          refine Ev.step (f := fun _ => some (s.extract at_ (i + (pieceL (s.data.toList.drop i)).length), s, (at_ : Int))) (fun k => ?_) (Ev.now _)
          rw [hst, if_pos hn0, if_pos hvv]
          have := hend i hi ha hp k
          rw [if_pos (by omega), if_pos (by omega), if_pos (by omega)] at this
          rw [if_pos (by omega), if_pos (by omega)]
          exact this
        | false =>
          have hp : pieceL (s.data.toList.drop i) = c :: pieceL r := by rw [hdr]; simp [pieceL, hdl, hvv]
          rw [hp, List.length_cons, show i + ((pieceL r).length + 1) = i + 1 + (pieceL r).length by omega]
          refine Ev.step (f := fun k => datum_reader_piece.l0 k ((i + 1 : Nat) : Int) s (at_ : Int)) (fun k => ?_) hih
          rw [hst, if_pos hn0, if_neg (by rw [hvv]; simp)]
    · obtain rfl : i = s.size := by omega
      have hp : pieceL (s.data.toList.drop s.size) = [] := by rw [List.drop_eq_nil_of_le (by simp)]; rfl
      refine Ev.step (f := fun _ => some (s.extract at_ (s.size + (pieceL (s.data.toList.drop s.size)).length), s, (at_ : Int))) (fun k => ?_) (Ev.now _)
      simp only [datum_reader_piece.l0]
      rw [if_neg (by omega)]
      exact hend _ hi ha hp k
theorem piece_ev (s : ByteArray) (hs : s.size ≤ 9223372036854775807) (i : Nat) (hi : i ≤ s.size) : Ev (fun k => datum_reader_piece.f k s (i : Int)) ((⟨(pieceL (s.data.toList.drop i)).toArray⟩ : ByteArray), s, (i : Int)) := by
  have h := piece_l0 s hs i _ i (Nat.le_refl _) hi (Nat.le_refl _)
  have e : s.extract i (i + (pieceL (s.data.toList.drop i)).length) = ⟨(pieceL (s.data.toList.drop i)).toArray⟩ := by
    rw [Lib.extract_eq, Nat.add_sub_cancel_left, ← pieceL_take]
  rw [e] at h
  exact h
theorem skip_ev (s : ByteArray) (hs : s.size ≤ 9223372036854775807) (i : Nat) (hi : i ≤ s.size) : Ev (fun k => datum_reader_skip.f k s (i : Int)) (s, ((s.size - (sk (s.data.toList.drop i)).length : Nat) : Int)) :=
  skip_l0 s hs _ i (Nat.le_refl _) hi

def digU (c : UInt8) : Bool := digitB (c.toNat : Int)
def numD (neg : Bool) (d : List UInt8) : Option (Option (List UInt8)) :=
  if (d.isEmpty || !d.all digU) = true then some none
  else if (d.dropWhile (· == 48)).isEmpty = true then some (some [48])
  else if 200 < (d.dropWhile (· == 48)).length then none
  else some (some (if neg = true then 45 :: d.dropWhile (· == 48) else d.dropWhile (· == 48)))
/-- A piece's number: none: too big; some none: it is no number. -/
def numL : List UInt8 → Option (Option (List UInt8))
  | [] => some none
  | c :: l => if c = 45 then numD true l else if c = 43 then numD false l else numD false (c :: l)
abbrev bU (l : List UInt8) : ByteArray := ⟨l.toArray⟩
theorem bU_list (l : List UInt8) : (bU l).data.toList = l := by simp [bU]
theorem bU_size (l : List UInt8) : (bU l).size = l.length := by simp [bU, ByteArray.size]
theorem bU_of (s : ByteArray) : bU s.data.toList = s := by simp [bU]
theorem trim_l0 (n : Nat) : ∀ l : List UInt8, l.length ≤ n → strings_trimLeftByte.l0 (n + 1) (bU l) 48 = some (bU (l.dropWhile (· == 48))) := by
  induction n with
  | zero =>
    intro l hl
    obtain rfl : l = [] := by cases l; rfl; simp at hl
    rw [strings_trimLeftByte.l0, if_neg (by rw [bU_size]; simp)]
    rfl
  | succ n ih =>
    intro l hl
    cases l with
    | nil =>
      rw [strings_trimLeftByte.l0, if_neg (by rw [bU_size]; simp)]
      rfl
    | cons c l =>
      have hz : (bU (c :: l)).size = l.length + 1 := by rw [bU_size]; rfl
      have hb : bt (bU (c :: l)) 0 = (c.toNat : Int) := by
        obtain ⟨c', r, h1, h2, -⟩ := bt_drop (bU (c :: l)) 0 (by omega)
        rw [bU_list] at h1
        simp only [List.drop_zero, List.cons.injEq] at h1
        obtain ⟨e1, -⟩ := h1
        subst e1
        simpa using h2
      rw [strings_trimLeftByte.l0, hz, hb]
      rw [if_pos (by omega), if_pos (by omega)]
      by_cases hc : c = 48
      · subst hc
        rw [if_pos (by decide), if_pos (by omega)]
        have he : (bU (48 :: l)).extract 1 (l.length + 1) = bU l := by
          rw [Lib.extract_eq, bU_list]
          simp
        rw [he, ih l (by simp at hl; omega)]
        simp
      · rw [if_neg (show ¬ ((c.toNat : Int) = 48) from fun h => hc ((u8_eq c 48 (by decide)).1 h))]
        have : (c == 48) = false := by simpa using hc
        simp [List.dropWhile, this]

theorem trim_zero (l : List UInt8) : strings_TrimLeft.f (bU l) (⟨#[48]⟩ : ByteArray) = some (bU (l.dropWhile (· == 48))) := by
  unfold strings_TrimLeft.f
  rw [if_pos rfl, bU_size]
  exact trim_l0 _ l (Nat.le_refl _)
theorem bytesOf_bU (l : List UInt8) : bytesOf (bU l) = l.map fun c => (c.toNat : Int) := by rw [bytesOf, bU_list]
theorem all_dig (l : List UInt8) : (l.map fun c => (c.toNat : Int)).all digitB = l.all digU := by
  rw [List.all_map]; rfl
theorem digits_ev (l : List UInt8) (hl : l.length ≤ 9223372036854775807) : Ev (fun k => datum_digits.f k (bU l)) (l.all digU) := by
  have hz : (bU l).size = l.length := bU_size l
  have := all_loop (fun k i => datum_digits.l0 k (bU l) ((bU l).size : Int) i) digitB (bU l) (by omega) (fun k i hi => by
    simp only [datum_digits.l0]
    rw [if_pos (by omega), if_pos (by omega), if_pos (by omega), up_ hi (by omega)]
    by_cases h1 : bt (bU l) i < 48
    · rw [if_pos h1, if_neg (by simp [digitB]; omega)]
    · by_cases h2 : bt (bU l) i > 57
      · rw [if_neg h1, if_pos h2, if_neg (by simp [digitB]; omega)]
      · rw [if_neg h1, if_neg h2, if_pos (by simp [digitB]; omega)]) (fun k => by
    simp only [datum_digits.l0]; rw [if_neg (by omega)]) _ 0 rfl (Nat.zero_le _)
  rw [List.drop_zero, bytesOf_bU, all_dig] at this
  exact this
/-- What numeral answers, where it answers. -/
def ansN : Option (List UInt8) → ByteArray × Bool
  | none => ((⟨#[]⟩ : ByteArray), false)
  | some t => (bU t, true)
theorem num_j2 (at_ : Int) (d : List UInt8) (neg bad : Bool) (hd : d.length ≤ 1000000000) (hb : bad = (d.isEmpty || !d.all digU)) (o : Option (List UInt8)) (h : numD neg d = some o) :
    Ev (fun k => datum_numeral.j2 k at_ (bU d) neg bad) (ansN o) := by
  refine Ev.step (f := fun _ => some (ansN o)) (fun k => ?_) (Ev.now _)
  rw [datum_numeral.j2]
  unfold numD at h
  rw [← hb] at h
  cases bad with
  | true =>
    rw [if_pos rfl] at h
    obtain rfl := Option.some.inj h
    rw [if_pos rfl]
    rfl
  | false =>
    rw [if_neg (by simp)] at h
    rw [if_neg (by simp), trim_zero, Option.bind_some, Lib.toList_data, bU_list]
    cases ht : d.dropWhile (· == 48) with
    | nil =>
      rw [ht, if_pos (show ([] : List UInt8).isEmpty = true from rfl)] at h
      obtain rfl := Option.some.inj h
      rw [if_pos rfl]
      rfl
    | cons a t =>
      rw [ht, if_neg (by simp)] at h
      split at h
      · cases h
      · rename_i hl
        obtain rfl := Option.some.inj h
        rw [if_neg (by simp), bU_size, if_neg (by omega)]
        cases neg with
        | true =>
          rw [if_pos rfl, if_pos (by omega), if_pos rfl]
          rfl
        | false => rw [if_neg (by simp), if_neg (by simp)]; rfl
theorem num_j1 (at_ : Int) (d : List UInt8) (neg : Bool) (hd : d.length ≤ 1000000000) (o : Option (List UInt8)) (h : numD neg d = some o) :
    Ev (fun k => datum_numeral.j1 k at_ (bU d) neg) (ansN o) := by
  cases d with
  | nil =>
    refine Ev.step (f := fun k => datum_numeral.j2 k at_ (bU []) neg true) (fun k => ?_) (num_j2 at_ [] neg true hd rfl o h)
    rw [datum_numeral.j1, if_pos (by rw [Lib.toList_data, bU_list])]
  | cons c d =>
    refine Ev.step (f := fun k => (datum_digits.f k (bU (c :: d))).bind fun t144 => datum_numeral.j2 k at_ (bU (c :: d)) neg (!t144)) (fun k => ?_) ?_
    · rw [datum_numeral.j1, if_neg (by rw [Lib.toList_data, bU_list]; simp)]
    · exact Ev.bind (digits_ev (c :: d) (by omega)) (num_j2 at_ (c :: d) neg _ hd (by simp) o h)
theorem bt_cons (c : UInt8) (l : List UInt8) : bt (bU (c :: l)) 0 = (c.toNat : Int) := by
  obtain ⟨c', r, h1, h2, -⟩ := bt_drop (bU (c :: l)) 0 (by rw [bU_size]; simp)
  rw [bU_list] at h1
  simp only [List.drop_zero, List.cons.injEq] at h1
  obtain ⟨e1, -⟩ := h1
  subst e1
  simpa using h2
theorem cut_one (c : UInt8) (l : List UInt8) : (bU (c :: l)).extract 1 (l.length + 1) = bU l := by
  rw [Lib.extract_eq, bU_list]
  simp
theorem num_ev (p : List UInt8) (hp : p.length ≤ 1000000000) (at_ : Int) (o : Option (List UInt8)) (h : numL p = some o) : Ev (fun k => datum_numeral.f k (bU p) at_) (ansN o) := by
  cases p with
  | nil =>
    obtain rfl := Option.some.inj h
    have h1 := num_j1 at_ [] false (by simp) none rfl
    refine Ev.congr (f := fun k => datum_numeral.j0 k (bU []) at_ (bU []) false false) (fun k => ?_) (Ev.step (fun k => by rw [datum_numeral.j0, if_neg (by simp)]) h1)
    simp only [datum_numeral.f]
    rw [if_pos (by rw [Lib.toList_data, bU_list])]
  | cons c l =>
    have hz : (bU (c :: l)).size = l.length + 1 := by rw [bU_size]; rfl
    simp only [List.length_cons] at hp
    have hf : ∀ k, datum_numeral.f k (bU (c :: l)) at_ = datum_numeral.j0 k (bU (c :: l)) at_ (bU (c :: l)) false (decide (c = 45) || decide (c = 43)) := fun k => by
      simp only [datum_numeral.f]
      rw [if_neg (by rw [Lib.toList_data, bU_list]; simp), hz, if_pos (by omega), bt_cons]
      by_cases h1 : c = 45
      · subst h1; rw [if_pos (by decide)]; rfl
      · rw [if_neg (show ¬ ((c.toNat : Int) = 45) from fun h => h1 ((u8_eq c 45 (by decide)).1 h))]
        congr 1
        by_cases h2 : c = 43
        · subst h2; rfl
        · have e : ((c.toNat : Int) == 43) = false := beq_eq_false_iff_ne.mpr (show ¬ ((c.toNat : Int) = 43) from fun h => h2 ((u8_eq c 43 (by decide)).1 h))
          rw [e]
          simp [h1, h2]
    refine Ev.congr hf ?_
    have hcut : ∀ k, datum_numeral.j0 (k + 1) (bU (c :: l)) at_ (bU (c :: l)) false true = datum_numeral.j1 k at_ (bU l) (decide (c = 45)) := fun k => by
      rw [datum_numeral.j0, if_pos rfl, hz, if_pos (by omega), if_pos (by omega), cut_one, bt_cons]
      congr 1
      by_cases h1 : c = 45
      · subst h1; rfl
      · have e : ((c.toNat : Int) == 45) = false := beq_eq_false_iff_ne.mpr (show ¬ ((c.toNat : Int) = 45) from fun h => h1 ((u8_eq c 45 (by decide)).1 h))
        rw [e]
        simp [h1]
    simp only [numL] at h
    by_cases h1 : c = 45
    · rw [if_pos h1] at h
      have e : (decide (c = 45) || decide (c = 43)) = true := by simp [h1]
      rw [e]
      refine Ev.step hcut ?_
      rw [decide_eq_true h1]
      exact num_j1 at_ l true (by omega) o h
    · rw [if_neg h1] at h
      by_cases h2 : c = 43
      · rw [if_pos h2] at h
        have e : (decide (c = 45) || decide (c = 43)) = true := by simp [h2]
        rw [e]
        refine Ev.step hcut ?_
        rw [decide_eq_false h1]
        exact num_j1 at_ l false (by omega) o h
      · rw [if_neg h2] at h
        have e : (decide (c = 45) || decide (c = 43)) = false := by simp [h1, h2]
        rw [e]
        exact Ev.step (fun k => by rw [datum_numeral.j0, if_neg (by simp)]) (num_j1 at_ (c :: l) false (by simp; omega) o h)
end Go.Proofs.YtjphkokfleoinaaDoor.D
