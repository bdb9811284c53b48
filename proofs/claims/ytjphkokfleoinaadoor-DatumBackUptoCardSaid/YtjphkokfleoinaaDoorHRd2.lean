
/- The reader in plain words: data, items; what is printed is read as it was. -/
import Derived.Test.YtjphkokfleoinaaDoorHRText
namespace Go.Proofs.YtjphkokfleoinaaDoor.D
open Go.RowKit Go.Proofs.YtjphkokfleoinaaDoorW.PrintWords Go.Proofs.YtjphkokfleoinaaDoorW.PrintLast Go.Proofs.YtjphkokfleoinaaDoorW.PrintMore
set_option linter.unusedVariables false
set_option linter.unusedSimpArgs false

def headKind (l : List S24) : Int := match l with
  | [] => 0
  | x :: _ => x.f0
mutual
/-- A datum at the head of the bytes, within so many others, and what stands behind it; none: it is none that may be (or a quote's short form, which is left out here). -/
def datF : Nat → Nat → List UInt8 → Option (S24 × List UInt8)
  | 0, _, _ => none
  | n + 1, dep, r0 => match sk r0 with
    | [] => none
    | c :: r =>
      if c = 34 then (txtF r []).map fun o => (⟨3, bU o.1, [], []⟩, o.2)
      else if c ≠ 40 ∧ c ≠ 39 ∧ vecU (c :: r) = false then (atomU (pieceL (c :: r))).map fun x => (x, (c :: r).drop (pieceL (c :: r)).length)
      else if 64 ≤ dep then none
      else if c = 39 then none
      else if vecU (c :: r) = true then (itF n (dep + 1) true (r.drop 1) [] [] false).map fun o => (⟨6, ⟨#[]⟩, o.1, []⟩, o.2.2)
      else (itF n (dep + 1) false r [] [] false).bind fun o => if o.2.1.length = 1 ∧ headKind o.2.1 = 5 then none else some (⟨5, ⟨#[]⟩, o.1, o.2.1⟩, o.2.2)
def itF : Nat → Nat → Bool → List UInt8 → List S24 → List S24 → Bool → Option (List S24 × List S24 × List UInt8)
  | 0, _, _, _, _, _, _ => none
  | n + 1, dep, v, r0, l, tl, dot => match sk r0 with
    | [] => none
    | c :: r =>
      if c = 41 then (if dot = true ∧ tl = [] then none else some (l, tl, r))
      else if pieceL (c :: r) = [46] then (if v = true ∨ dot = true ∨ l = [] then none else itF n dep v r l tl true)
      else if tl.length = 1 then none
      else if dot = true then (datF n dep (c :: r)).bind fun o => itF n dep v o.2 l (tl ++ [o.1]) dot
      else (datF n dep (c :: r)).bind fun o => itF n dep v o.2 (l ++ [o.1]) tl dot
end

theorem sk_suf (r : List UInt8) : sk r <:+ r := by
  unfold sk
  rw [skF_suffix r false]
  exact List.drop_suffix _ _
theorem txt_suf {r acc : List UInt8} {o : List UInt8 × List UInt8} (h : txtF r acc = some o) : o.2 <:+ r := by
  rw [(txtF_le _ r acc o (Nat.le_refl _) h).2.2]
  exact List.drop_suffix _ _
theorem dat_it_suf : ∀ n : Nat, (∀ dep r o, datF n dep r = some o → o.2 <:+ r) ∧ (∀ dep v r l tl dot o, itF n dep v r l tl dot = some o → o.2.2 <:+ r)
  | 0 => ⟨fun dep r o h => by simp [datF] at h, fun dep v r l tl dot o h => by simp [itF] at h⟩
  | n + 1 => by
    obtain ⟨ihd, ihi⟩ := dat_it_suf n
    constructor
    · intro dep r o h
      have hs := sk_suf r
      simp only [datF] at h
      cases hsk : sk r with
      | nil => rw [hsk] at h; simp at h
      | cons c r1 =>
        rw [hsk] at h hs
        simp only at h
        have hs1 : r1 <:+ r := (List.suffix_cons c r1).trans hs
        by_cases h1 : c = 34
        · rw [if_pos h1] at h
          obtain ⟨o1, h2, rfl⟩ := Option.map_eq_some_iff.1 h
          exact (txt_suf h2).trans hs1
        · rw [if_neg h1] at h
          by_cases h2 : c ≠ 40 ∧ c ≠ 39 ∧ vecU (c :: r1) = false
          · rw [if_pos h2] at h
            obtain ⟨o1, h3, rfl⟩ := Option.map_eq_some_iff.1 h
            exact (List.drop_suffix _ _).trans hs
          · rw [if_neg h2] at h
            by_cases h3 : 64 ≤ dep
            · rw [if_pos h3] at h; cases h
            · rw [if_neg h3] at h
              by_cases h4 : c = 39
              · rw [if_pos h4] at h; cases h
              · rw [if_neg h4] at h
                by_cases h5 : vecU (c :: r1) = true
                · rw [if_pos h5] at h
                  obtain ⟨o1, h6, rfl⟩ := Option.map_eq_some_iff.1 h
                  exact ((ihi _ _ _ _ _ _ _ h6).trans (List.drop_suffix _ _)).trans hs1
                · rw [if_neg h5] at h
                  obtain ⟨o1, h6, h7⟩ := Option.bind_eq_some_iff.1 h
                  split at h7
                  · cases h7
                  · obtain rfl := Option.some.inj h7
                    exact (ihi _ _ _ _ _ _ _ h6).trans hs1
    · intro dep v r l tl dot o h
      have hs := sk_suf r
      simp only [itF] at h
      cases hsk : sk r with
      | nil => rw [hsk] at h; simp at h
      | cons c r1 =>
        rw [hsk] at h hs
        simp only at h
        have hs1 : r1 <:+ r := (List.suffix_cons c r1).trans hs
        by_cases h1 : c = 41
        · rw [if_pos h1] at h
          split at h
          · cases h
          · obtain rfl := Option.some.inj h; exact hs1
        · rw [if_neg h1] at h
          by_cases h2 : pieceL (c :: r1) = [46]
          · rw [if_pos h2] at h
            split at h
            · cases h
            · exact (ihi _ _ _ _ _ _ _ h).trans hs1
          · rw [if_neg h2] at h
            by_cases h3 : tl.length = 1
            · rw [if_pos h3] at h; cases h
            · rw [if_neg h3] at h
              by_cases h4 : dot = true
              · rw [if_pos h4] at h
                obtain ⟨o1, h5, h6⟩ := Option.bind_eq_some_iff.1 h
                exact ((ihi _ _ _ _ _ _ _ h6).trans (ihd _ _ _ h5)).trans hs
              · rw [if_neg h4] at h
                obtain ⟨o1, h5, h6⟩ := Option.bind_eq_some_iff.1 h
                exact ((ihi _ _ _ _ _ _ _ h6).trans (ihd _ _ _ h5)).trans hs

/-! ### what is printed is read as it was -/
def Ends (r : List UInt8) : Prop := r = [] ∨ ∃ c r', r = c :: r' ∧ (c = 32 ∨ c = 41)
theorem Ends.piece {r : List UInt8} (h : Ends r) : pieceL r = [] := by
  rcases h with rfl | ⟨c, r', rfl, rfl | rfl⟩
  · rfl
  · simp [pieceL, delimU]
  · simp [pieceL, delimU]
def tokU (c : UInt8) : Bool := !delimU c && c != 35
theorem piece_app : ∀ (p r : List UInt8), (∀ c ∈ p, tokU c = true) → Ends r → pieceL (p ++ r) = p
  | [], r, _, hr => hr.piece
  | c :: p, r, hp, hr => by
    have hc := hp c (List.mem_cons_self ..)
    simp only [tokU, Bool.and_eq_true, Bool.not_eq_true', bne_iff_ne] at hc
    have hv : vecU (c :: (p ++ r)) = false := by
      unfold vecU
      rw [beq_eq_false_iff_ne]
      intro h
      have h0 := congrArg (·.head?) h
      simp at h0
      exact hc.2 h0
    rw [List.cons_append, pieceL, if_neg (by rw [hc.1]; simp), if_neg (by rw [hv]; simp), piece_app p r (fun c h => hp c (List.mem_cons_of_mem _ h)) hr]
set_option maxRecDepth 100000 in
theorem part_tok : ∀ i : Fin 256, partB ((i.val : Nat) : Int) = true → tokU (UInt8.ofNat i.val) = true ∧ blankU (UInt8.ofNat i.val) = false ∧ (UInt8.ofNat i.val == 59) = false ∧ UInt8.ofNat i.val ≠ 41 ∧ UInt8.ofNat i.val ≠ 40 ∧ UInt8.ofNat i.val ≠ 39 ∧ UInt8.ofNat i.val ≠ 34 := by decide
theorem part_tokU (c : UInt8) (h : partB (c.toNat : Int) = true) : tokU c = true ∧ blankU c = false ∧ (c == 59) = false ∧ c ≠ 41 ∧ c ≠ 40 ∧ c ≠ 39 ∧ c ≠ 34 := by
  have := part_tok ⟨c.toNat, c.toNat_lt⟩ h
  simpa using this
theorem dig_part (c : Int) (h : digitB c = true) : partB c = true := by simp [partB, h]
theorem dig_u (l : List UInt8) : (natsU l).all digitB = l.all digU := all_dig l
theorem canL_num (p : List UInt8) (h : canL (natsU p) = true) : numL p = some (some p) ∧ p ≠ [] ∧ ∀ c ∈ p, partB (c.toNat : Int) = true := by
  cases p with
  | nil => simp [canL, natsU] at h
  | cons c l =>
    by_cases hc : c = 45
    · subst hc
      have hd : (natsU (45 :: l)).head? = some 45 := rfl
      simp only [canL, hd, beq_self_eq_true, if_true, Bool.and_eq_true, Bool.not_eq_true', decide_eq_true_eq] at h
      obtain ⟨⟨⟨h1, h2⟩, h3⟩, h4⟩ := h
      have ht : (natsU (45 :: l)).tail = natsU l := rfl
      rw [ht] at h1 h2 h3 h4
      rw [dig_u] at h4
      cases l with
      | nil => simp [natsU] at h1
      | cons d l =>
        have hd48 : (d == 48) = false := by
          rw [beq_eq_false_iff_ne]
          rintro rfl
          simp [natsU] at h3
        have hlen : (d :: l).length ≤ 200 := by simpa [natsU] using h2
        refine ⟨?_, by simp, ?_⟩
        · simp only [numL, if_true, numD]
          rw [if_neg (by rw [h4]; simp)]
          rw [List.dropWhile_cons_of_neg (by rw [hd48]; simp), if_neg (by simp), if_neg (by omega)]
        · intro c hc
          rcases List.mem_cons.1 hc with rfl | hc
          · decide
          · exact dig_part _ (by have := List.all_eq_true.1 h4 c hc; exact this)
    · have hne : ((natsU (c :: l)).head? == some 45) = false := by
        rw [beq_eq_false_iff_ne]
        intro h0
        simp [natsU] at h0
        exact hc ((u8_eq c 45 (by decide)).1 h0)
      simp only [canL, hne, Bool.false_eq_true, if_false, Bool.or_false, Bool.and_eq_true, Bool.not_eq_true', decide_eq_true_eq] at h
      obtain ⟨⟨⟨h1, h2⟩, h3⟩, h4⟩ := h
      rw [dig_u] at h4
      have hcd : digU c = true := List.all_eq_true.1 h4 c (List.mem_cons_self ..)
      have hc43 : c ≠ 43 := by rintro rfl; revert hcd; decide
      have hlen : (c :: l).length ≤ 200 := by simpa [natsU] using h2
      refine ⟨?_, by simp, ?_⟩
      · simp only [numL]
        rw [if_neg hc, if_neg hc43]
        unfold numD
        rw [if_neg (by rw [h4]; simp)]
        by_cases h48 : c = 48
        · subst h48
          have hl : l = [] := by
            cases l with
            | nil => rfl
            | cons d l => simp [natsU] at h3
          subst hl
          rfl
        · have hd48 : (c == 48) = false := by simpa using h48
          rw [List.dropWhile_cons_of_neg (by rw [hd48]; simp), if_neg (by simp), if_neg (by omega), if_neg (by simp)]
      · intro c hc
        exact dig_part _ (by have := List.all_eq_true.1 h4 c hc; exact this)
theorem nameL_num (p : List UInt8) (h : nameL (natsU p) = true) : numL p = some none ∧ p ≠ [] ∧ p ≠ [46] ∧ p ≠ [35, 116] ∧ p ≠ [35, 102] ∧ ∀ c ∈ p, partB (c.toNat : Int) = true := by
  simp only [nameL, Bool.and_eq_true, Bool.not_eq_true', decide_eq_true_eq] at h
  obtain ⟨⟨⟨⟨⟨h1, h2⟩, h3⟩, h4⟩, h5⟩, h6⟩ := h
  have hall : ∀ c ∈ p, partB (c.toNat : Int) = true := fun c hc => List.all_eq_true.1 h6 _ (List.mem_map.2 ⟨c, hc, rfl⟩)
  cases p with
  | nil => simp [natsU] at h1
  | cons c l =>
    have hcd : digU c = false := by simpa [natsU, digU] using h4
    refine ⟨?_, by simp, ?_, ?_, ?_, hall⟩
    · have hbad : ∀ d : List UInt8, (d = [] ∨ digU (d.headD 0) = false) → numD true d = some none ∧ numD false d = some none := by
        intro d hd
        have : (d.isEmpty || !d.all digU) = true := by
          cases d with
          | nil => rfl
          | cons a d =>
            rcases hd with hd | hd
            · cases hd
            · simp at hd
              simp [hd]
        unfold numD
        rw [if_pos this, if_pos this]
        exact ⟨rfl, rfl⟩
      simp only [numL]
      by_cases hc : c = 45 ∨ c = 43
      · have hb : l = [] ∨ digU (l.headD 0) = false := by
          cases l with
          | nil => exact .inl rfl
          | cons d l =>
            right
            rcases hc with rfl | rfl
            · simpa [natsU, digU] using h5
            · simpa [natsU, digU] using h5
        rcases hc with rfl | rfl
        · rw [if_pos rfl]; exact (hbad l hb).1
        · rw [if_neg (by decide), if_pos rfl]; exact (hbad l hb).2
      · rw [if_neg (fun h => hc (.inl h)), if_neg (fun h => hc (.inr h))]
        exact (hbad (c :: l) (.inr (by simpa using hcd))).2
    · intro h0
      rw [h0] at h3
      exact absurd h3 (by decide)
    · intro h0
      have := hall 35 (by rw [h0]; simp)
      revert this; decide
    · intro h0
      have := hall 35 (by rw [h0]; simp)
      revert this; decide

structure AtomOk (p : List UInt8) (x : S24) : Prop where
  atom : atomU p = some x
  piece : ∀ r, Ends r → pieceL (p ++ r) = p
  start : ∃ c l, p = c :: l ∧ blankU c = false ∧ (c == 59) = false ∧ c ≠ 41 ∧ c ≠ 40 ∧ c ≠ 39 ∧ c ≠ 34
  dot : p ≠ [46]
  vec : ∀ r, vecU (p ++ r) = false
theorem vec_no {c : UInt8} (h : c ≠ 35) (l : List UInt8) : vecU (c :: l) = false := by
  unfold vecU
  rw [beq_eq_false_iff_ne]
  intro h0
  have h1 := congrArg (·.head?) h0
  simp at h1
  exact h h1
theorem atom_parts {p : List UInt8} {x : S24} (ha : atomU p = some x) (hne : p ≠ []) (hd : p ≠ [46]) (hp : ∀ c ∈ p, partB (c.toNat : Int) = true) : AtomOk p x := by
  refine ⟨ha, fun r hr => piece_app p r (fun c hc => (part_tokU c (hp c hc)).1) hr, ?_, hd, fun r => ?_⟩
  · cases p with
    | nil => exact absurd rfl hne
    | cons c l =>
      have := part_tokU c (hp c (List.mem_cons_self ..))
      exact ⟨c, l, rfl, this.2.1, this.2.2.1, this.2.2.2.1, this.2.2.2.2.1, this.2.2.2.2.2.1, this.2.2.2.2.2.2⟩
  · cases p with
    | nil => exact absurd rfl hne
    | cons c l =>
      have := part_tokU c (hp c (List.mem_cons_self ..))
      have h35 : c ≠ 35 := by
        have := this.1
        simp only [tokU, Bool.and_eq_true, bne_iff_ne] at this
        exact this.2
      exact vec_no h35 _
theorem bool_ok (p : List UInt8) (h : p = [35, 116] ∨ p = [35, 102]) : AtomOk p ⟨2, bU p, [], []⟩ := by
  refine ⟨?_, ?_, ?_, ?_, ?_⟩
  · rcases h with rfl | rfl
    · rfl
    · rfl
  · intro r hr
    have hr' := hr.piece
    rcases h with rfl | rfl <;> simp [pieceL, delimU, vecU, hr']
  · rcases h with rfl | rfl
    · exact ⟨35, [116], rfl, by decide⟩
    · exact ⟨35, [102], rfl, by decide⟩
  · rcases h with rfl | rfl <;> simp
  · intro r
    rcases h with rfl | rfl <;> simp [vecU]
theorem atom_right (x : S24) (m : Int) (h : rightB x m = true) (hk : x.f0 = 1 ∨ x.f0 = 2 ∨ x.f0 = 4) : AtomOk x.f1.data.toList x ∧ putB x = x.f1.data.toList := by
  obtain ⟨k, t, l, u⟩ := x
  have hbt : bytesOf t = natsU t.data.toList := rfl
  simp only at hk
  rcases hk with rfl | rfl | rfl
  · simp only [rightB, if_true, Bool.and_eq_true, List.isEmpty_iff] at h
    obtain ⟨⟨rfl, rfl⟩, h⟩ := h
    rw [hbt] at h
    obtain ⟨h1, h2, h3⟩ := canL_num _ h
    refine ⟨atom_parts ?_ h2 ?_ h3, by simp [putB]⟩
    · unfold atomU
      rw [h1]
    · intro h0
      rw [h0] at h
      revert h; decide
  · simp only [rightB, show ¬ ((2 : Int) = 1) by decide, if_false, if_true, Bool.and_eq_true, List.isEmpty_iff, Bool.or_eq_true, beq_iff_eq] at h
    obtain ⟨⟨rfl, rfl⟩, h⟩ := h
    rw [Lib.toList_data] at h
    have := bool_ok t.data.toList h
    rw [bU_of] at this
    exact ⟨this, by simp [putB]⟩
  · simp only [rightB, show ¬ ((4 : Int) = 1) by decide, show ¬ ((4 : Int) = 2) by decide, show ¬ ((4 : Int) = 3) by decide, if_false, if_true, Bool.and_eq_true, List.isEmpty_iff] at h
    obtain ⟨⟨rfl, rfl⟩, h⟩ := h
    rw [hbt] at h
    obtain ⟨h1, h2, h3, h4, h5, h6⟩ := nameL_num _ h
    refine ⟨atom_parts ?_ h2 h3 h6, by simp [putB]⟩
    unfold atomU
    rw [h1]
    simp only
    rw [if_neg (by rintro (h | h); exact h4 h; exact h5 h), if_pos h, bU_of]
theorem esc_txt : ∀ (l acc r : List UInt8), txtF (escB l ++ 34 :: r) acc = some (acc ++ l, r)
  | [], acc, r => by simp [escB, txtF_end]
  | c :: l, acc, r => by
    have ih := esc_txt l (acc ++ [c]) r
    rw [List.append_assoc] at ih
    simp only [escB, List.append_assoc]
    by_cases h1 : c = 92
    · subst h1; rw [show escOne 92 = [92, 92] from rfl]; rw [List.cons_append, List.cons_append, List.nil_append, txtF_esc (b := 92) rfl]; exact ih
    · by_cases h2 : c = 34
      · subst h2; rw [show escOne 34 = [92, 34] from rfl]; rw [List.cons_append, List.cons_append, List.nil_append, txtF_esc (b := 34) rfl]; exact ih
      · by_cases h3 : c = 10
        · subst h3; rw [show escOne 10 = [92, 110] from rfl]; rw [List.cons_append, List.cons_append, List.nil_append, txtF_esc (b := 10) rfl]; exact ih
        · by_cases h4 : c = 9
          · subst h4; rw [show escOne 9 = [92, 116] from rfl]; rw [List.cons_append, List.cons_append, List.nil_append, txtF_esc (b := 9) rfl]; exact ih
          · rw [show escOne c = [c] by unfold escOne; rw [if_neg h1, if_neg h2, if_neg h3, if_neg h4], List.cons_append, List.nil_append, txtF_one h2 h1]
            exact ih

/-- Read, with so many rounds at least. -/
def Parses (dep : Nat) (a : List UInt8) (x : S24) (rest : List UInt8) : Prop := ∃ N, ∀ n, N ≤ n → datF n dep a = some (x, rest)
/-- How a datum's text begins. -/
def Start (a : List UInt8) : Prop := ∃ c r, a = c :: r ∧ blankU c = false ∧ (c == 59) = false ∧ c ≠ 41 ∧ pieceL a ≠ [46]
def BackAt (x : S24) : Prop := ∀ (m : Int) (dep : Nat) (rest : List UInt8), rightB x m = true → m + dep ≤ 64 → Ends rest → Parses dep (putB x ++ rest) x rest ∧ Start (putB x ++ rest)
theorem Start.sk {a : List UInt8} (h : Start a) : sk a = a ∧ sk (32 :: a) = a := by
  obtain ⟨c, r, rfl, h1, h2, -⟩ := h
  have := sk_cons h1 h2 r
  refine ⟨this, ?_⟩
  rw [← this]
  conv => lhs; rw [this]
  simp only [D.sk, skF] at this ⊢
  simp [blankU]
theorem items_tail (u : List S24) (m : Int) (dep : Nat) (v : Bool) (rest : List UInt8) (hu : u.length ≤ 1) (hr : rightL u m = true) (hm : m + dep ≤ 64) (hb : ∀ x ∈ u, BackAt x) (hv : u ≠ [] → v = false) (l : List S24) (hl : u ≠ [] → l ≠ []) :
    ∃ N, ∀ n, N ≤ n → itF n dep v (putT u ++ 41 :: rest) l [] false = some (l, u, rest) := by
  have h41 : sk (41 :: rest) = 41 :: rest := sk_cons (by decide) (by decide) rest
  match u, hu with
  | [], _ =>
    refine ⟨1, fun n hn => ?_⟩
    obtain ⟨n, rfl⟩ : ∃ k, n = k + 1 := ⟨n - 1, by omega⟩
    simp only [putT, List.nil_append, itF, h41]
    simp
  | [x], _ =>
    simp only [rightL, Bool.and_true] at hr
    obtain ⟨⟨N, hN⟩, hst⟩ := hb x (List.mem_cons_self ..) m dep (41 :: rest) hr hm (.inr ⟨41, rest, rfl, .inr rfl⟩)
    refine ⟨N + 4, fun n hn => ?_⟩
    obtain ⟨n, rfl⟩ : ∃ k, n = k + 3 := ⟨n - 3, by omega⟩
    have hsk := hst.sk
    obtain ⟨c, r, hcr, -, -, hc41, hdot⟩ := hst
    have e0 : putT [x] ++ 41 :: rest = 32 :: 46 :: 32 :: (putB x ++ 41 :: rest) := by simp [putT]
    rw [e0]
    have s1 : sk (32 :: 46 :: 32 :: (putB x ++ 41 :: rest)) = 46 :: 32 :: (putB x ++ 41 :: rest) := by
      simp [D.sk, skF, blankU]
    have p1 : pieceL (46 :: 32 :: (putB x ++ 41 :: rest)) = [46] := by
      simp [pieceL, delimU, vecU]
    rw [hv (by simp)]
    rw [show n + 3 = (n + 2) + 1 from rfl, itF, s1]
    simp only
    rw [if_neg (by decide), if_pos p1, if_neg (by simp; exact hl (by simp))]
    rw [show n + 2 = (n + 1) + 1 from rfl, itF, hsk.2, hcr]
    simp only
    rw [if_neg hc41, if_neg (by rw [← hcr]; exact hdot), if_neg (by simp), if_true, ← hcr, hN (n + 1) (by omega), Option.bind_some, itF, h41]
    simp
theorem items_list (v : Bool) (u : List S24) (m : Int) (dep : Nat) (rest : List UInt8) (hu : u.length ≤ 1) (hru : rightL u m = true) (hm : m + dep ≤ 64) (hbu : ∀ x ∈ u, BackAt x) (hv : u ≠ [] → v = false) : ∀ (l2 l1 : List S24), rightL l2 m = true → (∀ x ∈ l2, BackAt x) → (u ≠ [] → l1 ++ l2 ≠ []) →
    ∃ N, ∀ n, N ≤ n → itF n dep v (putL l1.isEmpty l2 ++ (putT u ++ 41 :: rest)) l1 [] false = some (l1 ++ l2, u, rest)
  | [], l1, _, _, hne => by
    have := items_tail u m dep v rest hu hru hm hbu hv l1 (by simpa using hne)
    have e : putL l1.isEmpty [] = [] := by cases l1.isEmpty <;> rfl
    simpa [e] using this
  | x :: l2, l1, hr, hb, hne => by
    simp only [rightL, Bool.and_eq_true] at hr
    have hends : Ends (putL false l2 ++ (putT u ++ 41 :: rest)) := by
      cases l2 with
      | nil => cases u with
        | nil => exact .inr ⟨41, rest, rfl, .inr rfl⟩
        | cons y u => exact .inr ⟨32, _, rfl, .inl rfl⟩
      | cons y l2 => exact .inr ⟨32, _, rfl, .inl rfl⟩
    obtain ⟨⟨N, hN⟩, hst⟩ := hb x (List.mem_cons_self ..) m dep (putL false l2 ++ (putT u ++ 41 :: rest)) hr.1 hm hends
    obtain ⟨N2, hN2⟩ := items_list v u m dep rest hu hru hm hbu hv l2 (l1 ++ [x]) hr.2 (fun y hy => hb y (List.mem_cons_of_mem _ hy)) (by intro _; simp)
    rw [show (l1 ++ [x]).isEmpty = false by simp] at hN2
    refine ⟨N + N2 + 2, fun n hn => ?_⟩
    obtain ⟨n, rfl⟩ : ∃ k, n = k + 1 := ⟨n - 1, by omega⟩
    have hsk := hst.sk
    obtain ⟨c, r, hcr, -, -, hc41, hdot⟩ := hst
    have key : ∀ a, sk a = putB x ++ (putL false l2 ++ (putT u ++ 41 :: rest)) → itF (n + 1) dep v a l1 [] false = some (l1 ++ x :: l2, u, rest) := by
      intro a ha
      rw [itF, ha, hcr]
      simp only
      rw [if_neg hc41, if_neg (by rw [← hcr]; exact hdot), if_neg (by simp), if_neg (by simp), ← hcr, hN n (by omega), Option.bind_some, hN2 n (by omega)]
      simp
    cases hl1 : l1.isEmpty with
    | true =>
      have e : putL true (x :: l2) ++ (putT u ++ 41 :: rest) = putB x ++ (putL false l2 ++ (putT u ++ 41 :: rest)) := by simp [putL]
      rw [e]
      exact key _ hsk.1
    | false =>
      have e : putL false (x :: l2) ++ (putT u ++ 41 :: rest) = 32 :: (putB x ++ (putL false l2 ++ (putT u ++ 41 :: rest))) := by simp [putL]
      rw [e]
      exact key _ hsk.2

theorem back_flat (x : S24) (m : Int) (dep : Nat) (rest : List UInt8) (h : rightB x m = true) (hk : x.f0 = 1 ∨ x.f0 = 2 ∨ x.f0 = 4) (hr : Ends rest) : Parses dep (putB x ++ rest) x rest ∧ Start (putB x ++ rest) := by
  obtain ⟨ha, hp⟩ := atom_right x m h hk
  rw [hp]
  obtain ⟨c, l, hcl, h1, h2, h3, h4, h5, h6⟩ := ha.start
  have hpc := ha.piece rest hr
  have hvc := ha.vec rest
  have hsk : sk (x.f1.data.toList ++ rest) = x.f1.data.toList ++ rest := by rw [hcl, List.cons_append]; exact sk_cons h1 h2 _
  refine ⟨⟨1, fun n hn => ?_⟩, ⟨c, l ++ rest, by rw [hcl]; rfl, h1, h2, h3, by rw [hpc]; exact ha.dot⟩⟩
  obtain ⟨n, rfl⟩ : ∃ k, n = k + 1 := ⟨n - 1, by omega⟩
  rw [datF, hsk]
  generalize x.f1.data.toList = p at *
  subst hcl
  rw [List.cons_append] at *
  simp only
  rw [if_neg h6, if_pos ⟨h4, h5, hvc⟩, hpc, ha.atom]
  simp
theorem back_string (t : ByteArray) (l u : List S24) (m : Int) (dep : Nat) (rest : List UInt8) (h : rightB ⟨3, t, l, u⟩ m = true) : Parses dep (putB ⟨3, t, l, u⟩ ++ rest) ⟨3, t, l, u⟩ rest ∧ Start (putB ⟨3, t, l, u⟩ ++ rest) := by
  simp only [rightB, show ¬ ((3 : Int) = 1) by decide, show ¬ ((3 : Int) = 2) by decide, if_false, if_true, Bool.and_eq_true, List.isEmpty_iff] at h
  obtain ⟨rfl, rfl⟩ := h
  have e : putB ⟨3, t, [], []⟩ ++ rest = 34 :: (escB t.data.toList ++ 34 :: rest) := by simp [putB]
  rw [e]
  refine ⟨⟨1, fun n hn => ?_⟩, ⟨34, _, rfl, by decide, by decide, by decide, by simp [pieceL, delimU]⟩⟩
  obtain ⟨n, rfl⟩ : ∃ k, n = k + 1 := ⟨n - 1, by omega⟩
  rw [datF, sk_cons (by decide) (by decide)]
  simp only
  rw [if_pos trivial, esc_txt]
  simp [bU_of]
theorem back_at (n : Nat) : ∀ x : S24, SizeOf.sizeOf x ≤ n → BackAt x := by
  induction n with
  | zero => intro a h; cases a; simp at h
  | succ n ih =>
    intro x hn m dep rest hr hm he
    obtain ⟨k, t, l, u⟩ := x
    simp only [S24.mk.sizeOf_spec] at hn
    have hL : ∀ y ∈ l, BackAt y := fun y hy => ih y (by have := List.sizeOf_lt_of_mem hy; omega)
    have hU : ∀ y ∈ u, BackAt y := fun y hy => ih y (by have := List.sizeOf_lt_of_mem hy; omega)
    by_cases h1 : k = 1
    · exact back_flat _ m dep rest hr (.inl h1) he
    by_cases h2 : k = 2
    · exact back_flat _ m dep rest hr (.inr (.inl h2)) he
    by_cases h4 : k = 4
    · exact back_flat _ m dep rest hr (.inr (.inr h4)) he
    by_cases h3 : k = 3
    · subst h3; exact back_string t l u m dep rest hr
    by_cases h6 : k = 6
    · subst h6
      simp only [rightB, show ¬ ((6 : Int) = 1) by decide, show ¬ ((6 : Int) = 2) by decide, show ¬ ((6 : Int) = 3) by decide, show ¬ ((6 : Int) = 4) by decide, if_false, if_true, Bool.and_eq_true, List.isEmpty_iff, decide_eq_true_eq] at hr
      obtain ⟨⟨⟨⟨rfl, hm0⟩, ht⟩, hl⟩, -⟩ := hr
      obtain ⟨N, hN⟩ := items_list true [] (m - 1) (dep + 1) rest (by simp) rfl (by omega) (by simp) (by simp) l [] hl hL (by simp)
      have e : putB ⟨6, t, l, []⟩ ++ rest = 35 :: 40 :: (putL true l ++ ([] ++ 41 :: rest)) := by simp [putB, putT]
      rw [e]
      refine ⟨⟨N + 1, fun n hn => ?_⟩, ⟨35, _, rfl, by decide, by decide, by decide, by simp [pieceL, delimU, vecU]⟩⟩
      obtain ⟨n, rfl⟩ : ∃ k, n = k + 1 := ⟨n - 1, by omega⟩
      have hv : vecU (35 :: 40 :: (putL true l ++ ([] ++ 41 :: rest))) = true := by simp [vecU]
      rw [datF, sk_cons (by decide) (by decide)]
      simp only
      rw [if_neg (by decide), if_neg (by rw [hv]; simp), if_neg (by omega), if_neg (by decide), if_pos hv]
      have := hN n (by omega)
      simp only [List.isEmpty_nil, putT] at this
      simp only [List.drop_succ_cons, List.drop_zero, this, Option.map_some]
      have ht' : t = ⟨#[]⟩ := by rw [← bU_of t, ← Lib.toList_data, ht]
      rw [ht']
      simp
    by_cases h5 : k = 5
    · subst h5
      simp only [rightB, show ¬ ((5 : Int) = 1) by decide, show ¬ ((5 : Int) = 2) by decide, show ¬ ((5 : Int) = 3) by decide, show ¬ ((5 : Int) = 4) by decide, show ¬ ((5 : Int) = 6) by decide, if_false, if_true, Bool.and_eq_true, List.isEmpty_iff, decide_eq_true_eq, Bool.or_eq_true, Bool.not_eq_true', bne_iff_ne] at hr
      obtain ⟨⟨⟨⟨⟨hu1, hu2⟩, hm0⟩, ht⟩, hl⟩, hu⟩ := hr
      have hlne : u ≠ [] → [] ++ l ≠ [] := fun hne => by
        rcases hu2 with h | h
        · exact absurd h hne
        · intro h0
          rw [List.nil_append] at h0
          rw [h0] at h
          simp at h
      obtain ⟨N, hN⟩ := items_list false u (m - 1) (dep + 1) rest hu1 hu (by omega) hU (fun _ => rfl) l [] hl hL hlne
      have e : putB ⟨5, t, l, u⟩ ++ rest = 40 :: (putL true l ++ (putT u ++ 41 :: rest)) := by simp [putB]
      rw [e]
      refine ⟨⟨N + 1, fun n hn => ?_⟩, ⟨40, _, rfl, by decide, by decide, by decide, by simp [pieceL, delimU]⟩⟩
      obtain ⟨n, rfl⟩ : ∃ k, n = k + 1 := ⟨n - 1, by omega⟩
      have hv : vecU (40 :: (putL true l ++ (putT u ++ 41 :: rest))) = false := vec_no (by decide) _
      rw [datF, sk_cons (by decide) (by decide)]
      simp only
      rw [if_neg (by decide), if_neg (by simp), if_neg (by omega), if_neg (by decide), if_neg (by rw [hv]; simp)]
      have := hN n (by omega)
      simp only [List.isEmpty_nil, List.nil_append] at this
      rw [this, Option.bind_some]
      have hk : ¬ (u.length = 1 ∧ headKind u = 5) := by
        rintro ⟨h1, h2⟩
        rcases hu2 with h | h
        · rw [h] at h1; simp at h1
        · cases u with
          | nil => simp at h1
          | cons y u => exact h.2 h2
      simp only
      rw [if_neg hk]
      have ht' : t = ⟨#[]⟩ := by rw [← bU_of t, ← Lib.toList_data, ht]
      rw [ht']
    · simp [rightB, h1, h2, h3, h4, h5, h6] at hr
theorem back_law (x : S24) (h : rightB x 64 = true) : ∃ n, datF n 0 (putB x) = some (x, []) ∧ sk (putB x) = putB x ∧ putB x ≠ [] := by
  obtain ⟨⟨N, hN⟩, hst⟩ := back_at _ x (Nat.le_refl _) 64 0 [] h (by omega) (.inl rfl)
  rw [List.append_nil] at hN hst
  refine ⟨N, hN N (Nat.le_refl _), hst.sk.1, ?_⟩
  obtain ⟨c, r, hcr, -⟩ := hst
  rw [hcr]; simp
end Go.Proofs.YtjphkokfleoinaaDoor.D
