
/- The reader's text. -/
import Derived.Test.YtjphkokfleoinaaDoorHRAtom
import Derived.Test.YtjphkokfleoinaaDoorHPrint
namespace Go.Proofs.YtjphkokfleoinaaDoor.D
open Go.RowKit Go.Proofs.YtjphkokfleoinaaDoorW.PrintWords Go.Proofs.YtjphkokfleoinaaDoorW.PrintLast Go.Proofs.YtjphkokfleoinaaDoorW.PrintMore
set_option linter.unusedVariables false
set_option linter.unusedSimpArgs false

def unesc (e : UInt8) : Option UInt8 := if e = 92 then some 92 else if e = 34 then some 34 else if e = 110 then some 10 else if e = 116 then some 9 else none
/-- What stands within a string's marks, read: the text, and what stands behind. -/
def txtF : List UInt8 → List UInt8 → Option (List UInt8 × List UInt8)
  | [], _ => none
  | [c], acc => if c = 34 then some (acc, []) else none
  | c :: e :: r, acc => if c = 34 then some (acc, e :: r) else if c ≠ 92 then txtF (e :: r) (acc ++ [c]) else match unesc e with
    | some b => txtF r (acc ++ [b])
    | none => none
theorem txtF_end (r acc : List UInt8) : txtF (34 :: r) acc = some (acc, r) := by
  cases r <;> simp [txtF]
theorem txtF_one {c : UInt8} (h1 : c ≠ 34) (h2 : c ≠ 92) (r acc : List UInt8) : txtF (c :: r) acc = txtF r (acc ++ [c]) := by
  cases r with
  | nil => simp [txtF, h1]
  | cons e r => simp [txtF, h1, h2]
theorem txtF_esc {e b : UInt8} (h : unesc e = some b) (r acc : List UInt8) : txtF (92 :: e :: r) acc = txtF r (acc ++ [b]) := by
  simp [txtF, h]
theorem txtF_bad {r acc : List UInt8} {o : List UInt8 × List UInt8} (h : txtF (92 :: r) acc = some o) : ∃ e b r', r = e :: r' ∧ unesc e = some b ∧ txtF r' (acc ++ [b]) = some o := by
  cases r with
  | nil => simp [txtF] at h
  | cons e r =>
    cases hu : unesc e with
    | none => simp [txtF, hu] at h
    | some b => exact ⟨e, b, r, rfl, hu, by rw [← txtF_esc hu]; exact h⟩
theorem txtF_le : ∀ (n : Nat) (r acc : List UInt8) (o : List UInt8 × List UInt8), r.length ≤ n → txtF r acc = some o → o.1.length + o.2.length ≤ acc.length + r.length ∧ o.2.length < r.length ∧ o.2 = r.drop (r.length - o.2.length)
  | 0, r, acc, o, hn, h => by
    have : r = [] := List.length_eq_zero_iff.1 (by omega)
    subst this
    simp [txtF] at h
  | n + 1, r, acc, o, hn, h => by
    cases r with
    | nil => simp [txtF] at h
    | cons c r =>
      by_cases h1 : c = 34
      · subst h1
        rw [txtF_end] at h
        obtain rfl := Option.some.inj h
        simp
      · by_cases h2 : c = 92
        · subst h2
          obtain ⟨e, b, r', rfl, hu, h3⟩ := txtF_bad h
          have ih := txtF_le n r' (acc ++ [b]) o (by simp only [List.length_cons] at hn; omega) h3
          simp only [List.length_append, List.length_cons, List.length_nil] at ih ⊢
          refine ⟨by omega, by omega, ?_⟩
          rw [show r'.length + 1 + 1 - o.2.length = (r'.length - o.2.length) + 1 + 1 by omega, List.drop_succ_cons, List.drop_succ_cons]
          exact ih.2.2
        · rw [txtF_one h1 h2] at h
          have ih := txtF_le n r (acc ++ [c]) o (by simp only [List.length_cons] at hn; omega) h
          simp only [List.length_append, List.length_cons, List.length_nil] at ih ⊢
          refine ⟨by omega, by omega, ?_⟩
          rw [show r.length + 1 - o.2.length = (r.length - o.2.length) + 1 by omega, List.drop_succ_cons]
          exact ih.2.2
/-- The place of a byte behind a backslash. -/
theorem unesc_index {e b : UInt8} (h : unesc e = some b) : ∃ k : Nat, k < 4 ∧ strings_IndexByte.f ⟨#[92, 34, 110, 116]⟩ (e.toNat : Int) = some (k : Int) ∧ bt ⟨#[92, 34, 10, 9]⟩ (k : Int) = (b.toNat : Int) := by
  unfold unesc at h
  split at h
  · rename_i h1; subst h1; obtain rfl := Option.some.inj h; exact ⟨0, by decide, by decide, by decide⟩
  · split at h
    · rename_i h1; subst h1; obtain rfl := Option.some.inj h; exact ⟨1, by decide, by decide, by decide⟩
    · split at h
      · rename_i h1; subst h1; obtain rfl := Option.some.inj h; exact ⟨2, by decide, by decide, by decide⟩
      · split at h
        · rename_i h1; subst h1; obtain rfl := Option.some.inj h; exact ⟨3, by decide, by decide, by decide⟩
        · cases h

theorem bldF_step {T e : TypeId} {B b : Nat} {bs : List Value} {w w' : World} (h : Lib.IsBuilderF T e B b bs w) (hm : ∀ k, B ≤ k → k < w.heap.size → w'.heap[k]? = w.heap[k]?) : Lib.IsBuilderF T e B b bs w' := by
  have go : ∀ p, Lib.BuilderAtF T e B b p bs w → Lib.BuilderAtF T e B b p bs w' := by
    rintro p ⟨hB, v, hb, ⟨ho1, ho2⟩, hne⟩
    refine ⟨hB, v, (hm b hB (Array.getElem?_eq_some_iff.1 hb).1).trans hb, ⟨ho1, ?_⟩, hne⟩
    rcases ho2 with h | ⟨g, cap, cur, fz, hv, hg, hh, rest⟩
    · exact .inl h
    · exact .inr ⟨g, cap, cur, fz, hv, hg, (hm g hg (Array.getElem?_eq_some_iff.1 hh).1).trans hh, rest⟩
  exact h.elim (fun x => .inl (go _ x)) (fun x => .inr (go _ x))

/-- The state while a string is read. -/
structure TxS (w0 W : World) (g r b : Nat) (s : ByteArray) (i : Int) (ys : List UInt8) (W2 : World) : Prop where
  bld : Lib.IsBuilderF 35 5 b b (Lib.byteCells ys) W2
  st : IsS46 w0 W2 g s i
  b0 : Below w0.heap.size w0 W2
  k : KeepBut W W2 g none
  rs : W2.heap[r]? = some (.cells #[.int .i64 0, .string ⟨#[]⟩, .slice none 0 0, .slice none 0 0] 24 (0, 0))
  hr : W.heap.size = r
  hb : b = r + 1
  hg : g < r
theorem TxS.drewN {w0 W W2 : World} {g r b : Nat} {s : ByteArray} {i : Int} {ys : List UInt8} (h : TxS w0 W g r b s i ys W2) (n : Nat) : TxS w0 W g r b s i ys (W2.drewN n) :=
  ⟨h.bld, h.st.drewN n, pw_below_drewN h.b0 n, h.k, h.rs, h.hr, h.hb, h.hg⟩
theorem TxS.to {w0 W W2 : World} {g r b : Nat} {s : ByteArray} {i j : Int} {ys : List UInt8} (h : TxS w0 W g r b s i ys W2) (e : i = j) : TxS w0 W g r b s j ys W2 := e ▸ h
theorem TxS.set {w0 W W2 : World} {g r b : Nat} {s : ByteArray} {i : Int} {ys : List UInt8} (h : TxS w0 W g r b s i ys W2) (j : Int) : TxS w0 W g r b s j ys (W2.setCell ⟨g, 1, none⟩ (.int .i64 j)) :=
  ⟨bldF_step h.bld (fun k hk _ => Below.heap_setCell W2 ⟨g, 1, none⟩ _ k (by show k ≠ g; have := h.hb; have := h.hg; omega)), h.st.set_1 j, h.b0.setCell h.st.ge _, keep_set h.k 1 _, (Below.heap_setCell W2 ⟨g, 1, none⟩ _ r (by show r ≠ g; have := h.hg; omega)).trans h.rs, h.hr, h.hb, h.hg⟩
theorem TxS.below {w0 W W2 W3 : World} {g r b : Nat} {s : ByteArray} {i : Int} {ys zs : List UInt8} (h : TxS w0 W g r b s i ys W2) (hbl : Lib.IsBuilderF 35 5 b b (Lib.byteCells zs) W3) (hb : Below b W2 W3) : TxS w0 W g r b s i zs W3 := by
  have e1 := h.hb
  have e2 := h.hg
  have e3 := h.hr
  refine ⟨hbl, ⟨(hb.block g (by omega)).trans h.st.1, h.st.2⟩, h.b0.trans (hb.mono (by have := h.st.2; omega)), ⟨Nat.le_trans h.k.1 hb.size, fun k hk hg hr => (hb.block k (by omega)).trans (h.k.2 k hk hg hr)⟩, (hb.block r (by omega)).trans h.rs, h.hr, h.hb, h.hg⟩
theorem TxS.byte {w0 W W2 : World} {g r b : Nat} {s : ByteArray} {i : Int} {ys : List UInt8} (h : TxS w0 W g r b s i ys W2) (c : UInt8) (hl : ys.length + 1 ≤ 140737488355328) :
    Calls Tryd.prog 18 #[.pointer (some ⟨b, 0, none⟩), .int .u8 (c.toNat : Int)] W2 fun e w' => e = .returned .nilIface ∧ TxS w0 W g r b s i (ys ++ [c]) w' := by
  have hlt : b < W2.heap.size := h.bld.elim (fun x => x.lt) (fun x => x.lt)
  refine (writeByte_k b b _ c.toNat W2 h.bld (by rw [byteCells_length]; exact hl) (by omega)).mono ?_
  rintro e w' ⟨rfl, h1, h2, h3⟩
  exact ⟨rfl, h.below (.inr (by rw [byteCells_append]; exact h1)) h2⟩
theorem TxS.str {w0 W W2 : World} {g r b : Nat} {s : ByteArray} {i : Int} {ys : List UInt8} (h : TxS w0 W g r b s i ys W2) :
    Calls Tryd.prog 10 #[.pointer (some ⟨b, 0, none⟩)] W2 fun e w' => e = .returned (.string (bU ys)) ∧ TxS w0 W g r b s i ys w' := by
  have hlt : b < W2.heap.size := h.bld.elim (fun x => x.lt) (fun x => x.lt)
  refine (Tryd.Builder_String_any_k b b ys W2 h.bld (by omega)).mono ?_
  rintro e w' ⟨rfl, h1, h2, -⟩
  exact ⟨rfl, h.below h1 h2⟩

set_option maxRecDepth 100000 in
set_option maxHeartbeats 4000000 in
theorem text_calls (g : Nat) (s : ByteArray) (hs : s.size ≤ 1000000000) (i : Nat) (hi : i < s.size) (t rest : List UInt8) (ht : txtF (s.data.toList.drop (i + 1)) [] = some (t, rest)) (w0 W : World) (hI : IsS46 w0 W g s i) (hB : Below w0.heap.size w0 W) :
    Calls Tryd.prog 30 #[.pointer (some ⟨g, 0, none⟩)] W fun e W' => e = .returned (.agg #[.int .i64 3, .string (bU t), .slice none 0 0, .slice none 0 0]) ∧ IsS46 w0 W' g s ((s.size - rest.length : Nat) : Int) ∧ Below w0.heap.size w0 W' ∧ KeepBut W W' g none := by
  have hu24 := Tryd.underlying24
  have hc0 := (hI.alloc (.cells #[.int .i64 0, .string ⟨#[]⟩, .slice none 0 0, .slice none 0 0] 24)).cells
  have hc1 := ((hI.alloc (.cells #[.int .i64 0, .string ⟨#[]⟩, .slice none 0 0, .slice none 0 0] 24)).alloc (.cells #[.pointer none, .slice none 0 0] 35)).cells
  obtain ⟨a0, a1, a2⟩ := hc0
  obtain ⟨b0, b1, b2⟩ := hc1
  have HT := Aside0.mk ht
  have HS0 := Aside0.mk (show TxS w0 W g W.heap.size (W.heap.size + 1) s i [] ((W.alloc (.cells #[.int .i64 0, .string ⟨#[]⟩, .slice none 0 0, .slice none 0 0] 24)).alloc (.cells #[.pointer none, .slice none 0 0] 35)) from
    ⟨by
      have := Lib.fresh_isBuilder 35 5 (W.alloc (.cells #[.int .i64 0, .string ⟨#[]⟩, .slice none 0 0, .slice none 0 0] 24))
      rw [show (W.alloc (.cells #[.int .i64 0, .string ⟨#[]⟩, .slice none 0 0, .slice none 0 0] 24)).heap.size = W.heap.size + 1 by simp] at this
      exact .of this, (hI.alloc _).alloc _, below_alloc (below_alloc hB _) _, keep_below (KeepBut.refl W g none) (below_alloc (below_alloc (Below.refl _ _) _) _), blk_alloc (blk_new W _) _, rfl, rfl, hI.lt⟩)
  have HI := Aside0.mk hI
  clear ht hI hB
  go_enter Tryd.func30, Tryd.ntmps30
  go_wp2_with fail
  repeat (go_quiet (fail); try go_wp2)
  try simp only [Act.put, List.setIfInBounds_toArray, List.set_cons_zero, List.set_cons_succ]
  have hsz : W.heap.size ≠ g := by have := HS0.out.hg; omega
  generalize hrr : W.heap.size = r at *
  have HRR := Aside0.mk hrr
  clear hrr
  have HS1 := Aside0.mk (HS0.out.set ((i : Int) + 1))
  clear a0 a1 a2 b0 b1 b2 HS0 HI
  go_loopg [] s.size (fun kq w' => ∃ (j : Nat) (acc : List UInt8), Aside0 (txtF (s.data.toList.drop j) acc = some (t, rest)) ∧ Aside0 (s.size - j ≤ kq ∧ j ≤ s.size ∧ acc.length ≤ j) ∧ Aside0 (TxS w0 W g r (r + 1) s (j : Int) acc w'))
  case atStart => exact ⟨i + 1, [], HT, ⟨by omega, by omega, by simp⟩, ⟨HS1.out.to (by omega)⟩⟩
  case round =>
    clear HT HS1
    obtain ⟨j, acc, HT, HJ, HS⟩ := hrel
    obtain ⟨hj1, hj2, hj3⟩ := HJ.out
    by_cases hlt : j < s.size
    · obtain ⟨c, l, hdr, hbt, hnx⟩ := bt_drop s j hlt
      have hltb : decide ((j : Int) < (s.size : Int)) = true := decide_eq_true (by omega)
      obtain ⟨x0, x1, x2⟩ := HS.out.st.cells
      have p4 : (0 : Int) ≤ (j : Int) := by omega
      have q4 : (j : Int) < (s.size : Int) := by omega
      have hx4 : ∀ h : j < s.size, (((s[j]'h).toNat : Nat) : Int) = (c.toNat : Int) := fun h => by rw [← hbt, ← bt_at s (j : Int) (by simpa using h)]; rfl
      replace p4 := eq_true p4
      replace q4 := eq_true q4
      rw [hdr] at HT
      by_cases h1 : c = 34
      · subst h1
        have h2 := HT.out
        rw [txtF_end] at h2
        simp only [Option.some.injEq, Prod.mk.injEq] at h2
        obtain ⟨rfl, rfl⟩ := h2
        have hx5 : ∀ h : j < s.size, (((s[j]'h).toNat : Nat) : Int) = 34 := fun h => (hx4 h).trans (by decide)
        clear hbt hx4
        go_wp2_with fail
        repeat (go_quiet (fail); try go_wp2_with fail)
        have hl0 : l.length = s.size - (j + 1) := by rw [← hnx]; simp
        refine (((HS.out.drewN _).set ((j : Int) + 1)).str).mono ?_
        rintro e w3 ⟨rfl, h3⟩
        have HS3 := Aside0.mk h3
        obtain ⟨⟨rc0, rc1, rc2, rc3⟩, rf0, rf1, rf2, rf3⟩ := blk4 h3.rs
        clear h3 HS
        go_wp2_with fail
        obtain ⟨f1, f2, f3⟩ := fin4 HS3.out.st HS3.out.b0 HS3.out.k HRR.out (by have := HS3.out.st.ge; have := HS3.out.hg; omega) hsz (.int .i64 3) (.string (bU acc)) (.slice none 0 0) (.slice none 0 0)
        (try simp only [Exit.inBlock, Exit.then])
        refine bodyPost_ret (results_cell24 (n := 2) Tryd.results30 _ _ r _ _ _ _ rfl (fin4r HS3.out.rs (.int .i64 3) (.string (bU acc)) (.slice none 0 0) (.slice none 0 0))) rfl ?_
        exact ⟨rfl, f1.to (by omega), f2, f3⟩
      · by_cases h2 : c = 92
        · subst h2
          obtain ⟨e, b, l', hl, hu, h3⟩ := txtF_bad HT.out
          subst hl
          have HT3 := Aside0.mk h3
          have hlen : j + 1 < s.size := by
            have h4 : (s.data.toList.drop (j + 1)).length = s.size - (j + 1) := by simp
            rw [hnx] at h4
            simp at h4
            omega
          obtain ⟨e', l2, hdr2, hbt2, hnx2⟩ := bt_drop s (j + 1) hlen
          rw [hnx] at hdr2
          simp only [List.cons.injEq] at hdr2
          obtain ⟨rfl, rfl⟩ := hdr2
          obtain ⟨k, hk4, hix, hbk⟩ := unesc_index hu
          have hx5 : ∀ h : j < s.size, (((s[j]'h).toNat : Nat) : Int) = 92 := fun h => (hx4 h).trans (by decide)
          have hgeb : decide ((s.size : Int) ≤ (j : Int) + 1) = false := decide_eq_false (by omega)
          have hgec : ¬ ((j : Int) + 1 ≥ (s.size : Int)) := by omega
          have p5 : (0 : Int) ≤ (j : Int) + 1 := by omega
          have q5 : (j : Int) + 1 < (s.size : Int) := by omega
          have hx6 : ∀ h : ((j : Int) + 1).toNat < s.size, (((s[((j : Int) + 1).toNat]'h).toNat : Nat) : Int) = (e.toNat : Int) := fun h => by
            rw [← hbt2, ← bt_at s ((j + 1 : Nat) : Int) (by simpa using hlen)]
            congr 2
          have hx7 : ∀ h : j + 1 < s.size, (((s[j + 1]'h).toNat : Nat) : Int) = (e.toNat : Int) := fun h => by
            rw [← hbt2, ← bt_at s ((j + 1 : Nat) : Int) (by simpa using hlen)]
            congr 2
          have hx8 : ∀ h : k < (⟨#[92, 34, 10, 9]⟩ : ByteArray).size, ((((⟨#[92, 34, 10, 9]⟩ : ByteArray)[k]'h).toNat : Nat) : Int) = (b.toNat : Int) := fun h => by
            rw [← hbk, ← bt_at ⟨#[92, 34, 10, 9]⟩ (k : Int) (by simpa using h)]
            rfl
          have p6 : (0 : Int) ≤ (k : Int) := by omega
          have q6 : (k : Int) < 4 := by omega
          have hk0 : ¬ ((k : Int) < 0) := by omega
          replace p5 := eq_true p5
          replace q5 := eq_true q5
          have HIX := Aside0.mk hix
          have HBK := Aside0.mk hbk
          have HNX := Aside0.mk hnx2
          clear hbt hx4 hbt2 hix hbk hnx hdr hu h3 hnx2
          go_wp2_with fail
          repeat (go_quiet (first | (go_at_call 19; (with_reducible refine (strings_IndexByte.calls (⟨#[92, 34, 110, 116]⟩ : ByteArray) (e.toNat : Int) (k : Int) _ HIX.out).mono ?_); rintro e' w' ⟨rfl, ⟨nd, rfl⟩⟩; (try first | exact ⟨rfl, _, World.drewN_drewN _ _ _⟩ | exact ⟨rfl, _, Eq.trans (World.drewN_drewN _ _ _) (congrArg (World.drewN _) (Nat.add_assoc _ _ _))⟩))); try go_wp2_with fail)
          clear x0 x1 x2 hx5 hx6 hx7 hx8
          refine ((HS.out.drewN _).byte b (by omega)).mono ?_
          rintro e2 w4 ⟨rfl, h4⟩
          have HS4 := Aside0.mk h4
          obtain ⟨x0, x1, x2⟩ := h4.st.cells
          clear h4 HS
          have HS5 := Aside0.mk (HS4.out.set ((j : Int) + 1))
          have HS6 := Aside0.mk (HS5.out.set ((j : Int) + 1 + 1))
          obtain ⟨y0, y1, y2⟩ := HS5.out.st.cells
          go_wp2_with fail
          obtain ⟨n, rfl⟩ : ∃ n, gk = n + 1 := ⟨gk - 1, by omega⟩
          go_roundg n
          case measure => omega
          case rel => exact ⟨j + 2, acc ++ [b], ⟨by rw [show j + 2 = j + 1 + 1 by omega, HNX.out]; exact HT3.out⟩, ⟨by simp only [List.length_append, List.length_cons, List.length_nil]; omega⟩, ⟨HS6.out.to (by omega)⟩⟩
        · rw [txtF_one h1 h2] at HT
          have hcs : (c.toNat : Int) ≠ 34 ∧ (c.toNat : Int) ≠ 92 := ⟨fun h => h1 ((u8_eq c 34 (by decide)).1 h), fun h => h2 ((u8_eq c 92 (by decide)).1 h)⟩
          have hb1 : ((c.toNat : Int) == 34) = false := beq_eq_false_iff_ne.mpr hcs.1
          have hb2 : ((c.toNat : Int) == 92) = false := beq_eq_false_iff_ne.mpr hcs.2
          have hb3 : ((c.toNat : Int) != 92) = true := bne_iff_ne.mpr hcs.2
          clear hcs hbt
          have HNX := Aside0.mk hnx
          clear hnx hdr
          go_wp2_with fail
          repeat (go_quiet (fail); try go_wp2_with fail)
          clear x0 x1 x2 hx4
          refine ((HS.out.drewN _).byte c (by omega)).mono ?_
          rintro e2 w4 ⟨rfl, h4⟩
          have HS4 := Aside0.mk h4
          obtain ⟨x0, x1, x2⟩ := h4.st.cells
          clear h4 HS
          have HS5 := Aside0.mk (HS4.out.set ((j : Int) + 1))
          go_wp2_with fail
          obtain ⟨n, rfl⟩ : ∃ n, gk = n + 1 := ⟨gk - 1, by omega⟩
          go_roundg n
          case measure => omega
          case rel => exact ⟨j + 1, acc ++ [c], ⟨by rw [HNX.out]; exact HT.out⟩, ⟨by simp only [List.length_append, List.length_cons, List.length_nil]; omega⟩, ⟨HS5.out.to (by omega)⟩⟩
    · obtain rfl : j = s.size := by omega
      have h5 := HT.out
      rw [List.drop_eq_nil_of_le (by simp)] at h5
      cases h5
end Go.Proofs.YtjphkokfleoinaaDoor.D
