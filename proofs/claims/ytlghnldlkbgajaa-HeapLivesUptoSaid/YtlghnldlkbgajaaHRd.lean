
/- heap: what may be read of both heaps alike (though one has been collected and the other not). -/
import Derived.Test.YtlghnldlkbgajaaHLwA
namespace Go.Proofs.Ytlghnldlkbgajaa.S
open Go.RowKit Go.Proofs.YtlghnldlkbgajaaW.PrintWords Go.Proofs.YtlghnldlkbgajaaW.PrintLast Go.Proofs.YtlghnldlkbgajaaW.PrintMore
set_option linter.unusedVariables false
set_option linter.unusedSimpArgs false
structure RdO (ρ : Int → Int → Prop) (a b : PO) : Prop where
  kind : a.kind = b.kind
  text : a.text = b.text
  fs : All2 (WR ρ) a.fs b.fs
structure Rd (ρ : Int → Int → Prop) (L : List OW) (hr : List Int) (hx : Int) (M : List OW) (kr : List Int) : Prop where
  dom : ∀ u v, ρ u v → ∃ x ∈ L, ∃ y ∈ M, x.k = u ∧ y.k = v ∧ RdO ρ x.o y.o
  inj : ∀ u v u' v', ρ u v → ρ u' v' → (u = u' ↔ v = v')
  roots : All2 (WR ρ) hr kr
  pl : L.Pairwise fun x y => x.k ≠ y.k
  pm : M.Pairwise fun x y => x.k ≠ y.k
  ll : ∀ x ∈ L, 0 < x.k ∧ x.k < hx ∧ x.k % 2 = 0
  lm : ∀ y ∈ M, 0 < y.k ∧ y.k % 2 = 0
  nl : 0 < hx ∧ hx % 2 = 0
  kd : ∀ x ∈ L, 0 < x.o.kind
  fine : ∀ x ∈ L, x.o.Fine
  fineM : ∀ y ∈ M, y.o.Fine
  shut : OldShut L
section
variable {ρ : Int → Int → Prop} {L M : List OW} {h : HH} {k : RS} {hr kr : List Int} {hx : Int}
theorem Sim.rd (s : Sim ρ L h M k) : Rd ρ L h.roots h.nx M k.roots :=
  ⟨fun u v hr => by obtain ⟨x, hx, y, hy, e, e2, ho⟩ := s.dom u v hr; exact ⟨x, hx, y, hy, e, e2, ho.kind, ho.text, ho.fs⟩, s.inj, s.roots, s.pl, s.pm, s.ll, fun y hy => by have := s.lm y hy; omega, s.nl, s.kd, s.fine, s.fineM, s.shut⟩
theorem Rd.noL (s : Rd ρ L hr hx M kr) {u : Int} (hc : constW u) : ¬ isKey L u := fun ⟨x, hx, e⟩ => by
  have := s.ll x hx
  rw [e] at this
  rcases hc with h | h <;> omega
theorem Rd.noM (s : Rd ρ L hr hx M kr) {u : Int} (hc : constW u) : ¬ isKey M u := fun ⟨x, hx, e⟩ => by
  have := s.lm x hx
  rw [e] at this
  rcases hc with h | h <;> omega
theorem fnd_noK {L : List OW} {u : Int} (h : ¬ isKey L u) : fnd L u = none := by
  cases hf : fnd L u with
  | none => rfl
  | some x => have := fnd_mem hf; exact absurd ⟨x, this.1, this.2⟩ h
theorem Rd.read (s : Rd ρ L hr hx M kr) {u v : Int} (hw : WR ρ u v) : (∃ x ∈ L, ∃ y ∈ M, x.k = u ∧ y.k = v ∧ ρ u v ∧ fnd L u = some x ∧ fnd M v = some y ∧ RdO ρ x.o y.o) ∨ (u = v ∧ constW u ∧ fnd L u = none ∧ fnd M v = none) := by
  rcases hw with hw | ⟨rfl, hc⟩
  · obtain ⟨x, hx, y, hy, rfl, rfl, ho⟩ := s.dom _ _ hw
    exact .inl ⟨x, hx, y, hy, rfl, rfl, hw, fnd_at s.pl hx, fnd_at s.pm hy, ho⟩
  · exact .inr ⟨rfl, hc, fnd_noK (s.noL hc), fnd_noK (s.noM hc)⟩
theorem Rd.kindEq (s : Rd ρ L hr hx M kr) {u v : Int} (hw : WR ρ u v) : kindF L u = kindF M v := by
  unfold kindF
  rcases s.read hw with ⟨x, hx, y, hy, -, -, -, e1, e2, ho⟩ | ⟨-, -, e1, e2⟩ <;> rw [e1, e2]
  exact ho.kind
theorem Rd.textEq (s : Rd ρ L hr hx M kr) {u v : Int} (hw : WR ρ u v) : textF L u = textF M v := by
  unfold textF
  rcases s.read hw with ⟨x, hx, y, hy, -, -, -, e1, e2, ho⟩ | ⟨-, -, e1, e2⟩ <;> rw [e1, e2]
  exact ho.text
theorem Rd.fieldEq (s : Rd ρ L hr hx M kr) {u v : Int} (hw : WR ρ u v) (i : Int) : (fieldF L u i).2 = (fieldF M v i).2 ∧ WR ρ (fieldF L u i).1 (fieldF M v i).1 := by
  unfold fieldF
  rcases s.read hw with ⟨x, hx, y, hy, -, -, -, e1, e2, ho⟩ | ⟨-, -, e1, e2⟩ <;> rw [e1, e2]
  · by_cases hi : i < 0 ∨ (x.o.fs.length : Int) ≤ i
    · have hi2 : i < 0 ∨ (y.o.fs.length : Int) ≤ i := by rw [← ho.fs.1]; exact hi
      simp only [if_pos hi, if_pos hi2]
      exact ⟨trivial, .inr ⟨rfl, constZero⟩⟩
    · have hi2 : ¬ (i < 0 ∨ (y.o.fs.length : Int) ≤ i) := by rw [← ho.fs.1]; exact hi
      simp only [if_neg hi, if_neg hi2]
      exact ⟨trivial, ho.fs.2 _ (by omega)⟩
  · exact ⟨rfl, .inr ⟨rfl, constZero⟩⟩
theorem Rd.kindZero (s : Rd ρ L hr hx M kr) {u v : Int} (hw : WR ρ u v) : (kindF M v = 0 ∧ u = v) ∨ (kindF M v ≠ 0 ∧ ρ u v ∧ ∃ x ∈ L, ∃ y ∈ M, x.k = u ∧ y.k = v ∧ fnd M v = some y ∧ RdO ρ x.o y.o) := by
  rcases s.read hw with ⟨x, hx, y, hy, rfl, rfl, hrr, e1, e2, ho⟩ | ⟨e, -, e1, e2⟩
  · refine .inr ⟨?_, hrr, x, hx, y, hy, rfl, rfl, e2, ho⟩
    unfold kindF; rw [e2]
    show y.o.kind ≠ 0
    have := s.kd x hx
    rw [← ho.kind]; omega
  · refine .inl ⟨?_, e⟩
    unfold kindF; rw [e2]
/-- The program's heap is collected, the document's is not. -/
theorem Rd.coll (s : Rd ρ L h.roots h.nx M kr) (all : Bool) : ∃ ρ', Rd ρ' (collL L h all) (collHH L h all).roots (collHH L h all).nx M kr := by
  obtain ⟨q, hq⟩ : ∃ q, q = (collMv L h all).q := ⟨_, rfl⟩
  obtain ⟨tt, htt⟩ : ∃ tt, tt = (collMv L h all).tt := ⟨_, rfl⟩
  have hri : ∀ {u u' : Int}, u ∈ q → u' ∈ q → ren tt u = ren tt u' → u = u' := fun {u u'} h1 h2 e => by
    rw [hq] at h1 h2; rw [htt] at e; exact ren_inj h1 h2 e
  have hno : ∀ {x : Int}, x ∉ q → ren tt x = x := fun {x} hx => by rw [htt]; exact ren_no (by rw [← hq]; exact hx)
  have hkq : ∀ x ∈ q, isKey L x := fun x hx => by rw [hq] at hx; exact (collMv_ok L h all).mem x hx
  have hlk : ∀ {u v : Int}, ρ u v → isKey L u := fun {u v} hr => by obtain ⟨x, hx, y, hy, e, -⟩ := s.dom _ _ hr; exact ⟨x, hx, e⟩
  refine ⟨fun u' v => ∃ u, ρ u v ∧ u ∈ q ∧ u' = ren tt u, ?_⟩
  have hW : ∀ u v, WR ρ u v → (isKey L u → u ∈ q) → WR (fun u' v => ∃ u, ρ u v ∧ u ∈ q ∧ u' = ren tt u) (ren tt u) v := fun u v hr hkk => by
    rcases hr with hr | ⟨rfl, hc⟩
    · exact .inl ⟨u, hr, hkk (hlk hr), rfl⟩
    · refine .inr ⟨?_, ?_⟩
      · exact hno (fun hx => s.noL hc (hkq _ hx))
      · rw [hno (fun hx => s.noL hc (hkq _ hx))]; exact hc
  refine ⟨?_, ?_, ?_, collL_keys L h all, s.pm, fun x hx => collL_low s.nl.1 s.nl.2 hx, s.lm, ?_, ?_, ?_, s.fineM, coll_shut s.pl⟩
  · rintro u' v ⟨u, hr, hu, rfl⟩
    obtain ⟨x, hx, y, hy, rfl, rfl, ho⟩ := s.dom _ _ hr
    refine ⟨_, collL_of s.pl hx (by rw [← hq]; exact hu), y, hy, by rw [htt], rfl, ho.kind, ho.text, ?_⟩
    show All2 _ (x.o.fs.map (ren (collMv L h all).tt)) y.o.fs
    rw [← htt]
    have := ho.fs.map (R' := WR (fun u' v => ∃ u, ρ u v ∧ u ∈ q ∧ u' = ren tt u)) (ren tt) id (fun u v hu' hv hr' => hW u v hr' (fun hku => by rw [hq] at hu ⊢; exact coll_closed s.pl s.shut hx hu hu' hku))
    simpa using this
  · rintro a b a' b' ⟨u, hr, hu, rfl⟩ ⟨u', hr', hu', rfl⟩
    constructor
    · intro e
      exact (s.inj _ _ _ _ hr hr').1 (hri hu hu' e)
    · intro e
      rw [(s.inj _ _ _ _ hr hr').2 e]
  · show All2 _ (h.roots.map (ren (collMv L h all).tt)) kr
    rw [← htt]
    have := s.roots.map (R' := WR (fun u' v => ∃ u, ρ u v ∧ u ∈ q ∧ u' = ren tt u)) (ren tt) id (fun u v hu' hv hr' => hW u v hr' (fun hku => by rw [hq]; exact coll_roots hu' hku))
    simpa using this
  · have hn : (collHH L h all).nx = h.nx + 2 * ((collMv L h all).q.length : Int) := (collMv_mv L h all).nx
    have := s.nl
    rw [hn]; omega
  · intro x hx
    obtain ⟨o, ho, -, rfl⟩ := collL_mem s.pl hx
    exact s.kd o ho
  · intro x hx
    obtain ⟨o, ho, -, rfl⟩ := collL_mem s.pl hx
    exact fine_done (s.fine o ho) _
theorem Rd.col (s : Rd ρ L h.roots h.nx M kr) (all : Bool) : ∃ ρ', Rd ρ' (ColF L h all).2.1 (ColF L h all).2.2.roots (ColF L h all).2.2.nx M kr := by
  unfold ColF
  by_cases hs : h.spent = true
  · rw [if_pos hs]; exact ⟨ρ, s⟩
  · rw [if_neg hs]
    have hmid : ∃ ρ', Rd ρ' (ColMid L h all).1 (ColMid L h all).2.roots (ColMid L h all).2.nx M kr := by
      obtain ⟨ρ1, s1⟩ := s.coll all
      unfold ColMid
      split
      · exact s1.coll true
      · exact ⟨ρ1, s1⟩
    split
    · exact hmid
    · exact hmid
end
/-! ### Reads of the program's heap, again -/
section
variable {w0 w w' : World} {K : List Nat} {g gx : Nat} {L : List OW} {h : HH} {M : List OW} {k : RS} {ρ : Int → Int → Prop}
theorem PM.kindD (P : PM w0 w K g gx L h M k) (hp : L.Pairwise fun x y => x.k ≠ y.k) (a : Int) : Calls Try.prog 13 #[ptr g, .int .i64 a] w fun e w' => e = .returned (.int .i64 (kindF L a)) ∧ Below w.heap.size w w' := by
  obtain ⟨b, R, rc, H, -⟩ := P.onL
  unfold kindF
  rcases fnd_iff hp a with ⟨x, hx, rfl, e2⟩ | ⟨hn, e2⟩ <;> rw [e2]
  · exact (kind_any H hx).mono fun e w' ⟨h1, h2⟩ => ⟨h1, h2 ▸ Below.refl _ _⟩
  · exact kind_none H hn
theorem PM.textD (P : PM w0 w K g gx L h M k) (hp : L.Pairwise fun x y => x.k ≠ y.k) (a : Int) : Calls Try.prog 23 #[ptr g, .int .i64 a] w fun e w' => e = .returned (.string (textF L a)) ∧ Below w.heap.size w w' := by
  obtain ⟨b, R, rc, H, -⟩ := P.onL
  unfold textF
  rcases fnd_iff hp a with ⟨x, hx, rfl, e2⟩ | ⟨hn, e2⟩ <;> rw [e2]
  · exact (string_any H hx).mono fun e w' ⟨h1, h2⟩ => ⟨h1, h2 ▸ Below.refl _ _⟩
  · exact string_none H hn
theorem PM.fieldD (P : PM w0 w K g gx L h M k) (hp : L.Pairwise fun x y => x.k ≠ y.k) (hk : ∀ x ∈ L, 0 < x.o.kind) (a i : Int) : Calls Try.prog 14 #[ptr g, .int .i64 a, .int .i64 i] w fun e w' => e = .returned (.tuple #[.int .i64 (fieldF L a i).1, .int .i64 (fieldF L a i).2]) ∧ Below w.heap.size w w' := by
  obtain ⟨b, R, rc, H, -⟩ := P.onL
  rcases fld_cases hp a i with ⟨hn, e⟩ | ⟨x, hx, rfl, ⟨hi, e⟩ | ⟨hi, e⟩⟩ <;> rw [e]
  · exact field_none H hn i
  · exact (field_out H hx (by have := hk x hx; omega) hi).mono fun e w' ⟨h1, h2⟩ => ⟨h1, h2 ▸ Below.refl _ _⟩
  · have := field_any H hx (by have := hk x hx; omega) (i := i.toNat) (by omega)
    rw [Int.toNat_of_nonneg hi.1] at this
    exact this.mono fun e w' ⟨h1, h2⟩ => ⟨h1, h2 ▸ Below.refl _ _⟩
end
/-! ### What has been met -/
def fwd (Z : List (Int × Int)) : List (Int × Value) := Z.map fun z => (z.1, .int .i64 z.2)
def bwd (Z : List (Int × Int)) : List (Int × Value) := Z.map fun z => (z.2, .int .i64 z.1)
def mapLen (w : World) (b : Nat) : Nat := match w.heap[b]? with | some (.map es _) => es.size | _ => 0
theorem mapLen_is {w : World} {b : Nat} {m : List (Int × Value)} (h : MapIs w b m) : mapLen w b = m.length := by
  obtain ⟨es, cl, h1, h2, h3⟩ := h
  unfold mapLen
  rw [h1]
  have := congrArg List.length h3
  simp [pairs] at this
  exact this
structure Met (ρ : Int → Int → Prop) (Z : List (Int × Int)) : Prop where
  rel : ∀ z ∈ Z, ρ z.1 z.2
  nd : (Z.map (·.1)).Nodup
theorem Met.nil (ρ : Int → Int → Prop) : Met ρ [] := ⟨(fun z hz => absurd hz (by simp)), List.nodup_nil⟩
section
variable {ρ : Int → Int → Prop} {L M : List OW} {hr kr : List Int} {hx : Int} {Z : List (Int × Int)}
theorem Met.len (m : Met ρ Z) (s : Rd ρ L hr hx M kr) : Z.length ≤ L.length := by
  have := nodup_le (Z.map (·.1)) (L.map OW.k) m.nd (fun x hx => by
    obtain ⟨z, hz, rfl⟩ := List.mem_map.1 hx
    obtain ⟨a, ha, y, hy, e, -⟩ := s.dom _ _ (m.rel z hz)
    exact List.mem_map.2 ⟨a, ha, e⟩)
  simpa using this
/-- A pair: met already, or not. -/
theorem Met.look (m : Met ρ Z) (s : Rd ρ L hr hx M kr) {u v : Int} (hr' : ρ u v) : (get? (fwd Z) u = some (.int .i64 v) ∧ get? (bwd Z) v = some (.int .i64 u)) ∨ (get? (fwd Z) u = none ∧ get? (bwd Z) v = none ∧ Met ρ (Z ++ [(u, v)]) ∧ put (fwd Z) u (.int .i64 v) = fwd (Z ++ [(u, v)]) ∧ put (bwd Z) v (.int .i64 u) = bwd (Z ++ [(u, v)])) := by
  by_cases hm : (u, v) ∈ Z
  · refine .inl ⟨?_, ?_⟩
    · cases hg : get? (fwd Z) u with
      | none => exact absurd rfl (get_none.1 hg (u, .int .i64 v) (List.mem_map.2 ⟨(u, v), hm, rfl⟩))
      | some c =>
        have := get_some_mem hg
        obtain ⟨z, hz, e⟩ := List.mem_map.1 this
        simp only [Prod.mk.injEq] at e
        have h1 := m.rel z hz
        rw [e.1] at h1
        rw [← e.2, (s.inj _ _ _ _ h1 hr').1 rfl]
    · cases hg : get? (bwd Z) v with
      | none => exact absurd rfl (get_none.1 hg (v, .int .i64 u) (List.mem_map.2 ⟨(u, v), hm, rfl⟩))
      | some c =>
        have := get_some_mem hg
        obtain ⟨z, hz, e⟩ := List.mem_map.1 this
        simp only [Prod.mk.injEq] at e
        have h1 := m.rel z hz
        rw [e.1] at h1
        rw [← e.2, (s.inj _ _ _ _ h1 hr').2 rfl]
  · have h1 : get? (fwd Z) u = none := by
      rw [get_none]
      intro p hp e
      obtain ⟨z, hz, rfl⟩ := List.mem_map.1 hp
      have e : z.1 = u := e
      have h2 := m.rel z hz
      rw [e] at h2
      have h3 := (s.inj _ _ _ _ h2 hr').1 rfl
      apply hm
      rw [← e, ← h3]; exact hz
    have h2 : get? (bwd Z) v = none := by
      rw [get_none]
      intro p hp e
      obtain ⟨z, hz, rfl⟩ := List.mem_map.1 hp
      have e : z.2 = v := e
      have h2 := m.rel z hz
      rw [e] at h2
      have h3 := (s.inj _ _ _ _ h2 hr').2 rfl
      apply hm
      rw [← e, ← h3]; exact hz
    refine .inr ⟨h1, h2, ⟨fun z hz => ?_, ?_⟩, ?_, ?_⟩
    · rcases List.mem_append.1 hz with hz | hz
      · exact m.rel z hz
      · obtain rfl := List.mem_singleton.1 hz; exact hr'
    · rw [List.map_append, List.nodup_append]
      refine ⟨m.nd, by simp, fun a ha b hb => ?_⟩
      obtain rfl : b = u := by simpa using hb
      obtain ⟨z, hz, rfl⟩ := List.mem_map.1 ha
      exact fun e => get_none.1 h1 (z.1, .int .i64 z.2) (List.mem_map.2 ⟨z, hz, rfl⟩) e
    · rw [put_new h1]; unfold fwd; rw [List.map_append]; rfl
    · rw [put_new h2]; unfold bwd; rw [List.map_append]; rfl
end
/-! ### What a law's own function holds: two slices of words, some maps -/
structure SW (w wr : World) (A1 : Option Addr) (c1 : Nat) (l : List Int) (A2 : Option Addr) (c2 : Nat) (m : List Int) (Q : List (Nat × List (Int × Value))) : Prop where
  o1 : OwnW wr w.heap.size A1 c1 l
  o2 : OwnW wr w.heap.size A2 c2 m
  ds : ∀ k, A1 = some ⟨k, 0, none⟩ → A2 ≠ some ⟨k, 0, none⟩
  mp : ∀ q ∈ Q, MapIs wr q.1 q.2 ∧ w.heap.size ≤ q.1
  nd : Q.Pairwise fun q r => q.1 ≠ r.1
  bel : Below w.heap.size w wr
section
variable {w wr wr' : World} {A1 A2 : Option Addr} {c1 c2 : Nat} {l m : List Int} {Q : List (Nat × List (Int × Value))}
theorem OwnW.row28 {w : World} {N : Nat} {A : Option Addr} {c : Nat} {l : List Int} (h : OwnW w N A c l) {k : Nat} (hk : A = some ⟨k, 0, none⟩) : ∃ cur, w.heap[k]? = some (.cells cur 28 (0, 0)) := by
  rcases h.own.2 with ⟨e4, -⟩ | ⟨q2, cap, cur2, e4, -, e5, -⟩
  · rw [hk] at e4; simp at e4
  · simp only [Value.slice.injEq] at e4
    rw [hk] at e4
    simp only [Option.some.injEq, Addr.mk.injEq] at e4
    obtain ⟨⟨rfl, -, -⟩, -⟩ := e4
    exact ⟨_, e5⟩
theorem MapIs.lt {w : World} {b : Nat} {m : List (Int × Value)} (h : MapIs w b m) : b < w.heap.size := by
  obtain ⟨es, cl, h1, -⟩ := h; exact blk_lt h1
theorem SW.new (H : SW w wr A1 c1 l A2 c2 m Q) (hb : Below wr.heap.size wr wr') : SW w wr' A1 c1 l A2 c2 m Q :=
  ⟨H.o1.frp (FrP.ofBelow hb) (fun k hk => by have := H.o1.lt hk; omega), H.o2.frp (FrP.ofBelow hb) (fun k hk => by have := H.o2.lt hk; omega), H.ds, fun q hq => ⟨(H.mp q hq).1.frp (FrP.ofBelow hb) (by have := (H.mp q hq).1.lt; omega), (H.mp q hq).2⟩, H.nd, below_step H.bel hb⟩
theorem SW.fr0 (H : SW w wr A1 c1 l A2 c2 m Q) (hb : Fr [] wr wr') : SW w wr' A1 c1 l A2 c2 m Q :=
  ⟨H.o1.frp (FrP.ofFr hb) (fun k _ => by simp), H.o2.frp (FrP.ofFr hb) (fun k _ => by simp), H.ds, fun q hq => ⟨(H.mp q hq).1.frp (FrP.ofFr hb) (by simp), (H.mp q hq).2⟩, H.nd, H.bel.trans ((FrP.ofFr hb).below H.bel.size (fun i hi => by simp at hi))⟩
theorem SW.drew (H : SW w wr A1 c1 l A2 c2 m Q) : SW w wr.drew A1 c1 l A2 c2 m Q := H.fr0 (Fr.drew [] wr)
theorem SW.more1 (H : SW w wr A1 c1 l A2 c2 m Q) (u : Int) (hl : l.length ≤ 100000000) :
    ∃ A' c' w', (∀ ty, (Builtin.append_ #[33, 33] ty #[.slice A1 l.length c1, .slice (some ⟨wr.heap.size, 0, none⟩) 1 1]).run Try.prog (wr.alloc (.cells #[.int .i64 u] 28)) = .ok (.slice A' (l.length + 1) c') w') ∧ SW w w' A' c' (l ++ [u]) A2 c2 m Q ∧ wr.heap.size ≤ w'.heap.size := by
  have hbx : Below wr.heap.size wr (wr.alloc (.cells #[.int .i64 u] 28)) := (Below.refl _ _).alloc (Nat.le_refl _) _
  have H2 := H.new hbx
  obtain ⟨A', c', w', hrun, ho, hf, hk⟩ := H2.o1.more u (heap_alloc_new wr _) hl (Nat.le_trans H.bel.size hbx.size)
  refine ⟨A', c', w', hrun, ⟨ho, H2.o2.frp hf (fun k hk1 hk2 => H.ds k hk2 hk1), fun k hk1 hk2 => ?_, fun q hq => ⟨(H2.mp q hq).1.frp hf (fun e => ?_), (H2.mp q hq).2⟩, H.nd, H2.bel.trans (hf.below H2.bel.size (fun k hk => H2.o1.lo k hk))⟩, Nat.le_trans hbx.size hf.size⟩
  · rcases hk k hk1 with h1 | h1
    · exact H.ds k h1 hk2
    · have := H2.o2.lt hk2; omega
  · obtain ⟨cur, h1⟩ := H2.o1.row28 e
    obtain ⟨es, cl, h2, -⟩ := (H2.mp q hq).1
    rw [h1] at h2; cases h2
theorem SW.more2 (H : SW w wr A1 c1 l A2 c2 m Q) (u : Int) (hl : m.length ≤ 100000000) :
    ∃ A' c' w', (∀ ty, (Builtin.append_ #[33, 33] ty #[.slice A2 m.length c2, .slice (some ⟨wr.heap.size, 0, none⟩) 1 1]).run Try.prog (wr.alloc (.cells #[.int .i64 u] 28)) = .ok (.slice A' (m.length + 1) c') w') ∧ SW w w' A1 c1 l A' c' (m ++ [u]) Q ∧ wr.heap.size ≤ w'.heap.size := by
  have hbx : Below wr.heap.size wr (wr.alloc (.cells #[.int .i64 u] 28)) := (Below.refl _ _).alloc (Nat.le_refl _) _
  have H2 := H.new hbx
  obtain ⟨A', c', w', hrun, ho, hf, hk⟩ := H2.o2.more u (heap_alloc_new wr _) hl (Nat.le_trans H.bel.size hbx.size)
  refine ⟨A', c', w', hrun, ⟨H2.o1.frp hf (fun k hk1 hk2 => H.ds k hk1 hk2), ho, fun k hk1 hk2 => ?_, fun q hq => ⟨(H2.mp q hq).1.frp hf (fun e => ?_), (H2.mp q hq).2⟩, H.nd, H2.bel.trans (hf.below H2.bel.size (fun k hk => H2.o2.lo k hk))⟩, Nat.le_trans hbx.size hf.size⟩
  · rcases hk k hk2 with h1 | h1
    · exact H.ds k hk1 h1
    · have := H2.o1.lt hk1; omega
  · obtain ⟨cur, h1⟩ := H2.o2.row28 e
    obtain ⟨es, cl, h2, -⟩ := (H2.mp q hq).1
    rw [h1] at h2; cases h2
theorem SW.put (H : SW w wr A1 c1 l A2 c2 m Q) {i : Nat} (hi : i < Q.length) {w' : World} {M' : List (Int × Value)} (hm : MapIs w' Q[i].1 M') (hb : But1 Q[i].1 wr w') : SW w w' A1 c1 l A2 c2 m (Q.set i (Q[i].1, M')) := by
  have hq := H.mp Q[i] (List.getElem_mem hi)
  have hf : FrP (· = Q[i].1) wr w' := ⟨hb.os, hb.tape, hb.output, Nat.le_of_eq hb.size.symm, fun k _ hk => hb.block k hk⟩
  have hnr : ∀ k cur, wr.heap[k]? = some (.cells cur 28 (0, 0)) → ¬ k = Q[i].1 := fun k cur hk e => by
    obtain ⟨es, cl, h2, -⟩ := hq.1
    rw [← e, hk] at h2; cases h2
  refine ⟨H.o1.frp hf (fun k hk => by obtain ⟨cur, h1⟩ := H.o1.row28 hk; exact hnr k cur h1), H.o2.frp hf (fun k hk => by obtain ⟨cur, h1⟩ := H.o2.row28 hk; exact hnr k cur h1), H.ds, fun q hqm => ?_, ?_, H.bel.trans (hf.below H.bel.size (fun k hk => by rw [hk]; exact hq.2))⟩
  · obtain ⟨j, hj, rfl⟩ := List.mem_iff_getElem.1 hqm
    rw [List.length_set] at hj
    rw [List.getElem_set]
    by_cases hij : i = j
    · rw [if_pos hij]; exact ⟨hm, hq.2⟩
    · rw [if_neg hij]
      have hq2 := H.mp Q[j] (List.getElem_mem hj)
      refine ⟨hq2.1.frp hf (fun e => ?_), hq2.2⟩
      have h1 := List.pairwise_iff_getElem.1 H.nd
      rcases Nat.lt_or_gt_of_ne hij with h3 | h3
      · exact h1 i j hi hj h3 e.symm
      · exact h1 j i hj hi h3 e
  · rw [List.pairwise_iff_getElem]
    intro a b ha hb' hab
    rw [List.length_set] at ha hb'
    rw [List.getElem_set, List.getElem_set]
    have h1 := List.pairwise_iff_getElem.1 H.nd a b ha hb' hab
    by_cases e1 : i = a
    · subst e1
      rw [if_pos rfl, if_neg (by omega)]; exact h1
    · rw [if_neg e1]
      by_cases e2 : i = b
      · subst e2; rw [if_pos rfl]; exact h1
      · rw [if_neg e2]; exact h1
theorem SW.at1 (H : SW w wr A1 c1 l A2 c2 m Q) {i : Nat} (hi : i < l.length) : ∃ q, A1 = some ⟨q, 0, none⟩ ∧ wr.cell? ⟨q, i, none⟩ = some (.int .i64 (l.getD i 0)) := by
  obtain ⟨q, e, hr⟩ := H.o1.rowIn (fun e => by rw [e] at hi; simp at hi)
  exact ⟨q, e, hr.cell hi⟩
theorem SW.at2 (H : SW w wr A1 c1 l A2 c2 m Q) {i : Nat} (hi : i < m.length) : ∃ q, A2 = some ⟨q, 0, none⟩ ∧ wr.cell? ⟨q, i, none⟩ = some (.int .i64 (m.getD i 0)) := by
  obtain ⟨q, e, hr⟩ := H.o2.rowIn (fun e => by rw [e] at hi; simp at hi)
  exact ⟨q, e, hr.cell hi⟩
end
end Go.Proofs.Ytlghnldlkbgajaa.S
