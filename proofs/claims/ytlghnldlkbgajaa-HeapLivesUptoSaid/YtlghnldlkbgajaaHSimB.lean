/- heap: the program's heap beside the document's: Set; what a word tells of an object; bounds (plain lists). heap: both heaps in one memory; bounds. heap: each call of either heap, of whatever comes in, over both in one memory. heap: what both heaps answer is the same, call by call (plain lists). -/
import Derived.Test.YtlghnldlkbgajaaHSimA
import Derived.Test.YtlghnldlkbgajaaHMk6
import Derived.Test.YtlghnldlkbgajaaHRf17
namespace Go.Proofs.Ytlghnldlkbgajaa.S
open Go.RowKit Go.Proofs.YtlghnldlkbgajaaW.PrintWords Go.Proofs.YtlghnldlkbgajaaW.PrintLast Go.Proofs.YtlghnldlkbgajaaW.PrintMore
set_option linter.unusedVariables false
set_option linter.unusedSimpArgs false
variable {ρ : Int → Int → Prop} {L M : List OW} {h : HH} {k : RS}
theorem Sim.youngEq (s : Sim ρ L h M k) {v v' : Int} (hv : WR ρ v v') : youngB L v = youngB M v' := by
  rcases hv with hr | ⟨rfl, hc⟩
  · obtain ⟨a, ha, b, hb, e, e2, ho⟩ := s.dom _ _ hr
    rcases find_cases L s.pl v with ⟨y, hy, ey, e3⟩ | ⟨hn, -⟩
    · rcases find_cases M s.pm v' with ⟨z, hz, ez, e4⟩ | ⟨hn, -⟩
      · obtain rfl : y = a := pw_eq OW.k s.pl hy ha (by show y.k = a.k; rw [ey, e])
        obtain rfl : z = b := pw_eq OW.k s.pm hz hb (by show z.k = b.k; rw [ez, e2])
        rw [e3, e4, ho.kind, ho.old]
      · exact absurd e2 (hn b hb)
    · exact absurd e (hn a ha)
  · rcases find_cases L s.pl v with ⟨y, hy, ey, e3⟩ | ⟨hn, e3⟩
    · exact absurd ⟨y, hy, ey⟩ (s.noL hc)
    · rcases find_cases M s.pm v with ⟨z, hz, ez, e4⟩ | ⟨hn, e4⟩
      · exact absurd ⟨z, hz, ez⟩ (s.noM hc)
      · rw [e3, e4]
def setO (old young : Bool) (i : Nat) (v : Int) (o : PO) : PO := if old = true ∧ young = true then { o.set i v with noted := true } else o.set i v
theorem setL_upd (L : List OW) (x : OW) (i : Nat) (v : Int) : setL L x i v = upd L x.k (setO x.o.old (youngB L v) i v) := by
  unfold setL
  by_cases hc : x.o.old = true ∧ youngB L v = true
  · rw [if_pos hc, upd_upd]
    congr 1
    funext o
    unfold setO
    rw [if_pos hc]
  · rw [if_neg hc]
    congr 1
    funext o
    unfold setO
    rw [if_neg hc]
theorem setO_kind (a b : Bool) (i : Nat) (v : Int) (o : PO) : (setO a b i v o).kind = o.kind ∧ (setO a b i v o).text = o.text ∧ (setO a b i v o).old = o.old ∧ (setO a b i v o).fs = o.fs.set i v ∧ (setO a b i v o).noted = (o.noted || (a && b)) := by
  unfold setO
  by_cases hc : a = true ∧ b = true
  · rw [if_pos hc, hc.1, hc.2]; exact ⟨rfl, rfl, rfl, rfl, by simp⟩
  · rw [if_neg hc]
    refine ⟨rfl, rfl, rfl, rfl, ?_⟩
    show o.noted = _
    cases a <;> cases b <;> simp at hc ⊢
theorem upd_memI {L : List OW} {c : Int} {f : PO → PO} {z : OW} (hz : z ∈ upd L c f) : ∃ a ∈ L, z = if a.k = c then { a with o := f a.o } else a := by
  unfold upd at hz
  obtain ⟨a, ha, e⟩ := List.mem_map.1 hz
  exact ⟨a, ha, e.symm⟩
theorem upd_in {L : List OW} {c : Int} {f : PO → PO} {a : OW} (ha : a ∈ L) : (if a.k = c then { a with o := f a.o } else a) ∈ upd L c f := List.mem_map.2 ⟨a, ha, rfl⟩
theorem ite_k {a : OW} {c : Int} {f : PO → PO} : (if a.k = c then { a with o := f a.o } else a : OW).k = a.k := by split <;> rfl
theorem upd_pw {L : List OW} {c : Int} {f : PO → PO} (h : L.Pairwise fun x y => x.k ≠ y.k) : (upd L c f).Pairwise fun x y => x.k ≠ y.k := by
  unfold upd
  rw [List.pairwise_map]
  exact h.imp fun {a b} hne => by rw [ite_k, ite_k]; exact hne
theorem Sim.set (s : Sim ρ L h M k) {x y : OW} (hx : x ∈ L) (hy : y ∈ M) (hxy : ρ x.k y.k) {i : Nat} {v v' : Int} (hv : WR ρ v v') : Sim ρ (setL L x i v) h (setL M y i v') k := by
  have hso := s.at hx hy hxy
  rw [setL_upd, setL_upd, s.youngEq hv, hso.old]
  obtain ⟨yo, hyo⟩ : ∃ b, b = youngB M v' := ⟨_, rfl⟩
  have hyL : youngB L v = yo := by rw [s.youngEq hv, hyo]
  rw [← hyo]
  obtain ⟨f, hf⟩ : ∃ f, f = setO y.o.old yo i v := ⟨_, rfl⟩
  obtain ⟨f', hf'⟩ : ∃ f, f = setO y.o.old yo i v' := ⟨_, rfl⟩
  rw [← hf, ← hf']
  have hF : ∀ o, (f o).kind = o.kind ∧ (f o).text = o.text ∧ (f o).old = o.old ∧ (f o).fs = o.fs.set i v ∧ (f o).noted = (o.noted || (y.o.old && yo)) := fun o => by rw [hf]; exact setO_kind _ _ _ _ _
  have hF' : ∀ o, (f' o).kind = o.kind ∧ (f' o).text = o.text ∧ (f' o).old = o.old ∧ (f' o).fs = o.fs.set i v' ∧ (f' o).noted = (o.noted || (y.o.old && yo)) := fun o => by rw [hf']; exact setO_kind _ _ _ _ _
  have hval : ∀ (b : Bool) (a : OW) (c : Int), valB b (if a.k = c then { a with o := f a.o } else a) = valB b a := fun b a c => by
    split
    · unfold valB PO.cells
      rw [show ({ a with o := f a.o } : OW).o = f a.o from rfl, (hF a.o).2.2.1, (hF a.o).2.2.2.1, (hF a.o).2.1, List.length_set]
    · rfl
  refine ⟨?_, ?_, ?_, s.inj, s.roots, upd_pw s.pl, upd_pw s.pm, ?_, ?_, s.nl, s.nm, ?_, ?_, ?_, s.room, ?_, s.cnt, s.sp⟩
  · intro a b hab
    obtain ⟨p, hp, q, hq, e, e2, ho⟩ := s.dom _ _ hab
    refine ⟨_, upd_in (c := x.k) (f := f) hp, _, upd_in (c := y.k) (f := f') hq, by rw [ite_k, e], by rw [ite_k, e2], ?_⟩
    by_cases hc : p.k = x.k
    · have hc2 : q.k = y.k := by
        rw [← e, ← e2] at hab
        exact (s.inj _ _ _ _ hab hxy).1 hc
      rw [if_pos hc, if_pos hc2]
      exact ⟨by rw [(hF _).1, (hF' _).1]; exact ho.kind, by rw [(hF _).2.1, (hF' _).2.1]; exact ho.text, by rw [(hF _).2.2.1, (hF' _).2.2.1]; exact ho.old, by rw [(hF _).2.2.2.2, (hF' _).2.2.2.2, ho.noted], by
        rw [(hF _).2.2.2.1, (hF' _).2.2.2.1]; exact ho.fs.set i hv⟩
    · have hc2 : ¬ q.k = y.k := fun e3 => by
        rw [← e, ← e2] at hab
        exact hc ((s.inj _ _ _ _ hab hxy).2 e3)
      rw [if_neg hc, if_neg hc2]
      exact ho
  · intro a ha
    obtain ⟨p, hp, rfl⟩ := upd_memI ha
    rw [ite_k]; exact s.lft p hp
  · intro a ha
    obtain ⟨p, hp, rfl⟩ := upd_memI ha
    rw [ite_k]; exact s.rgt p hp
  · intro a ha
    obtain ⟨p, hp, rfl⟩ := upd_memI ha
    rw [ite_k]; exact s.ll p hp
  · intro a ha
    obtain ⟨p, hp, rfl⟩ := upd_memI ha
    rw [ite_k]; exact s.lm p hp
  · intro a ha
    obtain ⟨p, hp, rfl⟩ := upd_memI ha
    have := s.kd p hp
    split
    · show 0 < (f p.o).kind; rw [(hF _).1]; exact this
    · exact this
  · intro a ha
    obtain ⟨p, hp, rfl⟩ := upd_memI ha
    have := s.fine p hp
    split
    · show (f p.o).Fine
      refine ⟨by rw [(hF _).2.2.2.1, List.length_set]; exact this.fl, by rw [(hF _).2.1]; exact this.tx, fun e => ?_, fun e => ?_⟩
      · rw [(hF _).1] at e; rw [(hF _).2.2.2.1, this.kt e]; rfl
      · rw [(hF _).1] at e; rw [(hF _).2.1]; exact this.kf e
    · exact this
  · intro a ha hao han g hg p hp e
    obtain ⟨a0, ha0, rfl⟩ := upd_memI ha
    obtain ⟨p0, hp0, rfl⟩ := upd_memI hp
    rw [ite_k] at e
    have hpo : (if p0.k = x.k then { p0 with o := f p0.o } else p0 : OW).o.old = p0.o.old := by
      split
      · exact (hF _).2.2.1
      · rfl
    rw [hpo]
    by_cases hc : a0.k = x.k
    · rw [if_pos hc] at hao han hg
      have hao : (f a0.o).old = true := hao
      have han : (f a0.o).noted = false := han
      have hg : g ∈ (f a0.o).fs := hg
      obtain rfl : a0 = x := pw_eq OW.k s.pl ha0 hx hc
      rw [(hF _).2.2.1] at hao
      rw [(hF _).2.2.2.2] at han
      rw [(hF _).2.2.2.1] at hg
      have han1 : a0.o.noted = false := by cases h1 : a0.o.noted <;> simp [h1] at han ⊢
      rcases List.mem_or_eq_of_mem_set hg with h1 | rfl
      · exact s.shut a0 ha0 hao han1 g h1 p0 hp0 e
      · have hyf : yo = false := by
          rw [← hso.old, hao] at han
          cases yo
          · rfl
          · simp at han
        rcases find_cases L s.pl g with ⟨z, hz, ez, e4⟩ | ⟨hn, -⟩
        · obtain rfl : z = p0 := pw_eq OW.k s.pl hz hp0 (by show z.k = p0.k; rw [ez, e])
          rw [hyL, hyf, decide_eq_true (s.kd z hz)] at e4
          cases hzo : z.o.old
          · rw [hzo] at e4; cases e4
          · rfl
        · exact absurd e (hn p0 hp0)
    · rw [if_neg hc] at hao han hg
      exact s.shut a0 ha0 hao han g hg p0 hp0 e
  · have e1 : ∀ b, sumB (upd L x.k f) b = sumB L b := fun b => by
      rw [sumB_sum, sumB_sum]
      congr 1
      unfold upd
      rw [List.map_map]
      exact List.map_congr_left fun a _ => hval b a x.k
    rw [e1, e1]; exact s.has
/-! ### What a word tells -/
theorem fnd_iff {L : List OW} (hp : L.Pairwise fun x y => x.k ≠ y.k) (a : Int) : (∃ x ∈ L, x.k = a ∧ fnd L a = some x) ∨ ((∀ x ∈ L, x.k ≠ a) ∧ fnd L a = none) := by
  cases hf : fnd L a with
  | none => exact .inr ⟨fnd_none hf, rfl⟩
  | some x => have := fnd_mem hf; exact .inl ⟨x, this.1, this.2, rfl⟩
theorem Sim.read (s : Sim ρ L h M k) {u v : Int} (hr : WR ρ u v) : (∃ x ∈ L, ∃ y ∈ M, x.k = u ∧ y.k = v ∧ ρ u v ∧ fnd L u = some x ∧ fnd M v = some y ∧ SimO ρ x.o y.o) ∨ (u = v ∧ constW u ∧ fnd L u = none ∧ fnd M v = none) := by
  rcases hr with hr | ⟨rfl, hc⟩
  · obtain ⟨x, hx, y, hy, rfl, rfl, ho⟩ := s.dom _ _ hr
    exact .inl ⟨x, hx, y, hy, rfl, rfl, hr, fnd_at s.pl hx, fnd_at s.pm hy, ho⟩
  · refine .inr ⟨rfl, hc, ?_, ?_⟩
    · rcases fnd_iff s.pl u with ⟨x, hx, e, -⟩ | ⟨-, e⟩
      · exact absurd ⟨x, hx, e⟩ (s.noL hc)
      · exact e
    · rcases fnd_iff s.pm u with ⟨x, hx, e, -⟩ | ⟨-, e⟩
      · exact absurd ⟨x, hx, e⟩ (s.noM hc)
      · exact e
theorem constZero : constW 0 := .inr ⟨by omega, by omega⟩
theorem Sim.fieldEq (s : Sim ρ L h M k) {u v : Int} (hr : WR ρ u v) (i : Int) : (fieldF L u i).2 = (fieldF M v i).2 ∧ WR ρ (fieldF L u i).1 (fieldF M v i).1 := by
  unfold fieldF
  rcases s.read hr with ⟨x, hx, y, hy, -, -, -, e1, e2, ho⟩ | ⟨-, -, e1, e2⟩ <;> rw [e1, e2]
  · by_cases hi : i < 0 ∨ (x.o.fs.length : Int) ≤ i
    · have hi2 : i < 0 ∨ (y.o.fs.length : Int) ≤ i := by rw [← ho.fs.1]; exact hi
      simp only [if_pos hi, if_pos hi2]
      exact ⟨trivial, .inr ⟨rfl, constZero⟩⟩
    · have hi2 : ¬ (i < 0 ∨ (y.o.fs.length : Int) ≤ i) := by rw [← ho.fs.1]; exact hi
      simp only [if_neg hi, if_neg hi2]
      exact ⟨trivial, ho.fs.2 _ (by omega)⟩
  · exact ⟨rfl, .inr ⟨rfl, constZero⟩⟩
end Go.Proofs.Ytlghnldlkbgajaa.S
namespace Go.Proofs.Ytlghnldlkbgajaa.S
open Go.RowKit Go.Proofs.YtlghnldlkbgajaaW.PrintWords Go.Proofs.YtlghnldlkbgajaaW.PrintLast Go.Proofs.YtlghnldlkbgajaaW.PrintMore
set_option linter.unusedVariables false
set_option linter.unusedSimpArgs false
/-- The blocks that the heaps may take: those made behind w0, but for K. -/
def Gd (w0 : World) (K : List Nat) (i : Nat) : Prop := w0.heap.size ≤ i ∧ i ∉ K
structure PMx (w0 w : World) (K : List Nat) (g gx : Nat) (L : List OW) (h : HH) (M : List OW) (k : RS) (b : Nat) (R : Option Addr) (rc : Nat) (V : Value) (Rx : Option Addr) (rcx : Nat) : Prop where
  hw : HW w g b 0 R rc L h
  hr : HR w gx V Rx rcx M k
  fl : ∀ i, Foot g b R L i → Gd w0 K i
  fr : ∀ i, FootR gx V Rx M i → Gd w0 K i
  dj : ∀ i, Foot g b R L i → ¬ FootR gx V Rx M i
  bel : Below w0.heap.size w0 w
  kl : ∀ i ∈ K, i < w.heap.size
def PM (w0 w : World) (K : List Nat) (g gx : Nat) (L : List OW) (h : HH) (M : List OW) (k : RS) : Prop := ∃ b R rc V Rx rcx, PMx w0 w K g gx L h M k b R rc V Rx rcx
section
variable {w0 w w' : World} {K : List Nat} {g gx : Nat} {L : List OW} {h : HH} {M : List OW} {k : RS}
theorem PM.onL (P : PM w0 w K g gx L h M k) : ∃ b R rc, HW w g b 0 R rc L h ∧ ∀ {w' : World} {b' : Nat} {R' : Option Addr} {rc' : Nat} {L' : List OW} {h' : HH}, HW w' g b' 0 R' rc' L' h' → FrP (Foot g b R L) w w' → (∀ i, Foot g b' R' L' i → Foot g b R L i ∨ w.heap.size ≤ i) →
    PM w0 w' K g gx L' h' M k ∧ FrP (Gd w0 K) w w' := by
  obtain ⟨b, R, rc, V, Rx, rcx, p⟩ := P
  refine ⟨b, R, rc, p.hw, fun {w' b' R' rc' L' h'} H hf hk => ?_⟩
  have hsz := p.bel.size
  have hf' : FrP (Gd w0 K) w w' := hf.mono (fun i _ hi => p.fl i hi)
  refine ⟨⟨b', R', rc', V, Rx, rcx, H, p.hr.frp hf (fun i hi hi' => p.dj i hi' hi), fun i hi => ?_, p.fr, fun i hi hi' => ?_, p.bel.trans (hf'.below hsz (fun i hi => hi.1)), fun i hi => Nat.lt_of_lt_of_le (p.kl i hi) hf.size⟩, hf'⟩
  · rcases hk i hi with h1 | h1
    · exact p.fl i h1
    · exact ⟨by omega, fun hm => by have := p.kl i hm; omega⟩
  · rcases hk i hi with h1 | h1
    · exact p.dj i h1 hi'
    · have := p.hr.foot_lt hi'; omega
theorem PM.onR (P : PM w0 w K g gx L h M k) : ∃ V Rx rcx, HR w gx V Rx rcx M k ∧ ∀ {w' : World} {V' : Value} {R' : Option Addr} {rc' : Nat} {M' : List OW} {k' : RS}, HR w' gx V' R' rc' M' k' → StepR gx V Rx M V' R' M' w w' →
    PM w0 w' K g gx L h M' k' ∧ FrP (Gd w0 K) w w' := by
  obtain ⟨b, R, rc, V, Rx, rcx, p⟩ := P
  refine ⟨V, Rx, rcx, p.hr, fun {w' V' R' rc' M' k'} H st => ?_⟩
  have hsz := p.bel.size
  have hf' : FrP (Gd w0 K) w w' := st.fr.mono (fun i _ hi => p.fr i hi)
  refine ⟨⟨b, R, rc, V', R', rc', p.hw.frp st.fr (fun i hi hi' => p.dj i hi hi'), H, p.fl, fun i hi => ?_, fun i hi hi' => ?_, p.bel.trans (hf'.below hsz (fun i hi => hi.1)), fun i hi => Nat.lt_of_lt_of_le (p.kl i hi) st.fr.size⟩, hf'⟩
  · rcases st.ft i hi with h1 | h1
    · exact p.fr i h1
    · exact ⟨by omega, fun hm => by have := p.kl i hm; omega⟩
  · rcases st.ft i hi' with h1 | h1
    · exact p.dj i hi h1
    · have := p.hw.foot_lt hi; omega
theorem PM.new (P : PM w0 w K g gx L h M k) (hb : Below w.heap.size w w') : PM w0 w' K g gx L h M k := by
  obtain ⟨b, R, rc, V, Rx, rcx, p⟩ := P
  exact ⟨b, R, rc, V, Rx, rcx, p.hw.new hb, p.hr.new hb, p.fl, p.fr, p.dj, below_step p.bel hb, fun i hi => Nat.lt_of_lt_of_le (p.kl i hi) hb.size⟩
theorem PM.fr0 (P : PM w0 w K g gx L h M k) (hb : Fr [] w w') : PM w0 w' K g gx L h M k := by
  obtain ⟨b, R, rc, V, Rx, rcx, p⟩ := P
  exact ⟨b, R, rc, V, Rx, rcx, p.hw.fr0 hb, p.hr.fr0 hb, p.fl, p.fr, p.dj, p.bel.trans ((FrP.ofFr hb).below p.bel.size (fun i hi => by simp at hi)), fun i hi => Nat.lt_of_lt_of_le (p.kl i hi) hb.size⟩
/-- New blocks that are none of the heaps'. -/
theorem PM.guard (P : PM w0 w K g gx L h M k) (hb : Below w.heap.size w w') (K' : List Nat) (hk : ∀ j ∈ K', w.heap.size ≤ j ∧ j < w'.heap.size) : PM w0 w' (K' ++ K) g gx L h M k := by
  obtain ⟨b, R, rc, V, Rx, rcx, p⟩ := P
  refine ⟨b, R, rc, V, Rx, rcx, p.hw.new hb, p.hr.new hb, fun i hi => ?_, fun i hi => ?_, p.dj, below_step p.bel hb, fun i hi => ?_⟩
  · refine ⟨(p.fl i hi).1, fun hm => ?_⟩
    rcases List.mem_append.1 hm with hm | hm
    · have := (hk i hm).1; have := p.hw.foot_lt hi; omega
    · exact (p.fl i hi).2 hm
  · refine ⟨(p.fr i hi).1, fun hm => ?_⟩
    rcases List.mem_append.1 hm with hm | hm
    · have := (hk i hm).1; have := p.hr.foot_lt hi; omega
    · exact (p.fr i hi).2 hm
  · rcases List.mem_append.1 hi with hi | hi
    · exact (hk i hi).2
    · exact Nat.lt_of_lt_of_le (p.kl i hi) hb.size
/-- Fewer that are to be kept apart. -/
theorem PM.less (P : PM w0 w K g gx L h M k) {K' : List Nat} (hk : ∀ j ∈ K', j ∈ K) : PM w0 w K' g gx L h M k := by
  obtain ⟨b, R, rc, V, Rx, rcx, p⟩ := P
  exact ⟨b, R, rc, V, Rx, rcx, p.hw, p.hr, fun i hi => ⟨(p.fl i hi).1, fun hm => (p.fl i hi).2 (hk i hm)⟩, fun i hi => ⟨(p.fr i hi).1, fun hm => (p.fr i hi).2 (hk i hm)⟩, p.dj, p.bel, fun i hi => p.kl i (hk i hi)⟩
theorem PM.bel (P : PM w0 w K g gx L h M k) : Below w0.heap.size w0 w := by
  obtain ⟨b, R, rc, V, Rx, rcx, p⟩ := P
  exact p.bel
theorem PM.tapart (P : PM w0 w K g gx L h M k) : M.Pairwise fun x y => x.t ≠ y.t := by
  obtain ⟨b, R, rc, V, Rx, rcx, p⟩ := P
  exact p.hr.q.one.imp fun h => h.1
end
/-! ### Bounds -/
structure Bnd (n : Nat) (L : List OW) (h : HH) (M : List OW) (k : RS) : Prop where
  ll : L.length ≤ n
  lm : M.length ≤ n
  rl : h.roots.length ≤ n
  nx : h.nx ≤ 2 + 5000000 * (n : Int)
  kx : k.nx ≤ 2 + 5000000 * (n : Int)
  mm : 0 ≤ h.minor ∧ h.minor ≤ 2 * (n : Int) ∧ 0 ≤ h.major ∧ h.major ≤ 2 * (n : Int)
section
variable {ρ : Int → Int → Prop} {L M : List OW} {h : HH} {k : RS} {n : Nat}
theorem Bnd.sm (b : Bnd n L h M k) (s : Sim ρ L h M k) (hn : n ≤ 1000) : Sm L h := by
  have := b.ll; have := b.rl; have := b.nx; have := b.mm
  exact ⟨by omega, ⟨s.nl.1, s.nl.2, by omega⟩, fun o ho => by have := (s.fine o ho).fl; omega, fun o ho => by have := (s.fine o ho).tx; omega, by omega, by omega⟩
theorem Bnd.smt (b : Bnd n L h M k) (s : Sim ρ L h M k) (hn : n ≤ 1000) : SmT M k := by
  have := b.lm; have := b.rl; have := b.kx; have := b.mm; have := s.roots.1; have hc := s.cnt
  exact ⟨⟨by omega, ⟨s.nm.1, s.nm.2, by omega⟩, s.fineM, by omega, by omega⟩, by omega, by omega⟩
theorem Bnd.mono (b : Bnd n L h M k) {m : Nat} (hm : n ≤ m) : Bnd m L h M k := by
  have := b.ll; have := b.lm; have := b.rl; have := b.nx; have := b.kx; have := b.mm
  exact ⟨by omega, by omega, by omega, by omega, by omega, by omega⟩
theorem Sim.has0 (s : Sim ρ L h M k) : 0 ≤ h.has0 ∧ h.has0 ≤ 1600 * (L.length : Int) := by
  rw [s.has.1]; exact sumB_bound s.fine false
theorem coll_b (L : List OW) (h : HH) (all : Bool) : (collL L h all).length ≤ L.length ∧ (collHH L h all).nx ≤ h.nx + 2 * (L.length : Int) ∧ h.minor ≤ (collHH L h all).minor ∧ (collHH L h all).minor ≤ h.minor + 1 ∧ h.major ≤ (collHH L h all).major ∧ (collHH L h all).major ≤ h.major + 1 ∧ ((collHH L h all).minor - h.minor) + ((collHH L h all).major - h.major) = 1 := by
  have h1 := (collMv_ok L h all).len
  have h2 : (collHH L h all).nx = h.nx + 2 * ((collMv L h all).q.length : Int) := (collMv_mv L h all).nx
  have h3 : (collHH L h all).minor = if all then h.minor else h.minor + 1 := rfl
  have h4 : (collHH L h all).major = if all then h.major + 1 else h.major := rfl
  rw [collL_len, h2, h3, h4]
  cases all <;> simp <;> omega
theorem ColF_b (L : List OW) (h : HH) (all : Bool) : (ColF L h all).2.1.length ≤ L.length ∧ (ColF L h all).2.2.nx ≤ h.nx + 4 * (L.length : Int) ∧ h.minor ≤ (ColF L h all).2.2.minor ∧ (ColF L h all).2.2.minor ≤ h.minor + 1 ∧ h.major ≤ (ColF L h all).2.2.major ∧ (ColF L h all).2.2.major ≤ h.major + 1 := by
  have h1 := coll_b L h all
  have h2 := coll_b (collL L h all) (collHH L h all) true
  unfold ColF ColMid
  by_cases hs : h.spent = true
  · rw [if_pos hs]
    exact ⟨Nat.le_refl _, by show h.nx ≤ _; omega, Int.le_refl _, by show h.minor ≤ _; omega, Int.le_refl _, by show h.major ≤ _; omega⟩
  · rw [if_neg hs]
    by_cases hc : all = false ∧ (collHH L h all).room1 < (collHH L h all).has1
    · have hm : (collHH L h all).major = h.major := by rw [hc.1]; rfl
      have hm2 : (collHH (collL L h all) (collHH L h all) true).minor = (collHH L h all).minor := rfl
      simp only [if_pos hc]
      split <;> refine ⟨?_, ?_, ?_, ?_, ?_, ?_⟩ <;> dsimp only <;> omega
    · simp only [if_neg hc]
      split <;> refine ⟨?_, ?_, ?_, ?_, ?_, ?_⟩ <;> dsimp only <;> omega
theorem moved_b {M S : List OW} {k k1 : RS} (hS : S.length ≤ M.length) (h1 : k1.nx = k.nx) : (movL k.nx S).length ≤ M.length ∧ (k1.moved S).nx ≤ k.nx + 2 * (M.length : Int) := by
  refine ⟨by rw [movL_len]; exact hS, ?_⟩
  show k1.nx + 2 * (S.length : Int) ≤ _
  omega
theorem RAll_b {M M' : List OW} {k k' : RS} (hA : RAll M k M' k') : M'.length ≤ M.length ∧ k'.nx ≤ k.nx + 2 * (M.length : Int) := by
  obtain ⟨out, hr, rfl, rfl⟩ := hA
  exact moved_b (ts_le hr.sub hr.nd) rfl
theorem RYoung_b {M M' : List OW} {k k' : RS} (hA : RYoung M k M' k') : M'.length ≤ M.length ∧ k'.nx ≤ k.nx + 2 * (M.length : Int) := by
  obtain ⟨out, hr, rfl, rfl⟩ := hA
  exact moved_b (stayL_le _ _) rfl
theorem RMid_b {all : Bool} {M M' : List OW} {k k' : RS} (hm : RMid all M k M' k') : M'.length ≤ M.length ∧ k'.nx ≤ k.nx + 4 * (M.length : Int) := by
  rcases hm with ⟨-, hA⟩ | ⟨-, L1, h1, hY, ⟨-, hA⟩ | ⟨-, rfl, rfl⟩⟩
  · have := RAll_b hA; omega
  · have := RAll_b hA; have := RYoung_b hY; omega
  · have := RYoung_b hY; omega
theorem RCol_b {all : Bool} {M M' : List OW} {k k' : RS} {e : Int} (hc : RCol all M k e M' k') : M'.length ≤ M.length ∧ k'.nx ≤ k.nx + 4 * (M.length : Int) := by
  rcases hc with ⟨-, -, rfl, rfl⟩ | ⟨-, h1, hm, ⟨-, -, rfl⟩ | ⟨-, -, rfl⟩⟩
  · omega
  · have := RMid_b hm; exact ⟨this.1, this.2⟩
  · exact RMid_b hm
theorem RRoom_b {m : Int} {M M' : List OW} {k k' : RS} {e : Int} (hr : RRoom m M k e M' k') : M'.length ≤ M.length ∧ k'.nx ≤ k.nx + 4 * (M.length : Int) := by
  rcases hr with ⟨-, -, rfl, rfl⟩ | ⟨-, ⟨-, -, rfl, rfl⟩ | ⟨-, hc⟩⟩
  · omega
  · omega
  · exact RCol_b hc
theorem Bnd.col (b : Bnd n L h M k) (hn : n ≤ 1000) (all : Bool) {e : Int} {M' : List OW} {k' : RS} (hc : RCol all M k e M' k') : Bnd (n + 1) (ColF L h all).2.1 (ColF L h all).2.2 M' k' := by
  have h1 := ColF_b L h all
  have h2 := RCol_b hc
  have h3 := ColF_roots L h all
  have := b.ll; have := b.lm; have := b.rl; have := b.nx; have := b.kx; have := b.mm
  exact ⟨by omega, by omega, by omega, by omega, by omega, by omega⟩
theorem roomF_b (L : List OW) (h : HH) (o : PO) : (roomF L h o).2.1.length ≤ L.length ∧ (roomF L h o).2.2.1.nx ≤ h.nx + 4 * (L.length : Int) ∧ h.minor ≤ (roomF L h o).2.2.1.minor ∧ (roomF L h o).2.2.1.minor ≤ h.minor + 1 ∧ h.major ≤ (roomF L h o).2.2.1.major ∧ (roomF L h o).2.2.1.major ≤ h.major + 1 ∧ (roomF L h o).2.2.1.roots.length = h.roots.length := by
  unfold roomF
  split
  · exact ⟨Nat.le_refl _, by show h.nx ≤ _; omega, Int.le_refl _, by show h.minor ≤ _; omega, Int.le_refl _, by show h.major ≤ _; omega, rfl⟩
  · split
    · have h1 := ColF_b L { h with roots := h.roots ++ o.fs } false
      have h2 := ColF_roots L { h with roots := h.roots ++ o.fs } false
      refine ⟨h1.1, h1.2.1, h1.2.2.1, h1.2.2.2.1, h1.2.2.2.2.1, h1.2.2.2.2.2, ?_⟩
      show (List.take _ _).length = _
      rw [List.length_take, h2]
      show min _ (h.roots ++ o.fs).length = _
      rw [List.length_append]; omega
    · exact ⟨Nat.le_refl _, by show h.nx ≤ _; omega, Int.le_refl _, by show h.minor ≤ _; omega, Int.le_refl _, by show h.major ≤ _; omega, rfl⟩
end
end Go.Proofs.Ytlghnldlkbgajaa.S
namespace Go.Proofs.Ytlghnldlkbgajaa.S
open Go.RowKit Go.Proofs.YtlghnldlkbgajaaW.PrintWords Go.Proofs.YtlghnldlkbgajaaW.PrintLast Go.Proofs.YtlghnldlkbgajaaW.PrintMore
set_option linter.unusedVariables false
set_option linter.unusedSimpArgs false
/-! ### Words that may be none -/
def WX (ρ : Int → Int → Prop) (u v : Int) : Prop := ρ u v ∨ (u = v ∧ (u % 2 = 1 ∨ u ≤ 0))
section
variable {ρ : Int → Int → Prop} {L M : List OW} {h : HH} {k : RS} {n : Nat}
theorem WX.of {u v : Int} (h : WR ρ u v) : WX ρ u v := h.imp id (fun ⟨e, hc⟩ => ⟨e, hc.imp id (fun h => h.1)⟩)
theorem Sim.xl (s : Sim ρ L h M k) {u : Int} (hc : u % 2 = 1 ∨ u ≤ 0) : ¬ isKey L u ∧ ¬ isKey M u := ⟨fun ⟨x, hx, e⟩ => by have := s.ll x hx; omega, fun ⟨x, hx, e⟩ => by have := s.lm x hx; omega⟩
theorem fnd_no {L : List OW} {u : Int} (h : ¬ isKey L u) : fnd L u = none := by
  cases hf : fnd L u with
  | none => rfl
  | some x => have := fnd_mem hf; exact absurd ⟨x, this.1, this.2⟩ h
theorem Sim.readX (s : Sim ρ L h M k) {u v : Int} (hr : WX ρ u v) : (∃ x ∈ L, ∃ y ∈ M, x.k = u ∧ y.k = v ∧ ρ u v ∧ fnd L u = some x ∧ fnd M v = some y ∧ SimO ρ x.o y.o) ∨ (u = v ∧ (u % 2 = 1 ∨ u ≤ 0) ∧ fnd L u = none ∧ fnd M v = none) := by
  rcases hr with hr | ⟨rfl, hc⟩
  · obtain ⟨x, hx, y, hy, rfl, rfl, ho⟩ := s.dom _ _ hr
    exact .inl ⟨x, hx, y, hy, rfl, rfl, hr, fnd_at s.pl hx, fnd_at s.pm hy, ho⟩
  · exact .inr ⟨rfl, hc, fnd_no (s.xl hc).1, fnd_no (s.xl hc).2⟩
theorem Sim.thereX (s : Sim ρ L h M k) {u v : Int} (hr : WX ρ u v) : thereB L u = thereB M v := by
  rcases hr with hr | ⟨rfl, hc⟩
  · rw [(s.there (.inl hr)).1, (s.there (.inl hr)).2]
  · unfold thereB
    have h1 : (L.any fun o => decide (o.k = u)) = false := by
      cases hb : (L.any fun o => decide (o.k = u)) with
      | false => rfl
      | true => exact absurd (any_iff.1 hb) (s.xl hc).1
    have h2 : (M.any fun o => decide (o.k = u)) = false := by
      cases hb : (M.any fun o => decide (o.k = u)) with
      | false => rfl
      | true => exact absurd (any_iff.1 hb) (s.xl hc).2
    rw [h1, h2]
theorem Sim.upW (s : Sim ρ L h M k) {u v : Int} (hr : WX ρ u v) (ht : thereB L u = true) : WR ρ u v := by
  rcases hr with hr | ⟨rfl, hc⟩
  · exact .inl hr
  · refine .inr ⟨rfl, ?_⟩
    unfold thereB at ht
    simp only [Bool.or_eq_true, Bool.and_eq_true, decide_eq_true_eq] at ht
    rcases ht with (ht | ht) | ht
    · exact .inl ht
    · exact .inr ht
    · exact absurd (any_iff.1 ht) (s.xl hc).1
end
/-! ### What the calls answer -/
def MakeP (kind : Int) (fs : List Int) (L : List OW) (h : HH) (r er : Int) (L' : List OW) (h' : HH) : Prop :=
  (argB kind fs.length = false ∧ r = 0 ∧ er = 1 ∧ L' = L ∧ h' = h) ∨ (argB kind fs.length = true ∧ fs.all (thereB L) = false ∧ r = 0 ∧ er = 141 ∧ L' = L ∧ h' = h) ∨
  (argB kind fs.length = true ∧ fs.all (thereB L) = true ∧ ∃ x : OW, x.o = ⟨kind, fs, ⟨#[]⟩, false, false⟩ ∧ r = (plO L h x).1 ∧ er = (plO L h x).2.1 ∧ L' = (plO L h x).2.2.1 ∧ h' = (plO L h x).2.2.2)
def PutP (o : Int → List Int → PO) (n : Int) (fs : List Int) (M : List OW) (k : RS) (r er : Int) (M' : List OW) (k' : RS) : Prop :=
  ∃ err L1 h1, RRoom n M { k with roots := k.roots ++ fs } err L1 h1 ∧
    ((err ≠ 0 ∧ r = 0 ∧ er = err ∧ M' = L1 ∧ k' = { h1 with roots := h1.roots.take k.roots.length }) ∨
     (err = 0 ∧ r = h1.nx ∧ er = 0 ∧ ∃ x : OW, x.k = h1.nx ∧ x.o = o h1.nx (h1.roots.drop k.roots.length) ∧ M' = L1 ++ [x] ∧ k' = { h1 with nx := h1.nx + 2, roots := h1.roots.take k.roots.length }))
def RMakeP (kind : Int) (fs : List Int) (M : List OW) (k : RS) (r er : Int) (M' : List OW) (k' : RS) : Prop :=
  (argB kind fs.length = false ∧ r = 0 ∧ er = 1 ∧ M' = M ∧ k' = k) ∨ (argB kind fs.length = true ∧ fs.all (thereB M) = false ∧ r = 0 ∧ er = 141 ∧ M' = M ∧ k' = k) ∨
  (argB kind fs.length = true ∧ fs.all (thereB M) = true ∧ PutP (fun _ f => ⟨kind, f, ⟨#[]⟩, false, false⟩) (1 + (fs.length : Int)) fs M k r er M' k')
def txB (kind : Int) (s : ByteArray) : Bool := textB kind && decide (s.size ≤ 4000)
def TextP (kind : Int) (s : ByteArray) (L : List OW) (h : HH) (r er : Int) (L' : List OW) (h' : HH) : Prop :=
  (txB kind s = false ∧ r = 0 ∧ er = 1 ∧ L' = L ∧ h' = h) ∨
  (txB kind s = true ∧ ∃ x : OW, x.o = ⟨kind, [], s, false, false⟩ ∧ r = (plO L h x).1 ∧ er = (plO L h x).2.1 ∧ L' = (plO L h x).2.2.1 ∧ h' = (plO L h x).2.2.2)
def RTextP (kind : Int) (s : ByteArray) (M : List OW) (k : RS) (r er : Int) (M' : List OW) (k' : RS) : Prop :=
  (txB kind s = false ∧ r = 0 ∧ er = 1 ∧ M' = M ∧ k' = k) ∨
  (txB kind s = true ∧ PutP (fun _ _ => ⟨kind, [], s, false, false⟩) (1 + (((s.size + 7) / 8 : Nat) : Int)) [] M k r er M' k')
def SetP (a i v : Int) (L : List OW) (er : Int) (L' : List OW) : Prop :=
  ((fieldF L a i).2 ≠ 0 ∧ er = (fieldF L a i).2 ∧ L' = L) ∨ ((fieldF L a i).2 = 0 ∧ thereB L v = false ∧ er = 141 ∧ L' = L) ∨
  (thereB L v = true ∧ ∃ x ∈ L, x.k = a ∧ 0 ≤ i ∧ i < (x.o.fs.length : Int) ∧ er = 0 ∧ L' = setL L x i.toNat v)
section
variable {w0 w w' : World} {K : List Nat} {g gx : Nat} {L : List OW} {h : HH} {M : List OW} {k : RS} {ρ : Int → Int → Prop} {n : Nat}
theorem fld_cases {L : List OW} (hp : L.Pairwise fun x y => x.k ≠ y.k) (a i : Int) :
    ((∀ x ∈ L, x.k ≠ a) ∧ fieldF L a i = (0, 141)) ∨ (∃ x ∈ L, x.k = a ∧ ((i < 0 ∨ (x.o.fs.length : Int) ≤ i) ∧ fieldF L a i = (0, 1) ∨ (0 ≤ i ∧ i < (x.o.fs.length : Int)) ∧ fieldF L a i = (x.o.fs.getD i.toNat 0, 0))) := by
  unfold fieldF
  rcases fnd_iff hp a with ⟨x, hx, e, e2⟩ | ⟨hn, e2⟩
  · refine .inr ⟨x, hx, e, ?_⟩
    rw [e2]
    by_cases hi : i < 0 ∨ (x.o.fs.length : Int) ≤ i
    · exact .inl ⟨hi, by simp only [if_pos hi]⟩
    · exact .inr ⟨by omega, by simp only [if_neg hi]⟩
  · exact .inl ⟨hn, by rw [e2]⟩
/-! ### Reads of the program's heap -/
theorem PM.fieldL (P : PM w0 w K g gx L h M k) (s : Sim ρ L h M k) (a i : Int) : Calls Try.prog 14 #[ptr g, .int .i64 a, .int .i64 i] w fun e w' => e = .returned (.tuple #[.int .i64 (fieldF L a i).1, .int .i64 (fieldF L a i).2]) ∧ Below w.heap.size w w' := by
  obtain ⟨b, R, rc, H, -⟩ := P.onL
  rcases fld_cases s.pl a i with ⟨hn, e⟩ | ⟨x, hx, rfl, ⟨hi, e⟩ | ⟨hi, e⟩⟩ <;> rw [e]
  · exact field_none H hn i
  · exact (field_out H hx (by have := s.kd x hx; omega) hi).mono fun e w' ⟨h1, h2⟩ => ⟨h1, h2 ▸ Below.refl _ _⟩
  · have := field_any H hx (by have := s.kd x hx; omega) (i := i.toNat) (by omega)
    rw [Int.toNat_of_nonneg hi.1] at this
    exact this.mono fun e w' ⟨h1, h2⟩ => ⟨h1, h2 ▸ Below.refl _ _⟩
theorem PM.rootL (P : PM w0 w K g gx L h M k) (hl : h.roots.length ≤ 1000000) (i : Int) : Calls Try.prog 11 #[ptr g, .int .i64 i] w fun e w' => e = .returned (.int .i64 (if i < 0 ∨ (h.roots.length : Int) ≤ i then 0 else h.roots.getD i.toNat 0)) ∧ w' = w := by
  obtain ⟨b, R, rc, H, -⟩ := P.onL
  by_cases hi : i < 0 ∨ (h.roots.length : Int) ≤ i
  · rw [if_pos hi]; exact root_out H hi
  · rw [if_neg hi]
    have := root_calls H (i := i.toNat) (by omega) hl
    rw [Int.toNat_of_nonneg (by omega)] at this
    exact this
theorem PM.rootsL (P : PM w0 w K g gx L h M k) : Calls Try.prog 22 #[ptr g] w fun e w' => e = .returned (.int .i64 h.roots.length) ∧ w' = w := by
  obtain ⟨b, R, rc, H, -⟩ := P.onL
  exact roots_calls H
theorem PM.countsL (P : PM w0 w K g gx L h M k) : Calls Try.prog 18 #[ptr g] w fun e w' => e = .returned (.agg #[.int .i64 h.minor, .int .i64 h.major, .int .i64 h.has0, .int .i64 h.has1]) ∧ Below w.heap.size w w' := by
  obtain ⟨b, R, rc, H, -⟩ := P.onL
  exact counts_any H
/-! ### Reads of the document's heap -/
theorem PM.kindR (P : PM w0 w K g gx L h M k) (hM : M.length ≤ 1000000) (a : Int) : Calls Try.prog 41 #[ptr gx, .int .i64 a] w fun e w' => e = .returned (.int .i64 (kindF M a)) ∧ w' = w := by
  obtain ⟨V, Rx, rcx, H, -⟩ := P.onR
  exact rkind_calls H hM a
theorem PM.textR (P : PM w0 w K g gx L h M k) (hM : M.length ≤ 1000000) (a : Int) : Calls Try.prog 42 #[ptr gx, .int .i64 a] w fun e w' => e = .returned (.string (textF M a)) ∧ w' = w := by
  obtain ⟨V, Rx, rcx, H, -⟩ := P.onR
  exact rstring_calls H hM a
theorem PM.fieldR (P : PM w0 w K g gx L h M k) (hM : M.length ≤ 1000000) (a i : Int) : Calls Try.prog 43 #[ptr gx, .int .i64 a, .int .i64 i] w fun e w' => e = .returned (.tuple #[.int .i64 (fieldF M a i).1, .int .i64 (fieldF M a i).2]) ∧ w' = w := by
  obtain ⟨V, Rx, rcx, H, -⟩ := P.onR
  exact rfield_calls H hM a i
theorem PM.rootR (P : PM w0 w K g gx L h M k) (i : Int) : Calls Try.prog 40 #[ptr gx, .int .i64 i] w fun e w' => e = .returned (.int .i64 (if i < 0 ∨ (k.roots.length : Int) ≤ i then 0 else k.roots.getD i.toNat 0)) ∧ w' = w := by
  obtain ⟨V, Rx, rcx, H, -⟩ := P.onR
  exact rroot_calls H.q i
theorem PM.rootsR (P : PM w0 w K g gx L h M k) : Calls Try.prog 39 #[ptr gx] w fun e w' => e = .returned (.int .i64 k.roots.length) ∧ w' = w := by
  obtain ⟨V, Rx, rcx, H, -⟩ := P.onR
  exact rroots_calls H.q
theorem PM.countsR (P : PM w0 w K g gx L h M k) (hM : M.length ≤ 1000000) (hf : ∀ x ∈ M, x.o.Fine) : Calls Try.prog 19 #[ptr gx] w fun e w' => e = .returned (.agg #[.int .i64 k.minor, .int .i64 k.major, .int .i64 (sumB M false), .int .i64 (sumB M true)]) ∧ Below w.heap.size w w' := by
  obtain ⟨V, Rx, rcx, H, -⟩ := P.onR
  exact rcounts_calls H hM hf
/-! ### Calls that change the program's heap -/
theorem PM.keep (P : PM w0 w K g gx L h M k) : PM w0 w K g gx L h M k ∧ FrP (Gd w0 K) w w := ⟨P, FrP.refl _ _⟩
theorem PM.keepB (P : PM w0 w K g gx L h M k) (hb : Below w.heap.size w w') : PM w0 w' K g gx L h M k ∧ FrP (Gd w0 K) w w' := ⟨P.new hb, FrP.new hb _⟩
theorem PM.makeL (P : PM w0 w K g gx L h M k) (hs : Sm L h) (hrl : h.roots.length ≤ 100000) (hh0 : 0 ≤ h.has0 ∧ h.has0 ≤ 1000000000) (hnx : h.nx ≤ 800000000000) {A : Option Addr} {c : Nat} {fs : List Int} (kind : Int) (hrow : RowIn w A fs) (hl : fs.length ≤ 1000000000) :
    Calls Try.prog 10 #[ptr g, .int .i64 kind, .slice A fs.length c] w fun e w' => ∃ r er L' h', MakeP kind fs L h r er L' h' ∧ e = .returned (.tuple #[.int .i64 r, .int .i64 er]) ∧ PM w0 w' K g gx L' h' M k ∧ FrP (Gd w0 K) w w' := by
  obtain ⟨b, R, rc, H, hP⟩ := P.onL
  cases ha : argB kind fs.length with
  | false => exact (make_arg H hl ha).mono fun e w' ⟨h1, h2⟩ => ⟨0, 1, L, h, .inl ⟨ha, rfl, rfl, rfl, rfl⟩, h1, P.keepB h2⟩
  | true =>
    refine (make_calls H hs ha hrow hrl hh0 hnx).mono ?_
    rintro e w' (⟨h1, rfl, h2⟩ | ⟨h1, x, hx, rfl, b', R', rc', h2, h3, h4⟩)
    · exact ⟨0, 141, L, h, .inr (.inl ⟨ha, h1, rfl, rfl, rfl, rfl⟩), rfl, P.keepB h2⟩
    · exact ⟨_, _, _, _, .inr (.inr ⟨ha, h1, x, hx, rfl, rfl, rfl, rfl⟩), rfl, hP h2 h3 h4⟩
theorem PM.txL (P : PM w0 w K g gx L h M k) (hs : Sm L h) (hrl : h.roots.length ≤ 100000) (hh0 : 0 ≤ h.has0 ∧ h.has0 ≤ 1000000000) (hnx : h.nx ≤ 800000000000) (kind : Int) (s : ByteArray) :
    Calls Try.prog 27 #[ptr g, .int .i64 kind, .string s] w fun e w' => ∃ r er L' h', TextP kind s L h r er L' h' ∧ e = .returned (.tuple #[.int .i64 r, .int .i64 er]) ∧ PM w0 w' K g gx L' h' M k ∧ FrP (Gd w0 K) w w' := by
  obtain ⟨b, R, rc, H, hP⟩ := P.onL
  cases ha : txB kind s with
  | false => exact (text_arg H ha).mono fun e w' ⟨h1, h2⟩ => ⟨0, 1, L, h, .inl ⟨ha, rfl, rfl, rfl, rfl⟩, h1, by subst h2; exact P.keep⟩
  | true =>
    have ha' := ha
    unfold txB at ha'
    rw [Bool.and_eq_true] at ha'
    refine (text_calls H hs ha'.1 (of_decide_eq_true ha'.2) hrl hh0 hnx).mono ?_
    rintro e w' ⟨x, hx, rfl, b', R', rc', h2, h3, h4⟩
    exact ⟨_, _, _, _, .inr ⟨ha, x, hx, rfl, rfl, rfl, rfl⟩, rfl, hP h2 h3 h4⟩
theorem PM.setL (P : PM w0 w K g gx L h M k) (s : Sim ρ L h M k) (a i v : Int) :
    Calls Try.prog 28 #[ptr g, .int .i64 a, .int .i64 i, .int .i64 v] w fun e w' => ∃ er L', SetP a i v L er L' ∧ e = .returned (.int .i64 er) ∧ PM w0 w' K g gx L' h M k ∧ FrP (Gd w0 K) w w' := by
  obtain ⟨b, R, rc, H, hP⟩ := P.onL
  have hfl := P.fieldL s a i
  rcases fld_cases s.pl a i with ⟨hn, e⟩ | ⟨x, hx, rfl, ⟨hi, e⟩ | ⟨hi, e⟩⟩
  · rw [e] at hfl
    exact (set_field H (.inr rfl) hfl).mono fun e' w' ⟨h1, h2⟩ => ⟨141, L, .inl ⟨by rw [e]; decide, by rw [e], rfl⟩, h1, P.keepB h2⟩
  · rw [e] at hfl
    exact (set_field H (.inl rfl) hfl).mono fun e' w' ⟨h1, h2⟩ => ⟨1, L, .inl ⟨by rw [e]; decide, by rw [e], rfl⟩, h1, P.keepB h2⟩
  · have hkd : x.o.kind ≠ 0 := by have := s.kd x hx; omega
    cases hv : thereB L v with
    | false =>
      have := set_word H hx hkd (i := i.toNat) (by omega) hv
      rw [Int.toNat_of_nonneg hi.1] at this
      exact this.mono fun e' w' ⟨h1, h2⟩ => ⟨141, L, .inr (.inl ⟨by rw [e], hv, rfl, rfl⟩), h1, by subst h2; exact P.keep⟩
    | true =>
      have := set_calls H hx hkd (i := i.toNat) (by omega) hv
      rw [Int.toNat_of_nonneg hi.1] at this
      exact this.mono fun e' w' ⟨h1, h2, h3⟩ => ⟨0, _, .inr (.inr ⟨hv, x, hx, rfl, hi.1, hi.2, rfl, rfl⟩), h1, hP h2 h3 (fun j hj => .inl (by
        rw [setL_upd] at hj
        rcases hj with h4 | h4 | h4 | ⟨z, hz, h4⟩
        · exact .inl h4
        · exact .inr (.inl h4)
        · exact .inr (.inr (.inl h4))
        · obtain ⟨p, hp, rfl⟩ := upd_memI hz
          refine .inr (.inr (.inr ⟨p, hp, ?_⟩))
          by_cases hc : p.k = x.k
          · rw [if_pos hc] at h4
            rcases h4 with h4 | ⟨h4, h5⟩
            · exact .inl h4
            · refine .inr ⟨fun e0 => h4 ?_, h5⟩
              show (setO _ _ _ _ p.o).fs = []
              rw [(setO_kind _ _ _ _ _).2.2.2.1, e0]; rfl
          · rw [if_neg hc] at h4; exact h4))⟩
theorem PM.popL (P : PM w0 w K g gx L h M k) (hl : h.roots.length ≤ 1000000) (n : Int) :
    Calls Try.prog 29 #[ptr g, .int .i64 n] w fun e w' => (((n < 0 ∨ (h.roots.length : Int) < n) ∧ e = .returned (.int .i64 1) ∧ PM w0 w' K g gx L h M k) ∨ (¬ (n < 0 ∨ (h.roots.length : Int) < n) ∧ e = .returned (.int .i64 0) ∧ PM w0 w' K g gx L { h with roots := h.roots.take (h.roots.length - n.toNat) } M k)) ∧ FrP (Gd w0 K) w w' := by
  obtain ⟨b, R, rc, H, hP⟩ := P.onL
  by_cases hn : n < 0 ∨ (h.roots.length : Int) < n
  · exact (pop_arg H hn).mono fun e w' ⟨h1, h2⟩ => by subst h2; exact ⟨.inl ⟨hn, h1, P⟩, FrP.refl _ _⟩
  · have := pop_calls H (n := n.toNat) (by omega) hl
    rw [Int.toNat_of_nonneg (by omega)] at this
    refine this.mono fun e w' ⟨h1, h2, h3⟩ => ?_
    have h4 := hP h2 h3 (fun i hi => .inl hi)
    exact ⟨.inr ⟨hn, h1, h4.1⟩, h4.2⟩
theorem PM.collectL (P : PM w0 w K g gx L h M k) (hs : Sm L h) (all : Bool) :
    Calls Try.prog 17 #[ptr g, .bool all] w fun e w' => e = .returned (.int .i64 (ColF L h all).1) ∧ PM w0 w' K g gx (ColF L h all).2.1 (ColF L h all).2.2 M k ∧ FrP (Gd w0 K) w w' := by
  obtain ⟨b, R, rc, H, hP⟩ := P.onL
  exact (Collect_calls H hs all).mono fun e w' ⟨h1, b', h2, h3, h4⟩ => ⟨h1, hP h2 h3 h4⟩
theorem PM.setrootL (P : PM w0 w K g gx L h M k) (i v : Int) :
    Calls Try.prog 12 #[ptr g, .int .i64 i, .int .i64 v] w fun e w' => (((i < 0 ∨ (h.roots.length : Int) ≤ i) ∧ e = .returned (.int .i64 1) ∧ PM w0 w' K g gx L h M k) ∨ (¬ (i < 0 ∨ (h.roots.length : Int) ≤ i) ∧ thereB L v = false ∧ e = .returned (.int .i64 141) ∧ PM w0 w' K g gx L h M k) ∨
      (¬ (i < 0 ∨ (h.roots.length : Int) ≤ i) ∧ thereB L v = true ∧ e = .returned (.int .i64 0) ∧ PM w0 w' K g gx L { h with roots := h.roots.set i.toNat v } M k)) ∧ FrP (Gd w0 K) w w' := by
  obtain ⟨b, R, rc, H, hP⟩ := P.onL
  by_cases hn : i < 0 ∨ (h.roots.length : Int) ≤ i
  · exact (setroot_arg H hn v).mono fun e w' ⟨h1, h2⟩ => by subst h2; exact ⟨.inl ⟨hn, h1, P⟩, FrP.refl _ _⟩
  · cases hv : thereB L v with
    | false =>
      have := setroot_word H (i := i.toNat) (by omega) hv
      rw [Int.toNat_of_nonneg (by omega)] at this
      exact this.mono fun e w' ⟨h1, h2⟩ => by subst h2; exact ⟨.inr (.inl ⟨hn, rfl, h1, P⟩), FrP.refl _ _⟩
    | true =>
      have := setroot_calls H (i := i.toNat) (by omega) hv
      rw [Int.toNat_of_nonneg (by omega)] at this
      refine this.mono fun e w' ⟨h1, h2, h3⟩ => ?_
      have h4 := hP h2 h3 (fun i hi => .inl hi)
      exact ⟨.inr (.inr ⟨hn, rfl, h1, h4.1⟩), h4.2⟩
theorem PM.pushL (P : PM w0 w K g gx L h M k) (v : Int) :
    Calls Try.prog 9 #[ptr g, .int .i64 v] w fun e w' => ((thereB L v = false ∧ e = .returned (.int .i64 141) ∧ PM w0 w' K g gx L h M k) ∨ (thereB L v = true ∧ 10000 ≤ h.roots.length ∧ e = .returned (.int .i64 4) ∧ PM w0 w' K g gx L h M k) ∨
      (thereB L v = true ∧ h.roots.length < 10000 ∧ e = .returned (.int .i64 0) ∧ PM w0 w' K g gx L { h with roots := h.roots ++ [v] } M k)) ∧ FrP (Gd w0 K) w w' := by
  obtain ⟨b, R, rc, H, hP⟩ := P.onL
  cases hv : thereB L v with
  | false => exact (push_no_word H hv).mono fun e w' ⟨h1, h2⟩ => by subst h2; exact ⟨.inl ⟨rfl, h1, P⟩, FrP.refl _ _⟩
  | true =>
    by_cases hl : 10000 ≤ h.roots.length
    · exact (push_full H hv hl).mono fun e w' ⟨h1, h2⟩ => by subst h2; exact ⟨.inr (.inl ⟨rfl, hl, h1, P⟩), FrP.refl _ _⟩
    · refine (push_calls H hv (by omega)).mono fun e w' ⟨h1, R', rc', h2, h3, h5⟩ => ?_
      have h4 := hP h2 h3 h5
      exact ⟨.inr (.inr ⟨rfl, by omega, h1, h4.1⟩), h4.2⟩
/-! ### Calls that change the document's heap -/
theorem PM.makeR (P : PM w0 w K g gx L h M k) (hs : SmT M k) (hrl : k.roots.length ≤ 100000) {A : Option Addr} {c : Nat} {fs : List Int} (kind : Int) (hrow : RowIn w A fs) :
    Calls Try.prog 48 #[ptr gx, .int .i64 kind, .slice A fs.length c] w fun e w' => ∃ r er M' k', RMakeP kind fs M k r er M' k' ∧ e = .returned (.tuple #[.int .i64 r, .int .i64 er]) ∧ PM w0 w' K g gx L h M' k' ∧ FrP (Gd w0 K) w w' := by
  obtain ⟨V, Rx, rcx, H, hP⟩ := P.onR
  cases ha : argB kind fs.length with
  | false => exact (rmake_arg ha gx w).mono fun e w' ⟨h1, h2⟩ => ⟨0, 1, M, k, .inl ⟨ha, rfl, rfl, rfl, rfl⟩, h1, by subst h2; exact P.keep⟩
  | true =>
    refine (rmake_calls H hs ha hrow hrl).mono ?_
    rintro e w' (⟨h1, rfl, rfl⟩ | ⟨h1, err, L1, h1', hr, ⟨he, rfl, V', R', rc', h2, h3⟩ | ⟨he, rfl, x, V', R', rc', h4, h5, h2, h3⟩⟩)
    · exact ⟨0, 141, M, k, .inr (.inl ⟨ha, h1, rfl, rfl, rfl, rfl⟩), rfl, P.keep⟩
    · exact ⟨_, _, _, _, .inr (.inr ⟨ha, h1, err, L1, h1', hr, .inl ⟨he, rfl, rfl, rfl, rfl⟩⟩), rfl, hP h2 h3⟩
    · exact ⟨_, _, _, _, .inr (.inr ⟨ha, h1, err, L1, h1', hr, .inr ⟨he, rfl, rfl, x, h4, h5, rfl, rfl⟩⟩), rfl, hP h2 h3⟩
theorem take_all {h1 : RS} {l : List Int} (hl : h1.roots.length = l.length) : ({ h1 with roots := h1.roots.take l.length } : RS) = h1 := by rw [← hl, List.take_length]
theorem PM.txR (P : PM w0 w K g gx L h M k) (hs : SmT M k) (kind : Int) (s : ByteArray) :
    Calls Try.prog 50 #[ptr gx, .int .i64 kind, .string s] w fun e w' => ∃ r er M' k', RTextP kind s M k r er M' k' ∧ e = .returned (.tuple #[.int .i64 r, .int .i64 er]) ∧ PM w0 w' K g gx L h M' k' ∧ FrP (Gd w0 K) w w' := by
  obtain ⟨V, Rx, rcx, H, hP⟩ := P.onR
  cases ha : txB kind s with
  | false =>
    have ha' := ha
    unfold txB at ha'
    rw [Bool.and_eq_false_iff] at ha'
    exact (rtx_arg (ha'.imp id (fun h => by have := of_decide_eq_false h; omega)) gx w).mono fun e w' ⟨h1, h2⟩ => ⟨0, 1, M, k, .inl ⟨ha, rfl, rfl, rfl, rfl⟩, h1, by subst h2; exact P.keep⟩
  | true =>
    have ha' := ha
    unfold txB at ha'
    rw [Bool.and_eq_true] at ha'
    refine (rtx_calls H hs ha'.1 (of_decide_eq_true ha'.2)).mono ?_
    have e0 : ({ k with roots := k.roots ++ [] } : RS) = k := by rw [List.append_nil]
    rintro e w' ⟨err, L1, h1', hr, ⟨he, rfl, V', h2, h3⟩ | ⟨he, rfl, x, V', h4, h5, h2, h3⟩⟩
    · have hl := hr.rlen
      exact ⟨_, _, _, _, .inr ⟨ha, err, L1, h1', by rw [e0]; exact hr, .inl ⟨he, rfl, rfl, rfl, by rw [take_all hl]⟩⟩, rfl, hP h2 h3⟩
    · have hl := hr.rlen
      exact ⟨_, _, _, _, .inr ⟨ha, err, L1, h1', by rw [e0]; exact hr, .inr ⟨he, rfl, rfl, x, h4, h5, rfl, by rw [← hl, List.take_length]⟩⟩, rfl, hP h2 h3⟩
theorem PM.setR (P : PM w0 w K g gx L h M k) (hM : M.length ≤ 1000000) (hkd : ∀ y ∈ M, 0 < y.o.kind) (a i v : Int) :
    Calls Try.prog 51 #[ptr gx, .int .i64 a, .int .i64 i, .int .i64 v] w fun e w' => ∃ er M', SetP a i v M er M' ∧ e = .returned (.int .i64 er) ∧ PM w0 w' K g gx L h M' k ∧ FrP (Gd w0 K) w w' := by
  obtain ⟨V, Rx, rcx, H, hP⟩ := P.onR
  rcases fld_cases H.keys a i with ⟨hn, e⟩ | ⟨x, hx, rfl, ⟨hi, e⟩ | ⟨hi, e⟩⟩
  · exact (rset_no H hM a i v (by rw [e]; decide)).mono fun e' w' ⟨h1, h2⟩ => ⟨_, M, .inl ⟨by rw [e]; decide, rfl, rfl⟩, h1, by subst h2; exact P.keep⟩
  · exact (rset_no H hM x.k i v (by rw [e]; decide)).mono fun e' w' ⟨h1, h2⟩ => ⟨_, M, .inl ⟨by rw [e]; decide, rfl, rfl⟩, h1, by subst h2; exact P.keep⟩
  · cases hv : thereB M v with
    | false =>
      have := rset_word H hM hx (i := i.toNat) (by omega) hv
      rw [Int.toNat_of_nonneg hi.1] at this
      exact this.mono fun e' w' ⟨h1, h2⟩ => ⟨141, M, .inr (.inl ⟨by rw [e], hv, rfl, rfl⟩), h1, by subst h2; exact P.keep⟩
    | true =>
      have := rset_calls H hM hkd hx (i := i.toNat) (by omega) hv
      rw [Int.toNat_of_nonneg hi.1] at this
      exact this.mono fun e' w' ⟨h1, h2, h3⟩ => ⟨0, _, .inr (.inr ⟨hv, x, hx, rfl, hi.1, hi.2, rfl, rfl⟩), h1, hP h2 h3⟩
theorem PM.popR (P : PM w0 w K g gx L h M k) (hl : k.roots.length ≤ 1000000) (n : Int) :
    Calls Try.prog 52 #[ptr gx, .int .i64 n] w fun e w' => (((n < 0 ∨ (k.roots.length : Int) < n) ∧ e = .returned (.int .i64 1) ∧ PM w0 w' K g gx L h M k) ∨ (¬ (n < 0 ∨ (k.roots.length : Int) < n) ∧ e = .returned (.int .i64 0) ∧ PM w0 w' K g gx L h M { k with roots := k.roots.take (k.roots.length - n.toNat) })) ∧ FrP (Gd w0 K) w w' := by
  obtain ⟨V, Rx, rcx, H, hP⟩ := P.onR
  by_cases hn : n < 0 ∨ (k.roots.length : Int) < n
  · exact (rpop_arg H.q hn).mono fun e w' ⟨h1, h2⟩ => by subst h2; exact ⟨.inl ⟨hn, h1, P⟩, FrP.refl _ _⟩
  · have := rpop_calls H (n := n.toNat) (by omega) hl
    rw [Int.toNat_of_nonneg (by omega)] at this
    refine this.mono fun e w' ⟨h1, h2, h3⟩ => ?_
    have h4 := hP h2 h3
    exact ⟨.inr ⟨hn, h1, h4.1⟩, h4.2⟩
theorem PM.collectR (P : PM w0 w K g gx L h M k) (hs : SmT M k) (all : Bool) :
    Calls Try.prog 21 #[ptr gx, .bool all] w fun e w' => ∃ er M' k', RCol all M k er M' k' ∧ e = .returned (.int .i64 er) ∧ PM w0 w' K g gx L h M' k' ∧ FrP (Gd w0 K) w w' := by
  obtain ⟨V, Rx, rcx, H, hP⟩ := P.onR
  exact (rcollect_calls H hs all).mono fun e w' ⟨err, M', k', V', h1, h2, h3, h4⟩ => ⟨err, M', k', h2, h1, hP h3 h4⟩
theorem PM.setrootR (P : PM w0 w K g gx L h M k) (hM : M.length ≤ 1000000) (i v : Int) :
    Calls Try.prog 53 #[ptr gx, .int .i64 i, .int .i64 v] w fun e w' => (((i < 0 ∨ (k.roots.length : Int) ≤ i) ∧ e = .returned (.int .i64 1) ∧ PM w0 w' K g gx L h M k) ∨ (¬ (i < 0 ∨ (k.roots.length : Int) ≤ i) ∧ thereB M v = false ∧ e = .returned (.int .i64 141) ∧ PM w0 w' K g gx L h M k) ∨
      (¬ (i < 0 ∨ (k.roots.length : Int) ≤ i) ∧ thereB M v = true ∧ e = .returned (.int .i64 0) ∧ PM w0 w' K g gx L h M { k with roots := k.roots.set i.toNat v })) ∧ FrP (Gd w0 K) w w' := by
  obtain ⟨V, Rx, rcx, H, hP⟩ := P.onR
  by_cases hn : i < 0 ∨ (k.roots.length : Int) ≤ i
  · exact (rsetroot_arg H.q hn v).mono fun e w' ⟨h1, h2⟩ => by subst h2; exact ⟨.inl ⟨hn, h1, P⟩, FrP.refl _ _⟩
  · cases hv : thereB M v with
    | false =>
      have := rsetroot_word H hM (i := i.toNat) (by omega) hv
      rw [Int.toNat_of_nonneg (by omega)] at this
      exact this.mono fun e w' ⟨h1, h2⟩ => by subst h2; exact ⟨.inr (.inl ⟨hn, rfl, h1, P⟩), FrP.refl _ _⟩
    | true =>
      have := rsetroot_calls H hM (i := i.toNat) (by omega) hv
      rw [Int.toNat_of_nonneg (by omega)] at this
      refine this.mono fun e w' ⟨h1, h2, h3⟩ => ?_
      have h4 := hP h2 h3
      exact ⟨.inr (.inr ⟨hn, rfl, h1, h4.1⟩), h4.2⟩
theorem PM.pushR (P : PM w0 w K g gx L h M k) (hM : M.length ≤ 1000000) (v : Int) :
    Calls Try.prog 71 #[ptr gx, .int .i64 v] w fun e w' => ((thereB M v = false ∧ e = .returned (.int .i64 141) ∧ PM w0 w' K g gx L h M k) ∨ (thereB M v = true ∧ 10000 ≤ k.roots.length ∧ e = .returned (.int .i64 4) ∧ PM w0 w' K g gx L h M k) ∨
      (thereB M v = true ∧ k.roots.length < 10000 ∧ e = .returned (.int .i64 0) ∧ PM w0 w' K g gx L h M { k with roots := k.roots ++ [v] })) ∧ FrP (Gd w0 K) w w' := by
  obtain ⟨V, Rx, rcx, H, hP⟩ := P.onR
  cases hv : thereB M v with
  | false => exact (rpush_word H hM hv).mono fun e w' ⟨h1, h2⟩ => by subst h2; exact ⟨.inl ⟨rfl, h1, P⟩, FrP.refl _ _⟩
  | true =>
    by_cases hl : 10000 ≤ k.roots.length
    · exact (rpush_full H hM hv hl).mono fun e w' ⟨h1, h2⟩ => by subst h2; exact ⟨.inr (.inl ⟨rfl, hl, h1, P⟩), FrP.refl _ _⟩
    · refine (rpush_calls H hM hv (by omega)).mono fun e w' ⟨h1, R', rc', h2, h3⟩ => ?_
      have h4 := hP h2 h3
      exact ⟨.inr (.inr ⟨rfl, by omega, h1, h4.1⟩), h4.2⟩
end
end Go.Proofs.Ytlghnldlkbgajaa.S
namespace Go.Proofs.Ytlghnldlkbgajaa.S
open Go.RowKit Go.Proofs.YtlghnldlkbgajaaW.PrintWords Go.Proofs.YtlghnldlkbgajaaW.PrintLast Go.Proofs.YtlghnldlkbgajaaW.PrintMore
set_option linter.unusedVariables false
set_option linter.unusedSimpArgs false
section
variable {ρ : Int → Int → Prop} {L M : List OW} {h : HH} {k : RS} {n : Nat}
theorem All2.up (s : Sim ρ L h M k) {a b : List Int} (hf : All2 (WX ρ) a b) (ht : a.all (thereB L) = true) : All2 (WR ρ) a b :=
  hf.mono fun u v hu _ hr => s.upW hr (List.all_eq_true.1 ht u hu)
/-- What is placed and what is put. -/
theorem Sim.placed (s : Sim ρ L h M k) (bd : Bnd n L h M k) (hn : n ≤ 1000) (ht : M.Pairwise fun x y => x.t ≠ y.t) {x : OW} {o : Int → List Int → PO} {fs' : List Int} {m : Int} (hm : m = x.o.cells) (hf : All2 (WR ρ) x.o.fs fs')
    (ho : ∀ c f, o c f = { x.o with fs := if x.o.fs = [] then [] else f }) (hold : x.o.old = false) (hno : x.o.noted = false) (hkd : 0 < x.o.kind) (hfn : x.o.Fine) {r er : Int} {M' : List OW} {k' : RS}
    (hp : PutP o m fs' M k r er M' k') :
    (plO L h x).2.1 = er ∧ ∃ ρ', Sim ρ' (plO L h x).2.2.1 (plO L h x).2.2.2 M' k' ∧ Bnd (n + 1) (plO L h x).2.2.1 (plO L h x).2.2.2 M' k' ∧ (er = 0 → WR ρ' (plO L h x).1 r) := by
  obtain ⟨err, L1, h1, hr, hp⟩ := hp
  rw [hm] at hr
  obtain ⟨he, ρ', s', hf'⟩ := s.fits ht hf hr
  have hb := roomF_b L h x.o
  have hb2 := RRoom_b hr
  have hkx : ({ k with roots := k.roots ++ fs' } : RS).nx = k.nx := rfl
  rw [hkx] at hb2
  have b1 := bd.ll; have b2 := bd.lm; have b3 := bd.rl; have b4 := bd.nx; have b5 := bd.kx; have b6 := bd.mm
  have b7 := s.roots.1
  unfold plO
  rcases hp with ⟨h2, rfl, rfl, rfl, rfl⟩ | ⟨h2, rfl, rfl, y, hy, hyo, rfl, rfl⟩
  · rw [if_neg (by rw [he]; exact h2)]
    refine ⟨he, ρ', s', ?_, fun e => absurd e h2⟩
    exact ⟨by show (roomF L h x.o).2.1.length ≤ _; omega, by omega, by show (roomF L h x.o).2.2.1.roots.length ≤ _; omega, by show (roomF L h x.o).2.2.1.nx ≤ _; omega, by show h1.nx ≤ _; omega, by dsimp only; omega⟩
  · rw [if_pos (by rw [he]; exact h2)]
    obtain ⟨F, hF⟩ : ∃ F, F = (roomF L h x.o).2.2.2 := ⟨_, rfl⟩
    rw [← hF] at hf' ⊢
    have hlen : F.length = x.o.fs.length := by
      have e1 := hf'.1
      have e2 := hr.rlen
      have e3 : ({ k with roots := k.roots ++ fs' } : RS).roots.length = k.roots.length + fs'.length := List.length_append
      rw [List.length_drop] at e1
      have e4 := hf.1
      omega
    have hyO : SimO ρ' { x.o with fs := F } y.o := by
      rw [hyo, ho]
      refine ⟨rfl, rfl, rfl, rfl, ?_⟩
      show All2 (WR ρ') F (if x.o.fs = [] then [] else h1.roots.drop k.roots.length)
      split
      · next e =>
        have : F = [] := List.length_eq_zero_iff.1 (by rw [hlen, e]; rfl)
        rw [this]; exact All2.nil _
      · exact hf'
    have hcell : ({ x.o with fs := F } : PO).cells = x.o.cells := by
      show 1 + (F.length : Int) + _ = 1 + (x.o.fs.length : Int) + _
      rw [hlen]
    have hfn2 : ({ x.o with fs := F } : PO).Fine := ⟨by show F.length ≤ 1000; rw [hlen]; exact hfn.fl, hfn.tx, fun e => by
      have := hfn.kt e
      exact List.length_eq_zero_iff.1 (by rw [hlen, this]; rfl), hfn.kf⟩
    obtain ⟨ρ2, s2, hmono, hnew⟩ := s'.put (x := { x with k := (roomF L h x.o).2.2.1.nx, o := { x.o with fs := F } }) (y := y) hyO (by rw [hy]) rfl hkd hfn2 hold
    refine ⟨rfl, ρ2, ?_, ?_, fun _ => ?_⟩
    · have e : ({ x with k := (roomF L h x.o).2.2.1.nx, o := { x.o with fs := F } } : OW).o.cells = x.o.cells := hcell
      rw [e] at s2
      exact s2
    · refine ⟨?_, ?_, by show (roomF L h x.o).2.2.1.roots.length ≤ _; omega, by show (roomF L h x.o).2.2.1.nx + 2 ≤ _; omega, by show h1.nx + 2 ≤ _; omega, by dsimp only; omega⟩
      · show ((roomF L h x.o).2.1 ++ [_]).length ≤ _
        rw [List.length_append, List.length_singleton]; omega
      · rw [List.length_append, List.length_singleton]; omega
    · have := hnew
      rw [hy] at this
      exact .inl this
theorem argB_len {kind : Int} {m : Nat} (h : argB kind m = true) : m ≤ 1000 ∧ (kind = 1 ∨ kind = 2 ∨ kind = 6 ∨ kind = 7 ∨ kind = 8) := by
  unfold argB at h
  cases hk : fixedF kind with
  | none => rw [hk] at h; cases h
  | some c =>
    rw [hk] at h
    simp only [Bool.and_eq_true, decide_eq_true_eq] at h
    refine ⟨h.2, ?_⟩
    unfold fixedF at hk
    repeat' split at hk
    all_goals first | (cases hk; done) | omega
theorem Bnd.up (bd : Bnd n L h M k) : Bnd (n + 1) L h M k := bd.mono (Nat.le_succ n)
theorem Sim.make (s : Sim ρ L h M k) (bd : Bnd n L h M k) (hn : n ≤ 1000) (ht : M.Pairwise fun x y => x.t ≠ y.t) {kind : Int} {fs fs' : List Int} (hf : All2 (WX ρ) fs fs') {r er r' er' : Int} {L' M' : List OW} {h' : HH} {k' : RS}
    (hp : MakeP kind fs L h r er L' h') (hq : RMakeP kind fs' M k r' er' M' k') : er = er' ∧ ∃ ρ', Sim ρ' L' h' M' k' ∧ Bnd (n + 1) L' h' M' k' ∧ (er' = 0 → WR ρ' r r') := by
  have hl := hf.1
  have hall : fs.all (thereB L) = fs'.all (thereB M) := hf.all fun u v hr => s.thereX hr
  rcases hp with ⟨a1, rfl, rfl, rfl, rfl⟩ | ⟨a1, a2, rfl, rfl, rfl, rfl⟩ | ⟨a1, a2, x, hx, rfl, rfl, rfl, rfl⟩
  · rcases hq with ⟨c1, rfl, rfl, rfl, rfl⟩ | ⟨c1, -⟩ | ⟨c1, -⟩
    · exact ⟨rfl, ρ, s, bd.up, fun e => by cases e⟩
    all_goals (rw [← hl, a1] at c1; cases c1)
  · rcases hq with ⟨c1, -⟩ | ⟨c1, c2, rfl, rfl, rfl, rfl⟩ | ⟨c1, c2, -⟩
    · rw [← hl, a1] at c1; cases c1
    · exact ⟨rfl, ρ, s, bd.up, fun e => by cases e⟩
    · rw [← hall, a2] at c2; cases c2
  · rcases hq with ⟨c1, -⟩ | ⟨c1, c2, -⟩ | ⟨c1, c2, hq⟩
    · rw [← hl, a1] at c1; cases c1
    · rw [← hall, a2] at c2; cases c2
    · have ha := argB_len a1
      have hkt : textB kind = false := by rw [argB_has] at a1; simp only [Bool.and_eq_true, Bool.not_eq_true'] at a1; exact a1.1
      refine s.placed bd hn ht (x := x) (fs' := fs') (o := fun _ f => ⟨kind, if fs = [] then [] else f, ⟨#[]⟩, false, false⟩) (m := 1 + (fs'.length : Int)) ?_ ?_ (fun c f => by rw [hx]) (by rw [hx]) (by rw [hx]) ?_ ?_ ?_
      · rw [hx]; unfold PO.cells; show 1 + (fs'.length : Int) = 1 + (fs.length : Int) + ((((⟨#[]⟩ : ByteArray).size + 7) / 8 : Nat) : Int); rw [hl, show (⟨#[]⟩ : ByteArray).size = 0 from rfl]; omega
      · rw [hx]; exact All2.up s hf a2
      · rw [hx]; show 0 < kind; omega
      · rw [hx]; exact ⟨ha.1, (by show 0 ≤ 4000; omega), (fun e => absurd (show textB kind = true from e) (by rw [hkt]; simp)), (fun _ => rfl)⟩
      · obtain ⟨err, L1, h1, hr, hq⟩ := hq
        refine ⟨err, L1, h1, hr, hq.imp id ?_⟩
        rintro ⟨e1, e2, e3, y, hy, hyo, e4, e5⟩
        refine ⟨e1, e2, e3, y, hy, ?_, e4, e5⟩
        rw [hyo]
        split
        · next e =>
          have e6 := hr.rlen
          have e7 : ({ k with roots := k.roots ++ fs' } : RS).roots.length = k.roots.length + fs'.length := List.length_append
          have : h1.roots.drop k.roots.length = [] := List.length_eq_zero_iff.1 (by rw [List.length_drop, e6, e7, ← hl, e]; simp)
          rw [this]
        · rfl
theorem Sim.tx (s : Sim ρ L h M k) (bd : Bnd n L h M k) (hn : n ≤ 1000) (ht : M.Pairwise fun x y => x.t ≠ y.t) {kind : Int} {t : ByteArray} {r er r' er' : Int} {L' M' : List OW} {h' : HH} {k' : RS}
    (hp : TextP kind t L h r er L' h') (hq : RTextP kind t M k r' er' M' k') : er = er' ∧ ∃ ρ', Sim ρ' L' h' M' k' ∧ Bnd (n + 1) L' h' M' k' ∧ (er' = 0 → WR ρ' r r') := by
  rcases hp with ⟨a1, rfl, rfl, rfl, rfl⟩ | ⟨a1, x, hx, rfl, rfl, rfl, rfl⟩
  · rcases hq with ⟨c1, rfl, rfl, rfl, rfl⟩ | ⟨c1, -⟩
    · exact ⟨rfl, ρ, s, bd.up, fun e => by cases e⟩
    · rw [a1] at c1; cases c1
  · rcases hq with ⟨c1, -⟩ | ⟨c1, hq⟩
    · rw [a1] at c1; cases c1
    · unfold txB at a1
      rw [Bool.and_eq_true] at a1
      have hk := a1.1
      unfold textB at hk
      rw [Bool.and_eq_true] at hk
      have hk1 := of_decide_eq_true hk.1
      refine s.placed bd hn ht (x := x) (fs' := []) (o := fun _ _ => ⟨kind, [], t, false, false⟩) (m := 1 + (((t.size + 7) / 8 : Nat) : Int)) ?_ ?_ (fun c f => by rw [hx]; rfl) (by rw [hx]) (by rw [hx]) ?_ ?_ hq
      · rw [hx]; unfold PO.cells; show 1 + (((t.size + 7) / 8 : Nat) : Int) = 1 + ((0 : Nat) : Int) + (((t.size + 7) / 8 : Nat) : Int); omega
      · rw [hx]; exact All2.nil _
      · rw [hx]; show 0 < kind; omega
      · rw [hx]; exact ⟨(by show 0 ≤ 1000; omega), of_decide_eq_true a1.2, (fun _ => rfl), (fun e => absurd (show textB kind = false from e) (by rw [a1.1]; simp))⟩
theorem Sim.setS (s : Sim ρ L h M k) {a a' i v v' : Int} (ha : WX ρ a a') (hv : WX ρ v v') {er er' : Int} {L' M' : List OW} (hp : SetP a i v L er L') (hq : SetP a' i v' M er' M') : er = er' ∧ Sim ρ L' h M' k := by
  have hfe : (fieldF L a i).2 = (fieldF M a' i).2 := by
    unfold fieldF
    rcases s.readX ha with ⟨x, hx, y, hy, -, -, -, e1, e2, ho⟩ | ⟨-, -, e1, e2⟩ <;> rw [e1, e2]
    by_cases hi : i < 0 ∨ (x.o.fs.length : Int) ≤ i
    · have hi2 : i < 0 ∨ (y.o.fs.length : Int) ≤ i := by rw [← ho.fs.1]; exact hi
      simp only [if_pos hi, if_pos hi2]
    · have hi2 : ¬ (i < 0 ∨ (y.o.fs.length : Int) ≤ i) := by rw [← ho.fs.1]; exact hi
      simp only [if_neg hi, if_neg hi2]
  have hte := s.thereX hv
  have hgood : ∀ {Q : List OW} (hp : Q.Pairwise fun x y => x.k ≠ y.k) {x : OW}, x ∈ Q → 0 ≤ i → i < (x.o.fs.length : Int) → (fieldF Q x.k i).2 = 0 := fun {Q} hp {x} hx h0 h1 => by
    unfold fieldF
    rw [fnd_at hp hx]
    simp only [if_neg (show ¬ (i < 0 ∨ (x.o.fs.length : Int) ≤ i) by omega)]
  rcases hp with ⟨a1, rfl, rfl⟩ | ⟨a1, a2, rfl, rfl⟩ | ⟨a2, x, hx, rfl, h0, h1, rfl, rfl⟩
  · rcases hq with ⟨c1, rfl, rfl⟩ | ⟨c1, c2, rfl, rfl⟩ | ⟨c2, y, hy, rfl, g0, g1, rfl, rfl⟩
    · exact ⟨hfe, s⟩
    · rw [hfe] at a1; exact absurd c1 a1
    · rw [hfe] at a1; exact absurd (hgood s.pm hy g0 g1) a1
  · rcases hq with ⟨c1, rfl, rfl⟩ | ⟨c1, c2, rfl, rfl⟩ | ⟨c2, y, hy, rfl, g0, g1, rfl, rfl⟩
    · rw [← hfe] at c1; exact absurd a1 c1
    · exact ⟨rfl, s⟩
    · rw [hte, c2] at a2; cases a2
  · rcases hq with ⟨c1, rfl, rfl⟩ | ⟨c1, c2, rfl, rfl⟩ | ⟨c2, y, hy, rfl, g0, g1, rfl, rfl⟩
    · rw [← hfe] at c1; exact absurd (hgood s.pl hx h0 h1) c1
    · rw [hte, c2] at a2; cases a2
    · refine ⟨rfl, s.set hx hy ?_ (s.upW hv a2)⟩
      rcases ha with ha | ⟨e, hc⟩
      · exact ha
      · exact absurd ⟨x, hx, rfl⟩ (s.xl hc).1
theorem Sim.popS (s : Sim ρ L h M k) (bd : Bnd n L h M k) (m : Nat) : Sim ρ L { h with roots := h.roots.take (h.roots.length - m) } M { k with roots := k.roots.take (k.roots.length - m) } ∧ Bnd n L { h with roots := h.roots.take (h.roots.length - m) } M { k with roots := k.roots.take (k.roots.length - m) } := by
  refine ⟨s.withRoots (by rw [← s.roots.1]; exact s.roots.take _), ⟨bd.ll, bd.lm, ?_, bd.nx, bd.kx, bd.mm⟩⟩
  show (h.roots.take _).length ≤ n
  have := bd.rl
  rw [List.length_take]; omega
theorem Sim.setrootS (s : Sim ρ L h M k) (bd : Bnd n L h M k) (i : Nat) {u v : Int} (hr : WR ρ u v) : Sim ρ L { h with roots := h.roots.set i u } M { k with roots := k.roots.set i v } ∧ Bnd n L { h with roots := h.roots.set i u } M { k with roots := k.roots.set i v } := by
  refine ⟨s.withRoots (s.roots.set i hr), ⟨bd.ll, bd.lm, ?_, bd.nx, bd.kx, bd.mm⟩⟩
  show (h.roots.set _ _).length ≤ n
  have := bd.rl
  rw [List.length_set]; omega
theorem Sim.pushS (s : Sim ρ L h M k) (bd : Bnd n L h M k) {u v : Int} (hr : WR ρ u v) : Sim ρ L { h with roots := h.roots ++ [u] } M { k with roots := k.roots ++ [v] } ∧ Bnd (n + 1) L { h with roots := h.roots ++ [u] } M { k with roots := k.roots ++ [v] } := by
  have hb := bd.up
  refine ⟨s.withRoots (s.roots.app ⟨rfl, fun i hi => by
    have : i = 0 := by simpa using hi
    subst this; exact hr⟩), ⟨hb.ll, hb.lm, ?_, hb.nx, hb.kx, hb.mm⟩⟩
  show (h.roots ++ [u]).length ≤ n + 1
  have := bd.rl
  rw [List.length_append, List.length_singleton]; omega
theorem Sim.kdM (s : Sim ρ L h M k) : ∀ y ∈ M, 0 < y.o.kind := fun y hy => by
  obtain ⟨x, hx, -, ho⟩ := s.pairM hy
  rw [← ho.kind]; exact s.kd x hx
end
end Go.Proofs.Ytlghnldlkbgajaa.S
