
/- heap: HeapLive, walked. -/
import Derived.Test.YtlghnldlkbgajaaHLw8
import Derived.Test.YtlghnldlkbgajaaHQue
namespace Go.Proofs.Ytlghnldlkbgajaa.S
open Go.RowKit Go.Proofs.YtlghnldlkbgajaaW.PrintWords Go.Proofs.YtlghnldlkbgajaaW.PrintLast Go.Proofs.YtlghnldlkbgajaaW.PrintMore
set_option linter.unusedVariables false
set_option linter.unusedSimpArgs false
def metV (Z : List Int) : List (Int × Value) := Z.map fun z => (z, .bool true)
structure LW (w wr : World) (A : Option Addr) (c : Nat) (l : List Int) (bm : Nat) (Z : List Int) : Prop where
  q : QW w.heap.size wr A c l
  m : MapIs wr bm (metV Z)
  lo : w.heap.size ≤ bm
  bel : Below w.heap.size w wr
section
variable {w0 w w' wr wr' : World} {p g gx n bm c : Nat} {A : Option Addr} {l Z : List Int}
theorem LW.new (H : LW w wr A c l bm Z) (hb : Below wr.heap.size wr wr') : LW w wr' A c l bm Z :=
  ⟨H.q.new hb, H.m.frp (FrP.ofBelow hb) (by have := H.m.lt; omega), H.lo, below_step H.bel hb⟩
theorem LW.more (H : LW w wr A c l bm Z) (u : Int) (hl : l.length ≤ 100000000) :
    ∃ A' c' w', (∀ ty, (Builtin.append_ #[33, 33] ty #[.slice A l.length c, .slice (some ⟨wr.heap.size, 0, none⟩) 1 1]).run Try.prog (wr.alloc (.cells #[.int .i64 u] 28)) = .ok (.slice A' (l.length + 1) c') w') ∧ LW w w' A' c' (l ++ [u]) bm Z := by
  have hbx : Below wr.heap.size wr (wr.alloc (.cells #[.int .i64 u] 28)) := (Below.refl _ _).alloc (Nat.le_refl _) _
  have H2 := H.new hbx
  obtain ⟨A', c', w', hrun, hq, hf⟩ := H.q.more u hl H.bel.size
  refine ⟨A', c', w', hrun, hq, H2.m.frp hf (fun ⟨off, e⟩ => ?_), H.lo, H2.bel.trans (hf.below H2.bel.size (fun k ⟨off, e⟩ => (H.q.lt e).2))⟩
  rcases H.q with h | ⟨q, o, cur, e2, -, h2, -⟩
  · rw [h.1] at e; cases e
  · rw [e2] at e
    simp only [Option.some.injEq, Addr.mk.injEq] at e
    obtain ⟨es, cl, h3, -⟩ := H.m
    rw [← e.1, h2] at h3; cases h3
theorem LW.put (H : LW w wr A c l bm Z) {a : Int} (hn : a ∉ Z) {w' : World} (hm : MapIs w' bm (put (metV Z) a (.bool true))) (hb : But1 bm wr w') : LW w w' A c l bm (Z ++ [a]) := by
  have hf : FrP (· = bm) wr w' := ⟨hb.os, hb.tape, hb.output, Nat.le_of_eq hb.size.symm, fun k _ hk => hb.block k hk⟩
  have hg : get? (metV Z) a = none := by
    rw [get_none]
    intro q hq e
    obtain ⟨z, hz, rfl⟩ := List.mem_map.1 hq
    exact hn (by have e : z = a := e; rw [← e]; exact hz)
  rw [put_new hg, show metV Z ++ [(a, .bool true)] = metV (Z ++ [a]) by unfold metV; rw [List.map_append]; rfl] at hm
  refine ⟨H.q.frp hf (fun k off e hk => ?_), hm, H.lo, H.bel.trans (hf.below H.bel.size (fun k hk => by rw [hk]; exact H.lo))⟩
  rcases H.q with h | ⟨q, o, cur, e2, -, h2, -⟩
  · rw [h.1] at e; cases e
  · rw [e2] at e
    simp only [Option.some.injEq, Addr.mk.injEq] at e
    obtain ⟨es, cl, h3, -⟩ := H.m
    rw [← hk, ← e.1, h2] at h3; cases h3
theorem met_get (Z : List Int) (a : Int) : (get? (metV Z) a).getD (.bool false) = .bool (decide (a ∈ Z)) := by
  by_cases h : a ∈ Z
  · cases hg : get? (metV Z) a with
    | none => exact absurd rfl (get_none.1 hg (a, .bool true) (List.mem_map.2 ⟨a, h, rfl⟩))
    | some v =>
      obtain ⟨z, hz, e⟩ := List.mem_map.1 (get_some_mem hg)
      simp only [Prod.mk.injEq] at e
      rw [decide_eq_true h, ← e.2]; rfl
  · have hg : get? (metV Z) a = none := by
      rw [get_none]
      intro q hq e
      obtain ⟨z, hz, rfl⟩ := List.mem_map.1 hq
      exact h (by have e : z = a := e; rw [← e]; exact hz)
    rw [hg, decide_eq_false h]; rfl
theorem ColF_true_ok {L : List OW} {h : HH} (he : (ColF L h true).1 = 0) : (ColF L h true).2.1 = collL L h true ∧ (ColF L h true).2.2 = collHH L h true := by
  unfold ColF at he ⊢
  by_cases hs : h.spent = true
  · rw [if_pos hs] at he; cases he
  · rw [if_neg hs] at he ⊢
    have hm : ColMid L h true = (collL L h true, collHH L h true) := by unfold ColMid; rw [if_neg (by simp)]
    rw [hm] at he ⊢
    split
    · next h1 => rw [if_pos h1] at he; cases he
    · exact ⟨rfl, rfl⟩
theorem sumC_b {L : List OW} (hp : L.Pairwise fun x y => x.k ≠ y.k) (hf : ∀ x ∈ L, x.o.Fine) : ∀ Z : List Int, (∀ z ∈ Z, isKey L z) → 0 ≤ sumC L Z ∧ sumC L Z ≤ 1600 * (Z.length : Int)
  | [], _ => by simp [sumC]
  | z :: Z, h => by
    have ih := sumC_b hp hf Z (fun y hy => h y (by simp [hy]))
    obtain ⟨o, ho, e⟩ := h z (by simp)
    have hc := (hf o ho).cells
    have e2 : sumC L (z :: Z) = (getO L z).o.cells + sumC L Z := by unfold sumC; rw [List.map_cons, List.sum_cons]
    rw [e2, ← e, getO_of hp ho, List.length_cons]
    omega
theorem sumC_app {L : List OW} {Z : List Int} {x : OW} (hp : L.Pairwise fun x y => x.k ≠ y.k) (hx : x ∈ L) : sumC L (Z ++ [x.k]) = sumC L Z + x.o.cells := by
  unfold sumC
  rw [List.map_append, List.sum_append]
  simp [getO_of hp hx]
set_option maxRecDepth 100000 in
set_option maxHeartbeats 4000000 in
theorem live_calls {A : Option Addr} {c : Nat} (hD : DosAt w A n) (hn : n ≤ 1000000000) : Calls Try.prog 5 #[.slice A n c] w fun e w' => e = .returned (.bool true) ∧ Below w.heap.size w w' := by
  have hmm := @run_makeMap Try.prog
  have HF := Aside0.mk (filled_calls (c := c) hD hn)
  clear hD hn
  go_enter Try.func5, Try.ntmps5
  go_wp2_with fail
  refine HF.out.mono ?_
  rintro e w1 ⟨p, g, gx, rfl, hpp, hpr, ρ, L, h, M, k, hpm, hs, hbd⟩
  have c0 := hpr.c0
  have HC := Aside0.mk (hpm.collectL (hbd.sm hs (by omega)) true)
  have HX := Aside0.mk (And.intro hpr (And.intro hs (And.intro hbd hpm.tapart)))
  clear HF hpp hpr hpm hs hbd
  unfold ptr
  unfold ptr at HC
  go_wp2_with fail
  refine HC.out.mono ?_
  rintro e w2 ⟨rfl, hm2, hf2⟩
  have hpr2 := HX.out.1.frp hf2 (fun e => e.2 (by simp))
  have herr := ColF_err L h true
  by_cases he : (ColF L h true).1 = 0
  · obtain ⟨hL1, hh1⟩ := ColF_true_ok he
    rw [hL1, hh1] at hm2
    rw [he]
    obtain ⟨ρ1, hrd⟩ := HX.out.2.1.rd.coll true
    have hap := HX.out.2.1.pl
    have hall := coll_all (h := h) hap HX.out.2.1.shut
    have hold := collL_old (h := h) (all := true) hap
    have hh0 : (collHH L h true).has0 = 0 := rfl
    have hh1' : (collHH L h true).has1 = sumB (collL L h true) true := by rw [sumB_allOld hold, ← sumC_coll]; rfl
    have hlen : (collL L h true).length ≤ 120 := Nat.le_trans (coll_b L h true).1 HX.out.2.2.1.ll
    have hrl : (collHH L h true).roots.length ≤ 120 := by
      have : (collHH L h true).roots.length = h.roots.length := by show (h.roots.map _).length = _; simp
      rw [this]; exact HX.out.2.2.1.rl
    generalize collL L h true = L1 at *
    generalize collHH L h true = h1 at *
    have HRD := Aside0.mk hrd
    have HALL := Aside0.mk (And.intro hall (And.intro hold (And.intro hh0 hh1')))
    have HLN := Aside0.mk (And.intro hlen hrl)
    have hbA : Below w2.heap.size w2 (w2.alloc (.map #[] 0)) := (Below.refl _ _).alloc (Nat.le_refl _) _
    have hlw : LW w2 (w2.alloc (.map #[] 0)) none 0 [] w2.heap.size [] := ⟨.inl ⟨rfl, rfl, rfl⟩, MapIs.new w2, Nat.le_refl _, hbA⟩
    have HPM0 := Aside0.mk hm2
    have HPR0 := Aside0.mk hpr2
    have HB2 := Aside0.mk hm2.bel
    have HLW := Aside0.mk hlw
    have HPM := Aside0.mk (hm2.new hbA)
    have HPR := Aside0.mk (hpr2.new hbA)
    have HRT := Aside0.mk ((hm2.new hbA).rootsL)
    have c0' : w2.cell? ⟨p, 0, none⟩ = some (.pointer (some ⟨g, 0, none⟩)) := hpr2.c0
    have c0a : (w2.alloc (.map #[] 0)).cell? ⟨p, 0, none⟩ = some (.pointer (some ⟨g, 0, none⟩)) := (hpr2.new hbA).c0
    obtain ⟨nr, hnr⟩ : ∃ nr, nr = h1.roots.length := ⟨_, rfl⟩
    rw [← hnr] at HRT
    have HNR := Aside0.mk hnr
    have hnl : nr ≤ 120 := by rw [hnr]; exact hrl
    unfold ptr at HRT
    clear hm2 hf2 hpr2 herr he hL1 hh1 hrd hap hall hold hh0 hh1' hlen hrl hbA hlw HC c0 hnr HX
    go_wp2_with fail
    refine HRT.out.mono ?_
    rintro e w3 ⟨rfl, rfl⟩
    clear HRT c0' c0a
    obtain ⟨bm, hbm⟩ : ∃ bm, bm = w2.heap.size := ⟨_, rfl⟩
    rw [← hbm] at HLW
    rw [← hbm]
    generalize w2.alloc (.map #[] 0) = wA at *
    clear hbm hmm
    clear HPM HPR
    go_wp2_with fail
    go_loopw [4, 35] (fun s4 v35 wr => ∃ (i : Nat) (A : Option Addr) (c : Nat), s4 = .slice A (h1.roots.take i).length c ∧ v35 = .int .i64 i ∧ Aside0 (i ≤ nr) ∧ Aside0 (LW w2 wr A c (h1.roots.take i) bm [])) (fun s4 v35 wr => nr - (intOf v35).toNat)
    case atStart => exact ⟨0, none, 0, rfl, rfl, ⟨Nat.zero_le _⟩, HLW⟩
    case round =>
      clear HLW
      obtain ⟨i, A0, c0, rfl, rfl, hi, hlw⟩ := hrel
      by_cases hlt : i < nr
      · have hltb : decide ((i : Int) < (nr : Int)) = true := decide_eq_true (by omega)
        have hil : (i : Int) < (nr : Int) := by omega
        have hPr := HPM0.out.new hlw.out.bel
        have k0 : wr.cell? ⟨p, 0, none⟩ = some (.pointer (some ⟨g, 0, none⟩)) := (HPR0.out.new hlw.out.bel).c0
        have hr := hPr.rootL (by have := HLN.out; omega) (i : Int)
        rw [if_neg (by have := HNR.out; omega), Int.toNat_natCast] at hr
        obtain ⟨u, hu⟩ : ∃ u, u = h1.roots.getD i 0 := ⟨_, rfl⟩
        rw [← hu] at hr
        have HR1 := Aside0.mk hr
        have htk : h1.roots.take (i + 1) = h1.roots.take i ++ [u] := by rw [hu]; exact take_step _ (by have := HNR.out; omega)
        have HTK := Aside0.mk htk
        obtain ⟨l0, hl0⟩ : ∃ l0, l0 = h1.roots.take i := ⟨_, rfl⟩
        rw [← hl0] at HTK hlw
        rw [← hl0]
        have hl0n : l0.length ≤ 120 := by rw [hl0, List.length_take]; have := HLN.out; omega
        obtain ⟨A1, c1, z1, hrun1, hlw1⟩ := hlw.out.more u (by omega)
        have HLW1 := Aside0.mk hlw1
        unfold ptr at HR1
        clear hPr hr hu htk hl0 hlw1 hlw
        go_wp2_with fail
        refine HR1.out.mono ?_
        rintro e z2 ⟨rfl, rfl⟩
        clear HR1
        go_wp2_with (at_builtin; refine wpList_plain rfl fun KK hK => wp_append_words _ _ 33 rfl _ _ _ _ rfl rfl hrun1 (hK _ _ ?_))
        go_roundw
        case rel => exact ⟨i + 1, A1, c1, by rw [HTK.out, List.length_append]; rfl, by go_num, ⟨hlt⟩, ⟨by rw [HTK.out]; exact HLW1.out⟩⟩
        case measure => simp [intOf]; omega
      · have hltb : decide ((i : Int) < (nr : Int)) = false := decide_eq_false (by omega)
        have hil : ¬ (i : Int) < (nr : Int) := by omega
        have hin : i = nr := by have := hi.out; omega
        have htk : h1.roots.take i = h1.roots := by rw [hin, HNR.out, List.take_length]
        rw [htk] at hlw ⊢
        have HLW2 := Aside0.mk hlw.out
        clear hin htk hlw
        go_wp2_with fail
        go_loopw [4, 6] (fun s4 s6 wr => ∃ (l Z : List Int) (A : Option Addr) (c : Nat), s4 = .slice A l.length c ∧ s6 = .int .i64 (sumC L1 Z) ∧ Aside0 (LInv L1 h1.roots l Z) ∧ Aside0 (l.length ≤ 120 + 1000 * Z.length) ∧ Aside0 (LW w2 wr A c l bm Z)) (fun s4 s6 wr => lenV s4 + 1002 * (L1.length - mapLen wr bm))
        case atStart => exact ⟨h1.roots, [], A0, c0, rfl, rfl, ⟨LInv.init _ _⟩, ⟨by have := HLN.out; simp; omega⟩, HLW2⟩
        case round =>
          clear HLW2 hi hlt hltb hil
          obtain ⟨l, Z, A1, c1, rfl, rfl, hli, hll, hlw⟩ := hrel
          cases l with
          | nil =>
            have hsum := hli.out.all HRD.out.pl HALL.out.2.1 HALL.out.1
            have hPr := HPM0.out.new hlw.out.bel
            have k0 : wr.cell? ⟨p, 0, none⟩ = some (.pointer (some ⟨g, 0, none⟩)) := (HPR0.out.new hlw.out.bel).c0
            have hct := hPr.countsL
            rw [HALL.out.2.2.1, HALL.out.2.2.2, ← hsum] at hct
            have HCT := Aside0.mk hct
            have HBF := Aside0.mk (show Below w.heap.size w wr from HB2.out.trans (Below.mono hlw.out.bel HB2.out.size))
            unfold ptr at HCT
            clear hsum hPr hct
            go_wp2_with fail
            refine HCT.out.mono ?_
            rintro e z3 ⟨rfl, hb3⟩
            have HB3 := Aside0.mk (below_step HBF.out hb3)
            clear hb3 HCT
            go_wp2_with fail
            go_returns
            exact ⟨by first | rfl | (simp; done) | (simp; rfl), HB3.out.alloc HB3.out.size _⟩
          | cons a l =>
            have hZl := hli.out.len
            have HZL := Aside0.mk hZl
            obtain ⟨q, off, rfl, hq, hc1, hlc, hqt⟩ := hlw.out.q.head
            obtain ⟨S0, hS0⟩ : ∃ S0 : Option Addr, (if c1 = 1 then some ⟨q, off, none⟩ else some ⟨q, off + 1, none⟩) = S0 := ⟨_, rfl⟩
            rw [hS0] at hqt
            have HLT := Aside0.mk (show LW w2 wr S0 (c1 - 1) l bm Z from ⟨hqt, hlw.out.m, hlw.out.lo, hlw.out.bel⟩)
            have k0 : wr.cell? ⟨p, 0, none⟩ = some (.pointer (some ⟨g, 0, none⟩)) := (HPR0.out.new hlw.out.bel).c0
            have hk := (HPM0.out.new hlw.out.bel).kindD HRD.out.pl a
            obtain ⟨kk, hkk⟩ : ∃ kk, kindF L1 a = kk := ⟨_, rfl⟩
            rw [hkk] at hk
            have HK := Aside0.mk hk
            have HKK := Aside0.mk hkk
            have hlen1 : (a :: l).length = l.length + 1 := rfl
            rw [hlen1]
            unfold ptr at HK
            clear hk hkk hZl hqt hlen1
            go_wp2_with fail
            refine HK.out.mono ?_
            rintro e z1 ⟨rfl, hb1⟩
            have HL1 := Aside0.mk (HLT.out.new hb1)
            have HMP := Aside0.mk (And.intro hlw.out.m trivial)
            clear hb1 HK
            have hkey : kk = 0 ∨ ∃ x ∈ L1, x.k = a := by
              rcases fnd_iff HRD.out.pl a with ⟨x, hx, e, -⟩ | ⟨-, e⟩
              · exact .inr ⟨x, hx, e⟩
              · left; rw [← HKK.out]; unfold kindF; rw [e]
            have hkn : kk = 0 → ¬ isKey L1 a := fun e0 ⟨x, hx, e⟩ => by
              have h1 : kindF L1 a = x.o.kind := by unfold kindF; rw [← e, fnd_at HRD.out.pl hx]
              have := HRD.out.kd x hx
              rw [HKK.out] at h1; omega
            have HKY := Aside0.mk (And.intro hkey hkn)
            clear hkey hkn
            by_cases hk0 : kk = 0
            · have HNK := Aside0.mk (HKY.out.2 hk0)
              subst hk0
              go_wp2_with fail
              go_roundw
              case rel => exact ⟨l, Z, S0, c1 - 1, rfl, rfl, ⟨hli.out.skip (.inr HNK.out)⟩, ⟨by have := hll.out; rw [List.length_cons] at this; omega⟩, HL1⟩
              case measure => have e1 := mapLen_is HMP.out.1; have e2 := mapLen_is HL1.out.m; simp only [lenV, metV, List.length_map] at *; omega
            · have hkb : (kk == 0) = false := by simpa using hk0
              have hlk := map_lookup (P := Try.prog) Try.underlying51 Try.underlying28 (Try.zeroValue4 z1) HL1.out.m a false
              rw [show (if false = true then (.tuple #[(get? (metV Z) a).getD (.bool false), .bool (get? (metV Z) a).isSome] : Value) else (get? (metV Z) a).getD (.bool false)) = .bool (decide (a ∈ Z)) from met_get Z a] at hlk
              have HK0 := Aside0.mk hk0
              clear hk0
              by_cases hz : a ∈ Z
              · rw [decide_eq_true hz] at hlk
                have HZ := Aside0.mk hz
                clear hz
                go_wp2_with fail
                go_roundw
                case rel => exact ⟨l, Z, S0, c1 - 1, rfl, rfl, ⟨hli.out.skip (.inl HZ.out)⟩, ⟨by have := hll.out; rw [List.length_cons] at this; omega⟩, HL1⟩
                case measure => have e1 := mapLen_is HMP.out.1; have e2 := mapLen_is HL1.out.m; simp only [lenV, metV, List.length_map] at *; omega
              · rw [decide_eq_false hz] at hlk
                obtain ⟨x, hxL, hxa⟩ := HKY.out.1.resolve_left HK0.out
                obtain ⟨v1, hu1, hm1, hbt1⟩ := map_update (P := Try.prog) Try.underlying51 Try.underlying28 HL1.out.m a (.bool true)
                have HL2 := Aside0.mk (HL1.out.put hz hm1 hbt1)
                have hli2 : LInv L1 h1.roots (l ++ x.o.fs) (Z ++ [a]) := by rw [← hxa]; exact LInv.add (by rw [hxa]; exact hli.out) HRD.out.pl hxL (by rw [hxa]; exact hz)
                have hsc : sumC L1 (Z ++ [a]) = sumC L1 Z + x.o.cells := by rw [← hxa]; exact sumC_app HRD.out.pl hxL
                have hsb := sumC_b HRD.out.pl HRD.out.fine Z hli.out.key
                have hfn := HRD.out.fine x hxL
                have k0v : v1.cell? ⟨p, 0, none⟩ = some (.pointer (some ⟨g, 0, none⟩)) := (HPR0.out.new HL2.out.bel).c0
                have htx := (HPM0.out.new HL2.out.bel).textD HRD.out.pl a
                rw [show textF L1 a = x.o.text by unfold textF; rw [← hxa, fnd_at HRD.out.pl hxL]] at htx
                obtain ⟨sz, hsz⟩ : ∃ sz, sz = sumC L1 Z := ⟨_, rfl⟩
                have HLI2 := Aside0.mk (And.intro hli2 (And.intro hsc (And.intro hsb (And.intro hfn hsz))))
                have HXA := Aside0.mk (And.intro hxL hxa)
                have HTX := Aside0.mk htx
                obtain ⟨tx, htx2⟩ : ∃ tx, tx = x.o.text := ⟨_, rfl⟩
                rw [← htx2] at HTX
                have HT2 := Aside0.mk htx2
                have htl : tx.size ≤ 4000 := by rw [htx2]; exact hfn.tx
                have hs0 : 0 ≤ sz ∧ sz ≤ 2000000 := by rw [hsz]; have := HZL.out; have := HLN.out; omega
                rw [← hsz]
                have e7 : wrap64 ((tx.size : Int) + 7) = (tx.size : Int) + 7 := by unfold wrap64; omega
                unfold ptr at HTX
                clear hz hxL hxa hm1 hbt1 hli2 hsc hsb hfn htx hsz htx2
                go_wp2_with fail
                refine HTX.out.mono ?_
                rintro e z3 ⟨rfl, hb3⟩
                have HL3 := Aside0.mk (HL2.out.new hb3)
                clear hb3 HTX
                go_wp2_with fail
                go_loopw [4, 6, 9] (fun s4 s6 v9 wq => ∃ (j : Nat) (l' : List Int) (A : Option Addr) (c : Nat), s4 = .slice A l'.length c ∧ s6 = .int .i64 (sz + 1 + ((tx.size : Int) + 7) / 8 + (j : Int)) ∧ v9 = .int .i64 j ∧ Aside0 (j ≤ x.o.fs.length ∧ l' = l ++ x.o.fs.take j) ∧ Aside0 (LW w2 wq A c l' bm (Z ++ [a]))) (fun s4 s6 v9 wq => x.o.fs.length - (intOf v9).toNat)
                case atStart => exact ⟨0, l, S0, c1 - 1, rfl, by
                  have e9 : ((tx.size : Int) + 7) / 8 ≤ 501 := by omega
                  simp only [Value.int.injEq, true_and]
                  omega, rfl, ⟨⟨Nat.zero_le _, by simp⟩⟩, HL3⟩
                case round =>
                  clear HL3
                  obtain ⟨j, l', A2, c2, rfl, rfl, rfl, hj, hlw2⟩ := hrel
                  have k0w : wr.cell? ⟨p, 0, none⟩ = some (.pointer (some ⟨g, 0, none⟩)) := (HPR0.out.new hlw2.out.bel).c0
                  have hfd := (HPM0.out.new hlw2.out.bel).fieldD HRD.out.pl HRD.out.kd a j
                  have hfn2 := HLI2.out.2.2.2.1.fl
                  by_cases hjl : j < x.o.fs.length
                  · rw [show fieldF L1 a j = (x.o.fs.getD j 0, 0) by
                      unfold fieldF; rw [← HXA.out.2, fnd_at HRD.out.pl HXA.out.1]
                      simp only [if_neg (show ¬ ((j : Int) < 0 ∨ (x.o.fs.length : Int) ≤ (j : Int)) by omega), Int.toNat_natCast]] at hfd
                    obtain ⟨f1, hf1⟩ : ∃ f1, f1 = x.o.fs.getD j 0 := ⟨_, rfl⟩
                    rw [← hf1] at hfd
                    have HFD := Aside0.mk hfd
                    have HTK := Aside0.mk (show x.o.fs.take (j + 1) = x.o.fs.take j ++ [f1] by rw [hf1]; exact take_step _ hjl)
                    unfold ptr at HFD
                    clear hfd hf1
                    go_wp2_with fail
                    refine HFD.out.mono ?_
                    rintro e z4 ⟨rfl, hb4⟩
                    obtain ⟨A5, c5, z5, hrun1, hlw5⟩ := (hlw2.out.new hb4).more f1 (by have h1 := hll.out; rw [List.length_cons] at h1; have h2 := hj.out.2; have h3 := HZL.out; have h4 := HLN.out; rw [h2, List.length_append, List.length_take]; omega)
                    have HLW5 := Aside0.mk hlw5
                    clear hb4 hlw5 HFD
                    go_wp2_with (at_builtin; refine wpList_plain rfl fun KK hK => wp_append_words _ _ 33 rfl _ _ _ _ rfl rfl hrun1 (hK _ _ ?_))
                    go_roundw
                    case rel => exact ⟨j + 1, l' ++ [f1], A5, c5, by rw [List.length_append]; rfl, by
                      simp only [Value.int.injEq, true_and]
                      omega, by go_num, ⟨by have := hj.out; exact ⟨hjl, by rw [HTK.out, this.2, List.append_assoc]⟩⟩, HLW5⟩
                    case measure => simp [intOf]; omega
                  · rw [show fieldF L1 a j = (0, 1) by
                      unfold fieldF; rw [← HXA.out.2, fnd_at HRD.out.pl HXA.out.1]
                      simp only [if_pos (show ((j : Int) < 0 ∨ (x.o.fs.length : Int) ≤ (j : Int)) by omega)]] at hfd
                    have HFD := Aside0.mk hfd
                    unfold ptr at HFD
                    clear hfd
                    go_wp2_with fail
                    refine HFD.out.mono ?_
                    rintro e z4 ⟨rfl, hb4⟩
                    have HL6 := Aside0.mk (hlw2.out.new hb4)
                    have hje : j = x.o.fs.length := by have := hj.out; omega
                    have hl' : l' = l ++ x.o.fs := by rw [hj.out.2, hje, List.take_length]
                    have hsv : sz + 1 + ((tx.size : Int) + 7) / 8 + (j : Int) = sumC L1 (Z ++ [a]) := by
                      rw [HLI2.out.2.1, ← HLI2.out.2.2.2.2, hje]
                      unfold PO.cells
                      rw [HT2.out]
                      omega
                    have HE := Aside0.mk (And.intro hl' hsv)
                    clear hb4 HFD hje hl' hsv
                    go_wp2_with fail
                    go_roundw
                    case rel => exact ⟨l', Z ++ [a], A2, c2, rfl, by rw [HE.out.2], ⟨by rw [HE.out.1]; exact HLI2.out.1⟩, ⟨by have h1 := hll.out; rw [List.length_cons] at h1; rw [HE.out.1, List.length_append, List.length_append, List.length_singleton]; omega⟩, HL6⟩
                    case measure => have e1 := mapLen_is HMP.out.1; have e2 := mapLen_is HL6.out.m; have e3 := HLI2.out.1.len; have e4 := HE.out.1; have e5 := congrArg List.length e4; rw [List.length_append] at e5; simp only [lenV, metV, List.length_map, List.length_append, List.length_singleton] at *; omega
  · have h140 : (ColF L h true).1 = 140 := herr.resolve_left he
    have hcr := hm2.collectR (HX.out.2.2.1.smt HX.out.2.1 (by omega)) true
    have HCR := Aside0.mk hcr
    have H140 := Aside0.mk h140
    have heb : ((ColF L h true).1 != 0) = true := by simpa using he
    have c1 : w2.cell? ⟨p, 1, none⟩ = some (.pointer (some ⟨gx, 0, none⟩)) := hpr2.c1
    generalize hcf : (ColF L h true).1 = cf at *
    have HCF := Aside0.mk hcf
    unfold ptr at HCR
    clear hcr h140 he hm2 hf2 hpr2 herr HC hcf
    go_wp2_with fail
    refine HCR.out.mono ?_
    rintro e w3 ⟨er, M', k', hrc, rfl, hm3, hf3⟩
    have hse := (HX.out.2.1.col HX.out.2.2.2 true hrc).1
    have her : er = 140 := by rw [← hse, HCF.out, H140.out]
    subst her
    have HB3 := Aside0.mk hm3.bel
    clear hrc hm3 hf3 hse HCR
    go_wp2_with fail
    go_returns
    exact ⟨rfl, HB3.out⟩
end
end Go.Proofs.Ytlghnldlkbgajaa.S
