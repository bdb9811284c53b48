
/- heap: the document's heap: what moved has done so far. -/
import Derived.Test.YtlghnldlkbgajaaHRf7
namespace Go.Proofs.Ytlghnldlkbgajaa.S
open Go.RowKit Go.Proofs.YtlghnldlkbgajaaW.PrintWords Go.Proofs.YtlghnldlkbgajaaW.PrintLast Go.Proofs.YtlghnldlkbgajaaW.PrintMore
set_option linter.unusedVariables false
set_option linter.unusedSimpArgs false
/-- Addresses: what each word was and is. -/
def stT (nx : Int) (S : List OW) : List (Int × Int) := S.mapIdx fun j x => (x.k, nx + 2 * (j : Int))
def OW.aged (x : OW) (n : Int) : OW := { x with k := n, o := { x.o with old := true, noted := false } }
def stA (nx : Int) (i : Nat) (S : List OW) : List OW := S.mapIdx fun j x => if j < i then x.aged (nx + 2 * (j : Int)) else x
def OW.turn (x : OW) (tt : List (Int × Int)) (j : Nat) : OW := { x with o := x.o.part tt j }
def stB (tt : List (Int × Int)) (i j : Nat) (S : List OW) : List OW := S.mapIdx fun a x => if a < i then x.turn tt x.o.fs.length else if a = i then x.turn tt j else x
theorem stA_len (nx : Int) (i : Nat) (S : List OW) : (stA nx i S).length = S.length := by simp [stA]
theorem stB_len (tt : List (Int × Int)) (i j : Nat) (S : List OW) : (stB tt i j S).length = S.length := by simp [stB]
theorem stA_zero (nx : Int) (S : List OW) : stA nx 0 S = S := by
  refine List.ext_getElem (by simp [stA]) fun j h1 h2 => ?_
  simp [stA]
theorem stA_get (nx : Int) (i : Nat) (S : List OW) {j : Nat} (hj : j < S.length) : (stA nx i S)[j]'(by simpa [stA] using hj) = if j < i then S[j].aged (nx + 2 * (j : Int)) else S[j] := by simp [stA]
theorem stA_set (nx : Int) {i : Nat} {S : List OW} (hi : i < S.length) : (stA nx i S).set i (S[i].aged (nx + 2 * (i : Int))) = stA nx (i + 1) S := by
  refine List.ext_getElem (by simp [stA]) fun j h1 h2 => ?_
  have hj : j < S.length := by simpa [stA] using h2
  rw [List.getElem_set, stA_get nx (i + 1) S hj]
  by_cases e : i = j
  · subst e; simp
  · rw [if_neg e, stA_get nx i S hj]
    by_cases h3 : j < i
    · rw [if_pos h3, if_pos (by omega)]
    · rw [if_neg h3, if_neg (by omega)]
theorem stT_take (nx : Int) {i : Nat} {S : List OW} (hi : i < S.length) : stT nx (S.take (i + 1)) = stT nx (S.take i) ++ [(S[i].k, nx + 2 * (i : Int))] := by
  unfold stT
  rw [List.take_add_one, List.getElem?_eq_getElem hi]
  show List.mapIdx _ (S.take i ++ [S[i]]) = _
  rw [List.mapIdx_append]
  congr 1
  simp only [List.mapIdx_cons, List.mapIdx_nil, List.length_take, Nat.min_eq_left (Nat.le_of_lt hi), Nat.zero_add]
theorem stT_keys (nx : Int) (S : List OW) : (stT nx S).map (·.1) = S.map (·.k) := by
  unfold stT
  refine List.ext_getElem (by simp) fun j h1 h2 => ?_
  simp
theorem stB_get (tt : List (Int × Int)) (i j : Nat) (S : List OW) {a : Nat} (ha : a < S.length) : (stB tt i j S)[a]'(by simpa [stB] using ha) = if a < i then S[a].turn tt S[a].o.fs.length else if a = i then S[a].turn tt j else S[a] := by simp [stB]
theorem turn_zero (x : OW) (tt : List (Int × Int)) : x.turn tt 0 = x := by unfold OW.turn; rw [part_zero]
theorem stB_zero (tt : List (Int × Int)) (S : List OW) : stB tt 0 0 S = S := by
  refine List.ext_getElem (by simp [stB]) fun j h1 h2 => ?_
  rw [stB_get tt 0 0 S (by simpa [stB] using h1)]
  simp [turn_zero]
theorem stB_next (tt : List (Int × Int)) {i : Nat} {S : List OW} (hi : i < S.length) : stB tt i S[i].o.fs.length S = stB tt (i + 1) 0 S := by
  refine List.ext_getElem (by simp [stB]) fun j h1 h2 => ?_
  have hj : j < S.length := by simpa [stB] using h2
  rw [stB_get tt i _ S hj, stB_get tt (i + 1) 0 S hj]
  by_cases h3 : j < i
  · rw [if_pos h3, if_pos (by omega)]
  · rw [if_neg h3]
    by_cases e : j = i
    · subst e; rw [if_pos rfl, if_pos (by omega)]
    · rw [if_neg e, if_neg (by omega), turn_zero]
      simp
theorem stB_set (tt : List (Int × Int)) {i j : Nat} {S : List OW} (hi : i < S.length) : (stB tt i j S).set i (S[i].turn tt (j + 1)) = stB tt i (j + 1) S := by
  refine List.ext_getElem (by simp [stB]) fun a h1 h2 => ?_
  have ha : a < S.length := by simpa [stB] using h2
  rw [List.getElem_set, stB_get tt i (j + 1) S ha]
  by_cases e : i = a
  · subst e; simp
  · rw [if_neg e, stB_get tt i j S ha]
    by_cases h3 : a < i
    · rw [if_pos h3, if_pos h3]
    · rw [if_neg h3, if_neg h3, if_neg (fun h => e h.symm), if_neg (fun h => e h.symm)]
section
variable {w0 w w' : World} {g rc sc b : Nat} {V : Value} {R SA : Option Addr} {S0 S : List OW} {h : RS} {m : List (Int × Int)}
structure MvS (w0 w : World) (g : Nat) (V : Value) (R : Option Addr) (rc : Nat) (SA : Option Addr) (sc : Nat) (S0 S : List OW) (h : RS) (b : Nat) (m : List (Int × Int)) : Prop where
  q : HQ w g V R rc S h
  ps : Ptrs w (.slice SA S.length sc) S
  mp : MapIs w b (toV m)
  fr : FrP (FootQ g R S0) w0 w
  bn : w0.heap.size ≤ b
  ft : ∀ k, FootQ g R S k → FootQ g R S0 k
  lt : ∀ k, FootQ g R S0 k → k < w0.heap.size
theorem MvS.obj (M : MvS w0 w g V R rc SA sc S0 S h b m) {i : Nat} (hi : i < S.length) (x' : OW) (ht : x'.t = S[i].t) (hfb : x'.fb = S[i].fb) (hlen : x'.o.fs.length = S[i].o.fs.length) {T : Nat → Prop} (hf : FrP T w w') (hT : ∀ k, T k → k = S[i].t ∨ (S[i].o.fs ≠ [] ∧ k = S[i].fb))
    (hob : w'.heap[x'.t]? = some x'.robj) (hr : x'.rowOk w') : MvS w0 w' g V R rc SA sc S0 (S.set i x') h b m := by
  have hx := List.getElem_mem hi
  have hTF : ∀ k, T k → FootQ g R S k := fun k hk => .inr (.inr ⟨_, hx, hT k hk⟩)
  refine ⟨M.q.upd hi x' ht hfb hlen hf hT hob hr, ?_, M.mp.frp hf (fun hk => ?_), M.fr.trans (hf.mono (fun k _ hk => M.ft k (hTF k hk))), M.bn, fun k hk => M.ft k ?_, M.lt⟩
  · have h1 := M.ps.foot M.q (hf.mono (fun k _ hk => hTF k hk))
    unfold Ptrs at h1 ⊢
    rw [List.length_set]
    have e : ((S.set i x').map fun x => ptr x.t) = S.map fun x => ptr x.t := by
      rw [List.map_set, ht]
      refine List.ext_getElem (by simp) fun j h1 h2 => ?_
      rw [List.getElem_set]
      split
      · next e => subst e; simp
      · rfl
    rw [e]; exact h1
  · have := M.lt _ (M.ft _ (hTF _ hk))
    have := M.bn
    omega
  · rcases hk with hk | hk | ⟨y, hy, hk⟩
    · exact .inl hk
    · exact .inr (.inl hk)
    · rcases List.mem_or_eq_of_mem_set hy with hy | hy
      · exact .inr (.inr ⟨y, hy, hk⟩)
      · subst hy
        refine .inr (.inr ⟨_, hx, hk.imp (fun e => e.trans ht) (fun e => ⟨?_, e.2.trans hfb⟩)⟩)
        have := e.1
        rw [← List.length_pos_iff, hlen, List.length_pos_iff] at this
        exact this
theorem MvS.turned (M : MvS w0 w g V R rc SA sc S0 S h b m) {V' : Value} {h' : RS} (hf : Fr [g] w w') (hg : w'.heap[g]? = some (rsObj V' R rc h')) (hr : h'.roots = h.roots) : MvS w0 w' g V' R rc SA sc S0 S h' b m := by
  have hfq : FrP (FootQ g R S) w w' := (FrP.ofFr hf).mono (fun k _ hk => .inl (by simpa using hk))
  refine ⟨M.q.turned hf hg hr, M.ps.foot M.q hfq, M.mp.frp hfq (fun hk => ?_), M.fr.trans (hfq.mono (fun k _ hk => M.ft k hk)), M.bn, M.ft, M.lt⟩
  have := M.lt _ (M.ft _ hk)
  have := M.bn
  omega
theorem MvS.fr0 (M : MvS w0 w g V R rc SA sc S0 S h b m) (hf : Fr [] w w') : MvS w0 w' g V R rc SA sc S0 S h b m :=
  ⟨M.q.fr0 hf, M.ps.frp (FrP.ofFr hf) (fun _ _ => by simp), M.mp.fr hf (by simp), M.fr.trans ((FrP.ofFr hf).mono (by simp)), M.bn, M.ft, M.lt⟩
theorem MvS.put (M : MvS w0 w g V R rc SA sc S0 S h b m) {m' : List (Int × Int)} (hm : MapIs w' b (toV m')) (hb : But1 b w w') : MvS w0 w' g V R rc SA sc S0 S h b m' := by
  have hf := Fr.but1 hb
  have hno : ∀ k, FootQ g R S k → k ∉ [b] := fun k hk e => by
    have e : k = b := by simpa using e
    have := M.lt _ (M.ft _ hk)
    have := M.bn
    omega
  refine ⟨M.q.fr hf hno, M.ps.frp (FrP.ofFr hf) (fun k hk e => ?_), hm, ⟨M.fr.os ▸ hf.os, hf.tape.trans M.fr.tape, hf.output.trans M.fr.output, Nat.le_trans M.fr.size hf.size, fun k hk hT => ?_⟩, M.bn, M.ft, M.lt⟩
  · have e : k = b := by simpa using e
    obtain ⟨cur, hc⟩ := M.ps.block hk
    rw [e] at hc
    exact M.mp.norow _ _ _ hc
  · have := M.bn
    exact (hf.block k (Nat.lt_of_lt_of_le hk M.fr.size) (by simp; omega)).trans (M.fr.block k hk hT)
end
end Go.Proofs.Ytlghnldlkbgajaa.S
