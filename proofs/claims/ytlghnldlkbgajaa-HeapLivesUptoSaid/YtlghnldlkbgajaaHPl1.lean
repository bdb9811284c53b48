
/- heap: roots pushed, popped; an object placed: what lies in memory then. -/
import Derived.Test.YtlghnldlkbgajaaHPl0
namespace Go.Proofs.Ytlghnldlkbgajaa.S
open Go.RowKit Go.Proofs.YtlghnldlkbgajaaW.PrintWords Go.Proofs.YtlghnldlkbgajaaW.PrintLast Go.Proofs.YtlghnldlkbgajaaW.PrintMore
set_option linter.unusedVariables false
set_option linter.unusedSimpArgs false

section
variable {w w' : World} {g b : Nat} {R R' : Option Addr} {rc rc' : Nat} {L : List OW} {h : HH}
theorem HW.pushed (H : HW w g b 0 R rc L h) (m : List Int) (hown : w'.ownsRow 0 28 1 (.slice R' (h.roots.length + m.length) rc') (h.roots.length + m.length) ((h.roots ++ m).map (Value.int .i64))) (hf : FrP (fun k => R = some ⟨k, 0, none⟩) w w')
    (hblk : ∀ k, R' = some ⟨k, 0, none⟩ → R = some ⟨k, 0, none⟩ ∨ w.heap.size ≤ k) :
    HW (w'.setCell ⟨g, 2, none⟩ (.slice R' (h.roots.length + m.length) rc')) g b 0 R' rc' L { h with roots := h.roots ++ m } ∧ FrP (Foot g b R L) w (w'.setCell ⟨g, 2, none⟩ (.slice R' (h.roots.length + m.length) rc')) ∧ ∀ k, Foot g b R' L k → Foot g b R L k ∨ w.heap.size ≤ k := by
  have f2 := Fr.set w' g 2 (.slice R' (h.roots.length + m.length) rc')
  have hrl : ((h.roots ++ m).length : Nat) = h.roots.length + m.length := List.length_append
  have hgR : ¬ R = some ⟨g, 0, none⟩ := fun e => H.ne_gr e rfl
  have hbR : ¬ R = some ⟨b, 0, none⟩ := fun e => H.ne_br e rfl
  have htR : ∀ x ∈ L, ¬ R = some ⟨x.t, 0, none⟩ := fun x hx e => H.ne_tr hx e rfl
  have hfR : ∀ x ∈ L, x.o.fs ≠ [] → ¬ R = some ⟨x.fb, 0, none⟩ := fun x hx hne e => H.far x hx _ e hne rfl
  have hlt : ∀ k, Foot g b R L k → k < w.heap.size := fun k hk => H.foot_lt hk
  refine ⟨⟨?_, (H.mp.frp hf hbR).fr f2 (by simpa using H.ne_gb.symm), ?_, fun x hx => f2.get (hf.get (H.ob x hx) (htR x hx)) (by simpa using H.ne_gt hx), fun x hx => ((H.row x hx).frp hf (hfR x hx)).fr f2 (fun hne => by simpa using H.ne_gf hx hne), H.one, fun x hx rb hrb hne => ?_, H.low⟩, ?_, fun k hk => ?_⟩
  · have := blk_put (hf.get H.hp hgR) 2 (.slice R' (h.roots.length + m.length) rc') rfl
    rw [this]
    simp [hhObj]
  · show World.ownsRow _ 0 28 1 (.slice R' (h.roots ++ m).length rc') (h.roots ++ m).length _
    rw [hrl]
    refine own_fr hown f2 (fun k hk => ?_)
    rcases hown.2 with ⟨h1, -⟩ | ⟨q, cap, cur, h1, -⟩
    · rw [h1] at hk; cases hk
    · rw [h1] at hk
      obtain rfl : q = k := by simpa [Value.ownBlock] using hk
      simp only [Value.slice.injEq] at h1
      rcases hblk q h1.1 with e | e
      · simpa using H.ne_gr e
      · have := hlt g (.inl rfl)
        simp; omega
  · rcases hblk rb hrb with e | e
    · exact H.far x hx rb e hne
    · have := hlt x.fb (.inr (.inr (.inr ⟨x, hx, .inr ⟨hne, rfl⟩⟩)))
      omega
  · exact (hf.mono (fun k _ hk => .inr (.inr (.inl hk)))).trans ((FrP.ofFr f2).mono (fun k _ hk => .inl (by simpa using hk)))
  · rcases hk with hk | hk | hk | hk
    · exact .inl (.inl hk)
    · exact .inl (.inr (.inl hk))
    · exact (hblk k hk).imp (fun e => .inr (.inr (.inl e))) id
    · exact .inl (.inr (.inr (.inr hk)))
theorem HW.popped (H : HW w g b 0 R rc L h) {n : Nat} (hn : n ≤ h.roots.length) : HW (w.setCell ⟨g, 2, none⟩ (.slice R n rc)) g b 0 R rc L { h with roots := h.roots.take n } := by
  have f2 := Fr.set w g 2 (.slice R n rc)
  have hl : (h.roots.take n).length = n := by rw [List.length_take]; omega
  refine ⟨?_, H.mp.fr f2 (by simpa using H.ne_gb.symm), ?_, fun x hx => f2.get (H.ob x hx) (by simpa using H.ne_gt hx), fun x hx => (H.row x hx).fr f2 (fun hne => by simpa using H.ne_gf hx hne), H.one, H.far, H.low⟩
  · have := blk_put H.hp 2 (.slice R n rc) rfl
    rw [this]
    simp only [hhObj, hl]
    rfl
  · show World.ownsRow _ 0 28 1 (.slice R (h.roots.take n).length rc) (h.roots.take n).length _
    rw [hl]
    refine ⟨by rw [List.length_map, hl, Nat.mul_one], ?_⟩
    rcases H.rt.2 with ⟨h1, h2⟩ | ⟨q, cap, cur, h1, h2, h3, h4, h5, h6, h7⟩
    · simp only [Value.slice.injEq] at h1
      obtain rfl : n = 0 := by omega
      exact .inl ⟨by rw [h1.1, h1.2.2], rfl⟩
    · have h1' := h1
      simp only [Value.slice.injEq] at h1
      obtain ⟨rfl, -, rfl⟩ := h1
      refine .inr ⟨q, rc, cur, rfl, h2, f2.get h3 (by simpa using H.ne_gr rfl), by omega, h5, h6, ?_⟩
      have e : cur.toList.take (n * 1) = (cur.toList.take (h.roots.length * 1)).take n := by rw [List.take_take]; congr 1; omega
      rw [e, h7, List.map_take]
/-- The world behind place: the next word, the map, the room. -/
theorem HW.placed {w1 w2 w3 : World} (H : HW w g b 0 R rc L h) (x : OW) (hx : w.heap[x.t]? = some x.obj) (hrow : x.rowOk w) (hT : ¬ Foot g b R L x.t) (hF : x.o.fs ≠ [] → ¬ Foot g b R L x.fb) (u : Int) (hnx : 0 < h.nx ∧ h.nx % 2 = 0)
    (e1 : w1 = w.setCell ⟨g, 1, none⟩ (.int .i64 (h.nx + 2))) (hm : MapIs w2 b (put (L.map OW.pair) h.nx (ptr x.t))) (hb : But1 b w1 w2) (e3 : w3 = w2.setCell ⟨g, 5, none⟩ (.int .i64 u)) :
    HW w3 g b 0 R rc (L ++ [{ x with k := h.nx }]) { h with nx := h.nx + 2, has0 := u } ∧ Fr [g, b] w w3 := by
  have hgb := H.ne_gb
  have f1 : Fr [g, b] w w1 := by rw [e1]; exact (Fr.set w g 1 _).mono (fun k _ hk => by simp at hk ⊢; exact .inl hk)
  have f2 : Fr [g, b] w1 w2 := (Fr.but1 hb).mono (fun k _ hk => by simp at hk ⊢; exact .inr hk)
  have f3 : Fr [g, b] w2 w3 := by rw [e3]; exact (Fr.set w2 g 5 _).mono (fun k _ hk => by simp at hk ⊢; exact .inl hk)
  have f := (f1.trans f2).trans f3
  have hmiss : get? (L.map OW.pair) h.nx = none := H.miss (fun y hy e => by have := H.low y hy; omega)
  rw [put_new hmiss] at hm
  have hxg : x.t ≠ g := fun e => hT (.inl e)
  have hxb : x.t ≠ b := fun e => hT (.inr (.inl e))
  have hp1 : w1.heap[g]? = some (hhObj b R rc { h with nx := h.nx + 2 }) := by rw [e1]; exact blk_put H.hp 1 _ rfl
  have hp2 : w2.heap[g]? = some (hhObj b R rc { h with nx := h.nx + 2 }) := (hb.block g hgb).trans hp1
  have hp3 : w3.heap[g]? = some (hhObj b R rc { h with nx := h.nx + 2, has0 := u }) := by rw [e3]; exact blk_put hp2 5 _ rfl
  refine ⟨⟨hp3, ?_, own_fr H.rt f (fun k hk => by have := H.ne_gr (H.rtBlock hk).1; have := H.ne_br (H.rtBlock hk).1; simp_all), ?_, ?_, ?_, ?_, ?_⟩, f⟩
  · have : (L ++ [{ x with k := h.nx }]).map OW.pair = L.map OW.pair ++ [(h.nx, ptr x.t)] := by simp [OW.pair]
    rw [this]
    exact hm.fr (T := [g]) (by rw [e3]; exact Fr.set w2 g 5 _) (by simpa using fun e => hgb e.symm)
  · intro y hy
    rcases List.mem_append.1 hy with hy | hy
    · exact f.get (H.ob y hy) (by have := H.ne_gt hy; have := H.ne_bt hy; simp_all)
    · obtain rfl := List.mem_singleton.1 hy
      exact f.get hx (by simp_all)
  · intro y hy
    rcases List.mem_append.1 hy with hy | hy
    · exact (H.row y hy).fr f (fun hne => by have := H.ne_gf hy hne; have := H.ne_bf hy hne; simp_all)
    · obtain rfl := List.mem_singleton.1 hy
      intro hne
      exact ⟨(hrow hne).1, (hrow hne).2.fr f (by
        have h1 : x.fb ≠ g := fun e => hF hne (.inl e)
        have h2 : x.fb ≠ b := fun e => hF hne (.inr (.inl e))
        simp_all)⟩
  · intro y hy z hz hk
    rcases List.mem_append.1 hy with hy | hy <;> rcases List.mem_append.1 hz with hz | hz
    · exact H.one y hy z hz hk
    · obtain rfl := List.mem_singleton.1 hz
      exact ⟨fun e => hT (.inr (.inr (.inr ⟨y, hy, .inl e.symm⟩))), fun hn hm e => hF hm (.inr (.inr (.inr ⟨y, hy, .inr ⟨hn, e.symm⟩⟩)))⟩
    · obtain rfl := List.mem_singleton.1 hy
      exact ⟨fun e => hT (.inr (.inr (.inr ⟨z, hz, .inl e⟩))), fun hn hm e => hF hn (.inr (.inr (.inr ⟨z, hz, .inr ⟨hm, e⟩⟩)))⟩
    · obtain rfl := List.mem_singleton.1 hy
      obtain rfl := List.mem_singleton.1 hz
      exact absurd rfl hk
  · intro y hy rb hrb hne
    rcases List.mem_append.1 hy with hy | hy
    · exact H.far y hy rb hrb hne
    · obtain rfl := List.mem_singleton.1 hy
      exact fun e => hF hne (.inr (.inr (.inl (by rw [hrb]; simp [← e]))))
  · intro y hy
    rcases List.mem_append.1 hy with hy | hy
    · have := H.low y hy
      exact ⟨this.1, by show y.k < h.nx + 2; omega, this.2.2⟩
    · obtain rfl := List.mem_singleton.1 hy
      exact ⟨hnx.1, by show h.nx < h.nx + 2; omega, hnx.2⟩
end
theorem ColF_roots (L : List OW) (h : HH) (all : Bool) : (ColF L h all).2.2.roots.length = h.roots.length := by
  have h1 : ∀ L h all, (collHH L h all).roots.length = h.roots.length := fun L h all => by show (h.roots.map _).length = _; rw [List.length_map]
  have h2 : (ColMid L h all).2.roots.length = h.roots.length := by
    unfold ColMid
    split
    · rw [h1, h1]
    · rw [h1]
  unfold ColF
  split
  · rfl
  · split
    · exact h2
    · exact h2
theorem ColF_nx (L : List OW) (h : HH) (all : Bool) (h0 : 0 < h.nx ∧ h.nx % 2 = 0) (hl : L.length ≤ 1000000) : (0 < (ColF L h all).2.2.nx ∧ (ColF L h all).2.2.nx % 2 = 0) ∧ (ColF L h all).2.2.nx ≤ h.nx + 4000000 := by
  have h1 : ∀ L h all, (collHH L h all).nx = h.nx + 2 * ((collMv L h all).q.length : Int) := fun L h all => (collMv_mv L h all).nx
  have h3 : ∀ L h all, (collMv L h all).q.length ≤ L.length := fun L h all => (collMv_ok L h all).len
  have h2 : (0 < (ColMid L h all).2.nx ∧ (ColMid L h all).2.nx % 2 = 0) ∧ (ColMid L h all).2.nx ≤ h.nx + 4000000 := by
    unfold ColMid
    split
    · rw [h1, h1]
      have a := h3 L h all
      have c := h3 (collL L h all) (collHH L h all) true
      rw [collL_len] at c
      omega
    · rw [h1]
      have a := h3 L h all
      omega
  unfold ColF
  split
  · exact ⟨h0, by show h.nx ≤ h.nx + 4000000; omega⟩
  · split
    · exact h2
    · exact h2
end Go.Proofs.Ytlghnldlkbgajaa.S
