/- HeapChain: what stays true of the heap, in plain lists. -/
import Derived.Test.YtlghnldlkbgajaaHMk
namespace Go.Proofs.Ytlghnldlkbgajaa.S
set_option linter.unusedVariables false
set_option linter.unusedSimpArgs false

/-- So many pairs, from a word down to nought; their words. -/
def ChainK (L : List OW) : Nat → Int → List Int → Prop
  | 0, r, ks => r = 0 ∧ ks = []
  | n + 1, r, ks => ∃ o ∈ L, o.k = r ∧ o.o.kind = 1 ∧ ∃ r' ks', o.o.fs = [2 * (n : Int) + 1, r'] ∧ ks = r :: ks' ∧ ChainK L n r' ks'
theorem ChainK.more {L L' : List OW} (hs : ∀ o ∈ L, o ∈ L') : ∀ {n : Nat} {r : Int} {ks : List Int}, ChainK L n r ks → ChainK L' n r ks
  | 0, r, ks, h => h
  | n + 1, r, ks, ⟨o, ho, h1, h2, r', ks', h3, h4, h5⟩ => ⟨o, hs o ho, h1, h2, r', ks', h3, h4, h5.more hs⟩
theorem ChainK.root {L : List OW} : ∀ {n : Nat} {r : Int} {ks : List Int}, ChainK L n r ks → r = 0 ∨ r ∈ ks
  | 0, r, ks, h => .inl h.1
  | n + 1, r, ks, ⟨o, ho, h1, h2, r', ks', h3, h4, h5⟩ => .inr (by rw [h4]; simp)
theorem ChainK.len {L : List OW} : ∀ {n : Nat} {r : Int} {ks : List Int}, ChainK L n r ks → ks.length = n
  | 0, r, ks, h => by rw [h.2]; rfl
  | n + 1, r, ks, ⟨o, ho, h1, h2, r', ks', h3, h4, h5⟩ => by rw [h4, List.length_cons, h5.len]
theorem ChainK.mem {L : List OW} : ∀ {n : Nat} {r : Int} {ks : List Int}, ChainK L n r ks → ∀ k ∈ ks, ∃ o ∈ L, o.k = k ∧ ∃ a r', o.o.fs = [a, r'] ∧ a % 2 = 1 ∧ (r' = 0 ∨ r' ∈ ks)
  | 0, r, ks, h, k, hk => by rw [h.2] at hk; cases hk
  | n + 1, r, ks, ⟨o, ho, h1, h2, r', ks', h3, h4, h5⟩, k, hk => by
    rw [h4] at hk
    rcases List.mem_cons.1 hk with rfl | hk
    · refine ⟨o, ho, h1, _, r', h3, by omega, ?_⟩
      rcases h5.root with e | e
      · exact .inl e
      · exact .inr (by rw [h4]; simp [e])
    · obtain ⟨o', ho', e, a, r2, h6, h7, h8⟩ := h5.mem k hk
      exact ⟨o', ho', e, a, r2, h6, h7, h8.imp id (fun h => by rw [h4]; simp [h])⟩
/-- Behind a collection that keeps it. -/
theorem ChainK.coll {L : List OW} {h : HH} {all : Bool} (hp : L.Pairwise fun x y => x.k ≠ y.k) (hs : OldShut L) (he : ∀ o ∈ L, 0 < o.k ∧ o.k % 2 = 0) :
    ∀ {n : Nat} {r : Int} {ks : List Int}, ChainK L n r ks → (isKey L r → r ∈ (collMv L h all).q) → ChainK (collL L h all) n (ren (collMv L h all).tt r) (ks.map (ren (collMv L h all).tt))
  | 0, r, ks, hc, _ => by
    have hq : ∀ x ∈ (collMv L h all).q, isKey L x := (collMv_ok L h all).mem
    refine ⟨?_, by rw [hc.2]; rfl⟩
    rw [hc.1]
    refine ren_no (fun hm => ?_)
    obtain ⟨o, ho, e⟩ := hq _ hm
    have := he o ho
    omega
  | n + 1, r, ks, ⟨o, ho, h1, h2, r', ks', h3, h4, h5⟩, hr => by
    have hq : ∀ x ∈ (collMv L h all).q, isKey L x := (collMv_ok L h all).mem
    have hrq : r ∈ (collMv L h all).q := hr ⟨o, ho, h1⟩
    refine ⟨_, collL_of hp ho (by rw [h1]; exact hrq), by show ren _ o.k = _; rw [h1], h2, ren (collMv L h all).tt r', ks'.map (ren (collMv L h all).tt), ?_, by rw [h4]; rfl, h5.coll hp hs he (fun hk => ?_)⟩
    · show o.o.fs.map _ = _
      rw [h3]
      have : ren (collMv L h all).tt (2 * (n : Int) + 1) = 2 * (n : Int) + 1 := ren_no (fun hm => by
        obtain ⟨o', ho', e⟩ := hq _ hm
        have := he o' ho'
        omega)
      simp [this]
    · exact coll_closed hp hs ho (by rw [h1]; exact hrq) (by rw [h3]; simp) hk
/-- What stays true, behind so many pairs and so many calls. -/
structure CI (L : List OW) (h : HH) (n m : Nat) (r : Int) (ks : List Int) : Prop where
  roots : h.roots = [r]
  chain : ChainK L n r ks
  apart : L.Pairwise fun x y => x.k ≠ y.k
  low : ∀ o ∈ L, 0 < o.k ∧ o.k < h.nx ∧ o.k % 2 = 0
  old : ∀ o ∈ L, o.o.old = true → o.k ∈ ks
  shut : OldShut L
  size : ∀ o ∈ L, o.o.fs.length ≤ 2 ∧ o.o.text = ⟨#[]⟩
  room : h.room0 = 32 ∧ h.room1 = 1000 ∧ h.spent = false
  has : 0 ≤ h.has0 ∧ h.has0 ≤ 32
  len : 2 * (L.length : Int) ≤ 2 * n + h.has0
  nx : 0 < h.nx ∧ h.nx % 2 = 0 ∧ h.nx ≤ 2 + 1000 * (m : Int)
  mm : 0 ≤ h.minor ∧ h.minor ≤ m ∧ h.major = 0
theorem CI.sm {L : List OW} {h : HH} {n m : Nat} {r : Int} {ks : List Int} (c : CI L h n m r ks) (hn : n ≤ 300) (hm : m ≤ 100000) : Sm L h := by
  have h1 := c.len
  have h2 := c.has
  have h3 := c.nx
  have h4 := c.mm
  refine ⟨by omega, ⟨h3.1, h3.2.1, by omega⟩, fun o ho => by have := (c.size o ho).1; omega, fun o ho => by rw [(c.size o ho).2]; decide, by rw [c.roots]; show (1 : Nat) ≤ 1000000; omega, by omega⟩
theorem cells2 {o : PO} (ht : o.text = ⟨#[]⟩) : o.cells = 1 + (o.fs.length : Int) := by
  unfold PO.cells
  rw [ht]
  rw [show ((⟨#[]⟩ : ByteArray).size + 7) / 8 = 0 from rfl]
  simp
/-- Behind a young collection, where there are more roots. -/
theorem CI.collected {L : List OW} {h : HH} {n m : Nat} {r : Int} {ks : List Int} (c : CI L h n m r ks) (hn : n ≤ 300) (fs : List Int) (hfs : ∀ f ∈ fs, f % 2 = 1 ∨ f = r) :
    let hA : HH := { h with roots := h.roots ++ fs }
    let t := (collMv L hA false).tt
    ColF L hA false = (0, collL L hA false, collHH L hA false) ∧ CI (collL L hA false) { collHH L hA false with roots := (collHH L hA false).roots.take h.roots.length } n (m + 1) (ren t r) (ks.map (ren t)) ∧ (collHH L hA false).roots.drop h.roots.length = fs.map (fun f => if f = r then ren t r else f) ∧ (collHH L hA false).has0 = 0 := by
  intro hA t
  have he : ∀ o ∈ L, 0 < o.k ∧ o.k % 2 = 0 := fun o ho => ⟨(c.low o ho).1, (c.low o ho).2.2⟩
  have hq : ∀ x ∈ (collMv L hA false).q, isKey L x := (collMv_ok L hA false).mem
  have hodd : ∀ f : Int, f % 2 = 1 → ren t f = f := fun f hf => ren_no (fun hm => by
    obtain ⟨o, ho, e⟩ := hq _ hm
    have := he o ho
    omega)
  have h0 : ∀ x ∈ (collMv L hA false).q, x ∈ ks := coll_least c.apart (K := (· ∈ ks)) (fun x hx hk => by
      obtain ⟨o, ho, e⟩ := hk
      have hev := he o ho
      have hx : x ∈ h.roots ++ fs := hx
      rw [c.roots] at hx
      have hxr : x = r := by
        rcases List.mem_append.1 hx with hx | hx
        · simpa using hx
        · rcases hfs x hx with h | h
          · omega
          · exact h
      rw [hxr]
      rcases c.chain.root with e2 | e2
      · omega
      · exact e2) (fun _ o ho hold => c.old o ho hold) (fun o ho hk f hf hkf => by
      obtain ⟨o', ho', e, a, r', h3, h4, h5⟩ := c.chain.mem _ hk
      obtain rfl : o' = o := pw_eq OW.k c.apart ho' ho e
      rw [h3] at hf
      obtain ⟨p, hp, ep⟩ := hkf
      have := he p hp
      simp at hf
      rcases hf with rfl | rfl
      · omega
      · rcases h5 with h5 | h5
        · omega
        · exact h5)
  have hql : (collMv L hA false).q.length ≤ n := by rw [← c.chain.len]; exact nodup_le _ _ (collMv_ok L hA false).nodup h0
  have hsum := sumC_le L 3 (fun x hx => by rw [cells2 (c.size x hx).2]; have := (c.size x hx).1; omega) c.apart (collMv L hA false).q (collMv_ok L hA false).mem
  have hnx : (collMv L hA false).nx = h.nx + 2 * ((collMv L hA false).q.length : Int) := (collMv_mv L hA false).nx
  have hroots : (collHH L hA false).roots = (h.roots ++ fs).map (ren t) := rfl
  have hhas1 : (collHH L hA false).has1 = sumC L (collMv L hA false).q := rfl
  have hroom1 : (collHH L hA false).room1 = 1000 := c.room.2.1
  have hcol : ColF L hA false = (0, collL L hA false, collHH L hA false) := by
    have hmid : ColMid L hA false = (collL L hA false, collHH L hA false) := by
      unfold ColMid
      rw [if_neg]
      rw [hroom1, hhas1]
      intro h; omega
    unfold ColF
    rw [if_neg (by show ¬ h.spent = true; rw [c.room.2.2]; simp), hmid]
    rw [if_neg]
    show ¬ (collHH L hA false).room1 < (collHH L hA false).has1
    rw [hroom1, hhas1]
    omega
  have hrk : isKey L r → r ∈ (collMv L hA false).q := fun hk => coll_roots (by show r ∈ h.roots ++ fs; rw [c.roots]; simp) hk
  have hch := c.chain.coll (h := hA) (all := false) c.apart c.shut he hrk
  refine ⟨hcol, ⟨?_, hch, ?_, ?_, ?_, coll_shut c.apart, ?_, ⟨c.room.1, hroom1, c.room.2.2⟩, ⟨Int.le_refl _, by show (0 : Int) ≤ 32; decide⟩, ?_, ?_, ?_⟩, ?_, rfl⟩
  · show (collHH L hA false).roots.take h.roots.length = _
    rw [hroots, c.roots]
    rfl
  · unfold collL newL
    rw [List.pairwise_iff_getElem]
    intro i j hi hj hij
    simp only [List.getElem_mapIdx, newO]
    omega
  · intro o ho
    obtain ⟨j, hj, rfl⟩ := newL_mem ho
    have h1 := c.nx
    show 0 < hA.nx + 2 * (j : Int) ∧ hA.nx + 2 * (j : Int) < (collMv L hA false).nx ∧ (hA.nx + 2 * (j : Int)) % 2 = 0
    rw [hnx]
    show 0 < h.nx + 2 * (j : Int) ∧ h.nx + 2 * (j : Int) < _ ∧ (h.nx + 2 * (j : Int)) % 2 = 0
    omega
  · intro o ho _
    obtain ⟨o', ho', hk, rfl⟩ := collL_mem c.apart ho
    exact List.mem_map.2 ⟨o'.k, h0 _ hk, rfl⟩
  · intro o ho
    obtain ⟨o', ho', hk, rfl⟩ := collL_mem c.apart ho
    have := c.size o' ho'
    exact ⟨by show (o'.o.fs.map _).length ≤ 2; rw [List.length_map]; exact this.1, this.2⟩
  · rw [collL_len]
    show 2 * ((collMv L hA false).q.length : Int) ≤ 2 * (n : Int) + 0
    omega
  · show 0 < (collMv L hA false).nx ∧ (collMv L hA false).nx % 2 = 0 ∧ (collMv L hA false).nx ≤ _
    rw [hnx]
    have h1 := c.nx
    omega
  · have h1 := c.mm
    show 0 ≤ h.minor + 1 ∧ h.minor + 1 ≤ _ ∧ h.major = 0
    omega
  · rw [hroots, c.roots]
    show (fs.map (ren t)) = _
    refine List.map_congr_left fun f hf => ?_
    by_cases hfr : f = r
    · rw [if_pos hfr, hfr]
    · rw [if_neg hfr]
      rcases hfs f hf with h | h
      · exact hodd f h
      · exact absurd h hfr
/-- An object is placed. -/
theorem CI.place {L : List OW} {h : HH} {n m : Nat} {r : Int} {ks : List Int} (c : CI L h n m r ks) (hn : n ≤ 300) (x : OW) (hfs : ∀ f ∈ x.o.fs, f % 2 = 1 ∨ f = r) (hl : 1 ≤ x.o.fs.length ∧ x.o.fs.length ≤ 2) (ht : x.o.text = ⟨#[]⟩) (hold : x.o.old = false) :
    ∃ r1 ks1 x1, (plO L h x).2.1 = 0 ∧ x1 ∈ (plO L h x).2.2.1 ∧ x1.k = (plO L h x).1 ∧ x1.o = { x.o with fs := x.o.fs.map (fun f => if f = r then r1 else f) } ∧ CI (plO L h x).2.2.1 (plO L h x).2.2.2 n (m + 2) r1 ks1 ∧ ChainK (plO L h x).2.2.1 n r1 ks1 := by
  have hc : x.o.cells = 1 + (x.o.fs.length : Int) := cells2 ht
  -- the room
  obtain ⟨L1, h1, r1, ks1, fs1, hroom, hci, hf1, hhas⟩ : ∃ L1 h1 r1 ks1 fs1, roomF L h x.o = (0, L1, h1, fs1) ∧ CI L1 h1 n (m + 1) r1 ks1 ∧ fs1 = x.o.fs.map (fun f => if f = r then r1 else f) ∧ h1.has0 + x.o.cells ≤ 32 := by
    have h2 := c.has
    have hns : ¬ (h.spent = true ∨ h.room0 < x.o.cells) := by
      rw [c.room.1, c.room.2.2, hc]
      intro e
      rcases e with e | e
      · cases e
      · omega
    by_cases hfull : h.room0 < h.has0 + x.o.cells
    · obtain ⟨e1, e2, e3, e4⟩ := c.collected hn x.o.fs hfs
      refine ⟨_, _, _, _, _, ?_, e2, rfl, ?_⟩
      · unfold roomF
        rw [if_neg hns, if_pos hfull, e1]
        simp only []
        rw [e3]
      · show (collHH L { h with roots := h.roots ++ x.o.fs } false).has0 + x.o.cells ≤ 32
        rw [e4, hc]; omega
    · refine ⟨L, h, r, ks, x.o.fs, ?_, ?_, ?_, ?_⟩
      · unfold roomF
        rw [if_neg hns, if_neg hfull]
      · exact { c with nx := by have := c.nx; omega, mm := by have := c.mm; omega }
      · rw [show (fun f : Int => if f = r then r else f) = id from by funext f; by_cases h : f = r <;> simp [h]]
        simp
      · rw [c.room.1] at hfull; omega
  have hpl : plO L h x = (h1.nx, 0, L1 ++ [{ x with k := h1.nx, o := { x.o with fs := fs1 } }], { h1 with nx := h1.nx + 2, has0 := h1.has0 + x.o.cells }) := by
    unfold plO
    rw [hroom]
    rfl
  have hch : ChainK (L1 ++ [{ x with k := h1.nx, o := { x.o with fs := fs1 } }]) n r1 ks1 := hci.chain.more (fun o ho => List.mem_append_left _ ho)
  rw [hpl]
  have hkk : ∀ k ∈ ks1, ∃ o ∈ L1, o.k = k := fun k hk => by
    obtain ⟨o, ho, e, -⟩ := hci.chain.mem k hk
    exact ⟨o, ho, e⟩
  refine ⟨r1, ks1, { x with k := h1.nx, o := { x.o with fs := fs1 } }, rfl, by simp, rfl, by rw [hf1], ⟨hci.roots, hch, ?_, ?_, ?_, ?_, ?_, hci.room, ⟨by have := hci.has; show 0 ≤ h1.has0 + x.o.cells; omega, hhas⟩, ?_, ?_, ?_⟩, hch⟩
  · rw [List.pairwise_append]
    exact ⟨hci.apart, by simp, fun a ha b hb => by
      obtain rfl := List.mem_singleton.1 hb
      have := hci.low a ha
      show a.k ≠ h1.nx
      omega⟩
  · intro o ho
    have h2 := hci.nx
    rcases List.mem_append.1 ho with ho | ho
    · have := hci.low o ho
      exact ⟨this.1, by show o.k < h1.nx + 2; omega, this.2.2⟩
    · obtain rfl := List.mem_singleton.1 ho
      exact ⟨h2.1, by show h1.nx < h1.nx + 2; omega, h2.2.1⟩
  · intro o ho ho2
    rcases List.mem_append.1 ho with ho | ho
    · exact hci.old o ho ho2
    · obtain rfl := List.mem_singleton.1 ho
      have : x.o.old = true := ho2
      rw [hold] at this; cases this
  · intro o ho h2 h3 f hf p hp e
    rcases List.mem_append.1 ho with ho | ho
    · rcases List.mem_append.1 hp with hp | hp
      · exact hci.shut o ho h2 h3 f hf p hp e
      · obtain rfl := List.mem_singleton.1 hp
        have e : h1.nx = f := e
        obtain ⟨o', ho', e2, a, r', h4, h5, h6⟩ := hci.chain.mem _ (hci.old o ho h2)
        obtain rfl : o' = o := pw_eq OW.k hci.apart ho' ho e2
        have h7 := hci.nx
        rw [h4] at hf
        simp at hf
        rcases hf with rfl | rfl
        · omega
        · rcases h6 with h6 | h6
          · omega
          · obtain ⟨o2, ho2, e3⟩ := hkk _ h6
            have := hci.low o2 ho2
            omega
    · obtain rfl := List.mem_singleton.1 ho
      have : x.o.old = true := h2
      rw [hold] at this; cases this
  · intro o ho
    rcases List.mem_append.1 ho with ho | ho
    · exact hci.size o ho
    · obtain rfl := List.mem_singleton.1 ho
      exact ⟨by show fs1.length ≤ 2; rw [hf1, List.length_map]; exact hl.2, ht⟩
  · have := hci.len
    show 2 * (((L1 ++ [_]).length : Nat) : Int) ≤ 2 * (n : Int) + (h1.has0 + x.o.cells)
    rw [List.length_append, List.length_singleton, hc]
    omega
  · have := hci.nx
    show 0 < h1.nx + 2 ∧ (h1.nx + 2) % 2 = 0 ∧ h1.nx + 2 ≤ _
    omega
  · have := hci.mm
    show 0 ≤ h1.minor ∧ h1.minor ≤ _ ∧ h1.major = 0
    omega
/-- The root is set to the pair that was made. -/
theorem CI.more {L : List OW} {h : HH} {n m : Nat} {r : Int} {ks : List Int} (c : CI L h n m r ks) {x1 : OW} (hx : x1 ∈ L) (hk : x1.o.kind = 1) (hf : x1.o.fs = [2 * (n : Int) + 1, r]) : CI L (h.setRoot 0 x1.k) (n + 1) m x1.k (x1.k :: ks) :=
  ⟨by unfold HH.setRoot; rw [c.roots]; rfl, ⟨x1, hx, rfl, hk, r, ks, hf, rfl, c.chain⟩, c.apart, c.low, fun o ho hold => by simp [c.old o ho hold], c.shut, c.size, c.room, c.has, by have := c.len; show 2 * (L.length : Int) ≤ 2 * ((n + 1 : Nat) : Int) + h.has0; omega, c.nx, c.mm⟩
theorem CI.there {L : List OW} {h : HH} {n m : Nat} {r : Int} {ks : List Int} (c : CI L h n m r ks) : thereB L r = true := by
  unfold thereB
  rcases c.chain.root with e | e
  · rw [e]; rfl
  · obtain ⟨o, ho, e2, -⟩ := c.chain.mem r e
    rw [show (L.any fun o => decide (o.k = r)) = true from List.any_eq_true.2 ⟨o, ho, by simpa using e2⟩]
    simp
theorem CI.mono {L : List OW} {h : HH} {n m m' : Nat} {r : Int} {ks : List Int} (c : CI L h n m r ks) (hm : m ≤ m') : CI L h n m' r ks :=
  { c with nx := by have := c.nx; omega, mm := by have := c.mm; omega }
theorem CI.start : CI [] { (⟨2, [], 32, 1000, 0, 0, 0, 0, false⟩ : HH) with roots := [] ++ [0] } 0 0 0 [] :=
  ⟨rfl, ⟨rfl, rfl⟩, .nil, by simp, by simp, (fun o ho => absurd ho (by simp)), by simp, ⟨rfl, rfl, rfl⟩, ⟨by decide, by decide⟩, by decide, ⟨by decide, by decide, by decide⟩, ⟨by decide, by decide, rfl⟩⟩
end Go.Proofs.Ytlghnldlkbgajaa.S
