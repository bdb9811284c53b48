/- scope.Free's contract. -/
import Derived.Test.YtcafjeehllkpiaaHFreeA
namespace Go.Proofs.Ytcafjeehllkpiaa.D
open Go.RowKit Go.Proofs.YtcafjeehllkpiaaW.PrintWords Go.Proofs.YtcafjeehllkpiaaW.PrintLast Go.Proofs.YtcafjeehllkpiaaW.PrintMore
open Go.Maps Go.Sort Go.Shelf
set_option linter.unusedVariables false
set_option linter.unusedSimpArgs false

theorem keys12 (m : Option Nat) (w : World) : Calls Try.prog 12 #[.map m] w fun e w' => e = .returned (.func (.func 17) #[] #[.pointer (some ⟨w.heap.size, 0, none⟩)]) ∧ w' = w.alloc (.cells #[.map m] 28) :=
  callsIn_wide.1 (Try.maps_Keys_12 m w)

def baOf (l : List UInt8) : ByteArray := ⟨l.toArray⟩
theorem encStr_ba (l : List UInt8) : encStr l = .string (baOf l) := rfl

/-- The keys of a set of names, sorted: a rising list of the names, in new memory. -/
theorem sorted12 (acc : List (List UInt8)) (b : Nat) (D : DataW Unit) (w : World) (hown : w.ownsMap Try.prog 9 (plainElem Try.prog 4) b acc.length D) (hmem : ∀ x, has D (.string x) = true ↔ x ∈ acc) (hlen : acc.length * 16 ≤ 140737488355328) :
    Calls Try.prog 11 #[.func (.func 17) #[] #[.pointer (some ⟨w.heap.size, 0, none⟩)]] (w.alloc (.cells #[.map (some b)] 28)) fun e w' => ∃ v : Value, e = .returned v ∧ (∀ base, base ≤ w.heap.size → Kd.R Kd.string 9 w' base (fun _ => True) v ((setL acc).map baOf)) ∧ Below w.heap.size w w' := by
  have hsz := hown.size_le
  refine (callsIn_wide.1 (Try.slices_Sorted_keys_11_12 b acc.length D _ w hown (by unfold maxLen; omega) (by omega))).mono ?_
  rintro e w' ⟨v, ss, rfl, hp, hrow, hnil, hb⟩
  have hset : (setL acc).Perm (strKeys D) := by
    obtain ⟨es, rfl, hpw, _⟩ := hown.entries law
    obtain ⟨es', hD', hko⟩ := hown.keysOf
    obtain rfl : es = es' := by simpa using hD'
    refine perm_strKeys hpw (fun p hp => by obtain ⟨v, hv⟩ := hko p hp; obtain ⟨x, _, hx, _⟩ := Maps.keyOf_str Try.underlying9 hv; exact ⟨x, hx⟩) ?_ (fun x => by rw [mem_setL, hmem x])
    exact List.Pairwise.imp (fun {a b} (hlt : a < b) (e : a = b) => List.lt_irrefl b (e ▸ hlt)) (rising_setL acc)
  have hms : ss.mergeSort (fun x y => decide (x ≤ y)) = setL acc := (mergeSort_of_perm (hp.trans hset.symm)).trans (sorted_rising (rising_setL acc))
  have hll : ss.length = ((setL acc).map baOf).length := by rw [List.length_map]; exact (hp.trans hset.symm).length_eq
  rw [hms] at hrow
  have h1 : (w.alloc (.cells #[.map (some b)] 28)).heap.size = w.heap.size + 1 := by simp
  refine ⟨v, rfl, fun base hbase => ⟨fun _ _ => trivial, (setL acc).map encStr, ?_, ?_, fun j p hj => ?_⟩, ((Below.refl _ w).alloc (Nat.le_refl _) _).trans (hb.mono (by rw [h1]; exact Nat.le_succ _))⟩
  · rw [← hll]
    exact Kd.own_raise hrow (fun k hk => Nat.le_trans (by omega) (own_base hrow k hk))
  · show (List.map encStr (setL acc)).length = ((setL acc).map baOf).length * 1; simp
  · rw [List.getElem?_map] at hj
    obtain ⟨y, hy, rfl⟩ := Option.map_eq_some_iff.1 hj
    show ((List.map encStr (setL acc)).drop (j * 1)).take 1 = [.string (baOf y)]
    have hlt := (List.getElem?_eq_some_iff.1 hy).1
    rw [Nat.mul_one, List.drop_eq_getElem_cons (by simpa using hlt)]
    simp only [List.take_succ_cons, List.take_zero, List.getElem_map, List.cons.injEq, and_true]
    rw [(List.getElem?_eq_some_iff.1 hy).2]
    rfl

theorem freeStep_len (acc : List (List UInt8)) (x : S34) : (freeStep acc x).length ≤ acc.length + 1 := by
  unfold freeStep; split <;> simp

def scope_Free.f (l0 : List (S34)) : Option (List ByteArray) := if fitLB l0 = true ∧ cntL l0 ≤ 1000000000 then some ((setL (eachL freeStep l0 [])).map baOf) else none
set_option maxHeartbeats 1000000 in
theorem scope_Free.calls (A0 : Option Addr) (c0 : Nat) (l0 : List (S34)) (r : List ByteArray) (w : World) (hr0 : Kd.C k34 w A0 l0.length l0) (hc0 : l0.length ≤ c0) (h : scope_Free.f l0 = some r) :
    Calls Try.prog 5 #[.slice A0 l0.length c0] w fun e w' => ∃ v0_ : Value, e = .returned (v0_) ∧ Kd.R Kd.string 9 w' w.heap.size (fun _ => True) v0_ r ∧ Below w.heap.size w w' := by
  have hF : fitLB l0 = true ∧ cntL l0 ≤ 1000000000 := by
    unfold scope_Free.f at h
    split at h
    · assumption
    · cases h
  unfold scope_Free.f at h
  rw [if_pos hF] at h
  obtain rfl := Option.some.inj h
  have HF := Aside0.mk (fit_of hF.1)
  have HN := Aside0.mk hF.2
  clear hF h
  have hmf : ∀ (fn : Fn) (first cap : Array Value) (w : World), (Instr.makeFunc fn first cap).run Try.prog w = .ok (.func fn first cap) w := fun _ _ _ _ => rfl
  have hmm := @run_makeMap Try.prog
  have HC := Aside0.mk hr0
  clear hr0
  go_enter Try.func5, Try.ntmps5
  go_wp2_with fail
  have hA : Met (w.heap.size + 1) w.heap.size ((w.alloc (.map #[] 0)).alloc (.cells #[.map (some w.heap.size)] 28)) [] := ⟨by simpa using blk_new (w.alloc (.map #[] 0)) (.cells #[.map (some w.heap.size)] 28), .map [], (World.ownsMap_made w _ _ _).alloc _, fun x => by simp [has]⟩
  refine (each_at freeStep 10 (w.heap.size + 1) (Met (w.heap.size + 1) w.heap.size) (fun k => k = w.heap.size + 1 ∨ k = w.heap.size) List.length 1000000001 free_entry (fun W s o h => h.alloc o) freeStep_len (free_does _ _ _ (by omega) (by omega)) _ l0 (Nat.le_refl _) w A0 c0 [] _ HC.out HF.out (below_alloc (below_alloc (Below.refl _ _) _) _) (fun k (h : k = w.heap.size + 1 ∨ k = w.heap.size) => by omega) (fun k (h : k = w.heap.size + 1 ∨ k = w.heap.size) => by simp; omega) (by have := HN.out; simp; omega) hA).mono ?_
  rintro e w1 ⟨rfl, hb, ⟨hbox, D, hown, hmem⟩, hk⟩
  have hx : w1.cell? ⟨w.heap.size + 1, 0, none⟩ = some (.map (some w.heap.size)) := (blk_cell hbox 0).trans rfl
  have hl := eachL_m freeStep List.length freeStep_len _ l0 (Nat.le_refl _) []
  have HS := Aside0.mk (sorted12 _ _ D w1 hown hmem (by have := HN.out; simp only [List.length_nil] at hl; omega))
  have HB := Aside0.mk hb
  clear hb hbox hown hmem hk hl hA
  go_wp2_with (first | (go_at_call 12; refine (keys12 _ _).mono ?_; rintro e w' ⟨rfl, rfl⟩) | (go_at_call 11; refine HS.out.mono ?_; rintro e w2 ⟨v, rfl, hR, hb2⟩))
  have HB2 := Aside0.mk (below_step HB.out hb2)
  go_ret
  exact ⟨_, rfl, hR _ HB.out.size, HB2.out⟩
end Go.Proofs.Ytcafjeehllkpiaa.D
