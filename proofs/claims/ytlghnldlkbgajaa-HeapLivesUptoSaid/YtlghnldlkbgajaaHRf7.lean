
/- heap: the document's heap: reach. -/
import Derived.Test.YtlghnldlkbgajaaHRfB
namespace Go.Proofs.Ytlghnldlkbgajaa.S
open Go.RowKit Go.Proofs.YtlghnldlkbgajaaW.PrintWords Go.Proofs.YtlghnldlkbgajaaW.PrintLast Go.Proofs.YtlghnldlkbgajaaW.PrintMore
set_option linter.unusedVariables false
set_option linter.unusedSimpArgs false
def lenV : Value → Nat
  | .slice _ n _ => n
  | _ => 0
/-- Words in a slice, at whatever place of their row. -/
structure WsAt (w : World) (A : Option Addr) (c : Nat) (ws : List Int) : Prop where
  cap : ws.length ≤ c
  cells : ws ≠ [] → ∃ q off cur, A = some ⟨q, off, none⟩ ∧ w.heap[q]? = some (.cells cur 28 (0, 0)) ∧ ∀ i, i < ws.length → cur[off + i]? = some (.int .i64 (ws.getD i 0))
theorem WsAt.tail {w : World} {q off c : Nat} {a : Int} {ws : List Int} (h : WsAt w (some ⟨q, off, none⟩) c (a :: ws)) : WsAt w (if c = 1 then some ⟨q, off, none⟩ else some ⟨q, off + 1, none⟩) (c - 1) ws := by
  have hc := h.cap
  simp only [List.length_cons] at hc
  refine ⟨by omega, fun hne => ?_⟩
  have hl := List.length_pos_iff.2 hne
  obtain ⟨q', off', cur, e, h1, h2⟩ := h.cells (by simp)
  simp only [Option.some.injEq, Addr.mk.injEq, and_true] at e
  obtain ⟨rfl, rfl⟩ := e
  rw [if_neg (by omega)]
  refine ⟨q, off + 1, cur, rfl, h1, fun i hi => ?_⟩
  have := h2 (i + 1) (by simp; omega)
  rw [show off + 1 + i = off + (i + 1) from by omega, this]
  simp [List.getD]
theorem WsAt.frp {w w' : World} {T : Nat → Prop} {A : Option Addr} {c : Nat} {ws : List Int} (h : WsAt w A c ws) (hf : FrP T w w') (hT : ∀ k cur fr, w.heap[k]? = some (.cells cur 28 fr) → ¬ T k) : WsAt w' A c ws :=
  ⟨h.cap, fun hne => by
    obtain ⟨q, off, cur, e, h1, h2⟩ := h.cells hne
    exact ⟨q, off, cur, e, hf.get h1 (hT q _ _ h1), h2⟩⟩
theorem WsAt.src {w : World} {A : Option Addr} {c : Nat} {ws : List Int} (h : WsAt w A c ws) : ws ≠ [] → ∃ ad, A = some ad ∧ ∀ j, j < ws.length → w.cell? (ad.add j) = some (.int .i64 (ws.getD j 0)) := fun hne => by
  obtain ⟨q, off, cur, e, h1, h2⟩ := h.cells hne
  refine ⟨_, e, fun j hj => ?_⟩
  rw [show (⟨q, off, none⟩ : Addr).add j = ⟨q, off + j, none⟩ from by unfold Addr.add; split <;> simp_all]
  exact (blk_cell h1 _).trans (h2 j hj)
theorem WsAt.ofOwn {w : World} {R : Option Addr} {n rc : Nat} {l : List Int} (h : w.ownsRow 0 28 1 (.slice R n rc) n (l.map (Value.int .i64))) (hn : n = l.length) : WsAt w R rc l := by
  rcases h.2 with ⟨h1, h2⟩ | ⟨q, cap, cur, h1, h2, h3, h4, h5, h6, h7⟩
  · refine ⟨by omega, fun hne => ?_⟩
    have := List.length_pos_iff.2 hne
    omega
  · simp only [Value.slice.injEq] at h1
    obtain ⟨rfl, -, rfl⟩ := h1
    refine ⟨by omega, fun hne => ⟨q, 0, cur, rfl, h3, fun i hi => ?_⟩⟩
    have h8 : (cur.toList.take (n * 1))[i]? = (l.map (Value.int .i64))[i]? := congrArg (fun l : List Value => l[i]?) h7
    rw [List.getElem?_take, if_pos (by omega)] at h8
    rw [Nat.zero_add, ← Array.getElem?_toList, h8]
    simp [List.getD, List.getElem?_eq_getElem hi]
/-- What reach has found, and has yet to look at. -/
structure RInv (L : List OW) (yg : Bool) (ws0 ws : List Int) (out : List OW) : Prop where
  sub : ∀ x ∈ out, x ∈ L
  nd : out.Pairwise fun x y => x.t ≠ y.t
  start : ∀ x ∈ L, x.k ∈ ws0 → (yg = true → x.o.old = false) → x ∈ out ∨ x.k ∈ ws
  shut : ∀ x ∈ out, ∀ y ∈ L, y.k ∈ x.o.fs → (yg = true → y.o.old = false) → y ∈ out ∨ y.k ∈ ws
  least : ∀ K : OW → Prop, (∀ x ∈ L, x.k ∈ ws0 → K x) → (∀ x ∈ L, K x → ∀ y ∈ L, y.k ∈ x.o.fs → K y) → (∀ x ∈ out, K x) ∧ ∀ x ∈ L, x.k ∈ ws → K x
  young : yg = true → ∀ x ∈ out, x.o.old = false
  len : ws.length ≤ ws0.length + 1000 * out.length
theorem RInv.init (L : List OW) (yg : Bool) (ws : List Int) : RInv L yg ws ws [] :=
  ⟨by simp, List.Pairwise.nil, fun x _ h _ => .inr h, by simp, fun K h1 _ => ⟨by simp, h1⟩, by simp, by simp⟩
/-- A word whose object is not to be taken. -/
theorem RInv.skip {L : List OW} {yg : Bool} {ws0 ws out} {a : Int} (h : RInv L yg ws0 (a :: ws) out) (hp : L.Pairwise fun x y => x.k ≠ y.k) (ha : ∀ x ∈ L, x.k = a → (yg = true ∧ x.o.old = true) ∨ x ∈ out) : RInv L yg ws0 ws out := by
  have hd : ∀ x ∈ L, (yg = true → x.o.old = false) → x ∈ out ∨ x.k ∈ a :: ws → x ∈ out ∨ x.k ∈ ws := fun x hx hy hh => by
    rcases hh with hh | hh
    · exact .inl hh
    · rcases List.mem_cons.1 hh with e | e
      · rcases ha x hx e with ⟨h1, h2⟩ | h1
        · rw [hy h1] at h2; cases h2
        · exact .inl h1
      · exact .inr e
  refine ⟨h.sub, h.nd, fun x hx h1 h2 => hd x hx h2 (h.start x hx h1 h2), fun x hx y hy h1 h2 => hd y hy h2 (h.shut x hx y hy h1 h2), fun K h1 h2 => ?_, h.young, ?_⟩
  · have := h.least K h1 h2
    exact ⟨this.1, fun x hx hk => this.2 x hx (by simp [hk])⟩
  · have := h.len
    simp only [List.length_cons] at this
    omega
theorem RInv.add {L : List OW} {yg : Bool} {ws0 ws out} {o : OW} (h : RInv L yg ws0 (o.k :: ws) out) (hp : L.Pairwise fun x y => x.k ≠ y.k) (ho : o ∈ L) (hy : yg = true → o.o.old = false) (hn : ∀ x ∈ out, x.t ≠ o.t) (hf : o.o.fs.length ≤ 1000) : RInv L yg ws0 (ws ++ o.o.fs) (out ++ [o]) := by
  have hd : ∀ x ∈ L, x ∈ out ∨ x.k ∈ o.k :: ws → x ∈ out ++ [o] ∨ x.k ∈ ws ++ o.o.fs := fun x hx hh => by
    rcases hh with hh | hh
    · exact .inl (by simp [hh])
    · rcases List.mem_cons.1 hh with e | e
      · have := pw_eq OW.k hp hx ho e
        exact .inl (by simp [this])
      · exact .inr (by simp [e])
  refine ⟨fun x hx => ?_, ?_, fun x hx h1 h2 => hd x hx (h.start x hx h1 h2), fun x hx y hy h1 h2 => ?_, fun K h1 h2 => ?_, fun e x hx => ?_, ?_⟩
  · rcases List.mem_append.1 hx with hx | hx
    · exact h.sub x hx
    · rw [List.mem_singleton.1 hx]; exact ho
  · rw [List.pairwise_append]
    exact ⟨h.nd, by simp, fun x hx y hy => by rw [List.mem_singleton.1 hy]; exact hn x hx⟩
  · rcases List.mem_append.1 hx with hx | hx
    · exact hd y hy (h.shut x hx y hy h1 h2)
    · rw [List.mem_singleton.1 hx] at h1
      exact .inr (by simp [h1])
  · have h3 := h.least K h1 h2
    have hK : K o := h3.2 o ho (by simp)
    refine ⟨fun x hx => ?_, fun x hx hk => ?_⟩
    · rcases List.mem_append.1 hx with hx | hx
      · exact h3.1 x hx
      · rw [List.mem_singleton.1 hx]; exact hK
    · rcases List.mem_append.1 hk with hk | hk
      · exact h3.2 x hx (by simp [hk])
      · exact h2 o ho hK x hx hk
  · rcases List.mem_append.1 hx with hx | hx
    · exact h.young e x hx
    · rw [List.mem_singleton.1 hx]; exact hy e
  · have := h.len
    simp only [List.length_append, List.length_cons, List.length_nil] at this ⊢
    omega
theorem ts_le {L out : List OW} (hs : ∀ x ∈ out, x ∈ L) (hn : out.Pairwise fun x y => x.t ≠ y.t) : out.length ≤ L.length := by
  have h1 : (out.map (·.t)).Nodup := by
    unfold List.Nodup
    rw [List.pairwise_map]; exact hn
  have h2 : ∀ (l m : List Nat), l.Nodup → (∀ x ∈ l, x ∈ m) → l.length ≤ m.length := by
    intro l
    induction l with
    | nil => intro m _ _; exact Nat.zero_le _
    | cons a l ih =>
      intro m h hs
      rw [List.nodup_cons] at h
      have ha : a ∈ m := hs a (by simp)
      have h1 := ih (m.erase a) h.2 (fun x hx => (List.mem_erase_of_ne (fun e => h.1 (by rw [← e]; exact hx))).2 (hs x (by simp [hx])))
      have h2 := List.length_erase_of_mem ha
      have h3 : 0 < m.length := List.length_pos_of_mem ha
      simp only [List.length_cons]
      omega
  have := h2 _ (L.map (·.t)) h1 (fun x hx => by obtain ⟨y, hy, rfl⟩ := List.mem_map.1 hx; exact List.mem_map.2 ⟨y, hs y hy, rfl⟩)
  simpa using this
/-- What reach found. -/
structure ReachOk (L : List OW) (yg : Bool) (ws0 : List Int) (out : List OW) : Prop where
  sub : ∀ x ∈ out, x ∈ L
  nd : out.Pairwise fun x y => x.t ≠ y.t
  start : ∀ x ∈ L, x.k ∈ ws0 → (yg = true → x.o.old = false) → x ∈ out
  shut : ∀ x ∈ out, ∀ y ∈ L, y.k ∈ x.o.fs → (yg = true → y.o.old = false) → y ∈ out
  least : ∀ K : OW → Prop, (∀ x ∈ L, x.k ∈ ws0 → K x) → (∀ x ∈ L, K x → ∀ y ∈ L, y.k ∈ x.o.fs → K y) → ∀ x ∈ out, K x
  young : yg = true → ∀ x ∈ out, x.o.old = false
theorem RInv.done {L : List OW} {yg : Bool} {ws0 out} (h : RInv L yg ws0 [] out) : ReachOk L yg ws0 out :=
  ⟨h.sub, h.nd, fun x hx h1 h2 => (h.start x hx h1 h2).resolve_right (by simp), fun x hx y hy h1 h2 => (h.shut x hx y hy h1 h2).resolve_right (by simp), fun K h1 h2 => (h.least K h1 h2).1, h.young⟩
section
variable {w : World} {g rc : Nat} {V : Value} {R : Option Addr} {L : List OW} {h : RS}
set_option maxRecDepth 100000 in
set_option maxHeartbeats 2000000 in
theorem reach_calls (H : HR w g V R rc L h) (hL : L.length ≤ 100000) (hfn : ∀ x ∈ L, x.o.Fine) (yg : Bool) {A : Option Addr} {c : Nat} {ws : List Int} (hws : WsAt w A c ws) (hwl : ws.length ≤ 200000000) :
    Calls Try.prog 64 #[ptr g, .slice A ws.length c, .bool yg] w fun e w' => ∃ O oc out, e = .returned (.slice O out.length oc) ∧ Ptrs w' (.slice O out.length oc) out ∧ (∀ k, O = some ⟨k, 0, none⟩ → w.heap.size ≤ k) ∧ ReachOk L yg ws out ∧ Below w.heap.size w w' := by
  have HH := Aside0.mk H
  have HL := Aside0.mk hL
  have HFN := Aside0.mk hfn
  have HW0 := Aside0.mk hws
  have HWL := Aside0.mk hwl
  unfold ptr
  clear H hL hfn hws hwl
  obtain ⟨ws0, hws0⟩ : ∃ l, l = ws := ⟨_, rfl⟩
  rw [← hws0]
  have HI0 := Aside0.mk (RInv.init L yg ws)
  rw [← hws0] at HI0 HWL HW0
  clear hws0 ws
  go_enter Try.func64, Try.ntmps64
  go_wp2_with fail
  go_loopw [1, 7] (fun s v wr => ∃ (ws : List Int) (out : List OW) (A : Option Addr) (c : Nat) (O : Option Addr) (oc : Nat), s = .slice A ws.length c ∧ v = .slice O out.length oc ∧ Aside0 (WsAt wr A c ws) ∧ Aside0 (Ptrs wr (.slice O out.length oc) out ∧ ∀ k, O = some ⟨k, 0, none⟩ → w.heap.size ≤ k) ∧ Aside0 (RInv L yg ws0 ws out) ∧ Aside0 (Below w.heap.size w wr)) (fun s v wr => (L.length - lenV v) * 1002 + lenV s)
  case atStart => exact ⟨ws0, [], A, c, none, 0, rfl, rfl, HW0, ⟨World.ownsRow_nil _ _ _ _, by simp⟩, HI0, ⟨Below.refl _ _⟩⟩
  case round =>
    clear HI0 HW0
    obtain ⟨ws, out, A, c, O, oc, rfl, rfl, HW, HP, HI, HB⟩ := hrel
    have hL := HL.out
    have hwl := HWL.out
    have hln := HI.out.len
    have hol := ts_le HI.out.sub HI.out.nd
    cases ws with
    | nil =>
      go_wp2_with fail
      go_returns
      exact ⟨O, oc, out, rfl, HP.out.1, HP.out.2, HI.out.done, HB.out⟩
    | cons a ws =>
      have hgt : decide ((0 : Int) < (((a :: ws).length : Nat) : Int)) = true := decide_eq_true (by simp)
      simp only [List.length_cons] at hgt hln
      have HLN := Aside0.mk hln
      obtain ⟨q, off, cur, hA, hq, hcur⟩ := HW.out.cells (by simp)
      have hc1 := HW.out.cap
      have q0 : wr.cell? ⟨q, off, none⟩ = some (.int .i64 a) := (blk_cell hq off).trans ((hcur 0 (by simp)).trans rfl)
      subst hA
      have HR0 := Aside0.mk (HH.out.new HB.out)
      have HF := Aside0.mk (rfind_calls HR0.out (by omega) a)
      have HQ := Aside0.mk (And.intro hq hcur)
      have HC1 := Aside0.mk hc1
      rw [List.length_cons]
      clear hq hcur hc1 hln
      unfold ptr at HF
      obtain ⟨S0, hS0⟩ : ∃ S0 : Option Addr, (if c = 1 then some ⟨q, off, none⟩ else some ⟨q, off + 1, none⟩) = S0 := ⟨_, rfl⟩
      have HWT := Aside0.mk (hS0 ▸ HW.out.tail)
      clear HW
      cases hf : fnd L a with
      | none =>
        rw [hf] at HF
        unfold fndV at HF
        have HNX := Aside0.mk (HI.out.skip HH.out.keys (fun x hx e => absurd e (fnd_none hf x hx)))
        clear hf
        go_wp2_with fail
        refine HF.out.mono ?_
        rintro e w1 ⟨rfl, rfl⟩
        clear HF
        go_wp2_with fail
        refine ⟨⟨ws, out, _, c - 1, O, oc, rfl, rfl, HWT, HP, HNX, HB⟩, ?_⟩
        simp [lenV]
      | some o =>
        rw [hf] at HF
        have ho := (fnd_mem hf).1
        have hok := (fnd_mem hf).2
        replace HF : Aside0 (Calls Try.prog 62 #[.pointer (some ⟨g, 0, none⟩), .int .i64 a] wr fun e w' => e = .returned (.pointer (some ⟨o.t, 0, none⟩)) ∧ w' = wr) := HF
        have k4 : wr.cell? ⟨o.t, 4, none⟩ = some (.bool o.o.old) := (blk_cell (HR0.out.q.ob o ho) 4).trans rfl
        have k2 : wr.cell? ⟨o.t, 2, none⟩ = some (.slice o.A o.o.fs.length o.c) := (blk_cell (HR0.out.q.ob o ho) 2).trans rfl
        clear hf
        cases yg with
        | true =>
          cases hold : o.o.old with
          | true =>
            have HNX := Aside0.mk (HI.out.skip HH.out.keys (fun x hx e => .inl ⟨rfl, by rw [pw_eq OW.k HH.out.keys hx ho (e.trans hok.symm)]; exact hold⟩))
            rw [hold] at k4
            clear ho hok
            go_wp2_with fail
            refine HF.out.mono ?_
            rintro e w1 ⟨rfl, rfl⟩
            clear HF
            go_wp2_with fail
            refine ⟨⟨ws, out, _, c - 1, O, oc, rfl, rfl, HWT, HP, HNX, HB⟩, ?_⟩
            simp [lenV]
          | false =>
            rw [hold] at k4
            have YC : true = true → o.o.old = false := fun _ => hold
            have HHS := Aside0.mk (has_calls HP.out.1 (by omega) (fun x hx => ⟨_, _, HR0.out.q.ob x (HI.out.sub x hx)⟩) (t := o.t) ⟨_, _, HR0.out.q.ob o ho⟩)
            unfold ptr at HHS
            cases hhs : hasB out o.t with
            | true =>
              rw [hhs] at HHS
              have hin : o ∈ out := by
                unfold hasB at hhs
                obtain ⟨x, hx, e⟩ := List.any_eq_true.1 hhs
                rw [← HR0.out.q.tsame (HI.out.sub x hx) ho (by simpa using e)]
                exact hx
              have HNX := Aside0.mk (HI.out.skip HH.out.keys (fun x hx e => .inr (by rw [pw_eq OW.k HH.out.keys hx ho (e.trans hok.symm)]; exact hin)))
              clear hhs hin ho hok
              go_wp2_with fail
              refine HF.out.mono ?_
              rintro e w1 ⟨rfl, rfl⟩
              clear HF
              go_wp2_with fail
              refine HHS.out.mono ?_
              rintro e w1 ⟨rfl, rfl⟩
              clear HHS
              go_wp2_with fail
              refine ⟨⟨ws, out, _, c - 1, O, oc, rfl, rfl, HWT, HP, HNX, HB⟩, ?_⟩
              simp [lenV]
            | false =>
              rw [hhs] at HHS
              have hnt : ∀ x ∈ out, x.t ≠ o.t := fun x hx e => by
                unfold hasB at hhs
                have := List.any_eq_false.1 hhs x hx
                simp [e] at this
              rw [← hok] at HI
              have HNX := Aside0.mk (HI.out.add HH.out.keys ho YC hnt (HFN.out o ho).fl)
              have hbL : Below wr.heap.size wr (wr.alloc (.cells #[.pointer (some ⟨o.t, 0, none⟩)] 105)) := (Below.refl _ _).alloc (Nat.le_refl _) _
              obtain ⟨O', oc', wA, hrunP, hpsA, hfA, hblkA⟩ := append_ptr o (HP.out.1.new hbL) (q := wr.heap.size) (c := 1) ((blk_cell (heap_alloc_new wr _) 0).trans rfl) (by omega)
              have hBA : Below w.heap.size w wA := (HB.out.trans (hbL.mono HB.out.size)).trans (hfA.below (Nat.le_trans HB.out.size hbL.size) (fun k hk => HP.out.2 k hk))
              have hroom : 0 + ws.length + o.o.fs.length ≤ 1000000000 := by have := (HFN.out o ho).fl; have := HLN.out; omega
              have hdr := Fr.drew [] wA
              have HRA := (HH.out.new hBA).fr0 hdr
              have kA2 : wA.drew.cell? ⟨o.t, 2, none⟩ = some (.slice o.A o.o.fs.length o.c) := (blk_cell (HRA.q.ob o ho) 2).trans rfl
              have hWA : WsAt wA.drew S0 (c - 1) ws := ((HWT.out.frp (FrP.ofBelow hbL) (fun k cur fr hk => by have := blk_lt hk; omega)).frp hfA (fun k cur fr hk e => by
                rcases (HP.out.1.new hbL).2 with ⟨h1, -⟩ | ⟨qb, cap, cur2, h1, -, h3, -⟩
                · rw [e] at h1; simp at h1
                · rw [e] at h1
                  simp only [Value.slice.injEq, Option.some.injEq, Addr.mk.injEq, and_true] at h1
                  rw [h1.1, h3] at hk; simp at hk)).frp (FrP.ofFr hdr) (fun _ _ _ _ => by simp)
              have hbB : Below wA.drew.heap.size wA.drew (wA.drew.alloc (.cells #[] 28)) := (Below.refl _ _).alloc (Nat.le_refl _) _
              have hWB := hWA.frp (FrP.ofBelow hbB) (fun k cur fr hk => by have := blk_lt hk; omega)
              have HRB := HRA.new hbB
              have own0 : (wA.drew.alloc (.cells #[] 28)).ownsRow 0 28 1 (.slice (some ⟨wA.drew.heap.size, 0, none⟩) 0 0) 0 (([] : List Int).map (Value.int .i64)) := World.ownsRow_made wA.drew #[] 0 (Nat.zero_le _) (Nat.zero_le _) rfl
              obtain ⟨R1, rc1, w1, hrun1, own1, hf1, hblk1⟩ := append_from own0 (A := S0) (c := c - 1) (m := ws) hWB.src (by omega)
              have hB1 : Below wA.drew.heap.size (wA.drew.alloc (.cells #[] 28)) w1 := hf1.below hbB.size (fun k hk => Nat.le_of_eq (by simpa using hk))
              have HR1 := HRA.new (hbB.trans hB1)
              rw [List.nil_append] at own1
              obtain ⟨R2, rc2, w2, hrun2, own2, hf2, hblk2⟩ := append_from own1 (A := o.A) (c := o.c) (m := o.o.fs) (fun hne => by
                obtain ⟨hA, hr⟩ := HR1.q.row o ho hne
                exact ⟨_, hA, fun j hj => by
                  rw [show (⟨o.fb, 0, none⟩ : Addr).add j = ⟨o.fb, j, none⟩ from by unfold Addr.add; split <;> simp_all]
                  exact hr.cell hj⟩) (by omega)
              have kB2 : (wA.drew.alloc (.cells #[] 28)).cell? ⟨o.t, 2, none⟩ = some (.slice o.A o.o.fs.length o.c) := (blk_cell (HRB.q.ob o ho) 2).trans rfl
              have k12 : w1.cell? ⟨o.t, 2, none⟩ = some (.slice o.A o.o.fs.length o.c) := (blk_cell (HR1.q.ob o ho) 2).trans rfl
              have hB2 : Below wA.drew.heap.size w1 w2 := hf2.below (Nat.le_trans hbB.size hB1.size) (fun k hk => by
                rcases hblk1 k hk with e | e
                · have e : wA.drew.heap.size = k := by simpa using e
                  omega
                · have := hbB.size; omega)
              have hBZ : Below w.heap.size w w2 := hBA.trans (Below.mono ((((FrP.ofFr hdr).below (B := wA.heap.size) (Nat.le_refl _) (by simp)).trans (hbB.trans (hB1.trans hB2)))) hBA.size)
              have hpsZ := ((hpsA.frp (FrP.ofFr hdr) (fun _ _ => by simp)).new (hbB.trans (hB1.trans hB2)))
              have hZ := WsAt.ofOwn own2 (by simp)
              simp only [Nat.zero_add] at hrun1 hrun2
              have HPZ := Aside0.mk (And.intro hpsZ (fun k (hk : O' = some ⟨k, 0, none⟩) => (hblkA k hk).elim (HP.out.2 k) (fun e => Nat.le_trans HB.out.size (Nat.le_trans hbL.size e))))
              have HZZ := Aside0.mk hZ
              have HBZ := Aside0.mk hBZ
              have hlz : (ws ++ o.o.fs).length = 0 + ws.length + o.o.fs.length := by simp
              have hloz : (out ++ [o]).length = out.length + 1 := by simp
              have HLZ := Aside0.mk (And.intro hlz (And.intro hloz (HFN.out o ho).fl))
              clear hhs ho hok hnt hBA hpsA hfA hblkA hbL hroom hdr HRA hWA hbB hWB HRB own0 own1 hf1 hblk1 hB1 HR1 own2 hf2 hblk2 hB2 hBZ hpsZ hZ HI YC hlz hloz
              go_wp2_with fail
              refine HF.out.mono ?_
              rintro e w1' ⟨rfl, rfl⟩
              clear HF
              go_wp2_with fail
              refine HHS.out.mono ?_
              rintro e w1' ⟨rfl, rfl⟩
              clear HHS
              go_wp2_with (at_builtin; refine wpList_plain rfl fun K hK => wp_append_words _ _ 81 rfl _ _ _ _ rfl rfl hrunP (hK _ _ ?_))
              refine start_ (n := 9) (S := (fun w' => w'.cell? ⟨o.t, 2, none⟩ = some (.slice o.A o.o.fs.length o.c))) (ds := [7]) #[false, false, false, false, false, false, false, false, false] (by kernel_rfl) rfl rfl kA2 (fun hHeld => ?_)
              refine take_ (i := 1) (N := some 40) (v := ?_) (a' := ?_) #[false, true, false, false, false, false, false, false, false] rfl rfl (by kernel_rfl) (fun _ _ _ h => h) (Or.inl ⟨by rfl, ?_⟩) hHeld ?_ ?_
              rotate_left
              · rintro w' s0
                go_simp
                with_reducible rfl
              rotate_left
              · simp only [Act.put, List.setIfInBounds_toArray, List.set_cons_zero, List.set_cons_succ, i64_w, i32_w]
                rfl
              refine take_ (i := 3) (N := some 42) (v := ?_) (a' := ?_) #[false, true, false, true, false, false, false, false, false] rfl rfl (by kernel_rfl) (fun _ _ _ h => h) (Or.inl ⟨by rfl, ?_⟩) hHeld ?_ ?_
              rotate_left
              · rintro w' s0
                go_simp
                with_reducible rfl
              rotate_left
              · simp only [Act.put, List.setIfInBounds_toArray, List.set_cons_zero, List.set_cons_succ, i64_w, i32_w]
                rfl
              refine take_ (i := 4) (N := some 43) (v := ?_) (a' := ?_) #[false, true, false, true, true, false, false, false, false] rfl rfl (by kernel_rfl) (fun _ _ _ h => h) (Or.inl ⟨by rfl, ?_⟩) hHeld ?_ ?_
              rotate_left
              · rintro w' s0
                go_simp
                with_reducible rfl
              rotate_left
              · simp only [Act.put, List.setIfInBounds_toArray, List.set_cons_zero, List.set_cons_succ, i64_w, i32_w]
                rfl
              refine take_ (i := 5) (N := some 44) (v := ?_) (a' := ?_) #[false, true, false, true, true, true, false, false, false] rfl rfl (by kernel_rfl) (fun _ _ _ h => h) (Or.inl ⟨by rfl, ?_⟩) hHeld ?_ ?_
              rotate_left
              · rintro w' s0
                go_simp
                with_reducible rfl
              rotate_left
              · simp only [Act.put, List.setIfInBounds_toArray, List.set_cons_zero, List.set_cons_succ, i64_w, i32_w]
                rfl
              refine take_ (i := 6) (N := some 45) (v := ?_) (a' := ?_) #[false, true, false, true, true, true, true, false, false] rfl rfl (by kernel_rfl) (fun _ _ _ h => h) (Or.inl ⟨by rfl, ?_⟩) hHeld ?_ ?_
              rotate_left
              · rintro w' s0
                go_simp
                with_reducible rfl
              rotate_left
              · simp only [Act.put, List.setIfInBounds_toArray, List.set_cons_zero, List.set_cons_succ, i64_w, i32_w]
                rfl
              refine one_ (i := 0) (N := some 39) #[true, true, false, true, true, true, true, false, false] rfl rfl (by kernel_rfl) (by decide) (fun K hK => ?_)
              refine value_ (v := .slice (some ⟨wA.drew.heap.size, 0, none⟩) 0 0) (w1 := wA.drew.alloc (.cells #[] 28)) (by rfl) rfl (by first | (go_simp; done) | (go_simp; rfl)) ?_
              refine hK.out _ _ kB2 (fun hHeld => ?_)
              clear hK K
              refine norm_ (a' := ?_) ?_ ?_
              rotate_left
              · show Act.put _ (some 39) _ = _
                simp only [Act.put, List.setIfInBounds_toArray, List.set_cons_zero, List.set_cons_succ, i64_w, i32_w]
                rfl
              refine one_ (i := 2) (N := some 41) #[true, true, true, true, true, true, true, false, false] rfl rfl (by kernel_rfl) (by decide) (fun K hK => ?_)
              rw [if_pos (by rfl)]
              refine wp_append_words (.tmp 39) (.tmp 40) 33 rfl _ _ _ _ rfl rfl hrun1 ?_
              refine hK.out _ _ k12 (fun hHeld => ?_)
              clear hK K
              refine norm_ (a' := ?_) ?_ ?_
              rotate_left
              · show Act.put _ (some 41) _ = _
                simp only [Act.put, List.setIfInBounds_toArray, List.set_cons_zero, List.set_cons_succ, i64_w, i32_w]
                rfl
              refine last_ (i := 7) (N := some 46) #[true, true, true, true, true, true, true, true, false] rfl rfl (by kernel_rfl) (by decide) (fun K hK => ?_)
              rw [if_pos (by rfl)]
              refine wp_append_words (.tmp 41) (.tmp 45) 33 rfl _ _ _ _ rfl rfl hrun2 ?_
              refine hK.out _ _ ?_
              clear hK K
              refine norm_ (a' := ?_) ?_ ?_
              rotate_left
              · show Act.put _ (some 46) _ = _
                simp only [Act.put, List.setIfInBounds_toArray, List.set_cons_zero, List.set_cons_succ, i64_w, i32_w]
                rfl
              refine pure_ (i := 8) (N := some 1) (v := ?_) (a' := ?_) #[true, true, true, true, true, true, true, true, true] rfl rfl (by kernel_rfl) (fun _ _ _ h => h) (Or.inl ⟨by rfl, ?_⟩) ?_ ?_
              rotate_left
              · intro w'
                go_simp
                with_reducible rfl
              rotate_left
              · simp only [Act.put, List.setIfInBounds_toArray, List.set_cons_zero, List.set_cons_succ, i64_w, i32_w]
                rfl
              refine done_ (by kernel_rfl) ?_
              go_wp2_with fail
              have hlz := HLZ.out.1
              have hloz := HLZ.out.2.1
              refine ⟨⟨ws ++ o.o.fs, out ++ [o], R2, rc2, O', oc', by rw [hlz, Nat.zero_add], by rw [hloz], HZZ, ⟨by rw [hloz]; exact HPZ.out⟩, HNX, HBZ⟩, ?_⟩
              have hfl := HLZ.out.2.2
              have hol2 := ts_le HNX.out.sub HNX.out.nd
              rw [hloz] at hol2
              simp [lenV]
              omega
        | false =>
          have YC : false = true → o.o.old = false := fun e => by cases e
          have HHS := Aside0.mk (has_calls HP.out.1 (by omega) (fun x hx => ⟨_, _, HR0.out.q.ob x (HI.out.sub x hx)⟩) (t := o.t) ⟨_, _, HR0.out.q.ob o ho⟩)
          unfold ptr at HHS
          cases hhs : hasB out o.t with
          | true =>
            rw [hhs] at HHS
            have hin : o ∈ out := by
              unfold hasB at hhs
              obtain ⟨x, hx, e⟩ := List.any_eq_true.1 hhs
              rw [← HR0.out.q.tsame (HI.out.sub x hx) ho (by simpa using e)]
              exact hx
            have HNX := Aside0.mk (HI.out.skip HH.out.keys (fun x hx e => .inr (by rw [pw_eq OW.k HH.out.keys hx ho (e.trans hok.symm)]; exact hin)))
            clear hhs hin ho hok
            go_wp2_with fail
            refine HF.out.mono ?_
            rintro e w1 ⟨rfl, rfl⟩
            clear HF
            go_wp2_with fail
            refine HHS.out.mono ?_
            rintro e w1 ⟨rfl, rfl⟩
            clear HHS
            go_wp2_with fail
            refine ⟨⟨ws, out, _, c - 1, O, oc, rfl, rfl, HWT, HP, HNX, HB⟩, ?_⟩
            simp [lenV]
          | false =>
            rw [hhs] at HHS
            have hnt : ∀ x ∈ out, x.t ≠ o.t := fun x hx e => by
              unfold hasB at hhs
              have := List.any_eq_false.1 hhs x hx
              simp [e] at this
            rw [← hok] at HI
            have HNX := Aside0.mk (HI.out.add HH.out.keys ho YC hnt (HFN.out o ho).fl)
            have hbL : Below wr.heap.size wr (wr.alloc (.cells #[.pointer (some ⟨o.t, 0, none⟩)] 105)) := (Below.refl _ _).alloc (Nat.le_refl _) _
            obtain ⟨O', oc', wA, hrunP, hpsA, hfA, hblkA⟩ := append_ptr o (HP.out.1.new hbL) (q := wr.heap.size) (c := 1) ((blk_cell (heap_alloc_new wr _) 0).trans rfl) (by omega)
            have hBA : Below w.heap.size w wA := (HB.out.trans (hbL.mono HB.out.size)).trans (hfA.below (Nat.le_trans HB.out.size hbL.size) (fun k hk => HP.out.2 k hk))
            have hroom : 0 + ws.length + o.o.fs.length ≤ 1000000000 := by have := (HFN.out o ho).fl; have := HLN.out; omega
            have hdr := Fr.drew [] wA
            have HRA := (HH.out.new hBA).fr0 hdr
            have kA2 : wA.drew.cell? ⟨o.t, 2, none⟩ = some (.slice o.A o.o.fs.length o.c) := (blk_cell (HRA.q.ob o ho) 2).trans rfl
            have hWA : WsAt wA.drew S0 (c - 1) ws := ((HWT.out.frp (FrP.ofBelow hbL) (fun k cur fr hk => by have := blk_lt hk; omega)).frp hfA (fun k cur fr hk e => by
              rcases (HP.out.1.new hbL).2 with ⟨h1, -⟩ | ⟨qb, cap, cur2, h1, -, h3, -⟩
              · rw [e] at h1; simp at h1
              · rw [e] at h1
                simp only [Value.slice.injEq, Option.some.injEq, Addr.mk.injEq, and_true] at h1
                rw [h1.1, h3] at hk; simp at hk)).frp (FrP.ofFr hdr) (fun _ _ _ _ => by simp)
            have hbB : Below wA.drew.heap.size wA.drew (wA.drew.alloc (.cells #[] 28)) := (Below.refl _ _).alloc (Nat.le_refl _) _
            have hWB := hWA.frp (FrP.ofBelow hbB) (fun k cur fr hk => by have := blk_lt hk; omega)
            have HRB := HRA.new hbB
            have own0 : (wA.drew.alloc (.cells #[] 28)).ownsRow 0 28 1 (.slice (some ⟨wA.drew.heap.size, 0, none⟩) 0 0) 0 (([] : List Int).map (Value.int .i64)) := World.ownsRow_made wA.drew #[] 0 (Nat.zero_le _) (Nat.zero_le _) rfl
            obtain ⟨R1, rc1, w1, hrun1, own1, hf1, hblk1⟩ := append_from own0 (A := S0) (c := c - 1) (m := ws) hWB.src (by omega)
            have hB1 : Below wA.drew.heap.size (wA.drew.alloc (.cells #[] 28)) w1 := hf1.below hbB.size (fun k hk => Nat.le_of_eq (by simpa using hk))
            have HR1 := HRA.new (hbB.trans hB1)
            rw [List.nil_append] at own1
            obtain ⟨R2, rc2, w2, hrun2, own2, hf2, hblk2⟩ := append_from own1 (A := o.A) (c := o.c) (m := o.o.fs) (fun hne => by
              obtain ⟨hA, hr⟩ := HR1.q.row o ho hne
              exact ⟨_, hA, fun j hj => by
                rw [show (⟨o.fb, 0, none⟩ : Addr).add j = ⟨o.fb, j, none⟩ from by unfold Addr.add; split <;> simp_all]
                exact hr.cell hj⟩) (by omega)
            have kB2 : (wA.drew.alloc (.cells #[] 28)).cell? ⟨o.t, 2, none⟩ = some (.slice o.A o.o.fs.length o.c) := (blk_cell (HRB.q.ob o ho) 2).trans rfl
            have k12 : w1.cell? ⟨o.t, 2, none⟩ = some (.slice o.A o.o.fs.length o.c) := (blk_cell (HR1.q.ob o ho) 2).trans rfl
            have hB2 : Below wA.drew.heap.size w1 w2 := hf2.below (Nat.le_trans hbB.size hB1.size) (fun k hk => by
              rcases hblk1 k hk with e | e
              · have e : wA.drew.heap.size = k := by simpa using e
                omega
              · have := hbB.size; omega)
            have hBZ : Below w.heap.size w w2 := hBA.trans (Below.mono ((((FrP.ofFr hdr).below (B := wA.heap.size) (Nat.le_refl _) (by simp)).trans (hbB.trans (hB1.trans hB2)))) hBA.size)
            have hpsZ := ((hpsA.frp (FrP.ofFr hdr) (fun _ _ => by simp)).new (hbB.trans (hB1.trans hB2)))
            have hZ := WsAt.ofOwn own2 (by simp)
            simp only [Nat.zero_add] at hrun1 hrun2
            have HPZ := Aside0.mk (And.intro hpsZ (fun k (hk : O' = some ⟨k, 0, none⟩) => (hblkA k hk).elim (HP.out.2 k) (fun e => Nat.le_trans HB.out.size (Nat.le_trans hbL.size e))))
            have HZZ := Aside0.mk hZ
            have HBZ := Aside0.mk hBZ
            have hlz : (ws ++ o.o.fs).length = 0 + ws.length + o.o.fs.length := by simp
            have hloz : (out ++ [o]).length = out.length + 1 := by simp
            have HLZ := Aside0.mk (And.intro hlz (And.intro hloz (HFN.out o ho).fl))
            clear hhs ho hok hnt hBA hpsA hfA hblkA hbL hroom hdr HRA hWA hbB hWB HRB own0 own1 hf1 hblk1 hB1 HR1 own2 hf2 hblk2 hB2 hBZ hpsZ hZ HI YC hlz hloz
            go_wp2_with fail
            refine HF.out.mono ?_
            rintro e w1' ⟨rfl, rfl⟩
            clear HF
            go_wp2_with fail
            refine HHS.out.mono ?_
            rintro e w1' ⟨rfl, rfl⟩
            clear HHS
            go_wp2_with (at_builtin; refine wpList_plain rfl fun K hK => wp_append_words _ _ 81 rfl _ _ _ _ rfl rfl hrunP (hK _ _ ?_))
            refine start_ (n := 9) (S := (fun w' => w'.cell? ⟨o.t, 2, none⟩ = some (.slice o.A o.o.fs.length o.c))) (ds := [7]) #[false, false, false, false, false, false, false, false, false] (by kernel_rfl) rfl rfl kA2 (fun hHeld => ?_)
            refine take_ (i := 1) (N := some 40) (v := ?_) (a' := ?_) #[false, true, false, false, false, false, false, false, false] rfl rfl (by kernel_rfl) (fun _ _ _ h => h) (Or.inl ⟨by rfl, ?_⟩) hHeld ?_ ?_
            rotate_left
            · rintro w' s0
              go_simp
              with_reducible rfl
            rotate_left
            · simp only [Act.put, List.setIfInBounds_toArray, List.set_cons_zero, List.set_cons_succ, i64_w, i32_w]
              rfl
            refine take_ (i := 3) (N := some 42) (v := ?_) (a' := ?_) #[false, true, false, true, false, false, false, false, false] rfl rfl (by kernel_rfl) (fun _ _ _ h => h) (Or.inl ⟨by rfl, ?_⟩) hHeld ?_ ?_
            rotate_left
            · rintro w' s0
              go_simp
              with_reducible rfl
            rotate_left
            · simp only [Act.put, List.setIfInBounds_toArray, List.set_cons_zero, List.set_cons_succ, i64_w, i32_w]
              rfl
            refine take_ (i := 4) (N := some 43) (v := ?_) (a' := ?_) #[false, true, false, true, true, false, false, false, false] rfl rfl (by kernel_rfl) (fun _ _ _ h => h) (Or.inl ⟨by rfl, ?_⟩) hHeld ?_ ?_
            rotate_left
            · rintro w' s0
              go_simp
              with_reducible rfl
            rotate_left
            · simp only [Act.put, List.setIfInBounds_toArray, List.set_cons_zero, List.set_cons_succ, i64_w, i32_w]
              rfl
            refine take_ (i := 5) (N := some 44) (v := ?_) (a' := ?_) #[false, true, false, true, true, true, false, false, false] rfl rfl (by kernel_rfl) (fun _ _ _ h => h) (Or.inl ⟨by rfl, ?_⟩) hHeld ?_ ?_
            rotate_left
            · rintro w' s0
              go_simp
              with_reducible rfl
            rotate_left
            · simp only [Act.put, List.setIfInBounds_toArray, List.set_cons_zero, List.set_cons_succ, i64_w, i32_w]
              rfl
            refine take_ (i := 6) (N := some 45) (v := ?_) (a' := ?_) #[false, true, false, true, true, true, true, false, false] rfl rfl (by kernel_rfl) (fun _ _ _ h => h) (Or.inl ⟨by rfl, ?_⟩) hHeld ?_ ?_
            rotate_left
            · rintro w' s0
              go_simp
              with_reducible rfl
            rotate_left
            · simp only [Act.put, List.setIfInBounds_toArray, List.set_cons_zero, List.set_cons_succ, i64_w, i32_w]
              rfl
            refine one_ (i := 0) (N := some 39) #[true, true, false, true, true, true, true, false, false] rfl rfl (by kernel_rfl) (by decide) (fun K hK => ?_)
            refine value_ (v := .slice (some ⟨wA.drew.heap.size, 0, none⟩) 0 0) (w1 := wA.drew.alloc (.cells #[] 28)) (by rfl) rfl (by first | (go_simp; done) | (go_simp; rfl)) ?_
            refine hK.out _ _ kB2 (fun hHeld => ?_)
            clear hK K
            refine norm_ (a' := ?_) ?_ ?_
            rotate_left
            · show Act.put _ (some 39) _ = _
              simp only [Act.put, List.setIfInBounds_toArray, List.set_cons_zero, List.set_cons_succ, i64_w, i32_w]
              rfl
            refine one_ (i := 2) (N := some 41) #[true, true, true, true, true, true, true, false, false] rfl rfl (by kernel_rfl) (by decide) (fun K hK => ?_)
            rw [if_pos (by rfl)]
            refine wp_append_words (.tmp 39) (.tmp 40) 33 rfl _ _ _ _ rfl rfl hrun1 ?_
            refine hK.out _ _ k12 (fun hHeld => ?_)
            clear hK K
            refine norm_ (a' := ?_) ?_ ?_
            rotate_left
            · show Act.put _ (some 41) _ = _
              simp only [Act.put, List.setIfInBounds_toArray, List.set_cons_zero, List.set_cons_succ, i64_w, i32_w]
              rfl
            refine last_ (i := 7) (N := some 46) #[true, true, true, true, true, true, true, true, false] rfl rfl (by kernel_rfl) (by decide) (fun K hK => ?_)
            rw [if_pos (by rfl)]
            refine wp_append_words (.tmp 41) (.tmp 45) 33 rfl _ _ _ _ rfl rfl hrun2 ?_
            refine hK.out _ _ ?_
            clear hK K
            refine norm_ (a' := ?_) ?_ ?_
            rotate_left
            · show Act.put _ (some 46) _ = _
              simp only [Act.put, List.setIfInBounds_toArray, List.set_cons_zero, List.set_cons_succ, i64_w, i32_w]
              rfl
            refine pure_ (i := 8) (N := some 1) (v := ?_) (a' := ?_) #[true, true, true, true, true, true, true, true, true] rfl rfl (by kernel_rfl) (fun _ _ _ h => h) (Or.inl ⟨by rfl, ?_⟩) ?_ ?_
            rotate_left
            · intro w'
              go_simp
              with_reducible rfl
            rotate_left
            · simp only [Act.put, List.setIfInBounds_toArray, List.set_cons_zero, List.set_cons_succ, i64_w, i32_w]
              rfl
            refine done_ (by kernel_rfl) ?_
            go_wp2_with fail
            have hlz := HLZ.out.1
            have hloz := HLZ.out.2.1
            refine ⟨⟨ws ++ o.o.fs, out ++ [o], R2, rc2, O', oc', by rw [hlz, Nat.zero_add], by rw [hloz], HZZ, ⟨by rw [hloz]; exact HPZ.out⟩, HNX, HBZ⟩, ?_⟩
            have hfl := HLZ.out.2.2
            have hol2 := ts_le HNX.out.sub HNX.out.nd
            rw [hloz] at hol2
            simp [lenV]
            omega
end
end Go.Proofs.Ytlghnldlkbgajaa.S
