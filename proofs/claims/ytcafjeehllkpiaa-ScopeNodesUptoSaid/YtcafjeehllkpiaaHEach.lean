/- scope.each with a function value that turns a state of its own; scope.Size. -/
import Derived.Test.YtcafjeehllkpiaaDx0
import Derived.Handy
namespace Go.Proofs.Ytcafjeehllkpiaa.D
open Go.RowKit Go.Proofs.YtcafjeehllkpiaaW.PrintWords Go.Proofs.YtcafjeehllkpiaaW.PrintLast Go.Proofs.YtcafjeehllkpiaaW.PrintMore
set_option linter.unusedVariables false
set_option linter.unusedSimpArgs false

theorem rd_mem {l : List S34} {i : Nat} (h : i < l.length) : rd_T34 l i ∈ l := by
  simp only [rd_T34, Int.toNat_natCast, List.getD_eq_getElem?_getD, List.getElem?_eq_getElem h, Option.getD_some]
  exact List.getElem_mem h
theorem rd_cast {l : List S34} {i : Nat} (h : i < l.length) : rd_T34 l (i : Int) = l[i] := by
  simp only [rd_T34, Int.toNat_natCast, List.getD_eq_getElem?_getD, List.getElem?_eq_getElem h, Option.getD_some]

section
variable {σ : Type} (step : σ → S34 → σ)
mutual
def eachN : S34 → σ → σ
  | ⟨o, a, b, t, d, k⟩, s => eachL k (step s ⟨o, a, b, t, d, k⟩)
def eachL : List S34 → σ → σ
  | [], s => s
  | x :: l, s => eachL l (eachN x s)
end
end
mutual
def cntN : S34 → Nat
  | ⟨_, _, _, _, _, k⟩ => cntL k + 1
def cntL : List S34 → Nat
  | [] => 0
  | x :: l => cntN x + cntL l
end
mutual
/-- Its texts and lists are within the reach. -/
def FitN : S34 → Prop
  | ⟨_, _, _, t, _, k⟩ => t.size ≤ 9223372036854775807 ∧ k.length ≤ 9223372036854775807 ∧ FitL k
def FitL : List S34 → Prop
  | [] => True
  | x :: l => FitN x ∧ FitL l
end
theorem FitL_iff (l : List S34) : FitL l ↔ ∀ x ∈ l, FitN x := by
  induction l with
  | nil => simp [FitL]
  | cons a l ih => simp [FitL, ih]
theorem FitN_open {x : S34} (h : FitN x) : x.f3.size ≤ 9223372036854775807 ∧ x.f5.length ≤ 9223372036854775807 ∧ FitL x.f5 := by cases x; simpa [FitN] using h
theorem FitL_at {l : List S34} (h : FitL l) {i : Nat} (hi : i < l.length) : FitN (rd_T34 l i) := (FitL_iff l).1 h _ (rd_mem hi)
theorem cntL_append (l m : List S34) : cntL (l ++ m) = cntL l + cntL m := by
  induction l with
  | nil => simp [cntL]
  | cons a l ih => simp only [List.cons_append, cntL, ih]; omega
theorem cntL_take (l : List S34) (i : Nat) (h : i < l.length) : cntL (l.take i) + cntN (rd_T34 l i) + cntL (l.drop (i + 1)) = cntL l := by
  have h1 : l = l.take i ++ (l[i] :: l.drop (i + 1)) := by rw [← List.drop_eq_getElem_cons h, List.take_append_drop]
  have h2 := congrArg cntL h1
  rw [cntL_append] at h2
  simp only [cntL] at h2
  rw [rd_cast h]
  omega
theorem cntN_eq (x : S34) : cntN x = cntL x.f5 + 1 := by cases x; simp [cntN]

section
variable {σ : Type} (step : σ → S34 → σ)
theorem eachN_eq (x : S34) (s : σ) : eachN step x s = eachL step x.f5 (step s x) := by cases x; simp [eachN]
theorem eachL_snoc (l : List S34) (x : S34) : ∀ s : σ, eachL step (l ++ [x]) s = eachN step x (eachL step l s) := by
  induction l with
  | nil => intro s; simp [eachL]
  | cons b l ih => intro s; simp only [List.cons_append, eachL, ih]
theorem eachL_take (l : List S34) (i : Nat) (h : i < l.length) (s : σ) : eachL step (l.take (i + 1)) s = eachL step (rd_T34 l i).f5 (step (eachL step (l.take i) s) (rd_T34 l i)) := by
  rw [List.take_succ_eq_append_getElem h, eachL_snoc, rd_cast h, eachN_eq]

theorem eachL_m (m : σ → Nat) (hm : ∀ s x, m (step s x) ≤ m s + 1) (n : Nat) : ∀ l : List S34, SizeOf.sizeOf l ≤ n → ∀ s, m (eachL step l s) ≤ m s + cntL l := by
  induction n with
  | zero => intro l h; cases l <;> simp at h
  | succ n ih =>
    intro l hn s
    cases l with
    | nil => simp [eachL, cntL]
    | cons x l =>
      simp only [eachL, cntL, eachN_eq, cntN_eq]
      simp only [List.cons.sizeOf_spec] at hn
      have h1 := ih l (by omega) (eachL step x.f5 (step s x))
      have h2 := ih x.f5 (by cases x; simp only [S34.mk.sizeOf_spec] at *; omega) (step s x)
      have h3 := hm s x
      omega

/-- What a function value does that is handed a node: it turns its own state. -/
def DoesAt (fc g : Nat) (St : World → σ → Prop) (S : Nat → Prop) (m : σ → Nat) (B : Nat) : Prop := ∀ (w0 : World) (x : S34) (s : σ) (va : List Value) (W : World), k34.K w0 x va → FitN x → Below w0.heap.size w0 W → (∀ k, S k → w0.heap.size ≤ k) → m s < B → St W s →
  Calls Try.prog fc #[.agg va.toArray, .pointer (some ⟨g, 0, none⟩)] W fun e W' => e = .returned (.tuple #[]) ∧ Below w0.heap.size w0 W' ∧ St W' (step s x) ∧ Kept W W' S

def EachAt (fc g : Nat) (St : World → σ → Prop) (S : Nat → Prop) (m : σ → Nat) (B : Nat) (l : List S34) : Prop := ∀ (w0 : World) (A : Option Addr) (c : Nat) (s : σ) (W : World), k34.C w0 A l.length l → FitL l → Below w0.heap.size w0 W → (∀ k, S k → w0.heap.size ≤ k) → (∀ k, S k → k < W.heap.size) → m s + cntL l ≤ B → St W s →
  Calls Try.prog 9 #[.slice A l.length c, .func (.func fc) #[] #[.pointer (some ⟨g, 0, none⟩)]] W fun e W' => e = .returned (.tuple #[]) ∧ Below w0.heap.size w0 W' ∧ St W' (eachL step l s) ∧ Kept W W' S

set_option maxHeartbeats 2000000 in
set_option maxRecDepth 100000 in
theorem each_at (fc g : Nat) (St : World → σ → Prop) (S : Nat → Prop) (m : σ → Nat) (B : Nat) (hcf : ∀ (args : Array Value) (w : World), (callFunc fc args).run Try.prog w = .ok (.enter fc args) w)
    (hal : ∀ W s o, St W s → St (W.alloc o) s) (hm : ∀ s x, m (step s x) ≤ m s + 1) (hdo : DoesAt step fc g St S m B) (n : Nat) : ∀ l : List S34, SizeOf.sizeOf l ≤ n → EachAt step fc g St S m B l := by
  induction n with
  | zero => intro l h; cases l <;> simp at h
  | succ n ih =>
    intro l hn w0 A c s W hC hFit hB hS hS2 hmb hA
    have hu34 := Try.underlying34
    have hK : ∀ i : Nat, i < l.length → EachAt step fc g St S m B (rd_T34 l i).f5 := fun i h => ih _ (by
      have := List.sizeOf_lt_of_mem (rd_mem h)
      generalize rd_T34 l i = x at this ⊢
      cases x
      simp only [S34.mk.sizeOf_spec] at this ⊢
      omega)
    have hml := Kd.C_max hC
    have HI := Aside0.mk hK
    have HD := Aside0.mk hdo
    have HC := Aside0.mk hC
    have HF := Aside0.mk hFit
    have HA := Aside0.mk hA
    have HB := Aside0.mk hB
    have HS := Aside0.mk hS
    have HS2 := Aside0.mk hS2
    have HM := Aside0.mk hmb
    have HAL := Aside0.mk hal
    have Hm := Aside0.mk hm
    clear ih hK hdo hC hFit hA hB hS hS2 hmb hal hm hn
    go_enter Try.func9, Try.ntmps9
    go_wp2_with fail
    go_loopw [8] (fun v8 wr => ∃ i : Nat, v8 = .int .i64 i ∧ Aside0 (i ≤ l.length) ∧ Aside0 (Below w0.heap.size w0 wr) ∧ Aside0 (St wr (eachL step (l.take i) s)) ∧ Aside0 (Kept W wr S)) (fun v8 wr => l.length - (intOf v8).toNat)
    case atStart => exact ⟨0, rfl, ⟨Nat.zero_le _⟩, HB, HA, ⟨Kept.refl _ _⟩⟩
    case round =>
      clear HB HA
      obtain ⟨i, rfl, hi, HB, HA, HK⟩ := hrel
      by_cases hlt : i < l.length
      · have hlt' : ((i : Int) < (l.length : Int)) := by omega
        have hltb : decide ((i : Int) < (l.length : Int)) = true := decide_eq_true hlt'
        have HML := Aside0.mk (show m (eachL step (l.take i) s) + 1 + cntL (rd_T34 l i).f5 ≤ B by
          have h1 := eachL_m step m Hm.out _ (l.take i) (Nat.le_refl _) s
          have h2 := cntL_take l i hlt
          have h3 := HM.out
          rw [cntN_eq] at h2
          omega)
        obtain ⟨ad, A6, c6, A7, c7, A8, c8, e1, x0, x1, x2, x3, x4, x5, x6, x7, x8, l6, g6, l7, g7, l8, g8⟩ := at_T34 HC.out i (by omega) (by omega)
        cases e1
        have HX := Aside0.mk (k34_mk w0 (rd_T34 l i) l6 g6 l7 g7 l8 g8)
        have G8 := Aside0.mk g8
        clear l6 g6 l7 g7 l8 g8
        simp only [Int.toNat_natCast] at x0 x1 x2 x3 x4 x5 x6 x7 x8
        replace x0 := (HB.out.cell (World.block_lt_of_cell? w0 _ x0)).trans x0
        replace x1 := (HB.out.cell (World.block_lt_of_cell? w0 _ x1)).trans x1
        replace x2 := (HB.out.cell (World.block_lt_of_cell? w0 _ x2)).trans x2
        replace x3 := (HB.out.cell (World.block_lt_of_cell? w0 _ x3)).trans x3
        replace x4 := (HB.out.cell (World.block_lt_of_cell? w0 _ x4)).trans x4
        replace x5 := (HB.out.cell (World.block_lt_of_cell? w0 _ x5)).trans x5
        replace x6 := (HB.out.cell (World.block_lt_of_cell? w0 _ x6)).trans x6
        replace x7 := (HB.out.cell (World.block_lt_of_cell? w0 _ x7)).trans x7
        replace x8 := (HB.out.cell (World.block_lt_of_cell? w0 _ x8)).trans x8
        go_wp2_with fail
        clear x0 x1 x2 x3 x4 x5 x6 x7 x8
        refine (HD.out w0 (rd_T34 l i) _ [_, _, _, _, _, _, _, _, _] _ HX.out (FitL_at HF.out hlt) (below_alloc HB.out _) HS.out (by have := HML.out; omega) (HAL.out _ _ _ HA.out)).mono ?_
        rintro e w1 ⟨rfl, hb1, ha1, hk1⟩
        have hbx := blk_kept (blk_new wr _) hk1 (fun h => by have := HS2.out _ h; have := HK.out.1; omega)
        have HB1 := Aside0.mk hb1
        have HA1 := Aside0.mk ha1
        have HK1 := Aside0.mk ((HK.out.alloc _).then_ hk1 (fun _ h => .inl h))
        have hx8 : w1.cell? ⟨wr.heap.size, 8, none⟩ = some (.slice A8 (rd_T34 l i).f5.length c8) := (blk_cell hbx 8).trans rfl
        clear hb1 ha1 hk1 hbx
        go_wp2_with fail
        clear hx8
        refine (HI.out i hlt w0 _ _ _ _ G8.out (FitN_open (FitL_at HF.out hlt)).2.2 HB1.out HS.out (fun k h => by have := HS2.out k h; have := HK1.out.1; omega) (by have := HML.out; have := Hm.out (eachL step (l.take i) s) (rd_T34 l i); omega) HA1.out).mono ?_
        rintro e w2 ⟨rfl, hb2, ha2, hk2⟩
        rw [← eachL_take step l i hlt] at ha2
        have HB2 := Aside0.mk hb2
        have HA2 := Aside0.mk ha2
        have HK2 := Aside0.mk (HK1.out.then_ hk2 (fun _ h => .inl h))
        clear hb2 ha2 hk2 HK1 HA1 HB1 HX G8 HML
        go_wp2_with fail
        go_roundw
        case rel => exact ⟨i + 1, by go_num, ⟨hlt⟩, HB2, HA2, HK2⟩
        case measure => simp [intOf]; omega
      · have hltb : decide ((i : Int) < (l.length : Int)) = false := decide_eq_false (by omega)
        have HA3 : Aside0 (St wr (eachL step l s)) := ⟨by have := HA.out; rw [List.take_of_length_le (by omega)] at this; exact this⟩
        clear HA
        go_wp2_with fail
        go_end0
        exact ⟨rfl, HB.out, HA3.out, HK.out⟩
end
end Go.Proofs.Ytcafjeehllkpiaa.D
