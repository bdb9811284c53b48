/- scope.Size. -/
import Derived.Test.YtcafjeehllkpiaaHEach
namespace Go.Proofs.Ytcafjeehllkpiaa.D
open Go.RowKit Go.Proofs.YtcafjeehllkpiaaW.PrintWords Go.Proofs.YtcafjeehllkpiaaW.PrintLast Go.Proofs.YtcafjeehllkpiaaW.PrintMore
set_option linter.unusedVariables false
set_option linter.unusedSimpArgs false

/-- A captured whole number: its block. -/
def At (W : World) (g : Nat) (v : Int) : Prop := W.heap[g]? = some (.cells #[.int .i64 v] 3 (0, 0))
theorem at_cell {W : World} {g : Nat} {v : Int} (h : At W g v) : W.cell? ⟨g, 0, none⟩ = some (.int .i64 v) := (blk_cell h 0).trans rfl
theorem at_frozen {W : World} {g : Nat} {v : Int} (h : At W g v) : W.frozen? ⟨g, 0, none⟩ = false := blk_frozen h 0
theorem at_set {W : World} {g : Nat} {v u : Int} (h : At W g v) : At (W.setCell ⟨g, 0, none⟩ (.int .i64 u)) g u := blk_set h 0 (.int .i64 u)

def sizeStep (v : Int) (_ : S34) : Int := wrap64 (v + 1)
set_option maxHeartbeats 1000000 in
theorem size_does (g B : Nat) : DoesAt sizeStep 14 g (fun W v => At W g v) (fun k => k = g) (fun _ => 0) B := by
  intro w0 x v va W hK hF hB hg hm hA
  have hu34 := Try.underlying34
  obtain ⟨A6, c6, A7, c7, A8, c8, rfl, l6, g6, l7, g7, l8, g8⟩ := k34_open hK
  have hlt := blk_lt hA
  have hc : ∀ o : Obj, (W.alloc o).cell? ⟨g, 0, none⟩ = some (.int .i64 v) := fun o => at_cell (blk_alloc hA o)
  have hf : ∀ o : Obj, (W.alloc o).frozen? ⟨g, 0, none⟩ = false := fun o => at_frozen (v := v) (blk_alloc hA o)
  have HA := Aside0.mk hA
  have HB := Aside0.mk hB
  have HG := Aside0.mk (hg g rfl)
  clear hA hB hg hK g6 g7 g8 l6 l7 l8 hm
  show Calls Try.prog 14 #[.agg #[.int .i64 x.f0, .int .i64 x.f1, .int .i64 x.f2, .string x.f3, .int .i64 x.f4.f0, .string x.f4.f1, .slice A6 x.f4.f2.length c6, .slice A7 x.f4.f3.length c7, .slice A8 x.f5.length c8], .pointer (some ⟨g, 0, none⟩)] W _
  go_enter Try.func14, Try.ntmps14
  go_wp2_with fail
  go_end0
  exact ⟨rfl, below_alloc (HB.out.setCell HG.out _) _, blk_alloc (at_set HA.out) _, (Kept.setCell (S := fun k => k = g) (Kept.refl W _) (p := ⟨g, 0, none⟩) (.inl rfl) _).alloc _⟩

theorem size_entry (args : Array Value) (w : World) : (callFunc 14 args).run Try.prog w = .ok (.enter 14 args) w := by
  have h1 : ¬ Try.f14.name = "runtime.NumGoroutine" := of_decide_eq_true (by kernel_rfl)
  have h2 : ¬ Try.f14.body = none := fun h => by have : Try.f14.body.isNone = false := by kernel_rfl
                                                 rw [h] at this; cases this
  simp [callFunc, Try.func14, h1, h2, Sem.run]

mutual
def fitNB : S34 → Bool
  | ⟨_, _, _, t, _, k⟩ => decide (t.size ≤ 9223372036854775807) && decide (k.length ≤ 9223372036854775807) && fitLB k
def fitLB : List S34 → Bool
  | [] => true
  | x :: l => fitNB x && fitLB l
end
theorem fitB_iff (n : Nat) : (∀ x : S34, SizeOf.sizeOf x ≤ n → (fitNB x = true ↔ FitN x)) ∧ (∀ l : List S34, SizeOf.sizeOf l ≤ n → (fitLB l = true ↔ FitL l)) := by
  induction n with
  | zero => exact ⟨fun x h => by cases x; simp at h, fun l h => by cases l <;> simp at h⟩
  | succ n ih =>
    refine ⟨fun x h => ?_, fun l h => ?_⟩
    · obtain ⟨o, a, b, t, d, k⟩ := x
      simp only [S34.mk.sizeOf_spec] at h
      simp only [fitNB, FitN, Bool.and_eq_true, decide_eq_true_eq, ih.2 k (by omega), and_assoc]
    · cases l with
      | nil => simp [fitLB, FitL]
      | cons x l =>
        simp only [List.cons.sizeOf_spec] at h
        simp only [fitLB, FitL, Bool.and_eq_true, ih.1 x (by omega), ih.2 l (by omega)]
theorem fit_of {l : List S34} (h : fitLB l = true) : FitL l := ((fitB_iff _).2 l (Nat.le_refl _)).1 h
theorem of_fit {l : List S34} (h : FitL l) : fitLB l = true := ((fitB_iff _).2 l (Nat.le_refl _)).2 h

def scope_Size.f (l0 : List (S34)) : Option (Int) := if fitLB l0 = true then some (eachL sizeStep l0 0) else none
set_option maxHeartbeats 1000000 in
theorem scope_Size.calls (A0 : Option Addr) (c0 : Nat) (l0 : List (S34)) (r : Int) (w : World) (hr0 : Kd.C k34 w A0 l0.length l0) (hc0 : l0.length ≤ c0) (h : scope_Size.f l0 = some r) :
    Calls Try.prog 7 #[.slice A0 l0.length c0] w fun e w' => e = .returned (.int .i64 r) ∧ Below w.heap.size w w' := by
  have hF : fitLB l0 = true := by
    unfold scope_Size.f at h
    split at h
    · assumption
    · cases h
  unfold scope_Size.f at h
  rw [if_pos hF] at h
  obtain rfl := Option.some.inj h
  have HF := Aside0.mk (fit_of hF)
  clear hF
  have hmf : ∀ (fn : Fn) (first cap : Array Value) (w : World), (Instr.makeFunc fn first cap).run Try.prog w = .ok (.func fn first cap) w := fun _ _ _ _ => rfl
  have HC := Aside0.mk hr0
  clear hr0 h
  go_enter Try.func7, Try.ntmps7
  go_wp2_with fail
  refine (each_at sizeStep 14 w.heap.size (fun W v => At W w.heap.size v) (fun k => k = w.heap.size) (fun _ => 0) (cntL l0 + 1) size_entry (fun W s o h => blk_alloc h o) (fun _ _ => by omega) (size_does _ _) _ l0 (Nat.le_refl _) w A0 c0 0 _ HC.out HF.out (below_alloc (Below.refl _ _) _) (fun k (h : k = w.heap.size) => by omega) (fun k (h : k = w.heap.size) => by subst h; simp) (by simp) (blk_new w _)).mono ?_
  rintro e w1 ⟨rfl, hb, ha, hk⟩
  have hx := at_cell ha
  have HB := Aside0.mk hb
  clear hb ha hk
  go_wp2_with fail
  go_ret
  exact ⟨rfl, HB.out⟩
end Go.Proofs.Ytcafjeehllkpiaa.D
