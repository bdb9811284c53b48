/- prims.prims: all primitives, in an array. -/
import Derived.Test.YtcghnahkcjigoaaGreatDoorPPrimsNamesx0
import Derived.Handy
import Derived.WalkSpells
namespace Go.Proofs.YtcghnahkcjigoaaGreatDoor.D
open Go.RowKit Go.Proofs.YtcghnahkcjigoaaGreatDoorW.PrintWords Go.Proofs.YtcghnahkcjigoaaGreatDoorW.PrintLast Go.Proofs.YtcghnahkcjigoaaGreatDoorW.PrintMore
set_option linter.unusedVariables false
set_option linter.unusedSimpArgs false

/-- The primitives: name, least, most, what it does. -/
def PR : List (ByteArray × Int × Int × Value) := [
  (⟨#[43]⟩, 0, 1073741824, .func (.func 13) #[] #[]),
  (⟨#[45]⟩, 1, 1073741824, .func (.func 13) #[] #[]),
  (⟨#[42]⟩, 0, 1073741824, .func (.func 13) #[] #[]),
  (⟨#[113, 117, 111, 116, 105, 101, 110, 116]⟩, 2, 2, .func (.func 14) #[] #[]),
  (⟨#[114, 101, 109, 97, 105, 110, 100, 101, 114]⟩, 2, 2, .func (.func 14) #[] #[]),
  (⟨#[61]⟩, 2, 2, .func (.func 15) #[] #[]),
  (⟨#[60]⟩, 2, 2, .func (.func 15) #[] #[]),
  (⟨#[62]⟩, 2, 2, .func (.func 15) #[] #[]),
  (⟨#[101, 113, 63]⟩, 2, 2, .func (.func 16) #[] #[]),
  (⟨#[101, 113, 117, 97, 108, 63]⟩, 2, 2, .func (.func 17) #[] #[]),
  (⟨#[99, 111, 110, 115]⟩, 2, 2, .func (.func 18) #[] #[]),
  (⟨#[99, 97, 114]⟩, 1, 1, .func (.func 19) #[] #[]),
  (⟨#[99, 100, 114]⟩, 1, 1, .func (.func 19) #[] #[]),
  (⟨#[115, 101, 116, 45, 99, 97, 114, 33]⟩, 2, 2, .func (.func 20) #[] #[]),
  (⟨#[115, 101, 116, 45, 99, 100, 114, 33]⟩, 2, 2, .func (.func 20) #[] #[]),
  (⟨#[110, 117, 108, 108, 63]⟩, 1, 1, .func (.func 21) #[] #[]),
  (⟨#[112, 97, 105, 114, 63]⟩, 1, 1, .func (.func 21) #[] #[]),
  (⟨#[108, 105, 115, 116, 63]⟩, 1, 1, .func (.func 21) #[] #[]),
  (⟨#[110, 117, 109, 98, 101, 114, 63]⟩, 1, 1, .func (.func 21) #[] #[]),
  (⟨#[115, 121, 109, 98, 111, 108, 63]⟩, 1, 1, .func (.func 21) #[] #[]),
  (⟨#[115, 116, 114, 105, 110, 103, 63]⟩, 1, 1, .func (.func 21) #[] #[]),
  (⟨#[118, 101, 99, 116, 111, 114, 63]⟩, 1, 1, .func (.func 21) #[] #[]),
  (⟨#[112, 114, 111, 99, 101, 100, 117, 114, 101, 63]⟩, 1, 1, .func (.func 21) #[] #[]),
  (⟨#[98, 111, 111, 108, 101, 97, 110, 63]⟩, 1, 1, .func (.func 21) #[] #[]),
  (⟨#[110, 111, 116]⟩, 1, 1, .func (.func 21) #[] #[]),
  (⟨#[108, 105, 115, 116]⟩, 0, 1073741824, .func (.func 22) #[] #[]),
  (⟨#[118, 101, 99, 116, 111, 114]⟩, 0, 1073741824, .func (.func 23) #[] #[]),
  (⟨#[108, 101, 110, 103, 116, 104]⟩, 1, 1, .func (.func 24) #[] #[]),
  (⟨#[114, 101, 118, 101, 114, 115, 101]⟩, 1, 1, .func (.func 25) #[] #[]),
  (⟨#[97, 112, 112, 101, 110, 100]⟩, 0, 1073741824, .func (.func 26) #[] #[]),
  (⟨#[118, 101, 99, 116, 111, 114, 45, 114, 101, 102]⟩, 2, 2, .func (.func 27) #[] #[]),
  (⟨#[118, 101, 99, 116, 111, 114, 45, 115, 101, 116, 33]⟩, 3, 3, .func (.func 28) #[] #[]),
  (⟨#[118, 101, 99, 116, 111, 114, 45, 108, 101, 110, 103, 116, 104]⟩, 1, 1, .func (.func 29) #[] #[]),
  (⟨#[109, 97, 107, 101, 45, 118, 101, 99, 116, 111, 114]⟩, 2, 2, .func (.func 30) #[] #[]),
  (⟨#[115, 116, 114, 105, 110, 103, 45, 97, 112, 112, 101, 110, 100]⟩, 0, 1073741824, .func (.func 31) #[] #[]),
  (⟨#[115, 116, 114, 105, 110, 103, 45, 108, 101, 110, 103, 116, 104]⟩, 1, 1, .func (.func 32) #[] #[]),
  (⟨#[115, 116, 114, 105, 110, 103, 45, 62, 115, 121, 109, 98, 111, 108]⟩, 1, 1, .func (.func 32) #[] #[]),
  (⟨#[115, 121, 109, 98, 111, 108, 45, 62, 115, 116, 114, 105, 110, 103]⟩, 1, 1, .func (.func 32) #[] #[]),
  (⟨#[110, 117, 109, 98, 101, 114, 45, 62, 115, 116, 114, 105, 110, 103]⟩, 1, 1, .func (.func 32) #[] #[]),
  (⟨#[115, 116, 114, 105, 110, 103, 45, 62, 110, 117, 109, 98, 101, 114]⟩, 1, 1, .func (.func 32) #[] #[]),
  (⟨#[101, 114, 114, 111, 114]⟩, 1, 1073741824, .func (.func 33) #[] #[]),
  (⟨#[97, 112, 112, 108, 121]⟩, 0, 1073741824, .nilFunc),
  (⟨#[99, 97, 108, 108, 47, 99, 99]⟩, 0, 1073741824, .nilFunc),
  (⟨#[100, 121, 110, 97, 109, 105, 99, 45, 119, 105, 110, 100]⟩, 0, 1073741824, .nilFunc),
  (⟨#[115, 117, 115, 112, 101, 110, 100]⟩, 0, 1073741824, .nilFunc),
  (⟨#[114, 111, 111, 116, 45, 114, 101, 102]⟩, 0, 1073741824, .nilFunc),
  (⟨#[114, 111, 111, 116, 45, 115, 101, 116, 33]⟩, 0, 1073741824, .nilFunc)]
def PV : List Value := PR.flatMap fun p => [.string p.1, .int .i64 p.2.1, .int .i64 p.2.2.1, p.2.2.2]
theorem flat4 {α : Type} (f0 f1 f2 f3 : α → Value) : ∀ (l : List α) (j : Nat) (x : α), l[j]? = some x →
    (l.flatMap fun p => [f0 p, f1 p, f2 p, f3 p])[4 * j]? = some (f0 x) ∧ (l.flatMap fun p => [f0 p, f1 p, f2 p, f3 p])[4 * j + 1]? = some (f1 x) ∧ (l.flatMap fun p => [f0 p, f1 p, f2 p, f3 p])[4 * j + 2]? = some (f2 x) ∧ (l.flatMap fun p => [f0 p, f1 p, f2 p, f3 p])[4 * j + 3]? = some (f3 x)
  | [], j, x, h => by simp at h
  | a :: l, 0, x, h => by
    simp only [List.getElem?_cons_zero, Option.some.injEq] at h
    subst h
    exact ⟨rfl, rfl, rfl, rfl⟩
  | a :: l, j + 1, x, h => by
    simp only [List.getElem?_cons_succ] at h
    have := flat4 f0 f1 f2 f3 l j x h
    simpa [Nat.mul_add, List.flatMap_cons] using this

def NM : List ByteArray := PR.map (·.1)
theorem PV_size : PV.toArray.size = 188 := by kernel_rfl
theorem PR_len : PR.length = 47 := by kernel_rfl
theorem NM_len : NM.length = 47 := by kernel_rfl
theorem PR_at {n : Nat} (hn : n < 47) : ∃ a b f, PR[n]? = some (NM.getD n ByteArray.empty, a, b, f) := by
  have hl : n < PR.length := by rw [PR_len]; exact hn
  refine ⟨PR[n].2.1, PR[n].2.2.1, PR[n].2.2.2, ?_⟩
  rw [List.getElem?_eq_getElem hl]
  simp [NM, List.getD, hl]
theorem PV_at {n : Nat} (hn : n < 47) : ∃ a b f, PV[4 * n]? = some (.string (NM.getD n ByteArray.empty)) ∧ PV[4 * n + 1]? = some (.int .i64 a) ∧ PV[4 * n + 2]? = some (.int .i64 b) ∧ PV[4 * n + 3]? = some f := by
  obtain ⟨a, b, f, h⟩ := PR_at hn
  exact ⟨a, b, f, flat4 (fun p : ByteArray × Int × Int × Value => .string p.1) (fun p => .int .i64 p.2.1) (fun p => .int .i64 p.2.2.1) (fun p => p.2.2.2) PR n _ h⟩
theorem take4 (l : List Value) (m : Nat) (a b c d : Value) (h0 : l[m]? = some a) (h1 : l[m + 1]? = some b) (h2 : l[m + 2]? = some c) (h3 : l[m + 3]? = some d) : List.take 4 (List.drop m l) = [a, b, c, d] := by
  apply List.ext_getElem?
  intro i
  rw [List.getElem?_take]
  match i with
  | 0 => simpa using h0
  | 1 => simpa using h1
  | 2 => simpa using h2
  | 3 => simpa using h3
  | i + 4 => rw [if_neg (by omega)]; simp
theorem prim_at {n : Nat} (hn : n < 47) : ∃ a b f, ∀ w : World, (Instr.index 29 (.agg PV.toArray) (.int .i64 n)).run Tryz.prog w = .ok (.agg #[.string (NM.getD n ByteArray.empty), .int .i64 a, .int .i64 b, f]) w := by
  obtain ⟨a, b, f, h0, h1, h2, h3⟩ := PV_at hn
  refine ⟨a, b, f, fun w => ?_⟩
  have hx := take4 PV (4 * n) _ _ _ _ h0 h1 h2 h3
  have hn' : (n : Int) < 47 := by omega
  simp [Instr.index, run_underlying Tryz.underlying29, go_sem, asIntOf, hn', part, Nat.mul_comm n 4, hx, hn]
end Go.Proofs.YtcghnahkcjigoaaGreatDoor.D
