/- The reference's sums and differences, and its text of digits. The reference's text of digits, and its sums and differences whole. The reference's text: the numeral of the value, or too big. The reference's Add and Sub whole. -/
import Derived.Test.YtlnneellihkdkaaDoorDx21
import Derived.Test.YtlnneellihkdkaaDoorDx23
import Derived.Test.YtlnneellihkdkaaDoorHNumA
import Derived.Test.YtlnneellihkdkaaDoorHText
namespace Go.Proofs.YtlnneellihkdkaaDoor.D
open Go.RowKit Go.Proofs.YtlnneellihkdkaaDoorW.PrintWords Go.Proofs.YtlnneellihkdkaaDoorW.PrintLast Go.Proofs.YtlnneellihkdkaaDoorW.PrintMore
set_option linter.unusedVariables false
set_option linter.unusedSimpArgs false

theorem w64_id {x : Int} (h0 : -9223372036854775808 ≤ x) (h1 : x ≤ 9223372036854775807) : wrap64 x = x := by unfold wrap64; omega
theorem plus_l0_ref (a b : List Int) (ha : OkB 10 a) (hb : OkB 10 b) (N : Nat) (hN : N ≤ 1000000000) (d : Nat) : ∀ i : Nat, N - i = d → i ≤ N → ∀ (acc : List Int) (c : Int), acc.length = i → 0 ≤ c ∧ c ≤ 1 →
    Ev (fun k => rostrumref09_plus.l0 k a b acc c (N : Int) i) (acc ++ plusS 10 a b d i c) := by
  induction d with
  | zero =>
    intro i hd hi acc c hl hc
    refine Ev.step (f := fun _ => some acc) (fun k => ?_) (by simpa [plusS] using Ev.now acc)
    simp only [rostrumref09_plus.l0]
    rw [if_neg (by omega)]
  | succ d ih =>
    intro i hd hi acc c hl hc
    have hx := getD_ok (by decide : (1 : Int) ≤ 10) ha i
    have hy := getD_ok (by decide : (1 : Int) ≤ 10) hb i
    have hcs := carry_small 10 _ _ c (by decide) hx hy hc
    have h1 : wrap64 (c + wrap64 (a.getD i 0 + b.getD i 0)) = a.getD i 0 + b.getD i 0 + c := by
      rw [w64_id (x := a.getD i 0 + b.getD i 0) (by omega) (by omega), w64_id (by omega) (by omega)]
      omega
    have := ih (i + 1) (by omega) (by omega) (acc ++ [(a.getD i 0 + b.getD i 0 + c) % 10]) ((a.getD i 0 + b.getD i 0 + c) / 10) (by simp [hl]) hcs
    rw [List.append_assoc, List.singleton_append] at this
    refine Ev.step (fun k => ?_) (show Ev _ (acc ++ plusS 10 a b (d + 1) i c) from this)
    simp only [rostrumref09_plus.l0]
    rw [if_pos (by omega)]
    simp only [at_nat, Option.bind_some]
    rw [if_pos (by omega), h1, w64_id (x := (i : Int) + 1) (by omega) (by omega)]
    have t1 : Int.tmod (a.getD i 0 + b.getD i 0 + c) 10 = (a.getD i 0 + b.getD i 0 + c) % 10 := Int.tmod_eq_emod_of_nonneg (by omega)
    have t2 : Int.tdiv (a.getD i 0 + b.getD i 0 + c) 10 = (a.getD i 0 + b.getD i 0 + c) / 10 := Int.tdiv_eq_ediv_of_nonneg (by omega)
    rw [t1, t2, w64_id (by omega) (by omega)]
    rfl
theorem plus_ref_ev (a b : List Int) (ha : OkB 10 a) (hb : OkB 10 b) (hla : a.length ≤ 100000000) (hlb : b.length ≤ 100000000) : Ev (fun k => rostrumref09_plus.f k a b) (plusS 10 a b (max a.length b.length + 1) 0 0) := by
  have := plus_l0_ref a b ha hb (max a.length b.length + 1) (by omega) _ 0 rfl (Nat.zero_le _) [] 0 rfl (by omega)
  rw [List.nil_append] at this
  refine Ev.congr (fun k => ?_) this
  simp only [rostrumref09_plus.f]
  rw [mx_nat, w64_id (by omega) (by omega)]
  rfl
theorem minus_l0_ref (a b : List Int) (ha : OkB 10 a) (hb : OkB 10 b) (N : Nat) (hN : N ≤ 1000000000) (d : Nat) : ∀ i : Nat, N - i = d → i ≤ N → ∀ (acc : List Int) (h : Int), acc.length = i → 0 ≤ h ∧ h ≤ 1 →
    Ev (fun k => rostrumref09_minus.l0 k a b acc h (N : Int) i) (acc ++ minusS 10 a b d i h) := by
  induction d with
  | zero =>
    intro i hd hi acc c hl hc
    refine Ev.step (f := fun _ => some acc) (fun k => ?_) (by simpa [minusS] using Ev.now acc)
    simp only [rostrumref09_minus.l0]
    rw [if_neg (by omega)]
  | succ d ih =>
    intro i hd hi acc h hl hh
    have hx := getD_ok (by decide : (1 : Int) ≤ 10) ha i
    have hy := getD_ok (by decide : (1 : Int) ≤ 10) hb i
    have h1 : wrap64 (wrap64 (a.getD i 0 - b.getD i 0) - h) = a.getD i 0 - b.getD i 0 - h := by
      rw [w64_id (x := a.getD i 0 - b.getD i 0) (by omega) (by omega), w64_id (by omega) (by omega)]
    simp only [minusS]
    split
    · rename_i hneg
      have := ih (i + 1) (by omega) (by omega) (acc ++ [a.getD i 0 - b.getD i 0 - h + 10]) 1 (by simp [hl]) (by omega)
      rw [List.append_assoc, List.singleton_append] at this
      refine Ev.step (fun k => ?_) this
      simp only [rostrumref09_minus.l0]
      rw [if_pos (by omega)]
      simp only [at_nat, Option.bind_some]
      rw [h1, if_pos hneg, if_pos (by omega), w64_id (x := (i : Int) + 1) (by omega) (by omega), w64_id (by omega) (by omega)]
      rfl
    · rename_i hneg
      have := ih (i + 1) (by omega) (by omega) (acc ++ [a.getD i 0 - b.getD i 0 - h]) 0 (by simp [hl]) (by omega)
      rw [List.append_assoc, List.singleton_append] at this
      refine Ev.step (fun k => ?_) this
      simp only [rostrumref09_minus.l0]
      rw [if_pos (by omega)]
      simp only [at_nat, Option.bind_some]
      rw [h1, if_neg hneg, if_pos (by omega), w64_id (x := (i : Int) + 1) (by omega) (by omega)]
      rfl
theorem minus_ref_ev (a b : List Int) (ha : OkB 10 a) (hb : OkB 10 b) (hla : a.length ≤ 100000000) (hlb : b.length ≤ 100000000) : Ev (fun k => rostrumref09_minus.f k a b) (minusS 10 a b (max a.length b.length) 0 0) := by
  have := minus_l0_ref a b ha hb (max a.length b.length) (by omega) _ 0 rfl (Nat.zero_le _) [] 0 rfl (by omega)
  rw [List.nil_append] at this
  refine Ev.congr (fun k => ?_) this
  simp only [rostrumref09_minus.f]
  rw [mx_nat]
  rfl
end Go.Proofs.YtlnneellihkdkaaDoor.D
namespace Go.Proofs.YtlnneellihkdkaaDoor.D
open Go.RowKit Go.Proofs.YtlnneellihkdkaaDoorW.PrintWords Go.Proofs.YtlnneellihkdkaaDoorW.PrintLast Go.Proofs.YtlnneellihkdkaaDoorW.PrintMore
set_option linter.unusedVariables false
set_option linter.unusedSimpArgs false

def chU (x : Int) : UInt8 := UInt8.ofNat (48 + x.toNat)
def upD (l : List Int) : Nat → List UInt8
  | 0 => []
  | m + 1 => chU (l.getD m 0) :: upD l m
def upI (l : List Int) : Nat → List Int
  | 0 => []
  | m + 1 => (wrap64 (48 + l.getD m 0)) % 256 :: upI l m
theorem upD_len (l : List Int) (m : Nat) : (upD l m).length = m := by
  induction m with
  | zero => rfl
  | succ m ih => simp [upD, ih]
theorem upI_len (l : List Int) (m : Nat) : (upI l m).length = m := by
  induction m with
  | zero => rfl
  | succ m ih => simp [upI, ih]
theorem upI_map (l : List Int) (h : OkB 10 l) (m : Nat) : (upI l m).map (fun n => UInt8.ofNat n.toNat) = upD l m := by
  induction m with
  | zero => rfl
  | succ m ih =>
    have hx := getD_ok (by decide : (1 : Int) ≤ 10) h m
    simp only [upI, upD, List.map_cons, ih]
    congr 1
    unfold chU wrap64
    congr 1
    omega
theorem chU_nat {x : Int} (h : 0 ≤ x ∧ x < 10) : (chU x).toNat = 48 + x.toNat := N.u8_of (by omega)
theorem upD_all (l : List Int) (h : OkB 10 l) (m : Nat) : (upD l m).all N.digU = true := by
  induction m with
  | zero => rfl
  | succ m ih =>
    have hx := getD_ok (by decide : (1 : Int) ≤ 10) h m
    have := chU_nat hx
    simp only [upD, List.all_cons, ih, Bool.and_true, N.digU, Bool.and_eq_true, decide_eq_true_eq]
    omega
theorem upD_val (l : List Int) (h : OkB 10 l) (m : Nat) : (N.dv (upD l m) : Int) = vB 10 (l.take m) := by
  induction m with
  | zero => rfl
  | succ m ih =>
    have hx := getD_ok (by decide : (1 : Int) ≤ 10) h m
    have hc := chU_nat hx
    have e : N.dv [chU (l.getD m 0)] = (l.getD m 0).toNat := by
      have e0 : N.dv [chU (l.getD m 0)] = 0 * 10 + ((chU (l.getD m 0)).toNat - 48) := rfl
      rw [e0, hc]
      omega
    rw [vB_take, ← ih, show upD l (m + 1) = [chU (l.getD m 0)] ++ upD l m from rfl, dv_app, e, upD_len]
    have e2 : (((l.getD m 0).toNat : Nat) : Int) = l.getD m 0 := by omega
    rw [Int.natCast_add, Int.natCast_mul, e2, Int.natCast_pow, Int.mul_comm, Int.add_comm]
    rfl
theorem upD_dec (l : List Int) (h : OkB 10 l) (m : Nat) (hm : 1 ≤ m) (ht : m = 1 ∨ l.getD (m - 1) 0 ≠ 0) : Lib.decDigits (vB 10 (l.take m)).toNat = upD l m := by
  have hv := upD_val l h m
  rw [show (vB 10 (l.take m)).toNat = N.dv (upD l m) by omega]
  refine N.dec_dv _ _ rfl (by intro e; have := upD_len l m; rw [e] at this; simp at this; omega) (upD_all l h m) ?_
  intro hh
  rw [upD_len]
  rcases ht with ht | ht
  · exact ht
  · exfalso
    obtain ⟨n, rfl⟩ : ∃ n, m = n + 1 := ⟨m - 1, by omega⟩
    have hx := getD_ok (by decide : (1 : Int) ≤ 10) h n
    have hc := chU_nat hx
    simp only [upD, List.head?_cons, Option.some.injEq] at hh
    rw [hh] at hc
    simp only [Nat.add_sub_cancel] at ht
    have : (48 : UInt8).toNat = 48 := rfl
    omega

theorem text_l1_ref (l : List Int) (neg : Bool) (hl : l.length ≤ 1000000) (m : Nat) : ∀ acc : List Int, m ≤ l.length → acc.length + m ≤ 2000000 → Ev (fun k => rostrumref09_big_text.l1 k acc ((m : Int) - 1) l neg) (strOfNums (acc ++ upI l m), (0 : Int)) := by
  induction m with
  | zero =>
    intro acc hm ha
    refine Ev.step (f := fun _ => some (strOfNums acc, (0 : Int))) (fun k => ?_) (by simpa [upI] using Ev.now (strOfNums acc, (0 : Int)))
    simp only [rostrumref09_big_text.l1]
    rw [if_neg (by omega)]
  | succ m ih =>
    intro acc hm ha
    have := ih (acc ++ [(wrap64 (48 + l.getD m 0)) % 256]) (by omega) (by simp; omega)
    rw [List.append_assoc, List.singleton_append] at this
    refine Ev.step (fun k => ?_) (show Ev _ (strOfNums (acc ++ upI l (m + 1)), (0 : Int)) from this)
    simp only [rostrumref09_big_text.l1]
    rw [show ((m + 1 : Nat) : Int) - 1 = (m : Int) by omega, if_pos (by omega), if_pos (by omega), if_pos (by omega), if_pos (by omega), show rd l (m : Int) = l.getD m 0 from by unfold rd; rw [Int.toNat_natCast], w64_id (x := (m : Int) - 1) (by omega) (by omega)]
def ansP (z : Int) : ByteArray × Int := if (Lib.decDigits z.natAbs).length ≤ 200 then (baU (Lib.itoa z), 0) else (⟨#[]⟩, 91)
theorem strip_ref (l : List Int) (neg : Bool) (hl : l.length ≤ 1000000) (n : Nat) : n + 1 ≤ l.length → vB 10 (l.take (n + 1)) = vB 10 l → ∃ m, 1 ≤ m ∧ m ≤ n + 1 ∧ vB 10 (l.take m) = vB 10 l ∧ (m = 1 ∨ l.getD (m - 1) 0 ≠ 0) ∧ ∀ R, Ev (fun k => rostrumref09_big_text.j1 k (m : Int) l neg) R → Ev (fun k => rostrumref09_big_text.l0 k ((n + 1 : Nat) : Int) l neg) R := by
  induction n with
  | zero =>
    intro hn hv
    refine ⟨1, by omega, by omega, hv, .inl rfl, fun R hR => Ev.step (fun k => ?_) hR⟩
    simp only [rostrumref09_big_text.l0]
    rw [if_neg (by omega)]
  | succ n ih =>
    intro hn hv
    have hw : wrap64 (((n + 1 + 1 : Nat) : Int) - 1) = ((n + 1 : Nat) : Int) := by unfold wrap64; omega
    have hrd : rd l ((n + 1 : Nat) : Int) = l.getD (n + 1) 0 := by unfold rd; rw [Int.toNat_natCast]
    by_cases h0 : l.getD (n + 1) 0 = 0
    · have hv' : vB 10 (l.take (n + 1)) = vB 10 l := by rw [← hv, vB_take 10 l (n + 1), h0]; simp
      obtain ⟨m, h1, h2, h3, h4, h5⟩ := ih (by omega) hv'
      refine ⟨m, h1, by omega, h3, h4, fun R hR => Ev.step (fun k => ?_) (h5 R hR)⟩
      simp only [rostrumref09_big_text.l0]
      rw [if_pos (by omega), hw, if_pos (by omega), if_pos (by omega), hrd, if_pos h0]
    · refine ⟨n + 1 + 1, by omega, by omega, hv, .inr h0, fun R hR => Ev.step (fun k => ?_) hR⟩
      simp only [rostrumref09_big_text.l0]
      rw [if_pos (by omega), hw, if_pos (by omega), if_pos (by omega), hrd, if_neg h0]
end Go.Proofs.YtlnneellihkdkaaDoor.D
namespace Go.Proofs.YtlnneellihkdkaaDoor.D
open Go.RowKit Go.Proofs.YtlnneellihkdkaaDoorW.PrintWords Go.Proofs.YtlnneellihkdkaaDoorW.PrintLast Go.Proofs.YtlnneellihkdkaaDoorW.PrintMore
set_option linter.unusedVariables false
set_option linter.unusedSimpArgs false

theorem strOf_upI (l : List Int) (h : OkB 10 l) (m : Nat) : strOfNums (upI l m) = baU (upD l m) := by unfold strOfNums baU; rw [upI_map l h]
theorem strOf_upI' (l : List Int) (h : OkB 10 l) (m : Nat) : strOfNums ([45] ++ upI l m) = baU (45 :: upD l m) := by
  unfold strOfNums baU
  rw [List.map_append, upI_map l h]
  rfl
theorem text_ref_ev (l : List Int) (neg : Bool) (h : OkB 10 l) (hne : l ≠ []) (hl : l.length ≤ 100000) : Ev (fun k => rostrumref09_big_text.f k l neg) (ansP (sv 10 l neg)) := by
  have hp := List.length_pos_iff.2 hne
  obtain ⟨m, h1, h2, h3, h4, h5⟩ := strip_ref l neg (by omega) (l.length - 1) (by omega) (by rw [List.take_of_length_le (by omega)])
  rw [show l.length - 1 + 1 = l.length by omega] at h5 h2
  have hd := upD_dec l h m h1 h4
  rw [h3] at hd
  have hlen : (Lib.decDigits (vB 10 l).toNat).length = m := by rw [hd, upD_len]
  have hV := (vB_bounds 10 (by decide) l h).1
  have habs : (sv 10 l neg).natAbs = (vB 10 l).toNat := by unfold sv; split <;> omega
  refine Ev.congr (fun k => by simp only [rostrumref09_big_text.f]) (h5 _ ?_)
  unfold ansP
  rw [habs, hlen]
  by_cases hbig : m ≤ 200
  · rw [if_pos hbig]
    have hb : ¬ ((m : Int) > 200) := by omega
    have hw : wrap64 ((m : Int) - 1) = (m : Int) - 1 := by unfold wrap64; omega
    have hpos : 1 < m → 0 < vB 10 l := fun hm => by
      rcases Int.lt_or_eq_of_le hV with h | h
      · exact h
      · rw [← h] at hlen
        have : (Lib.decDigits 0).length = 1 := by rw [Lib.decDigits]; simp
        rw [show (0 : Int).toNat = 0 from rfl, this] at hlen
        omega
    have plain : Ev (fun k => rostrumref09_big_text.j2 k (m : Int) [] false l neg) (baU (upD l m), (0 : Int)) := by
      have := text_l1_ref l neg (by omega) m [] h2 (by simp; omega)
      rw [List.nil_append, strOf_upI l h] at this
      refine Ev.step (f := fun k => rostrumref09_big_text.j3 k (m : Int) [] l neg) (fun k => by simp only [rostrumref09_big_text.j2]; rfl) (Ev.step (fun k => ?_) this)
      simp only [rostrumref09_big_text.j3]
      rw [hw]
    have signed : Ev (fun k => rostrumref09_big_text.j2 k (m : Int) [] true l neg) (baU (45 :: upD l m), (0 : Int)) := by
      have := text_l1_ref l neg (by omega) m [45] h2 (by simp; omega)
      rw [strOf_upI' l h] at this
      refine Ev.step (f := fun k => rostrumref09_big_text.j3 k (m : Int) ([] ++ [45]) l neg) (fun k => by simp only [rostrumref09_big_text.j2]; rfl) (Ev.step (fun k => ?_) this)
      simp only [rostrumref09_big_text.j3]
      rw [hw]
      rfl
    have hpl : Lib.itoa (vB 10 l) = upD l m := by unfold Lib.itoa; rw [if_neg (by omega), hd]
    have hmi : 0 < vB 10 l → Lib.itoa (-(vB 10 l)) = 45 :: upD l m := fun hq => by
      unfold Lib.itoa
      rw [if_pos (by omega), ← hd]
      congr 2
      omega
    cases neg
    · rw [show sv 10 l false = vB 10 l from rfl, hpl]
      refine Ev.step (fun k => ?_) plain
      simp only [rostrumref09_big_text.j1]
      rw [if_neg hb]
      rfl
    · rw [show sv 10 l true = -(vB 10 l) from rfl]
      by_cases hm : 1 < m
      · rw [hmi (hpos hm)]
        refine Ev.step (fun k => ?_) signed
        simp only [rostrumref09_big_text.j1]
        rw [if_neg hb, if_pos trivial, if_pos (by omega)]
      · obtain rfl : m = 1 := by omega
        have hv1 : vB 10 l = l.getD 0 0 := by rw [← h3, vB_take]; simp [vB]
        have hrd : rd l 0 = l.getD 0 0 := by simp [rd]
        by_cases hq : 0 < vB 10 l
        · rw [hmi hq]
          refine Ev.step (fun k => ?_) signed
          simp only [rostrumref09_big_text.j1]
          rw [if_neg hb, if_pos trivial, if_neg (by omega), if_pos (by omega), hrd, show decide (l.getD 0 0 > 0) = true from decide_eq_true (by omega)]
        · rw [show -(vB 10 l) = vB 10 l by omega, hpl]
          refine Ev.step (fun k => ?_) plain
          simp only [rostrumref09_big_text.j1]
          rw [if_neg hb, if_pos trivial, if_neg (by omega), if_pos (by omega), hrd, show decide (l.getD 0 0 > 0) = false from decide_eq_false (by omega)]
  · rw [if_neg hbig]
    refine Ev.step (f := fun _ => some ((⟨#[]⟩ : ByteArray), (91 : Int))) (fun k => ?_) (Ev.now _)
    simp only [rostrumref09_big_text.j1]
    rw [if_pos (by omega)]
end Go.Proofs.YtlnneellihkdkaaDoor.D
namespace Go.Proofs.YtlnneellihkdkaaDoor.D
open Go Go.Proofs Go.RowKit Go.Proofs.YtlnneellihkdkaaDoorW.PrintWords Go.Proofs.YtlnneellihkdkaaDoorW.PrintLast Go.Proofs.YtlnneellihkdkaaDoorW.PrintMore
set_option linter.unusedVariables false
set_option linter.unusedSimpArgs false

def ansO : Option Int → ByteArray × Int
  | none => (⟨#[]⟩, 90)
  | some z => ansP z
theorem ansV_O (o : Option Int) : ansV o = .tuple #[.string (ansO o).1, .int .i64 (ansO o).2] := by
  cases o with
  | none => rfl
  | some z =>
    by_cases h : (Lib.decDigits z.natAbs).length ≤ 200
    · rw [ansV_ok h, show ansO (some z) = (baU (Lib.itoa z), (0 : Int)) from if_pos h]
    · rw [ansV_big h, show ansO (some z) = ((⟨#[]⟩ : ByteArray), (91 : Int)) from if_neg h]
theorem sv_ref {l : List UInt8} (h : N.canU l = true) : sv 10 (revD (N.digits l)) (negU l) = N.valU l := by
  obtain ⟨h1, h2⟩ := val_neg h
  unfold sv
  rw [vB_revD _ (N.can_open h).2.2.1]
  cases hn : negU l
  · simp [h2 hn]
  · simp [(h1 hn).1]
end Go.Proofs.YtlnneellihkdkaaDoor.D
