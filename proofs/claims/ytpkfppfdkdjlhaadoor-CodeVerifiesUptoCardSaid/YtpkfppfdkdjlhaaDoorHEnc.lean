
/- code.Encode answers encR. -/
import Derived.Test.YtpkfppfdkdjlhaaDoorHPutC
import Derived.Test.YtpkfppfdkdjlhaaDoorHRefY
import Derived.Test.YtpkfppfdkdjlhaaDoorHVer2
import Derived.Test.YtpkfppfdkdjlhaaDoorHPrint
namespace Go.Proofs.YtpkfppfdkdjlhaaDoor.D
open Go Go.Proofs Go.RowKit Go.Proofs.YtpkfppfdkdjlhaaDoorW.PrintWords Go.Proofs.YtpkfppfdkdjlhaaDoorW.PrintLast Go.Proofs.YtpkfppfdkdjlhaaDoorW.PrintMore
set_option linter.unusedVariables false
set_option linter.unusedSimpArgs false

set_option maxRecDepth 100000 in
set_option maxHeartbeats 2000000 in
theorem encode_no (I : List S40) (D : List S42) (Nm : List ByteArray) (hfit : ∀ i : Nat, i < D.length → Fit (rd_T42 D i)) (hns : ∀ s ∈ Nm, s.size ≤ 9223372036854775807) (A0 A1 A2 : Option Addr) (c0 c1 c2 : Nat) (w : World) (h : CodeAt w I D Nm A0 A1 A2 c0 c1 c2) (hv : verB I D Nm = false) :
    Calls Tryd.prog 4 #[.agg #[.slice A0 I.length c0, .slice A1 D.length c1, .slice A2 Nm.length c2]] w fun e w' => e = .returned (.tuple #[.slice none 0 0, .int .i64 130]) ∧ Below w.heap.size w w' := by
  have hB1 : Below w.heap.size w (w.alloc (.cells #[.slice A0 I.length c0, .slice A1 D.length c1, .slice A2 Nm.length c2] 26)) := (Below.refl _ w).alloc (Nat.le_refl _) _
  have hV := verify_calls I D Nm hfit hns A0 A1 A2 c0 c1 c2 _ (h.below hB1)
  rw [verR_no hv] at hV
  have HV := Aside0.mk hV
  have HB1 := Aside0.mk hB1
  clear hV hv h hfit hns hB1
  go_enter Tryd.func4, Tryd.ntmps4
  go_wp2_with (go_at_call 6; refine HV.out.mono ?_; rintro e w1 ⟨rfl, hb⟩; have HB2 := Aside0.mk (HB1.out.trans (hb.mono HB1.out.size)); clear hb)
  go_returns
  exact ⟨rfl, HB2.out⟩

/-- The state between two of Encode's calls. -/
structure EncS (w : World) (b g : Nat) (cs : Array Value) (W : World) (p : List Int) : Prop where
  bel : Below w.heap.size w W
  box : W.heap[b]? = some (.cells cs 26 (0, 0))
  buf : Buf W g p
  lo : w.heap.size ≤ g
  ne : b ≠ g
theorem EncS.alloc {w W : World} {b g : Nat} {cs : Array Value} {p : List Int} (h : EncS w b g cs W p) (o : Obj) : EncS w b g cs (W.alloc o) p :=
  ⟨below_alloc h.bel o, blk_alloc h.box o, h.buf.alloc o, h.lo, h.ne⟩
theorem EncS.drew {w W : World} {b g : Nat} {cs : Array Value} {p : List Int} (h : EncS w b g cs W p) : EncS w b g cs W.drew p :=
  ⟨below_drew1 h.bel, blk_drew h.box, h.buf.drew, h.lo, h.ne⟩
theorem EncS.below {w W W' : World} {b g : Nat} {cs : Array Value} {p : List Int} (h : EncS w b g cs W p) (hb : Below W.heap.size W W') : EncS w b g cs W' p :=
  ⟨below_step h.bel hb, blk_below h.box hb, h.buf.below hb, h.lo, h.ne⟩
theorem EncS.cell {w W : World} {b g : Nat} {cs : Array Value} {p : List Int} (h : EncS w b g cs W p) (i : Nat) : W.cell? ⟨b, i, none⟩ = cs[i]? := blk_cell h.box i
theorem EncS.now {w W : World} {b g : Nat} {cs : Array Value} {p : List Int} (h : EncS w b g cs W p) : ∃ A c, W.cell? ⟨g, 0, none⟩ = some (.slice A p.length c) ∧ W.frozen? ⟨g, 0, none⟩ = false ∧ Kd.C (Kd.int .u8) W A p.length p ∧ p.length ≤ c := by
  obtain ⟨A, c, h1, h2⟩ := h.buf
  have h3 := Kd.V_reads' h2
  exact ⟨A, c, blk_cell h1 0, blk_frozen h1 0, h3.2.2, h3.2.1⟩
theorem EncS.frozen {w W : World} {b g : Nat} {cs : Array Value} {p : List Int} (h : EncS w b g cs W p) : W.frozen? ⟨g, 0, none⟩ = false := by
  obtain ⟨A, c, h1, h2⟩ := h.buf
  exact blk_frozen h1 0
theorem EncS.put {w W : World} {b g : Nat} {cs : Array Value} {p : List Int} (h : EncS w b g cs W p) (args : List Int) (o : Array Value) (ho : o = (args.map (Value.int .i64)).toArray) (hfit : ∀ x ∈ args, x ≤ 9223372036854775807) (hsm : args.length ≤ 3) (hl : p.length + 30 ≤ 140737488355328) :
    Calls Tryd.prog 11 #[.slice (some ⟨W.heap.size, 0, none⟩) args.length args.length, .pointer (some ⟨g, 0, none⟩)] (W.alloc (.cells o 3)) fun e W' => e = .returned (.tuple #[]) ∧ EncS w b g cs W' (p ++ args.flatMap varL) := by
  subst ho
  have hlt := h.buf.lt
  have hbl := blk_lt h.box
  refine (put_calls args g W.heap.size p hfit (by omega) (by omega) args.length w _ h.lo (below_alloc h.bel _) (h.buf.alloc _) (blk_new W _) (by omega)).mono ?_
  rintro e W' ⟨rfl, h1, h2, h3⟩
  exact ⟨rfl, h1, blk_kept (blk_alloc h.box _) h3 h.ne, h2, h.lo, h.ne⟩
theorem EncS.store {w W W' : World} {b g : Nat} {cs : Array Value} {p r : List Int} (h : EncS w b g cs W p) (hb : Below W.heap.size W W') {A : Option Addr} {c : Nat} (hr : Kd.R (Kd.int .u8) 5 W' W.heap.size (fun _ => True) (.slice A r.length c) r) :
    EncS w b g cs (W'.setCell ⟨g, 0, none⟩ (.slice A r.length c)) r :=
  ⟨(below_step h.bel hb).setCell h.lo _, blk_far (blk_below h.box hb) h.ne _, h.buf.store hb hr, h.lo, h.ne⟩

theorem cells5 {W W' : World} {p1 p2 p3 p4 p5 : Addr} {u1 u2 u3 u4 u5 : Value} (h : W.cell? p1 = some u1 ∧ W.cell? p2 = some u2 ∧ W.cell? p3 = some u3 ∧ W.cell? p4 = some u4 ∧ W.cell? p5 = some u5) (hB : Below W.heap.size W W') : W'.cell? p1 = some u1 ∧ W'.cell? p2 = some u2 ∧ W'.cell? p3 = some u3 ∧ W'.cell? p4 = some u4 ∧ W'.cell? p5 = some u5 :=
  ⟨(hB.cell (World.block_lt_of_cell? W _ h.1)).trans h.1, (hB.cell (World.block_lt_of_cell? W _ h.2.1)).trans h.2.1, (hB.cell (World.block_lt_of_cell? W _ h.2.2.1)).trans h.2.2.1, (hB.cell (World.block_lt_of_cell? W _ h.2.2.2.1)).trans h.2.2.2.1, (hB.cell (World.block_lt_of_cell? W _ h.2.2.2.2)).trans h.2.2.2.2⟩
theorem set4 {W : World} {g m i1 i2 i3 i4 : Nat} {u2 u3 u4 u5 : Value} (h : W.cell? ⟨m, i1, none⟩ = some u2 ∧ W.cell? ⟨m, i2, none⟩ = some u3 ∧ W.cell? ⟨m, i3, none⟩ = some u4 ∧ W.cell? ⟨m, i4, none⟩ = some u5) (hne : m ≠ g) (v : Value) :
    (W.setCell ⟨g, 0, none⟩ v).cell? ⟨m, i1, none⟩ = some u2 ∧ (W.setCell ⟨g, 0, none⟩ v).cell? ⟨m, i2, none⟩ = some u3 ∧ (W.setCell ⟨g, 0, none⟩ v).cell? ⟨m, i3, none⟩ = some u4 ∧ (W.setCell ⟨g, 0, none⟩ v).cell? ⟨m, i4, none⟩ = some u5 := by
  have hh : ∀ i, (W.setCell ⟨g, 0, none⟩ v).cell? ⟨m, i, none⟩ = W.cell? ⟨m, i, none⟩ := fun i => World.cell?_of_block (Below.heap_setCell W ⟨g, 0, none⟩ v m hne)
  exact ⟨(hh i1).trans h.1, (hh i2).trans h.2.1, (hh i3).trans h.2.2.1, (hh i4).trans h.2.2.2⟩
theorem flat_take' {α : Type} (f : α → List Int) (l : List α) (i : Nat) (h : i < l.length) (q : List Int) : q ++ (l.take i).flatMap f ++ f l[i] = q ++ (l.take (i + 1)).flatMap f := by
  rw [List.take_succ_eq_append_getElem h, List.flatMap_append, List.append_assoc]
  simp
theorem flat_le {α : Type} (f : α → List Int) (l : List α) (i : Nat) (h : i < l.length) : ((l.take i).flatMap f).length + (f l[i]).length ≤ (l.flatMap f).length := by
  have h1 : (l.take i).flatMap f ++ f l[i] = (l.take (i + 1)).flatMap f := by simpa using flat_take' f l i h []
  have h2 : l.flatMap f = (l.take (i + 1)).flatMap f ++ (l.drop (i + 1)).flatMap f := by rw [← List.flatMap_append, List.take_append_drop]
  rw [h2, ← h1]
  simp only [List.length_append]; omega

set_option maxRecDepth 100000 in
set_option maxHeartbeats 4000000 in
theorem encode_yes (I : List S40) (D : List S42) (Nm : List ByteArray) (hfit : ∀ i : Nat, i < D.length → Fit (rd_T42 D i)) (hns : ∀ s ∈ Nm, s.size ≤ 9223372036854775807) (hd : ∀ x ∈ D, (putB x).length ≤ 100000000000000) (hb : (encL I D Nm).length + 100 < 140737488355328) (A0 A1 A2 : Option Addr) (c0 c1 c2 : Nat) (w : World) (h : CodeAt w I D Nm A0 A1 A2 c0 c1 c2) (hv : verB I D Nm = true) :
    Calls Tryd.prog 4 #[.agg #[.slice A0 I.length c0, .slice A1 D.length c1, .slice A2 Nm.length c2]] w fun e w' => ∃ A c, e = .returned (.tuple #[.slice A (encL I D Nm).length c, .int .i64 0]) ∧ (encL I D Nm).length ≤ c ∧ Kd.C (Kd.int .u8) w' A (encL I D Nm).length (encL I D Nm) ∧ Below w.heap.size w w' := by
  have hB1 : Below w.heap.size w (w.alloc (.cells #[.slice A0 I.length c0, .slice A1 D.length c1, .slice A2 Nm.length c2] 26)) := (Below.refl _ w).alloc (Nat.le_refl _) _
  have hbx := blk_new w (.cells #[.slice A0 I.length c0, .slice A1 D.length c1, .slice A2 Nm.length c2] 26)
  have hV := verify_calls I D Nm hfit hns A0 A1 A2 c0 c1 c2 _ (h.below hB1)
  rw [verR_yes hv] at hV
  have hmf : ∀ (fn : Fn) (first cap : Array Value) (w : World), (Instr.makeFunc fn first cap).run Tryd.prog w = .ok (.func fn first cap) w := fun _ _ _ _ => rfl
  have hu26 := Tryd.underlying26
  have HV := Aside0.mk hV
  have HB1 := Aside0.mk hB1
  have HBX := Aside0.mk hbx
  have H := Aside0.mk h
  have HF := Aside0.mk hfit
  have HNS := Aside0.mk hns
  have HD := Aside0.mk hd
  have HLEN := Aside0.mk hb
  have HVB := Aside0.mk hv
  have hmI := Kd.C_max h.i
  have hmD := Kd.C_max h.d
  have hmN := Kd.C_max h.n
  clear hV hv h hfit hns hB1 hd hb hbx
  go_enter Tryd.func4, Tryd.ntmps4
  go_wp2_with (go_at_call 6; refine HV.out.mono ?_; rintro e w1 ⟨rfl, hb⟩; have HB2 := Aside0.mk (HB1.out.trans (hb.mono HB1.out.size)); have hbx2 := blk_below HBX.out hb; have x0 : (w1.alloc (.cells #[.slice none 0 0] 27)).cell? ⟨w.heap.size, 0, none⟩ = some (.slice A0 I.length c0) := blk_cell (blk_alloc hbx2 _) 0; have HX2 := Aside0.mk hbx2; clear hb hbx2)
  have HE1 := Aside0.mk (show EncS w w.heap.size w1.heap.size #[.slice A0 I.length c0, .slice A1 D.length c1, .slice A2 Nm.length c2] (w1.alloc (.cells #[.slice none 0 0] 27)) [] from
    ⟨HB2.out.alloc HB2.out.size _, blk_alloc HX2.out _, ⟨none, 0, blk_new w1 _, Kd.V_nil _ _ _ _ _⟩, HB2.out.size, by have := blk_lt HX2.out; omega⟩)
  have hsz : (w1.alloc (.cells #[.slice none 0 0] 27)).heap.size = w1.heap.size + 1 := by simp
  have hp := HE1.out.put [(I.length : Int)] #[.int .i64 I.length] rfl (fun x hx => by rw [List.mem_singleton.1 hx]; omega) (by simp) (by simp)
  rw [hsz] at hp
  clear HX2 HB2 HV x0 hsz
  generalize w1.heap.size = g at *
  refine hp.mono ?_
  clear hp HE1
  rintro e w2 ⟨rfl, hE⟩
  have HE2 := Aside0.mk (show EncS w w.heap.size g #[.slice A0 I.length c0, .slice A1 D.length c1, .slice A2 Nm.length c2] w2 (varL I.length) by simpa using hE)
  have x0 : w2.cell? ⟨w.heap.size, 0, none⟩ = some (.slice A0 I.length c0) := hE.cell 0
  clear hE
  go_wp2_with fail
  clear x0
  go_loopw [28] (fun v wr => ∃ i : Nat, v = .int .i64 i ∧ Aside0 (i ≤ I.length) ∧ Aside0 (EncS w w.heap.size g #[.slice A0 I.length c0, .slice A1 D.length c1, .slice A2 Nm.length c2] wr (varL I.length ++ (I.take i).flatMap insL))) (fun v wr => I.length - (intOf v).toNat)
  case atStart => exact ⟨0, rfl, ⟨Nat.zero_le _⟩, ⟨by simpa using HE2.out⟩⟩
  case round =>
    clear HE2
    obtain ⟨i, rfl, hi, HE⟩ := hrel
    by_cases hlt : i < I.length
    · have hltb : decide ((i : Int) < (I.length : Int)) = true := decide_eq_true (by omega)
      obtain ⟨ad, rfl, y0, y1, y2⟩ := at_T40 H.out.i i (by omega) (by omega)
      have z0 := (HE.out.bel.cell (World.block_lt_of_cell? w _ y0)).trans y0
      have z1 := (HE.out.bel.cell (World.block_lt_of_cell? w _ y1)).trans y1
      have z2 := (HE.out.bel.cell (World.block_lt_of_cell? w _ y2)).trans y2
      simp only [Int.toNat_natCast] at z0 z1 z2
      clear y0 y1 y2
      rw [rd_c40 hlt] at z0 z1 z2
      have hv' := HVB.out
      unfold verB at hv'
      simp only [Bool.and_eq_true, decide_eq_true_eq] at hv'
      have hfx := insB_fits (x := I[i]) (by omega) (by omega) (by omega) (List.all_eq_true.1 hv'.1.2 _ (List.getElem_mem hlt))
      have hpl := flat_le insL I i hlt
      have hll := HLEN.out
      have hnx := flat_take' insL I i hlt (varL I.length)
      have hpp : (varL I.length ++ (I.take i).flatMap insL).length + 30 ≤ 140737488355328 := by
        have h0 : (varL I.length).length ≤ 10 := varL_len _
        have h1 : I.length ≤ 20000 := hv'.1.1.1.1.2
        have h3 : ∀ L : List S40, (L.flatMap insL).length ≤ 30 * L.length := fun L => by
          induction L with
          | nil => simp
          | cons a L ih =>
            have e0 := varL_len a.f0
            have e1 := varL_len a.f1
            have e2 := varL_len a.f2
            simp only [List.flatMap_cons, insL, List.length_append, List.length_cons] at ih ⊢
            omega
        have h2 := h3 (I.take i)
        rw [List.length_take] at h2
        rw [List.length_append]
        omega
      have hp := (HE.out.alloc (.cells #[.int .i64 I[i].f0, .int .i64 I[i].f1, .int .i64 I[i].f2] 40)).put [I[i].f0, I[i].f1, I[i].f2] #[.int .i64 I[i].f0, .int .i64 I[i].f1, .int .i64 I[i].f2] rfl (fun x hx => by
        simp only [List.mem_cons, List.not_mem_nil, or_false] at hx
        rcases hx with rfl | rfl | rfl
        · exact hfx.1
        · exact hfx.2.1
        · exact hfx.2.2) (by simp) hpp
      have hsz : (wr.alloc (.cells #[.int .i64 I[i].f0, .int .i64 I[i].f1, .int .i64 I[i].f2] 40)).heap.size = wr.heap.size + 1 := by simp
      rw [hsz] at hp
      have HP := Aside0.mk hp
      have HNX := Aside0.mk (show varL I.length ++ (I.take i).flatMap insL ++ [I[i].f0, I[i].f1, I[i].f2].flatMap varL = varL I.length ++ (I.take (i + 1)).flatMap insL by rw [← hnx]; simp [insL])
      clear hp hsz hv' hfx hpl hll hnx hpp
      go_wp2_with fail
      clear z0 z1 z2
      refine HP.out.mono ?_
      clear HP
      rintro e w3 ⟨rfl, hE⟩
      rw [HNX.out] at hE
      have HE3 := Aside0.mk hE
      clear hE HE HNX
      go_wp2_with fail
      go_roundw
      case rel => exact ⟨i + 1, by go_num, ⟨hlt⟩, HE3⟩
      case measure => simp [intOf]; omega
    · obtain rfl : i = I.length := by have := hi.out; omega
      have hltb : decide ((I.length : Int) < (I.length : Int)) = false := decide_eq_false (by omega)
      rw [List.take_length] at HE
      have x1 : wr.cell? ⟨w.heap.size, 1, none⟩ = some (.slice A1 D.length c1) := HE.out.cell 1
      go_wp2_with fail
      clear x1
      obtain ⟨q, hq⟩ : ∃ q, q = varL I.length ++ I.flatMap insL := ⟨_, rfl⟩
      rw [← hq] at HE
      have hll := HLEN.out
      unfold encL at hll
      rw [← hq] at hll
      simp only [List.length_append] at hll
      have hlD : (varL (D.length : Int)).length ≤ 10 := varL_len _
      have hqs : q.length + 30 ≤ 140737488355328 := by
        have hv' := HVB.out
        unfold verB at hv'
        simp only [Bool.and_eq_true, decide_eq_true_eq] at hv'
        have h0 : (varL (I.length : Int)).length ≤ 10 := varL_len _
        have h1 : I.length ≤ 20000 := hv'.1.1.1.1.2
        have h3 : ∀ L : List S40, (L.flatMap insL).length ≤ 30 * L.length := fun L => by
          induction L with
          | nil => simp
          | cons a L ih =>
            have e0 := varL_len a.f0
            have e1 := varL_len a.f1
            have e2 := varL_len a.f2
            simp only [List.flatMap_cons, insL, List.length_append, List.length_cons] at ih ⊢
            omega
        have h2 := h3 I
        rw [hq, List.length_append]
        omega
      refine (HE.out.put [(D.length : Int)] #[.int .i64 D.length] rfl (fun x hx => by rw [List.mem_singleton.1 hx]; omega) (by simp) hqs).mono ?_
      rintro e w4 ⟨rfl, hE⟩
      have HQ := Aside0.mk hq
      have HLL := Aside0.mk hll
      have HE4 := Aside0.mk (show EncS w w.heap.size g #[.slice A0 I.length c0, .slice A1 D.length c1, .slice A2 Nm.length c2] w4 (q ++ varL D.length) by simpa using hE)
      have x1 : w4.cell? ⟨w.heap.size, 1, none⟩ = some (.slice A1 D.length c1) := HE4.out.cell 1
      clear hE HE hq hll hi
      go_wp2_with fail
      clear x1
      obtain ⟨wn, hwn⟩ : ∃ wn, wn = wr := ⟨_, rfl⟩
      subst hwn
      go_loopw [51] (fun v wr => ∃ i : Nat, v = .int .i64 i ∧ Aside0 (i ≤ D.length) ∧ Aside0 (EncS w w.heap.size g #[.slice A0 I.length c0, .slice A1 D.length c1, .slice A2 Nm.length c2] wr (q ++ varL D.length ++ (D.take i).flatMap datL))) (fun v wr => D.length - (intOf v).toNat)
      case atStart => exact ⟨0, rfl, ⟨Nat.zero_le _⟩, ⟨by simpa using HE4.out⟩⟩
      case round =>
        clear HE4
        obtain ⟨i, rfl, hi, HE⟩ := hrel
        by_cases hlt : i < D.length
        · have hltb : decide ((i : Int) < (D.length : Int)) = true := decide_eq_true (by omega)
          obtain ⟨ad, B2, d2, B3, d3, e1, x0, x1, x2, x3, ll2, hi2, ll3, hi3⟩ := at_T42 H.out.d i (by omega) (by omega)
          cases e1
          replace x0 := (HE.out.bel.cell (World.block_lt_of_cell? w _ x0)).trans x0
          replace x1 := (HE.out.bel.cell (World.block_lt_of_cell? w _ x1)).trans x1
          replace x2 := (HE.out.bel.cell (World.block_lt_of_cell? w _ x2)).trans x2
          replace x3 := (HE.out.bel.cell (World.block_lt_of_cell? w _ x3)).trans x3
          simp only [Int.toNat_natCast] at x0 x1 x2 x3
          have HK := Aside0.mk (k42_mk wr (rd_T42 D i) ll2 (Kd.C_below hi2 HE.out.bel) ll3 (Kd.C_below hi3 HE.out.bel))
          have hfi := HF.out i hlt
          have hmem : rd_T42 D (i : Int) ∈ D := by
            rw [rd_cast' hlt]
            exact List.getElem_mem hlt
          have hpd := HD.out _ hmem
          have hnx := flat_take' datL D i hlt (q ++ varL D.length)
          have hle := flat_le datL D i hlt
          rw [← rd_cast' hlt] at hnx hle
          obtain ⟨x, hx⟩ : ∃ x, x = rd_T42 D (i : Int) := ⟨_, rfl⟩
          rw [← hx] at x0 x1 x2 x3 HK hfi hpd hnx hle
          have HFI := Aside0.mk hfi
          clear hi2 hi3 ll2 ll3 hmem hfi hx
          have hL := HLL.out
          obtain ⟨p, hp⟩ : ∃ p, p = q ++ varL (D.length : Int) ++ (D.take i).flatMap datL := ⟨_, rfl⟩
          rw [← hp] at hnx HE
          have hpl : p.length + (datum_PrintB x).size + 10 < 140737488355328 := by
            have e3 : (datL x).length = (varL (datum_PrintB x).size).length + (datum_PrintB x).size := by simp [datL, txtL, bytesOf]
            rw [hp]
            simp only [List.length_append] at hL hle ⊢
            omega
          obtain ⟨k, hk⟩ := (text_ev p (datum_PrintB x) hpl).rounds
          rw [show p ++ varL (datum_PrintB x).size ++ bytesOf (datum_PrintB x) = p ++ datL x by simp [datL, txtL]] at hk
          rw [hnx] at hk
          obtain ⟨r, hr⟩ : ∃ r, r = q ++ varL (D.length : Int) ++ (D.take (i + 1)).flatMap datL := ⟨_, rfl⟩
          rw [← hr] at hk
          have HKK := Aside0.mk hk
          have HRR := Aside0.mk hr
          clear hk hnx hle hpl hL hp hr
          go_wp2_with fail
          clear x0 x1 x2 x3
          have HEA := Aside0.mk (HE.out.alloc (.cells #[.int .i64 x.f0, .string x.f1, .slice B2 x.f2.length d2, .slice B3 x.f3.length d3] 42))
          have HXA := Aside0.mk (blk_new wr (.cells #[.int .i64 x.f0, .string x.f1, .slice B2 x.f2.length d2, .slice B3 x.f3.length d3] 42))
          have HKA := Aside0.mk (k42.K_below (below_alloc (Below.refl _ wr) (.cells #[.int .i64 x.f0, .string x.f1, .slice B2 x.f2.length d2, .slice B3 x.f3.length d3] 42)) HK.out)
          have hmg : wr.heap.size ≠ g := by have := HE.out.buf.lt; omega
          clear HE HK
          generalize wr.alloc (.cells #[.int .i64 x.f0, .string x.f1, .slice B2 x.f2.length d2, .slice B3 x.f3.length d3] 42) = W0 at *
          generalize wr.heap.size = m at *
          obtain ⟨A, cc, hg, hfz, hC, hcc⟩ := HEA.out.now
          have HC := Aside0.mk (And.intro hC hcc)
          have HS := Aside0.mk (show W0.drew.cell? ⟨g, 0, none⟩ = some (.slice A p.length cc) ∧ W0.drew.cell? ⟨m, 0, none⟩ = some (.int .i64 x.f0) ∧ W0.drew.cell? ⟨m, 1, none⟩ = some (.string x.f1) ∧ W0.drew.cell? ⟨m, 2, none⟩ = some (.slice B2 x.f2.length d2) ∧ W0.drew.cell? ⟨m, 3, none⟩ = some (.slice B3 x.f3.length d3) from ⟨hg, blk_cell HXA.out 0, blk_cell HXA.out 1, blk_cell HXA.out 2, blk_cell HXA.out 3⟩)
          have HCD := Aside0.mk (show Kd.C (Kd.int .u8) W0.drew A p.length p ∧ p.length ≤ cc from ⟨Kd.C_below hC (below_drew1 (Below.refl _ _)), hcc⟩)
          have HKD := Aside0.mk (k42.K_below (below_drew1 (Below.refl _ W0)) HKA.out)
          have hpd' : (putB x).length ≤ 140737488355328 := by omega
          have g0 : W0.drew.cell? ⟨g, 0, none⟩ = some (.slice A p.length cc) := HS.out.1
          clear hg hC hcc hfz
          have m0 : W0.drew.cell? ⟨m, 0, none⟩ = some (.int .i64 x.f0) := HS.out.2.1
          have m1 : W0.drew.cell? ⟨m, 1, none⟩ = some (.string x.f1) := HS.out.2.2.1
          have m2 : W0.drew.cell? ⟨m, 2, none⟩ = some (.slice B2 x.f2.length d2) := HS.out.2.2.2.1
          have m3 : W0.drew.cell? ⟨m, 3, none⟩ = some (.slice B3 x.f3.length d3) := HS.out.2.2.2.2
          go_region_with
            (first
              | (go_at_call 14; refine (datum_Print_any x HFI.out hpd' [_, _, _, _] W0.drew HKD.out).mono ?_; rintro e w5 ⟨rfl, hb5⟩; have HS2 := Aside0.mk (cells5 HS.out hb5); have g5 : w5.cell? ⟨g, 0, none⟩ = some (.slice A p.length cc) := HS2.out.1; have HE5 := Aside0.mk (HEA.out.drew.below hb5); have HC5 := Aside0.mk (And.intro (Kd.C_below HCD.out.1 hb5) HCD.out.2); clear hb5)
              | (go_at_call 13; refine (wire_Text.calls k A cc p (datum_PrintB x) r w5 HC5.out.1 HC5.out.2 HKK.out).mono ?_; rintro e w6 ⟨v, rfl, hR, hb6⟩; obtain ⟨A1, c1, rfl⟩ := Kd.R_slice hR; have HS3 := Aside0.mk (cells5 HS2.out hb6); have HE6 := Aside0.mk (HE5.out.store hb6 hR); have hfz6 : w6.frozen? ⟨g, 0, none⟩ = false := (HE5.out.below hb6).frozen; have HS4 := Aside0.mk (set4 HS3.out.2 hmg (.slice A1 r.length c1)); have hc6 : w6.cell? ⟨g, 0, none⟩ = some (.slice A p.length cc) := HS3.out.1; clear hR hb6))
          all_goals (clear HS HS2 HS3 HC5 HCD HKD HC HE5 HEA HXA HKA HKK)
          all_goals go_wp2_with fail
          all_goals
            go_roundw
            case rel => exact ⟨i + 1, by go_num, ⟨hlt⟩, ⟨by rw [← HRR.out]; exact HE6.out⟩⟩
            case measure => simp [intOf]; omega
        · obtain rfl : i = D.length := by have := hi.out; omega
          have hltb : decide ((D.length : Int) < (D.length : Int)) = false := decide_eq_false (by omega)
          rw [List.take_length] at HE
          have x2 : wr.cell? ⟨w.heap.size, 2, none⟩ = some (.slice A2 Nm.length c2) := HE.out.cell 2
          go_wp2_with fail
          clear x2
          have hll := HLL.out
          obtain ⟨q2, hq2⟩ : ∃ q2, q2 = q ++ varL (D.length : Int) ++ D.flatMap datL := ⟨_, rfl⟩
          rw [← hq2] at HE
          have hlD : (varL (Nm.length : Int)).length ≤ 10 := varL_len _
          have hqs : q2.length + 30 ≤ 140737488355328 := by
            rw [hq2]
            simp only [List.length_append]
            omega
          refine (HE.out.put [(Nm.length : Int)] #[.int .i64 Nm.length] rfl (fun x hx => by rw [List.mem_singleton.1 hx]; omega) (by simp) hqs).mono ?_
          rintro e w7 ⟨rfl, hE⟩
          have HE7 := Aside0.mk (show EncS w w.heap.size g #[.slice A0 I.length c0, .slice A1 D.length c1, .slice A2 Nm.length c2] w7 (q2 ++ varL Nm.length) by simpa using hE)
          have x2 : w7.cell? ⟨w.heap.size, 2, none⟩ = some (.slice A2 Nm.length c2) := HE7.out.cell 2
          have HLL2 := Aside0.mk (show q2.length + (varL (Nm.length : Int)).length + (Nm.flatMap txtL).length + 100 < 140737488355328 by
            rw [hq2]
            simp only [List.length_append]
            omega)
          have HQ2 := Aside0.mk hq2
          clear hE HE hq2 hll hi HLL hqs
          go_wp2_with fail
          clear x2
          obtain ⟨wm, hwm⟩ : ∃ wm, wm = wr := ⟨_, rfl⟩
          subst hwm
          go_loopw [69] (fun v wr => ∃ i : Nat, v = .int .i64 i ∧ Aside0 (i ≤ Nm.length) ∧ Aside0 (EncS w w.heap.size g #[.slice A0 I.length c0, .slice A1 D.length c1, .slice A2 Nm.length c2] wr (q2 ++ varL Nm.length ++ (Nm.take i).flatMap txtL))) (fun v wr => Nm.length - (intOf v).toNat)
          case atStart => exact ⟨0, rfl, ⟨Nat.zero_le _⟩, ⟨by simpa using HE7.out⟩⟩
          case round =>
            clear HE7
            obtain ⟨i, rfl, hi, HE⟩ := hrel
            by_cases hlt : i < Nm.length
            · have hltb : decide ((i : Int) < (Nm.length : Int)) = true := decide_eq_true (by omega)
              obtain ⟨ad, rfl, hx⟩ := Kd.at_string H.out.n i (by omega) (by omega)
              have hx' := (HE.out.bel.cell (World.block_lt_of_cell? w _ hx)).trans hx
              simp only [Int.toNat_natCast] at hx'
              rw [rd_cS hlt] at hx'
              have hnx := flat_take' txtL Nm i hlt (q2 ++ varL Nm.length)
              have hle := flat_le txtL Nm i hlt
              obtain ⟨s, hs⟩ : ∃ s, s = Nm[i] := ⟨_, rfl⟩
              rw [← hs] at hx' hnx hle
              have hL := HLL2.out
              obtain ⟨p, hp⟩ : ∃ p, p = q2 ++ varL (Nm.length : Int) ++ (Nm.take i).flatMap txtL := ⟨_, rfl⟩
              rw [← hp] at hnx HE
              have hpl : p.length + s.size + 10 < 140737488355328 := by
                have e3 : (txtL s).length = (varL s.size).length + s.size := by simp [txtL, bytesOf]
                rw [hp]
                simp only [List.length_append] at hL hle ⊢
                omega
              obtain ⟨k, hk⟩ := (text_ev p s hpl).rounds
              rw [show p ++ varL s.size ++ bytesOf s = p ++ txtL s by simp [txtL]] at hk
              rw [hnx] at hk
              obtain ⟨r, hr⟩ : ∃ r, r = q2 ++ varL (Nm.length : Int) ++ (Nm.take (i + 1)).flatMap txtL := ⟨_, rfl⟩
              rw [← hr] at hk
              have HKK := Aside0.mk hk
              have HRR := Aside0.mk hr
              obtain ⟨A, cc, hg, hfz, hC, hcc⟩ := HE.out.now
              have HC := Aside0.mk (And.intro hC hcc)
              clear hk hnx hle hpl hL hp hr hx hC hcc hs
              go_wp2_with fail
              refine (wire_Text.calls k A cc p s r wr HC.out.1 HC.out.2 HKK.out).mono ?_
              rintro e w8 ⟨v, rfl, hR, hb8⟩
              obtain ⟨A3, c3, rfl⟩ := Kd.R_slice hR
              have HE8 := Aside0.mk (HE.out.store hb8 hR)
              have hfz8 : w8.frozen? ⟨g, 0, none⟩ = false := (HE.out.below hb8).frozen
              have hc8 : w8.cell? ⟨g, 0, none⟩ = some (.slice A p.length cc) := (hb8.cell (World.block_lt_of_cell? wr _ hg)).trans hg
              clear hR hb8 hg hfz hx' HC HKK
              go_wp2_with fail
              go_roundw
              case rel => exact ⟨i + 1, by go_num, ⟨hlt⟩, ⟨by rw [← HRR.out]; exact HE8.out⟩⟩
              case measure => simp [intOf]; omega
            · obtain rfl : i = Nm.length := by have := hi.out; omega
              have hltb : decide ((Nm.length : Int) < (Nm.length : Int)) = false := decide_eq_false (by omega)
              rw [List.take_length, HQ2.out, HQ.out] at HE
              rw [show varL I.length ++ I.flatMap insL ++ varL D.length ++ D.flatMap datL ++ varL Nm.length ++ Nm.flatMap txtL = encL I D Nm from rfl] at HE
              obtain ⟨A, cc, hg, hfz, hC, hcc⟩ := HE.out.now
              have HC := Aside0.mk (And.intro hC hcc)
              clear hC hcc
              go_wp2_with fail
              go_returns
              exact ⟨A, cc, rfl, HC.out.2, HC.out.1, HE.out.bel⟩
end Go.Proofs.YtpkfppfdkdjlhaaDoor.D
