
/- code.Verify. -/
import Derived.Test.YtpkfppfdkdjlhaaDoorDx3
import Derived.Test.YtpkfppfdkdjlhaaDoorHVer1
namespace Go.Proofs.YtpkfppfdkdjlhaaDoor.D
open Go Go.Proofs Go.RowKit Go.Proofs.YtpkfppfdkdjlhaaDoorW.PrintWords Go.Proofs.YtpkfppfdkdjlhaaDoorW.PrintLast Go.Proofs.YtpkfppfdkdjlhaaDoorW.PrintMore
set_option linter.unusedVariables false
set_option linter.unusedSimpArgs false

def symB (s : ByteArray) : Bool := rightB ⟨4, s, [], []⟩ 64
def bnd (nI nD nN : Int) (op : Int) : Int × Int :=
  if op = 1 then (nD, 1) else if op = 3 ∨ op = 5 ∨ op = 6 then (nN, 1) else if op = 2 ∨ op = 4 then (101, 17) else if op = 7 ∨ op = 8 ∨ op = 10 then (nI, 1) else if op = 9 then (nI, 34) else if op = 12 then (256, 1) else if op = 11 ∨ op = 13 ∨ op = 14 then (1, 1) else (0, 0)
def insB (nI nD nN : Int) (x : S40) : Bool := decide (0 ≤ x.f1) && decide (x.f1 < (bnd nI nD nN x.f0).1) && decide (0 ≤ x.f2) && decide (x.f2 < (bnd nI nD nN x.f0).2)
def lastB (x : S40) : Bool := (decide (x.f0 = 14) && decide (x.f1 = 0) && decide (x.f2 = 0)) || (decide (x.f0 = 13) && decide (x.f1 = 0) && decide (x.f2 = 0)) || decide (x.f0 = 7) || decide (x.f0 = 12)
def verB (I : List S40) (D : List S42) (Nm : List ByteArray) : Bool :=
  decide (1 ≤ I.length) && decide (I.length ≤ 20000) && rightL D 64 && Nm.all symB && I.all (insB I.length D.length Nm.length) && lastB (rd_T40 I (I.length - 1 : Int))
def verR (I : List S40) (D : List S42) (Nm : List ByteArray) : Int := if verB I D Nm = true then 0 else 130
theorem verR_no {I : List S40} {D : List S42} {Nm : List ByteArray} (h : verB I D Nm = false) : verR I D Nm = 130 := by unfold verR; rw [h]; rfl
theorem verR_yes {I : List S40} {D : List S42} {Nm : List ByteArray} (h : verB I D Nm = true) : verR I D Nm = 0 := by unfold verR; rw [h]; rfl

structure CodeAt (w : World) (I : List S40) (D : List S42) (Nm : List ByteArray) (A0 A1 A2 : Option Addr) (c0 c1 c2 : Nat) : Prop where
  i : Kd.C k40 w A0 I.length I
  ic : I.length ≤ c0
  d : Kd.C k42 w A1 D.length D
  dc : D.length ≤ c1
  n : Kd.C Kd.string w A2 Nm.length Nm
  nc : Nm.length ≤ c2
theorem CodeAt.below {w w' : World} {I : List S40} {D : List S42} {Nm : List ByteArray} {A0 A1 A2 : Option Addr} {c0 c1 c2 : Nat} (h : CodeAt w I D Nm A0 A1 A2 c0 c1 c2) (hb : Below w.heap.size w w') : CodeAt w' I D Nm A0 A1 A2 c0 c1 c2 :=
  ⟨Kd.C_below h.i hb, h.ic, Kd.C_below h.d hb, h.dc, Kd.C_below h.n hb, h.nc⟩

set_option maxRecDepth 100000 in
set_option maxHeartbeats 2000000 in
theorem verify_len (I : List S40) (D : List S42) (Nm : List ByteArray) (A0 A1 A2 : Option Addr) (c0 c1 c2 : Nat) (w : World) (h : CodeAt w I D Nm A0 A1 A2 c0 c1 c2) (hbad : I.length < 1 ∨ 20000 < I.length) :
    Calls Tryd.prog 6 #[.agg #[.slice A0 I.length c0, .slice A1 D.length c1, .slice A2 Nm.length c2]] w fun e w' => e = .returned (.int .i64 130) ∧ Below w.heap.size w w' := by
  have hm := Kd.C_max h.i
  have hu26 := Tryd.underlying26
  clear h
  rcases hbad with hb | hb
  · have h0 : I.length = 0 := by omega
    have h1 : decide (((0 : Nat) : Int) < 1) = true := by decide
    rw [h0]
    go_enter Tryd.func6, Tryd.ntmps6
    go_wp2
    go_ret
    exact ⟨rfl, (Below.refl _ _).alloc (Nat.le_refl _) _⟩
  · have h1 : ¬ ((I.length : Int) < 1) := by omega
    have h2 : (20000 : Int) < (I.length : Int) := by omega
    go_enter Tryd.func6, Tryd.ntmps6
    go_wp2
    go_ret
    exact ⟨rfl, (Below.refl _ _).alloc (Nat.le_refl _) _⟩

theorem sym_f (s : ByteArray) (hs : s.size ≤ 9223372036854775807) : code_symbol.f s = some (symB s) := by
  have hfit : Fit ⟨4, s, [], []⟩ := ⟨by decide, hs, Nat.zero_le _, Nat.zero_le _, trivial, trivial⟩
  simp only [code_symbol.f]
  rw [can_f ⟨4, s, [], []⟩ hfit]
  rfl

set_option maxHeartbeats 1000000 in
theorem bounds_f (I : List S40) (D : List S42) (Nm : List ByteArray) (op : Int) : code_bounds.f (0 + 1 + 1 + 1) I D Nm op = some (bnd I.length D.length Nm.length op) := by
  by_cases h1 : op = 1
  · subst h1; simp [code_bounds.f, bnd]
  by_cases h3 : op = 3
  · subst h3; simp [code_bounds.f, code_bounds.j0, bnd]
  by_cases h5 : op = 5
  · subst h5; simp [code_bounds.f, code_bounds.j0, bnd]
  by_cases h6 : op = 6
  · subst h6; simp [code_bounds.f, code_bounds.j0, bnd]
  by_cases h2 : op = 2
  · subst h2; simp [code_bounds.f, code_bounds.j0, code_bounds.j1, bnd]
  by_cases h4 : op = 4
  · subst h4; simp [code_bounds.f, code_bounds.j0, code_bounds.j1, bnd]
  by_cases h7 : op = 7
  · subst h7; simp [code_bounds.f, code_bounds.j0, code_bounds.j1, code_bounds.j2, bnd]
  by_cases h8 : op = 8
  · subst h8; simp [code_bounds.f, code_bounds.j0, code_bounds.j1, code_bounds.j2, bnd]
  by_cases h10 : op = 10
  · subst h10; simp [code_bounds.f, code_bounds.j0, code_bounds.j1, code_bounds.j2, bnd]
  by_cases h9 : op = 9
  · subst h9; simp [code_bounds.f, code_bounds.j0, code_bounds.j1, code_bounds.j2, bnd]
  by_cases h12 : op = 12
  · subst h12; simp [code_bounds.f, code_bounds.j0, code_bounds.j1, code_bounds.j2, bnd]
  by_cases h11 : op = 11
  · subst h11; simp [code_bounds.f, code_bounds.j0, code_bounds.j1, code_bounds.j2, bnd]
  by_cases h13 : op = 13
  · subst h13; simp [code_bounds.f, code_bounds.j0, code_bounds.j1, code_bounds.j2, bnd]
  by_cases h14 : op = 14
  · subst h14; simp [code_bounds.f, code_bounds.j0, code_bounds.j1, code_bounds.j2, bnd]
  simp [code_bounds.f, code_bounds.j0, code_bounds.j1, code_bounds.j2, bnd, h1, h2, h3, h4, h5, h6, h7, h8, h9, h10, h11, h12, h13, h14]
theorem bnd_fits (a b c op : Int) (ha : 0 ≤ a ∧ a ≤ 9223372036854775807) (hb : 0 ≤ b ∧ b ≤ 9223372036854775807) (hc : 0 ≤ c ∧ c ≤ 9223372036854775807) : (0 ≤ (bnd a b c op).1 ∧ (bnd a b c op).1 ≤ 9223372036854775807) ∧ 0 ≤ (bnd a b c op).2 ∧ (bnd a b c op).2 ≤ 101 := by
  unfold bnd
  repeat' split
  all_goals simp
  all_goals omega

set_option maxRecDepth 100000 in
set_option maxHeartbeats 4000000 in
theorem verify_go (I : List S40) (D : List S42) (Nm : List ByteArray) (hfit : ∀ i : Nat, i < D.length → Fit (rd_T42 D i)) (hns : ∀ s ∈ Nm, s.size ≤ 9223372036854775807) (A0 A1 A2 : Option Addr) (c0 c1 c2 : Nat) (w : World) (h : CodeAt w I D Nm A0 A1 A2 c0 c1 c2) (hl1 : 1 ≤ I.length) (hl2 : I.length ≤ 20000) :
    Calls Tryd.prog 6 #[.agg #[.slice A0 I.length c0, .slice A1 D.length c1, .slice A2 Nm.length c2]] w fun e w' => e = .returned (.int .i64 (verR I D Nm)) ∧ Below w.heap.size w w' := by
  have hu26 := Tryd.underlying26
  have hmN := Kd.C_max h.n
  have hB0 : Below w.heap.size w (w.alloc (.cells #[.slice A0 I.length c0, .slice A1 D.length c1, .slice A2 Nm.length c2] 26)) := (Below.refl _ w).alloc (Nat.le_refl _) _
  have hbx := blk_new w (.cells #[.slice A0 I.length c0, .slice A1 D.length c1, .slice A2 Nm.length c2] 26)
  have H := Aside0.mk h
  have HF := Aside0.mk hfit
  have HNS := Aside0.mk hns
  have HB0 := Aside0.mk hB0
  have HBX := Aside0.mk hbx
  clear h hfit hns hB0 hbx
  have g1 : ¬ ((I.length : Int) < 1) := by omega
  have g2 : ¬ ((20000 : Int) < (I.length : Int)) := by omega
  have hcon := fun (W : World) (hb : Below w.heap.size w W) => containsg D HF.out A1 c1 W (Kd.C_below H.out.d hb)
  cases hd : rightL D 64 with
  | false =>
    have hv : verB I D Nm = false := by unfold verB; rw [hd]; simp
    rw [hd] at hcon
    have HCON := Aside0.mk (show ∀ (W : World), Below w.heap.size w W → Calls Tryd.prog 20 #[.slice A1 D.length c1, .func (.func 18) #[] #[]] W fun e w' => e = .returned (.bool true) ∧ Below W.heap.size W w' from hcon)
    rw [verR_no hv]
    clear hv hd hcon
    go_enter Tryd.func6, Tryd.ntmps6
    go_wp2_with (go_at_call 20; refine (HCON.out _ HB0.out).mono ?_; rintro e w2 ⟨rfl, hB2⟩)
    go_ret
    exact ⟨rfl, HB0.out.trans (hB2.mono HB0.out.size)⟩
  | true =>
    rw [hd] at hcon
    have HCON := Aside0.mk (show ∀ (W : World), Below w.heap.size w W → Calls Tryd.prog 20 #[.slice A1 D.length c1, .func (.func 18) #[] #[]] W fun e w' => e = .returned (.bool false) ∧ Below W.heap.size W w' from hcon)
    have hv : verB I D Nm = (Nm.all symB && I.all (insB I.length D.length Nm.length) && lastB (rd_T40 I (I.length - 1 : Int))) := by
      unfold verB; rw [hd, decide_eq_true hl1, decide_eq_true hl2]; rfl
    have HV := Aside0.mk hv
    clear hv hd hcon
    go_enter Tryd.func6, Tryd.ntmps6
    go_wp2_with (
      go_at_call 20; refine (HCON.out _ HB0.out).mono ?_; rintro e w2 ⟨rfl, hB2⟩
      have hbx2 := blk_below HBX.out hB2
      have x0 : w2.cell? ⟨w.heap.size, 0, none⟩ = some (.slice A0 I.length c0) := blk_cell hbx2 0
      have x1 : w2.cell? ⟨w.heap.size, 1, none⟩ = some (.slice A1 D.length c1) := blk_cell hbx2 1
      have x2 : w2.cell? ⟨w.heap.size, 2, none⟩ = some (.slice A2 Nm.length c2) := blk_cell hbx2 2
      have HBX2 := Aside0.mk hbx2
      have HB2 := Aside0.mk (HB0.out.trans (hB2.mono HB0.out.size))
      clear hbx2 hB2)
    clear x0 x1 x2
    have HC2 := Aside0.mk (H.out.below HB2.out)
    go_loopw [30] (fun v wr => ∃ k : Nat, v = .int .i64 k ∧ Aside0 (k ≤ Nm.length) ∧ Aside0 (∀ j : Nat, j < k → symB (rdOf ByteArray.empty Nm j) = true) ∧ Aside0 (Below w2.heap.size w2 wr)) (fun v wr => Nm.length - (intOf v).toNat)
    case atStart => exact ⟨0, rfl, ⟨Nat.zero_le _⟩, ⟨fun j h => by omega⟩, ⟨Below.refl _ _⟩⟩
    case round =>
      obtain ⟨k, rfl, hk, hs, HB⟩ := hrel
      by_cases hlt : k < Nm.length
      · obtain ⟨ad, rfl, hx⟩ := Kd.at_string HC2.out.n k (by omega) (by omega)
        have hx' := (HB.out.cell (World.block_lt_of_cell? w2 _ hx)).trans hx
        simp only [Int.toNat_natCast] at hx'
        have hltb : decide ((k : Int) < (Nm.length : Int)) = true := decide_eq_true (by omega)
        have hmem : rdOf ByteArray.empty Nm (k : Int) ∈ Nm := by
          simp only [rdOf, Int.toNat_natCast, List.getD_eq_getElem?_getD, List.getElem?_eq_getElem hlt, Option.getD_some]
          exact List.getElem_mem hlt
        have hsf := sym_f _ (HNS.out _ hmem)
        obtain ⟨s, hsd⟩ : ∃ s, s = rdOf ByteArray.empty Nm (k : Int) := ⟨_, rfl⟩
        rw [← hsd] at hx' hsf
        have HSD := Aside0.mk hsd
        have HMEM := Aside0.mk hmem
        clear hx hmem hsd
        cases hsy : symB s with
        | false =>
          rw [hsy] at hsf
          have HSF := Aside0.mk hsf
          have hv0 : verB I D Nm = false := by
            rw [HV.out, show Nm.all symB = false from by
              rw [List.all_eq_false]
              exact ⟨_, HMEM.out, by rw [← HSD.out, hsy]; decide⟩]
            rfl
          have HV0 := Aside0.mk (verR_no hv0)
          clear hv0 hsy hsf
          go_wp2_with (go_at_call 21; refine (code_symbol.calls s false wr HSF.out).mono ?_; rintro e w3 ⟨rfl, hB3⟩)
          go_ret
          exact ⟨by rw [HV0.out]; rfl, (HB2.out.trans (HB.out.mono HB2.out.size)).trans (hB3.mono (Nat.le_trans HB2.out.size HB.out.size))⟩
        | true =>
          rw [hsy] at hsf
          have HSF := Aside0.mk hsf
          have hs' : ∀ j : Nat, j < k + 1 → symB (rdOf ByteArray.empty Nm j) = true := fun j hj => by
            rcases Nat.lt_or_ge j k with h | h
            · exact hs.out j h
            · obtain rfl : j = k := by omega
              rw [← HSD.out, hsy]
          have HS' := Aside0.mk hs'
          clear hs' hsy hsf
          go_wp2_with (go_at_call 21; refine (code_symbol.calls s true wr HSF.out).mono ?_; rintro e w3 ⟨rfl, hB3⟩)
          have HB3 := Aside0.mk (HB.out.trans (hB3.mono HB.out.size))
          clear hB3
          go_roundw
          case rel => exact ⟨k + 1, by go_num, ⟨hlt⟩, HS', HB3⟩
          case measure => simp [intOf]; omega
      · have hltb : decide ((k : Int) < (Nm.length : Int)) = false := decide_eq_false (by omega)
        have hbx3 := blk_below HBX2.out HB.out
        have x0 : wr.cell? ⟨w.heap.size, 0, none⟩ = some (.slice A0 I.length c0) := blk_cell hbx3 0
        have HBX3 := Aside0.mk hbx3
        clear hbx3
        go_wp2_with fail
        have hall : Nm.all symB = true := List.all_eq_true.2 fun x hx => by
          obtain ⟨j, hj, rfl⟩ := List.getElem_of_mem hx
          have := hs.out j (by omega)
          simpa only [rdOf, Int.toNat_natCast, List.getD_eq_getElem?_getD, List.getElem?_eq_getElem hj, Option.getD_some] using this
        have HV2 := Aside0.mk (show verB I D Nm = (I.all (insB I.length D.length Nm.length) && lastB (rd_T40 I (I.length - 1 : Int))) by rw [HV.out, hall]; rfl)
        have HBn := Aside0.mk (HB2.out.trans (HB.out.mono HB2.out.size))
        have HCn := Aside0.mk (H.out.below HBn.out)
        clear hall hs HV x0 HB hk
        obtain ⟨wn, hwn⟩ : ∃ wn, wn = wr := ⟨_, rfl⟩
        subst hwn
        have hszn := HBn.out.size
        have hcod := blk_lt HBX3.out
        have HSZ := Aside0.mk hcod
        clear hszn hcod
        go_loopw [41] (fun v wr => ∃ k : Nat, v = .int .i64 k ∧ Aside0 (k ≤ I.length) ∧ Aside0 (∀ j : Nat, j < k → insB I.length D.length Nm.length (rd_T40 I j) = true) ∧ Aside0 (Below wn.heap.size wn wr)) (fun v wr => I.length - (intOf v).toNat)
        case atStart => exact ⟨0, rfl, ⟨Nat.zero_le _⟩, ⟨fun j h => by omega⟩, ⟨Below.refl _ _⟩⟩
        case round =>
          obtain ⟨k, rfl, hk, hs, HB⟩ := hrel
          by_cases hlt : k < I.length
          · obtain ⟨ad, rfl, y0, y1, y2⟩ := at_T40 HCn.out.i k (by omega) (by omega)
            have z0 := (HB.out.cell (World.block_lt_of_cell? wn _ y0)).trans y0
            have z1 := (HB.out.cell (World.block_lt_of_cell? wn _ y1)).trans y1
            have z2 := (HB.out.cell (World.block_lt_of_cell? wn _ y2)).trans y2
            simp only [Int.toNat_natCast] at z0 z1 z2
            clear y0 y1 y2
            obtain ⟨x, hx⟩ : ∃ x, x = rd_T40 I (k : Int) := ⟨_, rfl⟩
            rw [← hx] at z0 z1 z2
            have HX := Aside0.mk hx
            have hltb : decide ((k : Int) < (I.length : Int)) = true := decide_eq_true (by omega)
            have hb := bounds_f I D Nm x.f0
            obtain ⟨ba, hba⟩ : ∃ b, b = (bnd I.length D.length Nm.length x.f0).1 := ⟨_, rfl⟩
            obtain ⟨bb, hbb⟩ : ∃ b, b = (bnd I.length D.length Nm.length x.f0).2 := ⟨_, rfl⟩
            rw [show bnd I.length D.length Nm.length x.f0 = (ba, bb) by rw [hba, hbb]] at hb
            have HBF := Aside0.mk hb
            have HIB := Aside0.mk (show insB I.length D.length Nm.length x = (decide (0 ≤ x.f1) && decide (x.f1 < ba) && decide (0 ≤ x.f2) && decide (x.f2 < bb)) by unfold insB; rw [hba, hbb])
            have HA := Aside0.mk (blk_new wr (.cells #[.int .i64 x.f0, .int .i64 x.f1, .int .i64 x.f2] 40))
            have hbxr := blk_alloc (blk_below HBX3.out HB.out) (.cells #[.int .i64 x.f0, .int .i64 x.f1, .int .i64 x.f2] 40)
            have v0 : (wr.alloc (.cells #[.int .i64 x.f0, .int .i64 x.f1, .int .i64 x.f2] 40)).cell? ⟨w.heap.size, 0, none⟩ = some (.slice (some ad) I.length c0) := blk_cell hbxr 0
            have v1 : (wr.alloc (.cells #[.int .i64 x.f0, .int .i64 x.f1, .int .i64 x.f2] 40)).cell? ⟨w.heap.size, 1, none⟩ = some (.slice A1 D.length c1) := blk_cell hbxr 1
            have v2 : (wr.alloc (.cells #[.int .i64 x.f0, .int .i64 x.f1, .int .i64 x.f2] 40)).cell? ⟨w.heap.size, 2, none⟩ = some (.slice A2 Nm.length c2) := blk_cell hbxr 2
            clear hx hb hba hbb hbxr
            go_wp2_with fail
            clear v0 v1 v2 z0 z1 z2
            have hCa := (HCn.out.below HB.out).below (show Below wr.heap.size wr (wr.alloc (.cells #[.int .i64 x.f0, .int .i64 x.f1, .int .i64 x.f2] 40)) from (Below.refl _ wr).alloc (Nat.le_refl _) _)
            refine (code_bounds.calls (0 + 1 + 1 + 1) (some ad) c0 I A1 c1 D A2 c2 Nm x.f0 ba bb _ hCa.i hCa.ic hCa.d hCa.dc hCa.n hCa.nc HBF.out).mono ?_
            rintro e w4 ⟨rfl, hB4⟩
            have hbx4 := blk_below HA.out hB4
            have y0 : w4.cell? ⟨wr.heap.size, 0, none⟩ = some (.int .i64 x.f0) := blk_cell hbx4 0
            have y1 : w4.cell? ⟨wr.heap.size, 1, none⟩ = some (.int .i64 x.f1) := blk_cell hbx4 1
            have y2 : w4.cell? ⟨wr.heap.size, 2, none⟩ = some (.int .i64 x.f2) := blk_cell hbx4 2
            have HB4 := Aside0.mk (HB.out.trans ((((Below.refl wr.heap.size wr).alloc (Nat.le_refl _) (.cells #[.int .i64 x.f0, .int .i64 x.f1, .int .i64 x.f2] 40)).trans (hB4.mono (by simp))).mono HB.out.size))
            have HBfin := Aside0.mk (HBn.out.trans (HB4.out.mono HBn.out.size))
            have hmem : rd_T40 I (k : Int) ∈ I := by
              simp only [rd_T40, Int.toNat_natCast, List.getD_eq_getElem?_getD, List.getElem?_eq_getElem hlt, Option.getD_some]
              exact List.getElem_mem hlt
            have hno : insB I.length D.length Nm.length x = false → verR I D Nm = 130 := fun h0 => verR_no (by
              rw [HV2.out, show I.all (insB I.length D.length Nm.length) = false from by
                rw [List.all_eq_false]
                exact ⟨_, hmem, by rw [← HX.out, h0]; decide⟩]
              rfl)
            have HNO := Aside0.mk hno
            clear hCa hbx4 hB4 hno hmem
            by_cases p1 : x.f1 < 0
            · have HV0 := Aside0.mk (HNO.out (by rw [HIB.out, decide_eq_false (by omega)]; rfl))
              go_wp2_with fail
              go_ret
              exact ⟨by rw [HV0.out]; rfl, HBfin.out⟩
            by_cases p2 : ba ≤ x.f1
            · have HV0 := Aside0.mk (HNO.out (by rw [HIB.out, decide_eq_false (show ¬ x.f1 < ba by omega)]; simp))
              go_wp2_with fail
              go_ret
              exact ⟨by rw [HV0.out]; rfl, HBfin.out⟩
            by_cases p3 : x.f2 < 0
            · have HV0 := Aside0.mk (HNO.out (by rw [HIB.out, decide_eq_false (show ¬ 0 ≤ x.f2 by omega)]; simp))
              go_wp2_with fail
              go_ret
              exact ⟨by rw [HV0.out]; rfl, HBfin.out⟩
            by_cases p4 : bb ≤ x.f2
            · have HV0 := Aside0.mk (HNO.out (by rw [HIB.out, decide_eq_false (show ¬ x.f2 < bb by omega)]; simp))
              go_wp2_with fail
              go_ret
              exact ⟨by rw [HV0.out]; rfl, HBfin.out⟩
            have hs' : ∀ j : Nat, j < k + 1 → insB I.length D.length Nm.length (rd_T40 I j) = true := fun j hj => by
              rcases Nat.lt_or_ge j k with h | h
              · exact hs.out j h
              · obtain rfl : j = k := by omega
                rw [← HX.out, HIB.out, decide_eq_true (show 0 ≤ x.f1 by omega), decide_eq_true (show x.f1 < ba by omega), decide_eq_true (show 0 ≤ x.f2 by omega), decide_eq_true (show x.f2 < bb by omega)]
                rfl
            have HS' := Aside0.mk hs'
            clear hs'
            go_wp2_with fail
            go_roundw
            case rel => exact ⟨k + 1, by go_num, ⟨hlt⟩, HS', HB4⟩
            case measure => simp [intOf]; omega
          · obtain rfl : k = I.length := by have := hk.out; omega
            have hltb : decide ((I.length : Int) < (I.length : Int)) = false := decide_eq_false (by omega)
            have hbxr := blk_below HBX3.out HB.out
            have v0 : wr.cell? ⟨w.heap.size, 0, none⟩ = some (.slice A0 I.length c0) := blk_cell hbxr 0
            obtain ⟨ad, rfl, y0, y1, y2⟩ := at_T40 HCn.out.i ((I.length : Int) - 1) (by omega) (by omega)
            have z0 := (HB.out.cell (World.block_lt_of_cell? wn _ y0)).trans y0
            have z1 := (HB.out.cell (World.block_lt_of_cell? wn _ y1)).trans y1
            have z2 := (HB.out.cell (World.block_lt_of_cell? wn _ y2)).trans y2
            have et : ((I.length : Int) - 1).toNat = I.length - 1 := by omega
            rw [et] at z0 z1 z2
            obtain ⟨x, hx⟩ : ∃ x, x = rd_T40 I ((I.length : Int) - 1) := ⟨_, rfl⟩
            rw [← hx] at z0 z1 z2
            have hall : I.all (insB I.length D.length Nm.length) = true := List.all_eq_true.2 fun x hx => by
              obtain ⟨j, hj, rfl⟩ := List.getElem_of_mem hx
              have := hs.out j (by omega)
              simpa only [rd_T40, Int.toNat_natCast, List.getD_eq_getElem?_getD, List.getElem?_eq_getElem hj, Option.getD_some] using this
            have HV3 := Aside0.mk (show verB I D Nm = lastB x by rw [HV2.out, hall, hx]; rfl)
            have HBfin := Aside0.mk (HBn.out.trans (HB.out.mono HBn.out.size))
            clear y0 y1 y2 hx hall hbxr hs
            by_cases e0 : x.f0 = 14
            · by_cases e1 : x.f1 = 0
              · by_cases e2 : x.f2 = 0
                · have HV0 := Aside0.mk (verR_yes (I := I) (D := D) (Nm := Nm) (by rw [HV3.out]; unfold lastB; simp [e0, e1, e2]))
                  go_wp2_with fail
                  go_ret
                  exact ⟨by rw [HV0.out]; rfl, HBfin.out.alloc HBfin.out.size _⟩
                · have HV0 := Aside0.mk (verR_no (I := I) (D := D) (Nm := Nm) (by rw [HV3.out]; unfold lastB; simp [e0, e1, e2]))
                  go_wp2_with fail
                  go_ret
                  exact ⟨by rw [HV0.out]; rfl, HBfin.out.alloc HBfin.out.size _⟩
              · have HV0 := Aside0.mk (verR_no (I := I) (D := D) (Nm := Nm) (by rw [HV3.out]; unfold lastB; simp [e0, e1]))
                go_wp2_with fail
                go_ret
                exact ⟨by rw [HV0.out]; rfl, HBfin.out.alloc HBfin.out.size _⟩
            by_cases e0' : x.f0 = 13
            · clear e0
              have e0 := e0'
              clear e0'
              by_cases e1 : x.f1 = 0
              · by_cases e2 : x.f2 = 0
                · have HV0 := Aside0.mk (verR_yes (I := I) (D := D) (Nm := Nm) (by rw [HV3.out]; unfold lastB; simp [e0, e1, e2]))
                  go_wp2_with fail
                  go_ret
                  exact ⟨by rw [HV0.out]; rfl, HBfin.out.alloc HBfin.out.size _⟩
                · have HV0 := Aside0.mk (verR_no (I := I) (D := D) (Nm := Nm) (by rw [HV3.out]; unfold lastB; simp [e0, e1, e2]))
                  go_wp2_with fail
                  go_ret
                  exact ⟨by rw [HV0.out]; rfl, HBfin.out.alloc HBfin.out.size _⟩
              · have HV0 := Aside0.mk (verR_no (I := I) (D := D) (Nm := Nm) (by rw [HV3.out]; unfold lastB; simp [e0, e1]))
                go_wp2_with fail
                go_ret
                exact ⟨by rw [HV0.out]; rfl, HBfin.out.alloc HBfin.out.size _⟩
            by_cases e7 : x.f0 = 7
            · have HV0 := Aside0.mk (verR_yes (I := I) (D := D) (Nm := Nm) (by rw [HV3.out]; unfold lastB; simp [e7]))
              go_wp2_with fail
              go_ret
              exact ⟨by rw [HV0.out]; rfl, HBfin.out.alloc HBfin.out.size _⟩
            by_cases e12 : x.f0 = 12
            · have HV0 := Aside0.mk (verR_yes (I := I) (D := D) (Nm := Nm) (by rw [HV3.out]; unfold lastB; simp [e12]))
              go_wp2_with fail
              go_ret
              exact ⟨by rw [HV0.out]; rfl, HBfin.out.alloc HBfin.out.size _⟩
            have e7' : (x.f0 == 7) = false := by simpa using e7
            have e12' : (x.f0 == 12) = false := by simpa using e12
            have HV0 := Aside0.mk (verR_no (I := I) (D := D) (Nm := Nm) (by rw [HV3.out]; unfold lastB; simp [e0, e0', e7, e12]))
            go_wp2_with fail
            go_ret
            exact ⟨by rw [HV0.out]; rfl, HBfin.out.alloc HBfin.out.size _⟩

theorem verify_calls (I : List S40) (D : List S42) (Nm : List ByteArray) (hfit : ∀ i : Nat, i < D.length → Fit (rd_T42 D i)) (hns : ∀ s ∈ Nm, s.size ≤ 9223372036854775807) (A0 A1 A2 : Option Addr) (c0 c1 c2 : Nat) (w : World) (h : CodeAt w I D Nm A0 A1 A2 c0 c1 c2) :
    Calls Tryd.prog 6 #[.agg #[.slice A0 I.length c0, .slice A1 D.length c1, .slice A2 Nm.length c2]] w fun e w' => e = .returned (.int .i64 (verR I D Nm)) ∧ Below w.heap.size w w' := by
  by_cases h1 : I.length < 1 ∨ 20000 < I.length
  · have hv : verB I D Nm = false := by
      unfold verB
      rcases h1 with h1 | h1
      · rw [decide_eq_false (show ¬ 1 ≤ I.length by omega)]; simp
      · rw [decide_eq_false (show ¬ I.length ≤ 20000 by omega)]; simp
    rw [verR_no hv]
    exact verify_len I D Nm A0 A1 A2 c0 c1 c2 w h h1
  · exact verify_go I D Nm hfit hns A0 A1 A2 c0 c1 c2 w h (by omega) (by omega)
end Go.Proofs.YtpkfppfdkdjlhaaDoor.D
