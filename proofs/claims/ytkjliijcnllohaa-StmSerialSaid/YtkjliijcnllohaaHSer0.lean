/- StmSerial, the plain law: what an open transaction has read is what the slots had when it began, and what is published was read of slots that have not changed since. -/
namespace Go.Proofs.Ytkjliijcnllohaa.S
/-- A transaction begun at a time, over slots of a version and of bytes each: began, what was read, and which names it has noted. -/
structure SerI (ver : ByteArray → Int) (bs : ByteArray → List Int) (clock T : Int) (B : ByteArray → List Int) (mr : ByteArray → Bool) (R : ByteArray → Option (List Int)) : Prop where
  le : T ≤ clock
  old : ∀ n, ver n ≤ T → bs n = B n
  rd : ∀ n b, R n = some b → b = B n ∧ mr n = true
section
variable {ver ver' : ByteArray → Int} {bs bs' : ByteArray → List Int} {clock clock' T : Int} {B : ByteArray → List Int} {mr mr' : ByteArray → Bool} {R : ByteArray → Option (List Int)}
/-- A transaction just begun. -/
theorem SerI.start (ver : ByteArray → Int) (bs : ByteArray → List Int) (clock : Int) (mr : ByteArray → Bool) : SerI ver bs clock clock bs mr (fun _ => none) :=
  ⟨Int.le_refl _, fun _ _ => rfl, fun _ _ h => by cases h⟩
/-- What a call leaves that turns neither a version nor bytes. -/
theorem SerI.same (h : SerI ver bs clock T B mr R) (hv : ∀ n, ver' n = ver n) (hb : ∀ n, bs' n = bs n) (hm : ∀ n, mr n = true → mr' n = true) : SerI ver' bs' clock T B mr' R :=
  ⟨h.le, fun n hn => by rw [hb]; exact h.old n (by rw [← hv]; exact hn), fun n b hb' => ⟨(h.rd n b hb').1, hm n (h.rd n b hb').2⟩⟩
/-- What a Get gave is what the slot had when the transaction began. -/
theorem SerI.got (h : SerI ver bs clock T B mr R) {n : ByteArray} (hv : ver n ≤ T) : bs n = B n := h.old n hv
/-- A name read is noted. -/
theorem SerI.read (h : SerI ver bs clock T B mr R) {n : ByteArray} {b : List Int} (hv : ver n ≤ T) (hb : b = bs n) (hn : mr n = true) {R' : ByteArray → Option (List Int)} (hR : ∀ k, R' k = if k = n then some b else R k) : SerI ver bs clock T B mr R' :=
  ⟨h.le, h.old, fun k c hc => by
    rw [hR] at hc
    split at hc
    · rename_i e
      cases hc
      subst e
      exact ⟨hb.trans (h.old _ hv), hn⟩
    · exact h.rd k c hc⟩
/-- What a publish leaves: what was written has a version above every time. -/
theorem SerI.published (h : SerI ver bs clock T B mr R) {W : ByteArray → Bool} {wb : ByteArray → List Int} (hc : clock ≤ clock') (hv : ∀ n, ver' n = if W n = true then clock + 1 else ver n) (hb : ∀ n, bs' n = if W n = true then wb n else bs n) : SerI ver' bs' clock' T B mr R :=
  ⟨Int.le_trans h.le hc, fun n hn => by
    rw [hv] at hn
    rw [hb]
    split
    · rename_i e
      rw [if_pos e] at hn
      have := h.le
      omega
    · rename_i e
      rw [if_neg e] at hn
      exact h.old n hn, h.rd⟩
/-- A transaction that may publish has read what the slots have. -/
theorem SerI.serial (h : SerI ver bs clock T B mr R) (hg : ∀ n, mr n = true → ver n ≤ T) {n : ByteArray} {b : List Int} (hr : R n = some b) : bs n = b := by
  obtain ⟨h1, h2⟩ := h.rd n b hr
  rw [h1]
  exact h.old n (hg n h2)
end
end Go.Proofs.Ytkjliijcnllohaa.S
