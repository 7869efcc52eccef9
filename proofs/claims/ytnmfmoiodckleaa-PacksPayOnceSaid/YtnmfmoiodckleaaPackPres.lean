/- Plain: each call keeps what holds of the state. -/
import Derived.Test.YtnmfmoiodckleaaPackInv
namespace Go.Proofs.Ytnmfmoiodckleaa
theorem Inv.setPk {T : List Inst} {s : PSt} (h : Inv T s) {j : Nat} {q q' : Int × Int × Bool} (hq : s.pk[j]? = some q) (he : q'.2.2 = q.2.2) : Inv T { s with pk := s.pk.set j q' } where
  pk := fun i x hx => by simpa using h.pk i x hx
  pr := h.pr
  sl := h.sl
  mark := fun i u hu => by
    simp only at hu ⊢
    rw [List.getElem?_set] at hu
    split at hu
    · rename_i hj
      subst hj
      split at hu
      · injection hu with hu; subst hu; rw [he]; exact h.mark _ q hq
      · cases hu
    · exact h.mark i u hu
  paid := h.paid
theorem act_inv {T : List Inst} {s : PSt} (h : Inv T s) (p t : Int) : Inv T (s.act p t).2 := by
  unfold PSt.act
  split
  · exact h
  · rename_i q hq
    split
    · exact h
    · split
      · exact h
      · unfold PSt.at_ at hq
        split at hq
        · cases hq
        · exact h.setPk hq rfl
theorem ret_inv {T : List Inst} {s : PSt} (h : Inv T s) (p t : Int) : Inv T (s.ret p t).2 := by
  unfold PSt.ret
  split
  · exact h
  · rename_i q hq
    split
    · exact h
    · split
      · exact h
      · split
        · exact h
        · split
          · exact h
          · unfold PSt.at_ at hq
            split at hq
            · cases hq
            · exact h.setPk hq rfl
theorem scratch_inv {T : List Inst} {s : PSt} (h : Inv T s) (c : ByteArray) (t : Int) : Inv T (s.scratch T c t).2 := by
  unfold PSt.scratch
  split
  · exact h
  split
  · exact h
  rename_i i hf
  split
  · exact h
  rename_i x hx
  split
  · exact h
  rename_i q hq
  split
  · exact h
  split
  · exact h
  split
  · exact h
  rename_i hb
  have hil : i < s.scr.length := by rw [h.sl]; exact (List.getElem?_eq_some_iff.1 hx).1
  have hbf : s.scr[i]? = some false := by
    rw [List.getElem?_eq_getElem hil]
    rw [List.getD_eq_getElem?_getD, List.getElem?_eq_getElem hil] at hb
    simpa using hb
  unfold PSt.at_ at hq
  split at hq
  · cases hq
  rename_i hp
  have hjl := (List.getElem?_eq_some_iff.1 hq).1
  exact {
    pk := fun i x hx => by simpa using h.pk i x hx
    pr := h.pr
    sl := by simpa using h.sl
    mark := fun k u hu => by
      simp only at hu ⊢
      rw [anyScr_set _ T s.scr i x hx hil]
      rw [List.getElem?_set] at hu
      split at hu
      · rename_i hj
        subst hj
        have hu := Option.some.inj (by simpa [hjl] using hu)
        subst hu
        have e : decide (x.pack = ((x.pack - 1).toNat : Int) + 1) = true := by simp; omega
        rw [e]; simp
      · rename_i hj
        have e : decide (x.pack = (k : Int) + 1) = false := by simp; omega
        rw [e, Bool.or_false]
        exact h.mark k u hu
    paid := by
      simp only
      rw [paidF_set T s.scr i x hx hbf, h.paid]
      split <;> rfl }
end Go.Proofs.Ytnmfmoiodckleaa
