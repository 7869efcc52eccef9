/- Plain: a call by its kind; what each law says of it. No program in sight. -/
import Derived.Test.YtnmfmoiodckleaaPackPres
import Derived.Test.YtnmfmoiodckleaaPackF
namespace Go.Proofs.Ytnmfmoiodckleaa
structure COp where
  kind : Int
  pack : Int
  at_ : Int
  code : ByteArray
def PSt.call (T : List Inst) (s : PSt) (o : COp) : (Int × Int) × PSt :=
  if o.kind = 1 then ((0, (s.act o.pack o.at_).1), (s.act o.pack o.at_).2)
  else if o.kind = 2 then ((0, (s.ret o.pack o.at_).1), (s.ret o.pack o.at_).2)
  else if o.kind = 3 then s.scratch T o.code o.at_
  else ((0, 5), s)
theorem call_inv {T : List Inst} {s : PSt} (h : Inv T s) (o : COp) : Inv T (s.call T o).2 := by
  unfold PSt.call
  split
  · exact act_inv h _ _
  split
  · exact ret_inv h _ _
  split
  · exact scratch_inv h _ _
  exact h
theorem inv_bd {T : List Inst} {s : PSt} (h : Inv T s) (hn : T.length ≤ 600) : (0 ≤ s.paid ∧ s.paid ≤ 600) ∧ (0 ≤ s.sum ∧ s.sum ≤ 600000000000000) := by
  have hbd := paidF_bd T s.scr h.pr
  rw [h.paid] at hbd
  simp only at hbd
  omega
/-! What an accepted call has seen. -/
theorem at_iff {s : PSt} {p : Int} {q : Int × Int × Bool} (h : s.at_ p = some q) : 1 ≤ p ∧ p ≤ s.pk.length ∧ s.pk[(p - 1).toNat]? = some q := by
  unfold PSt.at_ at h
  split at h
  · cases h
  · exact ⟨by omega, by omega, h⟩
theorem act_ok {s : PSt} {p t : Int} (h : (s.act p t).1 = 0) : ∃ q, s.at_ p = some q ∧ q.1 = 0 ∧ (s.act p t).2 = { s with pk := s.pk.set (p - 1).toNat (1, t, q.2.2) } := by
  unfold PSt.act at *
  split at h
  · simp at h
  · rename_i q hq
    split at h
    · simp at h
    · split at h
      · simp at h
      · rename_i h1 h2
        refine ⟨q, hq, Classical.not_not.1 h2, ?_⟩
        simp only [hq, h1, h2, if_false]; rfl
theorem ret_ok {s : PSt} {p t : Int} (h : (s.ret p t).1 = 0) : ∃ q, s.at_ p = some q ∧ q.1 = 1 ∧ (s.ret p t).2 = { s with pk := s.pk.set (p - 1).toNat (2, q.2.1, q.2.2) } := by
  unfold PSt.ret at *
  split at h
  · simp at h
  · rename_i q hq
    split at h
    · simp at h
    · split at h
      · simp at h
      · split at h
        · simp at h
        · split at h
          · simp at h
          · rename_i h1 h2 h3 h4
            refine ⟨q, hq, Classical.not_not.1 h2, ?_⟩
            simp only [hq, h1, h2, h3, h4, if_false]; rfl
theorem act_err {s : PSt} {p t : Int} (h : (s.act p t).1 ≠ 0) : (s.act p t).2 = s := by
  unfold PSt.act at *
  repeat' split
  all_goals first | rfl | (simp_all; done)
theorem ret_err {s : PSt} {p t : Int} (h : (s.ret p t).1 ≠ 0) : (s.ret p t).2 = s := by
  unfold PSt.ret at *
  repeat' split
  all_goals first | rfl | (simp_all; done)
theorem scratch_ok {T : List Inst} {s : PSt} {c : ByteArray} {t : Int} (h : (s.scratch T c t).1.2 = 0) :
    ∃ i x q, fnd T c = some i ∧ T[i]? = some x ∧ s.at_ x.pack = some q ∧ q.1 = 1 ∧ s.scr.getD i false = false ∧ (s.scratch T c t).1.1 = x.prize ∧
      (s.scratch T c t).2 = { pk := s.pk.set (x.pack - 1).toNat (q.1, q.2.1, true), scr := s.scr.set i true, paid := if 0 < x.prize then s.paid + 1 else s.paid, sum := if 0 < x.prize then s.sum + x.prize else s.sum } := by
  unfold PSt.scratch at h
  split at h
  · simp at h
  rename_i h0
  split at h
  · simp at h
  rename_i i hf
  split at h
  · simp at h
  rename_i x hx
  split at h
  · simp at h
  rename_i q hq
  split at h
  · simp at h
  rename_i h1
  split at h
  · simp at h
  rename_i h2
  split at h
  · simp at h
  rename_i h3
  refine ⟨i, x, q, hf, hx, hq, Classical.not_not.1 h1, by simpa using h3, ?_, ?_⟩
  · unfold PSt.scratch; simp only [h0, hf, hx, hq, h1, h2, h3, if_false]; rfl
  · unfold PSt.scratch; simp only [h0, hf, hx, hq, h1, h2, h3, if_false]; rfl
/-! Each code is paid once. -/
def Done (T : List Inst) (s : PSt) (D : List ByteArray) : Prop := ∀ c ∈ D, ∃ i, fnd T c = some i ∧ s.scr[i]? = some true
/-- A call that is no accepted scratch. -/
theorem call_other {T : List Inst} {s : PSt} {o : COp} (h : o.kind ≠ 3 ∨ (s.call T o).1.2 ≠ 0) : (s.call T o).2.scr = s.scr ∧ (s.call T o).2.paid = s.paid ∧ (s.call T o).2.sum = s.sum := by
  unfold PSt.call at *
  split
  · by_cases hk : (s.act o.pack o.at_).1 = 0
    · obtain ⟨q, _, _, e⟩ := act_ok hk; rw [e]; exact ⟨rfl, rfl, rfl⟩
    · rw [act_err hk]; exact ⟨rfl, rfl, rfl⟩
  split
  · by_cases hk : (s.ret o.pack o.at_).1 = 0
    · obtain ⟨q, _, _, e⟩ := ret_ok hk; rw [e]; exact ⟨rfl, rfl, rfl⟩
    · rw [ret_err hk]; exact ⟨rfl, rfl, rfl⟩
  split
  · rename_i h1 h2 h3
    simp only [h1, h2, h3, if_true, if_false, ne_eq, not_true_eq_false, false_or] at h
    rw [scratch_err T s o.code o.at_ h]; exact ⟨rfl, rfl, rfl⟩
  exact ⟨rfl, rfl, rfl⟩
theorem Done.other {T : List Inst} {s : PSt} {D : List ByteArray} {o : COp} (hD : Done T s D) (h : o.kind ≠ 3 ∨ (s.call T o).1.2 ≠ 0) : Done T (s.call T o).2 D := by
  intro c hc
  rw [(call_other h).1]
  exact hD c hc
theorem call_paid {T : List Inst} {s : PSt} {D : List ByteArray} {o : COp} (hI : Inv T s) (hD : Done T s D) (h3 : o.kind = 3) (h : (s.call T o).1.2 = 0) :
    ∃ i x, fnd T o.code = some i ∧ T[i]? = some x ∧ x.prize = (s.call T o).1.1 ∧ (s.call T o).2.state x.pack = 1 ∧ (∀ c ∈ D, c ≠ o.code) ∧ Done T (s.call T o).2 (D ++ [o.code]) ∧
      (s.call T o).2.paid = (if 0 < (s.call T o).1.1 then s.paid + 1 else s.paid) ∧ (s.call T o).2.sum = (if 0 < (s.call T o).1.1 then s.sum + (s.call T o).1.1 else s.sum) := by
  have e : s.call T o = s.scratch T o.code o.at_ := by unfold PSt.call; rw [if_neg (by omega), if_neg (by omega), if_pos h3]
  rw [e] at h ⊢
  obtain ⟨i, x, q, hf, hx, hq, h1, hb, hp, hs⟩ := scratch_ok h
  have hil : i < s.scr.length := by rw [hI.sl]; exact (List.getElem?_eq_some_iff.1 hx).1
  obtain ⟨p1, p2, hpk⟩ := at_iff hq
  rw [hs, hp]
  refine ⟨i, x, hf, hx, rfl, ?_, fun c hc e => ?_, fun c hc => ?_, rfl, rfl⟩
  · unfold PSt.state PSt.at_
    rw [if_neg (by simp; omega)]
    simp only
    rw [List.getElem?_set_self (List.getElem?_eq_some_iff.1 hpk).1]
    exact h1
  · obtain ⟨j, hj, hjb⟩ := hD c hc
    rw [e, hf] at hj
    injection hj with hj
    subst hj
    rw [List.getD_eq_getElem?_getD, hjb] at hb
    cases hb
  · simp only
    rcases List.mem_append.1 hc with hc | hc
    · obtain ⟨j, hj, hjb⟩ := hD c hc
      refine ⟨j, hj, ?_⟩
      rw [List.getElem?_set]
      split
      · rename_i e; subst e; simp [hil]
      · exact hjb
    · obtain rfl : c = o.code := by simpa using hc
      exact ⟨i, hf, List.getElem?_set_self hil⟩
/-! States only grow. -/
def sts (s : PSt) : List Int := 0 :: s.pk.map (·.1)
theorem sts_state {s : PSt} {i : Nat} (h : i < s.pk.length + 1) : (sts s)[i]? = some (s.state i) := by
  unfold sts PSt.state PSt.at_
  cases i with
  | zero => simp
  | succ i =>
    rw [if_neg (by omega)]
    have e : ((i + 1 : Nat) - 1 : Int).toNat = i := by omega
    rw [e, List.getElem?_cons_succ, List.getElem?_map]
    cases hq : s.pk[i]? with
    | none => rw [List.getElem?_eq_none_iff] at hq; omega
    | some q => rfl
theorem set_same {l : List (Int × Int × Bool)} {i : Nat} {q q' : Int × Int × Bool} (hq : l[i]? = some q) (he : q'.1 = q.1) : (l.set i q').map (·.1) = l.map (·.1) := by
  rw [List.map_set, he]
  apply List.ext_getElem?
  intro j
  rw [List.getElem?_set]
  split
  · rename_i hj; subst hj; have := (List.getElem?_eq_some_iff.1 hq); obtain ⟨h1, h2⟩ := this; simp [h1, h2]
  · rfl
theorem call_sts {T : List Inst} {s : PSt} {o : COp} :
    (s.call T o).2.pk.length = s.pk.length ∧ (((s.call T o).1.2 = 0 ∧ (o.kind = 1 ∨ o.kind = 2)) → 1 ≤ o.pack ∧ o.pack ≤ s.pk.length ∧ s.state o.pack = o.kind - 1 ∧ sts (s.call T o).2 = (sts s).set o.pack.toNat o.kind) ∧
      (¬ ((s.call T o).1.2 = 0 ∧ (o.kind = 1 ∨ o.kind = 2)) → sts (s.call T o).2 = sts s) := by
  have key : ∀ (q : Int × Int × Bool) (p : Int) (q' : Int × Int × Bool), s.at_ p = some q → 1 ≤ p ∧ p ≤ s.pk.length ∧ s.state p = q.1 ∧ (0 :: (s.pk.set (p - 1).toNat q').map (·.1)) = (sts s).set p.toNat q'.1 := by
    intro q p q' hq
    obtain ⟨p1, p2, hpk⟩ := at_iff hq
    refine ⟨p1, p2, ?_, ?_⟩
    · unfold PSt.state; rw [hq]
    · unfold sts
      rw [show p.toNat = (p - 1).toNat + 1 from by omega, List.set_cons_succ, List.map_set]
  unfold PSt.call
  split
  · rename_i h1
    by_cases hk : (s.act o.pack o.at_).1 = 0
    · obtain ⟨q, hq, h2, e⟩ := act_ok hk
      obtain ⟨k1, k2, k3, k4⟩ := key q o.pack (1, o.at_, q.2.2) hq
      rw [e]
      refine ⟨by simp, fun _ => ⟨k1, k2, by omega, ?_⟩, fun hn => absurd ⟨hk, .inl h1⟩ hn⟩
      rw [h1]; exact k4
    · rw [act_err hk]
      exact ⟨rfl, fun h => absurd h.1 hk, fun _ => rfl⟩
  split
  · rename_i h1
    by_cases hk : (s.ret o.pack o.at_).1 = 0
    · obtain ⟨q, hq, h2, e⟩ := ret_ok hk
      obtain ⟨k1, k2, k3, k4⟩ := key q o.pack (2, q.2.1, q.2.2) hq
      rw [e]
      refine ⟨by simp, fun _ => ⟨k1, k2, by omega, ?_⟩, fun hn => absurd ⟨hk, .inr h1⟩ hn⟩
      rw [h1]; exact k4
    · rw [ret_err hk]
      exact ⟨rfl, fun h => absurd h.1 hk, fun _ => rfl⟩
  rename_i h1 h2
  split
  · by_cases hk : (s.scratch T o.code o.at_).1.2 = 0
    · obtain ⟨i, x, q, _, _, hq, _, _, _, e⟩ := scratch_ok hk
      rw [e]
      refine ⟨by simp, fun h => by omega, fun _ => ?_⟩
      unfold sts
      simp only
      rw [set_same (q' := (q.1, q.2.1, true)) (at_iff hq).2.2 rfl]
    · rw [scratch_err T s o.code o.at_ hk]
      exact ⟨rfl, fun h => absurd h.1 hk, fun _ => rfl⟩
  · exact ⟨rfl, fun h => by simp at h, fun _ => rfl⟩
/-! Packs do not touch each other. -/
structure Same1 (T : List Inst) (s u : PSt) : Prop where
  pk : s.pk[0]? = u.pk[0]?
  np : s.pk.length = u.pk.length
  scr : ∀ (i : Nat) (x : Inst), T[i]? = some x → x.pack = 1 → s.scr.getD i false = u.scr.getD i false
theorem Same1.at1 {T : List Inst} {s u : PSt} (h : Same1 T s u) : s.at_ 1 = u.at_ 1 := by
  unfold PSt.at_
  rw [h.np, show ((1 : Int) - 1).toNat = 0 from rfl, h.pk]
theorem Same1.state {T : List Inst} {s u : PSt} (h : Same1 T s u) : s.state 1 = u.state 1 := by
  unfold PSt.state; rw [h.at1]
/-- What pack a call concerns. -/
def conc (T : List Inst) (o : COp) : Option Int :=
  if o.kind = 3 then (match fnd T o.code with
    | none => none
    | some i => (T[i]?).map (·.pack))
  else some o.pack
theorem set0 {l : List (Int × Int × Bool)} {p : Int} {q : Int × Int × Bool} (h1 : 1 ≤ p) (h : p ≠ 1) : (l.set (p - 1).toNat q)[0]? = l[0]? := by
  rw [List.getElem?_set, if_neg (by omega)]
theorem call_far {T : List Inst} {s : PSt} {o : COp} (h : conc T o ≠ some 1) : Same1 T (s.call T o).2 s := by
  have rf : Same1 T s s := ⟨rfl, rfl, fun _ _ _ _ => rfl⟩
  unfold conc at h
  unfold PSt.call
  split
  · rename_i h1
    rw [if_neg (by omega)] at h
    by_cases hk : (s.act o.pack o.at_).1 = 0
    · obtain ⟨q, hq, h2, e⟩ := act_ok hk
      rw [e]
      exact ⟨set0 (at_iff hq).1 (fun e => h (by rw [e])), by simp, fun _ _ _ _ => rfl⟩
    · rw [act_err hk]; exact rf
  split
  · rename_i h1
    rw [if_neg (by omega)] at h
    by_cases hk : (s.ret o.pack o.at_).1 = 0
    · obtain ⟨q, hq, h2, e⟩ := ret_ok hk
      rw [e]
      exact ⟨set0 (at_iff hq).1 (fun e => h (by rw [e])), by simp, fun _ _ _ _ => rfl⟩
    · rw [ret_err hk]; exact rf
  split
  · rename_i h1
    rw [if_pos h1] at h
    by_cases hk : (s.scratch T o.code o.at_).1.2 = 0
    · obtain ⟨i, x, q, hf, hx, hq, _, _, _, e⟩ := scratch_ok hk
      rw [hf] at h
      simp only [hx, Option.map_some, ne_eq, Option.some.injEq] at h
      rw [e]
      refine ⟨set0 (at_iff hq).1 h, by simp, fun j y hy hp => ?_⟩
      simp only
      rw [List.getD_eq_getElem?_getD, List.getD_eq_getElem?_getD, List.getElem?_set]
      split
      · rename_i ej; subst ej; rw [hx] at hy; injection hy with hy; subst hy; exact absurd hp h
      · rfl
    · rw [scratch_err T s o.code o.at_ hk]; exact rf
  · exact rf
theorem Same1.trans {T : List Inst} {s u v : PSt} (h : Same1 T s u) (k : Same1 T u v) : Same1 T s v := ⟨h.pk.trans k.pk, h.np.trans k.np, fun i x hx hp => (h.scr i x hx hp).trans (k.scr i x hx hp)⟩
theorem act_one {T : List Inst} {s u : PSt} {t : Int} (h : Same1 T s u) : (s.act 1 t).1 = (u.act 1 t).1 ∧ Same1 T (s.act 1 t).2 (u.act 1 t).2 := by
  unfold PSt.act
  rw [h.at1]
  split
  · exact ⟨rfl, h⟩
  split
  · exact ⟨rfl, h⟩
  split
  · exact ⟨rfl, h⟩
  refine ⟨rfl, ?_, by simp [h.np], h.scr⟩
  simp [List.getElem?_set, h.np]
theorem ret_one {T : List Inst} {s u : PSt} {t : Int} (h : Same1 T s u) : (s.ret 1 t).1 = (u.ret 1 t).1 ∧ Same1 T (s.ret 1 t).2 (u.ret 1 t).2 := by
  unfold PSt.ret
  rw [h.at1]
  split
  · exact ⟨rfl, h⟩
  split
  · exact ⟨rfl, h⟩
  split
  · exact ⟨rfl, h⟩
  split
  · exact ⟨rfl, h⟩
  split
  · exact ⟨rfl, h⟩
  refine ⟨rfl, ?_, by simp [h.np], h.scr⟩
  simp [List.getElem?_set, h.np]
theorem call_near {T : List Inst} {s u : PSt} {o : COp} (hs : s.scr.length = T.length) (hu : u.scr.length = T.length) (h : Same1 T s u) (hc : conc T o = some 1) :
    (s.call T o).1 = (u.call T o).1 ∧ Same1 T (s.call T o).2 (u.call T o).2 := by
  unfold conc at hc
  unfold PSt.call
  split
  · rw [if_neg (by omega)] at hc
    injection hc with hc
    rw [hc]
    obtain ⟨h1, h2⟩ := act_one (t := o.at_) h
    exact ⟨by rw [h1], h2⟩
  split
  · rw [if_neg (by omega)] at hc
    injection hc with hc
    rw [hc]
    obtain ⟨h1, h2⟩ := ret_one (t := o.at_) h
    exact ⟨by rw [h1], h2⟩
  split
  · rename_i h3
    rw [if_pos h3] at hc
    unfold PSt.scratch
    split
    · exact ⟨rfl, h⟩
    cases hf : fnd T o.code with
    | none => rw [hf] at hc; cases hc
    | some i =>
      rw [hf] at hc
      simp only at hc ⊢
      cases hx : T[i]? with
      | none => rw [hx] at hc; cases hc
      | some x =>
        rw [hx] at hc
        simp only [Option.map_some, Option.some.injEq] at hc ⊢
        rw [hc, h.at1]
        cases hq : u.at_ 1 with
        | none => exact ⟨rfl, h⟩
        | some q =>
          simp only
          rw [h.scr i x hx hc]
          split
          · exact ⟨rfl, h⟩
          split
          · exact ⟨rfl, h⟩
          split
          · exact ⟨rfl, h⟩
          refine ⟨rfl, ?_, by simp [h.np], fun j y hy hp => ?_⟩
          · simp [List.getElem?_set, h.np]
          · have hil := (List.getElem?_eq_some_iff.1 hx).1
            simp only
            rw [List.getD_eq_getElem?_getD, List.getD_eq_getElem?_getD, List.getElem?_set, List.getElem?_set]
            split
            · rw [if_pos (by omega), if_pos (by omega)]
            · have := h.scr j y hy hp
              rwa [List.getD_eq_getElem?_getD, List.getD_eq_getElem?_getD] at this
  · exact ⟨rfl, h⟩
end Go.Proofs.Ytnmfmoiodckleaa
