/- The reference's calls: State, Activate. -/
import Derived.Test.YtnmfmoiodckleaaRefC
namespace Go.Proofs.Ytnmfmoiodckleaa
open Go.RowKit
set_option maxRecDepth 100000
set_option linter.unusedSimpArgs false
section
variable {lo hi : Nat} {w w' : World} {y gl gs gt ga cl cs ct ca : Nat} {T : List Inst} {s : PSt}
theorem RObj.keep (h : RObj lo hi w y gl gs gt ga cl cs ct ca T s) (hs : w.heap.size ≤ w'.heap.size) (hb : ∀ k, lo ≤ k → k < hi → w'.heap[k]? = w.heap[k]?) : RObj lo hi w' y gl gs gt ga cl cs ct ca T s :=
  { h with top := Nat.le_trans h.top hs, ry := (by obtain ⟨p0, p1, p3, p4, hr⟩ := h.ry; exact ⟨p0, p1, p3, p4, hr.of_block (hb _ h.by_.1 h.by_.2)⟩), rl := h.rl.of_block (hb _ h.bl.1 h.bl.2), rs := h.rs.of_block (hb _ h.bs.1 h.bs.2), rt := h.rt.of_block (hb _ h.bt.1 h.bt.2), ra := h.ra.of_block (hb _ h.ba.1 h.ba.2) }
theorem RObj.below (h : RObj lo hi w y gl gs gt ga cl cs ct ca T s) (hb : Below w.heap.size w w') : RObj lo hi w' y gl gs gt ga cl cs ct ca T s :=
  h.keep hb.size fun k _ h2 => hb.block k (Nat.lt_of_lt_of_le h2 h.top)
theorem RObj.only {lo' hi' : Nat} (h : RObj lo hi w y gl gs gt ga cl cs ct ca T s) (ho : Only lo' hi' w w') (hr : hi ≤ lo' ∨ hi' ≤ lo) : RObj lo hi w' y gl gs gt ga cl cs ct ca T s :=
  h.keep ho.size fun k h1 h2 => ho.block k (Nat.lt_of_lt_of_le h2 h.top) (by omega)
/-- The object's own cells. -/
theorem RObj.cells (h : RObj lo hi w y gl gs gt ga cl cs ct ca T s) :
    w.cell? ⟨y, 2, none⟩ = some (.int .i64 s.pk.length) ∧ w.cell? ⟨y, 5, none⟩ = some (.slice (some ⟨gl, 0, none⟩) T.length cl) ∧ w.cell? ⟨y, 6, none⟩ = some (.slice (some ⟨gs, 0, none⟩) s.scr.length cs) ∧
      w.cell? ⟨y, 7, none⟩ = some (.slice (some ⟨gt, 0, none⟩) s.pk.length ct) ∧ w.cell? ⟨y, 8, none⟩ = some (.slice (some ⟨ga, 0, none⟩) s.pk.length ca) := by
  obtain ⟨p0, p1, p3, p4, hr⟩ := h.ry
  exact ⟨hr.cell (i := 2) rfl, hr.cell (i := 5) rfl, hr.cell (i := 6) rfl, hr.cell (i := 7) rfl, hr.cell (i := 8) rfl⟩
theorem RObj.stc (h : RObj lo hi w y gl gs gt ga cl cs ct ca T s) {i : Nat} {q : Int × Int × Bool} (hq : s.pk[i]? = some q) : w.cell? ⟨gt, i, none⟩ = some (.int .i64 q.1) ∧ w.cell? ⟨ga, i, none⟩ = some (.int .i64 q.2.1) :=
  ⟨h.rt.cell (by rw [List.getElem?_map, hq]; rfl), h.ra.cell (by rw [List.getElem?_map, hq]; rfl)⟩
theorem RObj.setT (h : RObj lo hi w y gl gs gt ga cl cs ct ca T s) {i : Nat} (q' : Int × Int × Bool) {q : Int × Int × Bool} (hq : s.pk[i]? = some q) (he : q'.2.1 = q.2.1) :
    RObj lo hi (w.setCell ⟨gt, i, none⟩ (.int .i64 q'.1)) y gl gs gt ga cl cs ct ca T { s with pk := s.pk.set i q' } := by
  obtain ⟨hi', hq'⟩ := List.getElem?_eq_some_iff.1 hq
  refine { by_ := h.by_, bl := h.bl, bs := h.bs, bt := h.bt, ba := h.ba, nyl := h.nyl, nys := h.nys, nyt := h.nyt, nya := h.nya, nls := h.nls, nlt := h.nlt, nla := h.nla, nst := h.nst, nsa := h.nsa, nta := h.nta, top := by simpa using h.top, ry := ?_, rl := ?_, rs := ?_, rt := ?_, ra := ?_, np := by simpa using h.np, nt := h.nt, sl := h.sl }
  · obtain ⟨p0, p1, p3, p4, hr⟩ := h.ry
    exact ⟨p0, p1, p3, p4, by simpa using hr.far (p := ⟨gt, i, none⟩) h.nyt _⟩
  · exact h.rl.far (p := ⟨gt, i, none⟩) h.nlt _
  · exact h.rs.far (p := ⟨gt, i, none⟩) h.nst _
  · have := h.rt.set_ (i := i) (by simpa using hi') (.int .i64 q'.1)
    simpa [List.map_set] using this
  · have := h.ra.far (p := ⟨gt, i, none⟩) (Ne.symm h.nta) (.int .i64 q'.1)
    have e : (s.pk.set i q').map (fun q => Value.int .i64 q.2.1) = s.pk.map (fun q => Value.int .i64 q.2.1) := by
      rw [List.map_set, he]
      apply List.ext_getElem?
      intro j
      rw [List.getElem?_set]
      split
      · rename_i hj; subst hj; simp [hi', hq']
      · rfl
    simp only [e]
    exact this
theorem RObj.setA (h : RObj lo hi w y gl gs gt ga cl cs ct ca T s) {i : Nat} (q' : Int × Int × Bool) {q : Int × Int × Bool} (hq : s.pk[i]? = some q) (he : q'.1 = q.1) :
    RObj lo hi (w.setCell ⟨ga, i, none⟩ (.int .i64 q'.2.1)) y gl gs gt ga cl cs ct ca T { s with pk := s.pk.set i q' } := by
  obtain ⟨hi', hq'⟩ := List.getElem?_eq_some_iff.1 hq
  refine { by_ := h.by_, bl := h.bl, bs := h.bs, bt := h.bt, ba := h.ba, nyl := h.nyl, nys := h.nys, nyt := h.nyt, nya := h.nya, nls := h.nls, nlt := h.nlt, nla := h.nla, nst := h.nst, nsa := h.nsa, nta := h.nta, top := by simpa using h.top, ry := ?_, rl := ?_, rs := ?_, rt := ?_, ra := ?_, np := by simpa using h.np, nt := h.nt, sl := h.sl }
  · obtain ⟨p0, p1, p3, p4, hr⟩ := h.ry
    exact ⟨p0, p1, p3, p4, by simpa using hr.far (p := ⟨ga, i, none⟩) h.nya _⟩
  · exact h.rl.far (p := ⟨ga, i, none⟩) h.nla _
  · exact h.rs.far (p := ⟨ga, i, none⟩) h.nsa _
  · have := h.rt.far (p := ⟨ga, i, none⟩) h.nta (.int .i64 q'.2.1)
    have e : (s.pk.set i q').map (fun q => Value.int .i64 q.1) = s.pk.map (fun q => Value.int .i64 q.1) := by
      rw [List.map_set, he]
      apply List.ext_getElem?
      intro j
      rw [List.getElem?_set]
      split
      · rename_i hj; subst hj; simp [hi', hq']
      · rfl
    simp only [e]
    exact this
  · have := h.ra.set_ (i := i) (by simpa using hi') (.int .i64 q'.2.1)
    simpa [List.map_set] using this
end
theorem at_none {s : PSt} {p : Int} (h : p < 1 ∨ (s.pk.length : Int) < p) : s.at_ p = none := if_pos h
theorem at_some {s : PSt} {p : Int} (h : ¬ (p < 1 ∨ (s.pk.length : Int) < p)) : ∃ q, s.pk[(p - 1).toNat]? = some q ∧ s.at_ p = some q := by
  obtain ⟨q, hq⟩ : ∃ q, s.pk[(p - 1).toNat]? = some q := ⟨_, List.getElem?_eq_getElem (by omega)⟩
  exact ⟨q, hq, (if_neg h).trans hq⟩
theorem act_2 {s : PSt} {p t : Int} (h : (p < 1 ∨ (s.pk.length : Int) < p) ∨ tmB t = false) : s.act p t = (2, s) := by
  unfold PSt.act
  by_cases hp : p < 1 ∨ (s.pk.length : Int) < p
  · rw [at_none hp]
  · obtain ⟨q, _, ha⟩ := at_some hp
    rw [ha]
    have ht : tmB t = false := h.resolve_left hp
    simp [ht]
theorem ret_2 {s : PSt} {p t : Int} (h : (p < 1 ∨ (s.pk.length : Int) < p) ∨ tmB t = false) : s.ret p t = (2, s) := by
  unfold PSt.ret
  by_cases hp : p < 1 ∨ (s.pk.length : Int) < p
  · rw [at_none hp]
  · obtain ⟨q, _, ha⟩ := at_some hp
    rw [ha]
    have ht : tmB t = false := h.resolve_left hp
    simp [ht]
theorem rstate_any {lo hi : Nat} {y gl gs gt ga cl cs ct ca : Nat} {T : List Inst} {s : PSt} (p : Int) (w : World) (h : RObj lo hi w y gl gs gt ga cl cs ct ca T s) :
    Calls Try.prog 22 #[.pointer (some ⟨y, 0, none⟩), .int .i64 p] w fun e w' => e = .returned (.int .i64 (s.state p)) ∧ w = w' := by
  refine calls_W (l := [_, _]) Try.func22 rfl _ Try.ntmps22 (by simp) ?_
  obtain ⟨x2, x5, x6, x7, x8⟩ := h.cells
  simp +contextual (maxSteps := 2000000) (disch := (first | omega | (simp only [World.size_alloc, World.size_setCell, World.size_drew]; done) | (simp only [World.size_alloc, World.size_setCell, World.size_drew]; omega) | (simp only [Bool.false_eq_true, false_or, or_false, true_and, and_true, not_false_eq_true, Bool.true_eq_false, decide_eq_true_eq, decide_eq_false_iff_not, Bool.not_eq_true', Bool.not_eq_false', Bool.and_eq_true, Bool.or_eq_true, Bool.and_eq_false_iff, Bool.or_eq_false_iff, Bool.not_not, Classical.not_not] at *; omega) | fail)) only [RB0, RB1, RB2, RB3, RB4, RB5, RB6, RB7, RB8, RB9, RB10, RB11, RB12, RB13, RB14, RB15, RB16, RB17, RB18, MX, BF, TY0, TY1, TY2, TY3, TY4, TY5, TY6, TY7, TY8, TY9, gval, gslot, decide_true, decide_false, Option.isNone_some, Option.isNone_none, Option.isSome_some, Option.isSome_none, fillL, ovw, numb, catL, List.length_cons, List.length_nil, List.cons_append, List.nil_append, List.size_toArray, ldN, agL, okC, List.setIfInBounds_toArray, List.set_cons_zero, List.set_cons_succ, oneC, Option.map_some, init, List.getElem?_toArray, List.getElem?_cons_zero, List.getElem?_cons_succ, Option.bind_some, Option.bind_none, List.map_cons, List.map_nil, Nat.reduceAdd, Nat.reduceMul, Nat.reduceSub, Nat.reduceEqDiff, Nat.reduceLT, ↓reduceIte, Int.reduceToNat, Int.reduceAdd, Int.reduceSub, Int.reduceMul, Int.reduceLT, Int.reduceLE, Int.reduceEq, Nat.reduceLeDiff,  x2, x5, x6, x7, x8]
  have hn := h.np
  (refine W_if rfl (fun hc => ?_) (fun hc => ?_) <;> (try simp only [Bool.false_eq_true, false_or, or_false, true_and, and_true, not_false_eq_true, Bool.true_eq_false, decide_eq_true_eq, decide_eq_false_iff_not, Bool.not_eq_true', Bool.not_eq_false', Bool.and_eq_true, Bool.or_eq_true, Bool.and_eq_false_iff, Bool.or_eq_false_iff, Bool.not_not, Classical.not_not] at hc))
  · have hp : p < 1 ∨ (s.pk.length : Int) < p := by omega
    simp +contextual (maxSteps := 2000000) (disch := (first | omega | (simp only [World.size_alloc, World.size_setCell, World.size_drew]; done) | (simp only [World.size_alloc, World.size_setCell, World.size_drew]; omega) | (simp only [Bool.false_eq_true, false_or, or_false, true_and, and_true, not_false_eq_true, Bool.true_eq_false, decide_eq_true_eq, decide_eq_false_iff_not, Bool.not_eq_true', Bool.not_eq_false', Bool.and_eq_true, Bool.or_eq_true, Bool.and_eq_false_iff, Bool.or_eq_false_iff, Bool.not_not, Classical.not_not] at *; omega) | fail)) only [RB0, RB1, RB2, RB3, RB4, RB5, RB6, RB7, RB8, RB9, RB10, RB11, RB12, RB13, RB14, RB15, RB16, RB17, RB18, MX, BF, TY0, TY1, TY2, TY3, TY4, TY5, TY6, TY7, TY8, TY9, gval, gslot, decide_true, decide_false, Option.isNone_some, Option.isNone_none, Option.isSome_some, Option.isSome_none, fillL, ovw, numb, catL, List.length_cons, List.length_nil, List.cons_append, List.nil_append, List.size_toArray, ldN, agL, okC, List.setIfInBounds_toArray, List.set_cons_zero, List.set_cons_succ, oneC, Option.map_some, init, List.getElem?_toArray, List.getElem?_cons_zero, List.getElem?_cons_succ, Option.bind_some, Option.bind_none, List.map_cons, List.map_nil, Nat.reduceAdd, Nat.reduceMul, Nat.reduceSub, Nat.reduceEqDiff, Nat.reduceLT, ↓reduceIte, Int.reduceToNat, Int.reduceAdd, Int.reduceSub, Int.reduceMul, Int.reduceLT, Int.reduceLE, Int.reduceEq, Nat.reduceLeDiff]
    rw [PSt.state, PSt.at_, if_pos hp]
  have hp : ¬ (p < 1 ∨ (s.pk.length : Int) < p) := by omega
  clear hc
  obtain ⟨q, hq⟩ : ∃ q, s.pk[(p - 1).toNat]? = some q := ⟨_, List.getElem?_eq_getElem (by omega)⟩
  obtain ⟨q0, q1⟩ := h.stc hq
  simp +contextual (maxSteps := 2000000) (disch := (first | omega | (simp only [World.size_alloc, World.size_setCell, World.size_drew]; done) | (simp only [World.size_alloc, World.size_setCell, World.size_drew]; omega) | (simp only [Bool.false_eq_true, false_or, or_false, true_and, and_true, not_false_eq_true, Bool.true_eq_false, decide_eq_true_eq, decide_eq_false_iff_not, Bool.not_eq_true', Bool.not_eq_false', Bool.and_eq_true, Bool.or_eq_true, Bool.and_eq_false_iff, Bool.or_eq_false_iff, Bool.not_not, Classical.not_not] at *; omega) | fail)) only [RB0, RB1, RB2, RB3, RB4, RB5, RB6, RB7, RB8, RB9, RB10, RB11, RB12, RB13, RB14, RB15, RB16, RB17, RB18, MX, BF, TY0, TY1, TY2, TY3, TY4, TY5, TY6, TY7, TY8, TY9, gval, gslot, decide_true, decide_false, Option.isNone_some, Option.isNone_none, Option.isSome_some, Option.isSome_none, fillL, ovw, numb, catL, List.length_cons, List.length_nil, List.cons_append, List.nil_append, List.size_toArray, ldN, agL, okC, List.setIfInBounds_toArray, List.set_cons_zero, List.set_cons_succ, oneC, Option.map_some, init, List.getElem?_toArray, List.getElem?_cons_zero, List.getElem?_cons_succ, Option.bind_some, Option.bind_none, List.map_cons, List.map_nil, Nat.reduceAdd, Nat.reduceMul, Nat.reduceSub, Nat.reduceEqDiff, Nat.reduceLT, ↓reduceIte, Int.reduceToNat, Int.reduceAdd, Int.reduceSub, Int.reduceMul, Int.reduceLT, Int.reduceLE, Int.reduceEq, Nat.reduceLeDiff,  x2, x5, x6, x7, x8, q0, q1]
  rw [PSt.state, PSt.at_, if_neg hp, hq]
theorem ract_any {lo hi : Nat} {y gl gs gt ga cl cs ct ca : Nat} {T : List Inst} {s : PSt} (p t : Int) (w : World) (h : RObj lo hi w y gl gs gt ga cl cs ct ca T s) :
    Calls Try.prog 14 #[.pointer (some ⟨y, 0, none⟩), .int .i64 p, .int .i64 t] w fun e w' =>
      e = .returned (.int .i64 (s.act p t).1) ∧ RObj lo hi w' y gl gs gt ga cl cs ct ca T (s.act p t).2 ∧ Only lo hi w w' := by
  refine calls_W (l := [_, _, _]) Try.func14 rfl _ Try.ntmps14 (by simp) ?_
  obtain ⟨x2, x5, x6, x7, x8⟩ := h.cells
  have hn := h.np
  simp +contextual (maxSteps := 2000000) (disch := (first | omega | (simp only [World.size_alloc, World.size_setCell, World.size_drew]; done) | (simp only [World.size_alloc, World.size_setCell, World.size_drew]; omega) | (simp only [Bool.false_eq_true, false_or, or_false, true_and, and_true, not_false_eq_true, Bool.true_eq_false, decide_eq_true_eq, decide_eq_false_iff_not, Bool.not_eq_true', Bool.not_eq_false', Bool.and_eq_true, Bool.or_eq_true, Bool.and_eq_false_iff, Bool.or_eq_false_iff, Bool.not_not, Classical.not_not] at *; omega) | fail)) only [RB0, RB1, RB2, RB3, RB4, RB5, RB6, RB7, RB8, RB9, RB10, RB11, RB12, RB13, RB14, RB15, RB16, RB17, RB18, MX, BF, TY0, TY1, TY2, TY3, TY4, TY5, TY6, TY7, TY8, TY9, gval, gslot, decide_true, decide_false, Option.isNone_some, Option.isNone_none, Option.isSome_some, Option.isSome_none, fillL, ovw, numb, catL, List.length_cons, List.length_nil, List.cons_append, List.nil_append, List.size_toArray, ldN, agL, okC, List.setIfInBounds_toArray, List.set_cons_zero, List.set_cons_succ, oneC, Option.map_some, init, List.getElem?_toArray, List.getElem?_cons_zero, List.getElem?_cons_succ, Option.bind_some, Option.bind_none, List.map_cons, List.map_nil, Nat.reduceAdd, Nat.reduceMul, Nat.reduceSub, Nat.reduceEqDiff, Nat.reduceLT, ↓reduceIte, Int.reduceToNat, Int.reduceAdd, Int.reduceSub, Int.reduceMul, Int.reduceLT, Int.reduceLE, Int.reduceEq, Nat.reduceLeDiff,  x2, x5, x6, x7, x8]
  refine GB_call (fun _ => rterminal_any _ _) ?_
  simp +contextual (maxSteps := 2000000) (disch := (first | omega | (simp only [World.size_alloc, World.size_setCell, World.size_drew]; done) | (simp only [World.size_alloc, World.size_setCell, World.size_drew]; omega) | (simp only [Bool.false_eq_true, false_or, or_false, true_and, and_true, not_false_eq_true, Bool.true_eq_false, decide_eq_true_eq, decide_eq_false_iff_not, Bool.not_eq_true', Bool.not_eq_false', Bool.and_eq_true, Bool.or_eq_true, Bool.and_eq_false_iff, Bool.or_eq_false_iff, Bool.not_not, Classical.not_not] at *; omega) | fail)) only [RB0, RB1, RB2, RB3, RB4, RB5, RB6, RB7, RB8, RB9, RB10, RB11, RB12, RB13, RB14, RB15, RB16, RB17, RB18, MX, BF, TY0, TY1, TY2, TY3, TY4, TY5, TY6, TY7, TY8, TY9, gval, gslot, decide_true, decide_false, Option.isNone_some, Option.isNone_none, Option.isSome_some, Option.isSome_none, fillL, ovw, numb, catL, List.length_cons, List.length_nil, List.cons_append, List.nil_append, List.size_toArray, ldN, agL, okC, List.setIfInBounds_toArray, List.set_cons_zero, List.set_cons_succ, oneC, Option.map_some, init, List.getElem?_toArray, List.getElem?_cons_zero, List.getElem?_cons_succ, Option.bind_some, Option.bind_none, List.map_cons, List.map_nil, Nat.reduceAdd, Nat.reduceMul, Nat.reduceSub, Nat.reduceEqDiff, Nat.reduceLT, ↓reduceIte, Int.reduceToNat, Int.reduceAdd, Int.reduceSub, Int.reduceMul, Int.reduceLT, Int.reduceLE, Int.reduceEq, Nat.reduceLeDiff,  x2, x5, x6, x7, x8]
  (refine W_if rfl (fun hc => ?_) (fun hc => ?_) <;> (try simp only [Bool.false_eq_true, false_or, or_false, true_and, and_true, not_false_eq_true, Bool.true_eq_false, decide_eq_true_eq, decide_eq_false_iff_not, Bool.not_eq_true', Bool.not_eq_false', Bool.and_eq_true, Bool.or_eq_true, Bool.and_eq_false_iff, Bool.or_eq_false_iff, Bool.not_not, Classical.not_not] at hc))
  · have hr : s.act p t = (2, s) := act_2 (by
      by_cases hp : p < 1 ∨ (s.pk.length : Int) < p
      · exact .inl hp
      · refine .inr ?_
        have e : (decide (p < 1) || decide ((s.pk.length : Int) < p)) = false := by simp; omega
        cases ht : tmB t
        · rfl
        · simp_all)
    simp +contextual (maxSteps := 2000000) (disch := (first | omega | (simp only [World.size_alloc, World.size_setCell, World.size_drew]; done) | (simp only [World.size_alloc, World.size_setCell, World.size_drew]; omega) | (simp only [Bool.false_eq_true, false_or, or_false, true_and, and_true, not_false_eq_true, Bool.true_eq_false, decide_eq_true_eq, decide_eq_false_iff_not, Bool.not_eq_true', Bool.not_eq_false', Bool.and_eq_true, Bool.or_eq_true, Bool.and_eq_false_iff, Bool.or_eq_false_iff, Bool.not_not, Classical.not_not] at *; omega) | fail)) only [RB0, RB1, RB2, RB3, RB4, RB5, RB6, RB7, RB8, RB9, RB10, RB11, RB12, RB13, RB14, RB15, RB16, RB17, RB18, MX, BF, TY0, TY1, TY2, TY3, TY4, TY5, TY6, TY7, TY8, TY9, gval, gslot, decide_true, decide_false, Option.isNone_some, Option.isNone_none, Option.isSome_some, Option.isSome_none, fillL, ovw, numb, catL, List.length_cons, List.length_nil, List.cons_append, List.nil_append, List.size_toArray, ldN, agL, okC, List.setIfInBounds_toArray, List.set_cons_zero, List.set_cons_succ, oneC, Option.map_some, init, List.getElem?_toArray, List.getElem?_cons_zero, List.getElem?_cons_succ, Option.bind_some, Option.bind_none, List.map_cons, List.map_nil, Nat.reduceAdd, Nat.reduceMul, Nat.reduceSub, Nat.reduceEqDiff, Nat.reduceLT, ↓reduceIte, Int.reduceToNat, Int.reduceAdd, Int.reduceSub, Int.reduceMul, Int.reduceLT, Int.reduceLE, Int.reduceEq, Nat.reduceLeDiff]
    rw [hr]
    exact ⟨rfl, h, Only.refl _ _ _⟩
  have ht := hc.2
  have hp : ¬ (p < 1 ∨ (s.pk.length : Int) < p) := by omega
  clear hc
  obtain ⟨q, hq, ha⟩ := at_some hp
  obtain ⟨q0, q1⟩ := h.stc hq
  have hi' := (List.getElem?_eq_some_iff.1 hq).1
  simp +contextual (maxSteps := 2000000) (disch := (first | omega | (simp only [World.size_alloc, World.size_setCell, World.size_drew]; done) | (simp only [World.size_alloc, World.size_setCell, World.size_drew]; omega) | (simp only [Bool.false_eq_true, false_or, or_false, true_and, and_true, not_false_eq_true, Bool.true_eq_false, decide_eq_true_eq, decide_eq_false_iff_not, Bool.not_eq_true', Bool.not_eq_false', Bool.and_eq_true, Bool.or_eq_true, Bool.and_eq_false_iff, Bool.or_eq_false_iff, Bool.not_not, Classical.not_not] at *; omega) | fail)) only [RB0, RB1, RB2, RB3, RB4, RB5, RB6, RB7, RB8, RB9, RB10, RB11, RB12, RB13, RB14, RB15, RB16, RB17, RB18, MX, BF, TY0, TY1, TY2, TY3, TY4, TY5, TY6, TY7, TY8, TY9, gval, gslot, decide_true, decide_false, Option.isNone_some, Option.isNone_none, Option.isSome_some, Option.isSome_none, fillL, ovw, numb, catL, List.length_cons, List.length_nil, List.cons_append, List.nil_append, List.size_toArray, ldN, agL, okC, List.setIfInBounds_toArray, List.set_cons_zero, List.set_cons_succ, oneC, Option.map_some, init, List.getElem?_toArray, List.getElem?_cons_zero, List.getElem?_cons_succ, Option.bind_some, Option.bind_none, List.map_cons, List.map_nil, Nat.reduceAdd, Nat.reduceMul, Nat.reduceSub, Nat.reduceEqDiff, Nat.reduceLT, ↓reduceIte, Int.reduceToNat, Int.reduceAdd, Int.reduceSub, Int.reduceMul, Int.reduceLT, Int.reduceLE, Int.reduceEq, Nat.reduceLeDiff,  x2, x5, x6, x7, x8, q0, q1]
  (refine W_if rfl (fun hc => ?_) (fun hc => ?_) <;> (try simp only [Bool.false_eq_true, false_or, or_false, true_and, and_true, not_false_eq_true, Bool.true_eq_false, decide_eq_true_eq, decide_eq_false_iff_not, Bool.not_eq_true', Bool.not_eq_false', Bool.and_eq_true, Bool.or_eq_true, Bool.and_eq_false_iff, Bool.or_eq_false_iff, Bool.not_not, Classical.not_not] at hc))
  · have hr : s.act p t = (8, s) := by rw [PSt.act, ha]; simp [ht, hc]
    simp +contextual (maxSteps := 2000000) (disch := (first | omega | (simp only [World.size_alloc, World.size_setCell, World.size_drew]; done) | (simp only [World.size_alloc, World.size_setCell, World.size_drew]; omega) | (simp only [Bool.false_eq_true, false_or, or_false, true_and, and_true, not_false_eq_true, Bool.true_eq_false, decide_eq_true_eq, decide_eq_false_iff_not, Bool.not_eq_true', Bool.not_eq_false', Bool.and_eq_true, Bool.or_eq_true, Bool.and_eq_false_iff, Bool.or_eq_false_iff, Bool.not_not, Classical.not_not] at *; omega) | fail)) only [RB0, RB1, RB2, RB3, RB4, RB5, RB6, RB7, RB8, RB9, RB10, RB11, RB12, RB13, RB14, RB15, RB16, RB17, RB18, MX, BF, TY0, TY1, TY2, TY3, TY4, TY5, TY6, TY7, TY8, TY9, gval, gslot, decide_true, decide_false, Option.isNone_some, Option.isNone_none, Option.isSome_some, Option.isSome_none, fillL, ovw, numb, catL, List.length_cons, List.length_nil, List.cons_append, List.nil_append, List.size_toArray, ldN, agL, okC, List.setIfInBounds_toArray, List.set_cons_zero, List.set_cons_succ, oneC, Option.map_some, init, List.getElem?_toArray, List.getElem?_cons_zero, List.getElem?_cons_succ, Option.bind_some, Option.bind_none, List.map_cons, List.map_nil, Nat.reduceAdd, Nat.reduceMul, Nat.reduceSub, Nat.reduceEqDiff, Nat.reduceLT, ↓reduceIte, Int.reduceToNat, Int.reduceAdd, Int.reduceSub, Int.reduceMul, Int.reduceLT, Int.reduceLE, Int.reduceEq, Nat.reduceLeDiff]
    rw [hr]
    exact ⟨rfl, h, Only.refl _ _ _⟩
  have hr : s.act p t = (0, { s with pk := s.pk.set (p - 1).toNat (1, t, q.2.2) }) := by rw [PSt.act, ha]; simp [ht, hc]
  have k1 := h.setT (1, q.2.1, q.2.2) hq rfl
  have k2 := k1.setA (i := (p - 1).toNat) (1, t, q.2.2) (q := (1, q.2.1, q.2.2)) (by simp only; rw [List.getElem?_set_self hi']) rfl
  simp only [List.set_set, List.length_set] at k2
  have z0 := h.rt.frozen (p - 1).toNat
  have z1 := h.ra.frozen (p - 1).toNat
  have n1 := h.nyt; have n2 := h.nya; have n3 := h.nta
  have l1 := h.rt.lt; have l2 := h.ra.lt
  simp +contextual (maxSteps := 2000000) (disch := (first | omega | (simp only [World.size_alloc, World.size_setCell, World.size_drew]; done) | (simp only [World.size_alloc, World.size_setCell, World.size_drew]; omega) | (simp only [Bool.false_eq_true, false_or, or_false, true_and, and_true, not_false_eq_true, Bool.true_eq_false, decide_eq_true_eq, decide_eq_false_iff_not, Bool.not_eq_true', Bool.not_eq_false', Bool.and_eq_true, Bool.or_eq_true, Bool.and_eq_false_iff, Bool.or_eq_false_iff, Bool.not_not, Classical.not_not] at *; omega) | fail)) only [RB0, RB1, RB2, RB3, RB4, RB5, RB6, RB7, RB8, RB9, RB10, RB11, RB12, RB13, RB14, RB15, RB16, RB17, RB18, MX, BF, TY0, TY1, TY2, TY3, TY4, TY5, TY6, TY7, TY8, TY9, gval, gslot, decide_true, decide_false, Option.isNone_some, Option.isNone_none, Option.isSome_some, Option.isSome_none, fillL, ovw, numb, catL, List.length_cons, List.length_nil, List.cons_append, List.nil_append, List.size_toArray, ldN, agL, okC, List.setIfInBounds_toArray, List.set_cons_zero, List.set_cons_succ, oneC, Option.map_some, init, List.getElem?_toArray, List.getElem?_cons_zero, List.getElem?_cons_succ, Option.bind_some, Option.bind_none, List.map_cons, List.map_nil, Nat.reduceAdd, Nat.reduceMul, Nat.reduceSub, Nat.reduceEqDiff, Nat.reduceLT, ↓reduceIte, Int.reduceToNat, Int.reduceAdd, Int.reduceSub, Int.reduceMul, Int.reduceLT, Int.reduceLE, Int.reduceEq, Nat.reduceLeDiff,  x2, x5, x6, x7, x8, q0, q1, z0, z1]
  rw [hr]
  refine ⟨rfl, k2, ((Only.refl _ _ _).setCell (p := ⟨gt, _, none⟩) h.bt.1 h.bt.2 _).setCell (p := ⟨ga, _, none⟩) h.ba.1 h.ba.2 _⟩
end Go.Proofs.Ytnmfmoiodckleaa
