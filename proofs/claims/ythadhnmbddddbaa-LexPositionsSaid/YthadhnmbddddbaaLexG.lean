/- Walk: the reference's Scan. -/
import Derived.Test.YthadhnmbddddbaaLexF
namespace Go.Proofs.Ythadhnmbddddbaa
open Go.RowKit
set_option maxRecDepth 100000
set_option linter.unusedSimpArgs false
theorem skip_blank : ∀ l : List Nat, skipB false l = spn blankB l + skipB false (l.drop (spn blankB l))
  | [] => rfl
  | c :: r => by
    by_cases h : blankB c = true
    · have h35 : (c == 35) = false := by unfold blankB at h; simp only [Bool.or_eq_true, beq_iff_eq, beq_eq_false_iff_ne] at *; omega
      have e : spn blankB (c :: r) = spn blankB r + 1 := by unfold spn; rw [List.takeWhile_cons_of_pos h]; rfl
      rw [e, List.drop_succ_cons, skipB, if_pos (by rw [h]; simp), h35, Bool.false_or, Bool.false_and, skip_blank r]
      omega
    · have e : spn blankB (c :: r) = 0 := by unfold spn; rw [List.takeWhile_cons_of_neg h]; rfl
      rw [e]; simp
theorem skip_rem : ∀ l : List Nat, skipB true l = spn remB l + skipB false (l.drop (spn remB l))
  | [] => rfl
  | c :: r => by
    by_cases h : c = 10
    · subst h
      have e : spn remB (10 :: r) = 0 := by unfold spn; rw [List.takeWhile_cons_of_neg (by decide)]; rfl
      rw [e, List.drop_zero, skipB, skipB, if_pos (by simp), if_pos (by decide)]
      simp
    · have e : spn remB (c :: r) = spn remB r + 1 := by unfold spn; rw [List.takeWhile_cons_of_pos (by unfold remB; simp [h])]; rfl
      have h10 : (c == 10) = false := by simp [h]
      rw [e, List.drop_succ_cons, skipB, if_pos (by simp), h10, Bool.true_or, Bool.not_false, Bool.true_and, skip_rem r]
      omega
theorem skip_hash (r : List Nat) : skipB false (35 :: r) = spn remB (35 :: r) + skipB false ((35 :: r).drop (spn remB (35 :: r))) := by
  have e : spn remB (35 :: r) = spn remB r + 1 := by unfold spn; rw [List.takeWhile_cons_of_pos (by decide)]; rfl
  rw [e, List.drop_succ_cons, skipB, if_pos (by decide)]
  have := skip_rem r
  simp only [Bool.false_or, beq_self_eq_true, Bool.true_and] at *
  rw [show (!(35 == 10 : Bool)) = true from rfl, this]
  omega
theorem skip_idem : ∀ (l : List Nat) (m : Bool), skipB false (l.drop (skipB m l)) = 0
  | [], m => by simp [skipB]
  | c :: r, m => by
    rw [skipB]
    split
    · rw [Nat.add_comm, List.drop_succ_cons]; exact skip_idem r _
    · rename_i h
      rw [List.drop_zero, skipB, if_neg]
      intro h2
      apply h
      simp only [Bool.or_eq_true, Bool.false_or] at *
      rcases h2 with h2 | h2
      · exact .inl (.inr h2)
      · exact .inr h2
theorem skip_le : ∀ (l : List Nat) (m : Bool), skipB m l ≤ l.length
  | [], m => by simp [skipB]
  | c :: r, m => by
    rw [skipB]
    split
    · have := skip_le r ((m || c == 35) && !(c == 10)); rw [List.length_cons]; omega
    · omega
theorem lexR_skip : ∀ (n : Nat) (l : List Nat) (at_ : Nat), l.length ≤ n → lexR at_ l = lexR (at_ + skipB false l) (l.drop (skipB false l))
  | _, [], _, _ => rfl
  | 0, c :: r, _, h => by simp at h
  | n + 1, c :: r, at_, h => by
    have go : ∀ k, piece (c :: r) = (0, k) → 1 ≤ k → skipB false (c :: r) = k + skipB false ((c :: r).drop k) → lexR at_ (c :: r) = lexR (at_ + skipB false (c :: r)) ((c :: r).drop (skipB false (c :: r))) := by
      intro k hk h1 h2
      rw [lexR_cons, hk, if_neg (by simp only; omega), if_pos rfl, h2]
      simp only
      rw [lexR_skip n _ _ (by rw [List.length_drop, List.length_cons] at *; omega), List.drop_drop, Nat.add_assoc]
    by_cases hb : blankB c = true
    · exact go _ (by rw [piece, if_pos hb]) (spn_pos hb) (skip_blank _)
    · by_cases h35 : c = 35
      · subst h35
        exact go _ (by rw [piece, if_neg hb, if_pos rfl]) (spn_pos (by decide)) (skip_hash r)
      · have : skipB false (c :: r) = 0 := by rw [skipB, if_neg (by simp [hb, h35])]
        rw [this]; rfl
/-- Where nothing is skipped. -/
theorem lexR_tok {l : List Nat} (h : skipB false l = 0) (hl : l ≠ []) (at_ : Nat) : lexR at_ l = if (tokP l).1 = 0 then .error at_ else consR ((tokP l).1, at_, (tokP l).2) (lexR (at_ + (tokP l).2) (l.drop (tokP l).2)) := by
  cases l with
  | nil => exact absurd rfl hl
  | cons c r =>
    have hb : ¬ (blankB c = true) ∧ ¬ c = 35 := by
      rw [skipB] at h
      split at h
      · omega
      · rename_i h'
        simp only [Bool.or_eq_true, beq_iff_eq, not_or] at h'
        exact ⟨h'.1.2, h'.2⟩
    rw [lexR_cons]
    by_cases h2 : (piece (c :: r)).2 = 0
    · have ht : tokP (c :: r) = (0, 0) := if_pos (.inr h2)
      rw [if_pos h2, ht, if_pos rfl]
    · have h1 : (piece (c :: r)).1 ≠ 0 := by
        intro e
        apply h2
        rw [piece, if_neg hb.1, if_neg hb.2] at e ⊢
        repeat' split at e
        all_goals simp_all
      have ht : tokP (c :: r) = piece (c :: r) := if_neg (fun h => h.elim h1 h2)
      rw [if_neg h2, if_neg h1, ht, if_neg h1]
theorem last10 : ∀ b : List Nat, 0 < b.count 10 → ∃ k : Nat, b[k]? = some 10 ∧ ∀ j : Nat, k < j → b[j]? ≠ some 10
  | [], hc => by simp at hc
  | c :: r, hc => by
    by_cases hr : 0 < r.count 10
    · obtain ⟨k, h3, h4⟩ := last10 r hr
      refine ⟨k + 1, by simpa using h3, fun j hj => ?_⟩
      cases j with
      | zero => omega
      | succ j => simpa using h4 j (by omega)
    · have h10 : c = 10 := by
        by_cases h : c = 10
        · exact h
        · rw [List.count_cons_of_ne h] at hc; omega
      refine ⟨0, by simp [h10], fun j hj => ?_⟩
      cases j with
      | zero => omega
      | succ j =>
        intro h
        simp only [List.getElem?_cons_succ] at h
        exact hr (List.count_pos_iff.2 (List.mem_of_getElem? h))
theorem fold_place (b : List Nat) (p : Int × Int) : b.foldl step1 p = if 1 < (place b).1 then (p.1 + (place b).1 - 1, (place b).2) else (p.1, p.2 + (place b).2 - 1) := by
  have h1 := fold_line b (1, 1)
  have h2 := fold_line b p
  unfold place
  by_cases hc : 0 < b.count 10
  · rw [if_pos (by rw [h1]; simp only; omega)]
    obtain ⟨k, hk, hn⟩ := last10 b hc
    have e1 := fold_col b (1, 1) k hk hn
    have e2 := fold_col b p k hk hn
    apply Prod.ext
    · simp only; rw [h1, h2]; simp only; omega
    · simp only; rw [e1, e2]
  · have hno : ∀ c ∈ b, c ≠ 10 := fun c hc' e => hc (by subst e; exact List.count_pos_iff.2 hc')
    rw [fold_plain b _ hno, fold_plain b _ hno, if_neg (by simp)]
    simp only [Prod.mk.injEq, true_and]
    omega
set_option maxHeartbeats 1000000 in
theorem rscan_any (s : ByteArray) (w : World) (hs : s.size ≤ 1000000) :
    Calls Try.prog 12 #[.string s] w fun e w' => Below w.heap.size w w' ∧ ∃ v, e = .returned (.tuple #[v, .int .i64 (scanE s).1, .int .i64 (scanE s).2.1]) ∧ TokIn w.heap.size w' v (scanE s).2.2 := by
  refine calls_W (l := [_]) Try.func12 rfl _ Try.ntmps12 (by simp) ?_
  have hI : sliceI Try.prog 23 = some (32, 4, 40) := by kernel_rfl
  unfold scanE
  simp +contextual (maxSteps := 2000000) (disch := (first | omega | (simp only [World.size_alloc, World.size_setCell, World.size_drew]; done) | (simp only [World.size_alloc, World.size_setCell, World.size_drew]; omega) | (simp only [Bool.false_eq_true, false_or, or_false, true_and, and_true, not_false_eq_true, Bool.true_eq_false, decide_eq_true_eq, decide_eq_false_iff_not, Bool.not_eq_true', Bool.not_eq_false', Bool.and_eq_true, Bool.or_eq_true, Bool.and_eq_false_iff, Bool.or_eq_false_iff, Bool.not_not, Classical.not_not] at *; omega) | fail)) only [RB0, RB1, RB2, RB3, RB4, RB5, RB6, RB7, RB8, RB9, RB10, RB11, RB12, RB13, RB14, RB15, RB16, RB17, RB18, RB19, RB20, RB21, MX, BF, TY0, TY1, TY2, TY3, TY4, TY5, TY6, TY7, TY8, gval, gslot, decide_true, decide_false, Option.isNone_some, Option.isNone_none, Option.isSome_some, Option.isSome_none, fillL, ovw, numb, catL, List.length_cons, List.length_nil, List.cons_append, List.nil_append, List.size_toArray, ldN, agL, okC, List.setIfInBounds_toArray, List.set_cons_zero, List.set_cons_succ, oneC, Option.map_some, Option.map_none, init, List.getElem?_toArray, List.getElem?_cons_zero, List.getElem?_cons_succ, Option.bind_some, Option.bind_none, List.map_cons, List.map_nil, Nat.reduceAdd, Nat.reduceMul, Nat.reduceSub, Nat.reduceEqDiff, Nat.reduceLT, ↓reduceIte, Int.reduceToNat, Int.reduceAdd, Int.reduceSub, Int.reduceMul, Int.reduceLT, Int.reduceLE, Int.reduceEq, Nat.reduceLeDiff]
  (refine W_if rfl (fun hc => ?_) (fun hc => ?_) <;> (try simp only [Bool.false_eq_true, false_or, or_false, true_and, and_true, not_false_eq_true, Bool.true_eq_false, decide_eq_true_eq, decide_eq_false_iff_not, Bool.not_eq_true', Bool.not_eq_false', Bool.and_eq_true, Bool.or_eq_true, Bool.and_eq_false_iff, Bool.or_eq_false_iff, Bool.not_not, Classical.not_not] at hc))
  · rw [if_pos (by omega)]
    simp +contextual (maxSteps := 2000000) (disch := (first | omega | (simp only [World.size_alloc, World.size_setCell, World.size_drew]; done) | (simp only [World.size_alloc, World.size_setCell, World.size_drew]; omega) | (simp only [Bool.false_eq_true, false_or, or_false, true_and, and_true, not_false_eq_true, Bool.true_eq_false, decide_eq_true_eq, decide_eq_false_iff_not, Bool.not_eq_true', Bool.not_eq_false', Bool.and_eq_true, Bool.or_eq_true, Bool.and_eq_false_iff, Bool.or_eq_false_iff, Bool.not_not, Classical.not_not] at *; omega) | fail)) only [RB0, RB1, RB2, RB3, RB4, RB5, RB6, RB7, RB8, RB9, RB10, RB11, RB12, RB13, RB14, RB15, RB16, RB17, RB18, RB19, RB20, RB21, MX, BF, TY0, TY1, TY2, TY3, TY4, TY5, TY6, TY7, TY8, gval, gslot, decide_true, decide_false, Option.isNone_some, Option.isNone_none, Option.isSome_some, Option.isSome_none, fillL, ovw, numb, catL, List.length_cons, List.length_nil, List.cons_append, List.nil_append, List.size_toArray, ldN, agL, okC, List.setIfInBounds_toArray, List.set_cons_zero, List.set_cons_succ, oneC, Option.map_some, Option.map_none, init, List.getElem?_toArray, List.getElem?_cons_zero, List.getElem?_cons_succ, Option.bind_some, Option.bind_none, List.map_cons, List.map_nil, Nat.reduceAdd, Nat.reduceMul, Nat.reduceSub, Nat.reduceEqDiff, Nat.reduceLT, ↓reduceIte, Int.reduceToNat, Int.reduceAdd, Int.reduceSub, Int.reduceMul, Int.reduceLT, Int.reduceLE, Int.reduceEq, Nat.reduceLeDiff]
    exact ⟨Below.refl _ _, _, rfl, none, 0, rfl, owns_nil _ _ _ _⟩
  rw [if_neg (by omega)]
  clear hc
  simp +contextual (maxSteps := 2000000) (disch := (first | omega | (simp only [World.size_alloc, World.size_setCell, World.size_drew]; done) | (simp only [World.size_alloc, World.size_setCell, World.size_drew]; omega) | (simp only [Bool.false_eq_true, false_or, or_false, true_and, and_true, not_false_eq_true, Bool.true_eq_false, decide_eq_true_eq, decide_eq_false_iff_not, Bool.not_eq_true', Bool.not_eq_false', Bool.and_eq_true, Bool.or_eq_true, Bool.and_eq_false_iff, Bool.or_eq_false_iff, Bool.not_not, Classical.not_not] at *; omega) | fail)) only [RB0, RB1, RB2, RB3, RB4, RB5, RB6, RB7, RB8, RB9, RB10, RB11, RB12, RB13, RB14, RB15, RB16, RB17, RB18, RB19, RB20, RB21, MX, BF, TY0, TY1, TY2, TY3, TY4, TY5, TY6, TY7, TY8, gval, gslot, decide_true, decide_false, Option.isNone_some, Option.isNone_none, Option.isSome_some, Option.isSome_none, fillL, ovw, numb, catL, List.length_cons, List.length_nil, List.cons_append, List.nil_append, List.size_toArray, ldN, agL, okC, List.setIfInBounds_toArray, List.set_cons_zero, List.set_cons_succ, oneC, Option.map_some, Option.map_none, init, List.getElem?_toArray, List.getElem?_cons_zero, List.getElem?_cons_succ, Option.bind_some, Option.bind_none, List.map_cons, List.map_nil, Nat.reduceAdd, Nat.reduceMul, Nat.reduceSub, Nat.reduceEqDiff, Nat.reduceLT, ↓reduceIte, Int.reduceToNat, Int.reduceAdd, Int.reduceSub, Int.reduceMul, Int.reduceLT, Int.reduceLE, Int.reduceEq, Nat.reduceLeDiff]
  generalize hR : lexR 0 (bs s) = R
  refine (rskip_any s 0 w hs (Nat.zero_le _)).mono ?_
  rintro e w0 ⟨rfl, rfl⟩
  refine ⟨_, rfl, ?_⟩
  rw [List.drop_zero]
  have hk0 := skip_le (bs s) false
  rw [bs_len] at hk0
  have hid0 := skip_idem (bs s) false
  rw [lexR_skip _ _ _ (Nat.le_refl _), Nat.zero_add] at hR
  generalize skipB false (bs s) = k0 at *
  refine Raw_loop (fun σ w' => Below w.heap.size w w' ∧ ∃ (at_ last : Nat) (D : List (Nat × Nat × Nat)) (A : Option Addr) (c : Nat), at_ ≤ s.size ∧ last ≤ at_ ∧ D.length ≤ at_ ∧ skipB false ((bs s).drop at_) = 0 ∧ joinR D (lexR at_ ((bs s).drop at_)) = R ∧
      w'.ownsRow w.heap.size 32 4 (.slice A D.length c) D.length ((D.map (tokOf s)).flatMap encTk) ∧
      σ 0 = .string s ∧ σ 5 = .slice A D.length c ∧ σ 6 = .int .i64 (place ((bs s).take last)).1 ∧ σ 7 = .int .i64 (place ((bs s).take last)).2 ∧ σ 8 = .int .i64 last ∧ σ 9 = .int .i64 at_) (fun σ _ => s.size - (intOf (σ 9)).toNat) ?_ ?_
  · simp +contextual (maxSteps := 2000000) (disch := (first | omega | (simp only [World.size_alloc, World.size_setCell, World.size_drew]; done) | (simp only [World.size_alloc, World.size_setCell, World.size_drew]; omega) | (simp only [Bool.false_eq_true, false_or, or_false, true_and, and_true, not_false_eq_true, Bool.true_eq_false, decide_eq_true_eq, decide_eq_false_iff_not, Bool.not_eq_true', Bool.not_eq_false', Bool.and_eq_true, Bool.or_eq_true, Bool.and_eq_false_iff, Bool.or_eq_false_iff, Bool.not_not, Classical.not_not] at *; omega) | fail)) only [RB0, RB1, RB2, RB3, RB4, RB5, RB6, RB7, RB8, RB9, RB10, RB11, RB12, RB13, RB14, RB15, RB16, RB17, RB18, RB19, RB20, RB21, MX, BF, TY0, TY1, TY2, TY3, TY4, TY5, TY6, TY7, TY8, gval, gslot, decide_true, decide_false, Option.isNone_some, Option.isNone_none, Option.isSome_some, Option.isSome_none, fillL, ovw, numb, catL, List.length_cons, List.length_nil, List.cons_append, List.nil_append, List.size_toArray, ldN, agL, okC, List.setIfInBounds_toArray, List.set_cons_zero, List.set_cons_succ, oneC, Option.map_some, Option.map_none, init, List.getElem?_toArray, List.getElem?_cons_zero, List.getElem?_cons_succ, Option.bind_some, Option.bind_none, List.map_cons, List.map_nil, Nat.reduceAdd, Nat.reduceMul, Nat.reduceSub, Nat.reduceEqDiff, Nat.reduceLT, ↓reduceIte, Int.reduceToNat, Int.reduceAdd, Int.reduceSub, Int.reduceMul, Int.reduceLT, Int.reduceLE, Int.reduceEq, Nat.reduceLeDiff]
    exact ⟨Below.refl _ _, k0, 0, [], none, 0, hk0, Nat.zero_le _, Nat.zero_le _, hid0, by rw [hR]; cases R <;> rfl, owns_nil _ _ _ _, rfl, rfl, rfl, rfl, by simp⟩
  rintro σ w1 ⟨hB, at_, last, D, A, c, ha, hla, hDa, hsk, hj, hown, e0, e5, e6, e7, e8, e9⟩ K hK
  have hpb := place_bd ((bs s).take last)
  have hpa := place_bd ((bs s).take at_)
  rw [List.length_take, bs_len] at hpb hpa
  have hx : bs (s.extract last at_) = ((bs s).drop last).take (at_ - last) := bs_extract _ _ _
  have hxs : (s.extract last at_).size = at_ - last := by rw [← bs_len, hx, List.length_take, List.length_drop, bs_len]; omega
  have hpt : place ((bs s).take at_) = (bs (s.extract last at_)).foldl step1 (place ((bs s).take last)) := by
    rw [hx, ← place_append, ← List.take_add, show last + (at_ - last) = at_ from by omega]
  rw [fold_place] at hpt
  have hpd := place_bd (bs (s.extract last at_))
  rw [bs_len, hxs] at hpd
  have htl : (bs (s.extract last at_)).take (at_ - last) = bs (s.extract last at_) := List.take_of_length_le (by rw [bs_len]; omega)
  have hlast : ((at_ : Int) - last) = ((at_ - last : Nat) : Int) := by omega
  have hd : decide ((at_ : Int) ≤ s.size) = true := decide_eq_true (by omega)
  simp +contextual (maxSteps := 2000000) (disch := (first | omega | (simp only [World.size_alloc, World.size_setCell, World.size_drew]; done) | (simp only [World.size_alloc, World.size_setCell, World.size_drew]; omega) | (simp only [Bool.false_eq_true, false_or, or_false, true_and, and_true, not_false_eq_true, Bool.true_eq_false, decide_eq_true_eq, decide_eq_false_iff_not, Bool.not_eq_true', Bool.not_eq_false', Bool.and_eq_true, Bool.or_eq_true, Bool.and_eq_false_iff, Bool.or_eq_false_iff, Bool.not_not, Classical.not_not] at *; omega) | fail)) only [RB0, RB1, RB2, RB3, RB4, RB5, RB6, RB7, RB8, RB9, RB10, RB11, RB12, RB13, RB14, RB15, RB16, RB17, RB18, RB19, RB20, RB21, MX, BF, TY0, TY1, TY2, TY3, TY4, TY5, TY6, TY7, TY8, gval, gslot, decide_true, decide_false, Option.isNone_some, Option.isNone_none, Option.isSome_some, Option.isSome_none, fillL, ovw, numb, catL, List.length_cons, List.length_nil, List.cons_append, List.nil_append, List.size_toArray, ldN, agL, okC, List.setIfInBounds_toArray, List.set_cons_zero, List.set_cons_succ, oneC, Option.map_some, Option.map_none, init, List.getElem?_toArray, List.getElem?_cons_zero, List.getElem?_cons_succ, Option.bind_some, Option.bind_none, List.map_cons, List.map_nil, Nat.reduceAdd, Nat.reduceMul, Nat.reduceSub, Nat.reduceEqDiff, Nat.reduceLT, ↓reduceIte, Int.reduceToNat, Int.reduceAdd, Int.reduceSub, Int.reduceMul, Int.reduceLT, Int.reduceLE, Int.reduceEq, Nat.reduceLeDiff,  e0, e5, e6, e7, e8, e9, hd]
  refine W_if_t rfl ?_
  simp +contextual (maxSteps := 2000000) (disch := (first | omega | (simp only [World.size_alloc, World.size_setCell, World.size_drew]; done) | (simp only [World.size_alloc, World.size_setCell, World.size_drew]; omega) | (simp only [Bool.false_eq_true, false_or, or_false, true_and, and_true, not_false_eq_true, Bool.true_eq_false, decide_eq_true_eq, decide_eq_false_iff_not, Bool.not_eq_true', Bool.not_eq_false', Bool.and_eq_true, Bool.or_eq_true, Bool.and_eq_false_iff, Bool.or_eq_false_iff, Bool.not_not, Classical.not_not] at *; omega) | fail)) only [RB0, RB1, RB2, RB3, RB4, RB5, RB6, RB7, RB8, RB9, RB10, RB11, RB12, RB13, RB14, RB15, RB16, RB17, RB18, RB19, RB20, RB21, MX, BF, TY0, TY1, TY2, TY3, TY4, TY5, TY6, TY7, TY8, gval, gslot, decide_true, decide_false, Option.isNone_some, Option.isNone_none, Option.isSome_some, Option.isSome_none, fillL, ovw, numb, catL, List.length_cons, List.length_nil, List.cons_append, List.nil_append, List.size_toArray, ldN, agL, okC, List.setIfInBounds_toArray, List.set_cons_zero, List.set_cons_succ, oneC, Option.map_some, Option.map_none, init, List.getElem?_toArray, List.getElem?_cons_zero, List.getElem?_cons_succ, Option.bind_some, Option.bind_none, List.map_cons, List.map_nil, Nat.reduceAdd, Nat.reduceMul, Nat.reduceSub, Nat.reduceEqDiff, Nat.reduceLT, ↓reduceIte, Int.reduceToNat, Int.reduceAdd, Int.reduceSub, Int.reduceMul, Int.reduceLT, Int.reduceLE, Int.reduceEq, Nat.reduceLeDiff,  e0, e5, e6, e7, e8, e9, hlast]
  refine (rplace_any (s.extract last at_) (at_ - last) w1 (by omega) (by omega)).mono ?_
  rintro e w2 ⟨rfl, rfl⟩
  refine ⟨_, rfl, ?_⟩
  rw [htl]
  generalize place (bs (s.extract last at_)) = dp at *
  obtain ⟨dl, dc⟩ := dp
  simp only at *
  simp +contextual (maxSteps := 2000000) (disch := (first | omega | (simp only [World.size_alloc, World.size_setCell, World.size_drew]; done) | (simp only [World.size_alloc, World.size_setCell, World.size_drew]; omega) | (simp only [Bool.false_eq_true, false_or, or_false, true_and, and_true, not_false_eq_true, Bool.true_eq_false, decide_eq_true_eq, decide_eq_false_iff_not, Bool.not_eq_true', Bool.not_eq_false', Bool.and_eq_true, Bool.or_eq_true, Bool.and_eq_false_iff, Bool.or_eq_false_iff, Bool.not_not, Classical.not_not] at *; omega) | fail)) only [RB0, RB1, RB2, RB3, RB4, RB5, RB6, RB7, RB8, RB9, RB10, RB11, RB12, RB13, RB14, RB15, RB16, RB17, RB18, RB19, RB20, RB21, MX, BF, TY0, TY1, TY2, TY3, TY4, TY5, TY6, TY7, TY8, gval, gslot, decide_true, decide_false, Option.isNone_some, Option.isNone_none, Option.isSome_some, Option.isSome_none, fillL, ovw, numb, catL, List.length_cons, List.length_nil, List.cons_append, List.nil_append, List.size_toArray, ldN, agL, okC, List.setIfInBounds_toArray, List.set_cons_zero, List.set_cons_succ, oneC, Option.map_some, Option.map_none, init, List.getElem?_toArray, List.getElem?_cons_zero, List.getElem?_cons_succ, Option.bind_some, Option.bind_none, List.map_cons, List.map_nil, Nat.reduceAdd, Nat.reduceMul, Nat.reduceSub, Nat.reduceEqDiff, Nat.reduceLT, ↓reduceIte, Int.reduceToNat, Int.reduceAdd, Int.reduceSub, Int.reduceMul, Int.reduceLT, Int.reduceLE, Int.reduceEq, Nat.reduceLeDiff,  e0, e5, e6, e7, e8, e9]
  refine W_cut (fun τ w2 => w2 = w1 ∧ τ 0 = .string s ∧ τ 5 = .slice A D.length c ∧ τ 6 = .int .i64 (place ((bs s).take at_)).1 ∧ τ 7 = .int .i64 (place ((bs s).take at_)).2 ∧ τ 9 = .int .i64 at_) ?_ ?_
  · rintro τ w2 ⟨rfl, f0, f5, f6, f7, f9⟩
    simp +contextual (maxSteps := 2000000) (disch := (first | omega | (simp only [World.size_alloc, World.size_setCell, World.size_drew]; done) | (simp only [World.size_alloc, World.size_setCell, World.size_drew]; omega) | (simp only [Bool.false_eq_true, false_or, or_false, true_and, and_true, not_false_eq_true, Bool.true_eq_false, decide_eq_true_eq, decide_eq_false_iff_not, Bool.not_eq_true', Bool.not_eq_false', Bool.and_eq_true, Bool.or_eq_true, Bool.and_eq_false_iff, Bool.or_eq_false_iff, Bool.not_not, Classical.not_not] at *; omega) | fail)) only [RB0, RB1, RB2, RB3, RB4, RB5, RB6, RB7, RB8, RB9, RB10, RB11, RB12, RB13, RB14, RB15, RB16, RB17, RB18, RB19, RB20, RB21, MX, BF, TY0, TY1, TY2, TY3, TY4, TY5, TY6, TY7, TY8, gval, gslot, decide_true, decide_false, Option.isNone_some, Option.isNone_none, Option.isSome_some, Option.isSome_none, fillL, ovw, numb, catL, List.length_cons, List.length_nil, List.cons_append, List.nil_append, List.size_toArray, ldN, agL, okC, List.setIfInBounds_toArray, List.set_cons_zero, List.set_cons_succ, oneC, Option.map_some, Option.map_none, init, List.getElem?_toArray, List.getElem?_cons_zero, List.getElem?_cons_succ, Option.bind_some, Option.bind_none, List.map_cons, List.map_nil, Nat.reduceAdd, Nat.reduceMul, Nat.reduceSub, Nat.reduceEqDiff, Nat.reduceLT, ↓reduceIte, Int.reduceToNat, Int.reduceAdd, Int.reduceSub, Int.reduceMul, Int.reduceLT, Int.reduceLE, Int.reduceEq, Nat.reduceLeDiff,  f0, f5, f6, f7, f9]
    (refine W_if rfl (fun hc => ?_) (fun hc => ?_) <;> (try simp only [Bool.false_eq_true, false_or, or_false, true_and, and_true, not_false_eq_true, Bool.true_eq_false, decide_eq_true_eq, decide_eq_false_iff_not, Bool.not_eq_true', Bool.not_eq_false', Bool.and_eq_true, Bool.or_eq_true, Bool.and_eq_false_iff, Bool.or_eq_false_iff, Bool.not_not, Classical.not_not] at hc))
    · have hae : at_ = s.size := by omega
      clear hc
      subst hae
      rw [List.drop_eq_nil_of_le (by rw [bs_len]; omega), lexR_nil] at hj
      simp only [joinR, List.append_nil] at hj
      subst hj
      simp only
      have htk : (bs s).take s.size = bs s := List.take_of_length_le (by rw [bs_len]; omega)
      rw [htk] at f6 f7
      obtain ⟨A', c', w3, he, hown3, hb3, hs3⟩ := push1 (P := Try.prog) (T := 23) (ty := 23) (news := encTk (endTok s)) hown hB.size hI rfl (fun u hu => by simp only [encTk, List.mem_cons, List.not_mem_nil, or_false] at hu; rcases hu with rfl | rfl | rfl | rfl <;> rfl) (by omega) (by omega)
      simp only [encTk, endTok] at he
      simp +contextual (maxSteps := 2000000) (disch := (first | omega | (simp only [World.size_alloc, World.size_setCell, World.size_drew]; done) | (simp only [World.size_alloc, World.size_setCell, World.size_drew]; omega) | (simp only [Bool.false_eq_true, false_or, or_false, true_and, and_true, not_false_eq_true, Bool.true_eq_false, decide_eq_true_eq, decide_eq_false_iff_not, Bool.not_eq_true', Bool.not_eq_false', Bool.and_eq_true, Bool.or_eq_true, Bool.and_eq_false_iff, Bool.or_eq_false_iff, Bool.not_not, Classical.not_not] at *; omega) | fail)) only [RB0, RB1, RB2, RB3, RB4, RB5, RB6, RB7, RB8, RB9, RB10, RB11, RB12, RB13, RB14, RB15, RB16, RB17, RB18, RB19, RB20, RB21, MX, BF, TY0, TY1, TY2, TY3, TY4, TY5, TY6, TY7, TY8, gval, gslot, decide_true, decide_false, Option.isNone_some, Option.isNone_none, Option.isSome_some, Option.isSome_none, fillL, ovw, numb, catL, List.length_cons, List.length_nil, List.cons_append, List.nil_append, List.size_toArray, ldN, agL, okC, List.setIfInBounds_toArray, List.set_cons_zero, List.set_cons_succ, oneC, Option.map_some, Option.map_none, init, List.getElem?_toArray, List.getElem?_cons_zero, List.getElem?_cons_succ, Option.bind_some, Option.bind_none, List.map_cons, List.map_nil, Nat.reduceAdd, Nat.reduceMul, Nat.reduceSub, Nat.reduceEqDiff, Nat.reduceLT, ↓reduceIte, Int.reduceToNat, Int.reduceAdd, Int.reduceSub, Int.reduceMul, Int.reduceLT, Int.reduceLE, Int.reduceEq, Nat.reduceLeDiff,  f0, f5, f6, f7, f9, he]
      refine ⟨hB.trans hb3, _, rfl, A', c', ?_, ?_⟩
      · rw [List.length_append, tok_len]; rfl
      · rw [List.length_append, tok_len, List.flatMap_append]; simpa using hown3
    have hal : at_ < s.size := by omega
    clear hc
    have hll : ((bs s).drop at_).length = s.size - at_ := by rw [List.length_drop, bs_len]
    have hne : (bs s).drop at_ ≠ [] := by intro e; rw [e] at hll; simp at hll; omega
    rw [lexR_tok hsk hne] at hj
    have htp : (tokP ((bs s).drop at_)).2 ≤ s.size - at_ ∧ ((tokP ((bs s).drop at_)).1 = 0 ∨ 1 ≤ (tokP ((bs s).drop at_)).2) := by
      have := piece_le ((bs s).drop at_)
      unfold tokP
      split
      · simp
      · omega
    simp +contextual (maxSteps := 2000000) (disch := (first | omega | (simp only [World.size_alloc, World.size_setCell, World.size_drew]; done) | (simp only [World.size_alloc, World.size_setCell, World.size_drew]; omega) | (simp only [Bool.false_eq_true, false_or, or_false, true_and, and_true, not_false_eq_true, Bool.true_eq_false, decide_eq_true_eq, decide_eq_false_iff_not, Bool.not_eq_true', Bool.not_eq_false', Bool.and_eq_true, Bool.or_eq_true, Bool.and_eq_false_iff, Bool.or_eq_false_iff, Bool.not_not, Classical.not_not] at *; omega) | fail)) only [RB0, RB1, RB2, RB3, RB4, RB5, RB6, RB7, RB8, RB9, RB10, RB11, RB12, RB13, RB14, RB15, RB16, RB17, RB18, RB19, RB20, RB21, MX, BF, TY0, TY1, TY2, TY3, TY4, TY5, TY6, TY7, TY8, gval, gslot, decide_true, decide_false, Option.isNone_some, Option.isNone_none, Option.isSome_some, Option.isSome_none, fillL, ovw, numb, catL, List.length_cons, List.length_nil, List.cons_append, List.nil_append, List.size_toArray, ldN, agL, okC, List.setIfInBounds_toArray, List.set_cons_zero, List.set_cons_succ, oneC, Option.map_some, Option.map_none, init, List.getElem?_toArray, List.getElem?_cons_zero, List.getElem?_cons_succ, Option.bind_some, Option.bind_none, List.map_cons, List.map_nil, Nat.reduceAdd, Nat.reduceMul, Nat.reduceSub, Nat.reduceEqDiff, Nat.reduceLT, ↓reduceIte, Int.reduceToNat, Int.reduceAdd, Int.reduceSub, Int.reduceMul, Int.reduceLT, Int.reduceLE, Int.reduceEq, Nat.reduceLeDiff,  f0, f5, f6, f7, f9]
    refine (rend_any s at_ _ hs hal).mono ?_
    rintro e w3 ⟨rfl, rfl⟩
    refine ⟨_, rfl, ?_⟩
    generalize tokP ((bs s).drop at_) = tp at *
    obtain ⟨k, n⟩ := tp
    simp only at *
    simp +contextual (maxSteps := 2000000) (disch := (first | omega | (simp only [World.size_alloc, World.size_setCell, World.size_drew]; done) | (simp only [World.size_alloc, World.size_setCell, World.size_drew]; omega) | (simp only [Bool.false_eq_true, false_or, or_false, true_and, and_true, not_false_eq_true, Bool.true_eq_false, decide_eq_true_eq, decide_eq_false_iff_not, Bool.not_eq_true', Bool.not_eq_false', Bool.and_eq_true, Bool.or_eq_true, Bool.and_eq_false_iff, Bool.or_eq_false_iff, Bool.not_not, Classical.not_not] at *; omega) | fail)) only [RB0, RB1, RB2, RB3, RB4, RB5, RB6, RB7, RB8, RB9, RB10, RB11, RB12, RB13, RB14, RB15, RB16, RB17, RB18, RB19, RB20, RB21, MX, BF, TY0, TY1, TY2, TY3, TY4, TY5, TY6, TY7, TY8, gval, gslot, decide_true, decide_false, Option.isNone_some, Option.isNone_none, Option.isSome_some, Option.isSome_none, fillL, ovw, numb, catL, List.length_cons, List.length_nil, List.cons_append, List.nil_append, List.size_toArray, ldN, agL, okC, List.setIfInBounds_toArray, List.set_cons_zero, List.set_cons_succ, oneC, Option.map_some, Option.map_none, init, List.getElem?_toArray, List.getElem?_cons_zero, List.getElem?_cons_succ, Option.bind_some, Option.bind_none, List.map_cons, List.map_nil, Nat.reduceAdd, Nat.reduceMul, Nat.reduceSub, Nat.reduceEqDiff, Nat.reduceLT, ↓reduceIte, Int.reduceToNat, Int.reduceAdd, Int.reduceSub, Int.reduceMul, Int.reduceLT, Int.reduceLE, Int.reduceEq, Nat.reduceLeDiff,  f0, f5, f6, f7, f9]
    (refine W_if rfl (fun hc => ?_) (fun hc => ?_) <;> (try simp only [Bool.false_eq_true, false_or, or_false, true_and, and_true, not_false_eq_true, Bool.true_eq_false, decide_eq_true_eq, decide_eq_false_iff_not, Bool.not_eq_true', Bool.not_eq_false', Bool.and_eq_true, Bool.or_eq_true, Bool.and_eq_false_iff, Bool.or_eq_false_iff, Bool.not_not, Classical.not_not] at hc))
    · rw [if_pos (by omega)] at hj
      have hR2 : R = .error at_ := hj.symm
      subst hR2
      simp +contextual (maxSteps := 2000000) (disch := (first | omega | (simp only [World.size_alloc, World.size_setCell, World.size_drew]; done) | (simp only [World.size_alloc, World.size_setCell, World.size_drew]; omega) | (simp only [Bool.false_eq_true, false_or, or_false, true_and, and_true, not_false_eq_true, Bool.true_eq_false, decide_eq_true_eq, decide_eq_false_iff_not, Bool.not_eq_true', Bool.not_eq_false', Bool.and_eq_true, Bool.or_eq_true, Bool.and_eq_false_iff, Bool.or_eq_false_iff, Bool.not_not, Classical.not_not] at *; omega) | fail)) only [RB0, RB1, RB2, RB3, RB4, RB5, RB6, RB7, RB8, RB9, RB10, RB11, RB12, RB13, RB14, RB15, RB16, RB17, RB18, RB19, RB20, RB21, MX, BF, TY0, TY1, TY2, TY3, TY4, TY5, TY6, TY7, TY8, gval, gslot, decide_true, decide_false, Option.isNone_some, Option.isNone_none, Option.isSome_some, Option.isSome_none, fillL, ovw, numb, catL, List.length_cons, List.length_nil, List.cons_append, List.nil_append, List.size_toArray, ldN, agL, okC, List.setIfInBounds_toArray, List.set_cons_zero, List.set_cons_succ, oneC, Option.map_some, Option.map_none, init, List.getElem?_toArray, List.getElem?_cons_zero, List.getElem?_cons_succ, Option.bind_some, Option.bind_none, List.map_cons, List.map_nil, Nat.reduceAdd, Nat.reduceMul, Nat.reduceSub, Nat.reduceEqDiff, Nat.reduceLT, ↓reduceIte, Int.reduceToNat, Int.reduceAdd, Int.reduceSub, Int.reduceMul, Int.reduceLT, Int.reduceLE, Int.reduceEq, Nat.reduceLeDiff,  f0, f5, f6, f7, f9]
      exact ⟨hB, _, rfl, none, 0, rfl, owns_nil _ _ _ _⟩
    have hk0 : k ≠ 0 := by omega
    clear hc
    rw [if_neg hk0, joinR_cons, List.drop_drop] at hj
    obtain ⟨A', c', w3, he, hown3, hb3, hs3⟩ := push1 (P := Try.prog) (T := 23) (ty := 23) (news := encTk (tokOf s (k, at_, n))) hown hB.size hI rfl (fun u hu => by simp only [encTk, List.mem_cons, List.not_mem_nil, or_false] at hu; rcases hu with rfl | rfl | rfl | rfl <;> rfl) (by omega) (by omega)
    have hB3 := hB.trans hb3
    have hown3' : w3.ownsRow w.heap.size 32 4 (.slice A' (D ++ [(k, at_, n)]).length c') (D ++ [(k, at_, n)]).length (((D ++ [(k, at_, n)]).map (tokOf s)).flatMap encTk) := by
      rw [List.length_append, List.map_append, List.flatMap_append]; simpa using hown3
    simp only [encTk, tokOf] at he
    have htn : ((at_ : Int) + n).toNat = at_ + n := by omega
    simp +contextual (maxSteps := 2000000) (disch := (first | omega | (simp only [World.size_alloc, World.size_setCell, World.size_drew]; done) | (simp only [World.size_alloc, World.size_setCell, World.size_drew]; omega) | (simp only [Bool.false_eq_true, false_or, or_false, true_and, and_true, not_false_eq_true, Bool.true_eq_false, decide_eq_true_eq, decide_eq_false_iff_not, Bool.not_eq_true', Bool.not_eq_false', Bool.and_eq_true, Bool.or_eq_true, Bool.and_eq_false_iff, Bool.or_eq_false_iff, Bool.not_not, Classical.not_not] at *; omega) | fail)) only [RB0, RB1, RB2, RB3, RB4, RB5, RB6, RB7, RB8, RB9, RB10, RB11, RB12, RB13, RB14, RB15, RB16, RB17, RB18, RB19, RB20, RB21, MX, BF, TY0, TY1, TY2, TY3, TY4, TY5, TY6, TY7, TY8, gval, gslot, decide_true, decide_false, Option.isNone_some, Option.isNone_none, Option.isSome_some, Option.isSome_none, fillL, ovw, numb, catL, List.length_cons, List.length_nil, List.cons_append, List.nil_append, List.size_toArray, ldN, agL, okC, List.setIfInBounds_toArray, List.set_cons_zero, List.set_cons_succ, oneC, Option.map_some, Option.map_none, init, List.getElem?_toArray, List.getElem?_cons_zero, List.getElem?_cons_succ, Option.bind_some, Option.bind_none, List.map_cons, List.map_nil, Nat.reduceAdd, Nat.reduceMul, Nat.reduceSub, Nat.reduceEqDiff, Nat.reduceLT, ↓reduceIte, Int.reduceToNat, Int.reduceAdd, Int.reduceSub, Int.reduceMul, Int.reduceLT, Int.reduceLE, Int.reduceEq, Nat.reduceLeDiff,  f0, f5, f6, f7, f9, he, htn]
    have hcast : ((at_ : Int) + n) = ((at_ + n : Nat) : Int) := by omega
    rw [hcast]
    refine (rskip_any s (at_ + n) w3 hs (by omega)).mono ?_
    rintro e w4 ⟨rfl, rfl⟩
    refine ⟨_, rfl, ?_⟩
    have hk3 := skip_le ((bs s).drop (at_ + n)) false
    rw [List.length_drop, bs_len] at hk3
    have hid := skip_idem ((bs s).drop (at_ + n)) false
    rw [lexR_skip _ _ _ (Nat.le_refl _), List.drop_drop] at hj
    rw [List.drop_drop] at hid
    generalize skipB false ((bs s).drop (at_ + n)) = k3 at *
    simp +contextual (maxSteps := 2000000) (disch := (first | omega | (simp only [World.size_alloc, World.size_setCell, World.size_drew]; done) | (simp only [World.size_alloc, World.size_setCell, World.size_drew]; omega) | (simp only [Bool.false_eq_true, false_or, or_false, true_and, and_true, not_false_eq_true, Bool.true_eq_false, decide_eq_true_eq, decide_eq_false_iff_not, Bool.not_eq_true', Bool.not_eq_false', Bool.and_eq_true, Bool.or_eq_true, Bool.and_eq_false_iff, Bool.or_eq_false_iff, Bool.not_not, Classical.not_not] at *; omega) | fail)) only [RB0, RB1, RB2, RB3, RB4, RB5, RB6, RB7, RB8, RB9, RB10, RB11, RB12, RB13, RB14, RB15, RB16, RB17, RB18, RB19, RB20, RB21, MX, BF, TY0, TY1, TY2, TY3, TY4, TY5, TY6, TY7, TY8, gval, gslot, decide_true, decide_false, Option.isNone_some, Option.isNone_none, Option.isSome_some, Option.isSome_none, fillL, ovw, numb, catL, List.length_cons, List.length_nil, List.cons_append, List.nil_append, List.size_toArray, ldN, agL, okC, List.setIfInBounds_toArray, List.set_cons_zero, List.set_cons_succ, oneC, Option.map_some, Option.map_none, init, List.getElem?_toArray, List.getElem?_cons_zero, List.getElem?_cons_succ, Option.bind_some, Option.bind_none, List.map_cons, List.map_nil, Nat.reduceAdd, Nat.reduceMul, Nat.reduceSub, Nat.reduceEqDiff, Nat.reduceLT, ↓reduceIte, Int.reduceToNat, Int.reduceAdd, Int.reduceSub, Int.reduceMul, Int.reduceLT, Int.reduceLE, Int.reduceEq, Nat.reduceLeDiff,  f0, f5, f6, f7, f9]
    refine hK _ _ ⟨hB3, at_ + n + k3, at_, D ++ [(k, at_, n)], A', c', by omega, by omega, by simp; omega, hid, hj, hown3', f0, ?_, f6, f7, ?_, ?_⟩ ?_
    · rw [List.length_append]; rfl
    · rfl
    · simp only [upd_apply]; simp
    · show s.size - (intOf (.int .i64 (((at_ + n : Nat) : Int) + k3))).toNat < s.size - (intOf (σ 9)).toNat; rw [e9]; simp only [intOf]; omega
  · (refine W_if rfl (fun hc => ?_) (fun hc => ?_) <;> (try simp only [Bool.false_eq_true, false_or, or_false, true_and, and_true, not_false_eq_true, Bool.true_eq_false, decide_eq_true_eq, decide_eq_false_iff_not, Bool.not_eq_true', Bool.not_eq_false', Bool.and_eq_true, Bool.or_eq_true, Bool.and_eq_false_iff, Bool.or_eq_false_iff, Bool.not_not, Classical.not_not] at hc))
    · rw [if_pos hc] at hpt
      simp +contextual (maxSteps := 2000000) (disch := (first | omega | (simp only [World.size_alloc, World.size_setCell, World.size_drew]; done) | (simp only [World.size_alloc, World.size_setCell, World.size_drew]; omega) | (simp only [Bool.false_eq_true, false_or, or_false, true_and, and_true, not_false_eq_true, Bool.true_eq_false, decide_eq_true_eq, decide_eq_false_iff_not, Bool.not_eq_true', Bool.not_eq_false', Bool.and_eq_true, Bool.or_eq_true, Bool.and_eq_false_iff, Bool.or_eq_false_iff, Bool.not_not, Classical.not_not] at *; omega) | fail)) only [RB0, RB1, RB2, RB3, RB4, RB5, RB6, RB7, RB8, RB9, RB10, RB11, RB12, RB13, RB14, RB15, RB16, RB17, RB18, RB19, RB20, RB21, MX, BF, TY0, TY1, TY2, TY3, TY4, TY5, TY6, TY7, TY8, gval, gslot, decide_true, decide_false, Option.isNone_some, Option.isNone_none, Option.isSome_some, Option.isSome_none, fillL, ovw, numb, catL, List.length_cons, List.length_nil, List.cons_append, List.nil_append, List.size_toArray, ldN, agL, okC, List.setIfInBounds_toArray, List.set_cons_zero, List.set_cons_succ, oneC, Option.map_some, Option.map_none, init, List.getElem?_toArray, List.getElem?_cons_zero, List.getElem?_cons_succ, Option.bind_some, Option.bind_none, List.map_cons, List.map_nil, Nat.reduceAdd, Nat.reduceMul, Nat.reduceSub, Nat.reduceEqDiff, Nat.reduceLT, ↓reduceIte, Int.reduceToNat, Int.reduceAdd, Int.reduceSub, Int.reduceMul, Int.reduceLT, Int.reduceLE, Int.reduceEq, Nat.reduceLeDiff,  e0, e5, e6, e7, e8, e9, cutX_normal, cutX_ret, cutX_exit, cut2X_normal, cut2X_ret, cut2X_same, cut2X_ne]
      rw [hpt]
      exact ⟨rfl, rfl⟩
    · rw [if_neg hc] at hpt
      simp +contextual (maxSteps := 2000000) (disch := (first | omega | (simp only [World.size_alloc, World.size_setCell, World.size_drew]; done) | (simp only [World.size_alloc, World.size_setCell, World.size_drew]; omega) | (simp only [Bool.false_eq_true, false_or, or_false, true_and, and_true, not_false_eq_true, Bool.true_eq_false, decide_eq_true_eq, decide_eq_false_iff_not, Bool.not_eq_true', Bool.not_eq_false', Bool.and_eq_true, Bool.or_eq_true, Bool.and_eq_false_iff, Bool.or_eq_false_iff, Bool.not_not, Classical.not_not] at *; omega) | fail)) only [RB0, RB1, RB2, RB3, RB4, RB5, RB6, RB7, RB8, RB9, RB10, RB11, RB12, RB13, RB14, RB15, RB16, RB17, RB18, RB19, RB20, RB21, MX, BF, TY0, TY1, TY2, TY3, TY4, TY5, TY6, TY7, TY8, gval, gslot, decide_true, decide_false, Option.isNone_some, Option.isNone_none, Option.isSome_some, Option.isSome_none, fillL, ovw, numb, catL, List.length_cons, List.length_nil, List.cons_append, List.nil_append, List.size_toArray, ldN, agL, okC, List.setIfInBounds_toArray, List.set_cons_zero, List.set_cons_succ, oneC, Option.map_some, Option.map_none, init, List.getElem?_toArray, List.getElem?_cons_zero, List.getElem?_cons_succ, Option.bind_some, Option.bind_none, List.map_cons, List.map_nil, Nat.reduceAdd, Nat.reduceMul, Nat.reduceSub, Nat.reduceEqDiff, Nat.reduceLT, ↓reduceIte, Int.reduceToNat, Int.reduceAdd, Int.reduceSub, Int.reduceMul, Int.reduceLT, Int.reduceLE, Int.reduceEq, Nat.reduceLeDiff,  e0, e5, e6, e7, e8, e9, cutX_normal, cutX_ret, cutX_exit, cut2X_normal, cut2X_ret, cut2X_same, cut2X_ne]
      rw [hpt]
      exact ⟨rfl, rfl⟩
end Go.Proofs.Ythadhnmbddddbaa
