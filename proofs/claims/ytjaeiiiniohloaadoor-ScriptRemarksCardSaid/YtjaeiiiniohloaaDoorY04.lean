/- Texts laid one behind the other: NumA, ScrF, ScrG, Byt, ScrH. Each says at its head what it proves. -/
import Derived.Test.YtjaeiiiniohloaaDoorY03
import Derived.Laws.BytesString
set_option linter.unusedSimpArgs false
/- Walks: num.decimal, num.Parse. -/
namespace Go.Proofs.YtjaeiiiniohloaaDoor
open Go.RowKit
set_option maxRecDepth 100000
theorem sz_pos {s : ByteArray} (h : s ≠ ⟨#[]⟩) : 0 < s.size := by
  rcases Nat.eq_zero_or_pos s.size with h0 | h0
  · exact absurd (ByteArray.ext (Array.eq_empty_of_size_eq_zero h0)) h
  · exact h0
theorem bs_nil : bs ⟨#[]⟩ = [] := rfl
theorem bs_ne {s : ByteArray} (h : 0 < s.size) : bs s ≠ [] := fun e => by have := congrArg List.length e; rw [bs_len, List.length_nil] at this; omega
theorem bs_at {s : ByteArray} {k c : Nat} (h : (bs s)[k]? = some c) : k < s.size ∧ c = bt s k := by
  have hk : k < s.size := by have := (List.getElem?_eq_some_iff.1 h).1; rwa [bs_len] at this
  rw [bs_get hk] at h
  injection h with h
  exact ⟨hk, h.symm⟩
theorem decimal_any (s : ByteArray) (w : World) (hs : s.size ≤ 1000000000) : Calls Tryd.prog 56 #[.string s] w fun e w' => e = .returned (.bool (decOK (bs s))) ∧ w = w' := by
  refine calls_W (l := [_]) Tryd.func56 rfl _ Tryd.ntmps56 (by simp) ?_
  by_cases h0 : s = ⟨#[]⟩
  · subst h0
    simp +contextual (maxSteps := 2000000) (disch := (first | omega | (simp only [SZ]; done) | (simp only [SZ]; omega) | (simp only [TS] at *; omega))) only [RZ, gval, gslot, fillL, ovw, numb, catL, ldN, agL, okC, oneC, init, Nat.reduceAdd, Nat.reduceMul, Nat.reduceSub, Nat.reduceEqDiff, Nat.reduceLT, ↓reduceIte, Int.reduceToNat, Int.reduceAdd, Int.reduceSub, Int.reduceMul, Int.reduceLT, Int.reduceLE, Int.reduceEq, Nat.reduceLeDiff]
    refine W_if_t rfl ?_
    simp +contextual (maxSteps := 2000000) (disch := (first | omega | (simp only [SZ]; done) | (simp only [SZ]; omega) | (simp only [TS] at *; omega))) only [RZ, gval, gslot, fillL, ovw, numb, catL, ldN, agL, okC, oneC, init, Nat.reduceAdd, Nat.reduceMul, Nat.reduceSub, Nat.reduceEqDiff, Nat.reduceLT, ↓reduceIte, Int.reduceToNat, Int.reduceAdd, Int.reduceSub, Int.reduceMul, Int.reduceLT, Int.reduceLE, Int.reduceEq, Nat.reduceLeDiff]
    exact rfl
  have hp := sz_pos h0
  have e0 : (s = ⟨#[]⟩) = False := eq_false h0
  simp +contextual (maxSteps := 2000000) (disch := (first | omega | (simp only [SZ]; done) | (simp only [SZ]; omega) | (simp only [TS] at *; omega))) only [RZ, gval, gslot, fillL, ovw, numb, catL, ldN, agL, okC, oneC, init, Nat.reduceAdd, Nat.reduceMul, Nat.reduceSub, Nat.reduceEqDiff, Nat.reduceLT, ↓reduceIte, Int.reduceToNat, Int.reduceAdd, Int.reduceSub, Int.reduceMul, Int.reduceLT, Int.reduceLE, Int.reduceEq, Nat.reduceLeDiff,  e0]
  (refine W_if rfl (fun hc => ?_) (fun hc => ?_) <;> (try simp only [TS] at hc))
  · simp +contextual (maxSteps := 2000000) (disch := (first | omega | (simp only [SZ]; done) | (simp only [SZ]; omega) | (simp only [TS] at *; omega))) only [RZ, gval, gslot, fillL, ovw, numb, catL, ldN, agL, okC, oneC, init, Nat.reduceAdd, Nat.reduceMul, Nat.reduceSub, Nat.reduceEqDiff, Nat.reduceLT, ↓reduceIte, Int.reduceToNat, Int.reduceAdd, Int.reduceSub, Int.reduceMul, Int.reduceLT, Int.reduceLE, Int.reduceEq, Nat.reduceLeDiff]
    exact ret_bool (decOK_zero (by rw [bs_get hp]; congr 1; omega) (by rw [bs_len]; omega)).symm
  simp +contextual (maxSteps := 2000000) (disch := (first | omega | (simp only [SZ]; done) | (simp only [SZ]; omega) | (simp only [TS] at *; omega))) only [RZ, gval, gslot, fillL, ovw, numb, catL, ldN, agL, okC, oneC, init, Nat.reduceAdd, Nat.reduceMul, Nat.reduceSub, Nat.reduceEqDiff, Nat.reduceLT, ↓reduceIte, Int.reduceToNat, Int.reduceAdd, Int.reduceSub, Int.reduceMul, Int.reduceLT, Int.reduceLE, Int.reduceEq, Nat.reduceLeDiff,  e0]
  refine Raw_loop (fun σ w' => w' = w ∧ ∃ k : Nat, k ≤ s.size ∧ (∀ j, j < k → 48 ≤ bt s j ∧ bt s j ≤ 57) ∧ σ 0 = .string s ∧ σ 17 = .int .i64 s.size ∧ σ 18 = .int .i64 k) (fun σ _ => s.size - (intOf (σ 18)).toNat) ?_ ?_
  · simp +contextual (maxSteps := 2000000) (disch := (first | omega | (simp only [SZ]; done) | (simp only [SZ]; omega) | (simp only [TS] at *; omega))) only [RZ, gval, gslot, fillL, ovw, numb, catL, ldN, agL, okC, oneC, init, Nat.reduceAdd, Nat.reduceMul, Nat.reduceSub, Nat.reduceEqDiff, Nat.reduceLT, ↓reduceIte, Int.reduceToNat, Int.reduceAdd, Int.reduceSub, Int.reduceMul, Int.reduceLT, Int.reduceLE, Int.reduceEq, Nat.reduceLeDiff]
    exact ⟨0, Nat.zero_le _, fun j hj => absurd hj (Nat.not_lt_zero _), rfl⟩
  rintro σ w' ⟨rfl, k, hk, hup, f0, f17, f18⟩ K hK
  simp +contextual (maxSteps := 2000000) (disch := (first | omega | (simp only [SZ]; done) | (simp only [SZ]; omega) | (simp only [TS] at *; omega))) only [RZ, gval, gslot, fillL, ovw, numb, catL, ldN, agL, okC, oneC, init, Nat.reduceAdd, Nat.reduceMul, Nat.reduceSub, Nat.reduceEqDiff, Nat.reduceLT, ↓reduceIte, Int.reduceToNat, Int.reduceAdd, Int.reduceSub, Int.reduceMul, Int.reduceLT, Int.reduceLE, Int.reduceEq, Nat.reduceLeDiff,  f0, f17, f18]
  (refine W_if rfl (fun hc => ?_) (fun hc => ?_) <;> (try simp only [TS] at hc))
  · simp +contextual (maxSteps := 2000000) (disch := (first | omega | (simp only [SZ]; done) | (simp only [SZ]; omega) | (simp only [TS] at *; omega))) only [RZ, gval, gslot, fillL, ovw, numb, catL, ldN, agL, okC, oneC, init, Nat.reduceAdd, Nat.reduceMul, Nat.reduceSub, Nat.reduceEqDiff, Nat.reduceLT, ↓reduceIte, Int.reduceToNat, Int.reduceAdd, Int.reduceSub, Int.reduceMul, Int.reduceLT, Int.reduceLE, Int.reduceEq, Nat.reduceLeDiff,  f0, f17, f18]
    (refine W_if rfl (fun hc => ?_) (fun hc => ?_) <;> (try simp only [TS] at hc))
    · simp +contextual (maxSteps := 2000000) (disch := (first | omega | (simp only [SZ]; done) | (simp only [SZ]; omega) | (simp only [TS] at *; omega))) only [RZ, gval, gslot, fillL, ovw, numb, catL, ldN, agL, okC, oneC, init, Nat.reduceAdd, Nat.reduceMul, Nat.reduceSub, Nat.reduceEqDiff, Nat.reduceLT, ↓reduceIte, Int.reduceToNat, Int.reduceAdd, Int.reduceSub, Int.reduceMul, Int.reduceLT, Int.reduceLE, Int.reduceEq, Nat.reduceLeDiff,  f0, f17, f18]
      exact ret_bool (decOK_bad (bs_get (i := k) (by omega)) (by omega)).symm
    · simp +contextual (maxSteps := 2000000) (disch := (first | omega | (simp only [SZ]; done) | (simp only [SZ]; omega) | (simp only [TS] at *; omega))) only [RZ, gval, gslot, fillL, ovw, numb, catL, ldN, agL, okC, oneC, init, Nat.reduceAdd, Nat.reduceMul, Nat.reduceSub, Nat.reduceEqDiff, Nat.reduceLT, ↓reduceIte, Int.reduceToNat, Int.reduceAdd, Int.reduceSub, Int.reduceMul, Int.reduceLT, Int.reduceLE, Int.reduceEq, Nat.reduceLeDiff,  f0, f17, f18]
      refine hK _ _ ⟨rfl, k + 1, by omega, fun j hj => ?_, ?_⟩ ?_
      · rcases Nat.lt_or_eq_of_le (Nat.lt_succ_iff.1 hj) with h | rfl
        · exact hup j h
        · omega
      · simp +contextual (maxSteps := 2000000) (disch := (first | omega | (simp only [SZ]; done) | (simp only [SZ]; omega) | (simp only [TS] at *; omega))) only [RZ, gval, gslot, fillL, ovw, numb, catL, ldN, agL, okC, oneC, init, Nat.reduceAdd, Nat.reduceMul, Nat.reduceSub, Nat.reduceEqDiff, Nat.reduceLT, ↓reduceIte, Int.reduceToNat, Int.reduceAdd, Int.reduceSub, Int.reduceMul, Int.reduceLT, Int.reduceLE, Int.reduceEq, Nat.reduceLeDiff,  f0, f17, f18]
      · simp +contextual (maxSteps := 2000000) (disch := (first | omega | (simp only [SZ]; done) | (simp only [SZ]; omega) | (simp only [TS] at *; omega))) only [RZ, gval, gslot, fillL, ovw, numb, catL, ldN, agL, okC, oneC, init, Nat.reduceAdd, Nat.reduceMul, Nat.reduceSub, Nat.reduceEqDiff, Nat.reduceLT, ↓reduceIte, Int.reduceToNat, Int.reduceAdd, Int.reduceSub, Int.reduceMul, Int.reduceLT, Int.reduceLE, Int.reduceEq, Nat.reduceLeDiff,  intOf, f18]
        omega
  · simp +contextual (maxSteps := 2000000) (disch := (first | omega | (simp only [SZ]; done) | (simp only [SZ]; omega) | (simp only [TS] at *; omega))) only [RZ, gval, gslot, fillL, ovw, numb, catL, ldN, agL, okC, oneC, init, Nat.reduceAdd, Nat.reduceMul, Nat.reduceSub, Nat.reduceEqDiff, Nat.reduceLT, ↓reduceIte, Int.reduceToNat, Int.reduceAdd, Int.reduceSub, Int.reduceMul, Int.reduceLT, Int.reduceLE, Int.reduceEq, Nat.reduceLeDiff,  f0, f17, f18]
    refine ret_bool (decOK_yes (bs_ne hp) (fun h => ?_) (fun j c hj => ?_)).symm
    · have := (bs_at h.1).2
      rw [bs_len] at h
      omega
    · obtain ⟨h1, rfl⟩ := bs_at hj
      exact hup j (by omega)
theorem negB_bs (s : ByteArray) : negB (bs s) = (decide (0 < s.size) && decide (bt s 0 = 45)) := by
  rcases Nat.eq_zero_or_pos s.size with h | h
  · have e : bs s = [] := List.length_eq_zero_iff.1 (by rw [bs_len]; exact h)
    rw [e, h]; rfl
  · have h1 := bs_get h
    cases hb : bs s with
    | nil => exact absurd hb (bs_ne h)
    | cons c r =>
      rw [hb] at h1
      simp only [List.getElem?_cons_zero, Option.some.injEq] at h1
      subst h1
      by_cases h45 : bt s 0 = 45
      · rw [h45]; simp [negB, h]
      · unfold negB
        split
        · rename_i e; injection e with e _; exact absurd e h45
        · simp [h45]
def magB (s : ByteArray) : ByteArray := if negB (bs s) then s.extract 1 s.size else s
theorem bs_mag (s : ByteArray) : bs (magB s) = magL (bs s) := by
  unfold magB magL
  split
  · rw [bs_extract]
    rw [List.take_of_length_le (by rw [List.length_drop, bs_len]; omega)]
  · rfl
theorem mag_sz (s : ByteArray) : (magB s).size ≤ s.size := by
  unfold magB
  split
  · rw [ByteArray.size_extract]; omega
  · omega
theorem numParse_any (s : ByteArray) (w : World) (hs : s.size ≤ 1000000000) : Calls Tryd.prog 49 #[.string s] w fun e w' => e = .returned (.tuple #[.int .i64 (numE (bs s)).1, .int .i64 (numE (bs s)).2]) ∧ w = w' := by
  refine calls_W (l := [_]) Tryd.func49 rfl _ Tryd.ntmps49 (by simp) ?_
  have hms := mag_sz s
  simp +contextual (maxSteps := 2000000) (disch := (first | omega | (simp only [SZ]; done) | (simp only [SZ]; omega) | (simp only [TS] at *; omega))) only [RZ, gval, gslot, fillL, ovw, numb, catL, ldN, agL, okC, oneC, init, Nat.reduceAdd, Nat.reduceMul, Nat.reduceSub, Nat.reduceEqDiff, Nat.reduceLT, ↓reduceIte, Int.reduceToNat, Int.reduceAdd, Int.reduceSub, Int.reduceMul, Int.reduceLT, Int.reduceLE, Int.reduceEq, Nat.reduceLeDiff]
  refine W_cut (fun τ w' => w' = w ∧ τ 4 = .string (magB s) ∧ τ 5 = .bool (negB (bs s))) ?_ ?_
  rotate_left
  · (refine W_if rfl (fun hc => ?_) (fun hc => ?_) <;> (try simp only [TS] at hc))
    · have hn : negB (bs s) = true := by rw [negB_bs]; simp; omega
      have hm : magB s = s.extract 1 s.size := by unfold magB; rw [if_pos hn]
      simp +contextual (maxSteps := 2000000) (disch := (first | omega | (simp only [SZ]; done) | (simp only [SZ]; omega) | (simp only [TS] at *; omega))) only [RZ, gval, gslot, fillL, ovw, numb, catL, ldN, agL, okC, oneC, init, Nat.reduceAdd, Nat.reduceMul, Nat.reduceSub, Nat.reduceEqDiff, Nat.reduceLT, ↓reduceIte, Int.reduceToNat, Int.reduceAdd, Int.reduceSub, Int.reduceMul, Int.reduceLT, Int.reduceLE, Int.reduceEq, Nat.reduceLeDiff,  cutX_normal, cutX_ret, cutX_exit, cut2X_normal, cut2X_ret, cut2X_same, cut2X_ne, hn, hm]
      simp; omega
    · have hn : negB (bs s) = false := by rw [negB_bs]; simp; omega
      have hm : magB s = s := by unfold magB; rw [hn]; rfl
      simp +contextual (maxSteps := 2000000) (disch := (first | omega | (simp only [SZ]; done) | (simp only [SZ]; omega) | (simp only [TS] at *; omega))) only [RZ, gval, gslot, fillL, ovw, numb, catL, ldN, agL, okC, oneC, init, Nat.reduceAdd, Nat.reduceMul, Nat.reduceSub, Nat.reduceEqDiff, Nat.reduceLT, ↓reduceIte, Int.reduceToNat, Int.reduceAdd, Int.reduceSub, Int.reduceMul, Int.reduceLT, Int.reduceLE, Int.reduceEq, Nat.reduceLeDiff,  cutX_normal, cutX_ret, cutX_exit, cut2X_normal, cut2X_ret, cut2X_same, cut2X_ne, hn, hm]
      simp; omega
  rintro τ w' ⟨rfl, f4, f5⟩
  have hR1 := @numE_bad (bs s)
  have hR2 := @numE_over (bs s)
  have hR3 := @numE_in (bs s)
  rw [← bs_mag] at hR1 hR2 hR3
  generalize numE (bs s) = R at *
  generalize magB s = t at *
  generalize negB (bs s) = ng at *
  have h48 : (bs t = [48]) = (t = ⟨#[48]⟩) := by
    apply propext
    exact ⟨fun h => bs_inj (by rw [h]; rfl), fun h => by rw [h]; rfl⟩
  rw [h48] at hR1 hR2 hR3
  simp +contextual (maxSteps := 2000000) (disch := (first | omega | (simp only [SZ]; done) | (simp only [SZ]; omega) | (simp only [TS] at *; omega))) only [RZ, gval, gslot, fillL, ovw, numb, catL, ldN, agL, okC, oneC, init, Nat.reduceAdd, Nat.reduceMul, Nat.reduceSub, Nat.reduceEqDiff, Nat.reduceLT, ↓reduceIte, Int.reduceToNat, Int.reduceAdd, Int.reduceSub, Int.reduceMul, Int.reduceLT, Int.reduceLE, Int.reduceEq, Nat.reduceLeDiff,  f4, f5]
  refine (decimal_any _ _ (by omega)).mono ?_
  rintro e w1 ⟨rfl, rfl⟩
  refine ⟨_, rfl, ?_⟩
  simp +contextual (maxSteps := 2000000) (disch := (first | omega | (simp only [SZ]; done) | (simp only [SZ]; omega) | (simp only [TS] at *; omega))) only [RZ, gval, gslot, fillL, ovw, numb, catL, ldN, agL, okC, oneC, init, Nat.reduceAdd, Nat.reduceMul, Nat.reduceSub, Nat.reduceEqDiff, Nat.reduceLT, ↓reduceIte, Int.reduceToNat, Int.reduceAdd, Int.reduceSub, Int.reduceMul, Int.reduceLT, Int.reduceLE, Int.reduceEq, Nat.reduceLeDiff,  f4, f5]
  (refine W_if rfl (fun hc => ?_) (fun hc => ?_) <;> (try simp only [TS] at hc))
  · rw [hR1 hc]
    simp +contextual (maxSteps := 2000000) (disch := (first | omega | (simp only [SZ]; done) | (simp only [SZ]; omega) | (simp only [TS] at *; omega))) only [RZ, gval, gslot, fillL, ovw, numb, catL, ldN, agL, okC, oneC, init, Nat.reduceAdd, Nat.reduceMul, Nat.reduceSub, Nat.reduceEqDiff, Nat.reduceLT, ↓reduceIte, Int.reduceToNat, Int.reduceAdd, Int.reduceSub, Int.reduceMul, Int.reduceLT, Int.reduceLE, Int.reduceEq, Nat.reduceLeDiff]
  have hgood : ¬ (decOK (bs t) = false ∨ (ng = true ∧ t = ⟨#[48]⟩)) := by
    rintro (h | ⟨h1, h2⟩)
    · rw [h] at hc; cases hc.1
    · rcases hc.2 with h | h
      · rw [h] at h1; cases h1
      · exact h h2
  replace hR2 := hR2 hgood
  replace hR3 := hR3 hgood
  clear hR1 hc
  rw [not_or] at hgood
  have hd : decOK (bs t) = true := by simpa using hgood.1
  have hl : limN ng = 9223372036854775807 ∨ (limN ng = 9223372036854775808 ∧ ng = true) := by cases ng <;> simp [limN]
  simp +contextual (maxSteps := 2000000) (disch := (first | omega | (simp only [SZ]; done) | (simp only [SZ]; omega) | (simp only [TS] at *; omega))) only [RZ, gval, gslot, fillL, ovw, numb, catL, ldN, agL, okC, oneC, init, Nat.reduceAdd, Nat.reduceMul, Nat.reduceSub, Nat.reduceEqDiff, Nat.reduceLT, ↓reduceIte, Int.reduceToNat, Int.reduceAdd, Int.reduceSub, Int.reduceMul, Int.reduceLT, Int.reduceLE, Int.reduceEq, Nat.reduceLeDiff,  f4, f5]
  refine W_cut (fun τ w2 => w2 = w' ∧ τ 4 = .string t ∧ τ 5 = .bool ng ∧ τ 6 = .int .u64 (limN ng)) ?_ ?_
  rotate_left
  · cases ng
    · refine W_if_f rfl ?_
      simp +contextual (maxSteps := 2000000) (disch := (first | omega | (simp only [SZ]; done) | (simp only [SZ]; omega) | (simp only [TS] at *; omega))) only [RZ, gval, gslot, fillL, ovw, numb, catL, ldN, agL, okC, oneC, init, Nat.reduceAdd, Nat.reduceMul, Nat.reduceSub, Nat.reduceEqDiff, Nat.reduceLT, ↓reduceIte, Int.reduceToNat, Int.reduceAdd, Int.reduceSub, Int.reduceMul, Int.reduceLT, Int.reduceLE, Int.reduceEq, Nat.reduceLeDiff,  cutX_normal, cutX_ret, cutX_exit, cut2X_normal, cut2X_ret, cut2X_same, cut2X_ne, f4, f5]
      rfl
    · refine W_if_t rfl ?_
      simp +contextual (maxSteps := 2000000) (disch := (first | omega | (simp only [SZ]; done) | (simp only [SZ]; omega) | (simp only [TS] at *; omega))) only [RZ, gval, gslot, fillL, ovw, numb, catL, ldN, agL, okC, oneC, init, Nat.reduceAdd, Nat.reduceMul, Nat.reduceSub, Nat.reduceEqDiff, Nat.reduceLT, ↓reduceIte, Int.reduceToNat, Int.reduceAdd, Int.reduceSub, Int.reduceMul, Int.reduceLT, Int.reduceLE, Int.reduceEq, Nat.reduceLeDiff,  cutX_normal, cutX_ret, cutX_exit, cut2X_normal, cut2X_ret, cut2X_same, cut2X_ne, f4, f5]
      rfl
  clear f4 f5
  rintro υ w2 ⟨rfl, f4, f5, f6⟩
  simp +contextual (maxSteps := 2000000) (disch := (first | omega | (simp only [SZ]; done) | (simp only [SZ]; omega) | (simp only [TS] at *; omega))) only [RZ, gval, gslot, fillL, ovw, numb, catL, ldN, agL, okC, oneC, init, Nat.reduceAdd, Nat.reduceMul, Nat.reduceSub, Nat.reduceEqDiff, Nat.reduceLT, ↓reduceIte, Int.reduceToNat, Int.reduceAdd, Int.reduceSub, Int.reduceMul, Int.reduceLT, Int.reduceLE, Int.reduceEq, Nat.reduceLeDiff,  f4, f5, f6]
  refine Raw_loop (fun σ w3 => w3 = w2 ∧ ∃ k : Nat, k ≤ t.size ∧ valD 0 ((bs t).take k) ≤ limN ng ∧ σ 4 = .string t ∧ σ 5 = .bool ng ∧ σ 6 = .int .u64 (limN ng) ∧ σ 7 = .int .u64 (valD 0 ((bs t).take k)) ∧ σ 36 = .int .i64 t.size ∧ σ 37 = .int .i64 k) (fun σ _ => t.size - (intOf (σ 37)).toNat) ?_ ?_
  · simp +contextual (maxSteps := 2000000) (disch := (first | omega | (simp only [SZ]; done) | (simp only [SZ]; omega) | (simp only [TS] at *; omega))) only [RZ, gval, gslot, fillL, ovw, numb, catL, ldN, agL, okC, oneC, init, Nat.reduceAdd, Nat.reduceMul, Nat.reduceSub, Nat.reduceEqDiff, Nat.reduceLT, ↓reduceIte, Int.reduceToNat, Int.reduceAdd, Int.reduceSub, Int.reduceMul, Int.reduceLT, Int.reduceLE, Int.reduceEq, Nat.reduceLeDiff,  f4, f5, f6]
    exact ⟨0, Nat.zero_le _, Nat.zero_le _, rfl, rfl⟩
  rintro σ w3 ⟨rfl, k, hk, hv, g4, g5, g6, g7, g36, g37⟩ K hK
  have hdig := decOK_all hd
  simp +contextual (maxSteps := 2000000) (disch := (first | omega | (simp only [SZ]; done) | (simp only [SZ]; omega) | (simp only [TS] at *; omega))) only [RZ, gval, gslot, fillL, ovw, numb, catL, ldN, agL, okC, oneC, init, Nat.reduceAdd, Nat.reduceMul, Nat.reduceSub, Nat.reduceEqDiff, Nat.reduceLT, ↓reduceIte, Int.reduceToNat, Int.reduceAdd, Int.reduceSub, Int.reduceMul, Int.reduceLT, Int.reduceLE, Int.reduceEq, Nat.reduceLeDiff,  g4, g5, g6, g7, g36, g37]
  (refine W_if rfl (fun hc => ?_) (fun hc => ?_) <;> (try simp only [TS] at hc))
  · have hkl : k < t.size := by omega
    have hb := hdig (bt t k) (List.mem_of_getElem? (bs_get hkl))
    have hst := valD_step (bs_get hkl)
    have htk := valD_take (bs t) (k + 1)
    simp +contextual (maxSteps := 2000000) (disch := (first | omega | (simp only [SZ]; done) | (simp only [SZ]; omega) | (simp only [TS] at *; omega))) only [RZ, gval, gslot, fillL, ovw, numb, catL, ldN, agL, okC, oneC, init, Nat.reduceAdd, Nat.reduceMul, Nat.reduceSub, Nat.reduceEqDiff, Nat.reduceLT, ↓reduceIte, Int.reduceToNat, Int.reduceAdd, Int.reduceSub, Int.reduceMul, Int.reduceLT, Int.reduceLE, Int.reduceEq, Nat.reduceLeDiff,  g4, g5, g6, g7, g36, g37]
    (refine W_if rfl (fun hc => ?_) (fun hc => ?_) <;> (try simp only [TS] at hc))
    · rw [hR2 (by omega)]
      simp +contextual (maxSteps := 2000000) (disch := (first | omega | (simp only [SZ]; done) | (simp only [SZ]; omega) | (simp only [TS] at *; omega))) only [RZ, gval, gslot, fillL, ovw, numb, catL, ldN, agL, okC, oneC, init, Nat.reduceAdd, Nat.reduceMul, Nat.reduceSub, Nat.reduceEqDiff, Nat.reduceLT, ↓reduceIte, Int.reduceToNat, Int.reduceAdd, Int.reduceSub, Int.reduceMul, Int.reduceLT, Int.reduceLE, Int.reduceEq, Nat.reduceLeDiff,  g4]
    · simp +contextual (maxSteps := 2000000) (disch := (first | omega | (simp only [SZ]; done) | (simp only [SZ]; omega) | (simp only [TS] at *; omega))) only [RZ, gval, gslot, fillL, ovw, numb, catL, ldN, agL, okC, oneC, init, Nat.reduceAdd, Nat.reduceMul, Nat.reduceSub, Nat.reduceEqDiff, Nat.reduceLT, ↓reduceIte, Int.reduceToNat, Int.reduceAdd, Int.reduceSub, Int.reduceMul, Int.reduceLT, Int.reduceLE, Int.reduceEq, Nat.reduceLeDiff,  g4, g5, g6, g7, g36, g37]
      refine hK _ _ ⟨rfl, k + 1, by omega, by omega, ?_⟩ ?_
      · simp +contextual (maxSteps := 2000000) (disch := (first | omega | (simp only [SZ]; done) | (simp only [SZ]; omega) | (simp only [TS] at *; omega))) only [RZ, gval, gslot, fillL, ovw, numb, catL, ldN, agL, okC, oneC, init, Nat.reduceAdd, Nat.reduceMul, Nat.reduceSub, Nat.reduceEqDiff, Nat.reduceLT, ↓reduceIte, Int.reduceToNat, Int.reduceAdd, Int.reduceSub, Int.reduceMul, Int.reduceLT, Int.reduceLE, Int.reduceEq, Nat.reduceLeDiff,  g4, g5, g6, g7, g36, g37]
        rw [hst]
        congr 1
        omega
      · simp +contextual (maxSteps := 2000000) (disch := (first | omega | (simp only [SZ]; done) | (simp only [SZ]; omega) | (simp only [TS] at *; omega))) only [RZ, gval, gslot, fillL, ovw, numb, catL, ldN, agL, okC, oneC, init, Nat.reduceAdd, Nat.reduceMul, Nat.reduceSub, Nat.reduceEqDiff, Nat.reduceLT, ↓reduceIte, Int.reduceToNat, Int.reduceAdd, Int.reduceSub, Int.reduceMul, Int.reduceLT, Int.reduceLE, Int.reduceEq, Nat.reduceLeDiff,  intOf, g37]
        omega
  · have hkl : k = t.size := by omega
    subst hkl
    rw [List.take_of_length_le (by rw [bs_len]; omega)] at hv g7
    rw [hR3 (by omega)]
    simp +contextual (maxSteps := 2000000) (disch := (first | omega | (simp only [SZ]; done) | (simp only [SZ]; omega) | (simp only [TS] at *; omega))) only [RZ, gval, gslot, fillL, ovw, numb, catL, ldN, agL, okC, oneC, init, Nat.reduceAdd, Nat.reduceMul, Nat.reduceSub, Nat.reduceEqDiff, Nat.reduceLT, ↓reduceIte, Int.reduceToNat, Int.reduceAdd, Int.reduceSub, Int.reduceMul, Int.reduceLT, Int.reduceLE, Int.reduceEq, Nat.reduceLeDiff,  g4, g5, g6, g7, g36, g37]
    cases ng
    · refine W_if_t rfl ?_
      rcases hl with hl | ⟨_, hl⟩
      · simp +contextual (maxSteps := 2000000) (disch := (first | omega | (simp only [SZ]; done) | (simp only [SZ]; omega) | (simp only [TS] at *; omega))) only [RZ, gval, gslot, fillL, ovw, numb, catL, ldN, agL, okC, oneC, init, Nat.reduceAdd, Nat.reduceMul, Nat.reduceSub, Nat.reduceEqDiff, Nat.reduceLT, ↓reduceIte, Int.reduceToNat, Int.reduceAdd, Int.reduceSub, Int.reduceMul, Int.reduceLT, Int.reduceLE, Int.reduceEq, Nat.reduceLeDiff,  g4, g5, g6, g7, g36, g37]
      · cases hl
    · refine W_if_f rfl ?_
      have hp := decOK_pos hd (by rw [ne_eq, h48]; have := hgood.2; simpa using this)
      have hl2 : limN true = 9223372036854775808 := rfl
      simp +contextual (maxSteps := 2000000) (disch := (first | omega | (simp only [SZ]; done) | (simp only [SZ]; omega) | (simp only [TS] at *; omega))) only [RZ, gval, gslot, fillL, ovw, numb, catL, ldN, agL, okC, oneC, init, Nat.reduceAdd, Nat.reduceMul, Nat.reduceSub, Nat.reduceEqDiff, Nat.reduceLT, ↓reduceIte, Int.reduceToNat, Int.reduceAdd, Int.reduceSub, Int.reduceMul, Int.reduceLT, Int.reduceLE, Int.reduceEq, Nat.reduceLeDiff,  g4, g5, g6, g7, g36, g37]
      rw [show -((valD 0 (bs t) : Int) - 1) - 1 = -(valD 0 (bs t) : Int) by omega]
end Go.Proofs.YtjaeiiiniohloaaDoor
/- Walks: script.hexDigit, plain, cut. -/
namespace Go.Proofs.YtjaeiiiniohloaaDoor
open Go.RowKit
set_option maxRecDepth 100000
theorem idx_cases (b : UInt8) : ∀ l : List UInt8, (Lib.indexByte l b = -1 ∧ ∀ c ∈ l, c ≠ b) ∨ ∃ i : Nat, i < l.length ∧ Lib.indexByte l b = i ∧ l[i]? = some b ∧ ∀ c ∈ l.take i, c ≠ b
  | [] => .inl ⟨rfl, fun c h => by cases h⟩
  | d :: l => by
    unfold Lib.indexByte
    by_cases hd : d = b
    · right
      exact ⟨0, by simp, by simp [hd], by simp [hd], fun c h => by simp at h⟩
    · have hd' : (d == b) = false := by simpa using hd
      rw [hd']
      simp only [Bool.false_eq_true, if_false]
      rcases idx_cases b l with ⟨h1, h2⟩ | ⟨i, h0, h1, h2, h3⟩
      · left
        rw [h1]
        refine ⟨by simp, fun c hc => ?_⟩
        rcases List.mem_cons.1 hc with rfl | hc
        · exact hd
        · exact h2 c hc
      · right
        refine ⟨i + 1, by simpa using h0, ?_, by simpa using h2, fun c hc => ?_⟩
        · rw [h1]
          have : (((i : Nat) : Int) == -1) = false := by rw [beq_eq_false_iff_ne]; omega
          rw [this]
          simp
        · rw [List.take_succ_cons] at hc
          rcases List.mem_cons.1 hc with rfl | hc
          · exact hd
          · exact h3 c hc
/-- Where a byte stands first. -/
theorem idx_bs (s : ByteArray) (b : Nat) (hb : b < 256) (q : Nat → Bool) (hq : ∀ c, q c = false ↔ c = b) :
    (Lib.indexByte s.data.toList ((b : Int).toNat.toUInt8) = -1 ∧ (bs s).takeWhile q = bs s ∧ (bs s).dropWhile q = []) ∨
    ∃ i : Nat, i < s.size ∧ bt s i = b ∧ Lib.indexByte s.data.toList ((b : Int).toNat.toUInt8) = i ∧ (bs s).takeWhile q = bs (s.extract 0 i) ∧ (bs s).dropWhile q = bs (s.extract i s.size) := by
  have hn : ∀ c : UInt8, c ≠ (b : Int).toNat.toUInt8 ↔ c.toNat ≠ b := fun c => by
    rw [Int.toNat_natCast]
    constructor
    · intro h e
      exact h (UInt8.toNat_inj.1 (by rw [e]; simp; try omega))
    · intro h e
      exact h (by rw [e]; simp; try omega)
  have hqt : ∀ {c}, c ≠ b → q c = true := fun {c} h => by
    cases hc : q c with
    | true => rfl
    | false => exact absurd ((hq c).1 hc) h
  rcases idx_cases ((b : Int).toNat.toUInt8) s.data.toList with ⟨h1, h2⟩ | ⟨i, h0, h1, h2, h3⟩
  · left
    have ha : ∀ c ∈ bs s, q c = true := fun c hc => by
      obtain ⟨d, hd, rfl⟩ := List.mem_map.1 hc
      exact hqt ((hn d).1 (h2 d hd))
    have e1 := List.takeWhile_append_of_pos (l₂ := []) ha
    have e2 := List.dropWhile_append_of_pos (l₂ := []) ha
    rw [List.append_nil] at e1 e2
    exact ⟨h1, e1.trans (by simp), e2.trans (by simp)⟩
  · right
    have hi : i < s.size := by simpa using h0
    have hbt : bt s i = b := by
      unfold bt
      rw [List.getD_eq_getElem?_getD, h2]
      simp
      omega
    have e0 : bs s = (bs s).take i ++ b :: (bs s).drop (i + 1) := by
      have h4 : i < (bs s).length := by rw [bs_len]; exact hi
      have h5 := bs_get hi
      rw [List.getElem?_eq_getElem h4] at h5
      injection h5 with h5
      conv => lhs; rw [← List.take_append_drop i (bs s), List.drop_eq_getElem_cons h4, h5, hbt]
    have ha : ∀ c ∈ (bs s).take i, q c = true := fun c hc => by
      unfold bs at hc
      rw [← List.map_take] at hc
      obtain ⟨d, hd, rfl⟩ := List.mem_map.1 hc
      exact hqt ((hn d).1 (h3 d hd))
    have hqb : q b = false := (hq b).2 rfl
    refine ⟨i, hi, hbt, h1, ?_, ?_⟩
    · rw [bs_extract]
      simp only [List.drop_zero, Nat.sub_zero]
      conv => lhs; rw [e0]
      rw [List.takeWhile_append_of_pos ha, List.takeWhile_cons_of_neg (by rw [hqb]; decide), List.append_nil]
    · rw [bs_extract, List.take_of_length_le (by rw [List.length_drop, bs_len]; omega)]
      conv => lhs; rw [e0]
      rw [List.dropWhile_append_of_pos ha, List.dropWhile_cons_of_neg (by rw [hqb]; decide)]
      have h4 : i < (bs s).length := by rw [bs_len]; exact hi
      have h5 := bs_get hi
      rw [List.getElem?_eq_getElem h4] at h5
      injection h5 with h5
      rw [List.drop_eq_getElem_cons h4, h5, hbt]
theorem ret_two {a b : Int} {t : Bool} (h : a = b) : Ending.returned (.tuple #[.int .u8 a, .bool t]) = Ending.returned (.tuple #[.int .u8 b, .bool t]) := by rw [h]
theorem hexDigit_any (c : Nat) (w : World) (hc : c < 256) : Calls Tryd.prog 80 #[.int .u8 c] w fun e w' => e = .returned (.tuple #[.int .u8 ((hexv c).getD 0 : Nat), .bool (hexv c).isSome]) ∧ w = w' := by
  refine calls_W (l := [_]) Tryd.func80 rfl _ Tryd.ntmps80 (by simp) ?_
  unfold hexv
  simp +contextual (maxSteps := 2000000) (disch := (first | omega | (simp only [SZ]; done) | (simp only [SZ]; omega) | (simp only [TS] at *; omega))) only [RZ, gval, gslot, fillL, ovw, numb, catL, ldN, agL, okC, oneC, init, Nat.reduceAdd, Nat.reduceMul, Nat.reduceSub, Nat.reduceEqDiff, Nat.reduceLT, ↓reduceIte, Int.reduceToNat, Int.reduceAdd, Int.reduceSub, Int.reduceMul, Int.reduceLT, Int.reduceLE, Int.reduceEq, Nat.reduceLeDiff]
  (refine W_if rfl (fun hc => ?_) (fun hc => ?_) <;> (try simp only [TS] at hc))
  · rw [if_pos (by omega)]
    simp +contextual (maxSteps := 2000000) (disch := (first | omega | (simp only [SZ]; done) | (simp only [SZ]; omega) | (simp only [TS] at *; omega))) only [RZ, gval, gslot, fillL, ovw, numb, catL, ldN, agL, okC, oneC, init, Nat.reduceAdd, Nat.reduceMul, Nat.reduceSub, Nat.reduceEqDiff, Nat.reduceLT, ↓reduceIte, Int.reduceToNat, Int.reduceAdd, Int.reduceSub, Int.reduceMul, Int.reduceLT, Int.reduceLE, Int.reduceEq, Nat.reduceLeDiff]
    exact ret_two (by simp only [Option.getD_some]; omega)
  rw [if_neg (by omega)]
  simp +contextual (maxSteps := 2000000) (disch := (first | omega | (simp only [SZ]; done) | (simp only [SZ]; omega) | (simp only [TS] at *; omega))) only [RZ, gval, gslot, fillL, ovw, numb, catL, ldN, agL, okC, oneC, init, Nat.reduceAdd, Nat.reduceMul, Nat.reduceSub, Nat.reduceEqDiff, Nat.reduceLT, ↓reduceIte, Int.reduceToNat, Int.reduceAdd, Int.reduceSub, Int.reduceMul, Int.reduceLT, Int.reduceLE, Int.reduceEq, Nat.reduceLeDiff]
  (refine W_if rfl (fun hc => ?_) (fun hc => ?_) <;> (try simp only [TS] at hc))
  · rw [if_pos (by omega)]
    simp +contextual (maxSteps := 2000000) (disch := (first | omega | (simp only [SZ]; done) | (simp only [SZ]; omega) | (simp only [TS] at *; omega))) only [RZ, gval, gslot, fillL, ovw, numb, catL, ldN, agL, okC, oneC, init, Nat.reduceAdd, Nat.reduceMul, Nat.reduceSub, Nat.reduceEqDiff, Nat.reduceLT, ↓reduceIte, Int.reduceToNat, Int.reduceAdd, Int.reduceSub, Int.reduceMul, Int.reduceLT, Int.reduceLE, Int.reduceEq, Nat.reduceLeDiff]
    exact ret_two (by simp only [Option.getD_some]; omega)
  rw [if_neg (by omega)]
  simp +contextual (maxSteps := 2000000) (disch := (first | omega | (simp only [SZ]; done) | (simp only [SZ]; omega) | (simp only [TS] at *; omega))) only [RZ, gval, gslot, fillL, ovw, numb, catL, ldN, agL, okC, oneC, init, Nat.reduceAdd, Nat.reduceMul, Nat.reduceSub, Nat.reduceEqDiff, Nat.reduceLT, ↓reduceIte, Int.reduceToNat, Int.reduceAdd, Int.reduceSub, Int.reduceMul, Int.reduceLT, Int.reduceLE, Int.reduceEq, Nat.reduceLeDiff]
  exact ret_two rfl
theorem plain_any (c : Nat) (w : World) (hc : c < 256) : Calls Tryd.prog 54 #[.int .u8 c] w fun e w' => e = .returned (.bool (plainB c)) ∧ w = w' := by
  refine calls_W (l := [_]) Tryd.func54 rfl _ Tryd.ntmps54 (by simp) ?_
  simp +contextual (maxSteps := 2000000) (disch := (first | omega | (simp only [SZ]; done) | (simp only [SZ]; omega) | (simp only [TS] at *; omega))) only [RZ, gval, gslot, fillL, ovw, numb, catL, ldN, agL, okC, oneC, init, Nat.reduceAdd, Nat.reduceMul, Nat.reduceSub, Nat.reduceEqDiff, Nat.reduceLT, ↓reduceIte, Int.reduceToNat, Int.reduceAdd, Int.reduceSub, Int.reduceMul, Int.reduceLT, Int.reduceLE, Int.reduceEq, Nat.reduceLeDiff]
  refine ret_bool ?_
  rw [Bool.eq_iff_iff]
  unfold plainB
  simp
  omega
theorem cutS_is {s : ByteArray} (h : 0 < s.size) (h1 : bt s 0 = 32) : cutS (bs s) = some ((bs (s.extract 1 s.size)).takeWhile notSp, (bs (s.extract 1 s.size)).dropWhile notSp) := by
  have h2 := bs_get h
  rw [h1] at h2
  have h3 : bs (s.extract 1 s.size) = (bs s).drop 1 := by rw [bs_extract, List.take_of_length_le (by rw [List.length_drop, bs_len]; omega)]
  rw [h3]
  cases hb : bs s with
  | nil => exact absurd hb (bs_ne h)
  | cons c r =>
    rw [hb] at h2
    simp only [List.getElem?_cons_zero, Option.some.injEq] at h2
    subst h2
    rfl
theorem cutS_no {s : ByteArray} (h : ¬ (0 < s.size ∧ bt s 0 = 32)) : cutS (bs s) = none := by
  rcases Nat.eq_zero_or_pos s.size with h0 | h0
  · have : bs s = [] := List.length_eq_zero_iff.1 (by rw [bs_len]; exact h0)
    rw [this]; rfl
  · have h2 := bs_get h0
    cases hb : bs s with
    | nil => rfl
    | cons c r =>
      rw [hb] at h2
      simp only [List.getElem?_cons_zero, Option.some.injEq] at h2
      unfold cutS
      simp only
      rw [if_neg (by rintro rfl; exact h ⟨h0, h2.symm⟩)]
def cutV (l : List Nat) : Value := match cutS l with
  | some (t, r) => .tuple #[.string (toBA t), .string (toBA r), .bool true]
  | none => .tuple #[.string ⟨#[]⟩, .string ⟨#[]⟩, .bool false]
theorem cut_any (s : ByteArray) (w : World) (hs : s.size ≤ 1000000000) : Calls Tryd.prog 59 #[.string s] w fun e w' => e = .returned (cutV (bs s)) ∧ Below w.heap.size w w' := by
  refine calls_W (l := [_]) Tryd.func59 rfl _ Tryd.ntmps59 (by simp) ?_
  unfold cutV
  by_cases h0 : s = ⟨#[]⟩
  · subst h0
    simp +contextual (maxSteps := 2000000) (disch := (first | omega | (simp only [SZ]; done) | (simp only [SZ]; omega) | (simp only [TS] at *; omega))) only [RZ, gval, gslot, fillL, ovw, numb, catL, ldN, agL, okC, oneC, init, Nat.reduceAdd, Nat.reduceMul, Nat.reduceSub, Nat.reduceEqDiff, Nat.reduceLT, ↓reduceIte, Int.reduceToNat, Int.reduceAdd, Int.reduceSub, Int.reduceMul, Int.reduceLT, Int.reduceLE, Int.reduceEq, Nat.reduceLeDiff]
    refine W_if_t rfl ?_
    simp +contextual (maxSteps := 2000000) (disch := (first | omega | (simp only [SZ]; done) | (simp only [SZ]; omega) | (simp only [TS] at *; omega))) only [RZ, gval, gslot, fillL, ovw, numb, catL, ldN, agL, okC, oneC, init, Nat.reduceAdd, Nat.reduceMul, Nat.reduceSub, Nat.reduceEqDiff, Nat.reduceLT, ↓reduceIte, Int.reduceToNat, Int.reduceAdd, Int.reduceSub, Int.reduceMul, Int.reduceLT, Int.reduceLE, Int.reduceEq, Nat.reduceLeDiff]
    exact ⟨rfl, Below.refl _ _⟩
  have hp := sz_pos h0
  have e0 : (s = ⟨#[]⟩) = False := eq_false h0
  simp +contextual (maxSteps := 2000000) (disch := (first | omega | (simp only [SZ]; done) | (simp only [SZ]; omega) | (simp only [TS] at *; omega))) only [RZ, gval, gslot, fillL, ovw, numb, catL, ldN, agL, okC, oneC, init, Nat.reduceAdd, Nat.reduceMul, Nat.reduceSub, Nat.reduceEqDiff, Nat.reduceLT, ↓reduceIte, Int.reduceToNat, Int.reduceAdd, Int.reduceSub, Int.reduceMul, Int.reduceLT, Int.reduceLE, Int.reduceEq, Nat.reduceLeDiff,  e0]
  (refine W_if rfl (fun hc => ?_) (fun hc => ?_) <;> (try simp only [TS] at hc))
  · rw [cutS_no (by omega)]
    simp +contextual (maxSteps := 2000000) (disch := (first | omega | (simp only [SZ]; done) | (simp only [SZ]; omega) | (simp only [TS] at *; omega))) only [RZ, gval, gslot, fillL, ovw, numb, catL, ldN, agL, okC, oneC, init, Nat.reduceAdd, Nat.reduceMul, Nat.reduceSub, Nat.reduceEqDiff, Nat.reduceLT, ↓reduceIte, Int.reduceToNat, Int.reduceAdd, Int.reduceSub, Int.reduceMul, Int.reduceLT, Int.reduceLE, Int.reduceEq, Nat.reduceLeDiff]
    exact Below.refl _ _
  rw [cutS_is hp (by omega)]
  simp +contextual (maxSteps := 2000000) (disch := (first | omega | (simp only [SZ]; done) | (simp only [SZ]; omega) | (simp only [TS] at *; omega))) only [RZ, gval, gslot, fillL, ovw, numb, catL, ldN, agL, okC, oneC, init, Nat.reduceAdd, Nat.reduceMul, Nat.reduceSub, Nat.reduceEqDiff, Nat.reduceLT, ↓reduceIte, Int.reduceToNat, Int.reduceAdd, Int.reduceSub, Int.reduceMul, Int.reduceLT, Int.reduceLE, Int.reduceEq, Nat.reduceLeDiff]
  have hts : (s.extract 1 s.size).size ≤ s.size := by rw [ByteArray.size_extract]; omega
  generalize s.extract 1 s.size = t at *
  refine (Tryd.strings_IndexByte t 32 w).mono ?_
  rintro e w1 ⟨rfl, rfl⟩
  refine ⟨_, rfl, ?_⟩
  rcases idx_bs t 32 (by decide) notSp (fun c => by simp [notSp]) with ⟨g1, g2, g3⟩ | ⟨i, hi, _, g1, g2, g3⟩
  · rw [g2, g3, toBA_bs]
    rw [Int.toNat_natCast] at g1
    simp +contextual (maxSteps := 2000000) (disch := (first | omega | (simp only [SZ]; done) | (simp only [SZ]; omega) | (simp only [TS] at *; omega))) only [RZ, gval, gslot, fillL, ovw, numb, catL, ldN, agL, okC, oneC, init, Nat.reduceAdd, Nat.reduceMul, Nat.reduceSub, Nat.reduceEqDiff, Nat.reduceLT, ↓reduceIte, Int.reduceToNat, Int.reduceAdd, Int.reduceSub, Int.reduceMul, Int.reduceLT, Int.reduceLE, Int.reduceEq, Nat.reduceLeDiff,  g1]
    refine W_if_f rfl ?_
    simp +contextual (maxSteps := 2000000) (disch := (first | omega | (simp only [SZ]; done) | (simp only [SZ]; omega) | (simp only [TS] at *; omega))) only [RZ, gval, gslot, fillL, ovw, numb, catL, ldN, agL, okC, oneC, init, Nat.reduceAdd, Nat.reduceMul, Nat.reduceSub, Nat.reduceEqDiff, Nat.reduceLT, ↓reduceIte, Int.reduceToNat, Int.reduceAdd, Int.reduceSub, Int.reduceMul, Int.reduceLT, Int.reduceLE, Int.reduceEq, Nat.reduceLeDiff]
    exact ⟨rfl, Below.refl _ _⟩
  · rw [g2, g3, toBA_bs, toBA_bs]
    rw [Int.toNat_natCast] at g1
    simp +contextual (maxSteps := 2000000) (disch := (first | omega | (simp only [SZ]; done) | (simp only [SZ]; omega) | (simp only [TS] at *; omega))) only [RZ, gval, gslot, fillL, ovw, numb, catL, ldN, agL, okC, oneC, init, Nat.reduceAdd, Nat.reduceMul, Nat.reduceSub, Nat.reduceEqDiff, Nat.reduceLT, ↓reduceIte, Int.reduceToNat, Int.reduceAdd, Int.reduceSub, Int.reduceMul, Int.reduceLT, Int.reduceLE, Int.reduceEq, Nat.reduceLeDiff,  g1]
    (refine W_if rfl (fun hc => ?_) (fun hc => ?_) <;> (try simp only [TS] at hc))
    · simp +contextual (maxSteps := 2000000) (disch := (first | omega | (simp only [SZ]; done) | (simp only [SZ]; omega) | (simp only [TS] at *; omega))) only [RZ, gval, gslot, fillL, ovw, numb, catL, ldN, agL, okC, oneC, init, Nat.reduceAdd, Nat.reduceMul, Nat.reduceSub, Nat.reduceEqDiff, Nat.reduceLT, ↓reduceIte, Int.reduceToNat, Int.reduceAdd, Int.reduceSub, Int.reduceMul, Int.reduceLT, Int.reduceLE, Int.reduceEq, Nat.reduceLeDiff]
      refine Raw_still MX (by kernel_rfl) ?_
      simp +contextual (maxSteps := 2000000) (disch := (first | omega | (simp only [SZ]; done) | (simp only [SZ]; omega) | (simp only [TS] at *; omega))) only [RZ, gval, gslot, fillL, ovw, numb, catL, ldN, agL, okC, oneC, init, Nat.reduceAdd, Nat.reduceMul, Nat.reduceSub, Nat.reduceEqDiff, Nat.reduceLT, ↓reduceIte, Int.reduceToNat, Int.reduceAdd, Int.reduceSub, Int.reduceMul, Int.reduceLT, Int.reduceLE, Int.reduceEq, Nat.reduceLeDiff]
      exact (Below.refl _ _).drew
    · omega
end Go.Proofs.YtjaeiiiniohloaaDoor
/- Walks: script.escaped. -/
namespace Go.Proofs.YtjaeiiiniohloaaDoor
open Go.RowKit
set_option maxRecDepth 100000
theorem bs_cons1 {s : ByteArray} (h : 0 < s.size) : bs s = bt s 0 :: (bs s).drop 1 := by
  have h2 := bs_get h
  cases hb : bs s with
  | nil => exact absurd hb (bs_ne h)
  | cons c r =>
    rw [hb] at h2
    simp only [List.getElem?_cons_zero, Option.some.injEq] at h2
    rw [← h2]; rfl
theorem bs_dropc {s : ByteArray} {k : Nat} (h : k < s.size) : (bs s).drop k = bt s k :: (bs s).drop (k + 1) := by
  have h4 : k < (bs s).length := by rw [bs_len]; exact h
  have h5 := bs_get h
  rw [List.getElem?_eq_getElem h4] at h5
  injection h5 with h5
  rw [List.drop_eq_getElem_cons h4, h5]
theorem bs_cons3 {s : ByteArray} (h : 3 ≤ s.size) : (bs s).drop 1 = bt s 1 :: bt s 2 :: (bs s).drop 3 := by
  rw [bs_dropc (k := 1) (by omega), bs_dropc (k := 2) (by omega)]
theorem hexv_getD (c : Nat) : (hexv c).getD 0 < 16 := by
  cases h : hexv c with
  | none => decide
  | some d =>
    unfold hexv at h
    simp only [Option.getD_some]
    split at h
    · injection h; omega
    · split at h
      · injection h; omega
      · cases h
theorem escS_x0 {r : List Nat} (h : r.length < 2) : escS (120 :: r) = none := by
  match r, h with
  | [], _ => rfl
  | [_], _ => rfl
  | _ :: _ :: _, h => simp only [List.length_cons] at h; omega
theorem escS_no {c : Nat} {r : List Nat} (h1 : c ≠ 34) (h2 : c ≠ 92) (h3 : c ≠ 110) (h4 : c ≠ 120) : escS (c :: r) = none := by
  unfold escS
  simp only
  rw [if_neg (by omega), if_neg h3, if_neg h4]
theorem escS_x2 (h l : Nat) (r : List Nat) : escS (120 :: h :: l :: r) = match hexv h, hexv l with
    | some x, some y => if (32 ≤ x * 16 + y ∧ x * 16 + y ≤ 126) ∨ x * 16 + y = 10 then none else some (x * 16 + y, 3)
    | _, _ => none := rfl
def escV (l : List Nat) : Value := match escS l with
  | some (b, n) => .tuple #[.int .u8 b, .int .i64 n, .bool true]
  | none => .tuple #[.int .u8 0, .int .i64 0, .bool false]
theorem escaped_any (s : ByteArray) (w : World) (hs : s.size ≤ 1000000000) : Calls Tryd.prog 74 #[.string s] w fun e w' => e = .returned (escV (bs s)) ∧ w = w' := by
  refine calls_W (l := [_]) Tryd.func74 rfl _ Tryd.ntmps74 (by simp) ?_
  by_cases h0 : s = ⟨#[]⟩
  · subst h0
    simp +contextual (maxSteps := 2000000) (disch := (first | omega | (simp only [SZ]; done) | (simp only [SZ]; omega) | (simp only [TS] at *; omega))) only [RZ, gval, gslot, fillL, ovw, numb, catL, ldN, agL, okC, oneC, init, Nat.reduceAdd, Nat.reduceMul, Nat.reduceSub, Nat.reduceEqDiff, Nat.reduceLT, ↓reduceIte, Int.reduceToNat, Int.reduceAdd, Int.reduceSub, Int.reduceMul, Int.reduceLT, Int.reduceLE, Int.reduceEq, Nat.reduceLeDiff]
    refine W_if_t rfl ?_
    simp +contextual (maxSteps := 2000000) (disch := (first | omega | (simp only [SZ]; done) | (simp only [SZ]; omega) | (simp only [TS] at *; omega))) only [RZ, gval, gslot, fillL, ovw, numb, catL, ldN, agL, okC, oneC, init, Nat.reduceAdd, Nat.reduceMul, Nat.reduceSub, Nat.reduceEqDiff, Nat.reduceLT, ↓reduceIte, Int.reduceToNat, Int.reduceAdd, Int.reduceSub, Int.reduceMul, Int.reduceLT, Int.reduceLE, Int.reduceEq, Nat.reduceLeDiff]
    exact rfl
  have hp := sz_pos h0
  have e0 : (s = ⟨#[]⟩) = False := eq_false h0
  have hlt := bt_lt s 0
  simp +contextual (maxSteps := 2000000) (disch := (first | omega | (simp only [SZ]; done) | (simp only [SZ]; omega) | (simp only [TS] at *; omega))) only [RZ, gval, gslot, fillL, ovw, numb, catL, ldN, agL, okC, oneC, init, Nat.reduceAdd, Nat.reduceMul, Nat.reduceSub, Nat.reduceEqDiff, Nat.reduceLT, ↓reduceIte, Int.reduceToNat, Int.reduceAdd, Int.reduceSub, Int.reduceMul, Int.reduceLT, Int.reduceLE, Int.reduceEq, Nat.reduceLeDiff,  e0]
  refine W_if_f rfl ?_
  simp +contextual (maxSteps := 2000000) (disch := (first | omega | (simp only [SZ]; done) | (simp only [SZ]; omega) | (simp only [TS] at *; omega))) only [RZ, gval, gslot, fillL, ovw, numb, catL, ldN, agL, okC, oneC, init, Nat.reduceAdd, Nat.reduceMul, Nat.reduceSub, Nat.reduceEqDiff, Nat.reduceLT, ↓reduceIte, Int.reduceToNat, Int.reduceAdd, Int.reduceSub, Int.reduceMul, Int.reduceLT, Int.reduceLE, Int.reduceEq, Nat.reduceLeDiff]
  have b1 := bs_cons1 hp
  unfold escV
  rw [b1]
  (refine W_if rfl (fun hc => ?_) (fun hc => ?_) <;> (try simp only [TS] at hc))
  · rw [escS_self _ (.inl (by omega))]
    have h34 := hc
    clear hc
    simp +contextual (maxSteps := 2000000) (disch := (first | omega | (simp only [SZ]; done) | (simp only [SZ]; omega) | (simp only [TS] at *; omega))) only [RZ, gval, gslot, fillL, ovw, numb, catL, ldN, agL, okC, oneC, init, Nat.reduceAdd, Nat.reduceMul, Nat.reduceSub, Nat.reduceEqDiff, Nat.reduceLT, ↓reduceIte, Int.reduceToNat, Int.reduceAdd, Int.reduceSub, Int.reduceMul, Int.reduceLT, Int.reduceLE, Int.reduceEq, Nat.reduceLeDiff]
    (refine W_if rfl (fun hc => ?_) (fun hc => ?_) <;> (try simp only [TS] at hc))
    · simp +contextual (maxSteps := 2000000) (disch := (first | omega | (simp only [SZ]; done) | (simp only [SZ]; omega) | (simp only [TS] at *; omega))) only [RZ, gval, gslot, fillL, ovw, numb, catL, ldN, agL, okC, oneC, init, Nat.reduceAdd, Nat.reduceMul, Nat.reduceSub, Nat.reduceEqDiff, Nat.reduceLT, ↓reduceIte, Int.reduceToNat, Int.reduceAdd, Int.reduceSub, Int.reduceMul, Int.reduceLT, Int.reduceLE, Int.reduceEq, Nat.reduceLeDiff]
      simp
    · omega
  have n34 := hc
  clear hc
  simp +contextual (maxSteps := 2000000) (disch := (first | omega | (simp only [SZ]; done) | (simp only [SZ]; omega) | (simp only [TS] at *; omega))) only [RZ, gval, gslot, fillL, ovw, numb, catL, ldN, agL, okC, oneC, init, Nat.reduceAdd, Nat.reduceMul, Nat.reduceSub, Nat.reduceEqDiff, Nat.reduceLT, ↓reduceIte, Int.reduceToNat, Int.reduceAdd, Int.reduceSub, Int.reduceMul, Int.reduceLT, Int.reduceLE, Int.reduceEq, Nat.reduceLeDiff]
  (refine W_if rfl (fun hc => ?_) (fun hc => ?_) <;> (try simp only [TS] at hc))
  · rw [escS_self _ (.inr (by omega))]
    simp +contextual (maxSteps := 2000000) (disch := (first | omega | (simp only [SZ]; done) | (simp only [SZ]; omega) | (simp only [TS] at *; omega))) only [RZ, gval, gslot, fillL, ovw, numb, catL, ldN, agL, okC, oneC, init, Nat.reduceAdd, Nat.reduceMul, Nat.reduceSub, Nat.reduceEqDiff, Nat.reduceLT, ↓reduceIte, Int.reduceToNat, Int.reduceAdd, Int.reduceSub, Int.reduceMul, Int.reduceLT, Int.reduceLE, Int.reduceEq, Nat.reduceLeDiff]
    simp
  have n92 := hc
  clear hc
  simp +contextual (maxSteps := 2000000) (disch := (first | omega | (simp only [SZ]; done) | (simp only [SZ]; omega) | (simp only [TS] at *; omega))) only [RZ, gval, gslot, fillL, ovw, numb, catL, ldN, agL, okC, oneC, init, Nat.reduceAdd, Nat.reduceMul, Nat.reduceSub, Nat.reduceEqDiff, Nat.reduceLT, ↓reduceIte, Int.reduceToNat, Int.reduceAdd, Int.reduceSub, Int.reduceMul, Int.reduceLT, Int.reduceLE, Int.reduceEq, Nat.reduceLeDiff]
  (refine W_if rfl (fun hc => ?_) (fun hc => ?_) <;> (try simp only [TS] at hc))
  · rw [show bt s 0 = 110 by omega, escS_n]
    simp +contextual (maxSteps := 2000000) (disch := (first | omega | (simp only [SZ]; done) | (simp only [SZ]; omega) | (simp only [TS] at *; omega))) only [RZ, gval, gslot, fillL, ovw, numb, catL, ldN, agL, okC, oneC, init, Nat.reduceAdd, Nat.reduceMul, Nat.reduceSub, Nat.reduceEqDiff, Nat.reduceLT, ↓reduceIte, Int.reduceToNat, Int.reduceAdd, Int.reduceSub, Int.reduceMul, Int.reduceLT, Int.reduceLE, Int.reduceEq, Nat.reduceLeDiff]
    exact rfl
  have n110 := hc
  clear hc
  simp +contextual (maxSteps := 2000000) (disch := (first | omega | (simp only [SZ]; done) | (simp only [SZ]; omega) | (simp only [TS] at *; omega))) only [RZ, gval, gslot, fillL, ovw, numb, catL, ldN, agL, okC, oneC, init, Nat.reduceAdd, Nat.reduceMul, Nat.reduceSub, Nat.reduceEqDiff, Nat.reduceLT, ↓reduceIte, Int.reduceToNat, Int.reduceAdd, Int.reduceSub, Int.reduceMul, Int.reduceLT, Int.reduceLE, Int.reduceEq, Nat.reduceLeDiff]
  (refine W_if rfl (fun hc => ?_) (fun hc => ?_) <;> (try simp only [TS] at hc))
  · rw [show bt s 0 = 120 by omega]
    simp +contextual (maxSteps := 2000000) (disch := (first | omega | (simp only [SZ]; done) | (simp only [SZ]; omega) | (simp only [TS] at *; omega))) only [RZ, gval, gslot, fillL, ovw, numb, catL, ldN, agL, okC, oneC, init, Nat.reduceAdd, Nat.reduceMul, Nat.reduceSub, Nat.reduceEqDiff, Nat.reduceLT, ↓reduceIte, Int.reduceToNat, Int.reduceAdd, Int.reduceSub, Int.reduceMul, Int.reduceLT, Int.reduceLE, Int.reduceEq, Nat.reduceLeDiff]
    (refine W_if rfl (fun hc => ?_) (fun hc => ?_) <;> (try simp only [TS] at hc))
    · rw [escS_x0 (by rw [List.length_drop, bs_len]; omega)]
      simp +contextual (maxSteps := 2000000) (disch := (first | omega | (simp only [SZ]; done) | (simp only [SZ]; omega) | (simp only [TS] at *; omega))) only [RZ, gval, gslot, fillL, ovw, numb, catL, ldN, agL, okC, oneC, init, Nat.reduceAdd, Nat.reduceMul, Nat.reduceSub, Nat.reduceEqDiff, Nat.reduceLT, ↓reduceIte, Int.reduceToNat, Int.reduceAdd, Int.reduceSub, Int.reduceMul, Int.reduceLT, Int.reduceLE, Int.reduceEq, Nat.reduceLeDiff]
    have hlt1 := bt_lt s 1
    have hlt2 := bt_lt s 2
    have b3 : (bs s).drop 1 = bt s 1 :: bt s 2 :: (bs s).drop 3 := bs_cons3 (by omega)
    rw [b3]
    simp +contextual (maxSteps := 2000000) (disch := (first | omega | (simp only [SZ]; done) | (simp only [SZ]; omega) | (simp only [TS] at *; omega))) only [RZ, gval, gslot, fillL, ovw, numb, catL, ldN, agL, okC, oneC, init, Nat.reduceAdd, Nat.reduceMul, Nat.reduceSub, Nat.reduceEqDiff, Nat.reduceLT, ↓reduceIte, Int.reduceToNat, Int.reduceAdd, Int.reduceSub, Int.reduceMul, Int.reduceLT, Int.reduceLE, Int.reduceEq, Nat.reduceLeDiff]
    refine (hexDigit_any (bt s 1) w hlt1).mono ?_
    rintro e w1 ⟨rfl, rfl⟩
    refine ⟨_, rfl, ?_⟩
    simp +contextual (maxSteps := 2000000) (disch := (first | omega | (simp only [SZ]; done) | (simp only [SZ]; omega) | (simp only [TS] at *; omega))) only [RZ, gval, gslot, fillL, ovw, numb, catL, ldN, agL, okC, oneC, init, Nat.reduceAdd, Nat.reduceMul, Nat.reduceSub, Nat.reduceEqDiff, Nat.reduceLT, ↓reduceIte, Int.reduceToNat, Int.reduceAdd, Int.reduceSub, Int.reduceMul, Int.reduceLT, Int.reduceLE, Int.reduceEq, Nat.reduceLeDiff]
    refine (hexDigit_any (bt s 2) w hlt2).mono ?_
    rintro e w1 ⟨rfl, rfl⟩
    refine ⟨_, rfl, ?_⟩
    have v1 : (hexv (bt s 1)).getD 0 < 16 := hexv_getD _
    have v2 : (hexv (bt s 2)).getD 0 < 16 := hexv_getD _
    rw [escS_x2]
    cases hx : hexv (bt s 1) with
    | none =>
      rw [hx] at v1
      simp +contextual (maxSteps := 2000000) (disch := (first | omega | (simp only [SZ]; done) | (simp only [SZ]; omega) | (simp only [TS] at *; omega))) only [RZ, gval, gslot, fillL, ovw, numb, catL, ldN, agL, okC, oneC, init, Nat.reduceAdd, Nat.reduceMul, Nat.reduceSub, Nat.reduceEqDiff, Nat.reduceLT, ↓reduceIte, Int.reduceToNat, Int.reduceAdd, Int.reduceSub, Int.reduceMul, Int.reduceLT, Int.reduceLE, Int.reduceEq, Nat.reduceLeDiff,  hx]
      refine W_if_t rfl ?_
      simp +contextual (maxSteps := 2000000) (disch := (first | omega | (simp only [SZ]; done) | (simp only [SZ]; omega) | (simp only [TS] at *; omega))) only [RZ, gval, gslot, fillL, ovw, numb, catL, ldN, agL, okC, oneC, init, Nat.reduceAdd, Nat.reduceMul, Nat.reduceSub, Nat.reduceEqDiff, Nat.reduceLT, ↓reduceIte, Int.reduceToNat, Int.reduceAdd, Int.reduceSub, Int.reduceMul, Int.reduceLT, Int.reduceLE, Int.reduceEq, Nat.reduceLeDiff]
      try exact rfl
    | some x =>
      rw [hx] at v1
      simp only [Option.getD_some] at v1
      cases hy : hexv (bt s 2) with
      | none =>
        rw [hy] at v2
        simp only [Option.getD_none] at v2
        simp only
        simp +contextual (maxSteps := 2000000) (disch := (first | omega | (simp only [SZ]; done) | (simp only [SZ]; omega) | (simp only [TS] at *; omega))) only [RZ, gval, gslot, fillL, ovw, numb, catL, ldN, agL, okC, oneC, init, Nat.reduceAdd, Nat.reduceMul, Nat.reduceSub, Nat.reduceEqDiff, Nat.reduceLT, ↓reduceIte, Int.reduceToNat, Int.reduceAdd, Int.reduceSub, Int.reduceMul, Int.reduceLT, Int.reduceLE, Int.reduceEq, Nat.reduceLeDiff,  hx, hy, Option.getD_some, Option.getD_none]
        refine W_if_t rfl ?_
        simp +contextual (maxSteps := 2000000) (disch := (first | omega | (simp only [SZ]; done) | (simp only [SZ]; omega) | (simp only [TS] at *; omega))) only [RZ, gval, gslot, fillL, ovw, numb, catL, ldN, agL, okC, oneC, init, Nat.reduceAdd, Nat.reduceMul, Nat.reduceSub, Nat.reduceEqDiff, Nat.reduceLT, ↓reduceIte, Int.reduceToNat, Int.reduceAdd, Int.reduceSub, Int.reduceMul, Int.reduceLT, Int.reduceLE, Int.reduceEq, Nat.reduceLeDiff]
        try exact rfl
      | some y =>
        rw [hy] at v2
        simp only [Option.getD_some] at v2
        simp only
        simp +contextual (maxSteps := 2000000) (disch := (first | omega | (simp only [SZ]; done) | (simp only [SZ]; omega) | (simp only [TS] at *; omega))) only [RZ, gval, gslot, fillL, ovw, numb, catL, ldN, agL, okC, oneC, init, Nat.reduceAdd, Nat.reduceMul, Nat.reduceSub, Nat.reduceEqDiff, Nat.reduceLT, ↓reduceIte, Int.reduceToNat, Int.reduceAdd, Int.reduceSub, Int.reduceMul, Int.reduceLT, Int.reduceLE, Int.reduceEq, Nat.reduceLeDiff,  hx, hy, Option.getD_some]
        (refine W_if rfl (fun hc => ?_) (fun hc => ?_) <;> (try simp only [TS] at hc))
        · rw [if_pos (by omega)]
          simp +contextual (maxSteps := 2000000) (disch := (first | omega | (simp only [SZ]; done) | (simp only [SZ]; omega) | (simp only [TS] at *; omega))) only [RZ, gval, gslot, fillL, ovw, numb, catL, ldN, agL, okC, oneC, init, Nat.reduceAdd, Nat.reduceMul, Nat.reduceSub, Nat.reduceEqDiff, Nat.reduceLT, ↓reduceIte, Int.reduceToNat, Int.reduceAdd, Int.reduceSub, Int.reduceMul, Int.reduceLT, Int.reduceLE, Int.reduceEq, Nat.reduceLeDiff]
          try exact rfl
        · rw [if_neg (by omega)]
          simp +contextual (maxSteps := 2000000) (disch := (first | omega | (simp only [SZ]; done) | (simp only [SZ]; omega) | (simp only [TS] at *; omega))) only [RZ, gval, gslot, fillL, ovw, numb, catL, ldN, agL, okC, oneC, init, Nat.reduceAdd, Nat.reduceMul, Nat.reduceSub, Nat.reduceEqDiff, Nat.reduceLT, ↓reduceIte, Int.reduceToNat, Int.reduceAdd, Int.reduceSub, Int.reduceMul, Int.reduceLT, Int.reduceLE, Int.reduceEq, Nat.reduceLeDiff]
          simp
  · rw [escS_no (by omega) (by omega) (by omega) (by omega)]
    simp +contextual (maxSteps := 2000000) (disch := (first | omega | (simp only [SZ]; done) | (simp only [SZ]; omega) | (simp only [TS] at *; omega))) only [RZ, gval, gslot, fillL, ovw, numb, catL, ldN, agL, okC, oneC, init, Nat.reduceAdd, Nat.reduceMul, Nat.reduceSub, Nat.reduceEqDiff, Nat.reduceLT, ↓reduceIte, Int.reduceToNat, Int.reduceAdd, Int.reduceSub, Int.reduceMul, Int.reduceLT, Int.reduceLE, Int.reduceEq, Nat.reduceLeDiff]
end Go.Proofs.YtjaeiiiniohloaaDoor
/- Bytes in memory: rows that grow, and the strings that they become. -/
namespace Go.Proofs.YtjaeiiiniohloaaDoor
open Go.RowKit
set_option maxRecDepth 100000
/-- Bytes that lie in memory become a string. -/
theorem bytes_str {w : World} {a : Addr} {cap : Nat} (ns : List Nat) (hn : ∀ n ∈ ns, n < 256) (h : ∀ j v, (ns.map fun (n : Nat) => Value.int .u8 (n : Int))[j]? = some v → w.cell? (a.add j) = some v) :
    ∃ s : ByteArray, bs s = ns ∧ vConvert Tryd.prog 40 9 (.slice (some a) ns.length cap) w = .ok (.value (.string s)) w := by
  have hl := run_loadCells_list (P := Tryd.prog) (w := w) a (ns.map fun (n : Nat) => Value.int .u8 (n : Int)) h
  rw [List.length_map] at hl
  have hr := run_bytesToString (P := Tryd.prog) w a ns.length cap (ns.map fun (n : Nat) => (n : Int)) (by rw [List.map_map]; exact hl)
  refine ⟨_, ?_, by simp only [vConvert, Sem.run_bind, run_convert_bytes_string w _ _ _ _ _ _ Tryd.underlying40 Tryd.underlying5 Tryd.underlying9, hr, Result.andThen, Sem.run_pure]; rfl⟩
  have key : ∀ (ns : List Nat) (s : ByteArray), (∀ n ∈ ns, n < 256) → bs ((ns.map fun (n : Nat) => (n : Int)).foldl (fun r n => r.push (UInt8.ofNat n.toNat)) s) = bs s ++ ns := by
    intro ns
    induction ns with
    | nil => intro s _; simp
    | cons n r ih =>
      intro s hs
      rw [List.map_cons, List.foldl_cons, ih _ fun m hm => hs m (by simp [hm])]
      have hn := hs n (by simp)
      have e : bs (s.push (UInt8.ofNat (n : Int).toNat)) = bs s ++ [n] := by
        unfold bs
        rw [ByteArray.data_push, Array.toList_push, List.map_append]
        simp [Nat.mod_eq_of_lt hn]
      rw [e, List.append_assoc]
      rfl
  rw [key ns _ hn, bs_empty, List.nil_append]
def byV (X : List Nat) : List Value := X.map fun (n : Nat) => Value.int .u8 (n : Int)
/-- A row of bytes that is nobody else's. -/
def BytIn (base : Nat) (w : World) (v : Value) (X : List Nat) : Prop := ∃ g c, v = .slice (some ⟨g, 0, none⟩) X.length c ∧ w.ownsRow base 5 1 v X.length (byV X) ∧ (∀ n ∈ X, n < 256) ∧ X.length ≤ 100000000
theorem BytIn.make (w : World) (base c : Nat) (hb : base ≤ w.heap.size) (hc : c ≤ 1000000000) : BytIn base (w.alloc (.cells (madeCells #[.int .u8 0] (c * 1)) 5)) (.slice (some ⟨w.heap.size, 0, none⟩) 0 c) [] :=
  ⟨_, _, rfl, make_own w base _ _ c hb (by unfold maxLen; omega), (fun n h => by cases h), by simp⟩
theorem BytIn.push {base : Nat} {w : World} {v : Value} {X : List Nat} (h : BytIn base w v X) (hb : base ≤ w.heap.size) (n : Nat) (hn : n < 256) (hl : X.length + 1 ≤ 100000000) :
    ∃ v' w2, vAppend Tryd.prog 40 40 40 v (.slice (some ⟨w.heap.size, 0, none⟩) 1 1) (w.alloc (.cells #[.int .u8 (n : Int)] 5)) = .ok (.value v') w2 ∧ BytIn base w2 v' (X ++ [n]) ∧ Below base w w2 ∧ w.heap.size ≤ w2.heap.size := by
  obtain ⟨g, c, rfl, ho, hx, _⟩ := h
  have hI : sliceI Tryd.prog 40 = some (5, 1, 1) := by kernel_rfl
  obtain ⟨A2, c2, w2, he, hown2, hb2, hs2⟩ := push1 (P := Tryd.prog) (T := 40) (ty := 40) (news := [.int .u8 (n : Int)]) ho hb hI rfl (fun u hu => by simp at hu; subst hu; rfl) (by omega) (by omega)
  obtain ⟨g2, rfl, _⟩ := owns_row hown2 (by omega)
  refine ⟨_, w2, he, ⟨g2, c2, by simp, ?_, fun m hm => ?_, by simp; omega⟩, hb2, hs2⟩
  · have : (X ++ [n]).length = X.length + 1 := by simp
    rw [this]
    unfold byV at *
    rw [List.map_append]
    exact hown2
  · rcases List.mem_append.1 hm with h | h
    · exact hx m h
    · simp at h; omega
theorem BytIn.str {base : Nat} {w : World} {v : Value} {X : List Nat} (h : BytIn base w v X) : ∃ s : ByteArray, bs s = X ∧ vConvert Tryd.prog 40 9 v w = .ok (.value (.string s)) w := by
  obtain ⟨g, c, rfl, ho, hx, _⟩ := h
  refine bytes_str X hx fun j u hu => ?_
  have hj : 0 < X.length := by
    have := (List.getElem?_eq_some_iff.1 hu).1
    rw [List.length_map] at this
    omega
  obtain ⟨g2, e, _, ⟨cur, hg, r, hr⟩, _⟩ := owns_row ho hj
  injection e with e
  injection e with e
  subst e
  rw [addr_add, Nat.zero_add, Lib.cell_of_heap hg]
  have hlt := (List.getElem?_eq_some_iff.1 hu).1
  rw [← Array.getElem?_toList, hr, List.getElem?_append_left (by unfold byV; exact hlt)]
  exact hu
end Go.Proofs.YtjaeiiiniohloaaDoor
/- Walks: script.unquote. -/
namespace Go.Proofs.YtjaeiiiniohloaaDoor
open Go.RowKit
set_option maxRecDepth 100000
def unqT (l : List Nat) : Option (List Nat) := match l with
  | [] => none
  | c :: r => if c = 34 then unq r else none
def optV (o : Option (List Nat)) : Value := match o with
  | some t => .tuple #[.string (toBA t), .bool true]
  | none => .tuple #[.string ⟨#[]⟩, .bool false]
def joinU (X : List Nat) (o : Option (List Nat)) : Option (List Nat) := o.map (X ++ ·)
/-- What is refused has some text beside it that nobody reads. -/
def unqIs (e : Ending) (o : Option (List Nat)) : Prop := match o with
  | some t => e = .returned (.tuple #[.string (toBA t), .bool true])
  | none => ∃ x, e = .returned (.tuple #[.string x, .bool false])
theorem unq_nil : unq [] = none := by rw [unq]
theorem unq_34 {c : Nat} {r : List Nat} (h : c = 34) : unq (c :: r) = if r = [] then some [] else none := by rw [unq, if_pos h]
theorem unq_92 {c : Nat} {r : List Nat} (h : c = 92) : unq (c :: r) = match escS r with | none => none | some (b, n) => (unq (r.drop n)).map (b :: ·) := by
  rw [unq, if_neg (by omega), if_pos h]
  cases escS r <;> rfl
theorem unq_pl {c : Nat} {r : List Nat} (h1 : c ≠ 34) (h2 : c ≠ 92) (h : plainB c = true) : unq (c :: r) = (unq r).map (c :: ·) := by rw [unq, if_neg h1, if_neg h2, if_pos h]
theorem unq_bad {c : Nat} {r : List Nat} (h1 : c ≠ 34) (h2 : c ≠ 92) (h : plainB c = false) : unq (c :: r) = none := by rw [unq, if_neg h1, if_neg h2, if_neg (by rw [h]; decide)]
theorem hexv_bd {c d : Nat} (h : hexv c = some d) : d < 16 := by have := hexv_getD c; rw [h] at this; exact this
theorem esc_bd {l : List Nat} {b n : Nat} (h : escS l = some (b, n)) : b < 256 ∧ 1 ≤ n ∧ n ≤ l.length := by
  cases l with
  | nil => cases h
  | cons c r =>
    by_cases h1 : c = 34 ∨ c = 92
    · rw [escS_self _ h1] at h
      injection h with h; injection h with e1 e2; subst e1; subst e2
      simp; omega
    by_cases h2 : c = 110
    · subst h2
      rw [escS_n] at h
      injection h with h; injection h with e1 e2; subst e1; subst e2
      simp
    by_cases h3 : c = 120
    · subst h3
      by_cases hl : r.length < 2
      · rw [escS_x0 hl] at h; cases h
      match r, hl with
      | x :: y :: t, _ =>
        rw [escS_x2] at h
        cases hx : hexv x with
        | none => rw [hx] at h; cases h
        | some a =>
          cases hy : hexv y with
          | none => rw [hx, hy] at h; cases h
          | some d =>
            rw [hx, hy] at h
            have := hexv_bd hx
            have := hexv_bd hy
            simp only at h
            split at h
            · cases h
            · injection h with h; injection h with e1 e2; subst e1; subst e2
              simp; omega
      | [x], hl => simp at hl
      | [], hl => simp at hl
    · rw [not_or] at h1
      rw [escS_no h1.1 h1.2 h2 h3] at h; cases h
theorem unquote_any (s : ByteArray) (w : World) (hs : s.size ≤ 1000000) : Calls Tryd.prog 65 #[.string s] w fun e w' => unqIs e (unqT (bs s)) ∧ Below w.heap.size w w' := by
  refine calls_W (l := [_]) Tryd.func65 rfl _ Tryd.ntmps65 (by simp) ?_
  by_cases h0 : s = ⟨#[]⟩
  · subst h0
    simp +contextual (maxSteps := 2000000) (disch := (first | omega | (simp only [SZ]; done) | (simp only [SZ]; omega) | (simp only [TS] at *; omega))) only [RZ, gval, gslot, fillL, ovw, numb, catL, ldN, agL, okC, oneC, init, Nat.reduceAdd, Nat.reduceMul, Nat.reduceSub, Nat.reduceEqDiff, Nat.reduceLT, ↓reduceIte, Int.reduceToNat, Int.reduceAdd, Int.reduceSub, Int.reduceMul, Int.reduceLT, Int.reduceLE, Int.reduceEq, Nat.reduceLeDiff]
    refine W_if_t rfl ?_
    simp +contextual (maxSteps := 2000000) (disch := (first | omega | (simp only [SZ]; done) | (simp only [SZ]; omega) | (simp only [TS] at *; omega))) only [RZ, gval, gslot, fillL, ovw, numb, catL, ldN, agL, okC, oneC, init, Nat.reduceAdd, Nat.reduceMul, Nat.reduceSub, Nat.reduceEqDiff, Nat.reduceLT, ↓reduceIte, Int.reduceToNat, Int.reduceAdd, Int.reduceSub, Int.reduceMul, Int.reduceLT, Int.reduceLE, Int.reduceEq, Nat.reduceLeDiff]
    exact ⟨⟨_, rfl⟩, Below.refl _ _⟩
  have hp := sz_pos h0
  have e0 : (s = ⟨#[]⟩) = False := eq_false h0
  have hlt := bt_lt s 0
  rw [bs_cons1 hp]
  unfold unqT
  simp +contextual (maxSteps := 2000000) (disch := (first | omega | (simp only [SZ]; done) | (simp only [SZ]; omega) | (simp only [TS] at *; omega))) only [RZ, gval, gslot, fillL, ovw, numb, catL, ldN, agL, okC, oneC, init, Nat.reduceAdd, Nat.reduceMul, Nat.reduceSub, Nat.reduceEqDiff, Nat.reduceLT, ↓reduceIte, Int.reduceToNat, Int.reduceAdd, Int.reduceSub, Int.reduceMul, Int.reduceLT, Int.reduceLE, Int.reduceEq, Nat.reduceLeDiff,  e0]
  (refine W_if rfl (fun hc => ?_) (fun hc => ?_) <;> (try simp only [TS] at hc))
  · rw [if_neg (by omega)]
    simp +contextual (maxSteps := 2000000) (disch := (first | omega | (simp only [SZ]; done) | (simp only [SZ]; omega) | (simp only [TS] at *; omega))) only [RZ, gval, gslot, fillL, ovw, numb, catL, ldN, agL, okC, oneC, init, Nat.reduceAdd, Nat.reduceMul, Nat.reduceSub, Nat.reduceEqDiff, Nat.reduceLT, ↓reduceIte, Int.reduceToNat, Int.reduceAdd, Int.reduceSub, Int.reduceMul, Int.reduceLT, Int.reduceLE, Int.reduceEq, Nat.reduceLeDiff]
    exact ⟨⟨_, rfl⟩, Below.refl _ _⟩
  rw [if_pos (by omega)]
  clear hc
  simp +contextual (maxSteps := 2000000) (disch := (first | omega | (simp only [SZ]; done) | (simp only [SZ]; omega) | (simp only [TS] at *; omega))) only [RZ, gval, gslot, fillL, ovw, numb, catL, ldN, agL, okC, oneC, init, Nat.reduceAdd, Nat.reduceMul, Nat.reduceSub, Nat.reduceEqDiff, Nat.reduceLT, ↓reduceIte, Int.reduceToNat, Int.reduceAdd, Int.reduceSub, Int.reduceMul, Int.reduceLT, Int.reduceLE, Int.reduceEq, Nat.reduceLeDiff]
  rw [vMakeSlice_lc (e := 5) (size := 1) (bytes := 1) (z := .int .u8 0) (by kernel_rfl) (by kernel_rfl) (by omega) (by omega) (by omega) (by omega)]
  simp +contextual (maxSteps := 2000000) (disch := (first | omega | (simp only [SZ]; done) | (simp only [SZ]; omega) | (simp only [TS] at *; omega))) only [RZ, gval, gslot, fillL, ovw, numb, catL, ldN, agL, okC, oneC, init, Nat.reduceAdd, Nat.reduceMul, Nat.reduceSub, Nat.reduceEqDiff, Nat.reduceLT, ↓reduceIte, Int.reduceToNat, Int.reduceAdd, Int.reduceSub, Int.reduceMul, Int.reduceLT, Int.reduceLE, Int.reduceEq, Nat.reduceLeDiff]
  have hb1 := below_alloc w (.cells (madeCells #[.int .u8 0] s.size) 5)
  have hB1 := BytIn.make w w.heap.size s.size (Nat.le_refl _) (by omega)
  rw [Nat.mul_one] at hB1
  have hs1 : (w.alloc (.cells (madeCells #[.int .u8 0] s.size) 5)).heap.size = w.heap.size + 1 := by simp
  generalize w.alloc (.cells (madeCells #[.int .u8 0] s.size) 5) = w1 at *
  generalize hR : unq ((bs s).drop 1) = R
  refine Raw_loop (fun σ w2 => Below w.heap.size w w2 ∧ w.heap.size ≤ w2.heap.size ∧ ∃ (k : Nat) (X : List Nat) (v : Value), 1 ≤ k ∧ k ≤ s.size ∧ X.length ≤ k ∧ BytIn w.heap.size w2 v X ∧ joinU X (unq ((bs s).drop k)) = R ∧ σ 0 = .string s ∧ σ 4 = v ∧ σ 5 = .int .i64 k) (fun σ _ => s.size - (intOf (σ 5)).toNat) ?_ ?_
  · simp +contextual (maxSteps := 2000000) (disch := (first | omega | (simp only [SZ]; done) | (simp only [SZ]; omega) | (simp only [TS] at *; omega))) only [RZ, gval, gslot, fillL, ovw, numb, catL, ldN, agL, okC, oneC, init, Nat.reduceAdd, Nat.reduceMul, Nat.reduceSub, Nat.reduceEqDiff, Nat.reduceLT, ↓reduceIte, Int.reduceToNat, Int.reduceAdd, Int.reduceSub, Int.reduceMul, Int.reduceLT, Int.reduceLE, Int.reduceEq, Nat.reduceLeDiff]
    exact ⟨hb1, by omega, 1, [], _, by omega, by omega, by simp, hB1, by rw [hR]; cases R <;> rfl, rfl, rfl⟩
  rintro σ w2 ⟨hB, hs2, k, X, v, hk1, hk, hXk, hX, hj, f0, f4, f5⟩ K hK
  have hltk := bt_lt s k
  simp +contextual (maxSteps := 2000000) (disch := (first | omega | (simp only [SZ]; done) | (simp only [SZ]; omega) | (simp only [TS] at *; omega))) only [RZ, gval, gslot, fillL, ovw, numb, catL, ldN, agL, okC, oneC, init, Nat.reduceAdd, Nat.reduceMul, Nat.reduceSub, Nat.reduceEqDiff, Nat.reduceLT, ↓reduceIte, Int.reduceToNat, Int.reduceAdd, Int.reduceSub, Int.reduceMul, Int.reduceLT, Int.reduceLE, Int.reduceEq, Nat.reduceLeDiff,  f0, f4, f5]
  (refine W_if rfl (fun hc => ?_) (fun hc => ?_) <;> (try simp only [TS] at hc))
  · have hkl : k < s.size := by omega
    clear hc
    rw [bs_dropc hkl] at hj
    simp +contextual (maxSteps := 2000000) (disch := (first | omega | (simp only [SZ]; done) | (simp only [SZ]; omega) | (simp only [TS] at *; omega))) only [RZ, gval, gslot, fillL, ovw, numb, catL, ldN, agL, okC, oneC, init, Nat.reduceAdd, Nat.reduceMul, Nat.reduceSub, Nat.reduceEqDiff, Nat.reduceLT, ↓reduceIte, Int.reduceToNat, Int.reduceAdd, Int.reduceSub, Int.reduceMul, Int.reduceLT, Int.reduceLE, Int.reduceEq, Nat.reduceLeDiff,  f0, f4, f5]
    (refine W_if rfl (fun hc => ?_) (fun hc => ?_) <;> (try simp only [TS] at hc))
    · rw [unq_34 (by omega)] at hj
      obtain ⟨y, hy1, hy2⟩ := hX.str
      simp +contextual (maxSteps := 2000000) (disch := (first | omega | (simp only [SZ]; done) | (simp only [SZ]; omega) | (simp only [TS] at *; omega))) only [RZ, gval, gslot, fillL, ovw, numb, catL, ldN, agL, okC, oneC, init, Nat.reduceAdd, Nat.reduceMul, Nat.reduceSub, Nat.reduceEqDiff, Nat.reduceLT, ↓reduceIte, Int.reduceToNat, Int.reduceAdd, Int.reduceSub, Int.reduceMul, Int.reduceLT, Int.reduceLE, Int.reduceEq, Nat.reduceLeDiff,  f0, f4, f5, hy2]
      refine ⟨?_, hB⟩
      by_cases hl : k + 1 = s.size
      · rw [if_pos (by rw [List.drop_eq_nil_iff, bs_len]; omega)] at hj
        rw [← hj, decide_eq_true (by omega)]
        show _ = _
        rw [← hy1]
        simp only [List.append_nil, toBA_bs]
      · rw [if_neg (by rw [List.drop_eq_nil_iff, bs_len]; omega)] at hj
        rw [← hj, decide_eq_false (by omega)]
        exact ⟨_, rfl⟩
    have h34 := hc
    clear hc
    simp +contextual (maxSteps := 2000000) (disch := (first | omega | (simp only [SZ]; done) | (simp only [SZ]; omega) | (simp only [TS] at *; omega))) only [RZ, gval, gslot, fillL, ovw, numb, catL, ldN, agL, okC, oneC, init, Nat.reduceAdd, Nat.reduceMul, Nat.reduceSub, Nat.reduceEqDiff, Nat.reduceLT, ↓reduceIte, Int.reduceToNat, Int.reduceAdd, Int.reduceSub, Int.reduceMul, Int.reduceLT, Int.reduceLE, Int.reduceEq, Nat.reduceLeDiff,  f0, f4, f5]
    (refine W_if rfl (fun hc => ?_) (fun hc => ?_) <;> (try simp only [TS] at hc))
    · have hes := hc
      clear hc
      simp +contextual (maxSteps := 2000000) (disch := (first | omega | (simp only [SZ]; done) | (simp only [SZ]; omega) | (simp only [TS] at *; omega))) only [RZ, gval, gslot, fillL, ovw, numb, catL, ldN, agL, okC, oneC, init, Nat.reduceAdd, Nat.reduceMul, Nat.reduceSub, Nat.reduceEqDiff, Nat.reduceLT, ↓reduceIte, Int.reduceToNat, Int.reduceAdd, Int.reduceSub, Int.reduceMul, Int.reduceLT, Int.reduceLE, Int.reduceEq, Nat.reduceLeDiff,  f0, f4, f5]
      have hbt : bs (s.extract (k + 1) s.size) = (bs s).drop (k + 1) := by rw [bs_extract, List.take_of_length_le (by rw [List.length_drop, bs_len]; omega)]
      have htz : (s.extract (k + 1) s.size).size ≤ s.size := by rw [ByteArray.size_extract]; omega
      rw [unq_92 (by omega)] at hj
      rw [← hbt] at hj
      have hex := escaped_any (s.extract (k + 1) s.size) w2 (by omega)
      refine Okv_call (by simpa using hex) ?_
      rintro e w3 ⟨rfl, rfl⟩
      refine ⟨_, rfl, ?_⟩
      unfold escV
      cases hE : escS (bs (s.extract (k + 1) s.size)) with
      | none =>
        rw [hE] at hj
        simp +contextual (maxSteps := 2000000) (disch := (first | omega | (simp only [SZ]; done) | (simp only [SZ]; omega) | (simp only [TS] at *; omega))) only [RZ, gval, gslot, fillL, ovw, numb, catL, ldN, agL, okC, oneC, init, Nat.reduceAdd, Nat.reduceMul, Nat.reduceSub, Nat.reduceEqDiff, Nat.reduceLT, ↓reduceIte, Int.reduceToNat, Int.reduceAdd, Int.reduceSub, Int.reduceMul, Int.reduceLT, Int.reduceLE, Int.reduceEq, Nat.reduceLeDiff,  f0, f4, f5]
        refine W_if_t rfl ?_
        simp +contextual (maxSteps := 2000000) (disch := (first | omega | (simp only [SZ]; done) | (simp only [SZ]; omega) | (simp only [TS] at *; omega))) only [RZ, gval, gslot, fillL, ovw, numb, catL, ldN, agL, okC, oneC, init, Nat.reduceAdd, Nat.reduceMul, Nat.reduceSub, Nat.reduceEqDiff, Nat.reduceLT, ↓reduceIte, Int.reduceToNat, Int.reduceAdd, Int.reduceSub, Int.reduceMul, Int.reduceLT, Int.reduceLE, Int.reduceEq, Nat.reduceLeDiff,  f0, f4, f5]
        rw [← hj]
        exact ⟨⟨_, rfl⟩, hB⟩
      | some p =>
        obtain ⟨b, n⟩ := p
        rw [hE] at hj
        simp only at hj
        have hbn : b < 256 ∧ 1 ≤ n ∧ n ≤ (bs (s.extract (k + 1) s.size)).length := esc_bd hE
        rw [hbt, List.length_drop, bs_len] at hbn
        simp +contextual (maxSteps := 2000000) (disch := (first | omega | (simp only [SZ]; done) | (simp only [SZ]; omega) | (simp only [TS] at *; omega))) only [RZ, gval, gslot, fillL, ovw, numb, catL, ldN, agL, okC, oneC, init, Nat.reduceAdd, Nat.reduceMul, Nat.reduceSub, Nat.reduceEqDiff, Nat.reduceLT, ↓reduceIte, Int.reduceToNat, Int.reduceAdd, Int.reduceSub, Int.reduceMul, Int.reduceLT, Int.reduceLE, Int.reduceEq, Nat.reduceLeDiff,  f0, f4, f5]
        refine W_if_f rfl ?_
        obtain ⟨v', w4, he, hX4, hb4, hs4⟩ := hX.push hs2 b hbn.1 (by omega)
        simp +contextual (maxSteps := 2000000) (disch := (first | omega | (simp only [SZ]; done) | (simp only [SZ]; omega) | (simp only [TS] at *; omega))) only [RZ, gval, gslot, fillL, ovw, numb, catL, ldN, agL, okC, oneC, init, Nat.reduceAdd, Nat.reduceMul, Nat.reduceSub, Nat.reduceEqDiff, Nat.reduceLT, ↓reduceIte, Int.reduceToNat, Int.reduceAdd, Int.reduceSub, Int.reduceMul, Int.reduceLT, Int.reduceLE, Int.reduceEq, Nat.reduceLeDiff,  f0, f4, f5, he]
        refine hK _ _ ⟨hB.trans hb4, by omega, k + 1 + n, X ++ [b], v', by omega, by omega, by simp; omega, hX4, ?_, ?_⟩ ?_
        · rw [hbt, List.drop_drop] at hj
          rw [← hj]
          cases unq ((bs s).drop (k + 1 + n)) <;> simp [joinU]
        · simp +contextual (maxSteps := 2000000) (disch := (first | omega | (simp only [SZ]; done) | (simp only [SZ]; omega) | (simp only [TS] at *; omega))) only [RZ, gval, gslot, fillL, ovw, numb, catL, ldN, agL, okC, oneC, init, Nat.reduceAdd, Nat.reduceMul, Nat.reduceSub, Nat.reduceEqDiff, Nat.reduceLT, ↓reduceIte, Int.reduceToNat, Int.reduceAdd, Int.reduceSub, Int.reduceMul, Int.reduceLT, Int.reduceLE, Int.reduceEq, Nat.reduceLeDiff,  f0, f4, f5]
          congr 1
          omega
        · simp +contextual (maxSteps := 2000000) (disch := (first | omega | (simp only [SZ]; done) | (simp only [SZ]; omega) | (simp only [TS] at *; omega))) only [RZ, gval, gslot, fillL, ovw, numb, catL, ldN, agL, okC, oneC, init, Nat.reduceAdd, Nat.reduceMul, Nat.reduceSub, Nat.reduceEqDiff, Nat.reduceLT, ↓reduceIte, Int.reduceToNat, Int.reduceAdd, Int.reduceSub, Int.reduceMul, Int.reduceLT, Int.reduceLE, Int.reduceEq, Nat.reduceLeDiff,  intOf, f5]
          omega
    · have h92 := hc
      clear hc
      simp +contextual (maxSteps := 2000000) (disch := (first | omega | (simp only [SZ]; done) | (simp only [SZ]; omega) | (simp only [TS] at *; omega))) only [RZ, gval, gslot, fillL, ovw, numb, catL, ldN, agL, okC, oneC, init, Nat.reduceAdd, Nat.reduceMul, Nat.reduceSub, Nat.reduceEqDiff, Nat.reduceLT, ↓reduceIte, Int.reduceToNat, Int.reduceAdd, Int.reduceSub, Int.reduceMul, Int.reduceLT, Int.reduceLE, Int.reduceEq, Nat.reduceLeDiff,  f0, f4, f5]
      refine (plain_any (bt s k) w2 hltk).mono ?_
      rintro e w3 ⟨rfl, rfl⟩
      refine ⟨_, rfl, ?_⟩
      simp +contextual (maxSteps := 2000000) (disch := (first | omega | (simp only [SZ]; done) | (simp only [SZ]; omega) | (simp only [TS] at *; omega))) only [RZ, gval, gslot, fillL, ovw, numb, catL, ldN, agL, okC, oneC, init, Nat.reduceAdd, Nat.reduceMul, Nat.reduceSub, Nat.reduceEqDiff, Nat.reduceLT, ↓reduceIte, Int.reduceToNat, Int.reduceAdd, Int.reduceSub, Int.reduceMul, Int.reduceLT, Int.reduceLE, Int.reduceEq, Nat.reduceLeDiff,  f0, f4, f5]
      (refine W_if rfl (fun hc => ?_) (fun hc => ?_) <;> (try simp only [TS] at hc))
      · obtain ⟨v', w4, he, hX4, hb4, hs4⟩ := hX.push hs2 (bt s k) hltk (by omega)
        simp +contextual (maxSteps := 2000000) (disch := (first | omega | (simp only [SZ]; done) | (simp only [SZ]; omega) | (simp only [TS] at *; omega))) only [RZ, gval, gslot, fillL, ovw, numb, catL, ldN, agL, okC, oneC, init, Nat.reduceAdd, Nat.reduceMul, Nat.reduceSub, Nat.reduceEqDiff, Nat.reduceLT, ↓reduceIte, Int.reduceToNat, Int.reduceAdd, Int.reduceSub, Int.reduceMul, Int.reduceLT, Int.reduceLE, Int.reduceEq, Nat.reduceLeDiff,  f0, f4, f5, he]
        refine hK _ _ ⟨hB.trans hb4, by omega, k + 1, X ++ [bt s k], v', by omega, by omega, by simp; omega, hX4, ?_, ?_⟩ ?_
        · rw [unq_pl (by omega) (by omega) hc] at hj
          rw [← hj]
          cases unq ((bs s).drop (k + 1)) <;> simp [joinU]
        · simp +contextual (maxSteps := 2000000) (disch := (first | omega | (simp only [SZ]; done) | (simp only [SZ]; omega) | (simp only [TS] at *; omega))) only [RZ, gval, gslot, fillL, ovw, numb, catL, ldN, agL, okC, oneC, init, Nat.reduceAdd, Nat.reduceMul, Nat.reduceSub, Nat.reduceEqDiff, Nat.reduceLT, ↓reduceIte, Int.reduceToNat, Int.reduceAdd, Int.reduceSub, Int.reduceMul, Int.reduceLT, Int.reduceLE, Int.reduceEq, Nat.reduceLeDiff,  f0, f4, f5]
        · simp +contextual (maxSteps := 2000000) (disch := (first | omega | (simp only [SZ]; done) | (simp only [SZ]; omega) | (simp only [TS] at *; omega))) only [RZ, gval, gslot, fillL, ovw, numb, catL, ldN, agL, okC, oneC, init, Nat.reduceAdd, Nat.reduceMul, Nat.reduceSub, Nat.reduceEqDiff, Nat.reduceLT, ↓reduceIte, Int.reduceToNat, Int.reduceAdd, Int.reduceSub, Int.reduceMul, Int.reduceLT, Int.reduceLE, Int.reduceEq, Nat.reduceLeDiff,  intOf, f5]
          omega
      · rw [unq_bad (by omega) (by omega) hc] at hj
        simp +contextual (maxSteps := 2000000) (disch := (first | omega | (simp only [SZ]; done) | (simp only [SZ]; omega) | (simp only [TS] at *; omega))) only [RZ, gval, gslot, fillL, ovw, numb, catL, ldN, agL, okC, oneC, init, Nat.reduceAdd, Nat.reduceMul, Nat.reduceSub, Nat.reduceEqDiff, Nat.reduceLT, ↓reduceIte, Int.reduceToNat, Int.reduceAdd, Int.reduceSub, Int.reduceMul, Int.reduceLT, Int.reduceLE, Int.reduceEq, Nat.reduceLeDiff,  f0, f4, f5]
        rw [← hj]
        exact ⟨⟨_, rfl⟩, hB⟩
  · have hkl : k = s.size := by omega
    subst hkl
    rw [List.drop_of_length_le (by rw [bs_len]; omega)] at hj
    simp +contextual (maxSteps := 2000000) (disch := (first | omega | (simp only [SZ]; done) | (simp only [SZ]; omega) | (simp only [TS] at *; omega))) only [RZ, gval, gslot, fillL, ovw, numb, catL, ldN, agL, okC, oneC, init, Nat.reduceAdd, Nat.reduceMul, Nat.reduceSub, Nat.reduceEqDiff, Nat.reduceLT, ↓reduceIte, Int.reduceToNat, Int.reduceAdd, Int.reduceSub, Int.reduceMul, Int.reduceLT, Int.reduceLE, Int.reduceEq, Nat.reduceLeDiff,  f0, f4, f5]
    rw [← hj, unq_nil]
    exact ⟨⟨_, rfl⟩, hB⟩
theorem textS_eq (c : Nat) (l : List Nat) (h : c = 32) : textS (c :: l) = unqT l := by
  subst h
  cases l with
  | nil => rfl
  | cons d r =>
    unfold textS unqT
    simp
theorem textS_no {c : Nat} {l : List Nat} (h : c ≠ 32) : textS (c :: l) = none := by
  cases l with
  | nil => rfl
  | cons d r =>
    unfold textS
    simp only
    rw [if_neg (fun hh => h hh.1)]
theorem parseText_any (s : ByteArray) (w : World) (hs : s.size ≤ 1000000) : Calls Tryd.prog 57 #[.string s] w fun e w' => unqIs e (textS (bs s)) ∧ Below w.heap.size w w' := by
  refine calls_W (l := [_]) Tryd.func57 rfl _ Tryd.ntmps57 (by simp) ?_
  by_cases h0 : s = ⟨#[]⟩
  · subst h0
    simp +contextual (maxSteps := 2000000) (disch := (first | omega | (simp only [SZ]; done) | (simp only [SZ]; omega) | (simp only [TS] at *; omega))) only [RZ, gval, gslot, fillL, ovw, numb, catL, ldN, agL, okC, oneC, init, Nat.reduceAdd, Nat.reduceMul, Nat.reduceSub, Nat.reduceEqDiff, Nat.reduceLT, ↓reduceIte, Int.reduceToNat, Int.reduceAdd, Int.reduceSub, Int.reduceMul, Int.reduceLT, Int.reduceLE, Int.reduceEq, Nat.reduceLeDiff]
    refine W_if_t rfl ?_
    simp +contextual (maxSteps := 2000000) (disch := (first | omega | (simp only [SZ]; done) | (simp only [SZ]; omega) | (simp only [TS] at *; omega))) only [RZ, gval, gslot, fillL, ovw, numb, catL, ldN, agL, okC, oneC, init, Nat.reduceAdd, Nat.reduceMul, Nat.reduceSub, Nat.reduceEqDiff, Nat.reduceLT, ↓reduceIte, Int.reduceToNat, Int.reduceAdd, Int.reduceSub, Int.reduceMul, Int.reduceLT, Int.reduceLE, Int.reduceEq, Nat.reduceLeDiff]
    exact ⟨⟨_, rfl⟩, Below.refl _ _⟩
  have hp := sz_pos h0
  have e0 : (s = ⟨#[]⟩) = False := eq_false h0
  have hlt := bt_lt s 0
  simp +contextual (maxSteps := 2000000) (disch := (first | omega | (simp only [SZ]; done) | (simp only [SZ]; omega) | (simp only [TS] at *; omega))) only [RZ, gval, gslot, fillL, ovw, numb, catL, ldN, agL, okC, oneC, init, Nat.reduceAdd, Nat.reduceMul, Nat.reduceSub, Nat.reduceEqDiff, Nat.reduceLT, ↓reduceIte, Int.reduceToNat, Int.reduceAdd, Int.reduceSub, Int.reduceMul, Int.reduceLT, Int.reduceLE, Int.reduceEq, Nat.reduceLeDiff,  e0]
  rw [bs_cons1 hp]
  (refine W_if rfl (fun hc => ?_) (fun hc => ?_) <;> (try simp only [TS] at hc))
  · rw [textS_no (by omega)]
    simp +contextual (maxSteps := 2000000) (disch := (first | omega | (simp only [SZ]; done) | (simp only [SZ]; omega) | (simp only [TS] at *; omega))) only [RZ, gval, gslot, fillL, ovw, numb, catL, ldN, agL, okC, oneC, init, Nat.reduceAdd, Nat.reduceMul, Nat.reduceSub, Nat.reduceEqDiff, Nat.reduceLT, ↓reduceIte, Int.reduceToNat, Int.reduceAdd, Int.reduceSub, Int.reduceMul, Int.reduceLT, Int.reduceLE, Int.reduceEq, Nat.reduceLeDiff]
    exact ⟨⟨_, rfl⟩, Below.refl _ _⟩
  rw [textS_eq _ _ (by omega)]
  simp +contextual (maxSteps := 2000000) (disch := (first | omega | (simp only [SZ]; done) | (simp only [SZ]; omega) | (simp only [TS] at *; omega))) only [RZ, gval, gslot, fillL, ovw, numb, catL, ldN, agL, okC, oneC, init, Nat.reduceAdd, Nat.reduceMul, Nat.reduceSub, Nat.reduceEqDiff, Nat.reduceLT, ↓reduceIte, Int.reduceToNat, Int.reduceAdd, Int.reduceSub, Int.reduceMul, Int.reduceLT, Int.reduceLE, Int.reduceEq, Nat.reduceLeDiff]
  have hbt : bs (s.extract 1 s.size) = (bs s).drop 1 := by rw [bs_extract, List.take_of_length_le (by rw [List.length_drop, bs_len]; omega)]
  have htz : (s.extract 1 s.size).size ≤ s.size := by rw [ByteArray.size_extract]; omega
  rw [← hbt]
  refine (unquote_any (s.extract 1 s.size) w (by omega)).mono ?_
  rintro e w1 ⟨hu, hb⟩
  cases ho : unqT (bs (s.extract 1 s.size)) with
  | none =>
    rw [ho] at hu
    obtain ⟨x, rfl⟩ := hu
    refine ⟨_, rfl, ?_⟩
    simp +contextual (maxSteps := 2000000) (disch := (first | omega | (simp only [SZ]; done) | (simp only [SZ]; omega) | (simp only [TS] at *; omega))) only [RZ, gval, gslot, fillL, ovw, numb, catL, ldN, agL, okC, oneC, init, Nat.reduceAdd, Nat.reduceMul, Nat.reduceSub, Nat.reduceEqDiff, Nat.reduceLT, ↓reduceIte, Int.reduceToNat, Int.reduceAdd, Int.reduceSub, Int.reduceMul, Int.reduceLT, Int.reduceLE, Int.reduceEq, Nat.reduceLeDiff]
    exact ⟨⟨_, rfl⟩, hb⟩
  | some t =>
    rw [ho] at hu
    have hu' : e = _ := hu
    subst hu'
    refine ⟨_, rfl, ?_⟩
    simp +contextual (maxSteps := 2000000) (disch := (first | omega | (simp only [SZ]; done) | (simp only [SZ]; omega) | (simp only [TS] at *; omega))) only [RZ, gval, gslot, fillL, ovw, numb, catL, ldN, agL, okC, oneC, init, Nat.reduceAdd, Nat.reduceMul, Nat.reduceSub, Nat.reduceEqDiff, Nat.reduceLT, ↓reduceIte, Int.reduceToNat, Int.reduceAdd, Int.reduceSub, Int.reduceMul, Int.reduceLT, Int.reduceLE, Int.reduceEq, Nat.reduceLeDiff]
    exact ⟨rfl, hb⟩
end Go.Proofs.YtjaeiiiniohloaaDoor
