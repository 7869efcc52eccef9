/- Texts laid one behind the other: NumA, PbC, LexA, LexB, LexD. Each says at its head what it proves. -/
import Derived.Test.YtbdkggnajipdhaaDoorRtBkZ05
set_option linter.unusedSimpArgs false
/- Walks: num.decimal, num.Parse. -/
namespace Go.Proofs.YtbdkggnajipdhaaDoor
open Nat (reduceAdd reduceMul reduceSub reduceEqDiff reduceLT reduceLeDiff)
open Go.RowKit
set_option maxRecDepth 100000
theorem sz_pos {s : ByteArray} (h : s ≠ ⟨#[]⟩) : 0 < s.size := by
  rcases Nat.eq_zero_or_pos s.size with h0 | h0
  · exact absurd (ByteArray.ext (Array.eq_empty_of_size_eq_zero h0)) h
  · exact h0
theorem bs_ne {s : ByteArray} (h : 0 < s.size) : bs s ≠ [] := fun e => by have := congrArg List.length e; rw [bs_len, List.length_nil] at this; omega
theorem bs_at {s : ByteArray} {k c : Nat} (h : (bs s)[k]? = some c) : k < s.size ∧ c = bt s k := by
  have hk : k < s.size := by have := (List.getElem?_eq_some_iff.1 h).1; rwa [bs_len] at this
  rw [bs_get hk] at h
  injection h with h
  exact ⟨hk, h.symm⟩
theorem decimal_any (s : ByteArray) (w : World) (hs : s.size ≤ 1000000000) : Calls Tryd.prog 89 #[.string s] w fun e w' => e = .returned (.bool (decOK (bs s))) ∧ w = w' := by
  refine calls_W (l := [_]) Tryd.func89 rfl _ Tryd.ntmps89 (by simp) ?_
  by_cases h0 : s = ⟨#[]⟩
  · subst h0
    simp +contextual (maxSteps := 2000000) (disch := first | omega | (simp only [SZ]; first | done | omega) | (simp only [TS] at *; omega)) only [RZ, ovw, oneC, reduceAdd, reduceMul, reduceSub, reduceEqDiff, reduceLT, ↓reduceIte, Int.reduceToNat, reduceLeDiff]
    refine W_if_t rfl ?_
    simp +contextual (maxSteps := 2000000) (disch := first | omega | (simp only [SZ]; first | done | omega) | (simp only [TS] at *; omega)) only [RZ, ovw, oneC, reduceAdd, reduceMul, reduceSub, reduceEqDiff, reduceLT, ↓reduceIte, Int.reduceToNat, reduceLeDiff]
    exact rfl
  have hp := sz_pos h0
  have e0 : (s = ⟨#[]⟩) = False := eq_false h0
  simp +contextual (maxSteps := 2000000) (disch := first | omega | (simp only [SZ]; first | done | omega) | (simp only [TS] at *; omega)) only [RZ, ovw, oneC, reduceAdd, reduceMul, reduceSub, reduceEqDiff, reduceLT, ↓reduceIte, Int.reduceToNat, reduceLeDiff,  e0]
  (refine W_if rfl (fun hc => ?_) (fun hc => ?_) <;> (try simp only [TS] at hc))
  · simp +contextual (maxSteps := 2000000) (disch := first | omega | (simp only [SZ]; first | done | omega) | (simp only [TS] at *; omega)) only [RZ, ovw, oneC, reduceAdd, reduceMul, reduceSub, reduceEqDiff, reduceLT, ↓reduceIte, Int.reduceToNat, reduceLeDiff]
    exact ret_bool (decOK_zero (by rw [bs_get hp]; congr 1; omega) (by rw [bs_len]; omega)).symm
  simp +contextual (maxSteps := 2000000) (disch := first | omega | (simp only [SZ]; first | done | omega) | (simp only [TS] at *; omega)) only [RZ, ovw, oneC, reduceAdd, reduceMul, reduceSub, reduceEqDiff, reduceLT, ↓reduceIte, Int.reduceToNat, reduceLeDiff,  e0]
  refine Raw_loop (fun σ w' => w' = w ∧ ∃ k : Nat, k ≤ s.size ∧ (∀ j, j < k → 48 ≤ bt s j ∧ bt s j ≤ 57) ∧ σ 0 = .string s ∧ σ 17 = .int .i64 s.size ∧ σ 18 = .int .i64 k) (fun σ _ => s.size - (intOf (σ 18)).toNat) ?_ ?_
  · simp +contextual (maxSteps := 2000000) (disch := first | omega | (simp only [SZ]; first | done | omega) | (simp only [TS] at *; omega)) only [RZ, ovw, oneC, reduceAdd, reduceMul, reduceSub, reduceEqDiff, reduceLT, ↓reduceIte, Int.reduceToNat, reduceLeDiff]
    exact ⟨0, Nat.zero_le _, fun j hj => absurd hj (Nat.not_lt_zero _), rfl⟩
  rintro σ w' ⟨rfl, k, hk, hup, f0, f17, f18⟩ K hK
  simp +contextual (maxSteps := 2000000) (disch := first | omega | (simp only [SZ]; first | done | omega) | (simp only [TS] at *; omega)) only [RZ, ovw, oneC, reduceAdd, reduceMul, reduceSub, reduceEqDiff, reduceLT, ↓reduceIte, Int.reduceToNat, reduceLeDiff,  f0, f17, f18]
  (refine W_if rfl (fun hc => ?_) (fun hc => ?_) <;> (try simp only [TS] at hc))
  · simp +contextual (maxSteps := 2000000) (disch := first | omega | (simp only [SZ]; first | done | omega) | (simp only [TS] at *; omega)) only [RZ, ovw, oneC, reduceAdd, reduceMul, reduceSub, reduceEqDiff, reduceLT, ↓reduceIte, Int.reduceToNat, reduceLeDiff,  f0, f17, f18]
    (refine W_if rfl (fun hc => ?_) (fun hc => ?_) <;> (try simp only [TS] at hc))
    · simp +contextual (maxSteps := 2000000) (disch := first | omega | (simp only [SZ]; first | done | omega) | (simp only [TS] at *; omega)) only [RZ, ovw, oneC, reduceAdd, reduceMul, reduceSub, reduceEqDiff, reduceLT, ↓reduceIte, Int.reduceToNat, reduceLeDiff,  f0, f17, f18]
      exact ret_bool (decOK_bad (bs_get (i := k) (by omega)) (by omega)).symm
    · simp +contextual (maxSteps := 2000000) (disch := first | omega | (simp only [SZ]; first | done | omega) | (simp only [TS] at *; omega)) only [RZ, ovw, oneC, reduceAdd, reduceMul, reduceSub, reduceEqDiff, reduceLT, ↓reduceIte, Int.reduceToNat, reduceLeDiff,  f0, f17, f18]
      refine hK _ _ ⟨rfl, k + 1, by omega, fun j hj => ?_, ?_⟩ ?_
      · rcases Nat.lt_or_eq_of_le (Nat.lt_succ_iff.1 hj) with h | rfl
        · exact hup j h
        · omega
      · simp +contextual (maxSteps := 2000000) (disch := first | omega | (simp only [SZ]; first | done | omega) | (simp only [TS] at *; omega)) only [RZ, ovw, oneC, reduceAdd, reduceMul, reduceSub, reduceEqDiff, reduceLT, ↓reduceIte, Int.reduceToNat, reduceLeDiff,  f0, f17, f18]
      · simp +contextual (maxSteps := 2000000) (disch := first | omega | (simp only [SZ]; first | done | omega) | (simp only [TS] at *; omega)) only [RZ, ovw, oneC, reduceAdd, reduceMul, reduceSub, reduceEqDiff, reduceLT, ↓reduceIte, Int.reduceToNat, reduceLeDiff,  intOf, f18]
        omega
  · simp +contextual (maxSteps := 2000000) (disch := first | omega | (simp only [SZ]; first | done | omega) | (simp only [TS] at *; omega)) only [RZ, ovw, oneC, reduceAdd, reduceMul, reduceSub, reduceEqDiff, reduceLT, ↓reduceIte, Int.reduceToNat, reduceLeDiff,  f0, f17, f18]
    refine ret_bool (decOK_yes (bs_ne hp) (fun h => ?_) (fun j c hj => ?_)).symm
    · have := (bs_at h.1).2
      rw [bs_len] at h
      omega
    · obtain ⟨h1, rfl⟩ := bs_at hj
      exact hup j (by omega)
theorem negB_bs (s : ByteArray) : negB (bs s) = (decide (0 < s.size) && decide (bt s 0 = 45)) := by
  rcases Nat.eq_zero_or_pos s.size with h | h
  · have e : bs s = [] := List.length_eq_zero_iff.1 (by rw [bs_len]; exact h)
    rw [e, h]; rfl
  · have h1 := bs_get h
    cases hb : bs s with
    | nil => exact absurd hb (bs_ne h)
    | cons c r =>
      rw [hb] at h1
      simp only [List.getElem?_cons_zero, Option.some.injEq] at h1
      subst h1
      by_cases h45 : bt s 0 = 45
      · rw [h45]; simp [negB, h]
      · unfold negB
        split
        · rename_i e; injection e with e _; exact absurd e h45
        · simp [h45]
def magB (s : ByteArray) : ByteArray := if negB (bs s) then s.extract 1 s.size else s
theorem bs_mag (s : ByteArray) : bs (magB s) = magL (bs s) := by
  unfold magB magL
  split
  · rw [bs_extract]
    rw [List.take_of_length_le (by rw [List.length_drop, bs_len]; omega)]
  · rfl
theorem mag_sz (s : ByteArray) : (magB s).size ≤ s.size := by
  unfold magB
  split
  · rw [ByteArray.size_extract]; omega
  · omega
theorem numParse_any (s : ByteArray) (w : World) (hs : s.size ≤ 1000000000) : Calls Tryd.prog 87 #[.string s] w fun e w' => e = .returned (.tuple #[.int .i64 (numE (bs s)).1, .int .i64 (numE (bs s)).2]) ∧ w = w' := by
  refine calls_W (l := [_]) Tryd.func87 rfl _ Tryd.ntmps87 (by simp) ?_
  have hms := mag_sz s
  simp +contextual (maxSteps := 2000000) (disch := first | omega | (simp only [SZ]; first | done | omega) | (simp only [TS] at *; omega)) only [RZ, ovw, oneC, reduceAdd, reduceMul, reduceSub, reduceEqDiff, reduceLT, ↓reduceIte, Int.reduceToNat, reduceLeDiff]
  refine W_cut (fun τ w' => w' = w ∧ τ 4 = .string (magB s) ∧ τ 5 = .bool (negB (bs s))) ?_ ?_
  rotate_left
  · (refine W_if rfl (fun hc => ?_) (fun hc => ?_) <;> (try simp only [TS] at hc))
    · have hn : negB (bs s) = true := by rw [negB_bs]; simp; omega
      have hm : magB s = s.extract 1 s.size := by unfold magB; rw [if_pos hn]
      simp +contextual (maxSteps := 2000000) (disch := first | omega | (simp only [SZ]; first | done | omega) | (simp only [TS] at *; omega)) only [RZ, ovw, oneC, reduceAdd, reduceMul, reduceSub, reduceEqDiff, reduceLT, ↓reduceIte, Int.reduceToNat, reduceLeDiff,  cutX_normal, cutX_ret, cutX_exit, cut2X_normal, cut2X_ret, cut2X_same, cut2X_ne, hn, hm]
      simp; omega
    · have hn : negB (bs s) = false := by rw [negB_bs]; simp; omega
      have hm : magB s = s := by unfold magB; rw [hn]; rfl
      simp +contextual (maxSteps := 2000000) (disch := first | omega | (simp only [SZ]; first | done | omega) | (simp only [TS] at *; omega)) only [RZ, ovw, oneC, reduceAdd, reduceMul, reduceSub, reduceEqDiff, reduceLT, ↓reduceIte, Int.reduceToNat, reduceLeDiff,  cutX_normal, cutX_ret, cutX_exit, cut2X_normal, cut2X_ret, cut2X_same, cut2X_ne, hn, hm]
      simp; omega
  rintro τ w' ⟨rfl, f4, f5⟩
  have hR1 := @numE_bad (bs s)
  have hR2 := @numE_over (bs s)
  have hR3 := @numE_in (bs s)
  rw [← bs_mag] at hR1 hR2 hR3
  generalize numE (bs s) = R at *
  generalize magB s = t at *
  generalize negB (bs s) = ng at *
  have h48 : (bs t = [48]) = (t = ⟨#[48]⟩) := by
    apply propext
    exact ⟨fun h => bs_inj (by rw [h]; rfl), fun h => by rw [h]; rfl⟩
  rw [h48] at hR1 hR2 hR3
  simp +contextual (maxSteps := 2000000) (disch := first | omega | (simp only [SZ]; first | done | omega) | (simp only [TS] at *; omega)) only [RZ, ovw, oneC, reduceAdd, reduceMul, reduceSub, reduceEqDiff, reduceLT, ↓reduceIte, Int.reduceToNat, reduceLeDiff,  f4, f5]
  refine (decimal_any _ _ (by omega)).mono ?_
  rintro e w1 ⟨rfl, rfl⟩
  refine ⟨_, rfl, ?_⟩
  simp +contextual (maxSteps := 2000000) (disch := first | omega | (simp only [SZ]; first | done | omega) | (simp only [TS] at *; omega)) only [RZ, ovw, oneC, reduceAdd, reduceMul, reduceSub, reduceEqDiff, reduceLT, ↓reduceIte, Int.reduceToNat, reduceLeDiff,  f4, f5]
  (refine W_if rfl (fun hc => ?_) (fun hc => ?_) <;> (try simp only [TS] at hc))
  · rw [hR1 hc]
    simp +contextual (maxSteps := 2000000) (disch := first | omega | (simp only [SZ]; first | done | omega) | (simp only [TS] at *; omega)) only [RZ, ovw, oneC, reduceAdd, reduceMul, reduceSub, reduceEqDiff, reduceLT, ↓reduceIte, Int.reduceToNat, reduceLeDiff]
  have hgood : ¬ (decOK (bs t) = false ∨ (ng = true ∧ t = ⟨#[48]⟩)) := by
    rintro (h | ⟨h1, h2⟩)
    · rw [h] at hc; cases hc.1
    · rcases hc.2 with h | h
      · rw [h] at h1; cases h1
      · exact h h2
  replace hR2 := hR2 hgood
  replace hR3 := hR3 hgood
  clear hR1 hc
  rw [not_or] at hgood
  have hd : decOK (bs t) = true := by simpa using hgood.1
  have hl : limN ng = 9223372036854775807 ∨ (limN ng = 9223372036854775808 ∧ ng = true) := by cases ng <;> simp [limN]
  simp +contextual (maxSteps := 2000000) (disch := first | omega | (simp only [SZ]; first | done | omega) | (simp only [TS] at *; omega)) only [RZ, ovw, oneC, reduceAdd, reduceMul, reduceSub, reduceEqDiff, reduceLT, ↓reduceIte, Int.reduceToNat, reduceLeDiff,  f4, f5]
  refine W_cut (fun τ w2 => w2 = w' ∧ τ 4 = .string t ∧ τ 5 = .bool ng ∧ τ 6 = .int .u64 (limN ng)) ?_ ?_
  rotate_left
  · cases ng
    · refine W_if_f rfl ?_
      simp +contextual (maxSteps := 2000000) (disch := first | omega | (simp only [SZ]; first | done | omega) | (simp only [TS] at *; omega)) only [RZ, ovw, oneC, reduceAdd, reduceMul, reduceSub, reduceEqDiff, reduceLT, ↓reduceIte, Int.reduceToNat, reduceLeDiff,  cutX_normal, cutX_ret, cutX_exit, cut2X_normal, cut2X_ret, cut2X_same, cut2X_ne, f4, f5]
      rfl
    · refine W_if_t rfl ?_
      simp +contextual (maxSteps := 2000000) (disch := first | omega | (simp only [SZ]; first | done | omega) | (simp only [TS] at *; omega)) only [RZ, ovw, oneC, reduceAdd, reduceMul, reduceSub, reduceEqDiff, reduceLT, ↓reduceIte, Int.reduceToNat, reduceLeDiff,  cutX_normal, cutX_ret, cutX_exit, cut2X_normal, cut2X_ret, cut2X_same, cut2X_ne, f4, f5]
      rfl
  clear f4 f5
  rintro υ w2 ⟨rfl, f4, f5, f6⟩
  simp +contextual (maxSteps := 2000000) (disch := first | omega | (simp only [SZ]; first | done | omega) | (simp only [TS] at *; omega)) only [RZ, ovw, oneC, reduceAdd, reduceMul, reduceSub, reduceEqDiff, reduceLT, ↓reduceIte, Int.reduceToNat, reduceLeDiff,  f4, f5, f6]
  refine Raw_loop (fun σ w3 => w3 = w2 ∧ ∃ k : Nat, k ≤ t.size ∧ valD 0 ((bs t).take k) ≤ limN ng ∧ σ 4 = .string t ∧ σ 5 = .bool ng ∧ σ 6 = .int .u64 (limN ng) ∧ σ 7 = .int .u64 (valD 0 ((bs t).take k)) ∧ σ 36 = .int .i64 t.size ∧ σ 37 = .int .i64 k) (fun σ _ => t.size - (intOf (σ 37)).toNat) ?_ ?_
  · simp +contextual (maxSteps := 2000000) (disch := first | omega | (simp only [SZ]; first | done | omega) | (simp only [TS] at *; omega)) only [RZ, ovw, oneC, reduceAdd, reduceMul, reduceSub, reduceEqDiff, reduceLT, ↓reduceIte, Int.reduceToNat, reduceLeDiff,  f4, f5, f6]
    exact ⟨0, Nat.zero_le _, Nat.zero_le _, rfl, rfl⟩
  rintro σ w3 ⟨rfl, k, hk, hv, g4, g5, g6, g7, g36, g37⟩ K hK
  have hdig := decOK_all hd
  simp +contextual (maxSteps := 2000000) (disch := first | omega | (simp only [SZ]; first | done | omega) | (simp only [TS] at *; omega)) only [RZ, ovw, oneC, reduceAdd, reduceMul, reduceSub, reduceEqDiff, reduceLT, ↓reduceIte, Int.reduceToNat, reduceLeDiff,  g4, g5, g6, g7, g36, g37]
  (refine W_if rfl (fun hc => ?_) (fun hc => ?_) <;> (try simp only [TS] at hc))
  · have hkl : k < t.size := by omega
    have hb := hdig (bt t k) (List.mem_of_getElem? (bs_get hkl))
    have hst := valD_step (bs_get hkl)
    have htk := valD_take (bs t) (k + 1)
    simp +contextual (maxSteps := 2000000) (disch := first | omega | (simp only [SZ]; first | done | omega) | (simp only [TS] at *; omega)) only [RZ, ovw, oneC, reduceAdd, reduceMul, reduceSub, reduceEqDiff, reduceLT, ↓reduceIte, Int.reduceToNat, reduceLeDiff,  g4, g5, g6, g7, g36, g37]
    (refine W_if rfl (fun hc => ?_) (fun hc => ?_) <;> (try simp only [TS] at hc))
    · rw [hR2 (by omega)]
      simp +contextual (maxSteps := 2000000) (disch := first | omega | (simp only [SZ]; first | done | omega) | (simp only [TS] at *; omega)) only [RZ, ovw, oneC, reduceAdd, reduceMul, reduceSub, reduceEqDiff, reduceLT, ↓reduceIte, Int.reduceToNat, reduceLeDiff,  g4]
    · simp +contextual (maxSteps := 2000000) (disch := first | omega | (simp only [SZ]; first | done | omega) | (simp only [TS] at *; omega)) only [RZ, ovw, oneC, reduceAdd, reduceMul, reduceSub, reduceEqDiff, reduceLT, ↓reduceIte, Int.reduceToNat, reduceLeDiff,  g4, g5, g6, g7, g36, g37]
      refine hK _ _ ⟨rfl, k + 1, by omega, by omega, ?_⟩ ?_
      · simp +contextual (maxSteps := 2000000) (disch := first | omega | (simp only [SZ]; first | done | omega) | (simp only [TS] at *; omega)) only [RZ, ovw, oneC, reduceAdd, reduceMul, reduceSub, reduceEqDiff, reduceLT, ↓reduceIte, Int.reduceToNat, reduceLeDiff,  g4, g5, g6, g7, g36, g37]
        rw [hst]
        congr 1
        omega
      · simp +contextual (maxSteps := 2000000) (disch := first | omega | (simp only [SZ]; first | done | omega) | (simp only [TS] at *; omega)) only [RZ, ovw, oneC, reduceAdd, reduceMul, reduceSub, reduceEqDiff, reduceLT, ↓reduceIte, Int.reduceToNat, reduceLeDiff,  intOf, g37]
        omega
  · have hkl : k = t.size := by omega
    subst hkl
    rw [List.take_of_length_le (by rw [bs_len]; omega)] at hv g7
    rw [hR3 (by omega)]
    simp +contextual (maxSteps := 2000000) (disch := first | omega | (simp only [SZ]; first | done | omega) | (simp only [TS] at *; omega)) only [RZ, ovw, oneC, reduceAdd, reduceMul, reduceSub, reduceEqDiff, reduceLT, ↓reduceIte, Int.reduceToNat, reduceLeDiff,  g4, g5, g6, g7, g36, g37]
    cases ng
    · refine W_if_t rfl ?_
      rcases hl with hl | ⟨_, hl⟩
      · simp +contextual (maxSteps := 2000000) (disch := first | omega | (simp only [SZ]; first | done | omega) | (simp only [TS] at *; omega)) only [RZ, ovw, oneC, reduceAdd, reduceMul, reduceSub, reduceEqDiff, reduceLT, ↓reduceIte, Int.reduceToNat, reduceLeDiff,  g4, g5, g6, g7, g36, g37]
      · cases hl
    · refine W_if_f rfl ?_
      have hp := decOK_pos hd (by rw [ne_eq, h48]; have := hgood.2; simpa using this)
      have hl2 : limN true = 9223372036854775808 := rfl
      simp +contextual (maxSteps := 2000000) (disch := first | omega | (simp only [SZ]; first | done | omega) | (simp only [TS] at *; omega)) only [RZ, ovw, oneC, reduceAdd, reduceMul, reduceSub, reduceEqDiff, reduceLT, ↓reduceIte, Int.reduceToNat, reduceLeDiff,  g4, g5, g6, g7, g36, g37]
      rw [show -((valD 0 (bs t) : Int) - 1) - 1 = -(valD 0 (bs t) : Int) by omega]
end Go.Proofs.YtbdkggnajipdhaaDoor
/- Walks: the printer's methods: isWord, name, option, hits. -/
namespace Go.Proofs.YtbdkggnajipdhaaDoor
open Nat (reduceAdd reduceMul reduceSub reduceEqDiff reduceLT reduceLeDiff)
open Go.RowKit
set_option maxRecDepth 100000
theorem wordL_cons (c : Nat) (r : List Nat) : wordL (c :: r) = (letterB c && (c :: r).all wordB) := rfl
set_option maxHeartbeats 2000000 in
theorem isWord_any (s : ByteArray) (w : World) (hs : s.size ≤ 9223372036854775807) : Calls Tryd.prog 32 #[.string s] w fun e w' => e = .returned (.bool (wordL (bs s))) ∧ w = w' := by
  refine calls_W (l := [_]) Tryd.func32 rfl _ Tryd.ntmps32 (by simp) ?_
  generalize hwr : wordL (bs s) = rr
  by_cases h0 : s = ⟨#[]⟩
  · subst h0
    have hwr : rr = false := by rw [← hwr]; rfl
    subst hwr
    refine W_piece fun K hK hX => ?_
    simp +contextual (maxSteps := 2000000) (disch := first | omega | (simp only [SZ]; first | done | omega) | (simp only [TS] at *; omega)) only [RZ, ovw, oneC, reduceAdd, reduceMul, reduceSub, reduceEqDiff, reduceLT, ↓reduceIte, Int.reduceToNat, reduceLeDiff]
    refine hK _ _ ?_
    clear hK hX K
    rw [W_seq]
    simp +contextual (maxSteps := 2000000) (disch := first | omega | (simp only [SZ]; first | done | omega) | (simp only [TS] at *; omega)) only [RZ, ovw, oneC, reduceAdd, reduceMul, reduceSub, reduceEqDiff, reduceLT, ↓reduceIte, Int.reduceToNat, reduceLeDiff]
    refine W_if_t rfl ?_
    simp +contextual (maxSteps := 2000000) (disch := first | omega | (simp only [SZ]; first | done | omega) | (simp only [TS] at *; omega)) only [RZ, ovw, oneC, reduceAdd, reduceMul, reduceSub, reduceEqDiff, reduceLT, ↓reduceIte, Int.reduceToNat, reduceLeDiff]
  have hsz : 0 < s.size := sz_pos h0
  have e0 : (s = ⟨#[]⟩) = False := eq_false h0
  have hb0 := bs_get hsz
  obtain ⟨r, hr⟩ : ∃ r, bs s = bt s 0 :: r := by
    cases hl : bs s with
    | nil => rw [hl] at hb0; cases hb0
    | cons c r => rw [hl] at hb0; simp only [List.getElem?_cons_zero, Option.some.injEq] at hb0; exact ⟨r, by rw [hb0]⟩
  have hwl : wordL (bs s) = (letterB (bt s 0) && (bs s).all wordB) := by rw [hr, wordL_cons]
  refine W_piece fun K hK hX => ?_
  simp +contextual (maxSteps := 2000000) (disch := first | omega | (simp only [SZ]; first | done | omega) | (simp only [TS] at *; omega)) only [RZ, ovw, oneC, reduceAdd, reduceMul, reduceSub, reduceEqDiff, reduceLT, ↓reduceIte, Int.reduceToNat, reduceLeDiff]
  refine hK _ _ ?_
  clear hK hX K
  refine W_piece fun K hK hX => ?_
  refine W_piece fun K2 hK2 hX2 => ?_
  simp +contextual (maxSteps := 2000000) (disch := first | omega | (simp only [SZ]; first | done | omega) | (simp only [TS] at *; omega)) only [RZ, ovw, oneC, reduceAdd, reduceMul, reduceSub, reduceEqDiff, reduceLT, ↓reduceIte, Int.reduceToNat, reduceLeDiff,  e0]
  refine hK2 _ _ ?_
  clear hK2 hX2 K2
  have hL : (decide ((bt s 0 : Int) < 97) || decide (122 < (bt s 0 : Int))) = !letterB (bt s 0) := by
    rw [Bool.eq_iff_iff]
    unfold letterB
    simp only [Bool.or_eq_true, decide_eq_true_eq, Bool.not_eq_true', Bool.and_eq_false_iff, decide_eq_false_iff_not]
    omega
  rw [hL]
  cases hle : letterB (bt s 0) with
  | false =>
    rw [hle, Bool.false_and, hwr] at hwl
    subst hwl
    refine W_if_t rfl ?_
    refine W_piece fun K2 hK2 hX2 => ?_
    simp +contextual (maxSteps := 2000000) (disch := first | omega | (simp only [SZ]; first | done | omega) | (simp only [TS] at *; omega)) only [RZ, ovw, oneC, reduceAdd, reduceMul, reduceSub, reduceEqDiff, reduceLT, ↓reduceIte, Int.reduceToNat, reduceLeDiff]
    refine hK2 _ _ ?_
    rw [W_ret]
    refine hX _ _ _ (fun h => by cases h) ?_
    simp +contextual (maxSteps := 2000000) (disch := first | omega | (simp only [SZ]; first | done | omega) | (simp only [TS] at *; omega)) only [RZ, ovw, oneC, reduceAdd, reduceMul, reduceSub, reduceEqDiff, reduceLT, ↓reduceIte, Int.reduceToNat, reduceLeDiff]
  | true =>
    rw [hle, Bool.true_and, hwr] at hwl
    refine W_if_f rfl ?_
    rw [W_skip]
    refine hK _ _ ?_
    clear hK hX K
    refine W_cutS (fun σ w' => w' = w ∧ (bs s).all wordB = true) ?_ ?_
    · rintro σ w' ⟨rfl, hall⟩
      rw [hall] at hwl
      subst hwl
      simp +contextual (maxSteps := 2000000) (disch := first | omega | (simp only [SZ]; first | done | omega) | (simp only [TS] at *; omega)) only [RZ, ovw, oneC, reduceAdd, reduceMul, reduceSub, reduceEqDiff, reduceLT, ↓reduceIte, Int.reduceToNat, reduceLeDiff]
    refine W_piece fun K hK hX => ?_
    simp +contextual (maxSteps := 2000000) (disch := first | omega | (simp only [SZ]; first | done | omega) | (simp only [TS] at *; omega)) only [RZ, ovw, oneC, reduceAdd, reduceMul, reduceSub, reduceEqDiff, reduceLT, ↓reduceIte, Int.reduceToNat, reduceLeDiff]
    refine hK _ _ ?_
    clear hK hX K
    rw [W_block, W_loop]
    refine Raw_loop (fun σ w' => w' = w ∧ ∃ k : Nat, k ≤ s.size ∧ (∀ j, j < k → wordB (bt s j) = true) ∧ σ 0 = .string s ∧ σ 18 = .int .i64 s.size ∧ σ 19 = .int .i64 k) (fun σ _ => s.size - (intOf (σ 19)).toNat) ?_ ?_
    · exact ⟨rfl, 0, Nat.zero_le _, fun j hj => absurd hj (Nat.not_lt_zero _), rfl, rfl, rfl⟩
    rintro σ w' ⟨rfl, k, hk, hal, f0, f18, f19⟩ K hK
    simp +contextual (maxSteps := 2000000) (disch := first | omega | (simp only [SZ]; first | done | omega) | (simp only [TS] at *; omega)) only [RZ, ovw, oneC, reduceAdd, reduceMul, reduceSub, reduceEqDiff, reduceLT, ↓reduceIte, Int.reduceToNat, reduceLeDiff,  f0, f18, f19]
    (refine W_if rfl (fun hc => ?_) (fun hc => ?_) <;> (try simp only [TS] at hc))
    · have hkl : k < s.size := by omega
      have hW : (((decide ((bt s k : Int) < 97) || decide (122 < (bt s k : Int))) && (decide ((bt s k : Int) < 48) || decide (57 < (bt s k : Int)))) && !decide ((bt s k : Int) = 45)) = !wordB (bt s k) := by
        rw [Bool.eq_iff_iff]
        unfold wordB letterB digitB
        simp only [Bool.or_eq_true, Bool.and_eq_true, decide_eq_true_eq, Bool.not_eq_true', Bool.or_eq_false_iff, Bool.and_eq_false_iff, decide_eq_false_iff_not, beq_eq_false_iff_ne, Int.toNat_natCast]
        omega
      rw [W_skip, thenX_normal]
      refine W_piece fun K1 hK1 hX1 => ?_
      rw [W_block]
      refine W_piece fun K2 hK2 hX2 => ?_
      simp +contextual (maxSteps := 2000000) (disch := first | omega | (simp only [SZ]; first | done | omega) | (simp only [TS] at *; omega)) only [RZ, ovw, oneC, reduceAdd, reduceMul, reduceSub, reduceEqDiff, reduceLT, ↓reduceIte, Int.reduceToNat, reduceLeDiff,  f0, f18, f19]
      refine hK2 _ _ ?_
      clear hK2 hX2 K2
      refine W_piece fun K2 hK2 hX2 => ?_
      simp +contextual (maxSteps := 2000000) (disch := first | omega | (simp only [SZ]; first | done | omega) | (simp only [TS] at *; omega)) only [RZ, ovw, oneC, reduceAdd, reduceMul, reduceSub, reduceEqDiff, reduceLT, ↓reduceIte, Int.reduceToNat, reduceLeDiff,  f0, f18, f19, Int.toNat_natCast]
      refine hK2 _ _ ?_
      clear hK2 hX2 K2
      refine W_piece fun K2 hK2 hX2 => ?_
      simp +contextual (maxSteps := 2000000) (disch := first | omega | (simp only [SZ]; first | done | omega) | (simp only [TS] at *; omega)) only [RZ, ovw, oneC, reduceAdd, reduceMul, reduceSub, reduceEqDiff, reduceLT, ↓reduceIte, Int.reduceToNat, reduceLeDiff,  f0, f18, f19]
      refine hK2 _ _ ?_
      clear hK2 hX2 K2
      rw [hW]
      cases hwk : wordB (bt s k) with
      | false =>
        refine W_if_t rfl ?_
        refine W_piece fun K2 hK2 hX2 => ?_
        simp +contextual (maxSteps := 2000000) (disch := first | omega | (simp only [SZ]; first | done | omega) | (simp only [TS] at *; omega)) only [RZ, ovw, oneC, reduceAdd, reduceMul, reduceSub, reduceEqDiff, reduceLT, ↓reduceIte, Int.reduceToNat, reduceLeDiff]
        refine hK2 _ _ ?_
        rw [W_ret]
        clear hK2 hX2
        rw [inX_ret]
        refine hX1 _ _ _ (fun h => by cases h) ?_
        have hall : (bs s).all wordB = false := by
          rw [Bool.eq_false_iff]
          intro e
          have := List.all_eq_true.1 e _ (List.mem_of_getElem? (bs_get hkl))
          rw [hwk] at this
          cases this
        rw [hall] at hwl
        subst hwl
        simp +contextual (maxSteps := 2000000) (disch := first | omega | (simp only [SZ]; first | done | omega) | (simp only [TS] at *; omega)) only [RZ, ovw, oneC, reduceAdd, reduceMul, reduceSub, reduceEqDiff, reduceLT, ↓reduceIte, Int.reduceToNat, reduceLeDiff]
      | true =>
        refine W_if_f rfl ?_
        rw [W_skip, inX_normal]
        refine hK1 _ _ ?_
        clear hK1 hX1 K1
        simp +contextual (maxSteps := 2000000) (disch := first | omega | (simp only [SZ]; first | done | omega) | (simp only [TS] at *; omega)) only [RZ, ovw, oneC, reduceAdd, reduceMul, reduceSub, reduceEqDiff, reduceLT, ↓reduceIte, Int.reduceToNat, reduceLeDiff,  f0, f18, f19]
        refine hK _ _ ⟨rfl, k + 1, by omega, fun j hj => ?_, ?_⟩ ?_
        · by_cases hjk : j = k
          · rw [hjk]; exact hwk
          · exact hal j (by omega)
        · simp +contextual (maxSteps := 2000000) (disch := first | omega | (simp only [SZ]; first | done | omega) | (simp only [TS] at *; omega)) only [RZ, ovw, oneC, reduceAdd, reduceMul, reduceSub, reduceEqDiff, reduceLT, ↓reduceIte, Int.reduceToNat, reduceLeDiff,  f0, f18, f19]
        · simp +contextual (maxSteps := 2000000) (disch := first | omega | (simp only [SZ]; first | done | omega) | (simp only [TS] at *; omega)) only [RZ, ovw, oneC, reduceAdd, reduceMul, reduceSub, reduceEqDiff, reduceLT, ↓reduceIte, Int.reduceToNat, reduceLeDiff,  intOf, f19]
          omega
    · have hkz : k = s.size := by omega
      subst hkz
      simp +contextual (maxSteps := 2000000) (disch := first | omega | (simp only [SZ]; first | done | omega) | (simp only [TS] at *; omega)) only [RZ, ovw, oneC, reduceAdd, reduceMul, reduceSub, reduceEqDiff, reduceLT, ↓reduceIte, Int.reduceToNat, reduceLeDiff,  f0, f18, f19]
      rw [List.all_eq_true]
      intro c hc
      obtain ⟨j, hj⟩ := List.mem_iff_getElem?.1 hc
      have hjl : j < s.size := by have := (List.getElem?_eq_some_iff.1 hj).1; rwa [bs_len] at this
      rw [bs_get hjl] at hj
      injection hj with hj
      rw [← hj]
      exact hal j hjl
section
variable {g : Nat} {w : World} {p : Pr}
theorem pbName_any (h : PbIn g w p) (s : ByteArray) (hlen : p.X.length + s.size ≤ 800000000) : Calls Tryd.prog 14 #[.pointer (some ⟨g, 0, none⟩), .string s] w fun e w' => e = .returned (.tuple #[]) ∧ PbIn g w' (p.nm s) ∧ KB g w w' := by
  refine calls_W (l := [_, _]) Tryd.func14 rfl _ Tryd.ntmps14 (by simp) ?_
  generalize hr : p.nm s = r
  unfold Pr.nm at hr
  refine W_piece fun K hK hX => ?_
  simp +contextual (maxSteps := 2000000) (disch := first | omega | (simp only [SZ]; first | done | omega) | (simp only [TS] at *; omega)) only [RZ, ovw, oneC, reduceAdd, reduceMul, reduceSub, reduceEqDiff, reduceLT, ↓reduceIte, Int.reduceToNat, reduceLeDiff]
  refine (isWord_any s w (by omega)).mono ?_
  rintro e w1 ⟨rfl, rfl⟩
  refine ⟨_, rfl, ?_⟩
  try simp +contextual (maxSteps := 2000000) (disch := first | omega | (simp only [SZ]; first | done | omega) | (simp only [TS] at *; omega)) only [RZ, ovw, oneC, reduceAdd, reduceMul, reduceSub, reduceEqDiff, reduceLT, ↓reduceIte, Int.reduceToNat, reduceLeDiff]
  refine (pbRequire_any h _).mono ?_
  rintro e w2 ⟨rfl, h2, k2⟩
  refine ⟨_, rfl, ?_⟩
  try simp +contextual (maxSteps := 2000000) (disch := first | omega | (simp only [SZ]; first | done | omega) | (simp only [TS] at *; omega)) only [RZ, ovw, oneC, reduceAdd, reduceMul, reduceSub, reduceEqDiff, reduceLT, ↓reduceIte, Int.reduceToNat, reduceLeDiff]
  refine hK _ _ ?_
  clear hK hX K
  obtain ⟨q, A2, c2, h2i⟩ := id h2
  have d2 := h2i.row.cell (i := 2) rfl
  refine W_piece fun K hK hX => ?_
  simp +contextual (maxSteps := 2000000) (disch := first | omega | (simp only [SZ]; first | done | omega) | (simp only [TS] at *; omega)) only [RZ, ovw, oneC, reduceAdd, reduceMul, reduceSub, reduceEqDiff, reduceLT, ↓reduceIte, Int.reduceToNat, reduceLeDiff,  d2]
  refine hK _ _ ?_
  clear hK hX K
  cases hbd : (p.req (wordL (bs s))).bad with
  | true =>
    rw [if_pos hbd] at hr
    subst hr
    refine W_if_f rfl ?_
    simp +contextual (maxSteps := 2000000) (disch := first | omega | (simp only [SZ]; first | done | omega) | (simp only [TS] at *; omega)) only [RZ, ovw, oneC, reduceAdd, reduceMul, reduceSub, reduceEqDiff, reduceLT, ↓reduceIte, Int.reduceToNat, reduceLeDiff]
    exact ⟨h2, k2⟩
  | false =>
    rw [if_neg (by rw [hbd]; simp)] at hr
    subst hr
    refine W_if_t rfl ?_
    simp +contextual (maxSteps := 2000000) (disch := first | omega | (simp only [SZ]; first | done | omega) | (simp only [TS] at *; omega)) only [RZ, ovw, oneC, reduceAdd, reduceMul, reduceSub, reduceEqDiff, reduceLT, ↓reduceIte, Int.reduceToNat, reduceLeDiff]
    have hl1 := ws_len (p.req (wordL (bs s))) ([s].map bs)
    rw [show (p.req (wordL (bs s))).X.length = p.X.length from rfl] at hl1
    simp only [List.map_cons, List.map_nil, List.flatMap_cons, List.flatMap_nil, List.append_nil, List.length_cons, List.length_nil, bs_len] at hl1
    refine (pbWords_any h2 [s] (by simp) (by simp only [List.map_cons, List.map_nil]; omega)).mono ?_
    rintro e w3 ⟨rfl, h3, k3⟩
    refine ⟨_, rfl, ?_⟩
    try simp +contextual (maxSteps := 2000000) (disch := first | omega | (simp only [SZ]; first | done | omega) | (simp only [TS] at *; omega)) only [RZ, ovw, oneC, reduceAdd, reduceMul, reduceSub, reduceEqDiff, reduceLT, ↓reduceIte, Int.reduceToNat, reduceLeDiff]
    exact ⟨h3, k2.trans k3⟩
/-- One number of a literal list. -/
theorem pbNums_any (h : PbIn g w p) (L : List Int) (hW : Laid w) (hg : 5 ≤ g) (hl : L.length ≤ 1000) (hlen : p.X.length ≤ 700000000) :
    Calls Tryd.prog 35 #[.pointer (some ⟨g, 0, none⟩), .slice (some ⟨w.heap.size, 0, none⟩) L.length L.length] (w.alloc (.cells (iW L).toArray 3)) fun e w' => e = .returned (.tuple #[]) ∧ PbIn g w' (p.nums L) ∧ KB g w w' := by
  have hlt := h.lt
  have hR := Row.new w 3 (iW L)
  have e1 : ∀ L : List Int, (L.map fun n => [Value.int .i64 n]).flatten = iW L := fun L => by
    induction L with
    | nil => rfl
    | cons s r ih => rw [List.map_cons, List.flatten_cons, ih]; rfl
  refine (pbNumbers_any (L := L) (h.alloc _) (arr_new (by rw [e1 L]; exact hR) (by omega) (by decide) (fun v hv => by obtain ⟨s, _, rfl⟩ := List.mem_map.1 hv; rfl)) (hW.below (below_alloc w _) hW.size) hg (by omega) hlen).mono ?_
  rintro e w' ⟨h1, h2, h3⟩
  exact ⟨h1, h2, ((KB.refl g w).alloc (by omega) _).trans h3⟩
theorem pbOption_any (h : PbIn g w p) (s : ByteArray) (n std : Int) (hW : Laid w) (hg : 5 ≤ g) (hs : s.size ≤ 100) (hlen : p.X.length ≤ 600000000) : Calls Tryd.prog 17 #[.pointer (some ⟨g, 0, none⟩), .string s, .int .i64 n, .int .i64 std] w fun e w' =>
    e = .returned (.tuple #[]) ∧ PbIn g w' (p.opt (bs s) n std) ∧ KB g w w' := by
  refine calls_W (l := [_, _, _, _]) Tryd.func17 rfl _ Tryd.ntmps17 (by simp) ?_
  generalize hr : p.opt (bs s) n std = r
  unfold Pr.opt at hr
  refine W_piece fun K hK hX => ?_
  simp +contextual (maxSteps := 2000000) (disch := first | omega | (simp only [SZ]; first | done | omega) | (simp only [TS] at *; omega)) only [RZ, ovw, oneC, reduceAdd, reduceMul, reduceSub, reduceEqDiff, reduceLT, ↓reduceIte, Int.reduceToNat, reduceLeDiff]
  refine hK _ _ ?_
  clear hK hX K
  by_cases hns : n = std
  · rw [if_pos hns] at hr
    subst hr
    have e1 : decide (n = std) = true := by simpa using hns
    rw [e1]
    refine W_if_f rfl ?_
    simp +contextual (maxSteps := 2000000) (disch := first | omega | (simp only [SZ]; first | done | omega) | (simp only [TS] at *; omega)) only [RZ, ovw, oneC, reduceAdd, reduceMul, reduceSub, reduceEqDiff, reduceLT, ↓reduceIte, Int.reduceToNat, reduceLeDiff]
    exact ⟨h, KB.refl _ _⟩
  · rw [if_neg hns] at hr
    subst hr
    have e1 : decide (n = std) = false := by simpa using hns
    rw [e1]
    refine W_if_t rfl ?_
    refine W_piece fun K hK hX => ?_
    simp +contextual (maxSteps := 2000000) (disch := first | omega | (simp only [SZ]; first | done | omega) | (simp only [TS] at *; omega)) only [RZ, ovw, oneC, reduceAdd, reduceMul, reduceSub, reduceEqDiff, reduceLT, ↓reduceIte, Int.reduceToNat, reduceLeDiff]
    refine (pbBegin_any h s (by omega)).mono ?_
    rintro e w1 ⟨rfl, h1, k1⟩
    refine ⟨_, rfl, ?_⟩
    try simp +contextual (maxSteps := 2000000) (disch := first | omega | (simp only [SZ]; first | done | omega) | (simp only [TS] at *; omega)) only [RZ, ovw, oneC, reduceAdd, reduceMul, reduceSub, reduceEqDiff, reduceLT, ↓reduceIte, Int.reduceToNat, reduceLeDiff]
    refine hK _ _ ?_
    clear hK hX K
    have b1 : (p.begin (bs s)).X.length = p.X.length + (2 + s.size) := by
      unfold Pr.begin
      rw [ws_len, add_len]
      simp [bs_len]; omega
    have hW1 := hW.kb k1 hg
    refine W_piece fun K hK hX => ?_
    simp +contextual (maxSteps := 2000000) (disch := first | omega | (simp only [SZ]; first | done | omega) | (simp only [TS] at *; omega)) only [RZ, ovw, oneC, reduceAdd, reduceMul, reduceSub, reduceEqDiff, reduceLT, ↓reduceIte, Int.reduceToNat, reduceLeDiff]
    refine (pbNums_any h1 [n] hW1 hg (by simp) (by omega)).mono ?_
    rintro e w2 ⟨rfl, h2, k2⟩
    refine ⟨_, rfl, ?_⟩
    try simp +contextual (maxSteps := 2000000) (disch := first | omega | (simp only [SZ]; first | done | omega) | (simp only [TS] at *; omega)) only [RZ, ovw, oneC, reduceAdd, reduceMul, reduceSub, reduceEqDiff, reduceLT, ↓reduceIte, Int.reduceToNat, reduceLeDiff]
    refine hK _ _ ?_
    clear hK hX K
    have b2 := nums_max [n] (p.begin (bs s))
    simp +contextual (maxSteps := 2000000) (disch := first | omega | (simp only [SZ]; first | done | omega) | (simp only [TS] at *; omega)) only [RZ, ovw, oneC, reduceAdd, reduceMul, reduceSub, reduceEqDiff, reduceLT, ↓reduceIte, Int.reduceToNat, reduceLeDiff]
    refine (pbEnd_any h2 (by omega)).mono ?_
    rintro e w3 ⟨rfl, h3, k3⟩
    refine ⟨_, rfl, ?_⟩
    try simp +contextual (maxSteps := 2000000) (disch := first | omega | (simp only [SZ]; first | done | omega) | (simp only [TS] at *; omega)) only [RZ, ovw, oneC, reduceAdd, reduceMul, reduceSub, reduceEqDiff, reduceLT, ↓reduceIte, Int.reduceToNat, reduceLeDiff]
    exact ⟨h3, (k1.trans k2).trans k3⟩
theorem pbHits_any (h : PbIn g w p) (s : ByteArray) (n : Int) (hW : Laid w) (hg : 5 ≤ g) (hs : s.size ≤ 100) (hlen : p.X.length ≤ 600000000) : Calls Tryd.prog 37 #[.pointer (some ⟨g, 0, none⟩), .string s, .int .i64 n] w fun e w' =>
    e = .returned (.tuple #[]) ∧ PbIn g w' (p.hits (bs s) n) ∧ KB g w w' := by
  refine calls_W (l := [_, _, _]) Tryd.func37 rfl _ Tryd.ntmps37 (by simp) ?_
  generalize hr : p.hits (bs s) n = r
  unfold Pr.hits at hr
  refine W_piece fun K hK hX => ?_
  simp +contextual (maxSteps := 2000000) (disch := first | omega | (simp only [SZ]; first | done | omega) | (simp only [TS] at *; omega)) only [RZ, ovw, oneC, reduceAdd, reduceMul, reduceSub, reduceEqDiff, reduceLT, ↓reduceIte, Int.reduceToNat, reduceLeDiff]
  refine hK _ _ ?_
  clear hK hX K
  by_cases hns : n = 0
  · rw [if_pos hns] at hr
    subst hr
    have e1 : decide (n = 0) = true := by simpa using hns
    rw [e1]
    refine W_if_f rfl ?_
    simp +contextual (maxSteps := 2000000) (disch := first | omega | (simp only [SZ]; first | done | omega) | (simp only [TS] at *; omega)) only [RZ, ovw, oneC, reduceAdd, reduceMul, reduceSub, reduceEqDiff, reduceLT, ↓reduceIte, Int.reduceToNat, reduceLeDiff]
    exact ⟨h, KB.refl _ _⟩
  · rw [if_neg hns] at hr
    subst hr
    have e1 : decide (n = 0) = false := by simpa using hns
    rw [e1]
    refine W_if_t rfl ?_
    have hl1 := ws_len p ([s].map bs)
    simp only [List.map_cons, List.map_nil, List.flatMap_cons, List.flatMap_nil, List.append_nil, List.length_cons, List.length_nil, bs_len] at hl1
    refine W_piece fun K hK hX => ?_
    simp +contextual (maxSteps := 2000000) (disch := first | omega | (simp only [SZ]; first | done | omega) | (simp only [TS] at *; omega)) only [RZ, ovw, oneC, reduceAdd, reduceMul, reduceSub, reduceEqDiff, reduceLT, ↓reduceIte, Int.reduceToNat, reduceLeDiff]
    refine (pbWords_any h [s] (by simp) (by simp only [List.map_cons, List.map_nil]; omega)).mono ?_
    rintro e w1 ⟨rfl, h1, k1⟩
    refine ⟨_, rfl, ?_⟩
    try simp +contextual (maxSteps := 2000000) (disch := first | omega | (simp only [SZ]; first | done | omega) | (simp only [TS] at *; omega)) only [RZ, ovw, oneC, reduceAdd, reduceMul, reduceSub, reduceEqDiff, reduceLT, ↓reduceIte, Int.reduceToNat, reduceLeDiff]
    refine hK _ _ ?_
    clear hK hX K
    have hW1 := hW.kb k1 hg
    simp +contextual (maxSteps := 2000000) (disch := first | omega | (simp only [SZ]; first | done | omega) | (simp only [TS] at *; omega)) only [RZ, ovw, oneC, reduceAdd, reduceMul, reduceSub, reduceEqDiff, reduceLT, ↓reduceIte, Int.reduceToNat, reduceLeDiff]
    refine (pbNums_any h1 [n] hW1 hg (by simp) (by simp only [List.map_cons, List.map_nil]; omega)).mono ?_
    rintro e w2 ⟨rfl, h2, k2⟩
    refine ⟨_, rfl, ?_⟩
    try simp +contextual (maxSteps := 2000000) (disch := first | omega | (simp only [SZ]; first | done | omega) | (simp only [TS] at *; omega)) only [RZ, ovw, oneC, reduceAdd, reduceMul, reduceSub, reduceEqDiff, reduceLT, ↓reduceIte, Int.reduceToNat, reduceLeDiff]
    exact ⟨h2, k1.trans k2⟩
end
end Go.Proofs.YtbdkggnajipdhaaDoor
/- Walks: kinds of bytes, span, piece. -/
namespace Go.Proofs.YtbdkggnajipdhaaDoor
open Nat (reduceAdd reduceMul reduceSub reduceEqDiff reduceLT reduceLeDiff)
open Go.RowKit
set_option maxRecDepth 100000
def blankI (c : Int) : Bool := decide (c = 32) || decide (c = 9) || decide (c = 13) || decide (c = 10)
def letterI (c : Int) : Bool := decide (97 ≤ c) && decide (c ≤ 122)
def digitI (c : Int) : Bool := decide (48 ≤ c) && decide (c ≤ 57)
def wordI (c : Int) : Bool := letterI c || digitI c || decide (c = 45)
def remI (c : Int) : Bool := !decide (c = 10)
def markI (c : Int) : Bool := decide (c = 123) || decide (c = 125) || decide (c = 59) || decide (c = 58)
theorem isBlank_any (c : Int) (w : World) : Calls Tryd.prog 56 #[.int .i32 c] w fun e w' => e = .returned (.bool (blankI c)) ∧ w = w' := by
  refine calls_W (l := [_]) Tryd.func56 rfl _ Tryd.ntmps56 (by simp) ?_
  simp +contextual (maxSteps := 2000000) (disch := first | omega | (simp only [SZ]; first | done | omega) | (simp only [TS] at *; omega)) only [RZ, ovw, oneC, reduceAdd, reduceMul, reduceSub, reduceEqDiff, reduceLT, ↓reduceIte, Int.reduceToNat, reduceLeDiff]
  exact rfl
theorem isDigit_any (c : Int) (w : World) : Calls Tryd.prog 61 #[.int .i32 c] w fun e w' => e = .returned (.bool (digitI c)) ∧ w = w' := by
  refine calls_W (l := [_]) Tryd.func61 rfl _ Tryd.ntmps61 (by simp) ?_
  simp +contextual (maxSteps := 2000000) (disch := first | omega | (simp only [SZ]; first | done | omega) | (simp only [TS] at *; omega)) only [RZ, ovw, oneC, reduceAdd, reduceMul, reduceSub, reduceEqDiff, reduceLT, ↓reduceIte, Int.reduceToNat, reduceLeDiff]
  exact rfl
theorem isLetter_any (c : Int) (w : World) : Calls Tryd.prog 59 #[.int .i32 c] w fun e w' => e = .returned (.bool (letterI c)) ∧ w = w' := by
  refine calls_W (l := [_]) Tryd.func59 rfl _ Tryd.ntmps59 (by simp) ?_
  simp +contextual (maxSteps := 2000000) (disch := first | omega | (simp only [SZ]; first | done | omega) | (simp only [TS] at *; omega)) only [RZ, ovw, oneC, reduceAdd, reduceMul, reduceSub, reduceEqDiff, reduceLT, ↓reduceIte, Int.reduceToNat, reduceLeDiff]
  exact rfl
theorem inRemark_any (c : Int) (w : World) : Calls Tryd.prog 58 #[.int .i32 c] w fun e w' => e = .returned (.bool (remI c)) ∧ w = w' := by
  refine calls_W (l := [_]) Tryd.func58 rfl _ Tryd.ntmps58 (by simp) ?_
  simp +contextual (maxSteps := 2000000) (disch := first | omega | (simp only [SZ]; first | done | omega) | (simp only [TS] at *; omega)) only [RZ, ovw, oneC, reduceAdd, reduceMul, reduceSub, reduceEqDiff, reduceLT, ↓reduceIte, Int.reduceToNat, reduceLeDiff]
  exact rfl
theorem isMark_any (c : Int) (w : World) : Calls Tryd.prog 63 #[.int .i32 c] w fun e w' => e = .returned (.bool (markI c)) ∧ w = w' := by
  refine calls_W (l := [_]) Tryd.func63 rfl _ Tryd.ntmps63 (by simp) ?_
  simp +contextual (maxSteps := 2000000) (disch := first | omega | (simp only [SZ]; first | done | omega) | (simp only [TS] at *; omega)) only [RZ, ovw, oneC, reduceAdd, reduceMul, reduceSub, reduceEqDiff, reduceLT, ↓reduceIte, Int.reduceToNat, reduceLeDiff]
  exact rfl
theorem inWord_any (c : Int) (w : World) : Calls Tryd.prog 60 #[.int .i32 c] w fun e w' => e = .returned (.bool (wordI c)) ∧ w = w' := by
  refine calls_W (l := [_]) Tryd.func60 rfl _ Tryd.ntmps60 (by simp) ?_
  simp +contextual (maxSteps := 2000000) (disch := first | omega | (simp only [SZ]; first | done | omega) | (simp only [TS] at *; omega)) only [RZ, ovw, oneC, reduceAdd, reduceMul, reduceSub, reduceEqDiff, reduceLT, ↓reduceIte, Int.reduceToNat, reduceLeDiff]
  refine (isLetter_any c _).mono ?_
  rintro e w' ⟨rfl, rfl⟩
  refine ⟨_, rfl, ?_⟩
  simp +contextual (maxSteps := 2000000) (disch := first | omega | (simp only [SZ]; first | done | omega) | (simp only [TS] at *; omega)) only [RZ, ovw, oneC, reduceAdd, reduceMul, reduceSub, reduceEqDiff, reduceLT, ↓reduceIte, Int.reduceToNat, reduceLeDiff]
  refine GB_call (fun _ => isDigit_any c _) ?_
  simp +contextual (maxSteps := 2000000) (disch := first | omega | (simp only [SZ]; first | done | omega) | (simp only [TS] at *; omega)) only [RZ, ovw, oneC, reduceAdd, reduceMul, reduceSub, reduceEqDiff, reduceLT, ↓reduceIte, Int.reduceToNat, reduceLeDiff]
  exact rfl
theorem rblank_any (c : Int) (w : World) : Calls Tryd.prog 48 #[.int .u8 c] w fun e w' => e = .returned (.bool (blankI c)) ∧ w = w' := by
  refine calls_W (l := [_]) Tryd.func48 rfl _ Tryd.ntmps48 (by simp) ?_
  simp +contextual (maxSteps := 2000000) (disch := first | omega | (simp only [SZ]; first | done | omega) | (simp only [TS] at *; omega)) only [RZ, ovw, oneC, reduceAdd, reduceMul, reduceSub, reduceEqDiff, reduceLT, ↓reduceIte, Int.reduceToNat, reduceLeDiff]
  exact rfl
theorem rdigit_any (c : Int) (w : World) : Calls Tryd.prog 51 #[.int .u8 c] w fun e w' => e = .returned (.bool (digitI c)) ∧ w = w' := by
  refine calls_W (l := [_]) Tryd.func51 rfl _ Tryd.ntmps51 (by simp) ?_
  simp +contextual (maxSteps := 2000000) (disch := first | omega | (simp only [SZ]; first | done | omega) | (simp only [TS] at *; omega)) only [RZ, ovw, oneC, reduceAdd, reduceMul, reduceSub, reduceEqDiff, reduceLT, ↓reduceIte, Int.reduceToNat, reduceLeDiff]
  exact rfl
theorem rletter_any (c : Int) (w : World) : Calls Tryd.prog 50 #[.int .u8 c] w fun e w' => e = .returned (.bool (letterI c)) ∧ w = w' := by
  refine calls_W (l := [_]) Tryd.func50 rfl _ Tryd.ntmps50 (by simp) ?_
  simp +contextual (maxSteps := 2000000) (disch := first | omega | (simp only [SZ]; first | done | omega) | (simp only [TS] at *; omega)) only [RZ, ovw, oneC, reduceAdd, reduceMul, reduceSub, reduceEqDiff, reduceLT, ↓reduceIte, Int.reduceToNat, reduceLeDiff]
  exact rfl
theorem rmark_any (c : Int) (w : World) : Calls Tryd.prog 49 #[.int .u8 c] w fun e w' => e = .returned (.bool (markI c)) ∧ w = w' := by
  refine calls_W (l := [_]) Tryd.func49 rfl _ Tryd.ntmps49 (by simp) ?_
  simp +contextual (maxSteps := 2000000) (disch := first | omega | (simp only [SZ]; first | done | omega) | (simp only [TS] at *; omega)) only [RZ, ovw, oneC, reduceAdd, reduceMul, reduceSub, reduceEqDiff, reduceLT, ↓reduceIte, Int.reduceToNat, reduceLeDiff]
  exact rfl
theorem badNumber_any (s : ByteArray) (w : World) (hs : s.size ≤ 9223372036854775807) : Calls Tryd.prog 62 #[.string s] w fun e w' => e = .returned (.bool (badN s.size (bt s 0))) ∧ w = w' := by
  refine calls_W (l := [_]) Tryd.func62 rfl _ Tryd.ntmps62 (by simp) ?_
  simp +contextual (maxSteps := 2000000) (disch := first | omega | (simp only [SZ]; first | done | omega) | (simp only [TS] at *; omega)) only [RZ, ovw, oneC, reduceAdd, reduceMul, reduceSub, reduceEqDiff, reduceLT, ↓reduceIte, Int.reduceToNat, reduceLeDiff]
  refine ret_bool ?_
  unfold badN
  rw [Bool.eq_iff_iff]
  simp only [Bool.or_eq_true, Bool.and_eq_true, decide_eq_true_eq, beq_iff_eq]
  omega
theorem blankIB (c : Nat) : blankI c = blankB c := by
  unfold blankI blankB; rw [Bool.eq_iff_iff]; simp only [Bool.or_eq_true, Bool.and_eq_true, decide_eq_true_eq, beq_iff_eq]; omega
theorem letterIB (c : Nat) : letterI c = letterB c := by
  unfold letterI letterB; rw [Bool.eq_iff_iff]; simp only [Bool.or_eq_true, Bool.and_eq_true, decide_eq_true_eq, beq_iff_eq]; omega
theorem digitIB (c : Nat) : digitI c = digitB c := by
  unfold digitI digitB; rw [Bool.eq_iff_iff]; simp only [Bool.or_eq_true, Bool.and_eq_true, decide_eq_true_eq, beq_iff_eq]; omega
theorem wordIB (c : Nat) : wordI c = wordB c := by
  have e : decide ((c : Int) = 45) = (c == 45) := by rw [Bool.eq_iff_iff]; simp only [decide_eq_true_eq, beq_iff_eq]; omega
  unfold wordI wordB; rw [letterIB, digitIB, e]
theorem remIB (c : Nat) : remI c = remB c := by
  unfold remI remB; rw [Bool.eq_iff_iff]; simp only [Bool.not_eq_true', decide_eq_false_iff_not, beq_eq_false_iff_ne, ne_eq]; omega
theorem markIB (c : Nat) : markI c = markB c := by
  unfold markI markB; rw [Bool.eq_iff_iff]; simp only [Bool.or_eq_true, Bool.and_eq_true, decide_eq_true_eq, beq_iff_eq]; omega
/-- A rune at a place: its bytes. -/
theorem get_bt {s : ByteArray} {i : Nat} (h : i < s.size) : (s.get! i).toNat = bt s i := by
  unfold bt
  have : s.get! i = s.data.toList.getD i 0 := by
    show s.data[i]! = _
    have h' : i < s.data.size := h
    rw [getElem!_pos s.data i h', List.getD_eq_getElem?_getD, List.getElem?_eq_getElem (by simpa using h')]
    simp
  rw [this]
theorem decode_lo {s : ByteArray} {i : Nat} (h : i < s.size) (hb : bt s i < 128) : Utf8.decode s i = (bt s i, 1) := by
  have e := get_bt h
  unfold Utf8.decode
  simp only [Nat.add_zero, e]
  rw [if_pos hb]
theorem decode_hi {s : ByteArray} {i : Nat} (h : i < s.size) (hb : 128 ≤ bt s i) : 128 ≤ (Utf8.decode s i).1 ∧ 1 ≤ (Utf8.decode s i).2 ∧ i + (Utf8.decode s i).2 ≤ s.size ∧ ∀ j, j < (Utf8.decode s i).2 → 128 ≤ bt s (i + j) := by
  have e := get_bt h
  have c : ∀ k, (decide (i + k < s.size) && (s.get! (i + k)).toNat / 64 == 2) = true → i + k < s.size ∧ 128 ≤ bt s (i + k) := by
    intro k hk
    rw [Bool.and_eq_true, decide_eq_true_eq, beq_iff_eq] at hk
    rw [get_bt hk.1] at hk
    exact ⟨hk.1, by omega⟩
  have one : ∀ j, j < 1 → 128 ≤ bt s (i + j) := by
    intro j hj
    obtain rfl : j = 0 := by omega
    exact hb
  unfold Utf8.decode Utf8.runeError
  simp only [Nat.add_zero, e]
  rw [if_neg (by omega)]
  split
  · rename_i h1
    rw [Bool.and_eq_true] at h1
    have c1 := c 1 h1.2
    split
    · refine ⟨by simp only; omega, by simp, by simp only; omega, fun j hj => ?_⟩
      simp only at hj
      match j, hj with
      | 0, _ => exact hb
      | 1, _ => exact c1.2
    · exact ⟨by simp, by simp, by simp only; omega, one⟩
  split
  · rename_i h1
    rw [Bool.and_eq_true, Bool.and_eq_true] at h1
    have c1 := c 1 h1.1.2
    have c2 := c 2 h1.2
    split
    · rename_i h2
      rw [Bool.and_eq_true, decide_eq_true_eq] at h2
      refine ⟨by simp only; omega, by simp, by simp only; omega, fun j hj => ?_⟩
      simp only at hj
      match j, hj with
      | 0, _ => exact hb
      | 1, _ => exact c1.2
      | 2, _ => exact c2.2
    · exact ⟨by simp, by simp, by simp only; omega, one⟩
  split
  · rename_i h1
    rw [Bool.and_eq_true, Bool.and_eq_true, Bool.and_eq_true] at h1
    have c1 := c 1 h1.1.1.2
    have c2 := c 2 h1.1.2
    have c3 := c 3 h1.2
    split
    · rename_i h2
      rw [Bool.and_eq_true, decide_eq_true_eq] at h2
      refine ⟨by simp only; omega, by simp, by simp only; omega, fun j hj => ?_⟩
      simp only at hj
      match j, hj with
      | 0, _ => exact hb
      | 1, _ => exact c1.2
      | 2, _ => exact c2.2
      | 3, _ => exact c3.2
    · exact ⟨by simp, by simp, by simp only; omega, one⟩
  exact ⟨by simp, by simp, by simp only; omega, one⟩
theorem decode_top (s : ByteArray) (i : Nat) : (Utf8.decode s i).1 ≤ 1114111 := by
  have hb := UInt8.toNat_lt (s.get! i)
  have hb' : (s.get! (i + 0)).toNat < 256 := by rw [Nat.add_zero]; exact hb
  unfold Utf8.decode Utf8.runeError
  simp only
  repeat' split
  all_goals first
    | (simp only; omega)
    | (rename_i h; simp only [Utf8.valid, Bool.and_eq_true, Bool.or_eq_true, decide_eq_true_eq] at h; simp only; omega)
def iterPos (w : World) (g : Nat) : Nat := match w.heap[g]? with
  | some (.stringIter _ p) => p
  | _ => 0
theorem span_any (s : ByteArray) (f : FuncId) (p : Int → Bool) (q : Nat → Bool) (hi : Bool) (w : World) (hs : s.size ≤ 9223372036854775807) (hb : bodyB Tryd.prog f = true)
    (hf : ∀ c w, Calls Tryd.prog f #[.int .i32 c] w fun e w' => e = .returned (.bool (p c)) ∧ w = w')
    (h1 : ∀ c : Nat, p c = q c) (h2 : ∀ c : Nat, 128 ≤ c → q c = hi) :
    Calls Tryd.prog 57 #[.string s, .func (.func f) #[] #[]] w fun e w' => e = .returned (.int .i64 (spn q (bs s))) ∧ Below w.heap.size w w' := by
  refine calls_W (l := [_, _]) Tryd.func57 rfl _ Tryd.ntmps57 (by simp) ?_
  simp +contextual (maxSteps := 2000000) (disch := first | omega | (simp only [SZ]; first | done | omega) | (simp only [TS] at *; omega)) only [RZ, ovw, oneC, reduceAdd, reduceMul, reduceSub, reduceEqDiff, reduceLT, ↓reduceIte, Int.reduceToNat, reduceLeDiff]
  refine Raw_loop (fun σ w' => Below w.heap.size w w' ∧ w.heap.size < w'.heap.size ∧ σ 0 = .string s ∧ σ 1 = .func (.func f) #[] #[] ∧ σ 8 = .pointer (some ⟨w.heap.size, 0, none⟩) ∧ ∃ pos, pos ≤ s.size ∧ w'.heap[w.heap.size]? = some (.stringIter s pos) ∧ ∀ j, j < pos → q (bt s j) = true)
    (fun _ w' => s.size - iterPos w' w.heap.size) ?_ ?_
  · simp +contextual (maxSteps := 2000000) (disch := first | omega | (simp only [SZ]; first | done | omega) | (simp only [TS] at *; omega)) only [RZ, ovw, oneC, reduceAdd, reduceMul, reduceSub, reduceEqDiff, reduceLT, ↓reduceIte, Int.reduceToNat, reduceLeDiff]
    exact ⟨below_alloc _ _, by simp, 0, Nat.zero_le _, heap_alloc_new _ _, fun j h => absurd h (Nat.not_lt_zero _)⟩
  rintro σ w' ⟨hB, hsz, e0, e1, e8, pos, hp, hit, hq⟩ K hK
  by_cases hps : pos < s.size
  · have hn := vNext_some (P := Tryd.prog) (ty := 0) hit hps
    have hdec : (Utf8.decode s pos).1 ≤ 1114111 ∧ 1 ≤ (Utf8.decode s pos).2 ∧ pos + (Utf8.decode s pos).2 ≤ s.size ∧ (p (Utf8.decode s pos).1 = q (bt s pos)) ∧ ∀ j, j < (Utf8.decode s pos).2 → q (bt s (pos + j)) = q (bt s pos) := by
      by_cases hlo : bt s pos < 128
      · rw [decode_lo hps hlo]
        refine ⟨by simp only; omega, Nat.le_refl _, hps, h1 _, fun j hj => ?_⟩
        obtain rfl : j = 0 := by simp only at hj; omega
        rfl
      · obtain ⟨d1, d2, d3, d4⟩ := decode_hi hps (by omega)
        refine ⟨decode_top s pos, d2, d3, ?_, fun j hj => ?_⟩
        · rw [h1, h2 _ d1, h2 _ (by omega)]
        · rw [h2 _ (d4 j hj), h2 _ (by omega)]
    obtain ⟨hd0, hd1, hd2, hd3, hd4⟩ := hdec
    generalize Utf8.decode s pos = cd at *
    have hb2 : Below w.heap.size w (setO w' w.heap.size (.stringIter s (pos + cd.2))) := setO_below hB (Nat.le_refl _) _
    have hi2 : (setO w' w.heap.size (.stringIter s (pos + cd.2))).heap[w.heap.size]? = some (.stringIter s (pos + cd.2)) := setO_at _ hsz
    have hs2 : w.heap.size < (setO w' w.heap.size (.stringIter s (pos + cd.2))).heap.size := by rw [setO_size]; exact hsz
    have hmu : iterPos w' w.heap.size = pos := by unfold iterPos; rw [hit]
    simp +contextual (maxSteps := 2000000) (disch := first | omega | (simp only [SZ]; first | done | omega) | (simp only [TS] at *; omega)) only [RZ, ovw, oneC, reduceAdd, reduceMul, reduceSub, reduceEqDiff, reduceLT, ↓reduceIte, Int.reduceToNat, reduceLeDiff,  e0, e1, e8, hn]
    generalize setO w' w.heap.size (.stringIter s (pos + cd.2)) = w2 at *
    have hmu2 : iterPos w2 w.heap.size = pos + cd.2 := by unfold iterPos; rw [hi2]
    refine W_if_t rfl ?_
    simp +contextual (maxSteps := 2000000) (disch := first | omega | (simp only [SZ]; first | done | omega) | (simp only [TS] at *; omega)) only [RZ, ovw, oneC, reduceAdd, reduceMul, reduceSub, reduceEqDiff, reduceLT, ↓reduceIte, Int.reduceToNat, reduceLeDiff,  e0, e1, e8, hb]
    refine (hf _ _).mono ?_
    rintro e w3 ⟨rfl, rfl⟩
    refine ⟨_, rfl, ?_⟩
    rw [hd3]
    simp +contextual (maxSteps := 2000000) (disch := first | omega | (simp only [SZ]; first | done | omega) | (simp only [TS] at *; omega)) only [RZ, ovw, oneC, reduceAdd, reduceMul, reduceSub, reduceEqDiff, reduceLT, ↓reduceIte, Int.reduceToNat, reduceLeDiff,  e0, e1, e8]
    (refine W_if rfl (fun hc => ?_) (fun hc => ?_) <;> (try simp only [TS] at hc))
    · simp +contextual (maxSteps := 2000000) (disch := first | omega | (simp only [SZ]; first | done | omega) | (simp only [TS] at *; omega)) only [RZ, ovw, oneC, reduceAdd, reduceMul, reduceSub, reduceEqDiff, reduceLT, ↓reduceIte, Int.reduceToNat, reduceLeDiff]
      refine ⟨?_, hb2⟩
      rw [show spn q (bs s) = pos from spn_is _ _ (fun j hj => ⟨_, bs_get (by omega), hq j hj⟩) (fun c hc' => by rw [bs_get hps] at hc'; injection hc' with hc'; rw [← hc']; exact hc)]
    · simp +contextual (maxSteps := 2000000) (disch := first | omega | (simp only [SZ]; first | done | omega) | (simp only [TS] at *; omega)) only [RZ, ovw, oneC, reduceAdd, reduceMul, reduceSub, reduceEqDiff, reduceLT, ↓reduceIte, Int.reduceToNat, reduceLeDiff]
      refine hK _ _ ⟨hb2, hs2, e0, e1, e8, pos + cd.2, hd2, hi2, fun j hj => ?_⟩ ?_
      · by_cases hj2 : j < pos
        · exact hq j hj2
        · have := hd4 (j - pos) (by omega)
          rw [show pos + (j - pos) = j from by omega] at this
          rw [this]; exact hc
      · rw [hmu, hmu2]; omega
  · have hn := vNext_end (P := Tryd.prog) (ty := 0) hit hps
    simp +contextual (maxSteps := 2000000) (disch := first | omega | (simp only [SZ]; first | done | omega) | (simp only [TS] at *; omega)) only [RZ, ovw, oneC, reduceAdd, reduceMul, reduceSub, reduceEqDiff, reduceLT, ↓reduceIte, Int.reduceToNat, reduceLeDiff,  e0, e1, e8, hn]
    refine W_if_f rfl ?_
    simp +contextual (maxSteps := 2000000) (disch := first | omega | (simp only [SZ]; first | done | omega) | (simp only [TS] at *; omega)) only [RZ, ovw, oneC, reduceAdd, reduceMul, reduceSub, reduceEqDiff, reduceLT, ↓reduceIte, Int.reduceToNat, reduceLeDiff,  e0]
    refine ⟨?_, hB⟩
    rw [show spn q (bs s) = s.size from spn_is _ _ (fun j hj => ⟨_, bs_get (by omega), hq j (by omega)⟩) (fun c hc' => by rw [List.getElem?_eq_none (by rw [bs_len]; omega)] at hc'; cases hc')]
end Go.Proofs.YtbdkggnajipdhaaDoor
/- Walks: piece. -/
namespace Go.Proofs.YtbdkggnajipdhaaDoor
open Nat (reduceAdd reduceMul reduceSub reduceEqDiff reduceLT reduceLeDiff)
open Go.RowKit
set_option maxRecDepth 100000
theorem span_blank (s : ByteArray) (w : World) (hs : s.size ≤ 9223372036854775807) : Calls Tryd.prog 57 #[.string s, .func (.func 56) #[] #[]] w fun e w' => e = .returned (.int .i64 (spn blankB (bs s))) ∧ Below w.heap.size w w' :=
  span_any s _ blankI blankB false w hs (by kernel_rfl) (fun c w => isBlank_any c w) blankIB (fun c h => by unfold blankB; simp only [Bool.or_eq_false_iff, beq_eq_false_iff_ne]; omega)
theorem span_word (s : ByteArray) (w : World) (hs : s.size ≤ 9223372036854775807) : Calls Tryd.prog 57 #[.string s, .func (.func 60) #[] #[]] w fun e w' => e = .returned (.int .i64 (spn wordB (bs s))) ∧ Below w.heap.size w w' :=
  span_any s _ wordI wordB false w hs (by kernel_rfl) (fun c w => inWord_any c w) wordIB (fun c h => by unfold wordB letterB digitB; simp only [Bool.or_eq_false_iff, Bool.and_eq_false_iff, decide_eq_false_iff_not, beq_eq_false_iff_ne]; omega)
theorem span_digit (s : ByteArray) (w : World) (hs : s.size ≤ 9223372036854775807) : Calls Tryd.prog 57 #[.string s, .func (.func 61) #[] #[]] w fun e w' => e = .returned (.int .i64 (spn digitB (bs s))) ∧ Below w.heap.size w w' :=
  span_any s _ digitI digitB false w hs (by kernel_rfl) (fun c w => isDigit_any c w) digitIB (fun c h => by unfold digitB; simp only [Bool.and_eq_false_iff, decide_eq_false_iff_not]; omega)
theorem span_remark (s : ByteArray) (w : World) (hs : s.size ≤ 9223372036854775807) : Calls Tryd.prog 57 #[.string s, .func (.func 58) #[] #[]] w fun e w' => e = .returned (.int .i64 (spn remB (bs s))) ∧ Below w.heap.size w w' :=
  span_any s _ remI remB true w hs (by kernel_rfl) (fun c w => inRemark_any c w) remIB (fun c h => by unfold remB; simp only [Bool.not_eq_true', beq_eq_false_iff_ne]; omega)
theorem piece_any (s : ByteArray) (w : World) (hs : s.size ≤ 9223372036854775807) (h0 : 0 < s.size) :
    Calls Tryd.prog 38 #[.string s] w fun e w' => e = .returned (.tuple #[.int .i64 (piece (bs s)).1, .int .i64 (piece (bs s)).2]) ∧ Below w.heap.size w w' := by
  refine calls_W (l := [_]) Tryd.func38 rfl _ Tryd.ntmps38 (by simp) ?_
  have hlt := bt_lt s 0
  obtain ⟨r, hr⟩ : ∃ r, bs s = bt s 0 :: r := by
    have h1 := bs_get h0
    cases hb : bs s with
    | nil => rw [hb] at h1; simp at h1
    | cons c r => rw [hb] at h1; simp only [List.getElem?_cons_zero, Option.some.injEq] at h1; exact ⟨r, by rw [h1]⟩
  have hle := spn_le digitB (bs s)
  rw [bs_len] at hle
  generalize hc0 : bt s 0 = c0 at *
  have hP : piece (bs s) = if blankB c0 then (0, spn blankB (bs s)) else if c0 = 35 then (0, spn remB (bs s)) else if letterB c0 then (1, spn wordB (bs s)) else if digitB c0 then (if badN (spn digitB (bs s)) c0 then (2, 0) else (2, spn digitB (bs s))) else if markB c0 then (3, 1) else (0, 0) := by rw [hr, piece]
  rw [hP]
  simp +contextual (maxSteps := 2000000) (disch := first | omega | (simp only [SZ]; first | done | omega) | (simp only [TS] at *; omega)) only [RZ, ovw, oneC, reduceAdd, reduceMul, reduceSub, reduceEqDiff, reduceLT, ↓reduceIte, Int.reduceToNat, reduceLeDiff,  hc0]
  refine (isBlank_any _ _).mono ?_
  rintro e w1 ⟨rfl, rfl⟩
  refine ⟨_, rfl, ?_⟩
  rw [blankIB]
  simp +contextual (maxSteps := 2000000) (disch := first | omega | (simp only [SZ]; first | done | omega) | (simp only [TS] at *; omega)) only [RZ, ovw, oneC, reduceAdd, reduceMul, reduceSub, reduceEqDiff, reduceLT, ↓reduceIte, Int.reduceToNat, reduceLeDiff]
  (refine W_if rfl (fun hc => ?_) (fun hc => ?_) <;> (try simp only [TS] at hc))
  · rw [if_pos hc]
    simp +contextual (maxSteps := 2000000) (disch := first | omega | (simp only [SZ]; first | done | omega) | (simp only [TS] at *; omega)) only [RZ, ovw, oneC, reduceAdd, reduceMul, reduceSub, reduceEqDiff, reduceLT, ↓reduceIte, Int.reduceToNat, reduceLeDiff]
    refine (span_blank s _ hs).mono ?_
    rintro e w2 ⟨rfl, hb⟩
    refine ⟨_, rfl, ?_⟩
    simp +contextual (maxSteps := 2000000) (disch := first | omega | (simp only [SZ]; first | done | omega) | (simp only [TS] at *; omega)) only [RZ, ovw, oneC, reduceAdd, reduceMul, reduceSub, reduceEqDiff, reduceLT, ↓reduceIte, Int.reduceToNat, reduceLeDiff]
    exact ⟨rfl, hb⟩
  rw [if_neg (by rw [hc]; simp)]
  clear hc
  simp +contextual (maxSteps := 2000000) (disch := first | omega | (simp only [SZ]; first | done | omega) | (simp only [TS] at *; omega)) only [RZ, ovw, oneC, reduceAdd, reduceMul, reduceSub, reduceEqDiff, reduceLT, ↓reduceIte, Int.reduceToNat, reduceLeDiff]
  (refine W_if rfl (fun hc => ?_) (fun hc => ?_) <;> (try simp only [TS] at hc))
  · rw [if_pos (by omega)]
    simp +contextual (maxSteps := 2000000) (disch := first | omega | (simp only [SZ]; first | done | omega) | (simp only [TS] at *; omega)) only [RZ, ovw, oneC, reduceAdd, reduceMul, reduceSub, reduceEqDiff, reduceLT, ↓reduceIte, Int.reduceToNat, reduceLeDiff]
    refine (span_remark s _ hs).mono ?_
    rintro e w2 ⟨rfl, hb⟩
    refine ⟨_, rfl, ?_⟩
    simp +contextual (maxSteps := 2000000) (disch := first | omega | (simp only [SZ]; first | done | omega) | (simp only [TS] at *; omega)) only [RZ, ovw, oneC, reduceAdd, reduceMul, reduceSub, reduceEqDiff, reduceLT, ↓reduceIte, Int.reduceToNat, reduceLeDiff]
    exact ⟨rfl, hb⟩
  rw [if_neg (by omega)]
  clear hc
  simp +contextual (maxSteps := 2000000) (disch := first | omega | (simp only [SZ]; first | done | omega) | (simp only [TS] at *; omega)) only [RZ, ovw, oneC, reduceAdd, reduceMul, reduceSub, reduceEqDiff, reduceLT, ↓reduceIte, Int.reduceToNat, reduceLeDiff]
  refine (isLetter_any _ _).mono ?_
  rintro e w1 ⟨rfl, rfl⟩
  refine ⟨_, rfl, ?_⟩
  rw [letterIB]
  simp +contextual (maxSteps := 2000000) (disch := first | omega | (simp only [SZ]; first | done | omega) | (simp only [TS] at *; omega)) only [RZ, ovw, oneC, reduceAdd, reduceMul, reduceSub, reduceEqDiff, reduceLT, ↓reduceIte, Int.reduceToNat, reduceLeDiff]
  (refine W_if rfl (fun hc => ?_) (fun hc => ?_) <;> (try simp only [TS] at hc))
  · rw [if_pos hc]
    simp +contextual (maxSteps := 2000000) (disch := first | omega | (simp only [SZ]; first | done | omega) | (simp only [TS] at *; omega)) only [RZ, ovw, oneC, reduceAdd, reduceMul, reduceSub, reduceEqDiff, reduceLT, ↓reduceIte, Int.reduceToNat, reduceLeDiff]
    refine (span_word s _ hs).mono ?_
    rintro e w2 ⟨rfl, hb⟩
    refine ⟨_, rfl, ?_⟩
    simp +contextual (maxSteps := 2000000) (disch := first | omega | (simp only [SZ]; first | done | omega) | (simp only [TS] at *; omega)) only [RZ, ovw, oneC, reduceAdd, reduceMul, reduceSub, reduceEqDiff, reduceLT, ↓reduceIte, Int.reduceToNat, reduceLeDiff]
    exact ⟨rfl, hb⟩
  rw [if_neg (by rw [hc]; simp)]
  clear hc
  simp +contextual (maxSteps := 2000000) (disch := first | omega | (simp only [SZ]; first | done | omega) | (simp only [TS] at *; omega)) only [RZ, ovw, oneC, reduceAdd, reduceMul, reduceSub, reduceEqDiff, reduceLT, ↓reduceIte, Int.reduceToNat, reduceLeDiff]
  refine (isDigit_any _ _).mono ?_
  rintro e w1 ⟨rfl, rfl⟩
  refine ⟨_, rfl, ?_⟩
  rw [digitIB]
  simp +contextual (maxSteps := 2000000) (disch := first | omega | (simp only [SZ]; first | done | omega) | (simp only [TS] at *; omega)) only [RZ, ovw, oneC, reduceAdd, reduceMul, reduceSub, reduceEqDiff, reduceLT, ↓reduceIte, Int.reduceToNat, reduceLeDiff]
  (refine W_if rfl (fun hc => ?_) (fun hc => ?_) <;> (try simp only [TS] at hc))
  · rw [if_pos hc]
    have hcd := hc
    clear hc
    simp +contextual (maxSteps := 2000000) (disch := first | omega | (simp only [SZ]; first | done | omega) | (simp only [TS] at *; omega)) only [RZ, ovw, oneC, reduceAdd, reduceMul, reduceSub, reduceEqDiff, reduceLT, ↓reduceIte, Int.reduceToNat, reduceLeDiff]
    refine (span_digit s _ hs).mono ?_
    rintro e w2 ⟨rfl, hb⟩
    refine ⟨_, rfl, ?_⟩
    have hn1 : 1 ≤ spn digitB (bs s) := by rw [hr]; exact spn_pos hcd
    have hsz : (s.extract 0 (spn digitB (bs s))).size = spn digitB (bs s) := by rw [← bs_len, bs_extract, List.length_take, List.drop_zero, bs_len]; omega
    have hbt : bt (s.extract 0 (spn digitB (bs s))) 0 = c0 := by
      rw [bt_bs, bs_extract, List.drop_zero, hr, List.getD_eq_getElem?_getD, List.getElem?_take_of_lt (by rw [← hr]; omega)]; rfl
    simp +contextual (maxSteps := 2000000) (disch := first | omega | (simp only [SZ]; first | done | omega) | (simp only [TS] at *; omega)) only [RZ, ovw, oneC, reduceAdd, reduceMul, reduceSub, reduceEqDiff, reduceLT, ↓reduceIte, Int.reduceToNat, reduceLeDiff]
    refine (badNumber_any _ _ (by rw [hsz]; omega)).mono ?_
    rintro e w3 ⟨rfl, rfl⟩
    refine ⟨_, rfl, ?_⟩
    rw [hsz, hbt]
    simp +contextual (maxSteps := 2000000) (disch := first | omega | (simp only [SZ]; first | done | omega) | (simp only [TS] at *; omega)) only [RZ, ovw, oneC, reduceAdd, reduceMul, reduceSub, reduceEqDiff, reduceLT, ↓reduceIte, Int.reduceToNat, reduceLeDiff]
    (refine W_if rfl (fun hc => ?_) (fun hc => ?_) <;> (try simp only [TS] at hc))
    · rw [if_pos hc]
      simp +contextual (maxSteps := 2000000) (disch := first | omega | (simp only [SZ]; first | done | omega) | (simp only [TS] at *; omega)) only [RZ, ovw, oneC, reduceAdd, reduceMul, reduceSub, reduceEqDiff, reduceLT, ↓reduceIte, Int.reduceToNat, reduceLeDiff]
      exact ⟨rfl, hb⟩
    · rw [if_neg (by rw [hc]; simp)]
      simp +contextual (maxSteps := 2000000) (disch := first | omega | (simp only [SZ]; first | done | omega) | (simp only [TS] at *; omega)) only [RZ, ovw, oneC, reduceAdd, reduceMul, reduceSub, reduceEqDiff, reduceLT, ↓reduceIte, Int.reduceToNat, reduceLeDiff]
      exact ⟨rfl, hb⟩
  rw [if_neg (by rw [hc]; simp)]
  clear hc
  simp +contextual (maxSteps := 2000000) (disch := first | omega | (simp only [SZ]; first | done | omega) | (simp only [TS] at *; omega)) only [RZ, ovw, oneC, reduceAdd, reduceMul, reduceSub, reduceEqDiff, reduceLT, ↓reduceIte, Int.reduceToNat, reduceLeDiff]
  refine (isMark_any _ _).mono ?_
  rintro e w1 ⟨rfl, rfl⟩
  refine ⟨_, rfl, ?_⟩
  rw [markIB]
  simp +contextual (maxSteps := 2000000) (disch := first | omega | (simp only [SZ]; first | done | omega) | (simp only [TS] at *; omega)) only [RZ, ovw, oneC, reduceAdd, reduceMul, reduceSub, reduceEqDiff, reduceLT, ↓reduceIte, Int.reduceToNat, reduceLeDiff]
  (refine W_if rfl (fun hc => ?_) (fun hc => ?_) <;> (try simp only [TS] at hc))
  · rw [if_pos hc]
    simp +contextual (maxSteps := 2000000) (disch := first | omega | (simp only [SZ]; first | done | omega) | (simp only [TS] at *; omega)) only [RZ, ovw, oneC, reduceAdd, reduceMul, reduceSub, reduceEqDiff, reduceLT, ↓reduceIte, Int.reduceToNat, reduceLeDiff]
    exact ⟨rfl, Below.refl _ _⟩
  rw [if_neg (by rw [hc]; simp)]
  simp +contextual (maxSteps := 2000000) (disch := first | omega | (simp only [SZ]; first | done | omega) | (simp only [TS] at *; omega)) only [RZ, ovw, oneC, reduceAdd, reduceMul, reduceSub, reduceEqDiff, reduceLT, ↓reduceIte, Int.reduceToNat, reduceLeDiff]
  exact ⟨rfl, Below.refl _ _⟩
end Go.Proofs.YtbdkggnajipdhaaDoor
/- Walk: lex.Scan. -/
namespace Go.Proofs.YtbdkggnajipdhaaDoor
open Nat (reduceAdd reduceMul reduceSub reduceEqDiff reduceLT reduceLeDiff)
open Go.RowKit
set_option maxRecDepth 100000
def encTk (t : Tk) : List Value := [.int .i64 t.kind, .int .i64 t.line, .int .i64 t.col, .string t.text]
/-- A list of tokens in memory that is nobody else's. -/
def TokIn (base : Nat) (w : World) (v : Value) (L : List Tk) : Prop := ∃ A c, v = .slice A L.length c ∧ w.ownsRow base 38 4 (.slice A L.length c) L.length (L.flatMap encTk)
theorem step1_bd {p : Int × Int} {c : Nat} (h : 1 ≤ p.1 ∧ 1 ≤ p.2) : 1 ≤ (step1 p c).1 ∧ (step1 p c).1 ≤ p.1 + 1 ∧ 1 ≤ (step1 p c).2 ∧ (step1 p c).2 ≤ p.2 + 1 := by
  unfold step1
  split <;> simp only <;> omega
theorem fold_bd : ∀ (b : List Nat) (p : Int × Int), 1 ≤ p.1 ∧ 1 ≤ p.2 → 1 ≤ (b.foldl step1 p).1 ∧ (b.foldl step1 p).1 ≤ p.1 + b.length ∧ 1 ≤ (b.foldl step1 p).2 ∧ (b.foldl step1 p).2 ≤ p.2 + b.length
  | [], p, h => by simp; omega
  | c :: r, p, h => by
    have h1 := step1_bd (c := c) h
    have h2 := fold_bd r (step1 p c) ⟨h1.1, h1.2.2.1⟩
    rw [List.foldl_cons, List.length_cons]
    omega
theorem place_bd (l : List Nat) : 1 ≤ (place l).1 ∧ (place l).1 ≤ l.length + 1 ∧ 1 ≤ (place l).2 ∧ (place l).2 ≤ l.length + 1 := by
  have := fold_bd l (1, 1) ⟨by decide, by decide⟩
  unfold place
  simp only at this
  omega
theorem take_piece (l : List Nat) (a n : Nat) : l.take (a + n) = l.take a ++ (l.drop a).take n := List.take_add
theorem count_bs (s : ByteArray) : Lib.countByte s.data.toList 10 = (bs s).count 10 := by
  unfold Lib.countByte bs
  induction s.data.toList with
  | nil => rfl
  | cons c r ih =>
    rw [List.map_cons, List.count_cons, List.count_cons, ih]
    congr 1
    by_cases h : c = 10
    · subst h; rfl
    · have h' : ¬ c.toNat = 10 := fun e => h (UInt8.toNat_inj.1 e)
      simp [h, h']
theorem data_bt {s : ByteArray} {j : Nat} (h : j < s.size) : (s.data[j]!).toNat = bt s j := get_bt h
theorem last_bs (s : ByteArray) : (Lib.lastIndexByte s 10 = -1 ∧ ∀ c ∈ bs s, c ≠ 10) ∨ (∃ i : Nat, i < s.size ∧ Lib.lastIndexByte s 10 = i ∧ (bs s)[i]? = some 10 ∧ ∀ j, i < j → (bs s)[j]? ≠ some 10) := by
  rcases Lib.lastIdx_spec s 10 s.size with ⟨h1, h2⟩ | ⟨i, hi, h1, h2, h3⟩
  · refine .inl ⟨h1, fun c hc e => ?_⟩
    subst e
    obtain ⟨j, hj⟩ := List.mem_iff_getElem?.1 hc
    have hjl := (List.getElem?_eq_some_iff.1 hj).1
    rw [bs_len] at hjl
    rw [bs_get hjl] at hj
    injection hj with hj
    exact h2 j hjl (by rw [data_bt hjl, hj]; rfl)
  · refine .inr ⟨i, hi, h1, ?_, fun j hij hj => ?_⟩
    · rw [bs_get hi]
      rw [data_bt hi] at h2
      congr 1
      omega
    · have hjl := (List.getElem?_eq_some_iff.1 hj).1
      rw [bs_len] at hjl
      rw [bs_get hjl] at hj
      injection hj with hj
      exact h3 j hij hjl (by rw [data_bt hjl, hj]; rfl)
theorem tok_len (D : List (Nat × Nat × Nat)) (s : ByteArray) : (D.map (tokOf s)).length = D.length := List.length_map ..
set_option maxHeartbeats 1000000 in
theorem scan_any (s : ByteArray) (w : World) (hs : s.size ≤ 1000000) :
    Calls Tryd.prog 23 #[.string s] w fun e w' => Below w.heap.size w w' ∧ ∃ v, e = .returned (.tuple #[v, .int .i64 (scanE s).1, .int .i64 (scanE s).2.1]) ∧ TokIn w.heap.size w' v (scanE s).2.2 := by
  refine calls_W (l := [_]) Tryd.func23 rfl _ Tryd.ntmps23 (by simp) ?_
  have hI : sliceI Tryd.prog 33 = some (38, 4, 40) := by kernel_rfl
  unfold scanE
  simp +contextual (maxSteps := 2000000) (disch := first | omega | (simp only [SZ]; first | done | omega) | (simp only [TS] at *; omega)) only [RZ, ovw, oneC, reduceAdd, reduceMul, reduceSub, reduceEqDiff, reduceLT, ↓reduceIte, Int.reduceToNat, reduceLeDiff]
  (refine W_if rfl (fun hc => ?_) (fun hc => ?_) <;> (try simp only [TS] at hc))
  · rw [if_pos (by omega)]
    simp +contextual (maxSteps := 2000000) (disch := first | omega | (simp only [SZ]; first | done | omega) | (simp only [TS] at *; omega)) only [RZ, ovw, oneC, reduceAdd, reduceMul, reduceSub, reduceEqDiff, reduceLT, ↓reduceIte, Int.reduceToNat, reduceLeDiff]
    exact ⟨Below.refl _ _, _, rfl, none, 0, rfl, owns_nil _ _ _ _⟩
  rw [if_neg (by omega)]
  clear hc
  simp +contextual (maxSteps := 2000000) (disch := first | omega | (simp only [SZ]; first | done | omega) | (simp only [TS] at *; omega)) only [RZ, ovw, oneC, reduceAdd, reduceMul, reduceSub, reduceEqDiff, reduceLT, ↓reduceIte, Int.reduceToNat, reduceLeDiff]
  generalize hR : lexR 0 (bs s) = R
  refine Raw_loop (fun σ w' => Below w.heap.size w w' ∧ ∃ (at_ : Nat) (D : List (Nat × Nat × Nat)) (A : Option Addr) (c : Nat), at_ ≤ s.size ∧ D.length ≤ at_ ∧ joinR D (lexR at_ ((bs s).drop at_)) = R ∧
      w'.ownsRow w.heap.size 38 4 (.slice A D.length c) D.length ((D.map (tokOf s)).flatMap encTk) ∧
      σ 0 = .string s ∧ σ 5 = .slice A D.length c ∧ σ 6 = .int .i64 (place ((bs s).take at_)).1 ∧ σ 7 = .int .i64 (at_ + 1 - (place ((bs s).take at_)).2) ∧ σ 8 = .int .i64 at_) (fun σ _ => s.size - (intOf (σ 8)).toNat) ?_ ?_
  · simp +contextual (maxSteps := 2000000) (disch := first | omega | (simp only [SZ]; first | done | omega) | (simp only [TS] at *; omega)) only [RZ, ovw, oneC, reduceAdd, reduceMul, reduceSub, reduceEqDiff, reduceLT, ↓reduceIte, Int.reduceToNat, reduceLeDiff]
    exact ⟨Below.refl _ _, 0, [], none, 0, Nat.zero_le _, Nat.le_refl _, by rw [List.drop_zero, hR]; cases R <;> rfl, owns_nil _ _ _ _, rfl, rfl, rfl, rfl⟩
  rintro σ w1 ⟨hB, at_, D, A, c, ha, hDa, hj, hown, e0, e5, e6, e7, e8⟩ K hK
  have hpb := place_bd ((bs s).take at_)
  rw [List.length_take, bs_len] at hpb
  simp +contextual (maxSteps := 2000000) (disch := first | omega | (simp only [SZ]; first | done | omega) | (simp only [TS] at *; omega)) only [RZ, ovw, oneC, reduceAdd, reduceMul, reduceSub, reduceEqDiff, reduceLT, ↓reduceIte, Int.reduceToNat, reduceLeDiff,  e0, e5, e6, e7, e8]
  (refine W_if rfl (fun hc => ?_) (fun hc => ?_) <;> (try simp only [TS] at hc))
  · have hal : at_ < s.size := by omega
    clear hc
    simp +contextual (maxSteps := 2000000) (disch := first | omega | (simp only [SZ]; first | done | omega) | (simp only [TS] at *; omega)) only [RZ, ovw, oneC, reduceAdd, reduceMul, reduceSub, reduceEqDiff, reduceLT, ↓reduceIte, Int.reduceToNat, reduceLeDiff,  e0, e5, e6, e7, e8]
    have hx : bs (s.extract at_ s.size) = (bs s).drop at_ := by rw [bs_extract, List.take_of_length_le]; rw [List.length_drop, bs_len]; omega
    have hxs : (s.extract at_ s.size).size = s.size - at_ := by rw [← bs_len, hx, List.length_drop, bs_len]
    have hll : ((bs s).drop at_).length = s.size - at_ := by rw [List.length_drop, bs_len]
    obtain ⟨c0, r0, hl⟩ : ∃ c r, (bs s).drop at_ = c :: r := by
      cases hd : (bs s).drop at_ with
      | nil => rw [hd] at hll; simp at hll; omega
      | cons c r => exact ⟨c, r, rfl⟩
    rw [hl, lexR_cons, ← hl] at hj
    have hpl := piece_le ((bs s).drop at_)
    have hpp := piece_plain ((bs s).drop at_)
    refine (piece_any _ w1 (by omega) (by omega)).mono ?_
    rintro e w2 ⟨rfl, hb2⟩
    refine ⟨_, rfl, ?_⟩
    rw [hx]
    generalize piece ((bs s).drop at_) = pc at *
    obtain ⟨k, n⟩ := pc
    simp only at *
    have hB2 := hB.trans (hb2.mono hB.size)
    have hown2 := owns_below hown hb2
    simp +contextual (maxSteps := 2000000) (disch := first | omega | (simp only [SZ]; first | done | omega) | (simp only [TS] at *; omega)) only [RZ, ovw, oneC, reduceAdd, reduceMul, reduceSub, reduceEqDiff, reduceLT, ↓reduceIte, Int.reduceToNat, reduceLeDiff,  e0, e5, e6, e7, e8]
    (refine W_if rfl (fun hc => ?_) (fun hc => ?_) <;> (try simp only [TS] at hc))
    · rw [if_pos (by omega)] at hj
      have hR2 : R = .error at_ := hj.symm
      subst hR2
      simp +contextual (maxSteps := 2000000) (disch := first | omega | (simp only [SZ]; first | done | omega) | (simp only [TS] at *; omega)) only [RZ, ovw, oneC, reduceAdd, reduceMul, reduceSub, reduceEqDiff, reduceLT, ↓reduceIte, Int.reduceToNat, reduceLeDiff,  e0, e5, e6, e7, e8]
      exact ⟨hB2, _, rfl, none, 0, rfl, owns_nil _ _ _ _⟩
    have hn0 : ¬ n = 0 := by omega
    clear hc
    rw [if_neg hn0] at hj
    have htn : ((at_ : Int) + n).toNat = at_ + n := by omega
    have hpt : place ((bs s).take (at_ + n)) = (((bs s).drop at_).take n).foldl step1 (place ((bs s).take at_)) := by rw [take_piece, place_append]
    have hxt : bs (s.extract at_ (at_ + n)) = ((bs s).drop at_).take n := by rw [bs_extract]; congr 1; omega
    have hxz : (s.extract at_ (at_ + n)).size = n := by rw [← bs_len, hxt, List.length_take, hll]; omega
    rw [List.drop_drop] at hj
    simp +contextual (maxSteps := 2000000) (disch := first | omega | (simp only [SZ]; first | done | omega) | (simp only [TS] at *; omega)) only [RZ, ovw, oneC, reduceAdd, reduceMul, reduceSub, reduceEqDiff, reduceLT, ↓reduceIte, Int.reduceToNat, reduceLeDiff,  e0, e5, e6, e7, e8, htn]
    (refine W_if rfl (fun hc => ?_) (fun hc => ?_) <;> (try simp only [TS] at hc))
    · have hk0 : k ≠ 0 := by omega
      clear hc
      rw [if_neg hk0, joinR_cons] at hj
      rw [fold_plain _ _ (hpp hk0), List.length_take, hll, Nat.min_eq_left (by omega)] at hpt
      obtain ⟨A', c', w3, he, hown3, hb3, hs3⟩ := push1 (P := Tryd.prog) (T := 33) (ty := 33) (news := encTk (tokOf s (k, at_, n))) hown2 hB2.size hI rfl (fun u hu => by simp only [encTk, List.mem_cons, List.not_mem_nil, or_false] at hu; rcases hu with rfl | rfl | rfl | rfl <;> rfl) (by omega) (by omega)
      have hB3 := hB2.trans hb3
      have hown3' : w3.ownsRow w.heap.size 38 4 (.slice A' (D ++ [(k, at_, n)]).length c') (D ++ [(k, at_, n)]).length (((D ++ [(k, at_, n)]).map (tokOf s)).flatMap encTk) := by
        rw [List.length_append, List.map_append, List.flatMap_append]; simpa using hown3
      have ecol : (at_ : Int) - (at_ + 1 - (place ((bs s).take at_)).2) + 1 = (place ((bs s).take at_)).2 := by omega
      have he' := he
      simp only [encTk, tokOf] at he'
      simp +contextual (maxSteps := 2000000) (disch := first | omega | (simp only [SZ]; first | done | omega) | (simp only [TS] at *; omega)) only [RZ, ovw, oneC, reduceAdd, reduceMul, reduceSub, reduceEqDiff, reduceLT, ↓reduceIte, Int.reduceToNat, reduceLeDiff,  e0, e5, e6, e7, e8, ecol, he']
      refine hK _ _ ⟨hB3, at_ + n, D ++ [(k, at_, n)], A', c', by omega, by simp; omega, hj, hown3', e0, ?_, ?_, ?_, ?_⟩ ?_
      · rw [List.length_append]; rfl
      · rw [hpt]; exact e6
      · rw [hpt]; show σ 7 = _; rw [e7]; simp only; congr 1; omega
      · simp only [upd_apply]; simp
      · show s.size - (intOf (.int .i64 ((at_ : Int) + n))).toNat < s.size - (intOf (σ 8)).toNat; rw [e8]; simp only [intOf]; omega
    · have hk0 : k = 0 := by omega
      clear hc
      rw [if_pos hk0] at hj
      have hcnt := count_bs (s.extract at_ (at_ + n))
      rw [hxt] at hcnt
      have hfl := fold_line (((bs s).drop at_).take n) (place ((bs s).take at_))
      rw [← hpt, ← hcnt] at hfl
      have hpb2 := place_bd ((bs s).take (at_ + n))
      rw [List.length_take, bs_len] at hpb2
      have hlast := last_bs (s.extract at_ (at_ + n))
      rw [hxt, hxz] at hlast
      simp +contextual (maxSteps := 2000000) (disch := first | omega | (simp only [SZ]; first | done | omega) | (simp only [TS] at *; omega)) only [RZ, ovw, oneC, reduceAdd, reduceMul, reduceSub, reduceEqDiff, reduceLT, ↓reduceIte, Int.reduceToNat, reduceLeDiff,  e0, e5, e6, e7, e8]
      refine (Tryd.strings_LastIndexByte (s.extract at_ (at_ + n)) 10 (by omega) w2).mono ?_
      rintro e w3 ⟨rfl, rfl⟩
      refine ⟨_, rfl, ?_⟩
      generalize Lib.lastIndexByte (s.extract at_ (at_ + n)) 10 = li at *
      simp +contextual (maxSteps := 2000000) (disch := first | omega | (simp only [SZ]; first | done | omega) | (simp only [TS] at *; omega)) only [RZ, ovw, oneC, reduceAdd, reduceMul, reduceSub, reduceEqDiff, reduceLT, ↓reduceIte, Int.reduceToNat, reduceLeDiff,  e0, e5, e6, e7, e8]
      (refine W_if rfl (fun hc => ?_) (fun hc => ?_) <;> (try simp only [TS] at hc))
      · obtain ⟨i, hi, rfl, h10, hlst⟩ : ∃ i : Nat, i < n ∧ li = i ∧ (((bs s).drop at_).take n)[i]? = some 10 ∧ ∀ j, i < j → (((bs s).drop at_).take n)[j]? ≠ some 10 := by
          rcases hlast with ⟨h, _⟩ | h
          · omega
          · exact h
        clear hc hlast
        have hfc := fold_col _ (place ((bs s).take at_)) i h10 hlst
        rw [← hpt, List.length_take, hll, Nat.min_eq_left (by omega)] at hfc
        simp +contextual (maxSteps := 2000000) (disch := first | omega | (simp only [SZ]; first | done | omega) | (simp only [TS] at *; omega)) only [RZ, ovw, oneC, reduceAdd, reduceMul, reduceSub, reduceEqDiff, reduceLT, ↓reduceIte, Int.reduceToNat, reduceLeDiff,  e0, e5, e6, e7, e8]
        refine (Tryd.strings_Count_one (s.extract at_ (at_ + n)) 10 w3).mono ?_
        rintro e w4 ⟨rfl, rfl⟩
        refine ⟨_, rfl, ?_⟩
        generalize Lib.countByte (s.extract at_ (at_ + n)).data.toList 10 = cnt at *
        simp +contextual (maxSteps := 2000000) (disch := first | omega | (simp only [SZ]; first | done | omega) | (simp only [TS] at *; omega)) only [RZ, ovw, oneC, reduceAdd, reduceMul, reduceSub, reduceEqDiff, reduceLT, ↓reduceIte, Int.reduceToNat, reduceLeDiff,  e0, e5, e6, e7, e8]
        refine hK _ _ ⟨hB2, at_ + n, D, A, c, by omega, by omega, hj, hown2, e0, e5, ?_, ?_, ?_⟩ ?_
        · rw [hfl]; rfl
        · rw [hfc]; simp only [upd_apply]; simp; omega
        · simp only [upd_apply]; simp
        · show s.size - (intOf (.int .i64 ((at_ : Int) + n))).toNat < s.size - (intOf (σ 8)).toNat; rw [e8]; simp only [intOf]; omega
      · have hno : ∀ c ∈ ((bs s).drop at_).take n, c ≠ 10 := by
          rcases hlast with ⟨_, h⟩ | ⟨i, _, h, _⟩
          · exact h
          · omega
        clear hc hlast
        rw [fold_plain _ _ hno, List.length_take, hll, Nat.min_eq_left (by omega)] at hpt
        simp +contextual (maxSteps := 2000000) (disch := first | omega | (simp only [SZ]; first | done | omega) | (simp only [TS] at *; omega)) only [RZ, ovw, oneC, reduceAdd, reduceMul, reduceSub, reduceEqDiff, reduceLT, ↓reduceIte, Int.reduceToNat, reduceLeDiff,  e0, e5, e6, e7, e8]
        refine hK _ _ ⟨hB2, at_ + n, D, A, c, by omega, by omega, hj, hown2, e0, e5, ?_, ?_, ?_⟩ ?_
        · rw [hpt]; exact e6
        · rw [hpt]; show σ 7 = _; rw [e7]; simp only; congr 1; omega
        · simp only [upd_apply]; simp
        · show s.size - (intOf (.int .i64 ((at_ : Int) + n))).toNat < s.size - (intOf (σ 8)).toNat; rw [e8]; simp only [intOf]; omega
  have hae : at_ = s.size := by omega
  clear hc
  subst hae
  rw [List.drop_eq_nil_of_le (by rw [bs_len]; omega), lexR_nil] at hj
  simp only [joinR, List.append_nil] at hj
  subst hj
  simp only
  have htk : (bs s).take s.size = bs s := List.take_of_length_le (by rw [bs_len]; omega)
  rw [htk] at e6 e7 hpb
  obtain ⟨A', c', w3, he, hown3, hb3, hs3⟩ := push1 (P := Tryd.prog) (T := 33) (ty := 33) (news := encTk (endTok s)) hown hB.size hI rfl (fun u hu => by simp only [encTk, List.mem_cons, List.not_mem_nil, or_false] at hu; rcases hu with rfl | rfl | rfl | rfl <;> rfl) (by omega) (by omega)
  have ecol : (s.size : Int) - (s.size + 1 - (place (bs s)).2) + 1 = (place (bs s)).2 := by omega
  simp only [encTk, endTok] at he
  simp +contextual (maxSteps := 2000000) (disch := first | omega | (simp only [SZ]; first | done | omega) | (simp only [TS] at *; omega)) only [RZ, ovw, oneC, reduceAdd, reduceMul, reduceSub, reduceEqDiff, reduceLT, ↓reduceIte, Int.reduceToNat, reduceLeDiff,  e0, e5, e6, e7, e8, ecol, he]
  refine ⟨hB.trans hb3, _, rfl, A', c', ?_, ?_⟩
  · rw [List.length_append, tok_len]; rfl
  · rw [List.length_append, tok_len, List.flatMap_append]; simpa using hown3
end Go.Proofs.YtbdkggnajipdhaaDoor
