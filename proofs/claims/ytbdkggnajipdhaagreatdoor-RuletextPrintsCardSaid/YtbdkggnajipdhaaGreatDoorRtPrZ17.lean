/- Texts laid one behind the other: RfA, RpA, RpB, RpC, RpD. Each says at its head what it proves. -/
import Derived.Test.YtbdkggnajipdhaaGreatDoorY16
set_option linter.unusedSimpArgs false
/- Walks: the reference's Size, Format. -/
namespace Go.Proofs.YtbdkggnajipdhaaGreatDoor
open Go.RowKit
set_option maxRecDepth 100000
abbrev numR := nR
theorem app_toBA (s t : ByteArray) : s ++ t = toBA (bs s ++ bs t) := by
  have h : ∀ c ∈ bs s ++ bs t, c < 256 := fun c hc => by
    rcases List.mem_append.1 hc with h | h
    · exact bs_lt s c h
    · exact bs_lt t c h
  exact bs_inj (by rw [bs_toBA h, bs_append])
theorem toBA_size (l : List Nat) : (toBA l).size = l.length := by
  unfold toBA
  show (Array.size _) = _
  simp
theorem fmtI_len {n : Int} (h : numR n) : (fmtI n).length ≤ 21 := by unfold fmtI; rw [List.length_map]; exact Lib.itoa_length_le n h.1 h.2
theorem rsize_any (x : Int) (w : World) (hx : numR x) : Calls Tryz.prog 122 #[.int .i64 x] w fun e w' => e = .returned (.int .u64 (x.natAbs : Int)) ∧ w = w' := by
  refine calls_W (l := [_]) Tryz.func122 rfl _ Tryz.ntmps122 (by simp) ?_
  obtain ⟨h0, h1⟩ := hx
  simp +contextual (maxSteps := 2000000) (disch := (first | omega | (simp only [SZ]; first | done | omega) | (simp only [TS] at *; omega))) only [RZ, ovw, oneC, Nat.reduceAdd, Nat.reduceMul, Nat.reduceSub, Nat.reduceEqDiff, Nat.reduceLT, ↓reduceIte, Int.reduceToNat, Nat.reduceLeDiff]
  (refine W_if rfl (fun hc => ?_) (fun hc => ?_) <;> (try simp only [TS] at hc))
  · simp +contextual (maxSteps := 2000000) (disch := (first | omega | (simp only [SZ]; first | done | omega) | (simp only [TS] at *; omega))) only [RZ, ovw, oneC, Nat.reduceAdd, Nat.reduceMul, Nat.reduceSub, Nat.reduceEqDiff, Nat.reduceLT, ↓reduceIte, Int.reduceToNat, Nat.reduceLeDiff]
    exact ret_int (by omega)
  · simp +contextual (maxSteps := 2000000) (disch := (first | omega | (simp only [SZ]; first | done | omega) | (simp only [TS] at *; omega))) only [RZ, ovw, oneC, Nat.reduceAdd, Nat.reduceMul, Nat.reduceSub, Nat.reduceEqDiff, Nat.reduceLT, ↓reduceIte, Int.reduceToNat, Nat.reduceLeDiff]
    exact ret_int (by omega)
theorem one_str (w : World) (x : Nat) (hx : x < 256) : vConvert Tryz.prog 65 9 (.slice (some ⟨w.heap.size, 0, none⟩) 1 1) (w.alloc (.cells #[.int .u8 (x : Int)] 5)) = .ok (.value (.string (toBA [x]))) (w.alloc (.cells #[.int .u8 (x : Int)] 5)) := by
  obtain ⟨s, h1, h2⟩ := bytes_str (w := w.alloc (.cells #[.int .u8 (x : Int)] 5)) (a := ⟨w.heap.size, 0, none⟩) (cap := 1) [x] (fun n hn => by simp at hn; omega) (fun j v hv => by
    rw [addr_add, Nat.zero_add, (new_block w _ _).1 j]
    simpa using hv)
  have e : s = toBA [x] := by rw [← toBA_bs s, h1]
  rw [← e]
  exact h2
theorem rformat_any (n : Int) (w : World) (hn : numR n) : Calls Tryz.prog 82 #[.int .i64 n] w fun e w' => e = .returned (.string (fmtB n)) ∧ Below w.heap.size w w' := by
  refine calls_W (l := [_]) Tryz.func82 rfl _ Tryz.ntmps82 (by simp) ?_
  simp +contextual (maxSteps := 2000000) (disch := (first | omega | (simp only [SZ]; first | done | omega) | (simp only [TS] at *; omega))) only [RZ, ovw, oneC, Nat.reduceAdd, Nat.reduceMul, Nat.reduceSub, Nat.reduceEqDiff, Nat.reduceLT, ↓reduceIte, Int.reduceToNat, Nat.reduceLeDiff]
  refine (rsize_any n w hn).mono ?_
  rintro e w1 ⟨rfl, rfl⟩
  refine ⟨_, rfl, ?_⟩
  have hm0 : n.natAbs ≤ 9223372036854775808 := by have := hn.1; have := hn.2; omega
  have hdl : (dec n.natAbs).length ≤ 21 := by
    have h1 := fmtI_len hn
    by_cases h : n < 0
    · rw [fmtI_neg h] at h1; simp at h1; omega
    · rw [fmtI_nonneg (by omega)] at h1
      rwa [show n.toNat = n.natAbs by omega] at h1
  have hres : fmtI n = if n < 0 then 45 :: dec n.natAbs else dec n.natAbs := by
    by_cases h : n < 0
    · rw [if_pos h, fmtI_neg h]
    · rw [if_neg h, fmtI_nonneg (by omega), show n.toNat = n.natAbs by omega]
  generalize n.natAbs = m at *
  have e1 : (48 : Int) + (m : Int) % 10 = ((48 + m % 10 : Nat) : Int) := by omega
  have hst := one_str w (48 + m % 10) (by omega)
  simp +contextual (maxSteps := 2000000) (disch := (first | omega | (simp only [SZ]; first | done | omega) | (simp only [TS] at *; omega))) only [RZ, ovw, oneC, Nat.reduceAdd, Nat.reduceMul, Nat.reduceSub, Nat.reduceEqDiff, Nat.reduceLT, ↓reduceIte, Int.reduceToNat, Nat.reduceLeDiff,  e1, hst]
  have hB1 := below_alloc w (.cells #[.int .u8 ((48 + m % 10 : Nat) : Int)] 5)
  have hs1 := hB1.size
  generalize w.alloc (.cells #[.int .u8 ((48 + m % 10 : Nat) : Int)] 5) = w1 at *
  clear hst e1
  refine Raw_loop (fun σ w2 => Below w.heap.size w w2 ∧ ∃ (i q : Nat) (Y : List Nat), i ≤ 20 ∧ q ≤ m ∧ q < 10 ^ (20 - i) ∧ (∀ d ∈ Y, d < 256) ∧ (if q < 10 then dec m = Y else dec m = dec (q / 10) ++ Y) ∧ σ 0 = .int .i64 n ∧ σ 3 = .int .u64 q ∧ σ 4 = .string (toBA Y) ∧ σ 5 = .int .i64 i) (fun σ _ => 20 - (intOf (σ 5)).toNat) ?_ ?_
  · simp +contextual (maxSteps := 2000000) (disch := (first | omega | (simp only [SZ]; first | done | omega) | (simp only [TS] at *; omega))) only [RZ, ovw, oneC, Nat.reduceAdd, Nat.reduceMul, Nat.reduceSub, Nat.reduceEqDiff, Nat.reduceLT, ↓reduceIte, Int.reduceToNat, Nat.reduceLeDiff]
    refine ⟨hB1, 0, m, [48 + m % 10], by omega, by omega, by omega, by simp; omega, ?_, rfl, rfl, rfl⟩
    split
    · rw [dec_lt (by assumption), Nat.mod_eq_of_lt (by assumption)]
    · rw [dec_ge (by assumption)]
  clear hB1 hs1
  rintro σ w2 ⟨hB, i, q, Y, hi, hqm, hq, hY, hj, e0, e3, e4, e5⟩ K hK
  have hs2 := hB.size
  have hql : q ≤ 100000000000000000000 := by
    have h1 : 10 ^ (20 - i) ≤ 10 ^ 20 := Nat.pow_le_pow_right (by decide) (by omega)
    have h2 : 10 ^ 20 = 100000000000000000000 := by decide
    omega
  have hYl : Y.length ≤ 21 := by
    split at hj
    · rw [← hj]; exact hdl
    · have := congrArg List.length hj
      rw [List.length_append] at this
      omega
  have hz : (toBA Y).size = Y.length := toBA_size Y
  simp +contextual (maxSteps := 2000000) (disch := (first | omega | (simp only [SZ]; first | done | omega) | (simp only [TS] at *; omega))) only [RZ, ovw, oneC, Nat.reduceAdd, Nat.reduceMul, Nat.reduceSub, Nat.reduceEqDiff, Nat.reduceLT, ↓reduceIte, Int.reduceToNat, Nat.reduceLeDiff,  e0, e3, e4, e5]
  (refine W_if rfl (fun hc => ?_) (fun hc => ?_) <;> (try simp only [TS] at hc))
  · have hq10 : ¬ q < 10 := by omega
    have hi20 : i < 20 := by omega
    clear hc
    rw [if_neg hq10] at hj
    have e6 : (48 : Int) + (q : Int) / 10 % 10 = ((48 + q / 10 % 10 : Nat) : Int) := by omega
    have hst := one_str w2 (48 + q / 10 % 10) (by omega)
    have e7 : (toBA [48 + q / 10 % 10] ++ toBA Y) = toBA ((48 + q / 10 % 10) :: Y) := by
      rw [app_toBA, bs_toBA hY, bs_toBA (by simp; omega)]; rfl
    have e8 : (toBA [48 + q / 10 % 10]).size = 1 := by rw [toBA_size]; rfl
    simp +contextual (maxSteps := 2000000) (disch := (first | omega | (simp only [SZ]; first | done | omega) | (simp only [TS] at *; omega))) only [RZ, ovw, oneC, Nat.reduceAdd, Nat.reduceMul, Nat.reduceSub, Nat.reduceEqDiff, Nat.reduceLT, ↓reduceIte, Int.reduceToNat, Nat.reduceLeDiff,  e0, e3, e4, e5, e6, hst, e7]
    refine hK _ _ ⟨hB.trans ((below_alloc w2 _).mono hs2), i + 1, q / 10, (48 + q / 10 % 10) :: Y, by omega, by omega, ?_, ?_, ?_, ?_⟩ ?_
    · rw [show 20 - i = 20 - (i + 1) + 1 by omega, Nat.pow_succ] at hq
      omega
    · intro d hd
      rcases List.mem_cons.1 hd with rfl | hd
      · omega
      · exact hY d hd
    · split
      · rw [hj, dec_lt (by assumption), Nat.mod_eq_of_lt (by assumption)]; rfl
      · rw [hj, dec_ge (by assumption), List.append_assoc]; rfl
    · simp +contextual (maxSteps := 2000000) (disch := (first | omega | (simp only [SZ]; first | done | omega) | (simp only [TS] at *; omega))) only [RZ, ovw, oneC, Nat.reduceAdd, Nat.reduceMul, Nat.reduceSub, Nat.reduceEqDiff, Nat.reduceLT, ↓reduceIte, Int.reduceToNat, Nat.reduceLeDiff,  e0, e3, e4, e5]
      exact congrArg (Value.int _) (by omega)
    · simp +contextual (maxSteps := 2000000) (disch := (first | omega | (simp only [SZ]; first | done | omega) | (simp only [TS] at *; omega))) only [RZ, ovw, oneC, Nat.reduceAdd, Nat.reduceMul, Nat.reduceSub, Nat.reduceEqDiff, Nat.reduceLT, ↓reduceIte, Int.reduceToNat, Nat.reduceLeDiff,  intOf, e5]
      omega
  · have hq10 : q < 10 := by
      rcases Nat.lt_or_ge i 20 with h | h
      · omega
      · have h1 : 20 - i = 0 := by omega
        rw [h1] at hq
        omega
    rw [if_pos hq10] at hj
    clear hc
    simp +contextual (maxSteps := 2000000) (disch := (first | omega | (simp only [SZ]; first | done | omega) | (simp only [TS] at *; omega))) only [RZ, ovw, oneC, Nat.reduceAdd, Nat.reduceMul, Nat.reduceSub, Nat.reduceEqDiff, Nat.reduceLT, ↓reduceIte, Int.reduceToNat, Nat.reduceLeDiff,  e0, e3, e4, e5]
    have e9 : (⟨#[45]⟩ : ByteArray) ++ toBA Y = toBA (45 :: Y) := by rw [app_toBA, bs_toBA hY]; rfl
    have e10 : (⟨#[45]⟩ : ByteArray).size = 1 := rfl
    have e11 : fmtB n = toBA (fmtI n) := by rw [← bs_fmtB, toBA_bs]
    (refine W_if rfl (fun hc => ?_) (fun hc => ?_) <;> (try simp only [TS] at hc))
    · rw [if_pos hc] at hres
      simp +contextual (maxSteps := 2000000) (disch := (first | omega | (simp only [SZ]; first | done | omega) | (simp only [TS] at *; omega))) only [RZ, ovw, oneC, Nat.reduceAdd, Nat.reduceMul, Nat.reduceSub, Nat.reduceEqDiff, Nat.reduceLT, ↓reduceIte, Int.reduceToNat, Nat.reduceLeDiff,  e0, e3, e4, e5, e9]
      rw [e11, hres, hj]
      exact ⟨rfl, hB⟩
    · rw [if_neg (by omega)] at hres
      simp +contextual (maxSteps := 2000000) (disch := (first | omega | (simp only [SZ]; first | done | omega) | (simp only [TS] at *; omega))) only [RZ, ovw, oneC, Nat.reduceAdd, Nat.reduceMul, Nat.reduceSub, Nat.reduceEqDiff, Nat.reduceLT, ↓reduceIte, Int.reduceToNat, Nat.reduceLeDiff,  e0, e3, e4, e5]
      rw [e11, hres, hj]
      exact ⟨rfl, hB⟩
end Go.Proofs.YtbdkggnajipdhaaGreatDoor
/- Walks: the reference's printer of games: Word, fine. -/
namespace Go.Proofs.YtbdkggnajipdhaaGreatDoor
open Go.RowKit
set_option maxRecDepth 100000
set_option maxHeartbeats 2000000 in
theorem rWord_any (s : ByteArray) (w : World) (hs : s.size ≤ 9223372036854775807) : Calls Tryz.prog 78 #[.string s] w fun e w' => e = .returned (.bool (wordL (bs s))) ∧ w = w' := by
  refine calls_W (l := [_]) Tryz.func78 rfl _ Tryz.ntmps78 (by simp) ?_
  generalize hwr : wordL (bs s) = rr
  refine W_piece fun K hK hX => ?_
  simp +contextual (maxSteps := 2000000) (disch := (first | omega | (simp only [SZ]; first | done | omega) | (simp only [TS] at *; omega))) only [RZ, ovw, oneC, Nat.reduceAdd, Nat.reduceMul, Nat.reduceSub, Nat.reduceEqDiff, Nat.reduceLT, ↓reduceIte, Int.reduceToNat, Nat.reduceLeDiff]
  refine hK _ _ ?_
  clear hK hX K
  refine W_piece fun K hK hX => ?_
  refine W_piece fun K2 hK2 hX2 => ?_
  simp +contextual (maxSteps := 2000000) (disch := (first | omega | (simp only [SZ]; first | done | omega) | (simp only [TS] at *; omega))) only [RZ, ovw, oneC, Nat.reduceAdd, Nat.reduceMul, Nat.reduceSub, Nat.reduceEqDiff, Nat.reduceLT, ↓reduceIte, Int.reduceToNat, Nat.reduceLeDiff]
  refine hK2 _ _ ?_
  clear hK2 hX2 K2
  by_cases h0 : s.size = 0
  · have hb : bs s = [] := List.eq_nil_of_length_eq_zero (by rw [bs_len]; exact h0)
    rw [hb] at hwr
    have hwr : rr = false := by rw [← hwr]; rfl
    subst hwr
    rw [show decide ((s.size : Int) = 0) = true by simp [h0]]
    refine W_if_t rfl ?_
    refine W_piece fun K2 hK2 hX2 => ?_
    simp +contextual (maxSteps := 2000000) (disch := (first | omega | (simp only [SZ]; first | done | omega) | (simp only [TS] at *; omega))) only [RZ, ovw, oneC, Nat.reduceAdd, Nat.reduceMul, Nat.reduceSub, Nat.reduceEqDiff, Nat.reduceLT, ↓reduceIte, Int.reduceToNat, Nat.reduceLeDiff]
    refine hK2 _ _ ?_
    rw [W_ret]
    refine hX _ _ _ (fun h => by cases h) ?_
    simp +contextual (maxSteps := 2000000) (disch := (first | omega | (simp only [SZ]; first | done | omega) | (simp only [TS] at *; omega))) only [RZ, ovw, oneC, Nat.reduceAdd, Nat.reduceMul, Nat.reduceSub, Nat.reduceEqDiff, Nat.reduceLT, ↓reduceIte, Int.reduceToNat, Nat.reduceLeDiff]
  rw [show decide ((s.size : Int) = 0) = false by simp [h0]]
  refine W_if_f rfl ?_
  rw [W_skip]
  refine hK _ _ ?_
  clear hK hX K
  have hsz : 0 < s.size := by omega
  have hb0 := bs_get hsz
  obtain ⟨r, hr⟩ : ∃ r, bs s = bt s 0 :: r := by
    cases hl : bs s with
    | nil => rw [hl] at hb0; cases hb0
    | cons c r => rw [hl] at hb0; simp only [List.getElem?_cons_zero, Option.some.injEq] at hb0; exact ⟨r, by rw [hb0]⟩
  have hwl : wordL (bs s) = (letterB (bt s 0) && (bs s).all wordB) := by rw [hr, wordL_cons]
  rw [hwl] at hwr
  refine W_cutS (fun σ w' => w' = w ∧ rr = true) ?_ ?_
  · rintro σ w' ⟨rfl, rfl⟩
    simp +contextual (maxSteps := 2000000) (disch := (first | omega | (simp only [SZ]; first | done | omega) | (simp only [TS] at *; omega))) only [RZ, ovw, oneC, Nat.reduceAdd, Nat.reduceMul, Nat.reduceSub, Nat.reduceEqDiff, Nat.reduceLT, ↓reduceIte, Int.reduceToNat, Nat.reduceLeDiff]
  refine W_piece fun K hK hX => ?_
  simp +contextual (maxSteps := 2000000) (disch := (first | omega | (simp only [SZ]; first | done | omega) | (simp only [TS] at *; omega))) only [RZ, ovw, oneC, Nat.reduceAdd, Nat.reduceMul, Nat.reduceSub, Nat.reduceEqDiff, Nat.reduceLT, ↓reduceIte, Int.reduceToNat, Nat.reduceLeDiff]
  refine hK _ _ ?_
  clear hK hX K
  rw [W_block, W_loop]
  refine Raw_loop (fun σ w' => w' = w ∧ ∃ k : Nat, k ≤ s.size ∧ (∀ j, j < k → wordB (bt s j) = true) ∧ (0 < k → letterB (bt s 0) = true) ∧ σ 0 = .string s ∧ σ 3 = .int .i64 k) (fun σ _ => s.size - (intOf (σ 3)).toNat) ?_ ?_
  · exact ⟨rfl, 0, Nat.zero_le _, fun j hj => absurd hj (Nat.not_lt_zero _), fun h => absurd h (Nat.lt_irrefl _), rfl, rfl⟩
  rintro σ w' ⟨rfl, k, hk, hal, hl0, f0, f3⟩ K hK
  refine W_piece fun K1 hK1 hX1 => ?_
  refine W_piece fun K2 hK2 hX2 => ?_
  simp +contextual (maxSteps := 2000000) (disch := (first | omega | (simp only [SZ]; first | done | omega) | (simp only [TS] at *; omega))) only [RZ, ovw, oneC, Nat.reduceAdd, Nat.reduceMul, Nat.reduceSub, Nat.reduceEqDiff, Nat.reduceLT, ↓reduceIte, Int.reduceToNat, Nat.reduceLeDiff,  f0, f3]
  refine hK2 _ _ ?_
  clear hK2 hX2 K2
  (refine W_if rfl (fun hc => ?_) (fun hc => ?_) <;> (try simp only [TS] at hc))
  · have hkl : k < s.size := by omega
    rw [W_skip]
    refine hK1 _ _ ?_
    clear hK1 hX1 K1
    have b1 : (decide ((97 : Int) ≤ bt s k) && decide ((bt s k : Int) ≤ 122)) = letterB (bt s k) := by
      rw [Bool.eq_iff_iff]; unfold letterB; simp only [Bool.and_eq_true, decide_eq_true_eq]; omega
    have b2 : (decide ((48 : Int) ≤ bt s k) && decide ((bt s k : Int) ≤ 57)) = digitB (bt s k) := by
      rw [Bool.eq_iff_iff]; unfold digitB; simp only [Bool.and_eq_true, decide_eq_true_eq]; omega
    have b3 : decide ((bt s k : Int) = 45) = (bt s k == 45) := by
      rw [Bool.eq_iff_iff]; simp only [decide_eq_true_eq, beq_iff_eq]; omega
    have hwb : wordB (bt s k) = (letterB (bt s k) || digitB (bt s k) || (bt s k == 45)) := rfl
    refine W_piece fun K1 hK1 hX1 => ?_
    rw [W_block]
    refine W_piece fun K2 hK2 hX2 => ?_
    simp +contextual (maxSteps := 2000000) (disch := (first | omega | (simp only [SZ]; first | done | omega) | (simp only [TS] at *; omega))) only [RZ, ovw, oneC, Nat.reduceAdd, Nat.reduceMul, Nat.reduceSub, Nat.reduceEqDiff, Nat.reduceLT, ↓reduceIte, Int.reduceToNat, Nat.reduceLeDiff,  f0, f3, Int.toNat_natCast]
    refine hK2 _ _ ?_
    clear hK2 hX2 K2
    refine W_piece fun K2 hK2 hX2 => ?_
    simp +contextual (maxSteps := 2000000) (disch := (first | omega | (simp only [SZ]; first | done | omega) | (simp only [TS] at *; omega))) only [RZ, ovw, oneC, Nat.reduceAdd, Nat.reduceMul, Nat.reduceSub, Nat.reduceEqDiff, Nat.reduceLT, ↓reduceIte, Int.reduceToNat, Nat.reduceLeDiff,  f0, f3, Int.toNat_natCast]
    refine hK2 _ _ ?_
    clear hK2 hX2 K2
    refine W_piece fun K2 hK2 hX2 => ?_
    simp +contextual (maxSteps := 2000000) (disch := (first | omega | (simp only [SZ]; first | done | omega) | (simp only [TS] at *; omega))) only [RZ, ovw, oneC, Nat.reduceAdd, Nat.reduceMul, Nat.reduceSub, Nat.reduceEqDiff, Nat.reduceLT, ↓reduceIte, Int.reduceToNat, Nat.reduceLeDiff,  f0, f3]
    refine hK2 _ _ ?_
    clear hK2 hX2 K2
    rw [b1, b2, b3]
    by_cases hbad : (!letterB (bt s k) && (decide ((k : Int) = 0) || !(digitB (bt s k) || (bt s k == 45)))) = true
    · refine W_if_t (congrArg Value.bool hbad) ?_
      refine W_piece fun K2 hK2 hX2 => ?_
      simp +contextual (maxSteps := 2000000) (disch := (first | omega | (simp only [SZ]; first | done | omega) | (simp only [TS] at *; omega))) only [RZ, ovw, oneC, Nat.reduceAdd, Nat.reduceMul, Nat.reduceSub, Nat.reduceEqDiff, Nat.reduceLT, ↓reduceIte, Int.reduceToNat, Nat.reduceLeDiff]
      refine hK2 _ _ ?_
      rw [W_ret, inX_ret]
      refine hX1 _ _ _ (fun h => by cases h) ?_
      have hrr : rr = false := by
        rw [← hwr]
        simp only [Bool.and_eq_true, Bool.not_eq_true', Bool.or_eq_true, decide_eq_true_eq] at hbad
        obtain ⟨c1, c2⟩ := hbad
        by_cases hk0 : k = 0
        · subst hk0; rw [c1]; rfl
        · have c3 := c2.resolve_left (by omega)
          have : (bs s).all wordB = false := by
            rw [Bool.eq_false_iff]
            intro e
            have := List.all_eq_true.1 e _ (List.mem_of_getElem? (bs_get hkl))
            rw [hwb, c1] at this
            simp only [Bool.or_eq_false_iff] at c3
            rw [c3.1, c3.2] at this
            cases this
          rw [this, Bool.and_false]
      subst hrr
      simp +contextual (maxSteps := 2000000) (disch := (first | omega | (simp only [SZ]; first | done | omega) | (simp only [TS] at *; omega))) only [RZ, ovw, oneC, Nat.reduceAdd, Nat.reduceMul, Nat.reduceSub, Nat.reduceEqDiff, Nat.reduceLT, ↓reduceIte, Int.reduceToNat, Nat.reduceLeDiff]
    · have hbad : (!letterB (bt s k) && (decide ((k : Int) = 0) || !(digitB (bt s k) || (bt s k == 45)))) = false := by simpa using hbad
      refine W_if_f (congrArg Value.bool hbad) ?_
      rw [W_skip, inX_normal]
      refine hK1 _ _ ?_
      clear hK1 hX1 K1
      simp +contextual (maxSteps := 2000000) (disch := (first | omega | (simp only [SZ]; first | done | omega) | (simp only [TS] at *; omega))) only [RZ, ovw, oneC, Nat.reduceAdd, Nat.reduceMul, Nat.reduceSub, Nat.reduceEqDiff, Nat.reduceLT, ↓reduceIte, Int.reduceToNat, Nat.reduceLeDiff,  f0, f3]
      have hgo : wordB (bt s k) = true ∧ (k = 0 → letterB (bt s k) = true) := by
        rw [hwb]
        cases c1 : letterB (bt s k) with
        | true => exact ⟨rfl, fun _ => rfl⟩
        | false =>
          rw [c1] at hbad
          simp only [Bool.not_false, Bool.true_and, Bool.or_eq_false_iff, decide_eq_false_iff_not, Bool.not_eq_false'] at hbad
          exact ⟨hbad.2, fun e => absurd (by omega) hbad.1⟩
      refine hK _ _ ⟨rfl, k + 1, by omega, fun j hj => ?_, fun _ => ?_, ?_⟩ ?_
      · by_cases hjk : j = k
        · rw [hjk]; exact hgo.1
        · exact hal j (by omega)
      · by_cases hk0 : k = 0
        · have := hgo.2 hk0; rw [hk0] at this; exact this
        · exact hl0 (by omega)
      · simp +contextual (maxSteps := 2000000) (disch := (first | omega | (simp only [SZ]; first | done | omega) | (simp only [TS] at *; omega))) only [RZ, ovw, oneC, Nat.reduceAdd, Nat.reduceMul, Nat.reduceSub, Nat.reduceEqDiff, Nat.reduceLT, ↓reduceIte, Int.reduceToNat, Nat.reduceLeDiff,  f0, f3]
      · simp +contextual (maxSteps := 2000000) (disch := (first | omega | (simp only [SZ]; first | done | omega) | (simp only [TS] at *; omega))) only [RZ, ovw, oneC, Nat.reduceAdd, Nat.reduceMul, Nat.reduceSub, Nat.reduceEqDiff, Nat.reduceLT, ↓reduceIte, Int.reduceToNat, Nat.reduceLeDiff,  intOf, f3]
        omega
  · have hkz : k = s.size := by omega
    subst hkz
    simp +contextual (maxSteps := 2000000) (disch := (first | omega | (simp only [SZ]; first | done | omega) | (simp only [TS] at *; omega))) only [RZ, ovw, oneC, Nat.reduceAdd, Nat.reduceMul, Nat.reduceSub, Nat.reduceEqDiff, Nat.reduceLT, ↓reduceIte, Int.reduceToNat, Nat.reduceLeDiff,  f0, f3]
    refine hX1 _ _ _ (fun h => by cases h) ?_
    simp +contextual (maxSteps := 2000000) (disch := (first | omega | (simp only [SZ]; first | done | omega) | (simp only [TS] at *; omega))) only [RZ, ovw, oneC, Nat.reduceAdd, Nat.reduceMul, Nat.reduceSub, Nat.reduceEqDiff, Nat.reduceLT, ↓reduceIte, Int.reduceToNat, Nat.reduceLeDiff,  f0, f3]
    rw [← hwr, hl0 hsz, Bool.true_and, List.all_eq_true]
    intro c hc
    obtain ⟨j, hj⟩ := List.mem_iff_getElem?.1 hc
    have hjl : j < s.size := by have := (List.getElem?_eq_some_iff.1 hj).1; rwa [bs_len] at this
    rw [bs_get hjl] at hj
    injection hj with hj
    rw [← hj]
    exact hal j hjl
theorem rfine_any (L : List Int) (A : Option Addr) (c : Nat) (w : World) (hA : Arr w A 1 (L.map fun n => [Value.int .i64 n])) (hl : L.length ≤ 1000000000) : Calls Tryz.prog 79 #[.slice A L.length c] w fun e w' => e = .returned (.bool (L.all fitB)) ∧ w = w' := by
  refine calls_W (l := [_]) Tryz.func79 rfl _ Tryz.ntmps79 (by simp) ?_
  generalize hwr : L.all fitB = rr
  refine W_piece fun K hK hX => ?_
  simp +contextual (maxSteps := 2000000) (disch := (first | omega | (simp only [SZ]; first | done | omega) | (simp only [TS] at *; omega))) only [RZ, ovw, oneC, Nat.reduceAdd, Nat.reduceMul, Nat.reduceSub, Nat.reduceEqDiff, Nat.reduceLT, ↓reduceIte, Int.reduceToNat, Nat.reduceLeDiff]
  refine hK _ _ ?_
  clear hK hX K
  refine W_cutS (fun σ w' => w' = w ∧ rr = true) ?_ ?_
  · rintro σ w' ⟨rfl, rfl⟩
    simp +contextual (maxSteps := 2000000) (disch := (first | omega | (simp only [SZ]; first | done | omega) | (simp only [TS] at *; omega))) only [RZ, ovw, oneC, Nat.reduceAdd, Nat.reduceMul, Nat.reduceSub, Nat.reduceEqDiff, Nat.reduceLT, ↓reduceIte, Int.reduceToNat, Nat.reduceLeDiff]
  refine W_piece fun K hK hX => ?_
  simp +contextual (maxSteps := 2000000) (disch := (first | omega | (simp only [SZ]; first | done | omega) | (simp only [TS] at *; omega))) only [RZ, ovw, oneC, Nat.reduceAdd, Nat.reduceMul, Nat.reduceSub, Nat.reduceEqDiff, Nat.reduceLT, ↓reduceIte, Int.reduceToNat, Nat.reduceLeDiff]
  refine hK _ _ ?_
  clear hK hX K
  rw [W_block, W_loop]
  refine Raw_loop (fun σ w' => w' = w ∧ ∃ k : Nat, k ≤ L.length ∧ (∀ j n, j < k → L[j]? = some n → fitB n = true) ∧ σ 0 = .slice A L.length c ∧ σ 3 = .int .i64 k) (fun σ _ => L.length - (intOf (σ 3)).toNat) ?_ ?_
  · exact ⟨rfl, 0, Nat.zero_le _, fun j n hj => absurd hj (Nat.not_lt_zero _), rfl, rfl⟩
  rintro σ w' ⟨rfl, k, hk, hal, f0, f3⟩ K hK
  refine W_piece fun K1 hK1 hX1 => ?_
  refine W_piece fun K2 hK2 hX2 => ?_
  simp +contextual (maxSteps := 2000000) (disch := (first | omega | (simp only [SZ]; first | done | omega) | (simp only [TS] at *; omega))) only [RZ, ovw, oneC, Nat.reduceAdd, Nat.reduceMul, Nat.reduceSub, Nat.reduceEqDiff, Nat.reduceLT, ↓reduceIte, Int.reduceToNat, Nat.reduceLeDiff,  f0, f3]
  refine hK2 _ _ ?_
  clear hK2 hX2 K2
  (refine W_if rfl (fun hc => ?_) (fun hc => ?_) <;> (try simp only [TS] at hc))
  · have hkl : k < L.length := by omega
    obtain ⟨n, hn⟩ : ∃ n, L[k]? = some n := ⟨_, List.getElem?_eq_getElem hkl⟩
    obtain ⟨b, o, rfl, hb, hcell⟩ := hA.at_ (enc := fun n => [Value.int .i64 n]) hn
    have l0 := hcell 0 _ rfl
    rw [Nat.add_zero, Nat.mul_one] at l0
    rw [W_skip]
    refine hK1 _ _ ?_
    clear hK1 hX1 K1
    have hW : (decide (n < 0) || decide (999999999999999999 < n)) = !fitB n := by
      rw [Bool.eq_iff_iff]; unfold fitB; simp only [Bool.or_eq_true, decide_eq_true_eq, Bool.not_eq_true', Bool.and_eq_false_iff, decide_eq_false_iff_not]; omega
    refine W_piece fun K1 hK1 hX1 => ?_
    rw [W_block]
    refine W_piece fun K2 hK2 hX2 => ?_
    simp +contextual (maxSteps := 2000000) (disch := (first | omega | (simp only [SZ]; first | done | omega) | (simp only [TS] at *; omega))) only [RZ, ovw, oneC, Nat.reduceAdd, Nat.reduceMul, Nat.reduceSub, Nat.reduceEqDiff, Nat.reduceLT, ↓reduceIte, Int.reduceToNat, Nat.reduceLeDiff,  f0, f3, l0]
    refine hK2 _ _ ?_
    clear hK2 hX2 K2
    rw [hW]
    cases hf : fitB n with
    | false =>
      refine W_if_t rfl ?_
      refine W_piece fun K2 hK2 hX2 => ?_
      simp +contextual (maxSteps := 2000000) (disch := (first | omega | (simp only [SZ]; first | done | omega) | (simp only [TS] at *; omega))) only [RZ, ovw, oneC, Nat.reduceAdd, Nat.reduceMul, Nat.reduceSub, Nat.reduceEqDiff, Nat.reduceLT, ↓reduceIte, Int.reduceToNat, Nat.reduceLeDiff]
      refine hK2 _ _ ?_
      rw [W_ret, inX_ret]
      refine hX1 _ _ _ (fun h => by cases h) ?_
      have hrr : rr = false := by
        rw [← hwr, Bool.eq_false_iff]
        intro e
        have := List.all_eq_true.1 e n (List.mem_of_getElem? hn)
        rw [hf] at this
        cases this
      subst hrr
      simp +contextual (maxSteps := 2000000) (disch := (first | omega | (simp only [SZ]; first | done | omega) | (simp only [TS] at *; omega))) only [RZ, ovw, oneC, Nat.reduceAdd, Nat.reduceMul, Nat.reduceSub, Nat.reduceEqDiff, Nat.reduceLT, ↓reduceIte, Int.reduceToNat, Nat.reduceLeDiff]
    | true =>
      refine W_if_f rfl ?_
      rw [W_skip, inX_normal]
      refine hK1 _ _ ?_
      clear hK1 hX1 K1
      simp +contextual (maxSteps := 2000000) (disch := (first | omega | (simp only [SZ]; first | done | omega) | (simp only [TS] at *; omega))) only [RZ, ovw, oneC, Nat.reduceAdd, Nat.reduceMul, Nat.reduceSub, Nat.reduceEqDiff, Nat.reduceLT, ↓reduceIte, Int.reduceToNat, Nat.reduceLeDiff,  f0, f3]
      refine hK _ _ ⟨rfl, k + 1, by omega, fun j m hj hm => ?_, ?_⟩ ?_
      · by_cases hjk : j = k
        · subst hjk; rw [hn] at hm; injection hm with hm; subst hm; exact hf
        · exact hal j m (by omega) hm
      · simp +contextual (maxSteps := 2000000) (disch := (first | omega | (simp only [SZ]; first | done | omega) | (simp only [TS] at *; omega))) only [RZ, ovw, oneC, Nat.reduceAdd, Nat.reduceMul, Nat.reduceSub, Nat.reduceEqDiff, Nat.reduceLT, ↓reduceIte, Int.reduceToNat, Nat.reduceLeDiff,  f0, f3]
      · simp +contextual (maxSteps := 2000000) (disch := (first | omega | (simp only [SZ]; first | done | omega) | (simp only [TS] at *; omega))) only [RZ, ovw, oneC, Nat.reduceAdd, Nat.reduceMul, Nat.reduceSub, Nat.reduceEqDiff, Nat.reduceLT, ↓reduceIte, Int.reduceToNat, Nat.reduceLeDiff,  intOf, f3]
        omega
  · have hkz : k = L.length := by omega
    subst hkz
    simp +contextual (maxSteps := 2000000) (disch := (first | omega | (simp only [SZ]; first | done | omega) | (simp only [TS] at *; omega))) only [RZ, ovw, oneC, Nat.reduceAdd, Nat.reduceMul, Nat.reduceSub, Nat.reduceEqDiff, Nat.reduceLT, ↓reduceIte, Int.reduceToNat, Nat.reduceLeDiff,  f0, f3]
    refine hX1 _ _ _ (fun h => by cases h) ?_
    simp +contextual (maxSteps := 2000000) (disch := (first | omega | (simp only [SZ]; first | done | omega) | (simp only [TS] at *; omega))) only [RZ, ovw, oneC, Nat.reduceAdd, Nat.reduceMul, Nat.reduceSub, Nat.reduceEqDiff, Nat.reduceLT, ↓reduceIte, Int.reduceToNat, Nat.reduceLeDiff,  f0, f3]
    rw [← hwr, List.all_eq_true]
    intro n hn
    obtain ⟨j, hj⟩ := List.mem_iff_getElem?.1 hn
    exact hal j n (List.getElem?_eq_some_iff.1 hj).1 hj
end Go.Proofs.YtbdkggnajipdhaaGreatDoor
/- Walks: the reference's printer of games: put, of, row, hit. -/
namespace Go.Proofs.YtbdkggnajipdhaaGreatDoor
open Go.RowKit
set_option maxRecDepth 100000
theorem fmtB_size {n : Int} (h : numR n) : (fmtB n).size ≤ 21 := by rw [← bs_len, bs_fmtB]; exact fmtI_len h
theorem rput_any (s : ByteArray) (n std : Int) (w : World) (hs : s.size ≤ 1000000) (hn : numR n) : Calls Tryz.prog 42 #[.string s, .int .i64 n, .int .i64 std] w fun e w' =>
    Below w.heap.size w w' ∧ ∃ r, e = .returned (.string r) ∧ bs r = (optI (bs s) n std).flatMap lineG ∧ r.size ≤ s.size + 30 := by
  refine calls_W (l := [_, _, _]) Tryz.func42 rfl _ Tryz.ntmps42 (by simp) ?_
  refine W_piece fun K hK hX => ?_
  simp +contextual (maxSteps := 2000000) (disch := (first | omega | (simp only [SZ]; first | done | omega) | (simp only [TS] at *; omega))) only [RZ, ovw, oneC, Nat.reduceAdd, Nat.reduceMul, Nat.reduceSub, Nat.reduceEqDiff, Nat.reduceLT, ↓reduceIte, Int.reduceToNat, Nat.reduceLeDiff]
  refine hK _ _ ?_
  clear hK hX K
  refine W_piece fun K hK hX => ?_
  refine W_piece fun K2 hK2 hX2 => ?_
  simp +contextual (maxSteps := 2000000) (disch := (first | omega | (simp only [SZ]; first | done | omega) | (simp only [TS] at *; omega))) only [RZ, ovw, oneC, Nat.reduceAdd, Nat.reduceMul, Nat.reduceSub, Nat.reduceEqDiff, Nat.reduceLT, ↓reduceIte, Int.reduceToNat, Nat.reduceLeDiff]
  refine hK2 _ _ ?_
  clear hK2 hX2 K2
  by_cases h : n = std
  · rw [show decide (n = std) = true by simp [h]]
    refine W_if_t rfl ?_
    refine W_piece fun K2 hK2 hX2 => ?_
    simp +contextual (maxSteps := 2000000) (disch := (first | omega | (simp only [SZ]; first | done | omega) | (simp only [TS] at *; omega))) only [RZ, ovw, oneC, Nat.reduceAdd, Nat.reduceMul, Nat.reduceSub, Nat.reduceEqDiff, Nat.reduceLT, ↓reduceIte, Int.reduceToNat, Nat.reduceLeDiff]
    refine hK2 _ _ ?_
    rw [W_ret]
    refine hX _ _ _ (fun h => by cases h) ?_
    simp +contextual (maxSteps := 2000000) (disch := (first | omega | (simp only [SZ]; first | done | omega) | (simp only [TS] at *; omega))) only [RZ, ovw, oneC, Nat.reduceAdd, Nat.reduceMul, Nat.reduceSub, Nat.reduceEqDiff, Nat.reduceLT, ↓reduceIte, Int.reduceToNat, Nat.reduceLeDiff]
    refine ⟨Below.refl _ _, _, rfl, ?_, ?_⟩
    · unfold optI; rw [if_pos h]; rfl
    · exact Nat.zero_le _
  · rw [show decide (n = std) = false by simp [h]]
    refine W_if_f rfl ?_
    rw [W_skip]
    refine hK _ _ ?_
    clear hK hX K
    have hf := fmtB_size hn
    refine W_piece fun K hK hX => ?_
    simp +contextual (maxSteps := 2000000) (disch := (first | omega | (simp only [SZ]; first | done | omega) | (simp only [TS] at *; omega))) only [RZ, ovw, oneC, Nat.reduceAdd, Nat.reduceMul, Nat.reduceSub, Nat.reduceEqDiff, Nat.reduceLT, ↓reduceIte, Int.reduceToNat, Nat.reduceLeDiff]
    refine (rformat_any n w hn).mono ?_
    rintro e w1 ⟨rfl, hB⟩
    refine ⟨_, rfl, ?_⟩
    try simp +contextual (maxSteps := 2000000) (disch := (first | omega | (simp only [SZ]; first | done | omega) | (simp only [TS] at *; omega))) only [RZ, ovw, oneC, Nat.reduceAdd, Nat.reduceMul, Nat.reduceSub, Nat.reduceEqDiff, Nat.reduceLT, ↓reduceIte, Int.reduceToNat, Nat.reduceLeDiff]
    refine hK _ _ ?_
    clear hK hX K
    simp +contextual (maxSteps := 2000000) (disch := (first | omega | (simp only [SZ]; first | done | omega) | (simp only [TS] at *; omega))) only [RZ, ovw, oneC, Nat.reduceAdd, Nat.reduceMul, Nat.reduceSub, Nat.reduceEqDiff, Nat.reduceLT, ↓reduceIte, Int.reduceToNat, Nat.reduceLeDiff]
    refine ⟨hB, _, rfl, ?_, ?_⟩
    · unfold optI
      rw [if_neg h]
      simp only [bs_append, bs_fmtB, lineG, It.words, show bs ⟨#[32, 32]⟩ = [32, 32] by decide +kernel, show bs ⟨#[32]⟩ = [32] by decide +kernel, show bs ⟨#[59, 10]⟩ = asc ";\n" by decide +kernel]
      simp [lineG, It.words]
    · simp only [SZ]; omega
theorem rof_any (s : ByteArray) (a b : Int) (w : World) (hs : s.size ≤ 1000000) (ha : numR a) (hb : numR b) : Calls Tryz.prog 41 #[.string s, .int .i64 a, .int .i64 b] w fun e w' =>
    Below w.heap.size w w' ∧ ∃ r, e = .returned (.string r) ∧ bs r = lineG (.two (bs s) a b) ∧ r.size ≤ s.size + 60 := by
  refine calls_W (l := [_, _, _]) Tryz.func41 rfl _ Tryz.ntmps41 (by simp) ?_
  have hf := fmtB_size ha
  have hf2 := fmtB_size hb
  simp +contextual (maxSteps := 2000000) (disch := (first | omega | (simp only [SZ]; first | done | omega) | (simp only [TS] at *; omega))) only [RZ, ovw, oneC, Nat.reduceAdd, Nat.reduceMul, Nat.reduceSub, Nat.reduceEqDiff, Nat.reduceLT, ↓reduceIte, Int.reduceToNat, Nat.reduceLeDiff]
  refine (rformat_any a w ha).mono ?_
  rintro e w1 ⟨rfl, hB⟩
  refine ⟨_, rfl, ?_⟩
  simp +contextual (maxSteps := 2000000) (disch := (first | omega | (simp only [SZ]; first | done | omega) | (simp only [TS] at *; omega))) only [RZ, ovw, oneC, Nat.reduceAdd, Nat.reduceMul, Nat.reduceSub, Nat.reduceEqDiff, Nat.reduceLT, ↓reduceIte, Int.reduceToNat, Nat.reduceLeDiff]
  refine (rformat_any b w1 hb).mono ?_
  rintro e w2 ⟨rfl, hB2⟩
  refine ⟨_, rfl, ?_⟩
  simp +contextual (maxSteps := 2000000) (disch := (first | omega | (simp only [SZ]; first | done | omega) | (simp only [TS] at *; omega))) only [RZ, ovw, oneC, Nat.reduceAdd, Nat.reduceMul, Nat.reduceSub, Nat.reduceEqDiff, Nat.reduceLT, ↓reduceIte, Int.reduceToNat, Nat.reduceLeDiff]
  refine ⟨hB.trans (hB2.mono hB.size), _, rfl, ?_, ?_⟩
  · simp only [bs_append, bs_fmtB, lineG, It.words, show bs ⟨#[32, 32]⟩ = [32, 32] by decide +kernel, show bs ⟨#[32]⟩ = [32] by decide +kernel, show bs ⟨#[59, 10]⟩ = asc ";\n" by decide +kernel, show bs ⟨#[32, 111, 102, 32]⟩ = 32 :: (asc "of" ++ [32]) by decide +kernel]
    simp
  · simp only [SZ]; omega
theorem rhit_any (s : ByteArray) (n : Int) (w : World) (hs : s.size ≤ 1000000) (hn : numR n) : Calls Tryz.prog 85 #[.string s, .int .i64 n] w fun e w' =>
    Below w.heap.size w w' ∧ ∃ r, e = .returned (.string r) ∧ bs r = (hitW (bs s) n).flatMap (32 :: ·) ∧ r.size ≤ s.size + 30 := by
  refine calls_W (l := [_, _]) Tryz.func85 rfl _ Tryz.ntmps85 (by simp) ?_
  refine W_piece fun K hK hX => ?_
  simp +contextual (maxSteps := 2000000) (disch := (first | omega | (simp only [SZ]; first | done | omega) | (simp only [TS] at *; omega))) only [RZ, ovw, oneC, Nat.reduceAdd, Nat.reduceMul, Nat.reduceSub, Nat.reduceEqDiff, Nat.reduceLT, ↓reduceIte, Int.reduceToNat, Nat.reduceLeDiff]
  refine hK _ _ ?_
  clear hK hX K
  refine W_piece fun K hK hX => ?_
  refine W_piece fun K2 hK2 hX2 => ?_
  simp +contextual (maxSteps := 2000000) (disch := (first | omega | (simp only [SZ]; first | done | omega) | (simp only [TS] at *; omega))) only [RZ, ovw, oneC, Nat.reduceAdd, Nat.reduceMul, Nat.reduceSub, Nat.reduceEqDiff, Nat.reduceLT, ↓reduceIte, Int.reduceToNat, Nat.reduceLeDiff]
  refine hK2 _ _ ?_
  clear hK2 hX2 K2
  by_cases h : n = 0
  · rw [show decide (n = 0) = true by simp [h]]
    refine W_if_t rfl ?_
    refine W_piece fun K2 hK2 hX2 => ?_
    simp +contextual (maxSteps := 2000000) (disch := (first | omega | (simp only [SZ]; first | done | omega) | (simp only [TS] at *; omega))) only [RZ, ovw, oneC, Nat.reduceAdd, Nat.reduceMul, Nat.reduceSub, Nat.reduceEqDiff, Nat.reduceLT, ↓reduceIte, Int.reduceToNat, Nat.reduceLeDiff]
    refine hK2 _ _ ?_
    rw [W_ret]
    refine hX _ _ _ (fun h => by cases h) ?_
    simp +contextual (maxSteps := 2000000) (disch := (first | omega | (simp only [SZ]; first | done | omega) | (simp only [TS] at *; omega))) only [RZ, ovw, oneC, Nat.reduceAdd, Nat.reduceMul, Nat.reduceSub, Nat.reduceEqDiff, Nat.reduceLT, ↓reduceIte, Int.reduceToNat, Nat.reduceLeDiff]
    refine ⟨Below.refl _ _, _, rfl, ?_, ?_⟩
    · unfold hitW; rw [if_pos h]; rfl
    · exact Nat.zero_le _
  · rw [show decide (n = 0) = false by simp [h]]
    refine W_if_f rfl ?_
    rw [W_skip]
    refine hK _ _ ?_
    clear hK hX K
    have hf := fmtB_size hn
    refine W_piece fun K hK hX => ?_
    simp +contextual (maxSteps := 2000000) (disch := (first | omega | (simp only [SZ]; first | done | omega) | (simp only [TS] at *; omega))) only [RZ, ovw, oneC, Nat.reduceAdd, Nat.reduceMul, Nat.reduceSub, Nat.reduceEqDiff, Nat.reduceLT, ↓reduceIte, Int.reduceToNat, Nat.reduceLeDiff]
    refine (rformat_any n w hn).mono ?_
    rintro e w1 ⟨rfl, hB⟩
    refine ⟨_, rfl, ?_⟩
    try simp +contextual (maxSteps := 2000000) (disch := (first | omega | (simp only [SZ]; first | done | omega) | (simp only [TS] at *; omega))) only [RZ, ovw, oneC, Nat.reduceAdd, Nat.reduceMul, Nat.reduceSub, Nat.reduceEqDiff, Nat.reduceLT, ↓reduceIte, Int.reduceToNat, Nat.reduceLeDiff]
    refine hK _ _ ?_
    clear hK hX K
    simp +contextual (maxSteps := 2000000) (disch := (first | omega | (simp only [SZ]; first | done | omega) | (simp only [TS] at *; omega))) only [RZ, ovw, oneC, Nat.reduceAdd, Nat.reduceMul, Nat.reduceSub, Nat.reduceEqDiff, Nat.reduceLT, ↓reduceIte, Int.reduceToNat, Nat.reduceLeDiff]
    refine ⟨hB, _, rfl, ?_, ?_⟩
    · unfold hitW
      rw [if_neg h]
      simp only [bs_append, bs_fmtB, show bs ⟨#[32]⟩ = [32] by decide +kernel]
      simp
    · simp only [SZ]; omega
theorem rrow_any (L : List Int) (A : Option Addr) (c : Nat) (w : World) (hA : Arr w A 1 (L.map fun n => [Value.int .i64 n])) (hl : L.length ≤ 1000000) (hn : ∀ n ∈ L, numR n) : Calls Tryz.prog 84 #[.slice A L.length c] w fun e w' =>
    Below w.heap.size w w' ∧ ∃ r, e = .returned (.string r) ∧ bs r = (L.map fmtI).flatMap (32 :: ·) ∧ r.size ≤ 22 * L.length := by
  refine calls_W (l := [_]) Tryz.func84 rfl _ Tryz.ntmps84 (by simp) ?_
  refine W_piece fun K hK hX => ?_
  simp +contextual (maxSteps := 2000000) (disch := (first | omega | (simp only [SZ]; first | done | omega) | (simp only [TS] at *; omega))) only [RZ, ovw, oneC, Nat.reduceAdd, Nat.reduceMul, Nat.reduceSub, Nat.reduceEqDiff, Nat.reduceLT, ↓reduceIte, Int.reduceToNat, Nat.reduceLeDiff]
  refine hK _ _ ?_
  clear hK hX K
  refine W_piece fun K hK hX => ?_
  simp +contextual (maxSteps := 2000000) (disch := (first | omega | (simp only [SZ]; first | done | omega) | (simp only [TS] at *; omega))) only [RZ, ovw, oneC, Nat.reduceAdd, Nat.reduceMul, Nat.reduceSub, Nat.reduceEqDiff, Nat.reduceLT, ↓reduceIte, Int.reduceToNat, Nat.reduceLeDiff]
  refine hK _ _ ?_
  clear hK hX K
  refine W_cutS (fun σ w' => Below w.heap.size w w' ∧ ∃ r, σ 3 = .string r ∧ bs r = (L.map fmtI).flatMap (32 :: ·) ∧ r.size ≤ 22 * L.length) ?_ ?_
  · rintro σ w' ⟨hB, r, f3, h1, h2⟩
    simp +contextual (maxSteps := 2000000) (disch := (first | omega | (simp only [SZ]; first | done | omega) | (simp only [TS] at *; omega))) only [RZ, ovw, oneC, Nat.reduceAdd, Nat.reduceMul, Nat.reduceSub, Nat.reduceEqDiff, Nat.reduceLT, ↓reduceIte, Int.reduceToNat, Nat.reduceLeDiff,  f3]
    exact ⟨hB, _, rfl, h1, h2⟩
  refine W_piece fun K hK hX => ?_
  simp +contextual (maxSteps := 2000000) (disch := (first | omega | (simp only [SZ]; first | done | omega) | (simp only [TS] at *; omega))) only [RZ, ovw, oneC, Nat.reduceAdd, Nat.reduceMul, Nat.reduceSub, Nat.reduceEqDiff, Nat.reduceLT, ↓reduceIte, Int.reduceToNat, Nat.reduceLeDiff]
  refine hK _ _ ?_
  clear hK hX K
  rw [W_block, W_loop]
  refine Raw_loop (fun σ w' => Below w.heap.size w w' ∧ ∃ (k : Nat) (r : ByteArray), k ≤ L.length ∧ bs r = ((L.take k).map fmtI).flatMap (32 :: ·) ∧ r.size ≤ 22 * k ∧ σ 0 = .slice A L.length c ∧ σ 3 = .string r ∧ σ 4 = .int .i64 k) (fun σ _ => L.length - (intOf (σ 4)).toNat) ?_ ?_
  · exact ⟨Below.refl _ _, 0, ⟨#[]⟩, Nat.zero_le _, by rw [List.take_zero]; rfl, Nat.zero_le _, rfl, rfl, rfl⟩
  rintro σ w' ⟨hB, k, r, hk, hr1, hr2, f0, f3, f4⟩ K hK
  refine W_piece fun K1 hK1 hX1 => ?_
  refine W_piece fun K2 hK2 hX2 => ?_
  simp +contextual (maxSteps := 2000000) (disch := (first | omega | (simp only [SZ]; first | done | omega) | (simp only [TS] at *; omega))) only [RZ, ovw, oneC, Nat.reduceAdd, Nat.reduceMul, Nat.reduceSub, Nat.reduceEqDiff, Nat.reduceLT, ↓reduceIte, Int.reduceToNat, Nat.reduceLeDiff,  f0, f4]
  refine hK2 _ _ ?_
  clear hK2 hX2 K2
  (refine W_if rfl (fun hc => ?_) (fun hc => ?_) <;> (try simp only [TS] at hc))
  · have hkl : k < L.length := by omega
    obtain ⟨n, hnk⟩ : ∃ n, L[k]? = some n := ⟨_, List.getElem?_eq_getElem hkl⟩
    obtain ⟨b, o, rfl, hb, hcell⟩ := (hA.below hB).at_ (enc := fun n => [Value.int .i64 n]) hnk
    have l0 := hcell 0 _ rfl
    rw [Nat.add_zero, Nat.mul_one] at l0
    have hnn := hn n (List.mem_of_getElem? hnk)
    have hf := fmtB_size hnn
    rw [W_skip]
    refine hK1 _ _ ?_
    clear hK1 hX1 K1
    refine W_piece fun K1 hK1 hX1 => ?_
    rw [W_block]
    simp +contextual (maxSteps := 2000000) (disch := (first | omega | (simp only [SZ]; first | done | omega) | (simp only [TS] at *; omega))) only [RZ, ovw, oneC, Nat.reduceAdd, Nat.reduceMul, Nat.reduceSub, Nat.reduceEqDiff, Nat.reduceLT, ↓reduceIte, Int.reduceToNat, Nat.reduceLeDiff,  f0, f3, f4, l0]
    refine (rformat_any n w' hnn).mono ?_
    rintro e w2 ⟨rfl, hB2⟩
    refine ⟨_, rfl, ?_⟩
    try simp +contextual (maxSteps := 2000000) (disch := (first | omega | (simp only [SZ]; first | done | omega) | (simp only [TS] at *; omega))) only [RZ, ovw, oneC, Nat.reduceAdd, Nat.reduceMul, Nat.reduceSub, Nat.reduceEqDiff, Nat.reduceLT, ↓reduceIte, Int.reduceToNat, Nat.reduceLeDiff,  f0, f3, f4]
    refine hK1 _ _ ?_
    clear hK1 hX1 K1
    simp +contextual (maxSteps := 2000000) (disch := (first | omega | (simp only [SZ]; first | done | omega) | (simp only [TS] at *; omega))) only [RZ, ovw, oneC, Nat.reduceAdd, Nat.reduceMul, Nat.reduceSub, Nat.reduceEqDiff, Nat.reduceLT, ↓reduceIte, Int.reduceToNat, Nat.reduceLeDiff,  f0, f3, f4]
    refine hK _ _ ⟨hB.trans (hB2.mono hB.size), k + 1, _, by omega, ?_, ?_, ?_, rfl, ?_⟩ ?_
    · rw [List.take_add_one, hnk]
      simp only [bs_append, bs_fmtB, show bs ⟨#[32]⟩ = [32] by decide +kernel, hr1]
      simp
    · simp only [SZ]; omega
    · simp +contextual (maxSteps := 2000000) (disch := (first | omega | (simp only [SZ]; first | done | omega) | (simp only [TS] at *; omega))) only [RZ, ovw, oneC, Nat.reduceAdd, Nat.reduceMul, Nat.reduceSub, Nat.reduceEqDiff, Nat.reduceLT, ↓reduceIte, Int.reduceToNat, Nat.reduceLeDiff,  f0, f3, f4]
    · simp +contextual (maxSteps := 2000000) (disch := (first | omega | (simp only [SZ]; first | done | omega) | (simp only [TS] at *; omega))) only [RZ, ovw, oneC, Nat.reduceAdd, Nat.reduceMul, Nat.reduceSub, Nat.reduceEqDiff, Nat.reduceLT, ↓reduceIte, Int.reduceToNat, Nat.reduceLeDiff,  f0, f3, f4]
    · simp +contextual (maxSteps := 2000000) (disch := (first | omega | (simp only [SZ]; first | done | omega) | (simp only [TS] at *; omega))) only [RZ, ovw, oneC, Nat.reduceAdd, Nat.reduceMul, Nat.reduceSub, Nat.reduceEqDiff, Nat.reduceLT, ↓reduceIte, Int.reduceToNat, Nat.reduceLeDiff,  intOf, f4]
      omega
  · have hkz : k = L.length := by omega
    subst hkz
    rw [List.take_length] at hr1
    simp +contextual (maxSteps := 2000000) (disch := (first | omega | (simp only [SZ]; first | done | omega) | (simp only [TS] at *; omega))) only [RZ, ovw, oneC, Nat.reduceAdd, Nat.reduceMul, Nat.reduceSub, Nat.reduceEqDiff, Nat.reduceLT, ↓reduceIte, Int.reduceToNat, Nat.reduceLeDiff,  f0, f3, f4]
    refine hX1 _ _ _ (fun h => by cases h) ?_
    simp +contextual (maxSteps := 2000000) (disch := (first | omega | (simp only [SZ]; first | done | omega) | (simp only [TS] at *; omega))) only [RZ, ovw, oneC, Nat.reduceAdd, Nat.reduceMul, Nat.reduceSub, Nat.reduceEqDiff, Nat.reduceLT, ↓reduceIte, Int.reduceToNat, Nat.reduceLeDiff,  f0, f3, f4]
    exact ⟨hB, r, by first | exact ⟨rfl, hr1, hr2⟩ | exact ⟨hr1, hr2⟩⟩
end Go.Proofs.YtbdkggnajipdhaaGreatDoor
/- Walks: the reference's printer of games: printDays, printAddon, printTier. -/
namespace Go.Proofs.YtbdkggnajipdhaaGreatDoor
open Go.RowKit
set_option maxRecDepth 100000
theorem addon_lits : bs ⟨#[32, 32, 97, 100, 100, 111, 110, 32]⟩ = 32 :: 32 :: (asc "addon" ++ [32]) ∧ bs ⟨#[32, 102, 97, 99, 116, 111, 114, 32]⟩ = 32 :: (asc "factor" ++ [32]) ∧ bs ⟨#[32, 115, 101, 114, 105, 97, 108, 32]⟩ = 32 :: (asc "serial" ++ [32]) ∧ bs ⟨#[32]⟩ = [32] ∧ bs ⟨#[59, 10]⟩ = asc ";\n" := by decide +kernel
set_option maxHeartbeats 4000000 in
theorem rprintAddon_any (a : Ad) (vf vs : Value) (w : World) (hf : IntsR w vf a.factors) (hs : IntsR w vs a.serials) (hnl : a.name.size ≤ 1000000) (hfl : a.factors.length ≤ 1000000) (hsl : a.serials.length ≤ 1000000) (hp : numR a.price) (hd : numR a.digits) (hfn : ∀ n ∈ a.factors, numR n) (hsn : ∀ n ∈ a.serials, numR n) :
    Calls Tryz.prog 44 #[.agg (encAd a vf vs).toArray] w fun e w' => Below w.heap.size w w' ∧ ∃ r, e = .returned (.string r) ∧ bs r = lineG (.addon a) ∧ r.size ≤ 100000000 := by
  refine calls_W (l := [_]) Tryz.func44 rfl _ Tryz.ntmps44 (by simp) ?_
  obtain ⟨Af, cf, rfl, hf⟩ := hf
  obtain ⟨As, cS, rfl, hs⟩ := hs
  obtain ⟨q1, q2, q3, q4, q5⟩ := addon_lits
  have r0 := Row.new w 45 (encAd a (.slice Af a.factors.length cf) (.slice As a.serials.length cS))
  have b0 := below_alloc w (.cells (encAd a (.slice Af a.factors.length cf) (.slice As a.serials.length cS)).toArray 45)
  refine W_piece fun K hK hX => ?_
  simp +contextual (maxSteps := 2000000) (disch := (first | omega | (simp only [SZ]; first | done | omega) | (simp only [TS] at *; omega))) only [RZ, ovw, oneC, Nat.reduceAdd, Nat.reduceMul, Nat.reduceSub, Nat.reduceEqDiff, Nat.reduceLT, ↓reduceIte, Int.reduceToNat, Nat.reduceLeDiff]
  refine hK _ _ ?_
  clear hK hX K
  generalize w.alloc (.cells (encAd a (.slice Af a.factors.length cf) (.slice As a.serials.length cS)).toArray 45) = w1 at r0 b0 ⊢
  have hz0 := b0.size
  have z1 := fmtB_size hp
  have z2 := fmtB_size hd
  have c1 : w1.cell? ⟨w.heap.size, 1, none⟩ = some (.int .i64 a.kind) := r0.cell (i := 1) rfl
  simp +contextual (maxSteps := 2000000) (disch := (first | omega | (simp only [SZ]; first | done | omega) | (simp only [TS] at *; omega))) only [RZ, ovw, oneC, Nat.reduceAdd, Nat.reduceMul, Nat.reduceSub, Nat.reduceEqDiff, Nat.reduceLT, ↓reduceIte, Int.reduceToNat, Nat.reduceLeDiff,  c1]
  by_cases hk : a.kind = 1
  · rw [show decide (a.kind = 1) = true by simp [hk]]
    refine W_if_t rfl ?_
    simp +contextual (maxSteps := 2000000) (disch := (first | omega | (simp only [SZ]; first | done | omega) | (simp only [TS] at *; omega))) only [RZ, ovw, oneC, Nat.reduceAdd, Nat.reduceMul, Nat.reduceSub, Nat.reduceEqDiff, Nat.reduceLT, ↓reduceIte, Int.reduceToNat, Nat.reduceLeDiff]
    have hJ0 : Below w1.heap.size w1 w1.drew := below_drew (Below.refl _ _)
    refine Raw_ord (fun w' => Below w1.heap.size w1 w') 14 rfl MX ?_
    refine Ord_reads (τ := ?ta0) [0, 1, 2, 3, 4, 5, 8, 9] 6 rfl (by kernel_rfl) (by kernel_rfl) (fun _ _ _ h => h) hJ0 (fun w7 h7 => ?_) ?_; rotate_left
    · have r7 := r0.below h7
      have x0 := r7.cell (i := 0) rfl
      have x2 := r7.cell (i := 2) rfl
      have x3 := r7.cell (i := 3) rfl
      have x4 := r7.cell (i := 4) rfl
      have x5 := r7.cell (i := 5) rfl
      simp only [opsL_cons, opsL_nil, List.getElem?_toArray, List.getElem?_cons_zero, List.getElem?_cons_succ, optL_some]
      simp +contextual (maxSteps := 2000000) (disch := (first | omega | (simp only [SZ]; first | done | omega) | (simp only [TS] at *; omega))) only [RZ, ovw, oneC, Nat.reduceAdd, Nat.reduceMul, Nat.reduceSub, Nat.reduceEqDiff, Nat.reduceLT, ↓reduceIte, Int.reduceToNat, Nat.reduceLeDiff,  x0, x2, x3, x4, x5]
      exact rfl
    refine Ord_one 6 (by kernel_rfl) rfl ?_
    simp +contextual (maxSteps := 2000000) (disch := (first | omega | (simp only [SZ]; first | done | omega) | (simp only [TS] at *; omega))) only [RZ, ovw, oneC, Nat.reduceAdd, Nat.reduceMul, Nat.reduceSub, Nat.reduceEqDiff, Nat.reduceLT, ↓reduceIte, Int.reduceToNat, Nat.reduceLeDiff]
    refine (rformat_any a.price (w1.drew) hp).mono ?_
    rintro e u1 ⟨rfl, hB1⟩
    refine ⟨_, rfl, ?_⟩
    have hJ1 := hJ0.trans hB1
    have hz1 := hJ1.size
    refine ⟨hJ1, ?_⟩
    refine Ord_reads (τ := ?ta1) [7] 4 rfl (by kernel_rfl) (by kernel_rfl) (fun _ _ _ h => h) hJ1 (fun w7 h7 => ?_) ?_; rotate_left
    · simp only [opsL_cons, opsL_nil, List.getElem?_toArray, List.getElem?_cons_zero, List.getElem?_cons_succ, optL_some]
      simp +contextual (maxSteps := 2000000) (disch := (first | omega | (simp only [SZ]; first | done | omega) | (simp only [TS] at *; omega))) only [RZ, ovw, oneC, Nat.reduceAdd, Nat.reduceMul, Nat.reduceSub, Nat.reduceEqDiff, Nat.reduceLT, ↓reduceIte, Int.reduceToNat, Nat.reduceLeDiff]
      exact rfl
    refine Ord_one 10 (by kernel_rfl) rfl ?_
    simp +contextual (maxSteps := 2000000) (disch := (first | omega | (simp only [SZ]; first | done | omega) | (simp only [TS] at *; omega))) only [RZ, ovw, oneC, Nat.reduceAdd, Nat.reduceMul, Nat.reduceSub, Nat.reduceEqDiff, Nat.reduceLT, ↓reduceIte, Int.reduceToNat, Nat.reduceLeDiff]
    refine (rrow_any a.factors Af cf (u1) (hf.below (b0.trans (hJ1.mono hz0))) hfl hfn).mono ?_
    rintro e u2 ⟨hB2, r1, rfl, hr1, hrz⟩
    refine ⟨_, rfl, ?_⟩
    have hJ2 := hJ1.trans (hB2.mono hz1)
    have hz2 := hJ2.size
    refine ⟨hJ2, ?_⟩
    refine Ord_chainS _ [11, 12, 13] _ _ _ (by kernel_rfl) ?_
    simp only [opsL_cons, opsL_nil, List.getElem?_toArray, List.getElem?_cons_zero, List.getElem?_cons_succ, optL_some]
    simp +contextual (maxSteps := 2000000) (disch := (first | omega | (simp only [SZ]; first | done | omega) | (simp only [TS] at *; omega))) only [RZ, ovw, oneC, Nat.reduceAdd, Nat.reduceMul, Nat.reduceSub, Nat.reduceEqDiff, Nat.reduceLT, ↓reduceIte, Int.reduceToNat, Nat.reduceLeDiff,  EC_op, EC_nil, hJ2]
    refine ⟨b0.trans (hJ2.mono hz0), _, rfl, ?_, ?_⟩
    · simp only [bs_append, bs_fmtB, lineG, It.words, hk, if_true, q1, q2, q5, hr1]
      simp
    · simp only [SZ]; omega
  · rw [show decide (a.kind = 1) = false by simp [hk]]
    refine W_if_f rfl ?_
    simp +contextual (maxSteps := 2000000) (disch := (first | omega | (simp only [SZ]; first | done | omega) | (simp only [TS] at *; omega))) only [RZ, ovw, oneC, Nat.reduceAdd, Nat.reduceMul, Nat.reduceSub, Nat.reduceEqDiff, Nat.reduceLT, ↓reduceIte, Int.reduceToNat, Nat.reduceLeDiff]
    have hJ0 : Below w1.heap.size w1 w1.drew := below_drew (Below.refl _ _)
    refine Raw_ord (fun w' => Below w1.heap.size w1 w') 19 rfl MX ?_
    refine Ord_reads (τ := ?tb0) [0, 1, 2, 3, 4, 5, 9, 10, 13, 14] 9 rfl (by kernel_rfl) (by kernel_rfl) (fun _ _ _ h => h) hJ0 (fun w7 h7 => ?_) ?_; rotate_left
    · have r7 := r0.below h7
      have x0 := r7.cell (i := 0) rfl
      have x2 := r7.cell (i := 2) rfl
      have x3 := r7.cell (i := 3) rfl
      have x4 := r7.cell (i := 4) rfl
      have x5 := r7.cell (i := 5) rfl
      simp only [opsL_cons, opsL_nil, List.getElem?_toArray, List.getElem?_cons_zero, List.getElem?_cons_succ, optL_some]
      simp +contextual (maxSteps := 2000000) (disch := (first | omega | (simp only [SZ]; first | done | omega) | (simp only [TS] at *; omega))) only [RZ, ovw, oneC, Nat.reduceAdd, Nat.reduceMul, Nat.reduceSub, Nat.reduceEqDiff, Nat.reduceLT, ↓reduceIte, Int.reduceToNat, Nat.reduceLeDiff,  x0, x2, x3, x4, x5]
      exact rfl
    refine Ord_one 6 (by kernel_rfl) rfl ?_
    simp +contextual (maxSteps := 2000000) (disch := (first | omega | (simp only [SZ]; first | done | omega) | (simp only [TS] at *; omega))) only [RZ, ovw, oneC, Nat.reduceAdd, Nat.reduceMul, Nat.reduceSub, Nat.reduceEqDiff, Nat.reduceLT, ↓reduceIte, Int.reduceToNat, Nat.reduceLeDiff]
    refine (rformat_any a.price (w1.drew) hp).mono ?_
    rintro e u1 ⟨rfl, hB1⟩
    refine ⟨_, rfl, ?_⟩
    have hJ1 := hJ0.trans hB1
    have hz1 := hJ1.size
    refine ⟨hJ1, ?_⟩
    refine Ord_reads (τ := ?tb1) [7, 8] 6 rfl (by kernel_rfl) (by kernel_rfl) (fun _ _ _ h => h) hJ1 (fun w7 h7 => ?_) ?_; rotate_left
    · simp only [opsL_cons, opsL_nil, List.getElem?_toArray, List.getElem?_cons_zero, List.getElem?_cons_succ, optL_some]
      simp +contextual (maxSteps := 2000000) (disch := (first | omega | (simp only [SZ]; first | done | omega) | (simp only [TS] at *; omega))) only [RZ, ovw, oneC, Nat.reduceAdd, Nat.reduceMul, Nat.reduceSub, Nat.reduceEqDiff, Nat.reduceLT, ↓reduceIte, Int.reduceToNat, Nat.reduceLeDiff]
      exact rfl
    refine Ord_one 11 (by kernel_rfl) rfl ?_
    simp +contextual (maxSteps := 2000000) (disch := (first | omega | (simp only [SZ]; first | done | omega) | (simp only [TS] at *; omega))) only [RZ, ovw, oneC, Nat.reduceAdd, Nat.reduceMul, Nat.reduceSub, Nat.reduceEqDiff, Nat.reduceLT, ↓reduceIte, Int.reduceToNat, Nat.reduceLeDiff]
    refine (rformat_any a.digits (u1) hd).mono ?_
    rintro e u2 ⟨rfl, hB2⟩
    refine ⟨_, rfl, ?_⟩
    have hJ2 := hJ1.trans (hB2.mono hz1)
    have hz2 := hJ2.size
    refine ⟨hJ2, ?_⟩
    refine Ord_reads (τ := ?tb2) [12] 4 rfl (by kernel_rfl) (by kernel_rfl) (fun _ _ _ h => h) hJ2 (fun w7 h7 => ?_) ?_; rotate_left
    · simp only [opsL_cons, opsL_nil, List.getElem?_toArray, List.getElem?_cons_zero, List.getElem?_cons_succ, optL_some]
      simp +contextual (maxSteps := 2000000) (disch := (first | omega | (simp only [SZ]; first | done | omega) | (simp only [TS] at *; omega))) only [RZ, ovw, oneC, Nat.reduceAdd, Nat.reduceMul, Nat.reduceSub, Nat.reduceEqDiff, Nat.reduceLT, ↓reduceIte, Int.reduceToNat, Nat.reduceLeDiff]
      exact rfl
    refine Ord_one 15 (by kernel_rfl) rfl ?_
    simp +contextual (maxSteps := 2000000) (disch := (first | omega | (simp only [SZ]; first | done | omega) | (simp only [TS] at *; omega))) only [RZ, ovw, oneC, Nat.reduceAdd, Nat.reduceMul, Nat.reduceSub, Nat.reduceEqDiff, Nat.reduceLT, ↓reduceIte, Int.reduceToNat, Nat.reduceLeDiff]
    refine (rrow_any a.serials As cS (u2) (hs.below (b0.trans (hJ2.mono hz0))) hsl hsn).mono ?_
    rintro e u3 ⟨hB3, r1, rfl, hr1, hrz⟩
    refine ⟨_, rfl, ?_⟩
    have hJ3 := hJ2.trans (hB3.mono hz2)
    have hz3 := hJ3.size
    refine ⟨hJ3, ?_⟩
    refine Ord_chainS _ [16, 17, 18] _ _ _ (by kernel_rfl) ?_
    simp only [opsL_cons, opsL_nil, List.getElem?_toArray, List.getElem?_cons_zero, List.getElem?_cons_succ, optL_some]
    simp +contextual (maxSteps := 2000000) (disch := (first | omega | (simp only [SZ]; first | done | omega) | (simp only [TS] at *; omega))) only [RZ, ovw, oneC, Nat.reduceAdd, Nat.reduceMul, Nat.reduceSub, Nat.reduceEqDiff, Nat.reduceLT, ↓reduceIte, Int.reduceToNat, Nat.reduceLeDiff,  EC_op, EC_nil, hJ3]
    refine ⟨b0.trans (hJ3.mono hz0), _, rfl, ?_, ?_⟩
    · simp only [bs_append, bs_fmtB, lineG, It.words, hk, if_false, q1, q3, q4, q5, hr1]
      simp
    · simp only [SZ]; omega
theorem tier_lits : bs ⟨#[32, 32, 116, 105, 101, 114]⟩ = 32 :: 32 :: asc "tier" ∧ bs ⟨#[32, 101, 120, 97, 99, 116]⟩ = 32 :: asc "exact" ∧ bs ⟨#[32, 98, 111, 120]⟩ = 32 :: asc "box" ∧ bs ⟨#[32, 102, 114, 111, 110, 116, 32]⟩ = 32 :: (asc "front" ++ [32]) ∧ bs ⟨#[32, 98, 97, 99, 107, 32]⟩ = 32 :: (asc "back" ++ [32]) ∧
    bs ⟨#[109, 97, 105, 110]⟩ = asc "main" ∧ bs ⟨#[98, 111, 110, 117, 115]⟩ = asc "bonus" ∧ bs ⟨#[101, 120, 116, 114, 97]⟩ = asc "extra" := by decide +kernel
def kindS (k : Int) : ByteArray := if k = 1 then ⟨#[32, 102, 105, 120, 101, 100, 32]⟩ else if k = 2 then ⟨#[32, 115, 104, 97, 114, 101, 32]⟩ else ⟨#[32, 106, 97, 99, 107, 112, 111, 116, 32]⟩
theorem bs_kindS (k : Int) : bs (kindS k) = 32 :: (kindW k ++ [32]) := by
  unfold kindS kindW
  by_cases h1 : k = 1
  · rw [if_pos h1, if_pos h1]; decide +kernel
  · rw [if_neg h1, if_neg h1]
    by_cases h2 : k = 2
    · rw [if_pos h2, if_pos h2]; decide +kernel
    · rw [if_neg h2, if_neg h2]; decide +kernel
theorem kindS_size (k : Int) : (kindS k).size ≤ 9 := by
  unfold kindS
  by_cases h1 : k = 1
  · rw [if_pos h1]; decide
  · rw [if_neg h1]
    by_cases h2 : k = 2
    · rw [if_pos h2]; decide
    · rw [if_neg h2]; decide
set_option maxHeartbeats 4000000 in
theorem rprintTier_any (t : Ti) (w : World) (hm : numR t.main) (hb : numR t.bonus) (he : numR t.extra) (hv : numR t.value) (hmode : 0 ≤ t.mode ∧ t.mode ≤ 4) (hkind : 1 ≤ t.kind ∧ t.kind ≤ 3) :
    Calls Tryz.prog 45 #[.agg (encTi t).toArray] w fun e w' => Below w.heap.size w w' ∧ ∃ r, e = .returned (.string r) ∧ bs r = lineG (.tier t) ∧ r.size ≤ 100000000 := by
  refine calls_W (l := [_]) Tryz.func45 rfl _ Tryz.ntmps45 (by simp) ?_
  obtain ⟨q1, q2, q3, q4, q5, q6, q7, q8⟩ := tier_lits
  have r0 := Row.new w 41 (encTi t)
  have b0 := below_alloc w (.cells (encTi t).toArray 41)
  refine W_piece fun K hK hX => ?_
  simp +contextual (maxSteps := 2000000) (disch := (first | omega | (simp only [SZ]; first | done | omega) | (simp only [TS] at *; omega))) only [RZ, ovw, oneC, Nat.reduceAdd, Nat.reduceMul, Nat.reduceSub, Nat.reduceEqDiff, Nat.reduceLT, ↓reduceIte, Int.reduceToNat, Nat.reduceLeDiff]
  refine hK _ _ ?_
  clear hK hX K
  generalize w.alloc (.cells (encTi t).toArray 41) = w1 at r0 b0 ⊢
  have hz0 := b0.size
  have z1 := fmtB_size hm
  have z2 := fmtB_size hv
  refine W_piece fun K hK hX => ?_
  simp +contextual (maxSteps := 2000000) (disch := (first | omega | (simp only [SZ]; first | done | omega) | (simp only [TS] at *; omega))) only [RZ, ovw, oneC, Nat.reduceAdd, Nat.reduceMul, Nat.reduceSub, Nat.reduceEqDiff, Nat.reduceLT, ↓reduceIte, Int.reduceToNat, Nat.reduceLeDiff]
  refine hK _ _ ?_
  clear hK hX K
  refine W_cutS (fun σ w2 => Below w1.heap.size w1 w2 ∧ ∃ r, σ 3 = .string r ∧ bs r = 32 :: 32 :: (asc "tier" ++ (modeW t).flatMap (32 :: ·)) ∧ r.size ≤ 200 ∧ σ 1 = .pointer (some ⟨w.heap.size, 0, none⟩)) ?_ ?_
  rotate_left
  · have c3 : w1.cell? ⟨w.heap.size, 3, none⟩ = some (.int .i64 t.mode) := r0.cell (i := 3) rfl
    have c0 : w1.cell? ⟨w.heap.size, 0, none⟩ = some (.int .i64 t.main) := r0.cell (i := 0) rfl
    have em : ∀ k : Int, t.mode = k → decide (t.mode = k) = true := fun k h => by simp [h]
    have en : ∀ k : Int, t.mode ≠ k → decide (t.mode = k) = false := fun k h => by simp [h]
    simp +contextual (maxSteps := 2000000) (disch := (first | omega | (simp only [SZ]; first | done | omega) | (simp only [TS] at *; omega))) only [RZ, ovw, oneC, Nat.reduceAdd, Nat.reduceMul, Nat.reduceSub, Nat.reduceEqDiff, Nat.reduceLT, ↓reduceIte, Int.reduceToNat, Nat.reduceLeDiff,  c3]
    by_cases h1 : t.mode = 1
    · rw [em 1 h1]
      refine W_if_t rfl ?_
      simp +contextual (maxSteps := 2000000) (disch := (first | omega | (simp only [SZ]; first | done | omega) | (simp only [TS] at *; omega))) only [RZ, ovw, oneC, Nat.reduceAdd, Nat.reduceMul, Nat.reduceSub, Nat.reduceEqDiff, Nat.reduceLT, ↓reduceIte, Int.reduceToNat, Nat.reduceLeDiff]
      refine ⟨Below.refl _ _, _, rfl, ?_, ?_⟩
      · simp [bs_append, bs_fmtB, modeW, h1, q1, q2]
      · simp only [SZ]; omega
    rw [en 1 h1]
    refine W_if_f rfl ?_
    simp +contextual (maxSteps := 2000000) (disch := (first | omega | (simp only [SZ]; first | done | omega) | (simp only [TS] at *; omega))) only [RZ, ovw, oneC, Nat.reduceAdd, Nat.reduceMul, Nat.reduceSub, Nat.reduceEqDiff, Nat.reduceLT, ↓reduceIte, Int.reduceToNat, Nat.reduceLeDiff]
    by_cases h2 : t.mode = 2
    · rw [em 2 h2]
      refine W_if_t rfl ?_
      simp +contextual (maxSteps := 2000000) (disch := (first | omega | (simp only [SZ]; first | done | omega) | (simp only [TS] at *; omega))) only [RZ, ovw, oneC, Nat.reduceAdd, Nat.reduceMul, Nat.reduceSub, Nat.reduceEqDiff, Nat.reduceLT, ↓reduceIte, Int.reduceToNat, Nat.reduceLeDiff]
      refine ⟨Below.refl _ _, _, rfl, ?_, ?_⟩
      · simp [bs_append, bs_fmtB, modeW, h2, q1, q3]
      · simp only [SZ]; omega
    rw [en 2 h2]
    refine W_if_f rfl ?_
    simp +contextual (maxSteps := 2000000) (disch := (first | omega | (simp only [SZ]; first | done | omega) | (simp only [TS] at *; omega))) only [RZ, ovw, oneC, Nat.reduceAdd, Nat.reduceMul, Nat.reduceSub, Nat.reduceEqDiff, Nat.reduceLT, ↓reduceIte, Int.reduceToNat, Nat.reduceLeDiff]
    by_cases h3 : t.mode = 3
    · rw [em 3 h3]
      refine W_if_t rfl ?_
      simp +contextual (maxSteps := 2000000) (disch := (first | omega | (simp only [SZ]; first | done | omega) | (simp only [TS] at *; omega))) only [RZ, ovw, oneC, Nat.reduceAdd, Nat.reduceMul, Nat.reduceSub, Nat.reduceEqDiff, Nat.reduceLT, ↓reduceIte, Int.reduceToNat, Nat.reduceLeDiff,  c0]
      refine (rformat_any t.main w1 hm).mono ?_
      rintro e u1 ⟨rfl, hB1⟩
      refine ⟨_, rfl, ?_⟩
      simp +contextual (maxSteps := 2000000) (disch := (first | omega | (simp only [SZ]; first | done | omega) | (simp only [TS] at *; omega))) only [RZ, ovw, oneC, Nat.reduceAdd, Nat.reduceMul, Nat.reduceSub, Nat.reduceEqDiff, Nat.reduceLT, ↓reduceIte, Int.reduceToNat, Nat.reduceLeDiff]
      refine ⟨hB1, _, rfl, ?_, ?_⟩
      · simp [bs_append, bs_fmtB, modeW, h3, q1, q4]
      · simp only [SZ]; omega
    rw [en 3 h3]
    refine W_if_f rfl ?_
    simp +contextual (maxSteps := 2000000) (disch := (first | omega | (simp only [SZ]; first | done | omega) | (simp only [TS] at *; omega))) only [RZ, ovw, oneC, Nat.reduceAdd, Nat.reduceMul, Nat.reduceSub, Nat.reduceEqDiff, Nat.reduceLT, ↓reduceIte, Int.reduceToNat, Nat.reduceLeDiff]
    by_cases h4 : t.mode = 4
    · rw [em 4 h4]
      refine W_if_t rfl ?_
      simp +contextual (maxSteps := 2000000) (disch := (first | omega | (simp only [SZ]; first | done | omega) | (simp only [TS] at *; omega))) only [RZ, ovw, oneC, Nat.reduceAdd, Nat.reduceMul, Nat.reduceSub, Nat.reduceEqDiff, Nat.reduceLT, ↓reduceIte, Int.reduceToNat, Nat.reduceLeDiff,  c0]
      refine (rformat_any t.main w1 hm).mono ?_
      rintro e u1 ⟨rfl, hB1⟩
      refine ⟨_, rfl, ?_⟩
      simp +contextual (maxSteps := 2000000) (disch := (first | omega | (simp only [SZ]; first | done | omega) | (simp only [TS] at *; omega))) only [RZ, ovw, oneC, Nat.reduceAdd, Nat.reduceMul, Nat.reduceSub, Nat.reduceEqDiff, Nat.reduceLT, ↓reduceIte, Int.reduceToNat, Nat.reduceLeDiff]
      refine ⟨hB1, _, rfl, ?_, ?_⟩
      · simp [bs_append, bs_fmtB, modeW, h4, q1, q5]
      · simp only [SZ]; omega
    rw [en 4 h4]
    refine W_if_f rfl ?_
    simp +contextual (maxSteps := 2000000) (disch := (first | omega | (simp only [SZ]; first | done | omega) | (simp only [TS] at *; omega))) only [RZ, ovw, oneC, Nat.reduceAdd, Nat.reduceMul, Nat.reduceSub, Nat.reduceEqDiff, Nat.reduceLT, ↓reduceIte, Int.reduceToNat, Nat.reduceLeDiff]
    have h0 : t.mode = 0 := by omega
    have hJ0 : Below w1.heap.size w1 w1.drew := below_drew (Below.refl _ _)
    refine Raw_ord (fun w' => Below w1.heap.size w1 w') 14 rfl MX ?_
    refine Ord_reads (τ := ?tc0) [0, 1, 2, 5, 6, 9, 10] 7 rfl (by kernel_rfl) (by kernel_rfl) (fun _ _ _ h => h) hJ0 (fun w7 h7 => ?_) ?_; rotate_left
    · have r7 := r0.below h7
      have x0 := r7.cell (i := 0) rfl
      have x1 := r7.cell (i := 1) rfl
      have x2 := r7.cell (i := 2) rfl
      simp only [opsL_cons, opsL_nil, List.getElem?_toArray, List.getElem?_cons_zero, List.getElem?_cons_succ, optL_some]
      simp +contextual (maxSteps := 2000000) (disch := (first | omega | (simp only [SZ]; first | done | omega) | (simp only [TS] at *; omega))) only [RZ, ovw, oneC, Nat.reduceAdd, Nat.reduceMul, Nat.reduceSub, Nat.reduceEqDiff, Nat.reduceLT, ↓reduceIte, Int.reduceToNat, Nat.reduceLeDiff,  x0, x1, x2]
      exact rfl
    refine Ord_one 3 (by kernel_rfl) rfl ?_
    simp +contextual (maxSteps := 2000000) (disch := (first | omega | (simp only [SZ]; first | done | omega) | (simp only [TS] at *; omega))) only [RZ, ovw, oneC, Nat.reduceAdd, Nat.reduceMul, Nat.reduceSub, Nat.reduceEqDiff, Nat.reduceLT, ↓reduceIte, Int.reduceToNat, Nat.reduceLeDiff]
    refine (rhit_any ⟨#[109, 97, 105, 110]⟩ t.main (w1.drew) (by decide) hm).mono ?_
    rintro e u1 ⟨hB1, r1, rfl, hr1, hs1⟩
    refine ⟨_, rfl, ?_⟩
    have hJ1 := hJ0.trans hB1
    have hz1 := hJ1.size
    rw [show (⟨#[109, 97, 105, 110]⟩ : ByteArray).size = 4 from rfl] at hs1
    refine ⟨hJ1, ?_⟩
    refine Ord_reads (τ := ?tc1) [4] 5 rfl (by kernel_rfl) (by kernel_rfl) (fun _ _ _ h => h) hJ1 (fun w7 h7 => ?_) ?_; rotate_left
    · simp only [opsL_cons, opsL_nil, List.getElem?_toArray, List.getElem?_cons_zero, List.getElem?_cons_succ, optL_some]
      simp +contextual (maxSteps := 2000000) (disch := (first | omega | (simp only [SZ]; first | done | omega) | (simp only [TS] at *; omega))) only [RZ, ovw, oneC, Nat.reduceAdd, Nat.reduceMul, Nat.reduceSub, Nat.reduceEqDiff, Nat.reduceLT, ↓reduceIte, Int.reduceToNat, Nat.reduceLeDiff]
      exact rfl
    refine Ord_one 7 (by kernel_rfl) rfl ?_
    simp +contextual (maxSteps := 2000000) (disch := (first | omega | (simp only [SZ]; first | done | omega) | (simp only [TS] at *; omega))) only [RZ, ovw, oneC, Nat.reduceAdd, Nat.reduceMul, Nat.reduceSub, Nat.reduceEqDiff, Nat.reduceLT, ↓reduceIte, Int.reduceToNat, Nat.reduceLeDiff]
    refine (rhit_any ⟨#[98, 111, 110, 117, 115]⟩ t.bonus (u1) (by decide) hb).mono ?_
    rintro e u2 ⟨hB2, r2, rfl, hr2, hs2⟩
    refine ⟨_, rfl, ?_⟩
    have hJ2 := hJ1.trans (hB2.mono hz1)
    have hz2 := hJ2.size
    rw [show (⟨#[98, 111, 110, 117, 115]⟩ : ByteArray).size = 5 from rfl] at hs2
    refine ⟨hJ2, ?_⟩
    refine Ord_reads (τ := ?tc2) [8] 3 rfl (by kernel_rfl) (by kernel_rfl) (fun _ _ _ h => h) hJ2 (fun w7 h7 => ?_) ?_; rotate_left
    · simp only [opsL_cons, opsL_nil, List.getElem?_toArray, List.getElem?_cons_zero, List.getElem?_cons_succ, optL_some]
      simp +contextual (maxSteps := 2000000) (disch := (first | omega | (simp only [SZ]; first | done | omega) | (simp only [TS] at *; omega))) only [RZ, ovw, oneC, Nat.reduceAdd, Nat.reduceMul, Nat.reduceSub, Nat.reduceEqDiff, Nat.reduceLT, ↓reduceIte, Int.reduceToNat, Nat.reduceLeDiff]
      exact rfl
    refine Ord_one 11 (by kernel_rfl) rfl ?_
    simp +contextual (maxSteps := 2000000) (disch := (first | omega | (simp only [SZ]; first | done | omega) | (simp only [TS] at *; omega))) only [RZ, ovw, oneC, Nat.reduceAdd, Nat.reduceMul, Nat.reduceSub, Nat.reduceEqDiff, Nat.reduceLT, ↓reduceIte, Int.reduceToNat, Nat.reduceLeDiff]
    refine (rhit_any ⟨#[101, 120, 116, 114, 97]⟩ t.extra (u2) (by decide) he).mono ?_
    rintro e u3 ⟨hB3, r3, rfl, hr3, hs3⟩
    refine ⟨_, rfl, ?_⟩
    have hJ3 := hJ2.trans (hB3.mono hz2)
    have hz3 := hJ3.size
    rw [show (⟨#[101, 120, 116, 114, 97]⟩ : ByteArray).size = 5 from rfl] at hs3
    refine ⟨hJ3, ?_⟩
    refine Ord_chainS _ [12, 13] _ _ _ (by kernel_rfl) ?_
    simp only [opsL_cons, opsL_nil, List.getElem?_toArray, List.getElem?_cons_zero, List.getElem?_cons_succ, optL_some]
    simp +contextual (maxSteps := 2000000) (disch := (first | omega | (simp only [SZ]; first | done | omega) | (simp only [TS] at *; omega))) only [RZ, ovw, oneC, Nat.reduceAdd, Nat.reduceMul, Nat.reduceSub, Nat.reduceEqDiff, Nat.reduceLT, ↓reduceIte, Int.reduceToNat, Nat.reduceLeDiff,  EC_op, EC_nil, hJ3]
    refine ⟨_, rfl, ?_, ?_⟩
    · simp [bs_append, modeW, h0, q1, q6, q7, q8, hr1, hr2, hr3]
    · simp only [SZ]; omega
  rintro σ w2 ⟨hB2, r, f3, hr, hrs, f1⟩
  have hF2 := b0.trans (hB2.mono hz0)
  have hz2 := hB2.size
  have r2 := r0.below hB2
  have hL := Row.new w2 9 [.string ⟨#[]⟩, .string ⟨#[32, 102, 105, 120, 101, 100, 32]⟩, .string ⟨#[32, 115, 104, 97, 114, 101, 32]⟩, .string ⟨#[32, 106, 97, 99, 107, 112, 111, 116, 32]⟩]
  have hBl := below_alloc w2 (.cells #[.string ⟨#[]⟩, .string ⟨#[32, 102, 105, 120, 101, 100, 32]⟩, .string ⟨#[32, 115, 104, 97, 114, 101, 32]⟩, .string ⟨#[32, 106, 97, 99, 107, 112, 111, 116, 32]⟩] 9)
  replace hL : Row (w2.alloc (.cells #[.string ⟨#[]⟩, .string ⟨#[32, 102, 105, 120, 101, 100, 32]⟩, .string ⟨#[32, 115, 104, 97, 114, 101, 32]⟩, .string ⟨#[32, 106, 97, 99, 107, 112, 111, 116, 32]⟩] 9)) w2.heap.size 9 [.string ⟨#[]⟩, .string ⟨#[32, 102, 105, 120, 101, 100, 32]⟩, .string ⟨#[32, 115, 104, 97, 114, 101, 32]⟩, .string ⟨#[32, 106, 97, 99, 107, 112, 111, 116, 32]⟩] := hL
  refine W_piece fun K hK hX => ?_
  simp +contextual (maxSteps := 2000000) (disch := (first | omega | (simp only [SZ]; first | done | omega) | (simp only [TS] at *; omega))) only [RZ, ovw, oneC, Nat.reduceAdd, Nat.reduceMul, Nat.reduceSub, Nat.reduceEqDiff, Nat.reduceLT, ↓reduceIte, Int.reduceToNat, Nat.reduceLeDiff,  f1, f3]
  refine hK _ _ ?_
  clear hK hX K
  generalize w2.alloc (.cells #[.string ⟨#[]⟩, .string ⟨#[32, 102, 105, 120, 101, 100, 32]⟩, .string ⟨#[32, 115, 104, 97, 114, 101, 32]⟩, .string ⟨#[32, 106, 97, 99, 107, 112, 111, 116, 32]⟩] 9) = w3 at hL hBl ⊢
  have hF3 := hF2.trans (hBl.mono (Nat.le_trans hz0 hz2))
  have r3 := r2.below hBl
  have hz3 := hF3.size
  have hks := kindS_size t.kind
  obtain ⟨kn, hkn⟩ : ∃ k : Nat, t.kind = k := ⟨t.kind.toNat, by omega⟩
  have hlc : ∀ w7, Below w3.heap.size w3 w7 → w7.cell? ⟨w2.heap.size, kn, none⟩ = some (.string (kindS t.kind)) := fun w7 h7 => by
    refine (hL.below h7).cell (i := kn) ?_
    have : kn = 1 ∨ kn = 2 ∨ kn = 3 := by omega
    rw [hkn]
    rcases this with rfl | rfl | rfl <;> rfl
  simp +contextual (maxSteps := 2000000) (disch := (first | omega | (simp only [SZ]; first | done | omega) | (simp only [TS] at *; omega))) only [RZ, ovw, oneC, Nat.reduceAdd, Nat.reduceMul, Nat.reduceSub, Nat.reduceEqDiff, Nat.reduceLT, ↓reduceIte, Int.reduceToNat, Nat.reduceLeDiff,  f1, f3]
  have hJ0 : Below w3.heap.size w3 w3.drew := below_drew (Below.refl _ _)
  refine Raw_ord (fun w' => Below w3.heap.size w3 w') 13 rfl MX ?_
  refine Ord_reads (τ := ?td0) [0, 1, 2, 3, 4, 5, 6, 7, 8] 4 rfl (by kernel_rfl) (by kernel_rfl) (fun _ _ _ h => h) hJ0 (fun w7 h7 => ?_) ?_; rotate_left
  · have r7 := r3.below h7
    have x4 := r7.cell (i := 4) rfl
    rw [hkn] at x4
    have x5 := r7.cell (i := 5) rfl
    have y := hlc w7 h7
    simp only [opsL_cons, opsL_nil, List.getElem?_toArray, List.getElem?_cons_zero, List.getElem?_cons_succ, optL_some]
    simp +contextual (maxSteps := 2000000) (disch := (first | omega | (simp only [SZ]; first | done | omega) | (simp only [TS] at *; omega))) only [RZ, ovw, oneC, Nat.reduceAdd, Nat.reduceMul, Nat.reduceSub, Nat.reduceEqDiff, Nat.reduceLT, ↓reduceIte, Int.reduceToNat, Nat.reduceLeDiff,  f1, f3, x4, x5, y]
    exact rfl
  refine Ord_one 9 (by kernel_rfl) rfl ?_
  simp +contextual (maxSteps := 2000000) (disch := (first | omega | (simp only [SZ]; first | done | omega) | (simp only [TS] at *; omega))) only [RZ, ovw, oneC, Nat.reduceAdd, Nat.reduceMul, Nat.reduceSub, Nat.reduceEqDiff, Nat.reduceLT, ↓reduceIte, Int.reduceToNat, Nat.reduceLeDiff]
  refine (rformat_any t.value (w3.drew) hv).mono ?_
  rintro e u1 ⟨rfl, hB1⟩
  refine ⟨_, rfl, ?_⟩
  have hJ1 := hJ0.trans hB1
  have hz1 := hJ1.size
  refine ⟨hJ1, ?_⟩
  refine Ord_chainS _ [10, 11, 12] _ _ _ (by kernel_rfl) ?_
  simp only [opsL_cons, opsL_nil, List.getElem?_toArray, List.getElem?_cons_zero, List.getElem?_cons_succ, optL_some]
  simp +contextual (maxSteps := 2000000) (disch := (first | omega | (simp only [SZ]; first | done | omega) | (simp only [TS] at *; omega))) only [RZ, ovw, oneC, Nat.reduceAdd, Nat.reduceMul, Nat.reduceSub, Nat.reduceEqDiff, Nat.reduceLT, ↓reduceIte, Int.reduceToNat, Nat.reduceLeDiff,  EC_op, EC_nil, hJ1, f1, f3]
  refine ⟨hF3.trans (hJ1.mono hz3), _, rfl, ?_, ?_⟩
  · simp only [bs_append, bs_fmtB, bs_kindS, hr, show bs ⟨#[59, 10]⟩ = asc ";\n" by decide +kernel, lineG, It.words]
    simp
  · simp only [SZ]; omega
end Go.Proofs.YtbdkggnajipdhaaGreatDoor
/- Walks: the reference's printer of games: Days, printDays. -/
namespace Go.Proofs.YtbdkggnajipdhaaGreatDoor
open Go.RowKit
set_option maxRecDepth 100000
theorem dayC_lits : dayC = [.string ⟨#[109, 111, 110]⟩, .string ⟨#[116, 117, 101]⟩, .string ⟨#[119, 101, 100]⟩, .string ⟨#[116, 104, 117]⟩, .string ⟨#[102, 114, 105]⟩, .string ⟨#[115, 97, 116]⟩, .string ⟨#[115, 117, 110]⟩] := by kernel_rfl
theorem rDays_any (w : World) : Calls Tryz.prog 83 #[] w fun e w' => Below w.heap.size w w' ∧ e = .returned (.slice (some ⟨w.heap.size, 0, none⟩) 7 7) ∧ Row w' w.heap.size 9 dayC := by
  refine calls_W (l := []) Tryz.func83 rfl _ Tryz.ntmps83 (by simp) ?_
  simp +contextual (maxSteps := 2000000) (disch := (first | omega | (simp only [SZ]; first | done | omega) | (simp only [TS] at *; omega))) only [RZ, ovw, oneC, Nat.reduceAdd, Nat.reduceMul, Nat.reduceSub, Nat.reduceEqDiff, Nat.reduceLT, ↓reduceIte, Int.reduceToNat, Nat.reduceLeDiff]
  rw [dayC_lits]
  exact ⟨below_alloc w _, Row.new w 9 [.string ⟨#[109, 111, 110]⟩, .string ⟨#[116, 117, 101]⟩, .string ⟨#[119, 101, 100]⟩, .string ⟨#[116, 104, 117]⟩, .string ⟨#[102, 114, 105]⟩, .string ⟨#[115, 97, 116]⟩, .string ⟨#[115, 117, 110]⟩]⟩
theorem days_lits : bs ⟨#[32, 32, 100, 97, 121, 115]⟩ = 32 :: 32 :: asc "days" ∧ bs ⟨#[32, 97, 116, 32]⟩ = 32 :: (asc "at" ++ [32]) ∧ bs ⟨#[32, 58, 32]⟩ = 32 :: (asc ":" ++ [32]) ∧ bs ⟨#[32]⟩ = [32] ∧ bs ⟨#[59, 10]⟩ = asc ";\n" := by decide +kernel
set_option maxHeartbeats 4000000 in
theorem rprintDays_any (G : Gm) (Va Vt : Value) (w : World) (hd0 : 0 ≤ G.n 9) (hd1 : G.n 9 ≤ 127) (ht0 : 0 ≤ G.n 10) (ht1 : G.n 10 ≤ 1439) :
    Calls Tryz.prog 43 #[.agg (gmV G Va Vt).toArray] w fun e w' => Below w.heap.size w w' ∧ ∃ r, e = .returned (.string r) ∧ bs r = (daysI G.n).flatMap lineG ∧ r.size ≤ 1000 := by
  refine calls_W (l := [_]) Tryz.func43 rfl _ Tryz.ntmps43 (by simp) ?_
  obtain ⟨q1, q2, q3, q4, q5⟩ := days_lits
  have r0 := Row.new w 26 (gmV G Va Vt)
  have b0 := below_alloc w (.cells (gmV G Va Vt).toArray 26)
  refine W_piece fun K hK hX => ?_
  simp +contextual (maxSteps := 2000000) (disch := (first | omega | (simp only [SZ]; first | done | omega) | (simp only [TS] at *; omega))) only [RZ, ovw, oneC, Nat.reduceAdd, Nat.reduceMul, Nat.reduceSub, Nat.reduceEqDiff, Nat.reduceLT, ↓reduceIte, Int.reduceToNat, Nat.reduceLeDiff]
  refine hK _ _ ?_
  clear hK hX K
  generalize w.alloc (.cells (gmV G Va Vt).toArray 26) = w1 at r0 b0 ⊢
  have hz0 := b0.size
  have c9 : w1.cell? ⟨w.heap.size, 10, none⟩ = some (.int .i64 (G.n 9)) := r0.cell (i := 10) rfl
  refine W_piece fun K hK hX => ?_
  refine W_piece fun K2 hK2 hX2 => ?_
  simp +contextual (maxSteps := 2000000) (disch := (first | omega | (simp only [SZ]; first | done | omega) | (simp only [TS] at *; omega))) only [RZ, ovw, oneC, Nat.reduceAdd, Nat.reduceMul, Nat.reduceSub, Nat.reduceEqDiff, Nat.reduceLT, ↓reduceIte, Int.reduceToNat, Nat.reduceLeDiff,  c9]
  refine hK2 _ _ ?_
  clear hK2 hX2 K2
  by_cases h9 : G.n 9 = 0
  · rw [show decide (G.n 9 = 0) = true by simp [h9]]
    refine W_if_t rfl ?_
    refine W_piece fun K2 hK2 hX2 => ?_
    simp +contextual (maxSteps := 2000000) (disch := (first | omega | (simp only [SZ]; first | done | omega) | (simp only [TS] at *; omega))) only [RZ, ovw, oneC, Nat.reduceAdd, Nat.reduceMul, Nat.reduceSub, Nat.reduceEqDiff, Nat.reduceLT, ↓reduceIte, Int.reduceToNat, Nat.reduceLeDiff]
    refine hK2 _ _ ?_
    rw [W_ret]
    refine hX _ _ _ (fun h => by cases h) ?_
    simp +contextual (maxSteps := 2000000) (disch := (first | omega | (simp only [SZ]; first | done | omega) | (simp only [TS] at *; omega))) only [RZ, ovw, oneC, Nat.reduceAdd, Nat.reduceMul, Nat.reduceSub, Nat.reduceEqDiff, Nat.reduceLT, ↓reduceIte, Int.reduceToNat, Nat.reduceLeDiff]
    refine ⟨b0, _, rfl, ?_, ?_⟩
    · unfold daysI; rw [if_pos h9]; rfl
    · exact Nat.zero_le _
  rw [show decide (G.n 9 = 0) = false by simp [h9]]
  refine W_if_f rfl ?_
  rw [W_skip]
  refine hK _ _ ?_
  clear hK hX K c9
  obtain ⟨dd, hdd⟩ : ∃ d : Nat, G.n 9 = d := ⟨(G.n 9).toNat, by omega⟩
  refine W_piece fun K hK hX => ?_
  simp +contextual (maxSteps := 2000000) (disch := (first | omega | (simp only [SZ]; first | done | omega) | (simp only [TS] at *; omega))) only [RZ, ovw, oneC, Nat.reduceAdd, Nat.reduceMul, Nat.reduceSub, Nat.reduceEqDiff, Nat.reduceLT, ↓reduceIte, Int.reduceToNat, Nat.reduceLeDiff]
  refine hK _ _ ?_
  clear hK hX K
  refine W_piece fun K hK hX => ?_
  simp +contextual (maxSteps := 2000000) (disch := (first | omega | (simp only [SZ]; first | done | omega) | (simp only [TS] at *; omega))) only [RZ, ovw, oneC, Nat.reduceAdd, Nat.reduceMul, Nat.reduceSub, Nat.reduceEqDiff, Nat.reduceLT, ↓reduceIte, Int.reduceToNat, Nat.reduceLeDiff]
  refine (rDays_any w1).mono ?_
  rintro e w2 ⟨hB2, rfl, hrd⟩
  refine ⟨_, rfl, ?_⟩
  try simp +contextual (maxSteps := 2000000) (disch := (first | omega | (simp only [SZ]; first | done | omega) | (simp only [TS] at *; omega))) only [RZ, ovw, oneC, Nat.reduceAdd, Nat.reduceMul, Nat.reduceSub, Nat.reduceEqDiff, Nat.reduceLT, ↓reduceIte, Int.reduceToNat, Nat.reduceLeDiff]
  refine hK _ _ ?_
  clear hK hX K
  have hF2 := b0.trans (hB2.mono hz0)
  have r2 := r0.below hB2
  have hzF := hF2.size
  refine W_cutS (fun σ w3 => w3 = w2 ∧ ∃ r, σ 1 = .pointer (some ⟨w.heap.size, 0, none⟩) ∧ σ 3 = .string r ∧ bs r = 32 :: 32 :: (asc "days" ++ (dayL dd).flatMap (32 :: ·)) ∧ r.size ≤ 200) ?_ ?_
  rotate_left
  · refine W_piece fun K hK hX => ?_
    simp +contextual (maxSteps := 2000000) (disch := (first | omega | (simp only [SZ]; first | done | omega) | (simp only [TS] at *; omega))) only [RZ, ovw, oneC, Nat.reduceAdd, Nat.reduceMul, Nat.reduceSub, Nat.reduceEqDiff, Nat.reduceLT, ↓reduceIte, Int.reduceToNat, Nat.reduceLeDiff]
    refine hK _ _ ?_
    clear hK hX K
    rw [W_block, W_loop]
    refine Raw_loop (fun σ w3 => w3 = w2 ∧ ∃ (k : Nat) (r : ByteArray), k ≤ 7 ∧ bs r = 32 :: 32 :: (asc "days" ++ (dayK dd k).flatMap (32 :: ·)) ∧ r.size ≤ 10 + 5 * k ∧ σ 1 = .pointer (some ⟨w.heap.size, 0, none⟩) ∧ σ 3 = .string r ∧ σ 4 = .slice (some ⟨w1.heap.size, 0, none⟩) 7 7 ∧ σ 5 = .int .i64 k) (fun σ _ => 7 - (intOf (σ 5)).toNat) ?_ ?_
    · exact ⟨rfl, 0, ⟨#[32, 32, 100, 97, 121, 115]⟩, by omega, by rw [q1]; rfl, by decide, rfl, rfl, rfl, rfl⟩
    rintro σ w3 ⟨rfl, k, r, hk, hr, hrs, f1, f3, f4, f5⟩ K hK
    refine W_piece fun K1 hK1 hX1 => ?_
    refine W_piece fun K2 hK2 hX2 => ?_
    simp +contextual (maxSteps := 2000000) (disch := (first | omega | (simp only [SZ]; first | done | omega) | (simp only [TS] at *; omega))) only [RZ, ovw, oneC, Nat.reduceAdd, Nat.reduceMul, Nat.reduceSub, Nat.reduceEqDiff, Nat.reduceLT, ↓reduceIte, Int.reduceToNat, Nat.reduceLeDiff,  f1, f3, f4, f5]
    refine hK2 _ _ ?_
    clear hK2 hX2 K2
    (refine W_if rfl (fun hc => ?_) (fun hc => ?_) <;> (try simp only [TS] at hc))
    · have hk7 : k < 7 := by omega
      obtain ⟨d, hd⟩ : ∃ d, dayW[k]? = some d := ⟨_, List.getElem?_eq_getElem (show k < 7 by omega)⟩
      have hdc : w3.cell? ⟨w1.heap.size, k, none⟩ = some (.string (toBA d)) := hrd.cell (i := k) (by unfold dayC; rw [List.getElem?_map, hd]; rfl)
      have hdb : bs (toBA d) = d := by
        have hall : dayW.all (fun d => d.all fun c => decide (c < 256)) = true := by decide +kernel
        have := List.all_eq_true.1 hall d (List.mem_of_getElem? hd)
        exact bs_toBA fun c hc => by have := List.all_eq_true.1 this c hc; simpa using this
      have hdl : (toBA d).size ≤ 3 := by
        have hall : dayW.all (fun d => decide ((toBA d).size ≤ 3)) = true := by decide +kernel
        have := List.all_eq_true.1 hall d (List.mem_of_getElem? hd)
        simpa using this
      have hgd : dayW.getD k [] = d := by rw [List.getD_eq_getElem?_getD, hd]; rfl
      have d9 : w3.cell? ⟨w.heap.size, 10, none⟩ = some (.int .i64 (G.n 9)) := r2.cell (i := 10) rfl
      rw [hdd] at d9
      have hshr : ∀ (x y : Operand) (w : World), vBin Tryz.prog .shr 3 x y (.int .i64 dd) (.int .i64 k) w = .ok (.value (.int .i64 ((dd / 2 ^ k : Nat) : Int))) w := fun x y w => vBin_shrN hk7
      have hs := dayK_succ dd k
      have hle : dd / 2 ^ k ≤ dd := Nat.div_le_self _ _
      generalize dd / 2 ^ k = dk at *
      rw [W_skip]
      refine hK1 _ _ ?_
      clear hK1 hX1 K1
      refine W_piece fun K1 hK1 hX1 => ?_
      rw [W_block]
      refine W_piece fun K2 hK2 hX2 => ?_
      simp +contextual (maxSteps := 2000000) (disch := (first | omega | (simp only [SZ]; first | done | omega) | (simp only [TS] at *; omega))) only [RZ, ovw, oneC, Nat.reduceAdd, Nat.reduceMul, Nat.reduceSub, Nat.reduceEqDiff, Nat.reduceLT, ↓reduceIte, Int.reduceToNat, Nat.reduceLeDiff,  f1, f5, d9, hshr]
      refine hK2 _ _ ?_
      clear hK2 hX2 K2
      by_cases hb : dk % 2 = 1
      · rw [show decide (((dk : Nat) : Int) % 2 = 1) = true by simp; omega]
        rw [if_pos hb, hgd] at hs
        refine W_if_t rfl ?_
        simp +contextual (maxSteps := 2000000) (disch := (first | omega | (simp only [SZ]; first | done | omega) | (simp only [TS] at *; omega))) only [RZ, ovw, oneC, Nat.reduceAdd, Nat.reduceMul, Nat.reduceSub, Nat.reduceEqDiff, Nat.reduceLT, ↓reduceIte, Int.reduceToNat, Nat.reduceLeDiff,  f1, f3, f4, f5, hdc]
        refine hK1 _ _ ?_
        clear hK1 hX1 K1
        simp +contextual (maxSteps := 2000000) (disch := (first | omega | (simp only [SZ]; first | done | omega) | (simp only [TS] at *; omega))) only [RZ, ovw, oneC, Nat.reduceAdd, Nat.reduceMul, Nat.reduceSub, Nat.reduceEqDiff, Nat.reduceLT, ↓reduceIte, Int.reduceToNat, Nat.reduceLeDiff,  f1, f3, f4, f5]
        refine hK _ _ ⟨rfl, k + 1, _, by omega, ?_, ?_, ?_, rfl, ?_, ?_⟩ ?_
        · rw [hs]
          simp [bs_append, hr, hdb, q4]
        · simp only [SZ]; omega
        · simp +contextual (maxSteps := 2000000) (disch := (first | omega | (simp only [SZ]; first | done | omega) | (simp only [TS] at *; omega))) only [RZ, ovw, oneC, Nat.reduceAdd, Nat.reduceMul, Nat.reduceSub, Nat.reduceEqDiff, Nat.reduceLT, ↓reduceIte, Int.reduceToNat, Nat.reduceLeDiff,  f1, f3, f4, f5]
        · simp +contextual (maxSteps := 2000000) (disch := (first | omega | (simp only [SZ]; first | done | omega) | (simp only [TS] at *; omega))) only [RZ, ovw, oneC, Nat.reduceAdd, Nat.reduceMul, Nat.reduceSub, Nat.reduceEqDiff, Nat.reduceLT, ↓reduceIte, Int.reduceToNat, Nat.reduceLeDiff,  f1, f3, f4, f5]
        · simp +contextual (maxSteps := 2000000) (disch := (first | omega | (simp only [SZ]; first | done | omega) | (simp only [TS] at *; omega))) only [RZ, ovw, oneC, Nat.reduceAdd, Nat.reduceMul, Nat.reduceSub, Nat.reduceEqDiff, Nat.reduceLT, ↓reduceIte, Int.reduceToNat, Nat.reduceLeDiff,  f1, f3, f4, f5]
        · simp +contextual (maxSteps := 2000000) (disch := (first | omega | (simp only [SZ]; first | done | omega) | (simp only [TS] at *; omega))) only [RZ, ovw, oneC, Nat.reduceAdd, Nat.reduceMul, Nat.reduceSub, Nat.reduceEqDiff, Nat.reduceLT, ↓reduceIte, Int.reduceToNat, Nat.reduceLeDiff,  intOf, f5]
          omega
      · rw [show decide (((dk : Nat) : Int) % 2 = 1) = false by simp; omega]
        rw [if_neg hb, List.append_nil] at hs
        refine W_if_f rfl ?_
        rw [W_skip, inX_normal]
        refine hK1 _ _ ?_
        clear hK1 hX1 K1
        simp +contextual (maxSteps := 2000000) (disch := (first | omega | (simp only [SZ]; first | done | omega) | (simp only [TS] at *; omega))) only [RZ, ovw, oneC, Nat.reduceAdd, Nat.reduceMul, Nat.reduceSub, Nat.reduceEqDiff, Nat.reduceLT, ↓reduceIte, Int.reduceToNat, Nat.reduceLeDiff,  f1, f3, f4, f5]
        refine hK _ _ ⟨rfl, k + 1, r, by omega, by rw [hs]; exact hr, by omega, ?_⟩ ?_
        · simp +contextual (maxSteps := 2000000) (disch := (first | omega | (simp only [SZ]; first | done | omega) | (simp only [TS] at *; omega))) only [RZ, ovw, oneC, Nat.reduceAdd, Nat.reduceMul, Nat.reduceSub, Nat.reduceEqDiff, Nat.reduceLT, ↓reduceIte, Int.reduceToNat, Nat.reduceLeDiff,  f1, f3, f4, f5]
        · simp +contextual (maxSteps := 2000000) (disch := (first | omega | (simp only [SZ]; first | done | omega) | (simp only [TS] at *; omega))) only [RZ, ovw, oneC, Nat.reduceAdd, Nat.reduceMul, Nat.reduceSub, Nat.reduceEqDiff, Nat.reduceLT, ↓reduceIte, Int.reduceToNat, Nat.reduceLeDiff,  intOf, f5]
          omega
    · have hk7 : k = 7 := by omega
      subst hk7
      simp +contextual (maxSteps := 2000000) (disch := (first | omega | (simp only [SZ]; first | done | omega) | (simp only [TS] at *; omega))) only [RZ, ovw, oneC, Nat.reduceAdd, Nat.reduceMul, Nat.reduceSub, Nat.reduceEqDiff, Nat.reduceLT, ↓reduceIte, Int.reduceToNat, Nat.reduceLeDiff,  f1, f3, f4, f5]
      refine hX1 _ _ _ (fun h => by cases h) ?_
      simp +contextual (maxSteps := 2000000) (disch := (first | omega | (simp only [SZ]; first | done | omega) | (simp only [TS] at *; omega))) only [RZ, ovw, oneC, Nat.reduceAdd, Nat.reduceMul, Nat.reduceSub, Nat.reduceEqDiff, Nat.reduceLT, ↓reduceIte, Int.reduceToNat, Nat.reduceLeDiff,  f1, f3, f4, f5]
      first | exact ⟨r, rfl, hr, by omega⟩ | exact ⟨hr, by omega⟩
  rintro σ w3 ⟨rfl, r, f1, f3, hr, hrs⟩
  have hn1 : numR (G.n 10 / 60) := by unfold numR nR; omega
  have hn2 : numR (G.n 10 % 60) := by unfold numR nR; omega
  have z1 := fmtB_size hn1
  have z2 := fmtB_size hn2
  simp +contextual (maxSteps := 2000000) (disch := (first | omega | (simp only [SZ]; first | done | omega) | (simp only [TS] at *; omega))) only [RZ, ovw, oneC, Nat.reduceAdd, Nat.reduceMul, Nat.reduceSub, Nat.reduceEqDiff, Nat.reduceLT, ↓reduceIte, Int.reduceToNat, Nat.reduceLeDiff,  f1, f3]
  have hJ0 : Below w3.heap.size w3 w3.drew := below_drew (Below.refl _ _)
  refine Raw_ord (fun w' => Below w3.heap.size w3 w') 15 rfl MX ?_
  refine Ord_reads (τ := ?ta0) [0, 1, 2, 3, 4, 8, 9, 10] 7 rfl (by kernel_rfl) (by kernel_rfl) (fun _ _ _ h => h) hJ0 (fun w7 h7 => ?_) ?_; rotate_left
  · have r7 := r2.below h7
    have x11 : w7.cell? ⟨w.heap.size, 11, none⟩ = some (.int .i64 (G.n 10)) := r7.cell (i := 11) rfl
    simp only [opsL_cons, opsL_nil, List.getElem?_toArray, List.getElem?_cons_zero, List.getElem?_cons_succ, optL_some]
    simp +contextual (maxSteps := 2000000) (disch := (first | omega | (simp only [SZ]; first | done | omega) | (simp only [TS] at *; omega))) only [RZ, ovw, oneC, Nat.reduceAdd, Nat.reduceMul, Nat.reduceSub, Nat.reduceEqDiff, Nat.reduceLT, ↓reduceIte, Int.reduceToNat, Nat.reduceLeDiff,  f1, f3, x11]
    exact rfl
  refine Ord_one 5 (by kernel_rfl) rfl ?_
  simp +contextual (maxSteps := 2000000) (disch := (first | omega | (simp only [SZ]; first | done | omega) | (simp only [TS] at *; omega))) only [RZ, ovw, oneC, Nat.reduceAdd, Nat.reduceMul, Nat.reduceSub, Nat.reduceEqDiff, Nat.reduceLT, ↓reduceIte, Int.reduceToNat, Nat.reduceLeDiff]
  refine (rformat_any (G.n 10 / 60) (w3.drew) hn1).mono ?_
  rintro e u1 ⟨rfl, hB1⟩
  refine ⟨_, rfl, ?_⟩
  have hJ1 := hJ0.trans hB1
  have hz1 := hJ1.size
  refine ⟨hJ1, ?_⟩
  refine Ord_reads (τ := ?ta1) [6, 7] 4 rfl (by kernel_rfl) (by kernel_rfl) (fun _ _ _ h => h) hJ1 (fun w7 h7 => ?_) ?_; rotate_left
  · simp only [opsL_cons, opsL_nil, List.getElem?_toArray, List.getElem?_cons_zero, List.getElem?_cons_succ, optL_some]
    simp +contextual (maxSteps := 2000000) (disch := (first | omega | (simp only [SZ]; first | done | omega) | (simp only [TS] at *; omega))) only [RZ, ovw, oneC, Nat.reduceAdd, Nat.reduceMul, Nat.reduceSub, Nat.reduceEqDiff, Nat.reduceLT, ↓reduceIte, Int.reduceToNat, Nat.reduceLeDiff]
    exact rfl
  refine Ord_one 11 (by kernel_rfl) rfl ?_
  simp +contextual (maxSteps := 2000000) (disch := (first | omega | (simp only [SZ]; first | done | omega) | (simp only [TS] at *; omega))) only [RZ, ovw, oneC, Nat.reduceAdd, Nat.reduceMul, Nat.reduceSub, Nat.reduceEqDiff, Nat.reduceLT, ↓reduceIte, Int.reduceToNat, Nat.reduceLeDiff]
  refine (rformat_any (G.n 10 % 60) (u1) hn2).mono ?_
  rintro e u2 ⟨rfl, hB2⟩
  refine ⟨_, rfl, ?_⟩
  have hJ2 := hJ1.trans (hB2.mono hz1)
  have hz2 := hJ2.size
  refine ⟨hJ2, ?_⟩
  refine Ord_chainS _ [12, 13, 14] _ _ _ (by kernel_rfl) ?_
  simp only [opsL_cons, opsL_nil, List.getElem?_toArray, List.getElem?_cons_zero, List.getElem?_cons_succ, optL_some]
  simp +contextual (maxSteps := 2000000) (disch := (first | omega | (simp only [SZ]; first | done | omega) | (simp only [TS] at *; omega))) only [RZ, ovw, oneC, Nat.reduceAdd, Nat.reduceMul, Nat.reduceSub, Nat.reduceEqDiff, Nat.reduceLT, ↓reduceIte, Int.reduceToNat, Nat.reduceLeDiff,  EC_op, EC_nil, hJ2, f1, f3]
  refine ⟨hF2.trans (hJ2.mono hzF), _, rfl, ?_, ?_⟩
  · unfold daysI
    rw [if_neg h9, hdd, Int.toNat_natCast]
    simp only [bs_append, bs_fmtB, hr, q2, q3, q5, lineG, It.words, List.flatMap_cons, List.flatMap_nil]
    simp
  · simp only [SZ]; omega
end Go.Proofs.YtbdkggnajipdhaaGreatDoor
