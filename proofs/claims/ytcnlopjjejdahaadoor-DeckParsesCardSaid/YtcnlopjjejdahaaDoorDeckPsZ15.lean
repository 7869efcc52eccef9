/- Texts laid one behind the other: RfA, RfC, LexE. Each says at its head what it proves. -/
import Derived.Test.YtcnlopjjejdahaaDoorY14
set_option linter.unusedSimpArgs false
/- Walks: the reference's Size, Format, Hex, Mix. -/
namespace Go.Proofs.YtcnlopjjejdahaaDoor
open Go.RowKit
set_option maxRecDepth 100000
theorem toBA_size (l : List Nat) : (toBA l).size = l.length := by
  unfold toBA
  show (Array.size _) = _
  simp
theorem fmtI_len {n : Int} (h : numR n) : (fmtI n).length ≤ 21 := by unfold fmtI; rw [List.length_map]; exact Lib.itoa_length_le n h.1 h.2
theorem hexd_lt (q : Nat) (h : q < 16) : hexd q < 256 := by have := hexd_bd h; omega
theorem rsize_any (x : Int) (w : World) (hx : numR x) : Calls Tryd.prog 80 #[.int .i64 x] w fun e w' => e = .returned (.int .u64 (x.natAbs : Int)) ∧ w = w' := by
  refine calls_W (l := [_]) Tryd.func80 rfl _ Tryd.ntmps80 (by simp) ?_
  obtain ⟨h0, h1⟩ := hx
  simp +contextual (maxSteps := 2000000) (disch := (first | omega | (simp only [SZ]; done) | (simp only [SZ]; omega) | (simp only [TS] at *; omega))) only [RZ, gval, gslot, fillL, ovw, numb, catL, ldN, agL, okC, oneC, init, Nat.reduceAdd, Nat.reduceMul, Nat.reduceSub, Nat.reduceEqDiff, Nat.reduceLT, ↓reduceIte, Int.reduceToNat, Int.reduceAdd, Int.reduceSub, Int.reduceMul, Int.reduceLT, Int.reduceLE, Int.reduceEq, Nat.reduceLeDiff]
  (refine W_if rfl (fun hc => ?_) (fun hc => ?_) <;> (try simp only [TS] at hc))
  · simp +contextual (maxSteps := 2000000) (disch := (first | omega | (simp only [SZ]; done) | (simp only [SZ]; omega) | (simp only [TS] at *; omega))) only [RZ, gval, gslot, fillL, ovw, numb, catL, ldN, agL, okC, oneC, init, Nat.reduceAdd, Nat.reduceMul, Nat.reduceSub, Nat.reduceEqDiff, Nat.reduceLT, ↓reduceIte, Int.reduceToNat, Int.reduceAdd, Int.reduceSub, Int.reduceMul, Int.reduceLT, Int.reduceLE, Int.reduceEq, Nat.reduceLeDiff]
    exact ret_int (by omega)
  · simp +contextual (maxSteps := 2000000) (disch := (first | omega | (simp only [SZ]; done) | (simp only [SZ]; omega) | (simp only [TS] at *; omega))) only [RZ, gval, gslot, fillL, ovw, numb, catL, ldN, agL, okC, oneC, init, Nat.reduceAdd, Nat.reduceMul, Nat.reduceSub, Nat.reduceEqDiff, Nat.reduceLT, ↓reduceIte, Int.reduceToNat, Int.reduceAdd, Int.reduceSub, Int.reduceMul, Int.reduceLT, Int.reduceLE, Int.reduceEq, Nat.reduceLeDiff]
    exact ret_int (by omega)
theorem one_str (w : World) (x : Nat) (hx : x < 256) : vConvert Tryd.prog 77 9 (.slice (some ⟨w.heap.size, 0, none⟩) 1 1) (w.alloc (.cells #[.int .u8 (x : Int)] 5)) = .ok (.value (.string (toBA [x]))) (w.alloc (.cells #[.int .u8 (x : Int)] 5)) := by
  obtain ⟨s, h1, h2⟩ := bytes_str (w := w.alloc (.cells #[.int .u8 (x : Int)] 5)) (a := ⟨w.heap.size, 0, none⟩) (cap := 1) [x] (fun n hn => by simp at hn; omega) (fun j v hv => by
    rw [addr_add, Nat.zero_add, (new_block w _ _).1 j]
    simpa using hv)
  have e : s = toBA [x] := by rw [← toBA_bs s, h1]
  rw [← e]
  exact h2
theorem rformat_any (n : Int) (w : World) (hn : numR n) : Calls Tryd.prog 51 #[.int .i64 n] w fun e w' => e = .returned (.string (fmtB n)) ∧ Below w.heap.size w w' := by
  refine calls_W (l := [_]) Tryd.func51 rfl _ Tryd.ntmps51 (by simp) ?_
  simp +contextual (maxSteps := 2000000) (disch := (first | omega | (simp only [SZ]; done) | (simp only [SZ]; omega) | (simp only [TS] at *; omega))) only [RZ, gval, gslot, fillL, ovw, numb, catL, ldN, agL, okC, oneC, init, Nat.reduceAdd, Nat.reduceMul, Nat.reduceSub, Nat.reduceEqDiff, Nat.reduceLT, ↓reduceIte, Int.reduceToNat, Int.reduceAdd, Int.reduceSub, Int.reduceMul, Int.reduceLT, Int.reduceLE, Int.reduceEq, Nat.reduceLeDiff]
  refine (rsize_any n w hn).mono ?_
  rintro e w1 ⟨rfl, rfl⟩
  refine ⟨_, rfl, ?_⟩
  have hm0 : n.natAbs ≤ 9223372036854775808 := by have := hn.1; have := hn.2; omega
  have hdl : (dec n.natAbs).length ≤ 21 := by
    have h1 := fmtI_len hn
    by_cases h : n < 0
    · rw [fmtI_neg h] at h1; simp at h1; omega
    · rw [fmtI_nonneg (by omega)] at h1
      rwa [show n.toNat = n.natAbs by omega] at h1
  have hres : fmtI n = if n < 0 then 45 :: dec n.natAbs else dec n.natAbs := by
    by_cases h : n < 0
    · rw [if_pos h, fmtI_neg h]
    · rw [if_neg h, fmtI_nonneg (by omega), show n.toNat = n.natAbs by omega]
  generalize n.natAbs = m at *
  have e1 : (48 : Int) + (m : Int) % 10 = ((48 + m % 10 : Nat) : Int) := by omega
  have hst := one_str w (48 + m % 10) (by omega)
  simp +contextual (maxSteps := 2000000) (disch := (first | omega | (simp only [SZ]; done) | (simp only [SZ]; omega) | (simp only [TS] at *; omega))) only [RZ, gval, gslot, fillL, ovw, numb, catL, ldN, agL, okC, oneC, init, Nat.reduceAdd, Nat.reduceMul, Nat.reduceSub, Nat.reduceEqDiff, Nat.reduceLT, ↓reduceIte, Int.reduceToNat, Int.reduceAdd, Int.reduceSub, Int.reduceMul, Int.reduceLT, Int.reduceLE, Int.reduceEq, Nat.reduceLeDiff,  e1, hst]
  have hB1 := below_alloc w (.cells #[.int .u8 ((48 + m % 10 : Nat) : Int)] 5)
  have hs1 := hB1.size
  generalize w.alloc (.cells #[.int .u8 ((48 + m % 10 : Nat) : Int)] 5) = w1 at *
  clear hst e1
  refine Raw_loop (fun σ w2 => Below w.heap.size w w2 ∧ ∃ (i q : Nat) (Y : List Nat), i ≤ 20 ∧ q ≤ m ∧ q < 10 ^ (20 - i) ∧ (∀ d ∈ Y, d < 256) ∧ (if q < 10 then dec m = Y else dec m = dec (q / 10) ++ Y) ∧ σ 0 = .int .i64 n ∧ σ 3 = .int .u64 q ∧ σ 4 = .string (toBA Y) ∧ σ 5 = .int .i64 i) (fun σ _ => 20 - (intOf (σ 5)).toNat) ?_ ?_
  · simp +contextual (maxSteps := 2000000) (disch := (first | omega | (simp only [SZ]; done) | (simp only [SZ]; omega) | (simp only [TS] at *; omega))) only [RZ, gval, gslot, fillL, ovw, numb, catL, ldN, agL, okC, oneC, init, Nat.reduceAdd, Nat.reduceMul, Nat.reduceSub, Nat.reduceEqDiff, Nat.reduceLT, ↓reduceIte, Int.reduceToNat, Int.reduceAdd, Int.reduceSub, Int.reduceMul, Int.reduceLT, Int.reduceLE, Int.reduceEq, Nat.reduceLeDiff]
    refine ⟨hB1, 0, m, [48 + m % 10], by omega, by omega, by omega, by simp; omega, ?_, rfl, rfl, rfl⟩
    split
    · rw [dec_lt (by assumption), Nat.mod_eq_of_lt (by assumption)]
    · rw [dec_ge (by assumption)]
  clear hB1 hs1
  rintro σ w2 ⟨hB, i, q, Y, hi, hqm, hq, hY, hj, e0, e3, e4, e5⟩ K hK
  have hs2 := hB.size
  have hql : q ≤ 100000000000000000000 := by
    have h1 : 10 ^ (20 - i) ≤ 10 ^ 20 := Nat.pow_le_pow_right (by decide) (by omega)
    have h2 : 10 ^ 20 = 100000000000000000000 := by decide
    omega
  have hYl : Y.length ≤ 21 := by
    split at hj
    · rw [← hj]; exact hdl
    · have := congrArg List.length hj
      rw [List.length_append] at this
      omega
  have hz : (toBA Y).size = Y.length := toBA_size Y
  simp +contextual (maxSteps := 2000000) (disch := (first | omega | (simp only [SZ]; done) | (simp only [SZ]; omega) | (simp only [TS] at *; omega))) only [RZ, gval, gslot, fillL, ovw, numb, catL, ldN, agL, okC, oneC, init, Nat.reduceAdd, Nat.reduceMul, Nat.reduceSub, Nat.reduceEqDiff, Nat.reduceLT, ↓reduceIte, Int.reduceToNat, Int.reduceAdd, Int.reduceSub, Int.reduceMul, Int.reduceLT, Int.reduceLE, Int.reduceEq, Nat.reduceLeDiff,  e0, e3, e4, e5]
  (refine W_if rfl (fun hc => ?_) (fun hc => ?_) <;> (try simp only [TS] at hc))
  · have hq10 : ¬ q < 10 := by omega
    have hi20 : i < 20 := by omega
    clear hc
    rw [if_neg hq10] at hj
    have e6 : (48 : Int) + (q : Int) / 10 % 10 = ((48 + q / 10 % 10 : Nat) : Int) := by omega
    have hst := one_str w2 (48 + q / 10 % 10) (by omega)
    have e7 : (toBA [48 + q / 10 % 10] ++ toBA Y) = toBA ((48 + q / 10 % 10) :: Y) := by
      rw [app_toBA, bs_toBA hY, bs_toBA (by simp; omega)]; rfl
    have e8 : (toBA [48 + q / 10 % 10]).size = 1 := by rw [toBA_size]; rfl
    simp +contextual (maxSteps := 2000000) (disch := (first | omega | (simp only [SZ]; done) | (simp only [SZ]; omega) | (simp only [TS] at *; omega))) only [RZ, gval, gslot, fillL, ovw, numb, catL, ldN, agL, okC, oneC, init, Nat.reduceAdd, Nat.reduceMul, Nat.reduceSub, Nat.reduceEqDiff, Nat.reduceLT, ↓reduceIte, Int.reduceToNat, Int.reduceAdd, Int.reduceSub, Int.reduceMul, Int.reduceLT, Int.reduceLE, Int.reduceEq, Nat.reduceLeDiff,  e0, e3, e4, e5, e6, hst, e7]
    refine hK _ _ ⟨hB.trans ((below_alloc w2 _).mono hs2), i + 1, q / 10, (48 + q / 10 % 10) :: Y, by omega, by omega, ?_, ?_, ?_, ?_⟩ ?_
    · rw [show 20 - i = 20 - (i + 1) + 1 by omega, Nat.pow_succ] at hq
      omega
    · intro d hd
      rcases List.mem_cons.1 hd with rfl | hd
      · omega
      · exact hY d hd
    · split
      · rw [hj, dec_lt (by assumption), Nat.mod_eq_of_lt (by assumption)]; rfl
      · rw [hj, dec_ge (by assumption), List.append_assoc]; rfl
    · simp +contextual (maxSteps := 2000000) (disch := (first | omega | (simp only [SZ]; done) | (simp only [SZ]; omega) | (simp only [TS] at *; omega))) only [RZ, gval, gslot, fillL, ovw, numb, catL, ldN, agL, okC, oneC, init, Nat.reduceAdd, Nat.reduceMul, Nat.reduceSub, Nat.reduceEqDiff, Nat.reduceLT, ↓reduceIte, Int.reduceToNat, Int.reduceAdd, Int.reduceSub, Int.reduceMul, Int.reduceLT, Int.reduceLE, Int.reduceEq, Nat.reduceLeDiff,  e0, e3, e4, e5]
      exact congrArg (Value.int _) (by omega)
    · simp +contextual (maxSteps := 2000000) (disch := (first | omega | (simp only [SZ]; done) | (simp only [SZ]; omega) | (simp only [TS] at *; omega))) only [RZ, gval, gslot, fillL, ovw, numb, catL, ldN, agL, okC, oneC, init, Nat.reduceAdd, Nat.reduceMul, Nat.reduceSub, Nat.reduceEqDiff, Nat.reduceLT, ↓reduceIte, Int.reduceToNat, Int.reduceAdd, Int.reduceSub, Int.reduceMul, Int.reduceLT, Int.reduceLE, Int.reduceEq, Nat.reduceLeDiff,  intOf, e5]
      omega
  · have hq10 : q < 10 := by
      rcases Nat.lt_or_ge i 20 with h | h
      · omega
      · have h1 : 20 - i = 0 := by omega
        rw [h1] at hq
        omega
    rw [if_pos hq10] at hj
    clear hc
    simp +contextual (maxSteps := 2000000) (disch := (first | omega | (simp only [SZ]; done) | (simp only [SZ]; omega) | (simp only [TS] at *; omega))) only [RZ, gval, gslot, fillL, ovw, numb, catL, ldN, agL, okC, oneC, init, Nat.reduceAdd, Nat.reduceMul, Nat.reduceSub, Nat.reduceEqDiff, Nat.reduceLT, ↓reduceIte, Int.reduceToNat, Int.reduceAdd, Int.reduceSub, Int.reduceMul, Int.reduceLT, Int.reduceLE, Int.reduceEq, Nat.reduceLeDiff,  e0, e3, e4, e5]
    have e9 : (⟨#[45]⟩ : ByteArray) ++ toBA Y = toBA (45 :: Y) := by rw [app_toBA, bs_toBA hY]; rfl
    have e10 : (⟨#[45]⟩ : ByteArray).size = 1 := rfl
    have e11 : fmtB n = toBA (fmtI n) := by rw [← bs_fmtB, toBA_bs]
    (refine W_if rfl (fun hc => ?_) (fun hc => ?_) <;> (try simp only [TS] at hc))
    · rw [if_pos hc] at hres
      simp +contextual (maxSteps := 2000000) (disch := (first | omega | (simp only [SZ]; done) | (simp only [SZ]; omega) | (simp only [TS] at *; omega))) only [RZ, gval, gslot, fillL, ovw, numb, catL, ldN, agL, okC, oneC, init, Nat.reduceAdd, Nat.reduceMul, Nat.reduceSub, Nat.reduceEqDiff, Nat.reduceLT, ↓reduceIte, Int.reduceToNat, Int.reduceAdd, Int.reduceSub, Int.reduceMul, Int.reduceLT, Int.reduceLE, Int.reduceEq, Nat.reduceLeDiff,  e0, e3, e4, e5, e9]
      rw [e11, hres, hj]
      exact ⟨rfl, hB⟩
    · rw [if_neg (by omega)] at hres
      simp +contextual (maxSteps := 2000000) (disch := (first | omega | (simp only [SZ]; done) | (simp only [SZ]; omega) | (simp only [TS] at *; omega))) only [RZ, gval, gslot, fillL, ovw, numb, catL, ldN, agL, okC, oneC, init, Nat.reduceAdd, Nat.reduceMul, Nat.reduceSub, Nat.reduceEqDiff, Nat.reduceLT, ↓reduceIte, Int.reduceToNat, Int.reduceAdd, Int.reduceSub, Int.reduceMul, Int.reduceLT, Int.reduceLE, Int.reduceEq, Nat.reduceLeDiff,  e0, e3, e4, e5]
      rw [e11, hres, hj]
      exact ⟨rfl, hB⟩
theorem digS : ∀ q : Fin 16, (⟨#[48, 49, 50, 51, 52, 53, 54, 55, 56, 57, 97, 98, 99, 100, 101, 102]⟩ : ByteArray).extract q.1 (q.1 + 1) = toBA [hexd q.1] := by decide
theorem rhex_any (X : Nat) (w : World) (h1 : X ≤ 18446744073709551615) : Calls Tryd.prog 57 #[.int .u64 X] w fun e w' => e = .returned (.string (toBA (hexT 16 X))) ∧ Below w.heap.size w w' := by
  refine calls_W (l := [_]) Tryd.func57 rfl _ Tryd.ntmps57 (by simp) ?_
  simp +contextual (maxSteps := 2000000) (disch := (first | omega | (simp only [SZ]; done) | (simp only [SZ]; omega) | (simp only [TS] at *; omega))) only [RZ, gval, gslot, fillL, ovw, numb, catL, ldN, agL, okC, oneC, init, Nat.reduceAdd, Nat.reduceMul, Nat.reduceSub, Nat.reduceEqDiff, Nat.reduceLT, ↓reduceIte, Int.reduceToNat, Int.reduceAdd, Int.reduceSub, Int.reduceMul, Int.reduceLT, Int.reduceLE, Int.reduceEq, Nat.reduceLeDiff]
  refine Raw_loop (fun σ w2 => Below w.heap.size w w2 ∧ ∃ i : Nat, i ≤ 16 ∧ σ 0 = .int .u64 ((X / 16 ^ i : Nat) : Int) ∧ σ 3 = .string (toBA (hexT i X)) ∧ σ 4 = .int .i64 i) (fun σ _ => 16 - (intOf (σ 4)).toNat) ?_ ?_
  · simp +contextual (maxSteps := 2000000) (disch := (first | omega | (simp only [SZ]; done) | (simp only [SZ]; omega) | (simp only [TS] at *; omega))) only [RZ, gval, gslot, fillL, ovw, numb, catL, ldN, agL, okC, oneC, init, Nat.reduceAdd, Nat.reduceMul, Nat.reduceSub, Nat.reduceEqDiff, Nat.reduceLT, ↓reduceIte, Int.reduceToNat, Int.reduceAdd, Int.reduceSub, Int.reduceMul, Int.reduceLT, Int.reduceLE, Int.reduceEq, Nat.reduceLeDiff]
    refine ⟨Below.refl _ _, 0, by omega, ?_, rfl, rfl⟩
    rw [Nat.pow_zero, Nat.div_one]
  rintro σ w2 ⟨hB, i, hi, e0, e3, e4⟩ K hK
  have hY : ∀ d ∈ hexT i X, d < 256 := fun d hd => by have := hexT_all i X d hd; omega
  have hz : (toBA (hexT i X)).size = i := by rw [toBA_size, hexT_len]
  have hqle : X / 16 ^ i ≤ X := Nat.div_le_self _ _
  have hq2 : X / 16 ^ (i + 1) = X / 16 ^ i / 16 := by rw [Nat.pow_succ, Nat.div_div_eq_div_mul]
  have hT : hexT (i + 1) X = hexd (X / 16 ^ i % 16) :: hexT i X := rfl
  generalize X / 16 ^ i = q at *
  simp +contextual (maxSteps := 2000000) (disch := (first | omega | (simp only [SZ]; done) | (simp only [SZ]; omega) | (simp only [TS] at *; omega))) only [RZ, gval, gslot, fillL, ovw, numb, catL, ldN, agL, okC, oneC, init, Nat.reduceAdd, Nat.reduceMul, Nat.reduceSub, Nat.reduceEqDiff, Nat.reduceLT, ↓reduceIte, Int.reduceToNat, Int.reduceAdd, Int.reduceSub, Int.reduceMul, Int.reduceLT, Int.reduceLE, Int.reduceEq, Nat.reduceLeDiff,  e0, e3, e4]
  (refine W_if rfl (fun hc => ?_) (fun hc => ?_) <;> (try simp only [TS] at hc))
  · have hi16 : i < 16 := by omega
    clear hc
    have x2 : ((q : Nat) : Int) % 16 = ((q % 16 : Nat) : Int) := by omega
    have x3 : (((q % 16 : Nat) : Int) + 1).toNat = q % 16 + 1 := by omega
    have hsz : (⟨#[48, 49, 50, 51, 52, 53, 54, 55, 56, 57, 97, 98, 99, 100, 101, 102]⟩ : ByteArray).size = 16 := rfl
    have hd := digS ⟨q % 16, by omega⟩
    simp only at hd
    have e7 : toBA [hexd (q % 16)] ++ toBA (hexT i X) = toBA (hexT (i + 1) X) := by
      rw [app_toBA, bs_toBA hY, bs_toBA (by have := hexd_lt (q % 16) (by omega); simpa using this), hT]; rfl
    have e8 : (toBA [hexd (q % 16)]).size = 1 := by rw [toBA_size]; rfl
    simp +contextual (maxSteps := 2000000) (disch := (first | omega | (simp only [SZ]; done) | (simp only [SZ]; omega) | (simp only [TS] at *; omega))) only [RZ, gval, gslot, fillL, ovw, numb, catL, ldN, agL, okC, oneC, init, Nat.reduceAdd, Nat.reduceMul, Nat.reduceSub, Nat.reduceEqDiff, Nat.reduceLT, ↓reduceIte, Int.reduceToNat, Int.reduceAdd, Int.reduceSub, Int.reduceMul, Int.reduceLT, Int.reduceLE, Int.reduceEq, Nat.reduceLeDiff,  e0, e3, e4, x2, x3, hsz, hd, e7]
    refine hK _ _ ⟨hB, i + 1, by omega, ?_⟩ ?_
    · simp +contextual (maxSteps := 2000000) (disch := (first | omega | (simp only [SZ]; done) | (simp only [SZ]; omega) | (simp only [TS] at *; omega))) only [RZ, gval, gslot, fillL, ovw, numb, catL, ldN, agL, okC, oneC, init, Nat.reduceAdd, Nat.reduceMul, Nat.reduceSub, Nat.reduceEqDiff, Nat.reduceLT, ↓reduceIte, Int.reduceToNat, Int.reduceAdd, Int.reduceSub, Int.reduceMul, Int.reduceLT, Int.reduceLE, Int.reduceEq, Nat.reduceLeDiff,  e0, e3, e4]
      rw [hq2]
      exact congrArg (Value.int _) (by omega)
    · simp +contextual (maxSteps := 2000000) (disch := (first | omega | (simp only [SZ]; done) | (simp only [SZ]; omega) | (simp only [TS] at *; omega))) only [RZ, gval, gslot, fillL, ovw, numb, catL, ldN, agL, okC, oneC, init, Nat.reduceAdd, Nat.reduceMul, Nat.reduceSub, Nat.reduceEqDiff, Nat.reduceLT, ↓reduceIte, Int.reduceToNat, Int.reduceAdd, Int.reduceSub, Int.reduceMul, Int.reduceLT, Int.reduceLE, Int.reduceEq, Nat.reduceLeDiff,  intOf, e4]
      omega
  · obtain rfl : i = 16 := by omega
    simp +contextual (maxSteps := 2000000) (disch := (first | omega | (simp only [SZ]; done) | (simp only [SZ]; omega) | (simp only [TS] at *; omega))) only [RZ, gval, gslot, fillL, ovw, numb, catL, ldN, agL, okC, oneC, init, Nat.reduceAdd, Nat.reduceMul, Nat.reduceSub, Nat.reduceEqDiff, Nat.reduceLT, ↓reduceIte, Int.reduceToNat, Int.reduceAdd, Int.reduceSub, Int.reduceMul, Int.reduceLT, Int.reduceLE, Int.reduceEq, Nat.reduceLeDiff,  e0, e3, e4]
    exact hB
theorem rmix_any (x : Int) (w : World) (h0 : 0 ≤ x) (h1 : x ≤ 18446744073709551615) : Calls Tryd.prog 58 #[.int .u64 x] w fun e w' => e = .returned (.int .u64 (mixI x)) ∧ w = w' := by
  refine calls_W (l := [_]) Tryd.func58 rfl _ Tryd.ntmps58 (by simp) ?_
  have a1 := xorI_sh (b := x / 1073741824) h0 h1 (by omega)
  have a2 := mod_bd (xorI x (x / 1073741824) * 13787848793156543929)
  have a3 := xorI_sh (b := (xorI x (x / 1073741824) * 13787848793156543929 % 18446744073709551616) / 134217728) a2.1 a2.2 (by omega)
  have a4 := mod_bd (xorI (xorI x (x / 1073741824) * 13787848793156543929 % 18446744073709551616) ((xorI x (x / 1073741824) * 13787848793156543929 % 18446744073709551616) / 134217728) * 10723151780598845931)
  simp +contextual (maxSteps := 2000000) (disch := (first | omega | (simp only [SZ]; done) | (simp only [SZ]; omega) | (simp only [TS] at *; omega))) only [RZ, gval, gslot, fillL, ovw, numb, catL, ldN, agL, okC, oneC, init, Nat.reduceAdd, Nat.reduceMul, Nat.reduceSub, Nat.reduceEqDiff, Nat.reduceLT, ↓reduceIte, Int.reduceToNat, Int.reduceAdd, Int.reduceSub, Int.reduceMul, Int.reduceLT, Int.reduceLE, Int.reduceEq, Nat.reduceLeDiff,  vBin_xorU, vBin_mulW, Int.reducePow, a1, a2, a3, a4]
  unfold mixI mixB mixA
  rfl
end Go.Proofs.YtcnlopjjejdahaaDoor
/- Walks: the reference's Decimal, signed, Parse of numbers. -/
namespace Go.Proofs.YtcnlopjjejdahaaDoor
open Go.RowKit
set_option maxRecDepth 100000
theorem valD_low : ∀ (l : List Nat) (a : Nat), a * 10 ^ l.length ≤ valD a l
  | [], a => by simp [valD]
  | c :: r, a => by
    have h := valD_low r (a * 10 + (c - 48))
    rw [valD_cons, List.length_cons, Nat.pow_succ]
    refine Nat.le_trans ?_ h
    rw [Nat.mul_comm (10 ^ r.length) 10, ← Nat.mul_assoc]
    exact Nat.mul_le_mul_right _ (by omega)
theorem valD_up : ∀ (l : List Nat) (a : Nat), (∀ c ∈ l, 48 ≤ c ∧ c ≤ 57) → valD a l + 1 ≤ (a + 1) * 10 ^ l.length
  | [], a, _ => by simp [valD]
  | c :: r, a, hc => by
    have h := valD_up r (a * 10 + (c - 48)) fun d hd => hc d (List.mem_cons_of_mem _ hd)
    have hcc := hc c (by simp)
    rw [valD_cons, List.length_cons, Nat.pow_succ, Nat.mul_comm (10 ^ r.length) 10, ← Nat.mul_assoc]
    exact Nat.le_trans h (Nat.mul_le_mul_right _ (by omega))
theorem valD_long {l : List Nat} (h : decOK l = true) (hl : 20 ≤ l.length) : 10000000000000000000 ≤ valD 0 l := by
  cases l with
  | nil => cases h
  | cons c r =>
    have h1 := decOK_all h c (by simp)
    rw [decOK_cons, Bool.and_eq_true, Bool.or_eq_true] at h
    have hc : c ≠ 48 := by
      rintro rfl
      rcases h.1 with h2 | h2
      · simp at h2
      · rw [List.isEmpty_iff.1 h2] at hl; simp at hl
    rw [valD_cons]
    rw [List.length_cons] at hl
    have h3 := valD_low r (0 * 10 + (c - 48))
    have h4 : 1 * 10 ^ 19 ≤ (0 * 10 + (c - 48)) * 10 ^ r.length := Nat.mul_le_mul (by omega) (Nat.pow_le_pow_right (by omega) (by omega))
    rw [show 1 * 10 ^ 19 = 10000000000000000000 by decide] at h4
    omega
theorem valD_short {l : List Nat} (h : ∀ c ∈ l, 48 ≤ c ∧ c ≤ 57) {n : Nat} (hl : l.length ≤ n) (hn : n ≤ 19) : valD 0 l < 10000000000000000000 := by
  have h1 := valD_up l 0 h
  have h2 : 10 ^ l.length ≤ 10 ^ 19 := Nat.pow_le_pow_right (by omega) (by omega)
  rw [show 10 ^ 19 = 10000000000000000000 by decide] at h2
  omega
theorem rsigned_any (u : Int) (ng : Bool) (w : World) (h0 : 0 ≤ u ∧ u ≤ 18446744073709551615) : Calls Tryd.prog 104 #[.int .u64 u, .bool ng] w fun e w' => e = .returned (.tuple (if (limN ng : Int) < u then #[.int .i64 0, .int .i64 9] else #[.int .i64 (if ng then -u else u), .int .i64 0])) ∧ w = w' := by
  refine calls_W (l := [_, _]) Tryd.func104 rfl _ Tryd.ntmps104 (by simp) ?_
  cases ng with
  | false =>
    rw [show ((limN false : Nat) : Int) = 9223372036854775807 from rfl]
    simp +contextual (maxSteps := 2000000) (disch := (first | omega | (simp only [SZ]; done) | (simp only [SZ]; omega) | (simp only [TS] at *; omega))) only [RZ, gval, gslot, fillL, ovw, numb, catL, ldN, agL, okC, oneC, init, Nat.reduceAdd, Nat.reduceMul, Nat.reduceSub, Nat.reduceEqDiff, Nat.reduceLT, ↓reduceIte, Int.reduceToNat, Int.reduceAdd, Int.reduceSub, Int.reduceMul, Int.reduceLT, Int.reduceLE, Int.reduceEq, Nat.reduceLeDiff]
    refine W_if_f rfl ?_
    simp +contextual (maxSteps := 2000000) (disch := (first | omega | (simp only [SZ]; done) | (simp only [SZ]; omega) | (simp only [TS] at *; omega))) only [RZ, gval, gslot, fillL, ovw, numb, catL, ldN, agL, okC, oneC, init, Nat.reduceAdd, Nat.reduceMul, Nat.reduceSub, Nat.reduceEqDiff, Nat.reduceLT, ↓reduceIte, Int.reduceToNat, Int.reduceAdd, Int.reduceSub, Int.reduceMul, Int.reduceLT, Int.reduceLE, Int.reduceEq, Nat.reduceLeDiff]
    (refine W_if rfl (fun hc => ?_) (fun hc => ?_) <;> (try simp only [TS] at hc))
    · simp +contextual (maxSteps := 2000000) (disch := (first | omega | (simp only [SZ]; done) | (simp only [SZ]; omega) | (simp only [TS] at *; omega))) only [RZ, gval, gslot, fillL, ovw, numb, catL, ldN, agL, okC, oneC, init, Nat.reduceAdd, Nat.reduceMul, Nat.reduceSub, Nat.reduceEqDiff, Nat.reduceLT, ↓reduceIte, Int.reduceToNat, Int.reduceAdd, Int.reduceSub, Int.reduceMul, Int.reduceLT, Int.reduceLE, Int.reduceEq, Nat.reduceLeDiff]
      rw [if_pos (by omega)]
    · simp +contextual (maxSteps := 2000000) (disch := (first | omega | (simp only [SZ]; done) | (simp only [SZ]; omega) | (simp only [TS] at *; omega))) only [RZ, gval, gslot, fillL, ovw, numb, catL, ldN, agL, okC, oneC, init, Nat.reduceAdd, Nat.reduceMul, Nat.reduceSub, Nat.reduceEqDiff, Nat.reduceLT, ↓reduceIte, Int.reduceToNat, Int.reduceAdd, Int.reduceSub, Int.reduceMul, Int.reduceLT, Int.reduceLE, Int.reduceEq, Nat.reduceLeDiff]
      refine W_if_f rfl ?_
      simp +contextual (maxSteps := 2000000) (disch := (first | omega | (simp only [SZ]; done) | (simp only [SZ]; omega) | (simp only [TS] at *; omega))) only [RZ, gval, gslot, fillL, ovw, numb, catL, ldN, agL, okC, oneC, init, Nat.reduceAdd, Nat.reduceMul, Nat.reduceSub, Nat.reduceEqDiff, Nat.reduceLT, ↓reduceIte, Int.reduceToNat, Int.reduceAdd, Int.reduceSub, Int.reduceMul, Int.reduceLT, Int.reduceLE, Int.reduceEq, Nat.reduceLeDiff]
      rw [if_neg (by omega)]
  | true =>
    rw [show ((limN true : Nat) : Int) = 9223372036854775808 from rfl]
    simp +contextual (maxSteps := 2000000) (disch := (first | omega | (simp only [SZ]; done) | (simp only [SZ]; omega) | (simp only [TS] at *; omega))) only [RZ, gval, gslot, fillL, ovw, numb, catL, ldN, agL, okC, oneC, init, Nat.reduceAdd, Nat.reduceMul, Nat.reduceSub, Nat.reduceEqDiff, Nat.reduceLT, ↓reduceIte, Int.reduceToNat, Int.reduceAdd, Int.reduceSub, Int.reduceMul, Int.reduceLT, Int.reduceLE, Int.reduceEq, Nat.reduceLeDiff]
    (refine W_if rfl (fun hc => ?_) (fun hc => ?_) <;> (try simp only [TS] at hc))
    · subst hc
      simp +contextual (maxSteps := 2000000) (disch := (first | omega | (simp only [SZ]; done) | (simp only [SZ]; omega) | (simp only [TS] at *; omega))) only [RZ, gval, gslot, fillL, ovw, numb, catL, ldN, agL, okC, oneC, init, Nat.reduceAdd, Nat.reduceMul, Nat.reduceSub, Nat.reduceEqDiff, Nat.reduceLT, ↓reduceIte, Int.reduceToNat, Int.reduceAdd, Int.reduceSub, Int.reduceMul, Int.reduceLT, Int.reduceLE, Int.reduceEq, Nat.reduceLeDiff]
    simp +contextual (maxSteps := 2000000) (disch := (first | omega | (simp only [SZ]; done) | (simp only [SZ]; omega) | (simp only [TS] at *; omega))) only [RZ, gval, gslot, fillL, ovw, numb, catL, ldN, agL, okC, oneC, init, Nat.reduceAdd, Nat.reduceMul, Nat.reduceSub, Nat.reduceEqDiff, Nat.reduceLT, ↓reduceIte, Int.reduceToNat, Int.reduceAdd, Int.reduceSub, Int.reduceMul, Int.reduceLT, Int.reduceLE, Int.reduceEq, Nat.reduceLeDiff]
    (refine W_if rfl (fun hc => ?_) (fun hc => ?_) <;> (try simp only [TS] at hc))
    · simp +contextual (maxSteps := 2000000) (disch := (first | omega | (simp only [SZ]; done) | (simp only [SZ]; omega) | (simp only [TS] at *; omega))) only [RZ, gval, gslot, fillL, ovw, numb, catL, ldN, agL, okC, oneC, init, Nat.reduceAdd, Nat.reduceMul, Nat.reduceSub, Nat.reduceEqDiff, Nat.reduceLT, ↓reduceIte, Int.reduceToNat, Int.reduceAdd, Int.reduceSub, Int.reduceMul, Int.reduceLT, Int.reduceLE, Int.reduceEq, Nat.reduceLeDiff]
      rw [if_pos (by omega)]
    · simp +contextual (maxSteps := 2000000) (disch := (first | omega | (simp only [SZ]; done) | (simp only [SZ]; omega) | (simp only [TS] at *; omega))) only [RZ, gval, gslot, fillL, ovw, numb, catL, ldN, agL, okC, oneC, init, Nat.reduceAdd, Nat.reduceMul, Nat.reduceSub, Nat.reduceEqDiff, Nat.reduceLT, ↓reduceIte, Int.reduceToNat, Int.reduceAdd, Int.reduceSub, Int.reduceMul, Int.reduceLT, Int.reduceLE, Int.reduceEq, Nat.reduceLeDiff]
      refine W_if_t rfl ?_
      simp +contextual (maxSteps := 2000000) (disch := (first | omega | (simp only [SZ]; done) | (simp only [SZ]; omega) | (simp only [TS] at *; omega))) only [RZ, gval, gslot, fillL, ovw, numb, catL, ldN, agL, okC, oneC, init, Nat.reduceAdd, Nat.reduceMul, Nat.reduceSub, Nat.reduceEqDiff, Nat.reduceLT, ↓reduceIte, Int.reduceToNat, Int.reduceAdd, Int.reduceSub, Int.reduceMul, Int.reduceLT, Int.reduceLE, Int.reduceEq, Nat.reduceLeDiff]
      rw [if_neg (by omega)]
theorem rdecimal_any (s : ByteArray) (w : World) (hs : s.size ≤ 1000000000) : Calls Tryd.prog 103 #[.string s] w fun e w' => e = .returned (.bool (decOK (magL (bs s)) && !(negB (bs s) && decide (magL (bs s) = [48])))) ∧ w = w' := by
  refine calls_W (l := [_]) Tryd.func103 rfl _ Tryd.ntmps103 (by simp) ?_
  have hms := mag_sz s
  simp +contextual (maxSteps := 2000000) (disch := (first | omega | (simp only [SZ]; done) | (simp only [SZ]; omega) | (simp only [TS] at *; omega))) only [RZ, gval, gslot, fillL, ovw, numb, catL, ldN, agL, okC, oneC, init, Nat.reduceAdd, Nat.reduceMul, Nat.reduceSub, Nat.reduceEqDiff, Nat.reduceLT, ↓reduceIte, Int.reduceToNat, Int.reduceAdd, Int.reduceSub, Int.reduceMul, Int.reduceLT, Int.reduceLE, Int.reduceEq, Nat.reduceLeDiff]
  refine W_cut (fun τ w' => w' = w ∧ τ 0 = .string (magB s) ∧ ¬ (negB (bs s) = true ∧ magB s = ⟨#[48]⟩)) ?_ ?_
  rotate_left
  · (refine W_if rfl (fun hc => ?_) (fun hc => ?_) <;> (try simp only [TS] at hc))
    · have hn : negB (bs s) = true := by rw [negB_bs]; simp; omega
      have hm : s.extract 1 s.size = magB s := by unfold magB; rw [if_pos hn]
      rw [← bs_mag, hn]
      simp +contextual (maxSteps := 2000000) (disch := (first | omega | (simp only [SZ]; done) | (simp only [SZ]; omega) | (simp only [TS] at *; omega))) only [RZ, gval, gslot, fillL, ovw, numb, catL, ldN, agL, okC, oneC, init, Nat.reduceAdd, Nat.reduceMul, Nat.reduceSub, Nat.reduceEqDiff, Nat.reduceLT, ↓reduceIte, Int.reduceToNat, Int.reduceAdd, Int.reduceSub, Int.reduceMul, Int.reduceLT, Int.reduceLE, Int.reduceEq, Nat.reduceLeDiff,  hm]
      (refine W_if rfl (fun hc => ?_) (fun hc => ?_) <;> (try simp only [TS] at hc))
      · rw [hc]
        simp +contextual (maxSteps := 2000000) (disch := (first | omega | (simp only [SZ]; done) | (simp only [SZ]; omega) | (simp only [TS] at *; omega))) only [RZ, gval, gslot, fillL, ovw, numb, catL, ldN, agL, okC, oneC, init, Nat.reduceAdd, Nat.reduceMul, Nat.reduceSub, Nat.reduceEqDiff, Nat.reduceLT, ↓reduceIte, Int.reduceToNat, Int.reduceAdd, Int.reduceSub, Int.reduceMul, Int.reduceLT, Int.reduceLE, Int.reduceEq, Nat.reduceLeDiff,  cutX_normal, cutX_ret, cutX_exit, cut2X_normal, cut2X_ret, cut2X_same, cut2X_ne]
        exact rfl
      · simp +contextual (maxSteps := 2000000) (disch := (first | omega | (simp only [SZ]; done) | (simp only [SZ]; omega) | (simp only [TS] at *; omega))) only [RZ, gval, gslot, fillL, ovw, numb, catL, ldN, agL, okC, oneC, init, Nat.reduceAdd, Nat.reduceMul, Nat.reduceSub, Nat.reduceEqDiff, Nat.reduceLT, ↓reduceIte, Int.reduceToNat, Int.reduceAdd, Int.reduceSub, Int.reduceMul, Int.reduceLT, Int.reduceLE, Int.reduceEq, Nat.reduceLeDiff,  cutX_normal, cutX_ret, cutX_exit, cut2X_normal, cut2X_ret, cut2X_same, cut2X_ne, hc]
        exact fun h => h
    · have hn : negB (bs s) = false := by rw [negB_bs]; simp; omega
      have hm : magB s = s := by unfold magB; rw [hn]; rfl
      simp +contextual (maxSteps := 2000000) (disch := (first | omega | (simp only [SZ]; done) | (simp only [SZ]; omega) | (simp only [TS] at *; omega))) only [RZ, gval, gslot, fillL, ovw, numb, catL, ldN, agL, okC, oneC, init, Nat.reduceAdd, Nat.reduceMul, Nat.reduceSub, Nat.reduceEqDiff, Nat.reduceLT, ↓reduceIte, Int.reduceToNat, Int.reduceAdd, Int.reduceSub, Int.reduceMul, Int.reduceLT, Int.reduceLE, Int.reduceEq, Nat.reduceLeDiff,  cutX_normal, cutX_ret, cutX_exit, cut2X_normal, cut2X_ret, cut2X_same, cut2X_ne, hn, hm]
      exact fun h => h.1
  rintro τ w' ⟨rfl, f0, hno⟩
  have hR : (decOK (magL (bs s)) && !(negB (bs s) && decide (magL (bs s) = [48]))) = decOK (bs (magB s)) := by
    rw [← bs_mag]
    have : (negB (bs s) && decide (bs (magB s) = [48])) = false := by
      rw [Bool.eq_false_iff]
      intro h
      rw [Bool.and_eq_true, decide_eq_true_eq] at h
      exact hno ⟨h.1, bs_inj (by rw [h.2]; rfl)⟩
    rw [this]
    simp
  rw [hR]
  clear hR hno
  generalize magB s = t at *
  simp +contextual (maxSteps := 2000000) (disch := (first | omega | (simp only [SZ]; done) | (simp only [SZ]; omega) | (simp only [TS] at *; omega))) only [RZ, gval, gslot, fillL, ovw, numb, catL, ldN, agL, okC, oneC, init, Nat.reduceAdd, Nat.reduceMul, Nat.reduceSub, Nat.reduceEqDiff, Nat.reduceLT, ↓reduceIte, Int.reduceToNat, Int.reduceAdd, Int.reduceSub, Int.reduceMul, Int.reduceLT, Int.reduceLE, Int.reduceEq, Nat.reduceLeDiff,  f0]
  (refine W_if rfl (fun hc => ?_) (fun hc => ?_) <;> (try simp only [TS] at hc))
  · simp +contextual (maxSteps := 2000000) (disch := (first | omega | (simp only [SZ]; done) | (simp only [SZ]; omega) | (simp only [TS] at *; omega))) only [RZ, gval, gslot, fillL, ovw, numb, catL, ldN, agL, okC, oneC, init, Nat.reduceAdd, Nat.reduceMul, Nat.reduceSub, Nat.reduceEqDiff, Nat.reduceLT, ↓reduceIte, Int.reduceToNat, Int.reduceAdd, Int.reduceSub, Int.reduceMul, Int.reduceLT, Int.reduceLE, Int.reduceEq, Nat.reduceLeDiff]
    exact ret_bool (by
      rcases hc with h | h
      · have : bs t = [] := List.length_eq_zero_iff.1 (by rw [bs_len]; omega)
        rw [this]; rfl
      · exact (decOK_zero (by rw [bs_get (by omega)]; congr 1; omega) (by rw [bs_len]; omega)).symm)
  simp +contextual (maxSteps := 2000000) (disch := (first | omega | (simp only [SZ]; done) | (simp only [SZ]; omega) | (simp only [TS] at *; omega))) only [RZ, gval, gslot, fillL, ovw, numb, catL, ldN, agL, okC, oneC, init, Nat.reduceAdd, Nat.reduceMul, Nat.reduceSub, Nat.reduceEqDiff, Nat.reduceLT, ↓reduceIte, Int.reduceToNat, Int.reduceAdd, Int.reduceSub, Int.reduceMul, Int.reduceLT, Int.reduceLE, Int.reduceEq, Nat.reduceLeDiff,  f0]
  refine Raw_loop (fun σ w2 => w2 = w' ∧ ∃ k : Nat, k ≤ t.size ∧ (∀ j, j < k → 48 ≤ bt t j ∧ bt t j ≤ 57) ∧ σ 0 = .string t ∧ σ 3 = .int .i64 k) (fun σ _ => t.size - (intOf (σ 3)).toNat) ?_ ?_
  · simp +contextual (maxSteps := 2000000) (disch := (first | omega | (simp only [SZ]; done) | (simp only [SZ]; omega) | (simp only [TS] at *; omega))) only [RZ, gval, gslot, fillL, ovw, numb, catL, ldN, agL, okC, oneC, init, Nat.reduceAdd, Nat.reduceMul, Nat.reduceSub, Nat.reduceEqDiff, Nat.reduceLT, ↓reduceIte, Int.reduceToNat, Int.reduceAdd, Int.reduceSub, Int.reduceMul, Int.reduceLT, Int.reduceLE, Int.reduceEq, Nat.reduceLeDiff,  f0]
    exact ⟨0, Nat.zero_le _, fun j hj => absurd hj (Nat.not_lt_zero _), rfl⟩
  rintro σ w2 ⟨rfl, k, hk, hup, f0, f3⟩ K hK
  simp +contextual (maxSteps := 2000000) (disch := (first | omega | (simp only [SZ]; done) | (simp only [SZ]; omega) | (simp only [TS] at *; omega))) only [RZ, gval, gslot, fillL, ovw, numb, catL, ldN, agL, okC, oneC, init, Nat.reduceAdd, Nat.reduceMul, Nat.reduceSub, Nat.reduceEqDiff, Nat.reduceLT, ↓reduceIte, Int.reduceToNat, Int.reduceAdd, Int.reduceSub, Int.reduceMul, Int.reduceLT, Int.reduceLE, Int.reduceEq, Nat.reduceLeDiff,  f0, f3]
  by_cases hkl : k < t.size
  · have e1 : decide ((k : Int) < t.size) = true := decide_eq_true (by omega)
    simp +contextual (maxSteps := 2000000) (disch := (first | omega | (simp only [SZ]; done) | (simp only [SZ]; omega) | (simp only [TS] at *; omega))) only [RZ, gval, gslot, fillL, ovw, numb, catL, ldN, agL, okC, oneC, init, Nat.reduceAdd, Nat.reduceMul, Nat.reduceSub, Nat.reduceEqDiff, Nat.reduceLT, ↓reduceIte, Int.reduceToNat, Int.reduceAdd, Int.reduceSub, Int.reduceMul, Int.reduceLT, Int.reduceLE, Int.reduceEq, Nat.reduceLeDiff,  e1]
    refine W_if_t rfl ?_
    simp +contextual (maxSteps := 2000000) (disch := (first | omega | (simp only [SZ]; done) | (simp only [SZ]; omega) | (simp only [TS] at *; omega))) only [RZ, gval, gslot, fillL, ovw, numb, catL, ldN, agL, okC, oneC, init, Nat.reduceAdd, Nat.reduceMul, Nat.reduceSub, Nat.reduceEqDiff, Nat.reduceLT, ↓reduceIte, Int.reduceToNat, Int.reduceAdd, Int.reduceSub, Int.reduceMul, Int.reduceLT, Int.reduceLE, Int.reduceEq, Nat.reduceLeDiff,  f0, f3]
    (refine W_if rfl (fun hc => ?_) (fun hc => ?_) <;> (try simp only [TS] at hc))
    · simp +contextual (maxSteps := 2000000) (disch := (first | omega | (simp only [SZ]; done) | (simp only [SZ]; omega) | (simp only [TS] at *; omega))) only [RZ, gval, gslot, fillL, ovw, numb, catL, ldN, agL, okC, oneC, init, Nat.reduceAdd, Nat.reduceMul, Nat.reduceSub, Nat.reduceEqDiff, Nat.reduceLT, ↓reduceIte, Int.reduceToNat, Int.reduceAdd, Int.reduceSub, Int.reduceMul, Int.reduceLT, Int.reduceLE, Int.reduceEq, Nat.reduceLeDiff,  f0, f3]
      exact ret_bool (decOK_bad (bs_get (i := k) (by omega)) (by omega)).symm
    · simp +contextual (maxSteps := 2000000) (disch := (first | omega | (simp only [SZ]; done) | (simp only [SZ]; omega) | (simp only [TS] at *; omega))) only [RZ, gval, gslot, fillL, ovw, numb, catL, ldN, agL, okC, oneC, init, Nat.reduceAdd, Nat.reduceMul, Nat.reduceSub, Nat.reduceEqDiff, Nat.reduceLT, ↓reduceIte, Int.reduceToNat, Int.reduceAdd, Int.reduceSub, Int.reduceMul, Int.reduceLT, Int.reduceLE, Int.reduceEq, Nat.reduceLeDiff,  f0, f3]
      refine hK _ _ ⟨rfl, k + 1, by omega, fun j hj => ?_, ?_⟩ ?_
      · rcases Nat.lt_or_eq_of_le (Nat.lt_succ_iff.1 hj) with h | rfl
        · exact hup j h
        · omega
      · simp +contextual (maxSteps := 2000000) (disch := (first | omega | (simp only [SZ]; done) | (simp only [SZ]; omega) | (simp only [TS] at *; omega))) only [RZ, gval, gslot, fillL, ovw, numb, catL, ldN, agL, okC, oneC, init, Nat.reduceAdd, Nat.reduceMul, Nat.reduceSub, Nat.reduceEqDiff, Nat.reduceLT, ↓reduceIte, Int.reduceToNat, Int.reduceAdd, Int.reduceSub, Int.reduceMul, Int.reduceLT, Int.reduceLE, Int.reduceEq, Nat.reduceLeDiff,  f0, f3]
      · simp +contextual (maxSteps := 2000000) (disch := (first | omega | (simp only [SZ]; done) | (simp only [SZ]; omega) | (simp only [TS] at *; omega))) only [RZ, gval, gslot, fillL, ovw, numb, catL, ldN, agL, okC, oneC, init, Nat.reduceAdd, Nat.reduceMul, Nat.reduceSub, Nat.reduceEqDiff, Nat.reduceLT, ↓reduceIte, Int.reduceToNat, Int.reduceAdd, Int.reduceSub, Int.reduceMul, Int.reduceLT, Int.reduceLE, Int.reduceEq, Nat.reduceLeDiff,  intOf, f3]
        omega
  · have e1 : decide ((k : Int) < t.size) = false := decide_eq_false (by omega)
    simp +contextual (maxSteps := 2000000) (disch := (first | omega | (simp only [SZ]; done) | (simp only [SZ]; omega) | (simp only [TS] at *; omega))) only [RZ, gval, gslot, fillL, ovw, numb, catL, ldN, agL, okC, oneC, init, Nat.reduceAdd, Nat.reduceMul, Nat.reduceSub, Nat.reduceEqDiff, Nat.reduceLT, ↓reduceIte, Int.reduceToNat, Int.reduceAdd, Int.reduceSub, Int.reduceMul, Int.reduceLT, Int.reduceLE, Int.reduceEq, Nat.reduceLeDiff,  e1]
    refine W_if_f rfl ?_
    simp +contextual (maxSteps := 2000000) (disch := (first | omega | (simp only [SZ]; done) | (simp only [SZ]; omega) | (simp only [TS] at *; omega))) only [RZ, gval, gslot, fillL, ovw, numb, catL, ldN, agL, okC, oneC, init, Nat.reduceAdd, Nat.reduceMul, Nat.reduceSub, Nat.reduceEqDiff, Nat.reduceLT, ↓reduceIte, Int.reduceToNat, Int.reduceAdd, Int.reduceSub, Int.reduceMul, Int.reduceLT, Int.reduceLE, Int.reduceEq, Nat.reduceLeDiff,  f0, f3]
    refine ret_bool (decOK_yes (bs_ne (by omega)) (fun h => ?_) (fun j c hj => ?_)).symm
    · have := (bs_at h.1).2
      rw [bs_len] at h
      omega
    · obtain ⟨h1, rfl⟩ := bs_at hj
      exact hup j (by omega)
theorem rnumParse_any (s : ByteArray) (w : World) (hs : s.size ≤ 1000000000) : Calls Tryd.prog 77 #[.string s] w fun e w' => e = .returned (.tuple #[.int .i64 (numE (bs s)).1, .int .i64 (numE (bs s)).2]) ∧ w = w' := by
  refine calls_W (l := [_]) Tryd.func77 rfl _ Tryd.ntmps77 (by simp) ?_
  have hms := mag_sz s
  simp +contextual (maxSteps := 2000000) (disch := (first | omega | (simp only [SZ]; done) | (simp only [SZ]; omega) | (simp only [TS] at *; omega))) only [RZ, gval, gslot, fillL, ovw, numb, catL, ldN, agL, okC, oneC, init, Nat.reduceAdd, Nat.reduceMul, Nat.reduceSub, Nat.reduceEqDiff, Nat.reduceLT, ↓reduceIte, Int.reduceToNat, Int.reduceAdd, Int.reduceSub, Int.reduceMul, Int.reduceLT, Int.reduceLE, Int.reduceEq, Nat.reduceLeDiff]
  refine (rdecimal_any s w hs).mono ?_
  rintro e w1 ⟨rfl, rfl⟩
  refine ⟨_, rfl, ?_⟩
  cases hd : (decOK (magL (bs s)) && !(negB (bs s) && decide (magL (bs s) = [48]))) with
  | false =>
    have hbad : decOK (magL (bs s)) = false ∨ (negB (bs s) = true ∧ magL (bs s) = [48]) := by
      rw [Bool.and_eq_false_iff] at hd
      rcases hd with h | h
      · exact .inl h
      · simp at h
        exact .inr h
    rw [numE_bad hbad]
    simp +contextual (maxSteps := 2000000) (disch := (first | omega | (simp only [SZ]; done) | (simp only [SZ]; omega) | (simp only [TS] at *; omega))) only [RZ, gval, gslot, fillL, ovw, numb, catL, ldN, agL, okC, oneC, init, Nat.reduceAdd, Nat.reduceMul, Nat.reduceSub, Nat.reduceEqDiff, Nat.reduceLT, ↓reduceIte, Int.reduceToNat, Int.reduceAdd, Int.reduceSub, Int.reduceMul, Int.reduceLT, Int.reduceLE, Int.reduceEq, Nat.reduceLeDiff]
    refine W_if_t rfl ?_
    simp +contextual (maxSteps := 2000000) (disch := (first | omega | (simp only [SZ]; done) | (simp only [SZ]; omega) | (simp only [TS] at *; omega))) only [RZ, gval, gslot, fillL, ovw, numb, catL, ldN, agL, okC, oneC, init, Nat.reduceAdd, Nat.reduceMul, Nat.reduceSub, Nat.reduceEqDiff, Nat.reduceLT, ↓reduceIte, Int.reduceToNat, Int.reduceAdd, Int.reduceSub, Int.reduceMul, Int.reduceLT, Int.reduceLE, Int.reduceEq, Nat.reduceLeDiff]
  | true =>
    have hgood : ¬ (decOK (magL (bs s)) = false ∨ (negB (bs s) = true ∧ magL (bs s) = [48])) := by
      rw [Bool.and_eq_true] at hd
      rintro (h | ⟨h1, h2⟩)
      · rw [h] at hd; cases hd.1
      · rw [h1, h2] at hd
        simp at hd
    have hdo : decOK (bs (magB s)) = true := by
      rw [bs_mag]
      cases h : decOK (magL (bs s)) with
      | true => rfl
      | false => exact absurd (.inl h) hgood
    have hpos : 0 < s.size := by
      have : bs (magB s) ≠ [] := fun h => by rw [h] at hdo; cases hdo
      have h2 : 0 < (bs (magB s)).length := List.length_pos_iff.2 this
      rw [bs_len] at h2
      omega
    have hdg := decOK_all hdo
    have hR2 := numE_over hgood
    have hR3 := numE_in hgood
    rw [← bs_mag] at hR2 hR3
    have hlong := valD_long hdo
    rw [bs_len] at hlong
    have hl : limN (negB (bs s)) = 9223372036854775807 ∨ limN (negB (bs s)) = 9223372036854775808 := by cases negB (bs s) <;> simp [limN]
    simp +contextual (maxSteps := 2000000) (disch := (first | omega | (simp only [SZ]; done) | (simp only [SZ]; omega) | (simp only [TS] at *; omega))) only [RZ, gval, gslot, fillL, ovw, numb, catL, ldN, agL, okC, oneC, init, Nat.reduceAdd, Nat.reduceMul, Nat.reduceSub, Nat.reduceEqDiff, Nat.reduceLT, ↓reduceIte, Int.reduceToNat, Int.reduceAdd, Int.reduceSub, Int.reduceMul, Int.reduceLT, Int.reduceLE, Int.reduceEq, Nat.reduceLeDiff]
    refine W_if_f rfl ?_
    simp +contextual (maxSteps := 2000000) (disch := (first | omega | (simp only [SZ]; done) | (simp only [SZ]; omega) | (simp only [TS] at *; omega))) only [RZ, gval, gslot, fillL, ovw, numb, catL, ldN, agL, okC, oneC, init, Nat.reduceAdd, Nat.reduceMul, Nat.reduceSub, Nat.reduceEqDiff, Nat.reduceLT, ↓reduceIte, Int.reduceToNat, Int.reduceAdd, Int.reduceSub, Int.reduceMul, Int.reduceLT, Int.reduceLE, Int.reduceEq, Nat.reduceLeDiff]
    refine W_cut (fun τ w' => w' = w ∧ τ 0 = .string (magB s) ∧ τ 4 = .bool (negB (bs s))) ?_ ?_
    rotate_left
    · by_cases h45 : bt s 0 = 45
      · have hn : negB (bs s) = true := by rw [negB_bs]; simp; omega
        have hm : s.extract 1 s.size = magB s := by unfold magB; rw [if_pos hn]
        have e1 : decide ((bt s 0 : Int) = 45) = true := decide_eq_true (by omega)
        rw [hn]
        simp +contextual (maxSteps := 2000000) (disch := (first | omega | (simp only [SZ]; done) | (simp only [SZ]; omega) | (simp only [TS] at *; omega))) only [RZ, gval, gslot, fillL, ovw, numb, catL, ldN, agL, okC, oneC, init, Nat.reduceAdd, Nat.reduceMul, Nat.reduceSub, Nat.reduceEqDiff, Nat.reduceLT, ↓reduceIte, Int.reduceToNat, Int.reduceAdd, Int.reduceSub, Int.reduceMul, Int.reduceLT, Int.reduceLE, Int.reduceEq, Nat.reduceLeDiff,  e1]
        refine W_if_t rfl ?_
        simp +contextual (maxSteps := 2000000) (disch := (first | omega | (simp only [SZ]; done) | (simp only [SZ]; omega) | (simp only [TS] at *; omega))) only [RZ, gval, gslot, fillL, ovw, numb, catL, ldN, agL, okC, oneC, init, Nat.reduceAdd, Nat.reduceMul, Nat.reduceSub, Nat.reduceEqDiff, Nat.reduceLT, ↓reduceIte, Int.reduceToNat, Int.reduceAdd, Int.reduceSub, Int.reduceMul, Int.reduceLT, Int.reduceLE, Int.reduceEq, Nat.reduceLeDiff,  cutX_normal, cutX_ret, cutX_exit, cut2X_normal, cut2X_ret, cut2X_same, cut2X_ne, hm]
      · have hn : negB (bs s) = false := by rw [negB_bs]; simp; omega
        have hm : magB s = s := by unfold magB; rw [hn]; rfl
        have e1 : decide ((bt s 0 : Int) = 45) = false := decide_eq_false (by omega)
        rw [hn]
        simp +contextual (maxSteps := 2000000) (disch := (first | omega | (simp only [SZ]; done) | (simp only [SZ]; omega) | (simp only [TS] at *; omega))) only [RZ, gval, gslot, fillL, ovw, numb, catL, ldN, agL, okC, oneC, init, Nat.reduceAdd, Nat.reduceMul, Nat.reduceSub, Nat.reduceEqDiff, Nat.reduceLT, ↓reduceIte, Int.reduceToNat, Int.reduceAdd, Int.reduceSub, Int.reduceMul, Int.reduceLT, Int.reduceLE, Int.reduceEq, Nat.reduceLeDiff,  e1]
        refine W_if_f rfl ?_
        simp +contextual (maxSteps := 2000000) (disch := (first | omega | (simp only [SZ]; done) | (simp only [SZ]; omega) | (simp only [TS] at *; omega))) only [RZ, gval, gslot, fillL, ovw, numb, catL, ldN, agL, okC, oneC, init, Nat.reduceAdd, Nat.reduceMul, Nat.reduceSub, Nat.reduceEqDiff, Nat.reduceLT, ↓reduceIte, Int.reduceToNat, Int.reduceAdd, Int.reduceSub, Int.reduceMul, Int.reduceLT, Int.reduceLE, Int.reduceEq, Nat.reduceLeDiff,  cutX_normal, cutX_ret, cutX_exit, cut2X_normal, cut2X_ret, cut2X_same, cut2X_ne, hm]
    rintro τ w' ⟨rfl, f0, f4⟩
    generalize hRR : numE (bs s) = R at *
    generalize negB (bs s) = ng at *
    generalize magB s = t at *
    simp +contextual (maxSteps := 2000000) (disch := (first | omega | (simp only [SZ]; done) | (simp only [SZ]; omega) | (simp only [TS] at *; omega))) only [RZ, gval, gslot, fillL, ovw, numb, catL, ldN, agL, okC, oneC, init, Nat.reduceAdd, Nat.reduceMul, Nat.reduceSub, Nat.reduceEqDiff, Nat.reduceLT, ↓reduceIte, Int.reduceToNat, Int.reduceAdd, Int.reduceSub, Int.reduceMul, Int.reduceLT, Int.reduceLE, Int.reduceEq, Nat.reduceLeDiff,  f0, f4]
    (refine W_if rfl (fun hc => ?_) (fun hc => ?_) <;> (try simp only [TS] at hc))
    · rw [hR2 (by have := hlong (by omega); omega)]
      simp +contextual (maxSteps := 2000000) (disch := (first | omega | (simp only [SZ]; done) | (simp only [SZ]; omega) | (simp only [TS] at *; omega))) only [RZ, gval, gslot, fillL, ovw, numb, catL, ldN, agL, okC, oneC, init, Nat.reduceAdd, Nat.reduceMul, Nat.reduceSub, Nat.reduceEqDiff, Nat.reduceLT, ↓reduceIte, Int.reduceToNat, Int.reduceAdd, Int.reduceSub, Int.reduceMul, Int.reduceLT, Int.reduceLE, Int.reduceEq, Nat.reduceLeDiff]
    have hsh := valD_short hdg (n := 19) (by rw [bs_len]; omega) (Nat.le_refl _)
    simp +contextual (maxSteps := 2000000) (disch := (first | omega | (simp only [SZ]; done) | (simp only [SZ]; omega) | (simp only [TS] at *; omega))) only [RZ, gval, gslot, fillL, ovw, numb, catL, ldN, agL, okC, oneC, init, Nat.reduceAdd, Nat.reduceMul, Nat.reduceSub, Nat.reduceEqDiff, Nat.reduceLT, ↓reduceIte, Int.reduceToNat, Int.reduceAdd, Int.reduceSub, Int.reduceMul, Int.reduceLT, Int.reduceLE, Int.reduceEq, Nat.reduceLeDiff,  f0, f4]
    refine Raw_loop (fun σ w2 => w2 = w' ∧ ∃ k : Nat, k ≤ t.size ∧ σ 0 = .string t ∧ σ 4 = .bool ng ∧ σ 5 = .int .u64 (valD 0 ((bs t).take k)) ∧ σ 6 = .int .i64 k) (fun σ _ => t.size - (intOf (σ 6)).toNat) ?_ ?_
    · simp +contextual (maxSteps := 2000000) (disch := (first | omega | (simp only [SZ]; done) | (simp only [SZ]; omega) | (simp only [TS] at *; omega))) only [RZ, gval, gslot, fillL, ovw, numb, catL, ldN, agL, okC, oneC, init, Nat.reduceAdd, Nat.reduceMul, Nat.reduceSub, Nat.reduceEqDiff, Nat.reduceLT, ↓reduceIte, Int.reduceToNat, Int.reduceAdd, Int.reduceSub, Int.reduceMul, Int.reduceLT, Int.reduceLE, Int.reduceEq, Nat.reduceLeDiff,  f0, f4]
      exact ⟨0, Nat.zero_le _, rfl, rfl⟩
    rintro σ w2 ⟨rfl, k, hk, f0, f4, f5, f6⟩ K hK
    simp +contextual (maxSteps := 2000000) (disch := (first | omega | (simp only [SZ]; done) | (simp only [SZ]; omega) | (simp only [TS] at *; omega))) only [RZ, gval, gslot, fillL, ovw, numb, catL, ldN, agL, okC, oneC, init, Nat.reduceAdd, Nat.reduceMul, Nat.reduceSub, Nat.reduceEqDiff, Nat.reduceLT, ↓reduceIte, Int.reduceToNat, Int.reduceAdd, Int.reduceSub, Int.reduceMul, Int.reduceLT, Int.reduceLE, Int.reduceEq, Nat.reduceLeDiff,  f0, f4, f5, f6]
    (refine W_if rfl (fun hc => ?_) (fun hc => ?_) <;> (try simp only [TS] at hc))
    · have hg := bs_get (s := t) (i := k) (by omega)
      have hdk := hdg _ (List.mem_of_getElem? hg)
      have hst := valD_step hg
      have hle := valD_take (bs t) (k + 1)
      generalize hv1 : valD 0 ((bs t).take (k + 1)) = v1 at *
      generalize valD 0 ((bs t).take k) = v0 at *
      simp +contextual (maxSteps := 2000000) (disch := (first | omega | (simp only [SZ]; done) | (simp only [SZ]; omega) | (simp only [TS] at *; omega))) only [RZ, gval, gslot, fillL, ovw, numb, catL, ldN, agL, okC, oneC, init, Nat.reduceAdd, Nat.reduceMul, Nat.reduceSub, Nat.reduceEqDiff, Nat.reduceLT, ↓reduceIte, Int.reduceToNat, Int.reduceAdd, Int.reduceSub, Int.reduceMul, Int.reduceLT, Int.reduceLE, Int.reduceEq, Nat.reduceLeDiff,  f0, f4, f5, f6]
      refine hK _ _ ⟨rfl, k + 1, by omega, ?_⟩ ?_
      · simp +contextual (maxSteps := 2000000) (disch := (first | omega | (simp only [SZ]; done) | (simp only [SZ]; omega) | (simp only [TS] at *; omega))) only [RZ, gval, gslot, fillL, ovw, numb, catL, ldN, agL, okC, oneC, init, Nat.reduceAdd, Nat.reduceMul, Nat.reduceSub, Nat.reduceEqDiff, Nat.reduceLT, ↓reduceIte, Int.reduceToNat, Int.reduceAdd, Int.reduceSub, Int.reduceMul, Int.reduceLT, Int.reduceLE, Int.reduceEq, Nat.reduceLeDiff,  f0, f4, f5, f6]
        rw [hv1, hst]
        congr 1
        omega
      · simp +contextual (maxSteps := 2000000) (disch := (first | omega | (simp only [SZ]; done) | (simp only [SZ]; omega) | (simp only [TS] at *; omega))) only [RZ, gval, gslot, fillL, ovw, numb, catL, ldN, agL, okC, oneC, init, Nat.reduceAdd, Nat.reduceMul, Nat.reduceSub, Nat.reduceEqDiff, Nat.reduceLT, ↓reduceIte, Int.reduceToNat, Int.reduceAdd, Int.reduceSub, Int.reduceMul, Int.reduceLT, Int.reduceLE, Int.reduceEq, Nat.reduceLeDiff,  intOf, f6]
        omega
    · have hke : (bs t).take k = bs t := List.take_of_length_le (by rw [bs_len]; omega)
      rw [hke] at f5
      simp +contextual (maxSteps := 2000000) (disch := (first | omega | (simp only [SZ]; done) | (simp only [SZ]; omega) | (simp only [TS] at *; omega))) only [RZ, gval, gslot, fillL, ovw, numb, catL, ldN, agL, okC, oneC, init, Nat.reduceAdd, Nat.reduceMul, Nat.reduceSub, Nat.reduceEqDiff, Nat.reduceLT, ↓reduceIte, Int.reduceToNat, Int.reduceAdd, Int.reduceSub, Int.reduceMul, Int.reduceLT, Int.reduceLE, Int.reduceEq, Nat.reduceLeDiff,  f0, f4, f5, f6]
      refine (rsigned_any (valD 0 (bs t)) ng w2 (by omega)).mono ?_
      rintro e w3 ⟨rfl, rfl⟩
      refine ⟨_, rfl, ?_⟩
      by_cases hov : limN ng < valD 0 (bs t)
      · have e1 : ((limN ng : Int) < (valD 0 (bs t) : Int)) = True := eq_true (by omega)
        rw [hR2 hov]
        simp +contextual (maxSteps := 2000000) (disch := (first | omega | (simp only [SZ]; done) | (simp only [SZ]; omega) | (simp only [TS] at *; omega))) only [RZ, gval, gslot, fillL, ovw, numb, catL, ldN, agL, okC, oneC, init, Nat.reduceAdd, Nat.reduceMul, Nat.reduceSub, Nat.reduceEqDiff, Nat.reduceLT, ↓reduceIte, Int.reduceToNat, Int.reduceAdd, Int.reduceSub, Int.reduceMul, Int.reduceLT, Int.reduceLE, Int.reduceEq, Nat.reduceLeDiff,  e1]
      · have e1 : ((limN ng : Int) < (valD 0 (bs t) : Int)) = False := eq_false (by omega)
        rw [hR3 (by omega)]
        simp +contextual (maxSteps := 2000000) (disch := (first | omega | (simp only [SZ]; done) | (simp only [SZ]; omega) | (simp only [TS] at *; omega))) only [RZ, gval, gslot, fillL, ovw, numb, catL, ldN, agL, okC, oneC, init, Nat.reduceAdd, Nat.reduceMul, Nat.reduceSub, Nat.reduceEqDiff, Nat.reduceLT, ↓reduceIte, Int.reduceToNat, Int.reduceAdd, Int.reduceSub, Int.reduceMul, Int.reduceLT, Int.reduceLE, Int.reduceEq, Nat.reduceLeDiff,  e1]
end Go.Proofs.YtcnlopjjejdahaaDoor
/- Walks: the reference's end, skip, Place. -/
namespace Go.Proofs.YtcnlopjjejdahaaDoor
open Go.RowKit
set_option maxRecDepth 100000
/-- How many bytes are blank or in remarks. -/
def skipB : Bool → List Nat → Nat
  | _, [] => 0
  | m, c :: r => if m || blankB c || c == 35 then 1 + skipB ((m || c == 35) && !(c == 10)) r else 0
theorem rskip_any (s : ByteArray) (at_ : Nat) (w : World) (hs : s.size ≤ 1000000) (ha : at_ ≤ s.size) :
    Calls Tryd.prog 74 #[.string s, .int .i64 at_] w fun e w' => e = .returned (.int .i64 (at_ + skipB false ((bs s).drop at_))) ∧ w = w' := by
  refine calls_W (l := [_, _]) Tryd.func74 rfl _ Tryd.ntmps74 (by simp) ?_
  simp +contextual (maxSteps := 2000000) (disch := (first | omega | (simp only [SZ]; done) | (simp only [SZ]; omega) | (simp only [TS] at *; omega))) only [RZ, gval, gslot, fillL, ovw, numb, catL, ldN, agL, okC, oneC, init, Nat.reduceAdd, Nat.reduceMul, Nat.reduceSub, Nat.reduceEqDiff, Nat.reduceLT, ↓reduceIte, Int.reduceToNat, Int.reduceAdd, Int.reduceSub, Int.reduceMul, Int.reduceLT, Int.reduceLE, Int.reduceEq, Nat.reduceLeDiff]
  refine Raw_loop (fun σ w' => w = w' ∧ ∃ (k : Nat) (m : Bool), at_ ≤ k ∧ k ≤ s.size ∧ k + skipB m ((bs s).drop k) = at_ + skipB false ((bs s).drop at_) ∧ σ 0 = .string s ∧ σ 1 = .int .i64 k ∧ σ 5 = .bool m) (fun σ _ => s.size - (intOf (σ 1)).toNat) ?_ ?_
  · simp +contextual (maxSteps := 2000000) (disch := (first | omega | (simp only [SZ]; done) | (simp only [SZ]; omega) | (simp only [TS] at *; omega))) only [RZ, gval, gslot, fillL, ovw, numb, catL, ldN, agL, okC, oneC, init, Nat.reduceAdd, Nat.reduceMul, Nat.reduceSub, Nat.reduceEqDiff, Nat.reduceLT, ↓reduceIte, Int.reduceToNat, Int.reduceAdd, Int.reduceSub, Int.reduceMul, Int.reduceLT, Int.reduceLE, Int.reduceEq, Nat.reduceLeDiff]
    exact ⟨at_, false, Nat.le_refl _, ha, rfl, rfl, rfl⟩
  rintro σ w' ⟨rfl, k, m, hk1, hk2, hk, e0, e1, e5⟩ K hK
  by_cases hks : k < s.size
  · have hd : decide ((k : Int) < s.size) = true := decide_eq_true (by omega)
    have hdr : (bs s).drop k = bt s k :: (bs s).drop (k + 1) := by
      have h1 := bs_get hks
      obtain ⟨h2, h3⟩ := List.getElem?_eq_some_iff.1 h1
      rw [List.drop_eq_getElem_cons h2, h3]
    rw [hdr, skipB] at hk
    have hmu : ∀ σ' : Sl, σ' 1 = .int .i64 ((k : Int) + 1) → s.size - (intOf (σ' 1)).toNat < s.size - (intOf (σ 1)).toNat := fun σ' h => by rw [h, e1]; simp only [intOf]; omega
    have hlt := bt_lt s k
    cases m with
    | true =>
      rw [if_pos (by simp)] at hk
      simp +contextual (maxSteps := 2000000) (disch := (first | omega | (simp only [SZ]; done) | (simp only [SZ]; omega) | (simp only [TS] at *; omega))) only [RZ, gval, gslot, fillL, ovw, numb, catL, ldN, agL, okC, oneC, init, Nat.reduceAdd, Nat.reduceMul, Nat.reduceSub, Nat.reduceEqDiff, Nat.reduceLT, ↓reduceIte, Int.reduceToNat, Int.reduceAdd, Int.reduceSub, Int.reduceMul, Int.reduceLT, Int.reduceLE, Int.reduceEq, Nat.reduceLeDiff,  e0, e1, e5, hd]
      refine W_if_t rfl ?_
      simp +contextual (maxSteps := 2000000) (disch := (first | omega | (simp only [SZ]; done) | (simp only [SZ]; omega) | (simp only [TS] at *; omega))) only [RZ, gval, gslot, fillL, ovw, numb, catL, ldN, agL, okC, oneC, init, Nat.reduceAdd, Nat.reduceMul, Nat.reduceSub, Nat.reduceEqDiff, Nat.reduceLT, ↓reduceIte, Int.reduceToNat, Int.reduceAdd, Int.reduceSub, Int.reduceMul, Int.reduceLT, Int.reduceLE, Int.reduceEq, Nat.reduceLeDiff,  e0, e1, e5]
      (refine W_if rfl (fun hc => ?_) (fun hc => ?_) <;> (try simp only [TS] at hc))
      · have h10 : (bt s k == 10) = false := by simp; omega
        have h35 : (bt s k == 35) = true := by simp; omega
        rw [h10, h35] at hk
        simp +contextual (maxSteps := 2000000) (disch := (first | omega | (simp only [SZ]; done) | (simp only [SZ]; omega) | (simp only [TS] at *; omega))) only [RZ, gval, gslot, fillL, ovw, numb, catL, ldN, agL, okC, oneC, init, Nat.reduceAdd, Nat.reduceMul, Nat.reduceSub, Nat.reduceEqDiff, Nat.reduceLT, ↓reduceIte, Int.reduceToNat, Int.reduceAdd, Int.reduceSub, Int.reduceMul, Int.reduceLT, Int.reduceLE, Int.reduceEq, Nat.reduceLeDiff,  e0, e1, e5]
        (refine W_if rfl (fun hc => ?_) (fun hc => ?_) <;> (try simp only [TS] at hc))
        · omega
        simp +contextual (maxSteps := 2000000) (disch := (first | omega | (simp only [SZ]; done) | (simp only [SZ]; omega) | (simp only [TS] at *; omega))) only [RZ, gval, gslot, fillL, ovw, numb, catL, ldN, agL, okC, oneC, init, Nat.reduceAdd, Nat.reduceMul, Nat.reduceSub, Nat.reduceEqDiff, Nat.reduceLT, ↓reduceIte, Int.reduceToNat, Int.reduceAdd, Int.reduceSub, Int.reduceMul, Int.reduceLT, Int.reduceLE, Int.reduceEq, Nat.reduceLeDiff,  e0, e1, e5]
        exact hK _ _ ⟨rfl, k + 1, true, by omega, by omega, by simpa [Nat.add_assoc] using hk, e0, rfl, rfl⟩ (hmu _ rfl)
      · have h35 : (bt s k == 35) = false := by simp; omega
        rw [h35] at hk
        clear hc
        simp +contextual (maxSteps := 2000000) (disch := (first | omega | (simp only [SZ]; done) | (simp only [SZ]; omega) | (simp only [TS] at *; omega))) only [RZ, gval, gslot, fillL, ovw, numb, catL, ldN, agL, okC, oneC, init, Nat.reduceAdd, Nat.reduceMul, Nat.reduceSub, Nat.reduceEqDiff, Nat.reduceLT, ↓reduceIte, Int.reduceToNat, Int.reduceAdd, Int.reduceSub, Int.reduceMul, Int.reduceLT, Int.reduceLE, Int.reduceEq, Nat.reduceLeDiff,  e0, e1, e5]
        (refine W_if rfl (fun hc => ?_) (fun hc => ?_) <;> (try simp only [TS] at hc))
        · have h10 : (bt s k == 10) = true := by simp; omega
          rw [h10] at hk
          simp +contextual (maxSteps := 2000000) (disch := (first | omega | (simp only [SZ]; done) | (simp only [SZ]; omega) | (simp only [TS] at *; omega))) only [RZ, gval, gslot, fillL, ovw, numb, catL, ldN, agL, okC, oneC, init, Nat.reduceAdd, Nat.reduceMul, Nat.reduceSub, Nat.reduceEqDiff, Nat.reduceLT, ↓reduceIte, Int.reduceToNat, Int.reduceAdd, Int.reduceSub, Int.reduceMul, Int.reduceLT, Int.reduceLE, Int.reduceEq, Nat.reduceLeDiff,  e0, e1, e5]
          exact hK _ _ ⟨rfl, k + 1, false, by omega, by omega, by simpa [Nat.add_assoc] using hk, e0, rfl, rfl⟩ (hmu _ rfl)
        · have h10 : (bt s k == 10) = false := by simp; omega
          rw [h10] at hk
          simp +contextual (maxSteps := 2000000) (disch := (first | omega | (simp only [SZ]; done) | (simp only [SZ]; omega) | (simp only [TS] at *; omega))) only [RZ, gval, gslot, fillL, ovw, numb, catL, ldN, agL, okC, oneC, init, Nat.reduceAdd, Nat.reduceMul, Nat.reduceSub, Nat.reduceEqDiff, Nat.reduceLT, ↓reduceIte, Int.reduceToNat, Int.reduceAdd, Int.reduceSub, Int.reduceMul, Int.reduceLT, Int.reduceLE, Int.reduceEq, Nat.reduceLeDiff,  e0, e1, e5]
          exact hK _ _ ⟨rfl, k + 1, true, by omega, by omega, by simpa [Nat.add_assoc] using hk, e0, rfl, e5⟩ (hmu _ rfl)
    | false =>
      simp +contextual (maxSteps := 2000000) (disch := (first | omega | (simp only [SZ]; done) | (simp only [SZ]; omega) | (simp only [TS] at *; omega))) only [RZ, gval, gslot, fillL, ovw, numb, catL, ldN, agL, okC, oneC, init, Nat.reduceAdd, Nat.reduceMul, Nat.reduceSub, Nat.reduceEqDiff, Nat.reduceLT, ↓reduceIte, Int.reduceToNat, Int.reduceAdd, Int.reduceSub, Int.reduceMul, Int.reduceLT, Int.reduceLE, Int.reduceEq, Nat.reduceLeDiff,  e0, e1, e5, hd]
      refine (rblank_any _ _).mono ?_
      rintro e w' ⟨rfl, rfl⟩
      refine ⟨_, rfl, ?_⟩
      rw [blankIB]
      cases hb : blankB (bt s k) with
      | true =>
        rw [if_pos (by rw [hb]; simp)] at hk
        simp +contextual (maxSteps := 2000000) (disch := (first | omega | (simp only [SZ]; done) | (simp only [SZ]; omega) | (simp only [TS] at *; omega))) only [RZ, gval, gslot, fillL, ovw, numb, catL, ldN, agL, okC, oneC, init, Nat.reduceAdd, Nat.reduceMul, Nat.reduceSub, Nat.reduceEqDiff, Nat.reduceLT, ↓reduceIte, Int.reduceToNat, Int.reduceAdd, Int.reduceSub, Int.reduceMul, Int.reduceLT, Int.reduceLE, Int.reduceEq, Nat.reduceLeDiff,  e0, e1, e5, hd]
        refine W_if_t rfl ?_
        simp +contextual (maxSteps := 2000000) (disch := (first | omega | (simp only [SZ]; done) | (simp only [SZ]; omega) | (simp only [TS] at *; omega))) only [RZ, gval, gslot, fillL, ovw, numb, catL, ldN, agL, okC, oneC, init, Nat.reduceAdd, Nat.reduceMul, Nat.reduceSub, Nat.reduceEqDiff, Nat.reduceLT, ↓reduceIte, Int.reduceToNat, Int.reduceAdd, Int.reduceSub, Int.reduceMul, Int.reduceLT, Int.reduceLE, Int.reduceEq, Nat.reduceLeDiff,  e0, e1, e5]
        (refine W_if rfl (fun hc => ?_) (fun hc => ?_) <;> (try simp only [TS] at hc))
        · have h10 : (bt s k == 10) = false := by simp; omega
          have h35 : (bt s k == 35) = true := by simp; omega
          rw [h10, h35] at hk
          simp +contextual (maxSteps := 2000000) (disch := (first | omega | (simp only [SZ]; done) | (simp only [SZ]; omega) | (simp only [TS] at *; omega))) only [RZ, gval, gslot, fillL, ovw, numb, catL, ldN, agL, okC, oneC, init, Nat.reduceAdd, Nat.reduceMul, Nat.reduceSub, Nat.reduceEqDiff, Nat.reduceLT, ↓reduceIte, Int.reduceToNat, Int.reduceAdd, Int.reduceSub, Int.reduceMul, Int.reduceLT, Int.reduceLE, Int.reduceEq, Nat.reduceLeDiff,  e0, e1, e5]
          (refine W_if rfl (fun hc => ?_) (fun hc => ?_) <;> (try simp only [TS] at hc))
          · omega
          simp +contextual (maxSteps := 2000000) (disch := (first | omega | (simp only [SZ]; done) | (simp only [SZ]; omega) | (simp only [TS] at *; omega))) only [RZ, gval, gslot, fillL, ovw, numb, catL, ldN, agL, okC, oneC, init, Nat.reduceAdd, Nat.reduceMul, Nat.reduceSub, Nat.reduceEqDiff, Nat.reduceLT, ↓reduceIte, Int.reduceToNat, Int.reduceAdd, Int.reduceSub, Int.reduceMul, Int.reduceLT, Int.reduceLE, Int.reduceEq, Nat.reduceLeDiff,  e0, e1, e5]
          exact hK _ _ ⟨rfl, k + 1, true, by omega, by omega, by simpa [Nat.add_assoc] using hk, e0, rfl, rfl⟩ (hmu _ rfl)
        · have h35 : (bt s k == 35) = false := by simp; omega
          rw [h35] at hk
          clear hc
          simp +contextual (maxSteps := 2000000) (disch := (first | omega | (simp only [SZ]; done) | (simp only [SZ]; omega) | (simp only [TS] at *; omega))) only [RZ, gval, gslot, fillL, ovw, numb, catL, ldN, agL, okC, oneC, init, Nat.reduceAdd, Nat.reduceMul, Nat.reduceSub, Nat.reduceEqDiff, Nat.reduceLT, ↓reduceIte, Int.reduceToNat, Int.reduceAdd, Int.reduceSub, Int.reduceMul, Int.reduceLT, Int.reduceLE, Int.reduceEq, Nat.reduceLeDiff,  e0, e1, e5]
          (refine W_if rfl (fun hc => ?_) (fun hc => ?_) <;> (try simp only [TS] at hc))
          · have h10 : (bt s k == 10) = true := by simp; omega
            rw [h10] at hk
            simp +contextual (maxSteps := 2000000) (disch := (first | omega | (simp only [SZ]; done) | (simp only [SZ]; omega) | (simp only [TS] at *; omega))) only [RZ, gval, gslot, fillL, ovw, numb, catL, ldN, agL, okC, oneC, init, Nat.reduceAdd, Nat.reduceMul, Nat.reduceSub, Nat.reduceEqDiff, Nat.reduceLT, ↓reduceIte, Int.reduceToNat, Int.reduceAdd, Int.reduceSub, Int.reduceMul, Int.reduceLT, Int.reduceLE, Int.reduceEq, Nat.reduceLeDiff,  e0, e1, e5]
            exact hK _ _ ⟨rfl, k + 1, false, by omega, by omega, by simpa [Nat.add_assoc] using hk, e0, rfl, rfl⟩ (hmu _ rfl)
          · have h10 : (bt s k == 10) = false := by simp; omega
            rw [h10] at hk
            simp +contextual (maxSteps := 2000000) (disch := (first | omega | (simp only [SZ]; done) | (simp only [SZ]; omega) | (simp only [TS] at *; omega))) only [RZ, gval, gslot, fillL, ovw, numb, catL, ldN, agL, okC, oneC, init, Nat.reduceAdd, Nat.reduceMul, Nat.reduceSub, Nat.reduceEqDiff, Nat.reduceLT, ↓reduceIte, Int.reduceToNat, Int.reduceAdd, Int.reduceSub, Int.reduceMul, Int.reduceLT, Int.reduceLE, Int.reduceEq, Nat.reduceLeDiff,  e0, e1, e5]
            exact hK _ _ ⟨rfl, k + 1, false, by omega, by omega, by simpa [Nat.add_assoc] using hk, e0, rfl, e5⟩ (hmu _ rfl)
      | false =>
        simp +contextual (maxSteps := 2000000) (disch := (first | omega | (simp only [SZ]; done) | (simp only [SZ]; omega) | (simp only [TS] at *; omega))) only [RZ, gval, gslot, fillL, ovw, numb, catL, ldN, agL, okC, oneC, init, Nat.reduceAdd, Nat.reduceMul, Nat.reduceSub, Nat.reduceEqDiff, Nat.reduceLT, ↓reduceIte, Int.reduceToNat, Int.reduceAdd, Int.reduceSub, Int.reduceMul, Int.reduceLT, Int.reduceLE, Int.reduceEq, Nat.reduceLeDiff,  e0, e1, e5, hd]
        (refine W_if rfl (fun hc => ?_) (fun hc => ?_) <;> (try simp only [TS] at hc))
        · rw [if_pos (by simp; omega)] at hk
          clear hc
          simp +contextual (maxSteps := 2000000) (disch := (first | omega | (simp only [SZ]; done) | (simp only [SZ]; omega) | (simp only [TS] at *; omega))) only [RZ, gval, gslot, fillL, ovw, numb, catL, ldN, agL, okC, oneC, init, Nat.reduceAdd, Nat.reduceMul, Nat.reduceSub, Nat.reduceEqDiff, Nat.reduceLT, ↓reduceIte, Int.reduceToNat, Int.reduceAdd, Int.reduceSub, Int.reduceMul, Int.reduceLT, Int.reduceLE, Int.reduceEq, Nat.reduceLeDiff,  e0, e1, e5]
          (refine W_if rfl (fun hc => ?_) (fun hc => ?_) <;> (try simp only [TS] at hc))
          · have h10 : (bt s k == 10) = false := by simp; omega
            have h35 : (bt s k == 35) = true := by simp; omega
            rw [h10, h35] at hk
            simp +contextual (maxSteps := 2000000) (disch := (first | omega | (simp only [SZ]; done) | (simp only [SZ]; omega) | (simp only [TS] at *; omega))) only [RZ, gval, gslot, fillL, ovw, numb, catL, ldN, agL, okC, oneC, init, Nat.reduceAdd, Nat.reduceMul, Nat.reduceSub, Nat.reduceEqDiff, Nat.reduceLT, ↓reduceIte, Int.reduceToNat, Int.reduceAdd, Int.reduceSub, Int.reduceMul, Int.reduceLT, Int.reduceLE, Int.reduceEq, Nat.reduceLeDiff,  e0, e1, e5]
            (refine W_if rfl (fun hc => ?_) (fun hc => ?_) <;> (try simp only [TS] at hc))
            · omega
            simp +contextual (maxSteps := 2000000) (disch := (first | omega | (simp only [SZ]; done) | (simp only [SZ]; omega) | (simp only [TS] at *; omega))) only [RZ, gval, gslot, fillL, ovw, numb, catL, ldN, agL, okC, oneC, init, Nat.reduceAdd, Nat.reduceMul, Nat.reduceSub, Nat.reduceEqDiff, Nat.reduceLT, ↓reduceIte, Int.reduceToNat, Int.reduceAdd, Int.reduceSub, Int.reduceMul, Int.reduceLT, Int.reduceLE, Int.reduceEq, Nat.reduceLeDiff,  e0, e1, e5]
            exact hK _ _ ⟨rfl, k + 1, true, by omega, by omega, by simpa [Nat.add_assoc] using hk, e0, rfl, rfl⟩ (hmu _ rfl)
          · have h35 : (bt s k == 35) = false := by simp; omega
            rw [h35] at hk
            clear hc
            simp +contextual (maxSteps := 2000000) (disch := (first | omega | (simp only [SZ]; done) | (simp only [SZ]; omega) | (simp only [TS] at *; omega))) only [RZ, gval, gslot, fillL, ovw, numb, catL, ldN, agL, okC, oneC, init, Nat.reduceAdd, Nat.reduceMul, Nat.reduceSub, Nat.reduceEqDiff, Nat.reduceLT, ↓reduceIte, Int.reduceToNat, Int.reduceAdd, Int.reduceSub, Int.reduceMul, Int.reduceLT, Int.reduceLE, Int.reduceEq, Nat.reduceLeDiff,  e0, e1, e5]
            (refine W_if rfl (fun hc => ?_) (fun hc => ?_) <;> (try simp only [TS] at hc))
            · have h10 : (bt s k == 10) = true := by simp; omega
              rw [h10] at hk
              simp +contextual (maxSteps := 2000000) (disch := (first | omega | (simp only [SZ]; done) | (simp only [SZ]; omega) | (simp only [TS] at *; omega))) only [RZ, gval, gslot, fillL, ovw, numb, catL, ldN, agL, okC, oneC, init, Nat.reduceAdd, Nat.reduceMul, Nat.reduceSub, Nat.reduceEqDiff, Nat.reduceLT, ↓reduceIte, Int.reduceToNat, Int.reduceAdd, Int.reduceSub, Int.reduceMul, Int.reduceLT, Int.reduceLE, Int.reduceEq, Nat.reduceLeDiff,  e0, e1, e5]
              exact hK _ _ ⟨rfl, k + 1, false, by omega, by omega, by simpa [Nat.add_assoc] using hk, e0, rfl, rfl⟩ (hmu _ rfl)
            · have h10 : (bt s k == 10) = false := by simp; omega
              rw [h10] at hk
              simp +contextual (maxSteps := 2000000) (disch := (first | omega | (simp only [SZ]; done) | (simp only [SZ]; omega) | (simp only [TS] at *; omega))) only [RZ, gval, gslot, fillL, ovw, numb, catL, ldN, agL, okC, oneC, init, Nat.reduceAdd, Nat.reduceMul, Nat.reduceSub, Nat.reduceEqDiff, Nat.reduceLT, ↓reduceIte, Int.reduceToNat, Int.reduceAdd, Int.reduceSub, Int.reduceMul, Int.reduceLT, Int.reduceLE, Int.reduceEq, Nat.reduceLeDiff,  e0, e1, e5]
              exact hK _ _ ⟨rfl, k + 1, false, by omega, by omega, by simpa [Nat.add_assoc] using hk, e0, rfl, e5⟩ (hmu _ rfl)
        · rw [if_neg (by rw [hb]; simp; omega)] at hk
          simp +contextual (maxSteps := 2000000) (disch := (first | omega | (simp only [SZ]; done) | (simp only [SZ]; omega) | (simp only [TS] at *; omega))) only [RZ, gval, gslot, fillL, ovw, numb, catL, ldN, agL, okC, oneC, init, Nat.reduceAdd, Nat.reduceMul, Nat.reduceSub, Nat.reduceEqDiff, Nat.reduceLT, ↓reduceIte, Int.reduceToNat, Int.reduceAdd, Int.reduceSub, Int.reduceMul, Int.reduceLT, Int.reduceLE, Int.reduceEq, Nat.reduceLeDiff,  e1]
          exact ret_int (by omega)
  · have hd : decide ((k : Int) < s.size) = false := decide_eq_false (by omega)
    rw [List.drop_eq_nil_of_le (by rw [bs_len]; omega), skipB] at hk
    simp +contextual (maxSteps := 2000000) (disch := (first | omega | (simp only [SZ]; done) | (simp only [SZ]; omega) | (simp only [TS] at *; omega))) only [RZ, gval, gslot, fillL, ovw, numb, catL, ldN, agL, okC, oneC, init, Nat.reduceAdd, Nat.reduceMul, Nat.reduceSub, Nat.reduceEqDiff, Nat.reduceLT, ↓reduceIte, Int.reduceToNat, Int.reduceAdd, Int.reduceSub, Int.reduceMul, Int.reduceLT, Int.reduceLE, Int.reduceEq, Nat.reduceLeDiff,  e0, e1, e5, hd]
    refine W_if_f rfl ?_
    simp +contextual (maxSteps := 2000000) (disch := (first | omega | (simp only [SZ]; done) | (simp only [SZ]; omega) | (simp only [TS] at *; omega))) only [RZ, gval, gslot, fillL, ovw, numb, catL, ldN, agL, okC, oneC, init, Nat.reduceAdd, Nat.reduceMul, Nat.reduceSub, Nat.reduceEqDiff, Nat.reduceLT, ↓reduceIte, Int.reduceToNat, Int.reduceAdd, Int.reduceSub, Int.reduceMul, Int.reduceLT, Int.reduceLE, Int.reduceEq, Nat.reduceLeDiff,  e1]
    exact ret_int (by omega)
theorem rplace_any (s : ByteArray) (n : Nat) (w : World) (hs : s.size ≤ 1000000) (hn : n ≤ s.size) :
    Calls Tryd.prog 40 #[.string s, .int .i64 n] w fun e w' => e = .returned (.tuple #[.int .i64 (place ((bs s).take n)).1, .int .i64 (place ((bs s).take n)).2]) ∧ w = w' := by
  refine calls_W (l := [_, _]) Tryd.func40 rfl _ Tryd.ntmps40 (by simp) ?_
  simp +contextual (maxSteps := 2000000) (disch := (first | omega | (simp only [SZ]; done) | (simp only [SZ]; omega) | (simp only [TS] at *; omega))) only [RZ, gval, gslot, fillL, ovw, numb, catL, ldN, agL, okC, oneC, init, Nat.reduceAdd, Nat.reduceMul, Nat.reduceSub, Nat.reduceEqDiff, Nat.reduceLT, ↓reduceIte, Int.reduceToNat, Int.reduceAdd, Int.reduceSub, Int.reduceMul, Int.reduceLT, Int.reduceLE, Int.reduceEq, Nat.reduceLeDiff]
  refine Raw_loop (fun σ w' => w = w' ∧ ∃ k : Nat, k ≤ n ∧ σ 0 = .string s ∧ σ 1 = .int .i64 n ∧ σ 6 = .int .i64 (place ((bs s).take k)).1 ∧ σ 7 = .int .i64 (place ((bs s).take k)).2 ∧ σ 8 = .int .i64 k) (fun σ _ => n - (intOf (σ 8)).toNat) ?_ ?_
  · simp +contextual (maxSteps := 2000000) (disch := (first | omega | (simp only [SZ]; done) | (simp only [SZ]; omega) | (simp only [TS] at *; omega))) only [RZ, gval, gslot, fillL, ovw, numb, catL, ldN, agL, okC, oneC, init, Nat.reduceAdd, Nat.reduceMul, Nat.reduceSub, Nat.reduceEqDiff, Nat.reduceLT, ↓reduceIte, Int.reduceToNat, Int.reduceAdd, Int.reduceSub, Int.reduceMul, Int.reduceLT, Int.reduceLE, Int.reduceEq, Nat.reduceLeDiff]
    exact ⟨0, Nat.zero_le _, rfl, rfl, rfl⟩
  rintro σ w' ⟨rfl, k, hk, e0, e1, e6, e7, e8⟩ K hK
  have hpb := place_bd ((bs s).take k)
  rw [List.length_take, bs_len] at hpb
  simp +contextual (maxSteps := 2000000) (disch := (first | omega | (simp only [SZ]; done) | (simp only [SZ]; omega) | (simp only [TS] at *; omega))) only [RZ, gval, gslot, fillL, ovw, numb, catL, ldN, agL, okC, oneC, init, Nat.reduceAdd, Nat.reduceMul, Nat.reduceSub, Nat.reduceEqDiff, Nat.reduceLT, ↓reduceIte, Int.reduceToNat, Int.reduceAdd, Int.reduceSub, Int.reduceMul, Int.reduceLT, Int.reduceLE, Int.reduceEq, Nat.reduceLeDiff,  e0, e1, e6, e7, e8]
  (refine W_if rfl (fun hc => ?_) (fun hc => ?_) <;> (try simp only [TS] at hc))
  · have hkn : k < n := by omega
    clear hc
    have hlt := bt_lt s k
    have hp : place ((bs s).take (k + 1)) = step1 (place ((bs s).take k)) (bt s k) := by
      rw [List.take_add_one, place_append, bs_get (by omega)]; rfl
    have hmu : ∀ σ' : Sl, σ' 8 = .int .i64 ((k : Int) + 1) → n - (intOf (σ' 8)).toNat < n - (intOf (σ 8)).toNat := fun σ' h => by rw [h, e8]; simp only [intOf]; omega
    simp +contextual (maxSteps := 2000000) (disch := (first | omega | (simp only [SZ]; done) | (simp only [SZ]; omega) | (simp only [TS] at *; omega))) only [RZ, gval, gslot, fillL, ovw, numb, catL, ldN, agL, okC, oneC, init, Nat.reduceAdd, Nat.reduceMul, Nat.reduceSub, Nat.reduceEqDiff, Nat.reduceLT, ↓reduceIte, Int.reduceToNat, Int.reduceAdd, Int.reduceSub, Int.reduceMul, Int.reduceLT, Int.reduceLE, Int.reduceEq, Nat.reduceLeDiff,  e0, e1, e6, e7, e8]
    (refine W_if rfl (fun hc => ?_) (fun hc => ?_) <;> (try simp only [TS] at hc))
    · unfold step1 at hp
      rw [if_pos (by omega)] at hp
      simp +contextual (maxSteps := 2000000) (disch := (first | omega | (simp only [SZ]; done) | (simp only [SZ]; omega) | (simp only [TS] at *; omega))) only [RZ, gval, gslot, fillL, ovw, numb, catL, ldN, agL, okC, oneC, init, Nat.reduceAdd, Nat.reduceMul, Nat.reduceSub, Nat.reduceEqDiff, Nat.reduceLT, ↓reduceIte, Int.reduceToNat, Int.reduceAdd, Int.reduceSub, Int.reduceMul, Int.reduceLT, Int.reduceLE, Int.reduceEq, Nat.reduceLeDiff,  e0, e1, e6, e7, e8]
      refine hK _ _ ⟨rfl, k + 1, hkn, e0, e1, ?_, ?_, rfl⟩ (hmu _ rfl)
      · rw [hp]; rfl
      · rw [hp]; rfl
    · unfold step1 at hp
      rw [if_neg (by omega)] at hp
      simp +contextual (maxSteps := 2000000) (disch := (first | omega | (simp only [SZ]; done) | (simp only [SZ]; omega) | (simp only [TS] at *; omega))) only [RZ, gval, gslot, fillL, ovw, numb, catL, ldN, agL, okC, oneC, init, Nat.reduceAdd, Nat.reduceMul, Nat.reduceSub, Nat.reduceEqDiff, Nat.reduceLT, ↓reduceIte, Int.reduceToNat, Int.reduceAdd, Int.reduceSub, Int.reduceMul, Int.reduceLT, Int.reduceLE, Int.reduceEq, Nat.reduceLeDiff,  e0, e1, e6, e7, e8]
      refine hK _ _ ⟨rfl, k + 1, hkn, e0, e1, ?_, ?_, rfl⟩ (hmu _ rfl)
      · rw [hp]; exact e6
      · rw [hp]; rfl
  · have hkn : k = n := by omega
    subst hkn
    simp +contextual (maxSteps := 2000000) (disch := (first | omega | (simp only [SZ]; done) | (simp only [SZ]; omega) | (simp only [TS] at *; omega))) only [RZ, gval, gslot, fillL, ovw, numb, catL, ldN, agL, okC, oneC, init, Nat.reduceAdd, Nat.reduceMul, Nat.reduceSub, Nat.reduceEqDiff, Nat.reduceLT, ↓reduceIte, Int.reduceToNat, Int.reduceAdd, Int.reduceSub, Int.reduceMul, Int.reduceLT, Int.reduceLE, Int.reduceEq, Nat.reduceLeDiff,  e6, e7]
end Go.Proofs.YtcnlopjjejdahaaDoor
