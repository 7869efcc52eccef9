/- Texts laid one behind the other: RfA, RfG, RfH. Each says at its head what it proves. -/
import Derived.Test.YtcnlopjjejdahaaDoorY14
set_option linter.unusedSimpArgs false
/- Walks: the reference's Size, Format, Hex, Mix. -/
namespace Go.Proofs.YtcnlopjjejdahaaDoor
open Go.RowKit
set_option maxRecDepth 100000
theorem toBA_size (l : List Nat) : (toBA l).size = l.length := by
  unfold toBA
  show (Array.size _) = _
  simp
theorem fmtI_len {n : Int} (h : numR n) : (fmtI n).length ≤ 21 := by unfold fmtI; rw [List.length_map]; exact Lib.itoa_length_le n h.1 h.2
theorem hexd_lt (q : Nat) (h : q < 16) : hexd q < 256 := by have := hexd_bd h; omega
theorem rsize_any (x : Int) (w : World) (hx : numR x) : Calls Tryd.prog 80 #[.int .i64 x] w fun e w' => e = .returned (.int .u64 (x.natAbs : Int)) ∧ w = w' := by
  refine calls_W (l := [_]) Tryd.func80 rfl _ Tryd.ntmps80 (by simp) ?_
  obtain ⟨h0, h1⟩ := hx
  simp +contextual (maxSteps := 2000000) (disch := (first | omega | (simp only [SZ]; done) | (simp only [SZ]; omega) | (simp only [TS] at *; omega))) only [RZ, gval, gslot, fillL, ovw, numb, catL, ldN, agL, okC, oneC, init, Nat.reduceAdd, Nat.reduceMul, Nat.reduceSub, Nat.reduceEqDiff, Nat.reduceLT, ↓reduceIte, Int.reduceToNat, Int.reduceAdd, Int.reduceSub, Int.reduceMul, Int.reduceLT, Int.reduceLE, Int.reduceEq, Nat.reduceLeDiff]
  (refine W_if rfl (fun hc => ?_) (fun hc => ?_) <;> (try simp only [TS] at hc))
  · simp +contextual (maxSteps := 2000000) (disch := (first | omega | (simp only [SZ]; done) | (simp only [SZ]; omega) | (simp only [TS] at *; omega))) only [RZ, gval, gslot, fillL, ovw, numb, catL, ldN, agL, okC, oneC, init, Nat.reduceAdd, Nat.reduceMul, Nat.reduceSub, Nat.reduceEqDiff, Nat.reduceLT, ↓reduceIte, Int.reduceToNat, Int.reduceAdd, Int.reduceSub, Int.reduceMul, Int.reduceLT, Int.reduceLE, Int.reduceEq, Nat.reduceLeDiff]
    exact ret_int (by omega)
  · simp +contextual (maxSteps := 2000000) (disch := (first | omega | (simp only [SZ]; done) | (simp only [SZ]; omega) | (simp only [TS] at *; omega))) only [RZ, gval, gslot, fillL, ovw, numb, catL, ldN, agL, okC, oneC, init, Nat.reduceAdd, Nat.reduceMul, Nat.reduceSub, Nat.reduceEqDiff, Nat.reduceLT, ↓reduceIte, Int.reduceToNat, Int.reduceAdd, Int.reduceSub, Int.reduceMul, Int.reduceLT, Int.reduceLE, Int.reduceEq, Nat.reduceLeDiff]
    exact ret_int (by omega)
theorem one_str (w : World) (x : Nat) (hx : x < 256) : vConvert Tryd.prog 77 9 (.slice (some ⟨w.heap.size, 0, none⟩) 1 1) (w.alloc (.cells #[.int .u8 (x : Int)] 5)) = .ok (.value (.string (toBA [x]))) (w.alloc (.cells #[.int .u8 (x : Int)] 5)) := by
  obtain ⟨s, h1, h2⟩ := bytes_str (w := w.alloc (.cells #[.int .u8 (x : Int)] 5)) (a := ⟨w.heap.size, 0, none⟩) (cap := 1) [x] (fun n hn => by simp at hn; omega) (fun j v hv => by
    rw [addr_add, Nat.zero_add, (new_block w _ _).1 j]
    simpa using hv)
  have e : s = toBA [x] := by rw [← toBA_bs s, h1]
  rw [← e]
  exact h2
theorem rformat_any (n : Int) (w : World) (hn : numR n) : Calls Tryd.prog 51 #[.int .i64 n] w fun e w' => e = .returned (.string (fmtB n)) ∧ Below w.heap.size w w' := by
  refine calls_W (l := [_]) Tryd.func51 rfl _ Tryd.ntmps51 (by simp) ?_
  simp +contextual (maxSteps := 2000000) (disch := (first | omega | (simp only [SZ]; done) | (simp only [SZ]; omega) | (simp only [TS] at *; omega))) only [RZ, gval, gslot, fillL, ovw, numb, catL, ldN, agL, okC, oneC, init, Nat.reduceAdd, Nat.reduceMul, Nat.reduceSub, Nat.reduceEqDiff, Nat.reduceLT, ↓reduceIte, Int.reduceToNat, Int.reduceAdd, Int.reduceSub, Int.reduceMul, Int.reduceLT, Int.reduceLE, Int.reduceEq, Nat.reduceLeDiff]
  refine (rsize_any n w hn).mono ?_
  rintro e w1 ⟨rfl, rfl⟩
  refine ⟨_, rfl, ?_⟩
  have hm0 : n.natAbs ≤ 9223372036854775808 := by have := hn.1; have := hn.2; omega
  have hdl : (dec n.natAbs).length ≤ 21 := by
    have h1 := fmtI_len hn
    by_cases h : n < 0
    · rw [fmtI_neg h] at h1; simp at h1; omega
    · rw [fmtI_nonneg (by omega)] at h1
      rwa [show n.toNat = n.natAbs by omega] at h1
  have hres : fmtI n = if n < 0 then 45 :: dec n.natAbs else dec n.natAbs := by
    by_cases h : n < 0
    · rw [if_pos h, fmtI_neg h]
    · rw [if_neg h, fmtI_nonneg (by omega), show n.toNat = n.natAbs by omega]
  generalize n.natAbs = m at *
  have e1 : (48 : Int) + (m : Int) % 10 = ((48 + m % 10 : Nat) : Int) := by omega
  have hst := one_str w (48 + m % 10) (by omega)
  simp +contextual (maxSteps := 2000000) (disch := (first | omega | (simp only [SZ]; done) | (simp only [SZ]; omega) | (simp only [TS] at *; omega))) only [RZ, gval, gslot, fillL, ovw, numb, catL, ldN, agL, okC, oneC, init, Nat.reduceAdd, Nat.reduceMul, Nat.reduceSub, Nat.reduceEqDiff, Nat.reduceLT, ↓reduceIte, Int.reduceToNat, Int.reduceAdd, Int.reduceSub, Int.reduceMul, Int.reduceLT, Int.reduceLE, Int.reduceEq, Nat.reduceLeDiff,  e1, hst]
  have hB1 := below_alloc w (.cells #[.int .u8 ((48 + m % 10 : Nat) : Int)] 5)
  have hs1 := hB1.size
  generalize w.alloc (.cells #[.int .u8 ((48 + m % 10 : Nat) : Int)] 5) = w1 at *
  clear hst e1
  refine Raw_loop (fun σ w2 => Below w.heap.size w w2 ∧ ∃ (i q : Nat) (Y : List Nat), i ≤ 20 ∧ q ≤ m ∧ q < 10 ^ (20 - i) ∧ (∀ d ∈ Y, d < 256) ∧ (if q < 10 then dec m = Y else dec m = dec (q / 10) ++ Y) ∧ σ 0 = .int .i64 n ∧ σ 3 = .int .u64 q ∧ σ 4 = .string (toBA Y) ∧ σ 5 = .int .i64 i) (fun σ _ => 20 - (intOf (σ 5)).toNat) ?_ ?_
  · simp +contextual (maxSteps := 2000000) (disch := (first | omega | (simp only [SZ]; done) | (simp only [SZ]; omega) | (simp only [TS] at *; omega))) only [RZ, gval, gslot, fillL, ovw, numb, catL, ldN, agL, okC, oneC, init, Nat.reduceAdd, Nat.reduceMul, Nat.reduceSub, Nat.reduceEqDiff, Nat.reduceLT, ↓reduceIte, Int.reduceToNat, Int.reduceAdd, Int.reduceSub, Int.reduceMul, Int.reduceLT, Int.reduceLE, Int.reduceEq, Nat.reduceLeDiff]
    refine ⟨hB1, 0, m, [48 + m % 10], by omega, by omega, by omega, by simp; omega, ?_, rfl, rfl, rfl⟩
    split
    · rw [dec_lt (by assumption), Nat.mod_eq_of_lt (by assumption)]
    · rw [dec_ge (by assumption)]
  clear hB1 hs1
  rintro σ w2 ⟨hB, i, q, Y, hi, hqm, hq, hY, hj, e0, e3, e4, e5⟩ K hK
  have hs2 := hB.size
  have hql : q ≤ 100000000000000000000 := by
    have h1 : 10 ^ (20 - i) ≤ 10 ^ 20 := Nat.pow_le_pow_right (by decide) (by omega)
    have h2 : 10 ^ 20 = 100000000000000000000 := by decide
    omega
  have hYl : Y.length ≤ 21 := by
    split at hj
    · rw [← hj]; exact hdl
    · have := congrArg List.length hj
      rw [List.length_append] at this
      omega
  have hz : (toBA Y).size = Y.length := toBA_size Y
  simp +contextual (maxSteps := 2000000) (disch := (first | omega | (simp only [SZ]; done) | (simp only [SZ]; omega) | (simp only [TS] at *; omega))) only [RZ, gval, gslot, fillL, ovw, numb, catL, ldN, agL, okC, oneC, init, Nat.reduceAdd, Nat.reduceMul, Nat.reduceSub, Nat.reduceEqDiff, Nat.reduceLT, ↓reduceIte, Int.reduceToNat, Int.reduceAdd, Int.reduceSub, Int.reduceMul, Int.reduceLT, Int.reduceLE, Int.reduceEq, Nat.reduceLeDiff,  e0, e3, e4, e5]
  (refine W_if rfl (fun hc => ?_) (fun hc => ?_) <;> (try simp only [TS] at hc))
  · have hq10 : ¬ q < 10 := by omega
    have hi20 : i < 20 := by omega
    clear hc
    rw [if_neg hq10] at hj
    have e6 : (48 : Int) + (q : Int) / 10 % 10 = ((48 + q / 10 % 10 : Nat) : Int) := by omega
    have hst := one_str w2 (48 + q / 10 % 10) (by omega)
    have e7 : (toBA [48 + q / 10 % 10] ++ toBA Y) = toBA ((48 + q / 10 % 10) :: Y) := by
      rw [app_toBA, bs_toBA hY, bs_toBA (by simp; omega)]; rfl
    have e8 : (toBA [48 + q / 10 % 10]).size = 1 := by rw [toBA_size]; rfl
    simp +contextual (maxSteps := 2000000) (disch := (first | omega | (simp only [SZ]; done) | (simp only [SZ]; omega) | (simp only [TS] at *; omega))) only [RZ, gval, gslot, fillL, ovw, numb, catL, ldN, agL, okC, oneC, init, Nat.reduceAdd, Nat.reduceMul, Nat.reduceSub, Nat.reduceEqDiff, Nat.reduceLT, ↓reduceIte, Int.reduceToNat, Int.reduceAdd, Int.reduceSub, Int.reduceMul, Int.reduceLT, Int.reduceLE, Int.reduceEq, Nat.reduceLeDiff,  e0, e3, e4, e5, e6, hst, e7]
    refine hK _ _ ⟨hB.trans ((below_alloc w2 _).mono hs2), i + 1, q / 10, (48 + q / 10 % 10) :: Y, by omega, by omega, ?_, ?_, ?_, ?_⟩ ?_
    · rw [show 20 - i = 20 - (i + 1) + 1 by omega, Nat.pow_succ] at hq
      omega
    · intro d hd
      rcases List.mem_cons.1 hd with rfl | hd
      · omega
      · exact hY d hd
    · split
      · rw [hj, dec_lt (by assumption), Nat.mod_eq_of_lt (by assumption)]; rfl
      · rw [hj, dec_ge (by assumption), List.append_assoc]; rfl
    · simp +contextual (maxSteps := 2000000) (disch := (first | omega | (simp only [SZ]; done) | (simp only [SZ]; omega) | (simp only [TS] at *; omega))) only [RZ, gval, gslot, fillL, ovw, numb, catL, ldN, agL, okC, oneC, init, Nat.reduceAdd, Nat.reduceMul, Nat.reduceSub, Nat.reduceEqDiff, Nat.reduceLT, ↓reduceIte, Int.reduceToNat, Int.reduceAdd, Int.reduceSub, Int.reduceMul, Int.reduceLT, Int.reduceLE, Int.reduceEq, Nat.reduceLeDiff,  e0, e3, e4, e5]
      exact congrArg (Value.int _) (by omega)
    · simp +contextual (maxSteps := 2000000) (disch := (first | omega | (simp only [SZ]; done) | (simp only [SZ]; omega) | (simp only [TS] at *; omega))) only [RZ, gval, gslot, fillL, ovw, numb, catL, ldN, agL, okC, oneC, init, Nat.reduceAdd, Nat.reduceMul, Nat.reduceSub, Nat.reduceEqDiff, Nat.reduceLT, ↓reduceIte, Int.reduceToNat, Int.reduceAdd, Int.reduceSub, Int.reduceMul, Int.reduceLT, Int.reduceLE, Int.reduceEq, Nat.reduceLeDiff,  intOf, e5]
      omega
  · have hq10 : q < 10 := by
      rcases Nat.lt_or_ge i 20 with h | h
      · omega
      · have h1 : 20 - i = 0 := by omega
        rw [h1] at hq
        omega
    rw [if_pos hq10] at hj
    clear hc
    simp +contextual (maxSteps := 2000000) (disch := (first | omega | (simp only [SZ]; done) | (simp only [SZ]; omega) | (simp only [TS] at *; omega))) only [RZ, gval, gslot, fillL, ovw, numb, catL, ldN, agL, okC, oneC, init, Nat.reduceAdd, Nat.reduceMul, Nat.reduceSub, Nat.reduceEqDiff, Nat.reduceLT, ↓reduceIte, Int.reduceToNat, Int.reduceAdd, Int.reduceSub, Int.reduceMul, Int.reduceLT, Int.reduceLE, Int.reduceEq, Nat.reduceLeDiff,  e0, e3, e4, e5]
    have e9 : (⟨#[45]⟩ : ByteArray) ++ toBA Y = toBA (45 :: Y) := by rw [app_toBA, bs_toBA hY]; rfl
    have e10 : (⟨#[45]⟩ : ByteArray).size = 1 := rfl
    have e11 : fmtB n = toBA (fmtI n) := by rw [← bs_fmtB, toBA_bs]
    (refine W_if rfl (fun hc => ?_) (fun hc => ?_) <;> (try simp only [TS] at hc))
    · rw [if_pos hc] at hres
      simp +contextual (maxSteps := 2000000) (disch := (first | omega | (simp only [SZ]; done) | (simp only [SZ]; omega) | (simp only [TS] at *; omega))) only [RZ, gval, gslot, fillL, ovw, numb, catL, ldN, agL, okC, oneC, init, Nat.reduceAdd, Nat.reduceMul, Nat.reduceSub, Nat.reduceEqDiff, Nat.reduceLT, ↓reduceIte, Int.reduceToNat, Int.reduceAdd, Int.reduceSub, Int.reduceMul, Int.reduceLT, Int.reduceLE, Int.reduceEq, Nat.reduceLeDiff,  e0, e3, e4, e5, e9]
      rw [e11, hres, hj]
      exact ⟨rfl, hB⟩
    · rw [if_neg (by omega)] at hres
      simp +contextual (maxSteps := 2000000) (disch := (first | omega | (simp only [SZ]; done) | (simp only [SZ]; omega) | (simp only [TS] at *; omega))) only [RZ, gval, gslot, fillL, ovw, numb, catL, ldN, agL, okC, oneC, init, Nat.reduceAdd, Nat.reduceMul, Nat.reduceSub, Nat.reduceEqDiff, Nat.reduceLT, ↓reduceIte, Int.reduceToNat, Int.reduceAdd, Int.reduceSub, Int.reduceMul, Int.reduceLT, Int.reduceLE, Int.reduceEq, Nat.reduceLeDiff,  e0, e3, e4, e5]
      rw [e11, hres, hj]
      exact ⟨rfl, hB⟩
theorem digS : ∀ q : Fin 16, (⟨#[48, 49, 50, 51, 52, 53, 54, 55, 56, 57, 97, 98, 99, 100, 101, 102]⟩ : ByteArray).extract q.1 (q.1 + 1) = toBA [hexd q.1] := by decide
theorem rhex_any (X : Nat) (w : World) (h1 : X ≤ 18446744073709551615) : Calls Tryd.prog 57 #[.int .u64 X] w fun e w' => e = .returned (.string (toBA (hexT 16 X))) ∧ Below w.heap.size w w' := by
  refine calls_W (l := [_]) Tryd.func57 rfl _ Tryd.ntmps57 (by simp) ?_
  simp +contextual (maxSteps := 2000000) (disch := (first | omega | (simp only [SZ]; done) | (simp only [SZ]; omega) | (simp only [TS] at *; omega))) only [RZ, gval, gslot, fillL, ovw, numb, catL, ldN, agL, okC, oneC, init, Nat.reduceAdd, Nat.reduceMul, Nat.reduceSub, Nat.reduceEqDiff, Nat.reduceLT, ↓reduceIte, Int.reduceToNat, Int.reduceAdd, Int.reduceSub, Int.reduceMul, Int.reduceLT, Int.reduceLE, Int.reduceEq, Nat.reduceLeDiff]
  refine Raw_loop (fun σ w2 => Below w.heap.size w w2 ∧ ∃ i : Nat, i ≤ 16 ∧ σ 0 = .int .u64 ((X / 16 ^ i : Nat) : Int) ∧ σ 3 = .string (toBA (hexT i X)) ∧ σ 4 = .int .i64 i) (fun σ _ => 16 - (intOf (σ 4)).toNat) ?_ ?_
  · simp +contextual (maxSteps := 2000000) (disch := (first | omega | (simp only [SZ]; done) | (simp only [SZ]; omega) | (simp only [TS] at *; omega))) only [RZ, gval, gslot, fillL, ovw, numb, catL, ldN, agL, okC, oneC, init, Nat.reduceAdd, Nat.reduceMul, Nat.reduceSub, Nat.reduceEqDiff, Nat.reduceLT, ↓reduceIte, Int.reduceToNat, Int.reduceAdd, Int.reduceSub, Int.reduceMul, Int.reduceLT, Int.reduceLE, Int.reduceEq, Nat.reduceLeDiff]
    refine ⟨Below.refl _ _, 0, by omega, ?_, rfl, rfl⟩
    rw [Nat.pow_zero, Nat.div_one]
  rintro σ w2 ⟨hB, i, hi, e0, e3, e4⟩ K hK
  have hY : ∀ d ∈ hexT i X, d < 256 := fun d hd => by have := hexT_all i X d hd; omega
  have hz : (toBA (hexT i X)).size = i := by rw [toBA_size, hexT_len]
  have hqle : X / 16 ^ i ≤ X := Nat.div_le_self _ _
  have hq2 : X / 16 ^ (i + 1) = X / 16 ^ i / 16 := by rw [Nat.pow_succ, Nat.div_div_eq_div_mul]
  have hT : hexT (i + 1) X = hexd (X / 16 ^ i % 16) :: hexT i X := rfl
  generalize X / 16 ^ i = q at *
  simp +contextual (maxSteps := 2000000) (disch := (first | omega | (simp only [SZ]; done) | (simp only [SZ]; omega) | (simp only [TS] at *; omega))) only [RZ, gval, gslot, fillL, ovw, numb, catL, ldN, agL, okC, oneC, init, Nat.reduceAdd, Nat.reduceMul, Nat.reduceSub, Nat.reduceEqDiff, Nat.reduceLT, ↓reduceIte, Int.reduceToNat, Int.reduceAdd, Int.reduceSub, Int.reduceMul, Int.reduceLT, Int.reduceLE, Int.reduceEq, Nat.reduceLeDiff,  e0, e3, e4]
  (refine W_if rfl (fun hc => ?_) (fun hc => ?_) <;> (try simp only [TS] at hc))
  · have hi16 : i < 16 := by omega
    clear hc
    have x2 : ((q : Nat) : Int) % 16 = ((q % 16 : Nat) : Int) := by omega
    have x3 : (((q % 16 : Nat) : Int) + 1).toNat = q % 16 + 1 := by omega
    have hsz : (⟨#[48, 49, 50, 51, 52, 53, 54, 55, 56, 57, 97, 98, 99, 100, 101, 102]⟩ : ByteArray).size = 16 := rfl
    have hd := digS ⟨q % 16, by omega⟩
    simp only at hd
    have e7 : toBA [hexd (q % 16)] ++ toBA (hexT i X) = toBA (hexT (i + 1) X) := by
      rw [app_toBA, bs_toBA hY, bs_toBA (by have := hexd_lt (q % 16) (by omega); simpa using this), hT]; rfl
    have e8 : (toBA [hexd (q % 16)]).size = 1 := by rw [toBA_size]; rfl
    simp +contextual (maxSteps := 2000000) (disch := (first | omega | (simp only [SZ]; done) | (simp only [SZ]; omega) | (simp only [TS] at *; omega))) only [RZ, gval, gslot, fillL, ovw, numb, catL, ldN, agL, okC, oneC, init, Nat.reduceAdd, Nat.reduceMul, Nat.reduceSub, Nat.reduceEqDiff, Nat.reduceLT, ↓reduceIte, Int.reduceToNat, Int.reduceAdd, Int.reduceSub, Int.reduceMul, Int.reduceLT, Int.reduceLE, Int.reduceEq, Nat.reduceLeDiff,  e0, e3, e4, x2, x3, hsz, hd, e7]
    refine hK _ _ ⟨hB, i + 1, by omega, ?_⟩ ?_
    · simp +contextual (maxSteps := 2000000) (disch := (first | omega | (simp only [SZ]; done) | (simp only [SZ]; omega) | (simp only [TS] at *; omega))) only [RZ, gval, gslot, fillL, ovw, numb, catL, ldN, agL, okC, oneC, init, Nat.reduceAdd, Nat.reduceMul, Nat.reduceSub, Nat.reduceEqDiff, Nat.reduceLT, ↓reduceIte, Int.reduceToNat, Int.reduceAdd, Int.reduceSub, Int.reduceMul, Int.reduceLT, Int.reduceLE, Int.reduceEq, Nat.reduceLeDiff,  e0, e3, e4]
      rw [hq2]
      exact congrArg (Value.int _) (by omega)
    · simp +contextual (maxSteps := 2000000) (disch := (first | omega | (simp only [SZ]; done) | (simp only [SZ]; omega) | (simp only [TS] at *; omega))) only [RZ, gval, gslot, fillL, ovw, numb, catL, ldN, agL, okC, oneC, init, Nat.reduceAdd, Nat.reduceMul, Nat.reduceSub, Nat.reduceEqDiff, Nat.reduceLT, ↓reduceIte, Int.reduceToNat, Int.reduceAdd, Int.reduceSub, Int.reduceMul, Int.reduceLT, Int.reduceLE, Int.reduceEq, Nat.reduceLeDiff,  intOf, e4]
      omega
  · obtain rfl : i = 16 := by omega
    simp +contextual (maxSteps := 2000000) (disch := (first | omega | (simp only [SZ]; done) | (simp only [SZ]; omega) | (simp only [TS] at *; omega))) only [RZ, gval, gslot, fillL, ovw, numb, catL, ldN, agL, okC, oneC, init, Nat.reduceAdd, Nat.reduceMul, Nat.reduceSub, Nat.reduceEqDiff, Nat.reduceLT, ↓reduceIte, Int.reduceToNat, Int.reduceAdd, Int.reduceSub, Int.reduceMul, Int.reduceLT, Int.reduceLE, Int.reduceEq, Nat.reduceLeDiff,  e0, e3, e4]
    exact hB
theorem rmix_any (x : Int) (w : World) (h0 : 0 ≤ x) (h1 : x ≤ 18446744073709551615) : Calls Tryd.prog 58 #[.int .u64 x] w fun e w' => e = .returned (.int .u64 (mixI x)) ∧ w = w' := by
  refine calls_W (l := [_]) Tryd.func58 rfl _ Tryd.ntmps58 (by simp) ?_
  have a1 := xorI_sh (b := x / 1073741824) h0 h1 (by omega)
  have a2 := mod_bd (xorI x (x / 1073741824) * 13787848793156543929)
  have a3 := xorI_sh (b := (xorI x (x / 1073741824) * 13787848793156543929 % 18446744073709551616) / 134217728) a2.1 a2.2 (by omega)
  have a4 := mod_bd (xorI (xorI x (x / 1073741824) * 13787848793156543929 % 18446744073709551616) ((xorI x (x / 1073741824) * 13787848793156543929 % 18446744073709551616) / 134217728) * 10723151780598845931)
  simp +contextual (maxSteps := 2000000) (disch := (first | omega | (simp only [SZ]; done) | (simp only [SZ]; omega) | (simp only [TS] at *; omega))) only [RZ, gval, gslot, fillL, ovw, numb, catL, ldN, agL, okC, oneC, init, Nat.reduceAdd, Nat.reduceMul, Nat.reduceSub, Nat.reduceEqDiff, Nat.reduceLT, ↓reduceIte, Int.reduceToNat, Int.reduceAdd, Int.reduceSub, Int.reduceMul, Int.reduceLT, Int.reduceLE, Int.reduceEq, Nat.reduceLeDiff,  vBin_xorU, vBin_mulW, Int.reducePow, a1, a2, a3, a4]
  unfold mixI mixB mixA
  rfl
end Go.Proofs.YtcnlopjjejdahaaDoor
/- Walks: the reference's stream: New, Next, good, Below, rising. -/
namespace Go.Proofs.YtcnlopjjejdahaaDoor
open Go.RowKit
set_option maxRecDepth 100000
/-- The reference's stream: its state; how often it was used does not matter. -/
def RsIn (w : World) (g : Nat) (st : Int) : Prop := (0 ≤ st ∧ st ≤ 18446744073709551615) ∧ ∃ u : Int, Row w g 112 [.int .u64 st, .int .i64 u]
theorem RsIn.only {lo hi g : Nat} {w w' : World} {st : Int} (h : RsIn w g st) (ho : Only lo hi w w') (hr : g < lo ∨ hi ≤ g) : RsIn w' g st := by
  obtain ⟨hb, u, hR⟩ := h
  exact ⟨hb, u, hR.only ho hr⟩
theorem RsIn.below {g : Nat} {w w' : World} {st : Int} (h : RsIn w g st) (ho : Below w.heap.size w w') : RsIn w' g st := by
  obtain ⟨hb, u, hR⟩ := h
  exact ⟨hb, u, hR.below ho⟩
theorem RsIn.lt {g : Nat} {w : World} {st : Int} (h : RsIn w g st) : g < w.heap.size := by
  obtain ⟨_, u, hR⟩ := h
  exact hR.lt
theorem RsIn.far {g : Nat} {w : World} {st : Int} (h : RsIn w g st) {p : Addr} (hp : g ≠ p.block) (v : Value) : RsIn (w.setCell p v) g st := by
  obtain ⟨hb, u, hR⟩ := h
  exact ⟨hb, u, hR.far hp v⟩
theorem rsNew_any (st : Int) (w : World) (h0 : 0 ≤ st) (h1 : st ≤ 18446744073709551615) : Calls Tryd.prog 55 #[.int .u64 st] w fun e w' => e = .returned (.pointer (some ⟨w.heap.size, 0, none⟩)) ∧ RsIn w' w.heap.size st ∧ Below w.heap.size w w' ∧ w'.heap.size = w.heap.size + 1 := by
  refine calls_W (l := [_]) Tryd.func55 rfl _ Tryd.ntmps55 (by simp) ?_
  simp +contextual (maxSteps := 2000000) (disch := (first | omega | (simp only [SZ]; done) | (simp only [SZ]; omega) | (simp only [TS] at *; omega))) only [RZ, gval, gslot, fillL, ovw, numb, catL, ldN, agL, okC, oneC, init, Nat.reduceAdd, Nat.reduceMul, Nat.reduceSub, Nat.reduceEqDiff, Nat.reduceLT, ↓reduceIte, Int.reduceToNat, Int.reduceAdd, Int.reduceSub, Int.reduceMul, Int.reduceLT, Int.reduceLE, Int.reduceEq, Nat.reduceLeDiff]
  exact ⟨⟨⟨h0, h1⟩, 0, Row.new _ _ _⟩, below_alloc _ _⟩
theorem rsNext_any (g : Nat) (st : Int) (w : World) (h : RsIn w g st) : Calls Tryd.prog 85 #[.pointer (some ⟨g, 0, none⟩)] w fun e w' => e = .returned (.int .u64 (mixI (nxtI st))) ∧ RsIn w' g (nxtI st) ∧ Only g (g + 1) w w' := by
  refine calls_W (l := [_]) Tryd.func85 rfl _ Tryd.ntmps85 (by simp) ?_
  obtain ⟨hb, u, hR⟩ := h
  have c0 := hR.cell (i := 0) rfl
  have c1 := hR.cell (i := 1) rfl
  have z0 := hR.frozen 0
  have z1 := hR.frozen 1
  have hs := nxtI_bd st
  simp +contextual (maxSteps := 2000000) (disch := (first | omega | (simp only [SZ]; done) | (simp only [SZ]; omega) | (simp only [TS] at *; omega))) only [RZ, gval, gslot, fillL, ovw, numb, catL, ldN, agL, okC, oneC, init, Nat.reduceAdd, Nat.reduceMul, Nat.reduceSub, Nat.reduceEqDiff, Nat.reduceLT, ↓reduceIte, Int.reduceToNat, Int.reduceAdd, Int.reduceSub, Int.reduceMul, Int.reduceLT, Int.reduceLE, Int.reduceEq, Nat.reduceLeDiff,  c0, c1, z0, z1, vBin_addW, vBin_addIw]
  refine (rmix_any (nxtI st) _ hs.1 hs.2).mono ?_
  rintro e w1 ⟨rfl, rfl⟩
  refine ⟨_, rfl, ?_⟩
  try simp +contextual (maxSteps := 2000000) (disch := (first | omega | (simp only [SZ]; done) | (simp only [SZ]; omega) | (simp only [TS] at *; omega))) only [RZ, gval, gslot, fillL, ovw, numb, catL, ldN, agL, okC, oneC, init, Nat.reduceAdd, Nat.reduceMul, Nat.reduceSub, Nat.reduceEqDiff, Nat.reduceLT, ↓reduceIte, Int.reduceToNat, Int.reduceAdd, Int.reduceSub, Int.reduceMul, Int.reduceLT, Int.reduceLE, Int.reduceEq, Nat.reduceLeDiff]
  exact ⟨⟨hs, _, (hR.set_ (i := 0) (by simp) _).set_ (i := 1) (by simp) _⟩, ((Only.refl g (g + 1) w).setCell (p := ⟨g, 0, none⟩) (Nat.le_refl _) (Nat.lt_succ_self _) _).setCell (p := ⟨g, 1, none⟩) (Nat.le_refl _) (Nat.lt_succ_self _) _⟩
theorem rgood_any (v n : Int) (w : World) (hv : 0 ≤ v ∧ v ≤ 18446744073709551615) (hn : 1 ≤ n ∧ n ≤ 2147483648) : Calls Tryd.prog 86 #[.int .u64 v, .int .u64 n] w fun e w' => e = .returned (.bool (decide (v ≤ 18446744073709551615 - rejI n))) ∧ w = w' := by
  refine calls_W (l := [_, _]) Tryd.func86 rfl _ Tryd.ntmps86 (by simp) ?_
  have hm0 : 0 ≤ 18446744073709551615 % n := Int.emod_nonneg _ (by omega)
  have hm1 : 18446744073709551615 % n < n := Int.emod_lt_of_pos _ (by omega)
  have hq : (18446744073709551615 % n + 1) % n = rejI n := by
    unfold rejI
    rw [Int.emod_add_emod, Int.sub_emod_right]
    rfl
  have hr0 : 0 ≤ rejI n := Int.emod_nonneg _ (by omega)
  have hr1 : rejI n < n := Int.emod_lt_of_pos _ (by omega)
  simp +contextual (maxSteps := 2000000) (disch := (first | omega | (simp only [SZ]; done) | (simp only [SZ]; omega) | (simp only [TS] at *; omega))) only [RZ, gval, gslot, fillL, ovw, numb, catL, ldN, agL, okC, oneC, init, Nat.reduceAdd, Nat.reduceMul, Nat.reduceSub, Nat.reduceEqDiff, Nat.reduceLT, ↓reduceIte, Int.reduceToNat, Int.reduceAdd, Int.reduceSub, Int.reduceMul, Int.reduceLT, Int.reduceLE, Int.reduceEq, Nat.reduceLeDiff,  hq]
  refine ret_bool ?_
  by_cases h : rejI n = 0
  · rw [h]
    simp
    omega
  · simp [h]
theorem asc1_succ (n : Nat) : asc1 (n + 1) = asc1 n ++ [(n : Int) + 1] := by
  unfold asc1
  rw [List.range_succ, List.map_append]
  rfl
theorem rising_any (n : Nat) (w : World) (hn : n ≤ 4096) : Calls Tryd.prog 84 #[.int .i64 n] w fun e w' => ∃ A c, e = .returned (.slice A n c) ∧ w'.ownsRow w.heap.size 3 1 (.slice A n c) n (iV (asc1 n)) ∧ Below w.heap.size w w' := by
  refine calls_W (l := [_]) Tryd.func84 rfl _ Tryd.ntmps84 (by simp) ?_
  have hI : sliceI Tryd.prog 74 = some (3, 1, 8) := by kernel_rfl
  simp +contextual (maxSteps := 2000000) (disch := (first | omega | (simp only [SZ]; done) | (simp only [SZ]; omega) | (simp only [TS] at *; omega))) only [RZ, gval, gslot, fillL, ovw, numb, catL, ldN, agL, okC, oneC, init, Nat.reduceAdd, Nat.reduceMul, Nat.reduceSub, Nat.reduceEqDiff, Nat.reduceLT, ↓reduceIte, Int.reduceToNat, Int.reduceAdd, Int.reduceSub, Int.reduceMul, Int.reduceLT, Int.reduceLE, Int.reduceEq, Nat.reduceLeDiff]
  refine Raw_loop (fun σ w2 => ∃ (j : Nat) (A : Option Addr) (c : Nat), j ≤ n ∧ w2.ownsRow w.heap.size 3 1 (.slice A j c) j (iV (asc1 j)) ∧ Below w.heap.size w w2 ∧ σ 0 = .int .i64 n ∧ σ 3 = .slice A j c ∧ σ 4 = .int .i64 ((j : Int) + 1)) (fun σ _ => n + 1 - (intOf (σ 4)).toNat) ?_ ?_
  · simp +contextual (maxSteps := 2000000) (disch := (first | omega | (simp only [SZ]; done) | (simp only [SZ]; omega) | (simp only [TS] at *; omega))) only [RZ, gval, gslot, fillL, ovw, numb, catL, ldN, agL, okC, oneC, init, Nat.reduceAdd, Nat.reduceMul, Nat.reduceSub, Nat.reduceEqDiff, Nat.reduceLT, ↓reduceIte, Int.reduceToNat, Int.reduceAdd, Int.reduceSub, Int.reduceMul, Int.reduceLT, Int.reduceLE, Int.reduceEq, Nat.reduceLeDiff]
    exact ⟨0, none, 0, Nat.zero_le _, owns_nil _ _ _ _, Below.refl _ _, rfl, rfl⟩
  rintro σ w2 ⟨j, A, c, hj, hown, hB, f0, f3, f4⟩ K hK
  simp +contextual (maxSteps := 2000000) (disch := (first | omega | (simp only [SZ]; done) | (simp only [SZ]; omega) | (simp only [TS] at *; omega))) only [RZ, gval, gslot, fillL, ovw, numb, catL, ldN, agL, okC, oneC, init, Nat.reduceAdd, Nat.reduceMul, Nat.reduceSub, Nat.reduceEqDiff, Nat.reduceLT, ↓reduceIte, Int.reduceToNat, Int.reduceAdd, Int.reduceSub, Int.reduceMul, Int.reduceLT, Int.reduceLE, Int.reduceEq, Nat.reduceLeDiff,  f0, f3, f4]
  (refine W_if rfl (fun hc => ?_) (fun hc => ?_) <;> (try simp only [TS] at hc))
  · obtain ⟨A', c', w7, he, hown7, hb7, hs7⟩ := push1 (P := Tryd.prog) (T := 74) (ty := 74) (news := [.int .i64 ((j : Int) + 1)]) hown hB.size hI rfl (fun u hu => by simp at hu; subst hu; rfl) (by omega) (by decide)
    simp +contextual (maxSteps := 2000000) (disch := (first | omega | (simp only [SZ]; done) | (simp only [SZ]; omega) | (simp only [TS] at *; omega))) only [RZ, gval, gslot, fillL, ovw, numb, catL, ldN, agL, okC, oneC, init, Nat.reduceAdd, Nat.reduceMul, Nat.reduceSub, Nat.reduceEqDiff, Nat.reduceLT, ↓reduceIte, Int.reduceToNat, Int.reduceAdd, Int.reduceSub, Int.reduceMul, Int.reduceLT, Int.reduceLE, Int.reduceEq, Nat.reduceLeDiff,  f0, f3, f4, he]
    refine hK _ _ ⟨j + 1, A', c', by omega, ?_, hB.trans hb7, ?_⟩ ?_
    · rw [asc1_succ]
      unfold iV
      rw [List.map_append]
      exact hown7
    · simp +contextual (maxSteps := 2000000) (disch := (first | omega | (simp only [SZ]; done) | (simp only [SZ]; omega) | (simp only [TS] at *; omega))) only [RZ, gval, gslot, fillL, ovw, numb, catL, ldN, agL, okC, oneC, init, Nat.reduceAdd, Nat.reduceMul, Nat.reduceSub, Nat.reduceEqDiff, Nat.reduceLT, ↓reduceIte, Int.reduceToNat, Int.reduceAdd, Int.reduceSub, Int.reduceMul, Int.reduceLT, Int.reduceLE, Int.reduceEq, Nat.reduceLeDiff,  f0, f3, f4]
    · simp +contextual (maxSteps := 2000000) (disch := (first | omega | (simp only [SZ]; done) | (simp only [SZ]; omega) | (simp only [TS] at *; omega))) only [RZ, gval, gslot, fillL, ovw, numb, catL, ldN, agL, okC, oneC, init, Nat.reduceAdd, Nat.reduceMul, Nat.reduceSub, Nat.reduceEqDiff, Nat.reduceLT, ↓reduceIte, Int.reduceToNat, Int.reduceAdd, Int.reduceSub, Int.reduceMul, Int.reduceLT, Int.reduceLE, Int.reduceEq, Nat.reduceLeDiff,  intOf, f4]
      omega
  · obtain rfl : j = n := by omega
    simp +contextual (maxSteps := 2000000) (disch := (first | omega | (simp only [SZ]; done) | (simp only [SZ]; omega) | (simp only [TS] at *; omega))) only [RZ, gval, gslot, fillL, ovw, numb, catL, ldN, agL, okC, oneC, init, Nat.reduceAdd, Nat.reduceMul, Nat.reduceSub, Nat.reduceEqDiff, Nat.reduceLT, ↓reduceIte, Int.reduceToNat, Int.reduceAdd, Int.reduceSub, Int.reduceMul, Int.reduceLT, Int.reduceLE, Int.reduceEq, Nat.reduceLeDiff,  f0, f3, f4]
    exact ⟨A, c, rfl, hown, hB⟩
theorem rbelow_any (g : Nat) (n st : Int) (w : World) (h : RsIn w g st) (hn : -9223372036854775808 ≤ n ∧ n ≤ 9223372036854775807) : Calls Tryd.prog 61 #[.pointer (some ⟨g, 0, none⟩), .int .i64 n] w fun e w' =>
    e = .returned (.tuple #[.int .i64 (belE n st).1, .int .i64 (belE n st).2.1]) ∧ RsIn w' g (belE n st).2.2 ∧ Only g (g + 1) w w' := by
  refine calls_W (l := [_, _]) Tryd.func61 rfl _ Tryd.ntmps61 (by simp) ?_
  simp +contextual (maxSteps := 2000000) (disch := (first | omega | (simp only [SZ]; done) | (simp only [SZ]; omega) | (simp only [TS] at *; omega))) only [RZ, gval, gslot, fillL, ovw, numb, catL, ldN, agL, okC, oneC, init, Nat.reduceAdd, Nat.reduceMul, Nat.reduceSub, Nat.reduceEqDiff, Nat.reduceLT, ↓reduceIte, Int.reduceToNat, Int.reduceAdd, Int.reduceSub, Int.reduceMul, Int.reduceLT, Int.reduceLE, Int.reduceEq, Nat.reduceLeDiff]
  (refine W_if rfl (fun hc => ?_) (fun hc => ?_) <;> (try simp only [TS] at hc))
  · simp +contextual (maxSteps := 2000000) (disch := (first | omega | (simp only [SZ]; done) | (simp only [SZ]; omega) | (simp only [TS] at *; omega))) only [RZ, gval, gslot, fillL, ovw, numb, catL, ldN, agL, okC, oneC, init, Nat.reduceAdd, Nat.reduceMul, Nat.reduceSub, Nat.reduceEqDiff, Nat.reduceLT, ↓reduceIte, Int.reduceToNat, Int.reduceAdd, Int.reduceSub, Int.reduceMul, Int.reduceLT, Int.reduceLE, Int.reduceEq, Nat.reduceLeDiff]
    unfold belE
    rw [if_pos (by omega)]
    exact ⟨rfl, h, Only.refl _ _ _⟩
  unfold belE
  rw [if_neg (by omega)]
  simp +contextual (maxSteps := 2000000) (disch := (first | omega | (simp only [SZ]; done) | (simp only [SZ]; omega) | (simp only [TS] at *; omega))) only [RZ, gval, gslot, fillL, ovw, numb, catL, ldN, agL, okC, oneC, init, Nat.reduceAdd, Nat.reduceMul, Nat.reduceSub, Nat.reduceEqDiff, Nat.reduceLT, ↓reduceIte, Int.reduceToNat, Int.reduceAdd, Int.reduceSub, Int.reduceMul, Int.reduceLT, Int.reduceLE, Int.reduceEq, Nat.reduceLeDiff]
  have hr0 : 0 ≤ rejI n := Int.emod_nonneg _ (by omega)
  have hr1 : rejI n < n := Int.emod_lt_of_pos _ (by omega)
  refine Raw_loop (fun σ w2 => ∃ (k : Nat) (st2 : Int), k ≤ 64 ∧ belR n (64 - k) st2 = belR n 64 st ∧ RsIn w2 g st2 ∧ Only g (g + 1) w w2 ∧ σ 0 = .pointer (some ⟨g, 0, none⟩) ∧ σ 1 = .int .i64 n ∧ σ 6 = .int .i64 k) (fun σ _ => 64 - (intOf (σ 6)).toNat) ?_ ?_
  · simp +contextual (maxSteps := 2000000) (disch := (first | omega | (simp only [SZ]; done) | (simp only [SZ]; omega) | (simp only [TS] at *; omega))) only [RZ, gval, gslot, fillL, ovw, numb, catL, ldN, agL, okC, oneC, init, Nat.reduceAdd, Nat.reduceMul, Nat.reduceSub, Nat.reduceEqDiff, Nat.reduceLT, ↓reduceIte, Int.reduceToNat, Int.reduceAdd, Int.reduceSub, Int.reduceMul, Int.reduceLT, Int.reduceLE, Int.reduceEq, Nat.reduceLeDiff]
    exact ⟨0, st, by omega, rfl, h, Only.refl _ _ _, rfl⟩
  rintro σ w2 ⟨k, st2, hk, hi, hst, ho, f0, f1, f6⟩ K hK
  simp +contextual (maxSteps := 2000000) (disch := (first | omega | (simp only [SZ]; done) | (simp only [SZ]; omega) | (simp only [TS] at *; omega))) only [RZ, gval, gslot, fillL, ovw, numb, catL, ldN, agL, okC, oneC, init, Nat.reduceAdd, Nat.reduceMul, Nat.reduceSub, Nat.reduceEqDiff, Nat.reduceLT, ↓reduceIte, Int.reduceToNat, Int.reduceAdd, Int.reduceSub, Int.reduceMul, Int.reduceLT, Int.reduceLE, Int.reduceEq, Nat.reduceLeDiff,  f0, f1, f6]
  (refine W_if rfl (fun hc => ?_) (fun hc => ?_) <;> (try simp only [TS] at hc))
  · rw [show 64 - k = (64 - (k + 1)) + 1 by omega, belR_def] at hi
    have hm := mixI_bd (nxtI st2) (nxtI_bd st2).1
    simp +contextual (maxSteps := 2000000) (disch := (first | omega | (simp only [SZ]; done) | (simp only [SZ]; omega) | (simp only [TS] at *; omega))) only [RZ, gval, gslot, fillL, ovw, numb, catL, ldN, agL, okC, oneC, init, Nat.reduceAdd, Nat.reduceMul, Nat.reduceSub, Nat.reduceEqDiff, Nat.reduceLT, ↓reduceIte, Int.reduceToNat, Int.reduceAdd, Int.reduceSub, Int.reduceMul, Int.reduceLT, Int.reduceLE, Int.reduceEq, Nat.reduceLeDiff,  f0, f1, f6]
    refine (rsNext_any g st2 _ hst).mono ?_
    rintro e w3 ⟨rfl, hst3, ho3⟩
    refine ⟨_, rfl, ?_⟩
    have hv0 : 0 ≤ mixI (nxtI st2) % n := Int.emod_nonneg _ (by omega)
    have hv1 : mixI (nxtI st2) % n < n := Int.emod_lt_of_pos _ (by omega)
    simp +contextual (maxSteps := 2000000) (disch := (first | omega | (simp only [SZ]; done) | (simp only [SZ]; omega) | (simp only [TS] at *; omega))) only [RZ, gval, gslot, fillL, ovw, numb, catL, ldN, agL, okC, oneC, init, Nat.reduceAdd, Nat.reduceMul, Nat.reduceSub, Nat.reduceEqDiff, Nat.reduceLT, ↓reduceIte, Int.reduceToNat, Int.reduceAdd, Int.reduceSub, Int.reduceMul, Int.reduceLT, Int.reduceLE, Int.reduceEq, Nat.reduceLeDiff,  f0, f1, f6]
    refine (rgood_any (mixI (nxtI st2)) n w3 hm (by omega)).mono ?_
    rintro e w4 ⟨rfl, rfl⟩
    refine ⟨_, rfl, ?_⟩
    by_cases hg : mixI (nxtI st2) ≤ 18446744073709551615 - rejI n
    · rw [if_pos hg] at hi
      have e1 : decide (mixI (nxtI st2) ≤ 18446744073709551615 - rejI n) = true := decide_eq_true hg
      simp +contextual (maxSteps := 2000000) (disch := (first | omega | (simp only [SZ]; done) | (simp only [SZ]; omega) | (simp only [TS] at *; omega))) only [RZ, gval, gslot, fillL, ovw, numb, catL, ldN, agL, okC, oneC, init, Nat.reduceAdd, Nat.reduceMul, Nat.reduceSub, Nat.reduceEqDiff, Nat.reduceLT, ↓reduceIte, Int.reduceToNat, Int.reduceAdd, Int.reduceSub, Int.reduceMul, Int.reduceLT, Int.reduceLE, Int.reduceEq, Nat.reduceLeDiff,  e1]
      refine W_if_t rfl ?_
      simp +contextual (maxSteps := 2000000) (disch := (first | omega | (simp only [SZ]; done) | (simp only [SZ]; omega) | (simp only [TS] at *; omega))) only [RZ, gval, gslot, fillL, ovw, numb, catL, ldN, agL, okC, oneC, init, Nat.reduceAdd, Nat.reduceMul, Nat.reduceSub, Nat.reduceEqDiff, Nat.reduceLT, ↓reduceIte, Int.reduceToNat, Int.reduceAdd, Int.reduceSub, Int.reduceMul, Int.reduceLT, Int.reduceLE, Int.reduceEq, Nat.reduceLeDiff,  f0, f1, f6]
      rw [← hi]
      exact ⟨rfl, hst3, ho.trans ho3⟩
    · rw [if_neg hg] at hi
      have e1 : decide (mixI (nxtI st2) ≤ 18446744073709551615 - rejI n) = false := decide_eq_false hg
      simp +contextual (maxSteps := 2000000) (disch := (first | omega | (simp only [SZ]; done) | (simp only [SZ]; omega) | (simp only [TS] at *; omega))) only [RZ, gval, gslot, fillL, ovw, numb, catL, ldN, agL, okC, oneC, init, Nat.reduceAdd, Nat.reduceMul, Nat.reduceSub, Nat.reduceEqDiff, Nat.reduceLT, ↓reduceIte, Int.reduceToNat, Int.reduceAdd, Int.reduceSub, Int.reduceMul, Int.reduceLT, Int.reduceLE, Int.reduceEq, Nat.reduceLeDiff,  e1]
      refine W_if_f rfl ?_
      simp +contextual (maxSteps := 2000000) (disch := (first | omega | (simp only [SZ]; done) | (simp only [SZ]; omega) | (simp only [TS] at *; omega))) only [RZ, gval, gslot, fillL, ovw, numb, catL, ldN, agL, okC, oneC, init, Nat.reduceAdd, Nat.reduceMul, Nat.reduceSub, Nat.reduceEqDiff, Nat.reduceLT, ↓reduceIte, Int.reduceToNat, Int.reduceAdd, Int.reduceSub, Int.reduceMul, Int.reduceLT, Int.reduceLE, Int.reduceEq, Nat.reduceLeDiff,  f0, f1, f6]
      refine hK _ _ ⟨k + 1, nxtI st2, by omega, hi, hst3, ho.trans ho3, ?_⟩ ?_
      · simp +contextual (maxSteps := 2000000) (disch := (first | omega | (simp only [SZ]; done) | (simp only [SZ]; omega) | (simp only [TS] at *; omega))) only [RZ, gval, gslot, fillL, ovw, numb, catL, ldN, agL, okC, oneC, init, Nat.reduceAdd, Nat.reduceMul, Nat.reduceSub, Nat.reduceEqDiff, Nat.reduceLT, ↓reduceIte, Int.reduceToNat, Int.reduceAdd, Int.reduceSub, Int.reduceMul, Int.reduceLT, Int.reduceLE, Int.reduceEq, Nat.reduceLeDiff,  f0, f1, f6]
      · simp +contextual (maxSteps := 2000000) (disch := (first | omega | (simp only [SZ]; done) | (simp only [SZ]; omega) | (simp only [TS] at *; omega))) only [RZ, gval, gslot, fillL, ovw, numb, catL, ldN, agL, okC, oneC, init, Nat.reduceAdd, Nat.reduceMul, Nat.reduceSub, Nat.reduceEqDiff, Nat.reduceLT, ↓reduceIte, Int.reduceToNat, Int.reduceAdd, Int.reduceSub, Int.reduceMul, Int.reduceLT, Int.reduceLE, Int.reduceEq, Nat.reduceLeDiff,  intOf, f6]
        omega
  · rw [show 64 - k = 0 by omega] at hi
    simp +contextual (maxSteps := 2000000) (disch := (first | omega | (simp only [SZ]; done) | (simp only [SZ]; omega) | (simp only [TS] at *; omega))) only [RZ, gval, gslot, fillL, ovw, numb, catL, ldN, agL, okC, oneC, init, Nat.reduceAdd, Nat.reduceMul, Nat.reduceSub, Nat.reduceEqDiff, Nat.reduceLT, ↓reduceIte, Int.reduceToNat, Int.reduceAdd, Int.reduceSub, Int.reduceMul, Int.reduceLT, Int.reduceLE, Int.reduceEq, Nat.reduceLeDiff,  f0, f1, f6]
    rw [← hi]
    exact ⟨rfl, hst, ho⟩
theorem rshuffle_any (gs : Nat) (n : Nat) (st : Int) (w : World) (hs : RsIn w gs st) (h1 : 1 ≤ n) (hn : n ≤ 4096) : Calls Tryd.prog 59 #[.pointer (some ⟨gs, 0, none⟩), .int .i64 n] w fun e w' =>
    ∃ gl c, w.heap.size ≤ gl ∧ RsIn w' gs (shuS n st).2.2 ∧ Only gs (gs + 1) w w' ∧ n ≤ c ∧
      if (shuS n st).2.1 = 0 then e = .returned (.tuple #[.slice (some ⟨gl, 0, none⟩) n c, .int .i64 0]) ∧ Row w' gl 3 (iV (shuS n st).1) else e = .returned (.tuple #[.slice none 0 0, .int .i64 (shuS n st).2.1]) := by
  refine calls_W (l := [_, _]) Tryd.func59 rfl _ Tryd.ntmps59 (by simp) ?_
  have hgs := hs.lt
  simp +contextual (maxSteps := 2000000) (disch := (first | omega | (simp only [SZ]; done) | (simp only [SZ]; omega) | (simp only [TS] at *; omega))) only [RZ, gval, gslot, fillL, ovw, numb, catL, ldN, agL, okC, oneC, init, Nat.reduceAdd, Nat.reduceMul, Nat.reduceSub, Nat.reduceEqDiff, Nat.reduceLT, ↓reduceIte, Int.reduceToNat, Int.reduceAdd, Int.reduceSub, Int.reduceMul, Int.reduceLT, Int.reduceLE, Int.reduceEq, Nat.reduceLeDiff]
  (refine W_if rfl (fun hc => ?_) (fun hc => ?_) <;> (try simp only [TS] at hc))
  · exfalso; omega
  clear hc
  simp +contextual (maxSteps := 2000000) (disch := (first | omega | (simp only [SZ]; done) | (simp only [SZ]; omega) | (simp only [TS] at *; omega))) only [RZ, gval, gslot, fillL, ovw, numb, catL, ldN, agL, okC, oneC, init, Nat.reduceAdd, Nat.reduceMul, Nat.reduceSub, Nat.reduceEqDiff, Nat.reduceLT, ↓reduceIte, Int.reduceToNat, Int.reduceAdd, Int.reduceSub, Int.reduceMul, Int.reduceLT, Int.reduceLE, Int.reduceEq, Nat.reduceLeDiff]
  refine (rising_any n w hn).mono ?_
  rintro e w1 ⟨A, c, rfl, hown, hB1⟩
  refine ⟨_, rfl, ?_⟩
  obtain ⟨gl, rfl, hgl, hR, hnc, hcm⟩ := owns_row hown (by omega)
  have hs1 := hs.below hB1
  try simp +contextual (maxSteps := 2000000) (disch := (first | omega | (simp only [SZ]; done) | (simp only [SZ]; omega) | (simp only [TS] at *; omega))) only [RZ, gval, gslot, fillL, ovw, numb, catL, ldN, agL, okC, oneC, init, Nat.reduceAdd, Nat.reduceMul, Nat.reduceSub, Nat.reduceEqDiff, Nat.reduceLT, ↓reduceIte, Int.reduceToNat, Int.reduceAdd, Int.reduceSub, Int.reduceMul, Int.reduceLT, Int.reduceLE, Int.reduceEq, Nat.reduceLeDiff]
  have ho1 : Only gs (gs + 1) w w1 := Only.of_below hB1
  refine Raw_loop (fun σ w4 => ∃ (i : Nat) (l : List Int) (st2 : Int), i < n ∧ l.length = n ∧ shufE i l st2 = shuS n st ∧ RsIn w4 gs st2 ∧ Row w4 gl 3 (iV l) ∧ Kept [gs, gl] w1 w4 ∧
    σ 0 = .pointer (some ⟨gs, 0, none⟩) ∧ σ 6 = .slice (some ⟨gl, 0, none⟩) n c ∧ σ 7 = .int .i64 i) (fun σ _ => (intOf (σ 7)).toNat) ?_ ?_
  · simp +contextual (maxSteps := 2000000) (disch := (first | omega | (simp only [SZ]; done) | (simp only [SZ]; omega) | (simp only [TS] at *; omega))) only [RZ, gval, gslot, fillL, ovw, numb, catL, ldN, agL, okC, oneC, init, Nat.reduceAdd, Nat.reduceMul, Nat.reduceSub, Nat.reduceEqDiff, Nat.reduceLT, ↓reduceIte, Int.reduceToNat, Int.reduceAdd, Int.reduceSub, Int.reduceMul, Int.reduceLT, Int.reduceLE, Int.reduceEq, Nat.reduceLeDiff]
    exact ⟨n - 1, asc1 n, st, by omega, asc1_len n, rfl, hs1, hR, Kept.refl _ _, by congr 1; omega⟩
  rintro σ w4 ⟨i, l, st2, hi, hl, hsh, hs4, hR4, hk4, f0, f6, f7⟩ K hK
  have hfin : ∀ w5, Kept [gs, gl] w1 w5 → Only gs (gs + 1) w w5 := fun w5 hk => Kept.only ((((Kept.of_below hB1).trans hk : Kept [gs, gl] w w5)).less fun k h1 h2 => by simp at h1 ⊢; omega)
  simp +contextual (maxSteps := 2000000) (disch := (first | omega | (simp only [SZ]; done) | (simp only [SZ]; omega) | (simp only [TS] at *; omega))) only [RZ, gval, gslot, fillL, ovw, numb, catL, ldN, agL, okC, oneC, init, Nat.reduceAdd, Nat.reduceMul, Nat.reduceSub, Nat.reduceEqDiff, Nat.reduceLT, ↓reduceIte, Int.reduceToNat, Int.reduceAdd, Int.reduceSub, Int.reduceMul, Int.reduceLT, Int.reduceLE, Int.reduceEq, Nat.reduceLeDiff,  f0, f6, f7]
  (refine W_if rfl (fun hc => ?_) (fun hc => ?_) <;> (try simp only [TS] at hc))
  · obtain ⟨m, rfl⟩ : ∃ m, i = m + 1 := ⟨i - 1, by omega⟩
    rw [shufE] at hsh
    simp +contextual (maxSteps := 2000000) (disch := (first | omega | (simp only [SZ]; done) | (simp only [SZ]; omega) | (simp only [TS] at *; omega))) only [RZ, gval, gslot, fillL, ovw, numb, catL, ldN, agL, okC, oneC, init, Nat.reduceAdd, Nat.reduceMul, Nat.reduceSub, Nat.reduceEqDiff, Nat.reduceLT, ↓reduceIte, Int.reduceToNat, Int.reduceAdd, Int.reduceSub, Int.reduceMul, Int.reduceLT, Int.reduceLE, Int.reduceEq, Nat.reduceLeDiff,  f0, f6, f7]
    rw [show (m : Int) + 1 + 1 = (m : Int) + 2 by omega]
    refine (rbelow_any gs ((m : Int) + 2) st2 w4 hs4 (by omega)).mono ?_
    rintro e w5 ⟨rfl, hs5, ho5⟩
    refine ⟨_, rfl, ?_⟩
    have hb1 := fun h => (belE_lt (n := (m : Int) + 2) (st := st2) h)
    generalize belE ((m : Int) + 2) st2 = B at *
    have hR5 := hR4.only ho5 (by omega)
    have hk5 : Kept [gs, gl] w1 w5 := hk4.trans (Kept.of_only ho5 (by simp))
    simp +contextual (maxSteps := 2000000) (disch := (first | omega | (simp only [SZ]; done) | (simp only [SZ]; omega) | (simp only [TS] at *; omega))) only [RZ, gval, gslot, fillL, ovw, numb, catL, ldN, agL, okC, oneC, init, Nat.reduceAdd, Nat.reduceMul, Nat.reduceSub, Nat.reduceEqDiff, Nat.reduceLT, ↓reduceIte, Int.reduceToNat, Int.reduceAdd, Int.reduceSub, Int.reduceMul, Int.reduceLT, Int.reduceLE, Int.reduceEq, Nat.reduceLeDiff,  f0, f6, f7]
    (refine W_if rfl (fun hc => ?_) (fun hc => ?_) <;> (try simp only [TS] at hc))
    · have hc' : ¬ B.2.1 = 0 := hc
      rw [if_neg hc'] at hsh
      simp +contextual (maxSteps := 2000000) (disch := (first | omega | (simp only [SZ]; done) | (simp only [SZ]; omega) | (simp only [TS] at *; omega))) only [RZ, gval, gslot, fillL, ovw, numb, catL, ldN, agL, okC, oneC, init, Nat.reduceAdd, Nat.reduceMul, Nat.reduceSub, Nat.reduceEqDiff, Nat.reduceLT, ↓reduceIte, Int.reduceToNat, Int.reduceAdd, Int.reduceSub, Int.reduceMul, Int.reduceLT, Int.reduceLE, Int.reduceEq, Nat.reduceLeDiff,  f0, f6, f7]
      rw [← hsh]
      refine ⟨gl, c, hgl, hs5, hfin _ hk5, hnc, ?_⟩
      dsimp only
      rw [if_neg hc']
    · have hc' : B.2.1 = 0 := by omega
      rw [if_pos hc'] at hsh
      have hbl := hb1 hc'
      have hj : B.1.toNat < l.length := by omega
      have hil : m + 1 < l.length := by omega
      have ci := hR5.cell (iV_get hil)
      have cj := hR5.cell (iV_get hj)
      have zi := hR5.frozen (m + 1)
      have zj := hR5.frozen B.1.toNat
      have hR6 := hR5.set_ (i := m + 1) (by rw [iV_len]; exact hil) (.int .i64 (l.getD B.1.toNat 0))
      rw [iV_set] at hR6
      have hj2 : B.1.toNat < (l.set (m + 1) (l.getD B.1.toNat 0)).length := by rw [List.length_set]; exact hj
      have c3 := hR6.cell (iV_get hj2)
      have hR7 := hR6.set_ (i := B.1.toNat) (by rw [iV_len]; exact hj2) (.int .i64 (l.getD (m + 1) 0))
      rw [iV_set] at hR7
      have htn : ((m : Int) + 1).toNat = m + 1 := by omega
      simp +contextual (maxSteps := 2000000) (disch := (first | omega | (simp only [SZ]; done) | (simp only [SZ]; omega) | (simp only [TS] at *; omega))) only [RZ, gval, gslot, fillL, ovw, numb, catL, ldN, agL, okC, oneC, init, Nat.reduceAdd, Nat.reduceMul, Nat.reduceSub, Nat.reduceEqDiff, Nat.reduceLT, ↓reduceIte, Int.reduceToNat, Int.reduceAdd, Int.reduceSub, Int.reduceMul, Int.reduceLT, Int.reduceLE, Int.reduceEq, Nat.reduceLeDiff,  f0, f6, f7, ci, cj, zi, zj, c3, htn]
      refine hK _ _ ⟨m, swp l (m + 1) B.1.toNat, B.2.2, by omega, by rw [swp_len, hl], hsh, ?_, hR7, (hk5.setCell (p := ⟨gl, m + 1, none⟩) (by simp) _).setCell (p := ⟨gl, B.1.toNat, none⟩) (by simp) _, ?_⟩ ?_
      · exact (hs5.far (p := ⟨gl, m + 1, none⟩) (by show gs ≠ gl; omega) _).far (p := ⟨gl, B.1.toNat, none⟩) (by show gs ≠ gl; omega) _
      · simp +contextual (maxSteps := 2000000) (disch := (first | omega | (simp only [SZ]; done) | (simp only [SZ]; omega) | (simp only [TS] at *; omega))) only [RZ, gval, gslot, fillL, ovw, numb, catL, ldN, agL, okC, oneC, init, Nat.reduceAdd, Nat.reduceMul, Nat.reduceSub, Nat.reduceEqDiff, Nat.reduceLT, ↓reduceIte, Int.reduceToNat, Int.reduceAdd, Int.reduceSub, Int.reduceMul, Int.reduceLT, Int.reduceLE, Int.reduceEq, Nat.reduceLeDiff,  f0, f6, f7]
        congr 1
        omega
      · simp +contextual (maxSteps := 2000000) (disch := (first | omega | (simp only [SZ]; done) | (simp only [SZ]; omega) | (simp only [TS] at *; omega))) only [RZ, gval, gslot, fillL, ovw, numb, catL, ldN, agL, okC, oneC, init, Nat.reduceAdd, Nat.reduceMul, Nat.reduceSub, Nat.reduceEqDiff, Nat.reduceLT, ↓reduceIte, Int.reduceToNat, Int.reduceAdd, Int.reduceSub, Int.reduceMul, Int.reduceLT, Int.reduceLE, Int.reduceEq, Nat.reduceLeDiff,  intOf, f7]
        omega
  · simp +contextual (maxSteps := 2000000) (disch := (first | omega | (simp only [SZ]; done) | (simp only [SZ]; omega) | (simp only [TS] at *; omega))) only [RZ, gval, gslot, fillL, ovw, numb, catL, ldN, agL, okC, oneC, init, Nat.reduceAdd, Nat.reduceMul, Nat.reduceSub, Nat.reduceEqDiff, Nat.reduceLT, ↓reduceIte, Int.reduceToNat, Int.reduceAdd, Int.reduceSub, Int.reduceMul, Int.reduceLT, Int.reduceLE, Int.reduceEq, Nat.reduceLeDiff,  f0, f6, f7]
    obtain rfl : i = 0 := by omega
    rw [shufE] at hsh
    rw [← hsh]
    exact ⟨gl, c, hgl, hs4, hfin _ hk4, hnc, rfl, hR4⟩
end Go.Proofs.YtcnlopjjejdahaaDoor
/- Walks: the reference's guaranteed, remaining (chapter 41). -/
namespace Go.Proofs.YtcnlopjjejdahaaDoor
open Go.RowKit
set_option maxRecDepth 100000
theorem flat_take {f : Lvl → List Int} {L : List Lvl} {k : Nat} {v : Lvl} (h : L[k]? = some v) : (L.take (k + 1)).flatMap f = (L.take k).flatMap f ++ f v := by
  rw [List.take_add_one, h, List.flatMap_append]
  simp
theorem rep_succ (j : Nat) (x : Int) : List.replicate (j + 1) x = List.replicate j x ++ [x] := List.replicate_succ'
theorem rguaranteed_any (p : Pl) (A : Option Addr) (c : Nat) (w : World) (hL : Arr w A 3 (p.levels.map encLvl)) (hl : p.levels.length ≤ 20) (hp : ∀ v ∈ p.levels, 0 ≤ v.pack ∧ v.pack ≤ 256) :
    Calls Tryd.prog 56 #[planV p A c] w fun e w' => ∃ B d, e = .returned (.slice B (sureL p.levels).length d) ∧ w'.ownsRow (w.heap.size + 1) 3 1 (.slice B (sureL p.levels).length d) (sureL p.levels).length (iV (sureL p.levels)) ∧ Below w.heap.size w w' := by
  unfold planV
  refine calls_W (l := [_]) Tryd.func56 rfl _ Tryd.ntmps56 (by simp) ?_
  have hI : sliceI Tryd.prog 74 = some (3, 1, 8) := by kernel_rfl
  simp +contextual (maxSteps := 2000000) (disch := (first | omega | (simp only [SZ]; done) | (simp only [SZ]; omega) | (simp only [TS] at *; omega))) only [RZ, gval, gslot, fillL, ovw, numb, catL, ldN, agL, okC, oneC, init, Nat.reduceAdd, Nat.reduceMul, Nat.reduceSub, Nat.reduceEqDiff, Nat.reduceLT, ↓reduceIte, Int.reduceToNat, Int.reduceAdd, Int.reduceSub, Int.reduceMul, Int.reduceLT, Int.reduceLE, Int.reduceEq, Nat.reduceLeDiff]
  have r0 := Row.new w 24 [.string p.name, .int .i64 p.price, .int .i64 p.packs, .int .i64 p.size, .slice A p.levels.length c]
  replace r0 : Row (w.alloc (.cells #[.string p.name, .int .i64 p.price, .int .i64 p.packs, .int .i64 p.size, .slice A p.levels.length c] 24)) _ _ _ := r0
  have hB := below_alloc w (.cells #[.string p.name, .int .i64 p.price, .int .i64 p.packs, .int .i64 p.size, .slice A p.levels.length c] 24)
  have hz1 : (w.alloc (.cells #[.string p.name, .int .i64 p.price, .int .i64 p.packs, .int .i64 p.size, .slice A p.levels.length c] 24)).heap.size = w.heap.size + 1 := World.size_alloc _ _
  generalize w.alloc (.cells #[.string p.name, .int .i64 p.price, .int .i64 p.packs, .int .i64 p.size, .slice A p.levels.length c] 24) = w1 at *
  have hL1 := hL.below hB
  generalize hf : (fun v => List.replicate v.pack.toNat v.prize : Lvl → List Int) = f
  have hls : sureL p.levels = p.levels.flatMap f := by rw [← hf]; rfl
  rw [hls]
  refine Raw_loop (fun σ w2 => ∃ (k : Nat) (l : List Int) (B : Option Addr) (d : Nat), k ≤ p.levels.length ∧ l = (p.levels.take k).flatMap f ∧ l.length ≤ 10000 * k ∧ w2.ownsRow (w.heap.size + 1) 3 1 (.slice B l.length d) l.length (iV l) ∧ Below (w.heap.size + 1) w1 w2 ∧ σ 1 = .pointer (some ⟨w.heap.size, 0, none⟩) ∧ σ 3 = .slice B l.length d ∧ σ 4 = .int .i64 k) (fun σ _ => p.levels.length - (intOf (σ 4)).toNat) ?_ ?_
  · simp +contextual (maxSteps := 2000000) (disch := (first | omega | (simp only [SZ]; done) | (simp only [SZ]; omega) | (simp only [TS] at *; omega))) only [RZ, gval, gslot, fillL, ovw, numb, catL, ldN, agL, okC, oneC, init, Nat.reduceAdd, Nat.reduceMul, Nat.reduceSub, Nat.reduceEqDiff, Nat.reduceLT, ↓reduceIte, Int.reduceToNat, Int.reduceAdd, Int.reduceSub, Int.reduceMul, Int.reduceLT, Int.reduceLE, Int.reduceEq, Nat.reduceLeDiff]
    exact ⟨0, [], none, 0, Nat.zero_le _, by simp, by simp, owns_nil _ _ _ _, Below.refl _ _, rfl, rfl⟩
  rintro σ w2 ⟨k, l, B, d, hk, hll, hln, hown, hB2, f1, f3, f4⟩ K hK
  have r2 := r0.of_block (hB2.block _ (by omega))
  have a4 := r2.cell (i := 4) rfl
  simp +contextual (maxSteps := 2000000) (disch := (first | omega | (simp only [SZ]; done) | (simp only [SZ]; omega) | (simp only [TS] at *; omega))) only [RZ, gval, gslot, fillL, ovw, numb, catL, ldN, agL, okC, oneC, init, Nat.reduceAdd, Nat.reduceMul, Nat.reduceSub, Nat.reduceEqDiff, Nat.reduceLT, ↓reduceIte, Int.reduceToNat, Int.reduceAdd, Int.reduceSub, Int.reduceMul, Int.reduceLT, Int.reduceLE, Int.reduceEq, Nat.reduceLeDiff,  f1, f3, f4, a4]
  by_cases hkl : k < p.levels.length
  · obtain ⟨v, hvk⟩ : ∃ v, p.levels[k]? = some v := ⟨_, List.getElem?_eq_getElem hkl⟩
    have hv := hp v (List.mem_of_getElem? hvk)
    have hft := flat_take (f := f) hvk
    rw [← hll] at hft
    obtain ⟨cn, hcn⟩ : ∃ cn : Nat, v.pack = cn := ⟨(v.pack).toNat, (Int.toNat_of_nonneg (by omega)).symm⟩
    have hcn2 : cn ≤ 10000 := by omega
    have hfv : f v = List.replicate cn v.prize := by rw [← hf]; show List.replicate (v.pack).toNat v.prize = _; rw [hcn, Int.toNat_natCast]
    rw [hfv] at hft
    have e1 : decide ((k : Int) < p.levels.length) = true := decide_eq_true (by omega)
    simp +contextual (maxSteps := 2000000) (disch := (first | omega | (simp only [SZ]; done) | (simp only [SZ]; omega) | (simp only [TS] at *; omega))) only [RZ, gval, gslot, fillL, ovw, numb, catL, ldN, agL, okC, oneC, init, Nat.reduceAdd, Nat.reduceMul, Nat.reduceSub, Nat.reduceEqDiff, Nat.reduceLT, ↓reduceIte, Int.reduceToNat, Int.reduceAdd, Int.reduceSub, Int.reduceMul, Int.reduceLT, Int.reduceLE, Int.reduceEq, Nat.reduceLeDiff,  e1]
    refine W_if_t rfl ?_
    simp +contextual (maxSteps := 2000000) (disch := (first | omega | (simp only [SZ]; done) | (simp only [SZ]; omega) | (simp only [TS] at *; omega))) only [RZ, gval, gslot, fillL, ovw, numb, catL, ldN, agL, okC, oneC, init, Nat.reduceAdd, Nat.reduceMul, Nat.reduceSub, Nat.reduceEqDiff, Nat.reduceLT, ↓reduceIte, Int.reduceToNat, Int.reduceAdd, Int.reduceSub, Int.reduceMul, Int.reduceLT, Int.reduceLE, Int.reduceEq, Nat.reduceLeDiff,  f1, f3, f4]
    refine Raw_loop (fun σ w3 => ∃ (j : Nat) (B : Option Addr) (d : Nat), j ≤ cn ∧ w3.ownsRow (w.heap.size + 1) 3 1 (.slice B (l ++ List.replicate j v.prize).length d) (l ++ List.replicate j v.prize).length (iV (l ++ List.replicate j v.prize)) ∧ Below (w.heap.size + 1) w1 w3 ∧ σ 1 = .pointer (some ⟨w.heap.size, 0, none⟩) ∧ σ 3 = .slice B (l ++ List.replicate j v.prize).length d ∧ σ 4 = .int .i64 k ∧ σ 5 = .int .i64 j) (fun σ _ => cn - (intOf (σ 5)).toNat) ?_ ?_
    · simp +contextual (maxSteps := 2000000) (disch := (first | omega | (simp only [SZ]; done) | (simp only [SZ]; omega) | (simp only [TS] at *; omega))) only [RZ, gval, gslot, fillL, ovw, numb, catL, ldN, agL, okC, oneC, init, Nat.reduceAdd, Nat.reduceMul, Nat.reduceSub, Nat.reduceEqDiff, Nat.reduceLT, ↓reduceIte, Int.reduceToNat, Int.reduceAdd, Int.reduceSub, Int.reduceMul, Int.reduceLT, Int.reduceLE, Int.reduceEq, Nat.reduceLeDiff,  f1, f3, f4]
      exact ⟨0, B, d, Nat.zero_le _, by simpa using hown, hB2, by simp, rfl⟩
    rintro σ w3 ⟨j, B3, d3, hj, hown3, hB3, g1, g3, g4, g5⟩ K3 hK3
    have hLen : (l ++ List.replicate j v.prize).length = l.length + j := by rw [List.length_append, List.length_replicate]
    have r3 := r0.of_block (hB3.block _ (by omega))
    have hL3 := hL1.below (hB3.mono (by omega))
    obtain ⟨ba, oa, rfl, hba, hcell⟩ := hL3.at_ hvk
    have l0 := hcell 0 _ rfl
    rw [Nat.add_zero] at l0
    have l1 := hcell 1 _ rfl
    have l2 := hcell 2 _ rfl
    have a2 := r3.cell (i := 2) rfl
    have a4 := r3.cell (i := 4) rfl
    simp +contextual (maxSteps := 2000000) (disch := (first | omega | (simp only [SZ]; done) | (simp only [SZ]; omega) | (simp only [TS] at *; omega))) only [RZ, gval, gslot, fillL, ovw, numb, catL, ldN, agL, okC, oneC, init, Nat.reduceAdd, Nat.reduceMul, Nat.reduceSub, Nat.reduceEqDiff, Nat.reduceLT, ↓reduceIte, Int.reduceToNat, Int.reduceAdd, Int.reduceSub, Int.reduceMul, Int.reduceLT, Int.reduceLE, Int.reduceEq, Nat.reduceLeDiff,  g1, g3, g4, g5, a4, l0, l2]
    by_cases hjc : j < cn
    · have e2 : decide ((j : Int) < v.pack) = true := decide_eq_true (by omega)
      simp +contextual (maxSteps := 2000000) (disch := (first | omega | (simp only [SZ]; done) | (simp only [SZ]; omega) | (simp only [TS] at *; omega))) only [RZ, gval, gslot, fillL, ovw, numb, catL, ldN, agL, okC, oneC, init, Nat.reduceAdd, Nat.reduceMul, Nat.reduceSub, Nat.reduceEqDiff, Nat.reduceLT, ↓reduceIte, Int.reduceToNat, Int.reduceAdd, Int.reduceSub, Int.reduceMul, Int.reduceLT, Int.reduceLE, Int.reduceEq, Nat.reduceLeDiff,  e2]
      refine W_if_t rfl ?_
      simp +contextual (maxSteps := 2000000) (disch := (first | omega | (simp only [SZ]; done) | (simp only [SZ]; omega) | (simp only [TS] at *; omega))) only [RZ, gval, gslot, fillL, ovw, numb, catL, ldN, agL, okC, oneC, init, Nat.reduceAdd, Nat.reduceMul, Nat.reduceSub, Nat.reduceEqDiff, Nat.reduceLT, ↓reduceIte, Int.reduceToNat, Int.reduceAdd, Int.reduceSub, Int.reduceMul, Int.reduceLT, Int.reduceLE, Int.reduceEq, Nat.reduceLeDiff,  g1, g3, g4, g5]
      have hz3 := hB3.size
      obtain ⟨A', c', w7, he, hown7, hb7, hs7⟩ := push1 (P := Tryd.prog) (T := 74) (ty := 74) (news := [.int .i64 v.prize]) hown3 (by omega) hI rfl (fun u hu => by simp at hu; subst hu; rfl) (by rw [hLen]; omega) (by decide)
      generalize hLL : l ++ List.replicate j v.prize = LL at *
      simp +contextual (maxSteps := 2000000) (disch := (first | omega | (simp only [SZ]; done) | (simp only [SZ]; omega) | (simp only [TS] at *; omega))) only [RZ, gval, gslot, fillL, ovw, numb, catL, ldN, agL, okC, oneC, init, Nat.reduceAdd, Nat.reduceMul, Nat.reduceSub, Nat.reduceEqDiff, Nat.reduceLT, ↓reduceIte, Int.reduceToNat, Int.reduceAdd, Int.reduceSub, Int.reduceMul, Int.reduceLT, Int.reduceLE, Int.reduceEq, Nat.reduceLeDiff,  g1, g3, g4, g5, a4, l0, he]
      have hLS : l ++ List.replicate (j + 1) v.prize = LL ++ [v.prize] := by rw [rep_succ, ← List.append_assoc, hLL]
      refine hK3 _ _ ⟨j + 1, A', c', by omega, ?_, hB3.trans hb7, ?_⟩ ?_
      · rw [hLS, List.length_append]
        unfold iV
        rw [List.map_append]
        exact hown7
      · simp +contextual (maxSteps := 2000000) (disch := (first | omega | (simp only [SZ]; done) | (simp only [SZ]; omega) | (simp only [TS] at *; omega))) only [RZ, gval, gslot, fillL, ovw, numb, catL, ldN, agL, okC, oneC, init, Nat.reduceAdd, Nat.reduceMul, Nat.reduceSub, Nat.reduceEqDiff, Nat.reduceLT, ↓reduceIte, Int.reduceToNat, Int.reduceAdd, Int.reduceSub, Int.reduceMul, Int.reduceLT, Int.reduceLE, Int.reduceEq, Nat.reduceLeDiff,  g1, g3, g4, g5, hLS, List.length_append, List.length_singleton]
      · simp +contextual (maxSteps := 2000000) (disch := (first | omega | (simp only [SZ]; done) | (simp only [SZ]; omega) | (simp only [TS] at *; omega))) only [RZ, gval, gslot, fillL, ovw, numb, catL, ldN, agL, okC, oneC, init, Nat.reduceAdd, Nat.reduceMul, Nat.reduceSub, Nat.reduceEqDiff, Nat.reduceLT, ↓reduceIte, Int.reduceToNat, Int.reduceAdd, Int.reduceSub, Int.reduceMul, Int.reduceLT, Int.reduceLE, Int.reduceEq, Nat.reduceLeDiff,  intOf, g5]
        omega
    · have e2 : decide ((j : Int) < v.pack) = false := decide_eq_false (by omega)
      simp +contextual (maxSteps := 2000000) (disch := (first | omega | (simp only [SZ]; done) | (simp only [SZ]; omega) | (simp only [TS] at *; omega))) only [RZ, gval, gslot, fillL, ovw, numb, catL, ldN, agL, okC, oneC, init, Nat.reduceAdd, Nat.reduceMul, Nat.reduceSub, Nat.reduceEqDiff, Nat.reduceLT, ↓reduceIte, Int.reduceToNat, Int.reduceAdd, Int.reduceSub, Int.reduceMul, Int.reduceLT, Int.reduceLE, Int.reduceEq, Nat.reduceLeDiff,  e2]
      refine W_if_f rfl ?_
      obtain rfl : j = cn := by omega
      simp +contextual (maxSteps := 2000000) (disch := (first | omega | (simp only [SZ]; done) | (simp only [SZ]; omega) | (simp only [TS] at *; omega))) only [RZ, gval, gslot, fillL, ovw, numb, catL, ldN, agL, okC, oneC, init, Nat.reduceAdd, Nat.reduceMul, Nat.reduceSub, Nat.reduceEqDiff, Nat.reduceLT, ↓reduceIte, Int.reduceToNat, Int.reduceAdd, Int.reduceSub, Int.reduceMul, Int.reduceLT, Int.reduceLE, Int.reduceEq, Nat.reduceLeDiff,  g1, g3, g4, g5]
      refine hK _ _ ⟨k + 1, l ++ List.replicate j v.prize, B3, d3, by omega, hft.symm, by rw [hLen]; omega, hown3, hB3, ?_⟩ ?_
      · simp +contextual (maxSteps := 2000000) (disch := (first | omega | (simp only [SZ]; done) | (simp only [SZ]; omega) | (simp only [TS] at *; omega))) only [RZ, gval, gslot, fillL, ovw, numb, catL, ldN, agL, okC, oneC, init, Nat.reduceAdd, Nat.reduceMul, Nat.reduceSub, Nat.reduceEqDiff, Nat.reduceLT, ↓reduceIte, Int.reduceToNat, Int.reduceAdd, Int.reduceSub, Int.reduceMul, Int.reduceLT, Int.reduceLE, Int.reduceEq, Nat.reduceLeDiff,  g1, g3, g4, g5]
      · simp +contextual (maxSteps := 2000000) (disch := (first | omega | (simp only [SZ]; done) | (simp only [SZ]; omega) | (simp only [TS] at *; omega))) only [RZ, gval, gslot, fillL, ovw, numb, catL, ldN, agL, okC, oneC, init, Nat.reduceAdd, Nat.reduceMul, Nat.reduceSub, Nat.reduceEqDiff, Nat.reduceLT, ↓reduceIte, Int.reduceToNat, Int.reduceAdd, Int.reduceSub, Int.reduceMul, Int.reduceLT, Int.reduceLE, Int.reduceEq, Nat.reduceLeDiff,  intOf, f4, g4]
        omega
  · have e1 : decide ((k : Int) < p.levels.length) = false := decide_eq_false (by omega)
    simp +contextual (maxSteps := 2000000) (disch := (first | omega | (simp only [SZ]; done) | (simp only [SZ]; omega) | (simp only [TS] at *; omega))) only [RZ, gval, gslot, fillL, ovw, numb, catL, ldN, agL, okC, oneC, init, Nat.reduceAdd, Nat.reduceMul, Nat.reduceSub, Nat.reduceEqDiff, Nat.reduceLT, ↓reduceIte, Int.reduceToNat, Int.reduceAdd, Int.reduceSub, Int.reduceMul, Int.reduceLT, Int.reduceLE, Int.reduceEq, Nat.reduceLeDiff,  e1]
    refine W_if_f rfl ?_
    simp +contextual (maxSteps := 2000000) (disch := (first | omega | (simp only [SZ]; done) | (simp only [SZ]; omega) | (simp only [TS] at *; omega))) only [RZ, gval, gslot, fillL, ovw, numb, catL, ldN, agL, okC, oneC, init, Nat.reduceAdd, Nat.reduceMul, Nat.reduceSub, Nat.reduceEqDiff, Nat.reduceLT, ↓reduceIte, Int.reduceToNat, Int.reduceAdd, Int.reduceSub, Int.reduceMul, Int.reduceLT, Int.reduceLE, Int.reduceEq, Nat.reduceLeDiff,  f1, f3, f4]
    have hke : p.levels.take k = p.levels := List.take_of_length_le (by omega)
    rw [hke] at hll
    subst hll
    exact ⟨B, d, rfl, hown, hB.trans (hB2.mono (by omega))⟩
theorem rremaining_any (p : Pl) (A : Option Addr) (c : Nat) (w : World) (hL : Arr w A 3 (p.levels.map encLvl)) (hl : p.levels.length ≤ 20) (hp : ∀ v ∈ p.levels, (0 ≤ v.pack * p.packs ∧ v.pack * p.packs ≤ v.count) ∧ v.count ≤ 8192) :
    Calls Tryd.prog 60 #[planV p A c] w fun e w' => ∃ B d, e = .returned (.slice B (restL p.packs p.levels).length d) ∧ w'.ownsRow (w.heap.size + 1) 3 1 (.slice B (restL p.packs p.levels).length d) (restL p.packs p.levels).length (iV (restL p.packs p.levels)) ∧ Below w.heap.size w w' := by
  unfold planV
  refine calls_W (l := [_]) Tryd.func60 rfl _ Tryd.ntmps60 (by simp) ?_
  have hI : sliceI Tryd.prog 74 = some (3, 1, 8) := by kernel_rfl
  simp +contextual (maxSteps := 2000000) (disch := (first | omega | (simp only [SZ]; done) | (simp only [SZ]; omega) | (simp only [TS] at *; omega))) only [RZ, gval, gslot, fillL, ovw, numb, catL, ldN, agL, okC, oneC, init, Nat.reduceAdd, Nat.reduceMul, Nat.reduceSub, Nat.reduceEqDiff, Nat.reduceLT, ↓reduceIte, Int.reduceToNat, Int.reduceAdd, Int.reduceSub, Int.reduceMul, Int.reduceLT, Int.reduceLE, Int.reduceEq, Nat.reduceLeDiff]
  have r0 := Row.new w 24 [.string p.name, .int .i64 p.price, .int .i64 p.packs, .int .i64 p.size, .slice A p.levels.length c]
  replace r0 : Row (w.alloc (.cells #[.string p.name, .int .i64 p.price, .int .i64 p.packs, .int .i64 p.size, .slice A p.levels.length c] 24)) _ _ _ := r0
  have hB := below_alloc w (.cells #[.string p.name, .int .i64 p.price, .int .i64 p.packs, .int .i64 p.size, .slice A p.levels.length c] 24)
  have hz1 : (w.alloc (.cells #[.string p.name, .int .i64 p.price, .int .i64 p.packs, .int .i64 p.size, .slice A p.levels.length c] 24)).heap.size = w.heap.size + 1 := World.size_alloc _ _
  generalize w.alloc (.cells #[.string p.name, .int .i64 p.price, .int .i64 p.packs, .int .i64 p.size, .slice A p.levels.length c] 24) = w1 at *
  have hL1 := hL.below hB
  generalize hf : (fun v => List.replicate (v.count - v.pack * p.packs).toNat v.prize : Lvl → List Int) = f
  have hls : restL p.packs p.levels = p.levels.flatMap f := by rw [← hf]; rfl
  rw [hls]
  refine Raw_loop (fun σ w2 => ∃ (k : Nat) (l : List Int) (B : Option Addr) (d : Nat), k ≤ p.levels.length ∧ l = (p.levels.take k).flatMap f ∧ l.length ≤ 10000 * k ∧ w2.ownsRow (w.heap.size + 1) 3 1 (.slice B l.length d) l.length (iV l) ∧ Below (w.heap.size + 1) w1 w2 ∧ σ 1 = .pointer (some ⟨w.heap.size, 0, none⟩) ∧ σ 3 = .slice B l.length d ∧ σ 4 = .int .i64 k) (fun σ _ => p.levels.length - (intOf (σ 4)).toNat) ?_ ?_
  · simp +contextual (maxSteps := 2000000) (disch := (first | omega | (simp only [SZ]; done) | (simp only [SZ]; omega) | (simp only [TS] at *; omega))) only [RZ, gval, gslot, fillL, ovw, numb, catL, ldN, agL, okC, oneC, init, Nat.reduceAdd, Nat.reduceMul, Nat.reduceSub, Nat.reduceEqDiff, Nat.reduceLT, ↓reduceIte, Int.reduceToNat, Int.reduceAdd, Int.reduceSub, Int.reduceMul, Int.reduceLT, Int.reduceLE, Int.reduceEq, Nat.reduceLeDiff]
    exact ⟨0, [], none, 0, Nat.zero_le _, by simp, by simp, owns_nil _ _ _ _, Below.refl _ _, rfl, rfl⟩
  rintro σ w2 ⟨k, l, B, d, hk, hll, hln, hown, hB2, f1, f3, f4⟩ K hK
  have r2 := r0.of_block (hB2.block _ (by omega))
  have a4 := r2.cell (i := 4) rfl
  simp +contextual (maxSteps := 2000000) (disch := (first | omega | (simp only [SZ]; done) | (simp only [SZ]; omega) | (simp only [TS] at *; omega))) only [RZ, gval, gslot, fillL, ovw, numb, catL, ldN, agL, okC, oneC, init, Nat.reduceAdd, Nat.reduceMul, Nat.reduceSub, Nat.reduceEqDiff, Nat.reduceLT, ↓reduceIte, Int.reduceToNat, Int.reduceAdd, Int.reduceSub, Int.reduceMul, Int.reduceLT, Int.reduceLE, Int.reduceEq, Nat.reduceLeDiff,  f1, f3, f4, a4]
  by_cases hkl : k < p.levels.length
  · obtain ⟨v, hvk⟩ : ∃ v, p.levels[k]? = some v := ⟨_, List.getElem?_eq_getElem hkl⟩
    have hv := hp v (List.mem_of_getElem? hvk)
    have hft := flat_take (f := f) hvk
    rw [← hll] at hft
    obtain ⟨cn, hcn⟩ : ∃ cn : Nat, v.count - v.pack * p.packs = cn := ⟨(v.count - v.pack * p.packs).toNat, (Int.toNat_of_nonneg (by omega)).symm⟩
    have hcn2 : cn ≤ 10000 := by omega
    have hfv : f v = List.replicate cn v.prize := by rw [← hf]; show List.replicate (v.count - v.pack * p.packs).toNat v.prize = _; rw [hcn, Int.toNat_natCast]
    rw [hfv] at hft
    have e1 : decide ((k : Int) < p.levels.length) = true := decide_eq_true (by omega)
    simp +contextual (maxSteps := 2000000) (disch := (first | omega | (simp only [SZ]; done) | (simp only [SZ]; omega) | (simp only [TS] at *; omega))) only [RZ, gval, gslot, fillL, ovw, numb, catL, ldN, agL, okC, oneC, init, Nat.reduceAdd, Nat.reduceMul, Nat.reduceSub, Nat.reduceEqDiff, Nat.reduceLT, ↓reduceIte, Int.reduceToNat, Int.reduceAdd, Int.reduceSub, Int.reduceMul, Int.reduceLT, Int.reduceLE, Int.reduceEq, Nat.reduceLeDiff,  e1]
    refine W_if_t rfl ?_
    simp +contextual (maxSteps := 2000000) (disch := (first | omega | (simp only [SZ]; done) | (simp only [SZ]; omega) | (simp only [TS] at *; omega))) only [RZ, gval, gslot, fillL, ovw, numb, catL, ldN, agL, okC, oneC, init, Nat.reduceAdd, Nat.reduceMul, Nat.reduceSub, Nat.reduceEqDiff, Nat.reduceLT, ↓reduceIte, Int.reduceToNat, Int.reduceAdd, Int.reduceSub, Int.reduceMul, Int.reduceLT, Int.reduceLE, Int.reduceEq, Nat.reduceLeDiff,  f1, f3, f4]
    refine Raw_loop (fun σ w3 => ∃ (j : Nat) (B : Option Addr) (d : Nat), j ≤ cn ∧ w3.ownsRow (w.heap.size + 1) 3 1 (.slice B (l ++ List.replicate j v.prize).length d) (l ++ List.replicate j v.prize).length (iV (l ++ List.replicate j v.prize)) ∧ Below (w.heap.size + 1) w1 w3 ∧ σ 1 = .pointer (some ⟨w.heap.size, 0, none⟩) ∧ σ 3 = .slice B (l ++ List.replicate j v.prize).length d ∧ σ 4 = .int .i64 k ∧ σ 5 = .int .i64 j) (fun σ _ => cn - (intOf (σ 5)).toNat) ?_ ?_
    · simp +contextual (maxSteps := 2000000) (disch := (first | omega | (simp only [SZ]; done) | (simp only [SZ]; omega) | (simp only [TS] at *; omega))) only [RZ, gval, gslot, fillL, ovw, numb, catL, ldN, agL, okC, oneC, init, Nat.reduceAdd, Nat.reduceMul, Nat.reduceSub, Nat.reduceEqDiff, Nat.reduceLT, ↓reduceIte, Int.reduceToNat, Int.reduceAdd, Int.reduceSub, Int.reduceMul, Int.reduceLT, Int.reduceLE, Int.reduceEq, Nat.reduceLeDiff,  f1, f3, f4]
      exact ⟨0, B, d, Nat.zero_le _, by simpa using hown, hB2, by simp, rfl⟩
    rintro σ w3 ⟨j, B3, d3, hj, hown3, hB3, g1, g3, g4, g5⟩ K3 hK3
    have hLen : (l ++ List.replicate j v.prize).length = l.length + j := by rw [List.length_append, List.length_replicate]
    have r3 := r0.of_block (hB3.block _ (by omega))
    have hL3 := hL1.below (hB3.mono (by omega))
    obtain ⟨ba, oa, rfl, hba, hcell⟩ := hL3.at_ hvk
    have l0 := hcell 0 _ rfl
    rw [Nat.add_zero] at l0
    have l1 := hcell 1 _ rfl
    have l2 := hcell 2 _ rfl
    have a2 := r3.cell (i := 2) rfl
    have a4 := r3.cell (i := 4) rfl
    have hBd : Below (w.heap.size + 1) w1 w3.drew := hB3.trans ⟨rfl, rfl, rfl, Nat.le_refl _, fun _ _ => rfl⟩
    replace hown3 : w3.drew.ownsRow (w.heap.size + 1) 3 1 _ _ _ := owns_keep (w' := w3.drew) hown3 fun _ _ => rfl
    replace r3 : Row w3.drew _ _ _ := r3.kept (X := []) (Kept.refl _ _).drew (by simp)
    replace hB3 := hBd
    replace l0 : w3.drew.cell? _ = _ := l0
    replace l1 : w3.drew.cell? _ = _ := l1
    replace l2 : w3.drew.cell? _ = _ := l2
    replace a2 : w3.drew.cell? _ = _ := a2
    replace a4 : w3.drew.cell? _ = _ := a4
    simp +contextual (maxSteps := 2000000) (disch := (first | omega | (simp only [SZ]; done) | (simp only [SZ]; omega) | (simp only [TS] at *; omega))) only [RZ, gval, gslot, fillL, ovw, numb, catL, ldN, agL, okC, oneC, init, Nat.reduceAdd, Nat.reduceMul, Nat.reduceSub, Nat.reduceEqDiff, Nat.reduceLT, ↓reduceIte, Int.reduceToNat, Int.reduceAdd, Int.reduceSub, Int.reduceMul, Int.reduceLT, Int.reduceLE, Int.reduceEq, Nat.reduceLeDiff]
    refine Raw_still MX (by kernel_rfl) ?_
    generalize w3.drew = w4 at *
    simp +contextual (maxSteps := 2000000) (disch := (first | omega | (simp only [SZ]; done) | (simp only [SZ]; omega) | (simp only [TS] at *; omega))) only [RZ, gval, gslot, fillL, ovw, numb, catL, ldN, agL, okC, oneC, init, Nat.reduceAdd, Nat.reduceMul, Nat.reduceSub, Nat.reduceEqDiff, Nat.reduceLT, ↓reduceIte, Int.reduceToNat, Int.reduceAdd, Int.reduceSub, Int.reduceMul, Int.reduceLT, Int.reduceLE, Int.reduceEq, Nat.reduceLeDiff,  g1, g3, g4, g5, a2, a4, l0, l1, l2]
    by_cases hjc : j < cn
    · have e2 : decide ((j : Int) < v.count - v.pack * p.packs) = true := decide_eq_true (by omega)
      simp +contextual (maxSteps := 2000000) (disch := (first | omega | (simp only [SZ]; done) | (simp only [SZ]; omega) | (simp only [TS] at *; omega))) only [RZ, gval, gslot, fillL, ovw, numb, catL, ldN, agL, okC, oneC, init, Nat.reduceAdd, Nat.reduceMul, Nat.reduceSub, Nat.reduceEqDiff, Nat.reduceLT, ↓reduceIte, Int.reduceToNat, Int.reduceAdd, Int.reduceSub, Int.reduceMul, Int.reduceLT, Int.reduceLE, Int.reduceEq, Nat.reduceLeDiff,  e2]
      refine W_if_t rfl ?_
      simp +contextual (maxSteps := 2000000) (disch := (first | omega | (simp only [SZ]; done) | (simp only [SZ]; omega) | (simp only [TS] at *; omega))) only [RZ, gval, gslot, fillL, ovw, numb, catL, ldN, agL, okC, oneC, init, Nat.reduceAdd, Nat.reduceMul, Nat.reduceSub, Nat.reduceEqDiff, Nat.reduceLT, ↓reduceIte, Int.reduceToNat, Int.reduceAdd, Int.reduceSub, Int.reduceMul, Int.reduceLT, Int.reduceLE, Int.reduceEq, Nat.reduceLeDiff,  g1, g3, g4, g5]
      have hz3 := hB3.size
      obtain ⟨A', c', w7, he, hown7, hb7, hs7⟩ := push1 (P := Tryd.prog) (T := 74) (ty := 74) (news := [.int .i64 v.prize]) hown3 (by omega) hI rfl (fun u hu => by simp at hu; subst hu; rfl) (by rw [hLen]; omega) (by decide)
      generalize hLL : l ++ List.replicate j v.prize = LL at *
      simp +contextual (maxSteps := 2000000) (disch := (first | omega | (simp only [SZ]; done) | (simp only [SZ]; omega) | (simp only [TS] at *; omega))) only [RZ, gval, gslot, fillL, ovw, numb, catL, ldN, agL, okC, oneC, init, Nat.reduceAdd, Nat.reduceMul, Nat.reduceSub, Nat.reduceEqDiff, Nat.reduceLT, ↓reduceIte, Int.reduceToNat, Int.reduceAdd, Int.reduceSub, Int.reduceMul, Int.reduceLT, Int.reduceLE, Int.reduceEq, Nat.reduceLeDiff,  g1, g3, g4, g5, a4, l0, he]
      have hLS : l ++ List.replicate (j + 1) v.prize = LL ++ [v.prize] := by rw [rep_succ, ← List.append_assoc, hLL]
      refine hK3 _ _ ⟨j + 1, A', c', by omega, ?_, hB3.trans hb7, ?_⟩ ?_
      · rw [hLS, List.length_append]
        unfold iV
        rw [List.map_append]
        exact hown7
      · simp +contextual (maxSteps := 2000000) (disch := (first | omega | (simp only [SZ]; done) | (simp only [SZ]; omega) | (simp only [TS] at *; omega))) only [RZ, gval, gslot, fillL, ovw, numb, catL, ldN, agL, okC, oneC, init, Nat.reduceAdd, Nat.reduceMul, Nat.reduceSub, Nat.reduceEqDiff, Nat.reduceLT, ↓reduceIte, Int.reduceToNat, Int.reduceAdd, Int.reduceSub, Int.reduceMul, Int.reduceLT, Int.reduceLE, Int.reduceEq, Nat.reduceLeDiff,  g1, g3, g4, g5, hLS, List.length_append, List.length_singleton]
      · simp +contextual (maxSteps := 2000000) (disch := (first | omega | (simp only [SZ]; done) | (simp only [SZ]; omega) | (simp only [TS] at *; omega))) only [RZ, gval, gslot, fillL, ovw, numb, catL, ldN, agL, okC, oneC, init, Nat.reduceAdd, Nat.reduceMul, Nat.reduceSub, Nat.reduceEqDiff, Nat.reduceLT, ↓reduceIte, Int.reduceToNat, Int.reduceAdd, Int.reduceSub, Int.reduceMul, Int.reduceLT, Int.reduceLE, Int.reduceEq, Nat.reduceLeDiff,  intOf, g5]
        omega
    · have e2 : decide ((j : Int) < v.count - v.pack * p.packs) = false := decide_eq_false (by omega)
      simp +contextual (maxSteps := 2000000) (disch := (first | omega | (simp only [SZ]; done) | (simp only [SZ]; omega) | (simp only [TS] at *; omega))) only [RZ, gval, gslot, fillL, ovw, numb, catL, ldN, agL, okC, oneC, init, Nat.reduceAdd, Nat.reduceMul, Nat.reduceSub, Nat.reduceEqDiff, Nat.reduceLT, ↓reduceIte, Int.reduceToNat, Int.reduceAdd, Int.reduceSub, Int.reduceMul, Int.reduceLT, Int.reduceLE, Int.reduceEq, Nat.reduceLeDiff,  e2]
      refine W_if_f rfl ?_
      obtain rfl : j = cn := by omega
      simp +contextual (maxSteps := 2000000) (disch := (first | omega | (simp only [SZ]; done) | (simp only [SZ]; omega) | (simp only [TS] at *; omega))) only [RZ, gval, gslot, fillL, ovw, numb, catL, ldN, agL, okC, oneC, init, Nat.reduceAdd, Nat.reduceMul, Nat.reduceSub, Nat.reduceEqDiff, Nat.reduceLT, ↓reduceIte, Int.reduceToNat, Int.reduceAdd, Int.reduceSub, Int.reduceMul, Int.reduceLT, Int.reduceLE, Int.reduceEq, Nat.reduceLeDiff,  g1, g3, g4, g5]
      refine hK _ _ ⟨k + 1, l ++ List.replicate j v.prize, B3, d3, by omega, hft.symm, by rw [hLen]; omega, hown3, hB3, ?_⟩ ?_
      · simp +contextual (maxSteps := 2000000) (disch := (first | omega | (simp only [SZ]; done) | (simp only [SZ]; omega) | (simp only [TS] at *; omega))) only [RZ, gval, gslot, fillL, ovw, numb, catL, ldN, agL, okC, oneC, init, Nat.reduceAdd, Nat.reduceMul, Nat.reduceSub, Nat.reduceEqDiff, Nat.reduceLT, ↓reduceIte, Int.reduceToNat, Int.reduceAdd, Int.reduceSub, Int.reduceMul, Int.reduceLT, Int.reduceLE, Int.reduceEq, Nat.reduceLeDiff,  g1, g3, g4, g5]
      · simp +contextual (maxSteps := 2000000) (disch := (first | omega | (simp only [SZ]; done) | (simp only [SZ]; omega) | (simp only [TS] at *; omega))) only [RZ, gval, gslot, fillL, ovw, numb, catL, ldN, agL, okC, oneC, init, Nat.reduceAdd, Nat.reduceMul, Nat.reduceSub, Nat.reduceEqDiff, Nat.reduceLT, ↓reduceIte, Int.reduceToNat, Int.reduceAdd, Int.reduceSub, Int.reduceMul, Int.reduceLT, Int.reduceLE, Int.reduceEq, Nat.reduceLeDiff,  intOf, f4, g4]
        omega
  · have e1 : decide ((k : Int) < p.levels.length) = false := decide_eq_false (by omega)
    simp +contextual (maxSteps := 2000000) (disch := (first | omega | (simp only [SZ]; done) | (simp only [SZ]; omega) | (simp only [TS] at *; omega))) only [RZ, gval, gslot, fillL, ovw, numb, catL, ldN, agL, okC, oneC, init, Nat.reduceAdd, Nat.reduceMul, Nat.reduceSub, Nat.reduceEqDiff, Nat.reduceLT, ↓reduceIte, Int.reduceToNat, Int.reduceAdd, Int.reduceSub, Int.reduceMul, Int.reduceLT, Int.reduceLE, Int.reduceEq, Nat.reduceLeDiff,  e1]
    refine W_if_f rfl ?_
    simp +contextual (maxSteps := 2000000) (disch := (first | omega | (simp only [SZ]; done) | (simp only [SZ]; omega) | (simp only [TS] at *; omega))) only [RZ, gval, gslot, fillL, ovw, numb, catL, ldN, agL, okC, oneC, init, Nat.reduceAdd, Nat.reduceMul, Nat.reduceSub, Nat.reduceEqDiff, Nat.reduceLT, ↓reduceIte, Int.reduceToNat, Int.reduceAdd, Int.reduceSub, Int.reduceMul, Int.reduceLT, Int.reduceLE, Int.reduceEq, Nat.reduceLeDiff,  f1, f3, f4]
    have hke : p.levels.take k = p.levels := List.take_of_length_le (by omega)
    rw [hke] at hll
    subst hll
    exact ⟨B, d, rfl, hown, hB.trans (hB2.mono (by omega))⟩
end Go.Proofs.YtcnlopjjejdahaaDoor
