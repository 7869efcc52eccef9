/- Texts laid one behind the other: RfA, RfB, DwH, Laid. Each says at its head what it proves. -/
import Derived.Test.YtcnlopjjejdahaaDoorY14
import Derived.ChangeMaps5
import Derived.LaidMore
import Derived.OpenShut
import Derived.Stop.Joined
import Derived.Lib.LaidTab
import Derived.MakeChecks
set_option linter.unusedSimpArgs false
/- Walks: the reference's Size, Format, Hex, Mix. -/
namespace Go.Proofs.YtcnlopjjejdahaaDoor
open Go.RowKit
set_option maxRecDepth 100000
theorem toBA_size (l : List Nat) : (toBA l).size = l.length := by
  unfold toBA
  show (Array.size _) = _
  simp
theorem fmtI_len {n : Int} (h : numR n) : (fmtI n).length ≤ 21 := by unfold fmtI; rw [List.length_map]; exact Lib.itoa_length_le n h.1 h.2
theorem hexd_lt (q : Nat) (h : q < 16) : hexd q < 256 := by have := hexd_bd h; omega
theorem rsize_any (x : Int) (w : World) (hx : numR x) : Calls Tryd.prog 80 #[.int .i64 x] w fun e w' => e = .returned (.int .u64 (x.natAbs : Int)) ∧ w = w' := by
  refine calls_W (l := [_]) Tryd.func80 rfl _ Tryd.ntmps80 (by simp) ?_
  obtain ⟨h0, h1⟩ := hx
  simp +contextual (maxSteps := 2000000) (disch := (first | omega | (simp only [SZ]; done) | (simp only [SZ]; omega) | (simp only [TS] at *; omega))) only [RZ, gval, gslot, fillL, ovw, numb, catL, ldN, agL, okC, oneC, init, Nat.reduceAdd, Nat.reduceMul, Nat.reduceSub, Nat.reduceEqDiff, Nat.reduceLT, ↓reduceIte, Int.reduceToNat, Int.reduceAdd, Int.reduceSub, Int.reduceMul, Int.reduceLT, Int.reduceLE, Int.reduceEq, Nat.reduceLeDiff]
  (refine W_if rfl (fun hc => ?_) (fun hc => ?_) <;> (try simp only [TS] at hc))
  · simp +contextual (maxSteps := 2000000) (disch := (first | omega | (simp only [SZ]; done) | (simp only [SZ]; omega) | (simp only [TS] at *; omega))) only [RZ, gval, gslot, fillL, ovw, numb, catL, ldN, agL, okC, oneC, init, Nat.reduceAdd, Nat.reduceMul, Nat.reduceSub, Nat.reduceEqDiff, Nat.reduceLT, ↓reduceIte, Int.reduceToNat, Int.reduceAdd, Int.reduceSub, Int.reduceMul, Int.reduceLT, Int.reduceLE, Int.reduceEq, Nat.reduceLeDiff]
    exact ret_int (by omega)
  · simp +contextual (maxSteps := 2000000) (disch := (first | omega | (simp only [SZ]; done) | (simp only [SZ]; omega) | (simp only [TS] at *; omega))) only [RZ, gval, gslot, fillL, ovw, numb, catL, ldN, agL, okC, oneC, init, Nat.reduceAdd, Nat.reduceMul, Nat.reduceSub, Nat.reduceEqDiff, Nat.reduceLT, ↓reduceIte, Int.reduceToNat, Int.reduceAdd, Int.reduceSub, Int.reduceMul, Int.reduceLT, Int.reduceLE, Int.reduceEq, Nat.reduceLeDiff]
    exact ret_int (by omega)
theorem one_str (w : World) (x : Nat) (hx : x < 256) : vConvert Tryd.prog 77 9 (.slice (some ⟨w.heap.size, 0, none⟩) 1 1) (w.alloc (.cells #[.int .u8 (x : Int)] 5)) = .ok (.value (.string (toBA [x]))) (w.alloc (.cells #[.int .u8 (x : Int)] 5)) := by
  obtain ⟨s, h1, h2⟩ := bytes_str (w := w.alloc (.cells #[.int .u8 (x : Int)] 5)) (a := ⟨w.heap.size, 0, none⟩) (cap := 1) [x] (fun n hn => by simp at hn; omega) (fun j v hv => by
    rw [addr_add, Nat.zero_add, (new_block w _ _).1 j]
    simpa using hv)
  have e : s = toBA [x] := by rw [← toBA_bs s, h1]
  rw [← e]
  exact h2
theorem rformat_any (n : Int) (w : World) (hn : numR n) : Calls Tryd.prog 51 #[.int .i64 n] w fun e w' => e = .returned (.string (fmtB n)) ∧ Below w.heap.size w w' := by
  refine calls_W (l := [_]) Tryd.func51 rfl _ Tryd.ntmps51 (by simp) ?_
  simp +contextual (maxSteps := 2000000) (disch := (first | omega | (simp only [SZ]; done) | (simp only [SZ]; omega) | (simp only [TS] at *; omega))) only [RZ, gval, gslot, fillL, ovw, numb, catL, ldN, agL, okC, oneC, init, Nat.reduceAdd, Nat.reduceMul, Nat.reduceSub, Nat.reduceEqDiff, Nat.reduceLT, ↓reduceIte, Int.reduceToNat, Int.reduceAdd, Int.reduceSub, Int.reduceMul, Int.reduceLT, Int.reduceLE, Int.reduceEq, Nat.reduceLeDiff]
  refine (rsize_any n w hn).mono ?_
  rintro e w1 ⟨rfl, rfl⟩
  refine ⟨_, rfl, ?_⟩
  have hm0 : n.natAbs ≤ 9223372036854775808 := by have := hn.1; have := hn.2; omega
  have hdl : (dec n.natAbs).length ≤ 21 := by
    have h1 := fmtI_len hn
    by_cases h : n < 0
    · rw [fmtI_neg h] at h1; simp at h1; omega
    · rw [fmtI_nonneg (by omega)] at h1
      rwa [show n.toNat = n.natAbs by omega] at h1
  have hres : fmtI n = if n < 0 then 45 :: dec n.natAbs else dec n.natAbs := by
    by_cases h : n < 0
    · rw [if_pos h, fmtI_neg h]
    · rw [if_neg h, fmtI_nonneg (by omega), show n.toNat = n.natAbs by omega]
  generalize n.natAbs = m at *
  have e1 : (48 : Int) + (m : Int) % 10 = ((48 + m % 10 : Nat) : Int) := by omega
  have hst := one_str w (48 + m % 10) (by omega)
  simp +contextual (maxSteps := 2000000) (disch := (first | omega | (simp only [SZ]; done) | (simp only [SZ]; omega) | (simp only [TS] at *; omega))) only [RZ, gval, gslot, fillL, ovw, numb, catL, ldN, agL, okC, oneC, init, Nat.reduceAdd, Nat.reduceMul, Nat.reduceSub, Nat.reduceEqDiff, Nat.reduceLT, ↓reduceIte, Int.reduceToNat, Int.reduceAdd, Int.reduceSub, Int.reduceMul, Int.reduceLT, Int.reduceLE, Int.reduceEq, Nat.reduceLeDiff,  e1, hst]
  have hB1 := below_alloc w (.cells #[.int .u8 ((48 + m % 10 : Nat) : Int)] 5)
  have hs1 := hB1.size
  generalize w.alloc (.cells #[.int .u8 ((48 + m % 10 : Nat) : Int)] 5) = w1 at *
  clear hst e1
  refine Raw_loop (fun σ w2 => Below w.heap.size w w2 ∧ ∃ (i q : Nat) (Y : List Nat), i ≤ 20 ∧ q ≤ m ∧ q < 10 ^ (20 - i) ∧ (∀ d ∈ Y, d < 256) ∧ (if q < 10 then dec m = Y else dec m = dec (q / 10) ++ Y) ∧ σ 0 = .int .i64 n ∧ σ 3 = .int .u64 q ∧ σ 4 = .string (toBA Y) ∧ σ 5 = .int .i64 i) (fun σ _ => 20 - (intOf (σ 5)).toNat) ?_ ?_
  · simp +contextual (maxSteps := 2000000) (disch := (first | omega | (simp only [SZ]; done) | (simp only [SZ]; omega) | (simp only [TS] at *; omega))) only [RZ, gval, gslot, fillL, ovw, numb, catL, ldN, agL, okC, oneC, init, Nat.reduceAdd, Nat.reduceMul, Nat.reduceSub, Nat.reduceEqDiff, Nat.reduceLT, ↓reduceIte, Int.reduceToNat, Int.reduceAdd, Int.reduceSub, Int.reduceMul, Int.reduceLT, Int.reduceLE, Int.reduceEq, Nat.reduceLeDiff]
    refine ⟨hB1, 0, m, [48 + m % 10], by omega, by omega, by omega, by simp; omega, ?_, rfl, rfl, rfl⟩
    split
    · rw [dec_lt (by assumption), Nat.mod_eq_of_lt (by assumption)]
    · rw [dec_ge (by assumption)]
  clear hB1 hs1
  rintro σ w2 ⟨hB, i, q, Y, hi, hqm, hq, hY, hj, e0, e3, e4, e5⟩ K hK
  have hs2 := hB.size
  have hql : q ≤ 100000000000000000000 := by
    have h1 : 10 ^ (20 - i) ≤ 10 ^ 20 := Nat.pow_le_pow_right (by decide) (by omega)
    have h2 : 10 ^ 20 = 100000000000000000000 := by decide
    omega
  have hYl : Y.length ≤ 21 := by
    split at hj
    · rw [← hj]; exact hdl
    · have := congrArg List.length hj
      rw [List.length_append] at this
      omega
  have hz : (toBA Y).size = Y.length := toBA_size Y
  simp +contextual (maxSteps := 2000000) (disch := (first | omega | (simp only [SZ]; done) | (simp only [SZ]; omega) | (simp only [TS] at *; omega))) only [RZ, gval, gslot, fillL, ovw, numb, catL, ldN, agL, okC, oneC, init, Nat.reduceAdd, Nat.reduceMul, Nat.reduceSub, Nat.reduceEqDiff, Nat.reduceLT, ↓reduceIte, Int.reduceToNat, Int.reduceAdd, Int.reduceSub, Int.reduceMul, Int.reduceLT, Int.reduceLE, Int.reduceEq, Nat.reduceLeDiff,  e0, e3, e4, e5]
  (refine W_if rfl (fun hc => ?_) (fun hc => ?_) <;> (try simp only [TS] at hc))
  · have hq10 : ¬ q < 10 := by omega
    have hi20 : i < 20 := by omega
    clear hc
    rw [if_neg hq10] at hj
    have e6 : (48 : Int) + (q : Int) / 10 % 10 = ((48 + q / 10 % 10 : Nat) : Int) := by omega
    have hst := one_str w2 (48 + q / 10 % 10) (by omega)
    have e7 : (toBA [48 + q / 10 % 10] ++ toBA Y) = toBA ((48 + q / 10 % 10) :: Y) := by
      rw [app_toBA, bs_toBA hY, bs_toBA (by simp; omega)]; rfl
    have e8 : (toBA [48 + q / 10 % 10]).size = 1 := by rw [toBA_size]; rfl
    simp +contextual (maxSteps := 2000000) (disch := (first | omega | (simp only [SZ]; done) | (simp only [SZ]; omega) | (simp only [TS] at *; omega))) only [RZ, gval, gslot, fillL, ovw, numb, catL, ldN, agL, okC, oneC, init, Nat.reduceAdd, Nat.reduceMul, Nat.reduceSub, Nat.reduceEqDiff, Nat.reduceLT, ↓reduceIte, Int.reduceToNat, Int.reduceAdd, Int.reduceSub, Int.reduceMul, Int.reduceLT, Int.reduceLE, Int.reduceEq, Nat.reduceLeDiff,  e0, e3, e4, e5, e6, hst, e7]
    refine hK _ _ ⟨hB.trans ((below_alloc w2 _).mono hs2), i + 1, q / 10, (48 + q / 10 % 10) :: Y, by omega, by omega, ?_, ?_, ?_, ?_⟩ ?_
    · rw [show 20 - i = 20 - (i + 1) + 1 by omega, Nat.pow_succ] at hq
      omega
    · intro d hd
      rcases List.mem_cons.1 hd with rfl | hd
      · omega
      · exact hY d hd
    · split
      · rw [hj, dec_lt (by assumption), Nat.mod_eq_of_lt (by assumption)]; rfl
      · rw [hj, dec_ge (by assumption), List.append_assoc]; rfl
    · simp +contextual (maxSteps := 2000000) (disch := (first | omega | (simp only [SZ]; done) | (simp only [SZ]; omega) | (simp only [TS] at *; omega))) only [RZ, gval, gslot, fillL, ovw, numb, catL, ldN, agL, okC, oneC, init, Nat.reduceAdd, Nat.reduceMul, Nat.reduceSub, Nat.reduceEqDiff, Nat.reduceLT, ↓reduceIte, Int.reduceToNat, Int.reduceAdd, Int.reduceSub, Int.reduceMul, Int.reduceLT, Int.reduceLE, Int.reduceEq, Nat.reduceLeDiff,  e0, e3, e4, e5]
      exact congrArg (Value.int _) (by omega)
    · simp +contextual (maxSteps := 2000000) (disch := (first | omega | (simp only [SZ]; done) | (simp only [SZ]; omega) | (simp only [TS] at *; omega))) only [RZ, gval, gslot, fillL, ovw, numb, catL, ldN, agL, okC, oneC, init, Nat.reduceAdd, Nat.reduceMul, Nat.reduceSub, Nat.reduceEqDiff, Nat.reduceLT, ↓reduceIte, Int.reduceToNat, Int.reduceAdd, Int.reduceSub, Int.reduceMul, Int.reduceLT, Int.reduceLE, Int.reduceEq, Nat.reduceLeDiff,  intOf, e5]
      omega
  · have hq10 : q < 10 := by
      rcases Nat.lt_or_ge i 20 with h | h
      · omega
      · have h1 : 20 - i = 0 := by omega
        rw [h1] at hq
        omega
    rw [if_pos hq10] at hj
    clear hc
    simp +contextual (maxSteps := 2000000) (disch := (first | omega | (simp only [SZ]; done) | (simp only [SZ]; omega) | (simp only [TS] at *; omega))) only [RZ, gval, gslot, fillL, ovw, numb, catL, ldN, agL, okC, oneC, init, Nat.reduceAdd, Nat.reduceMul, Nat.reduceSub, Nat.reduceEqDiff, Nat.reduceLT, ↓reduceIte, Int.reduceToNat, Int.reduceAdd, Int.reduceSub, Int.reduceMul, Int.reduceLT, Int.reduceLE, Int.reduceEq, Nat.reduceLeDiff,  e0, e3, e4, e5]
    have e9 : (⟨#[45]⟩ : ByteArray) ++ toBA Y = toBA (45 :: Y) := by rw [app_toBA, bs_toBA hY]; rfl
    have e10 : (⟨#[45]⟩ : ByteArray).size = 1 := rfl
    have e11 : fmtB n = toBA (fmtI n) := by rw [← bs_fmtB, toBA_bs]
    (refine W_if rfl (fun hc => ?_) (fun hc => ?_) <;> (try simp only [TS] at hc))
    · rw [if_pos hc] at hres
      simp +contextual (maxSteps := 2000000) (disch := (first | omega | (simp only [SZ]; done) | (simp only [SZ]; omega) | (simp only [TS] at *; omega))) only [RZ, gval, gslot, fillL, ovw, numb, catL, ldN, agL, okC, oneC, init, Nat.reduceAdd, Nat.reduceMul, Nat.reduceSub, Nat.reduceEqDiff, Nat.reduceLT, ↓reduceIte, Int.reduceToNat, Int.reduceAdd, Int.reduceSub, Int.reduceMul, Int.reduceLT, Int.reduceLE, Int.reduceEq, Nat.reduceLeDiff,  e0, e3, e4, e5, e9]
      rw [e11, hres, hj]
      exact ⟨rfl, hB⟩
    · rw [if_neg (by omega)] at hres
      simp +contextual (maxSteps := 2000000) (disch := (first | omega | (simp only [SZ]; done) | (simp only [SZ]; omega) | (simp only [TS] at *; omega))) only [RZ, gval, gslot, fillL, ovw, numb, catL, ldN, agL, okC, oneC, init, Nat.reduceAdd, Nat.reduceMul, Nat.reduceSub, Nat.reduceEqDiff, Nat.reduceLT, ↓reduceIte, Int.reduceToNat, Int.reduceAdd, Int.reduceSub, Int.reduceMul, Int.reduceLT, Int.reduceLE, Int.reduceEq, Nat.reduceLeDiff,  e0, e3, e4, e5]
      rw [e11, hres, hj]
      exact ⟨rfl, hB⟩
theorem digS : ∀ q : Fin 16, (⟨#[48, 49, 50, 51, 52, 53, 54, 55, 56, 57, 97, 98, 99, 100, 101, 102]⟩ : ByteArray).extract q.1 (q.1 + 1) = toBA [hexd q.1] := by decide
theorem rhex_any (X : Nat) (w : World) (h1 : X ≤ 18446744073709551615) : Calls Tryd.prog 57 #[.int .u64 X] w fun e w' => e = .returned (.string (toBA (hexT 16 X))) ∧ Below w.heap.size w w' := by
  refine calls_W (l := [_]) Tryd.func57 rfl _ Tryd.ntmps57 (by simp) ?_
  simp +contextual (maxSteps := 2000000) (disch := (first | omega | (simp only [SZ]; done) | (simp only [SZ]; omega) | (simp only [TS] at *; omega))) only [RZ, gval, gslot, fillL, ovw, numb, catL, ldN, agL, okC, oneC, init, Nat.reduceAdd, Nat.reduceMul, Nat.reduceSub, Nat.reduceEqDiff, Nat.reduceLT, ↓reduceIte, Int.reduceToNat, Int.reduceAdd, Int.reduceSub, Int.reduceMul, Int.reduceLT, Int.reduceLE, Int.reduceEq, Nat.reduceLeDiff]
  refine Raw_loop (fun σ w2 => Below w.heap.size w w2 ∧ ∃ i : Nat, i ≤ 16 ∧ σ 0 = .int .u64 ((X / 16 ^ i : Nat) : Int) ∧ σ 3 = .string (toBA (hexT i X)) ∧ σ 4 = .int .i64 i) (fun σ _ => 16 - (intOf (σ 4)).toNat) ?_ ?_
  · simp +contextual (maxSteps := 2000000) (disch := (first | omega | (simp only [SZ]; done) | (simp only [SZ]; omega) | (simp only [TS] at *; omega))) only [RZ, gval, gslot, fillL, ovw, numb, catL, ldN, agL, okC, oneC, init, Nat.reduceAdd, Nat.reduceMul, Nat.reduceSub, Nat.reduceEqDiff, Nat.reduceLT, ↓reduceIte, Int.reduceToNat, Int.reduceAdd, Int.reduceSub, Int.reduceMul, Int.reduceLT, Int.reduceLE, Int.reduceEq, Nat.reduceLeDiff]
    refine ⟨Below.refl _ _, 0, by omega, ?_, rfl, rfl⟩
    rw [Nat.pow_zero, Nat.div_one]
  rintro σ w2 ⟨hB, i, hi, e0, e3, e4⟩ K hK
  have hY : ∀ d ∈ hexT i X, d < 256 := fun d hd => by have := hexT_all i X d hd; omega
  have hz : (toBA (hexT i X)).size = i := by rw [toBA_size, hexT_len]
  have hqle : X / 16 ^ i ≤ X := Nat.div_le_self _ _
  have hq2 : X / 16 ^ (i + 1) = X / 16 ^ i / 16 := by rw [Nat.pow_succ, Nat.div_div_eq_div_mul]
  have hT : hexT (i + 1) X = hexd (X / 16 ^ i % 16) :: hexT i X := rfl
  generalize X / 16 ^ i = q at *
  simp +contextual (maxSteps := 2000000) (disch := (first | omega | (simp only [SZ]; done) | (simp only [SZ]; omega) | (simp only [TS] at *; omega))) only [RZ, gval, gslot, fillL, ovw, numb, catL, ldN, agL, okC, oneC, init, Nat.reduceAdd, Nat.reduceMul, Nat.reduceSub, Nat.reduceEqDiff, Nat.reduceLT, ↓reduceIte, Int.reduceToNat, Int.reduceAdd, Int.reduceSub, Int.reduceMul, Int.reduceLT, Int.reduceLE, Int.reduceEq, Nat.reduceLeDiff,  e0, e3, e4]
  (refine W_if rfl (fun hc => ?_) (fun hc => ?_) <;> (try simp only [TS] at hc))
  · have hi16 : i < 16 := by omega
    clear hc
    have x2 : ((q : Nat) : Int) % 16 = ((q % 16 : Nat) : Int) := by omega
    have x3 : (((q % 16 : Nat) : Int) + 1).toNat = q % 16 + 1 := by omega
    have hsz : (⟨#[48, 49, 50, 51, 52, 53, 54, 55, 56, 57, 97, 98, 99, 100, 101, 102]⟩ : ByteArray).size = 16 := rfl
    have hd := digS ⟨q % 16, by omega⟩
    simp only at hd
    have e7 : toBA [hexd (q % 16)] ++ toBA (hexT i X) = toBA (hexT (i + 1) X) := by
      rw [app_toBA, bs_toBA hY, bs_toBA (by have := hexd_lt (q % 16) (by omega); simpa using this), hT]; rfl
    have e8 : (toBA [hexd (q % 16)]).size = 1 := by rw [toBA_size]; rfl
    simp +contextual (maxSteps := 2000000) (disch := (first | omega | (simp only [SZ]; done) | (simp only [SZ]; omega) | (simp only [TS] at *; omega))) only [RZ, gval, gslot, fillL, ovw, numb, catL, ldN, agL, okC, oneC, init, Nat.reduceAdd, Nat.reduceMul, Nat.reduceSub, Nat.reduceEqDiff, Nat.reduceLT, ↓reduceIte, Int.reduceToNat, Int.reduceAdd, Int.reduceSub, Int.reduceMul, Int.reduceLT, Int.reduceLE, Int.reduceEq, Nat.reduceLeDiff,  e0, e3, e4, x2, x3, hsz, hd, e7]
    refine hK _ _ ⟨hB, i + 1, by omega, ?_⟩ ?_
    · simp +contextual (maxSteps := 2000000) (disch := (first | omega | (simp only [SZ]; done) | (simp only [SZ]; omega) | (simp only [TS] at *; omega))) only [RZ, gval, gslot, fillL, ovw, numb, catL, ldN, agL, okC, oneC, init, Nat.reduceAdd, Nat.reduceMul, Nat.reduceSub, Nat.reduceEqDiff, Nat.reduceLT, ↓reduceIte, Int.reduceToNat, Int.reduceAdd, Int.reduceSub, Int.reduceMul, Int.reduceLT, Int.reduceLE, Int.reduceEq, Nat.reduceLeDiff,  e0, e3, e4]
      rw [hq2]
      exact congrArg (Value.int _) (by omega)
    · simp +contextual (maxSteps := 2000000) (disch := (first | omega | (simp only [SZ]; done) | (simp only [SZ]; omega) | (simp only [TS] at *; omega))) only [RZ, gval, gslot, fillL, ovw, numb, catL, ldN, agL, okC, oneC, init, Nat.reduceAdd, Nat.reduceMul, Nat.reduceSub, Nat.reduceEqDiff, Nat.reduceLT, ↓reduceIte, Int.reduceToNat, Int.reduceAdd, Int.reduceSub, Int.reduceMul, Int.reduceLT, Int.reduceLE, Int.reduceEq, Nat.reduceLeDiff,  intOf, e4]
      omega
  · obtain rfl : i = 16 := by omega
    simp +contextual (maxSteps := 2000000) (disch := (first | omega | (simp only [SZ]; done) | (simp only [SZ]; omega) | (simp only [TS] at *; omega))) only [RZ, gval, gslot, fillL, ovw, numb, catL, ldN, agL, okC, oneC, init, Nat.reduceAdd, Nat.reduceMul, Nat.reduceSub, Nat.reduceEqDiff, Nat.reduceLT, ↓reduceIte, Int.reduceToNat, Int.reduceAdd, Int.reduceSub, Int.reduceMul, Int.reduceLT, Int.reduceLE, Int.reduceEq, Nat.reduceLeDiff,  e0, e3, e4]
    exact hB
theorem rmix_any (x : Int) (w : World) (h0 : 0 ≤ x) (h1 : x ≤ 18446744073709551615) : Calls Tryd.prog 58 #[.int .u64 x] w fun e w' => e = .returned (.int .u64 (mixI x)) ∧ w = w' := by
  refine calls_W (l := [_]) Tryd.func58 rfl _ Tryd.ntmps58 (by simp) ?_
  have a1 := xorI_sh (b := x / 1073741824) h0 h1 (by omega)
  have a2 := mod_bd (xorI x (x / 1073741824) * 13787848793156543929)
  have a3 := xorI_sh (b := (xorI x (x / 1073741824) * 13787848793156543929 % 18446744073709551616) / 134217728) a2.1 a2.2 (by omega)
  have a4 := mod_bd (xorI (xorI x (x / 1073741824) * 13787848793156543929 % 18446744073709551616) ((xorI x (x / 1073741824) * 13787848793156543929 % 18446744073709551616) / 134217728) * 10723151780598845931)
  simp +contextual (maxSteps := 2000000) (disch := (first | omega | (simp only [SZ]; done) | (simp only [SZ]; omega) | (simp only [TS] at *; omega))) only [RZ, gval, gslot, fillL, ovw, numb, catL, ldN, agL, okC, oneC, init, Nat.reduceAdd, Nat.reduceMul, Nat.reduceSub, Nat.reduceEqDiff, Nat.reduceLT, ↓reduceIte, Int.reduceToNat, Int.reduceAdd, Int.reduceSub, Int.reduceMul, Int.reduceLT, Int.reduceLE, Int.reduceEq, Nat.reduceLeDiff,  vBin_xorU, vBin_mulW, Int.reducePow, a1, a2, a3, a4]
  unfold mixI mixB mixA
  rfl
end Go.Proofs.YtcnlopjjejdahaaDoor
/- Walks: the reference's plain, Print (chapter 41). -/
namespace Go.Proofs.YtcnlopjjejdahaaDoor
open Go.RowKit
set_option maxRecDepth 100000
theorem plain_any (n : Int) (w : World) : Calls Tryd.prog 50 #[.int .i64 n] w fun e w' => e = .returned (.bool (fitB n)) ∧ w = w' := by
  refine calls_W (l := [_]) Tryd.func50 rfl _ Tryd.ntmps50 (by simp) ?_
  simp +contextual (maxSteps := 2000000) (disch := (first | omega | (simp only [SZ]; done) | (simp only [SZ]; omega) | (simp only [TS] at *; omega))) only [RZ, gval, gslot, fillL, ovw, numb, catL, ldN, agL, okC, oneC, init, Nat.reduceAdd, Nat.reduceMul, Nat.reduceSub, Nat.reduceEqDiff, Nat.reduceLT, ↓reduceIte, Int.reduceToNat, Int.reduceAdd, Int.reduceSub, Int.reduceMul, Int.reduceLT, Int.reduceLE, Int.reduceEq, Nat.reduceLeDiff]
  unfold fitB
  rw [show decide (n < 1000000000000000000) = decide (n ≤ 999999999999999999) from decide_eq_decide.2 (by omega)]
theorem bs_headB (p : Pl) : bs (ByteArray.mk #[100, 101, 99, 107, 32] ++ p.name ++ ⟨#[32, 123, 10, 112, 114, 105, 99, 101, 32]⟩ ++ fmtB p.price ++ ⟨#[59, 10, 112, 97, 99, 107, 115, 32]⟩ ++ fmtB p.packs ++ ⟨#[32, 111, 102, 32]⟩ ++ fmtB p.size ++ ⟨#[59, 10]⟩) = headT p := by
  have e1 : bs ⟨#[100, 101, 99, 107, 32]⟩ = asc "deck " := by kernel_rfl
  have e2 : bs ⟨#[32, 123, 10, 112, 114, 105, 99, 101, 32]⟩ = asc " {\n" ++ asc "price " := by kernel_rfl
  have e3 : bs ⟨#[59, 10, 112, 97, 99, 107, 115, 32]⟩ = asc ";\n" ++ asc "packs " := by kernel_rfl
  have e4 : bs ⟨#[32, 111, 102, 32]⟩ = asc " of " := by kernel_rfl
  have e5 : bs ⟨#[59, 10]⟩ = asc ";\n" := by kernel_rfl
  simp only [bs_append, e1, e2, e3, e4, e5, bs_fmtB, headT, List.append_assoc]
theorem bs_lvlB (s : ByteArray) (v : Lvl) : bs (s ++ ByteArray.mk #[112, 114, 105, 122, 101, 32] ++ fmtB v.prize ++ ⟨#[32, 99, 111, 117, 110, 116, 32]⟩ ++ fmtB v.count ++ ⟨#[32, 112, 97, 99, 107, 32]⟩ ++ fmtB v.pack ++ ⟨#[59, 10]⟩) = bs s ++ lvlT v := by
  have e1 : bs ⟨#[112, 114, 105, 122, 101, 32]⟩ = asc "prize " := by kernel_rfl
  have e2 : bs ⟨#[32, 99, 111, 117, 110, 116, 32]⟩ = asc " count " := by kernel_rfl
  have e3 : bs ⟨#[32, 112, 97, 99, 107, 32]⟩ = asc " pack " := by kernel_rfl
  have e5 : bs ⟨#[59, 10]⟩ = asc ";\n" := by kernel_rfl
  simp only [bs_append, e1, e2, e3, e5, bs_fmtB, lvlT, List.append_assoc]
theorem printP_no {p : Pl} {k : Nat} (h : (nameB p.name && fitB p.price && fitB p.packs && fitB p.size && (p.levels.take k).all Lvl.fits) = false) : printP p = [] := by
  unfold printP
  rw [if_neg]
  intro h2
  simp only [Bool.and_eq_true, List.all_eq_true] at h2
  have : (nameB p.name && fitB p.price && fitB p.packs && fitB p.size && (p.levels.take k).all Lvl.fits) = true := by
    simp only [Bool.and_eq_true, List.all_eq_true]
    exact ⟨⟨⟨⟨h2.1.1, h2.1.2.1.1⟩, h2.1.2.1.2⟩, h2.1.2.2⟩, fun x hx => h2.2 x (List.mem_of_mem_take hx)⟩
  rw [h] at this
  cases this
theorem printP_yes {p : Pl} (h : (nameB p.name && fitB p.price && fitB p.packs && fitB p.size && p.levels.all Lvl.fits) = true) : printP p = headT p ++ p.levels.flatMap lvlT ++ asc "}\n" := by
  unfold printP
  rw [if_pos]
  simp only [Bool.and_eq_true] at h ⊢
  exact ⟨⟨h.1.1.1.1, ⟨h.1.1.1.2, h.1.1.2⟩, h.1.2⟩, h.2⟩
theorem rprint_any (p : Pl) (A : Option Addr) (c : Nat) (w : World) (hs : p.name.size ≤ 100) (hl : p.levels.length ≤ 20) (hL : Arr w A 3 (p.levels.map encLvl)) (hr : (numR p.price ∧ numR p.packs ∧ numR p.size) ∧ ∀ v ∈ p.levels, numR v.prize ∧ numR v.count ∧ numR v.pack) :
    Calls Tryd.prog 21 #[planV p A c] w fun e w' => e = .returned (.string (toBA (printP p))) ∧ Below w.heap.size w w' := by
  unfold planV
  refine calls_W (l := [_]) Tryd.func21 rfl _ Tryd.ntmps21 (by simp) ?_
  simp +contextual (maxSteps := 2000000) (disch := (first | omega | (simp only [SZ]; done) | (simp only [SZ]; omega) | (simp only [TS] at *; omega))) only [RZ, gval, gslot, fillL, ovw, numb, catL, ldN, agL, okC, oneC, init, Nat.reduceAdd, Nat.reduceMul, Nat.reduceSub, Nat.reduceEqDiff, Nat.reduceLT, ↓reduceIte, Int.reduceToNat, Int.reduceAdd, Int.reduceSub, Int.reduceMul, Int.reduceLT, Int.reduceLE, Int.reduceEq, Nat.reduceLeDiff]
  have r0 := Row.new w 24 [.string p.name, .int .i64 p.price, .int .i64 p.packs, .int .i64 p.size, .slice A p.levels.length c]
  replace r0 : Row (w.alloc (.cells #[.string p.name, .int .i64 p.price, .int .i64 p.packs, .int .i64 p.size, .slice A p.levels.length c] 24)) _ _ _ := r0
  have hB := below_alloc w (.cells #[.string p.name, .int .i64 p.price, .int .i64 p.packs, .int .i64 p.size, .slice A p.levels.length c] 24)
  generalize w.alloc (.cells #[.string p.name, .int .i64 p.price, .int .i64 p.packs, .int .i64 p.size, .slice A p.levels.length c] 24) = w1 at *
  have hL1 := hL.below hB
  have hz1 := hB.size
  refine (rname_any p.name w1 (by omega)).mono ?_
  rintro e w2 ⟨rfl, rfl⟩
  refine ⟨_, rfl, ?_⟩
  have a0 := r0.cell (i := 0) rfl
  have a1 := r0.cell (i := 1) rfl
  have a2 := r0.cell (i := 2) rfl
  have a3 := r0.cell (i := 3) rfl
  have a4 := r0.cell (i := 4) rfl
  simp +contextual (maxSteps := 2000000) (disch := (first | omega | (simp only [SZ]; done) | (simp only [SZ]; omega) | (simp only [TS] at *; omega))) only [RZ, gval, gslot, fillL, ovw, numb, catL, ldN, agL, okC, oneC, init, Nat.reduceAdd, Nat.reduceMul, Nat.reduceSub, Nat.reduceEqDiff, Nat.reduceLT, ↓reduceIte, Int.reduceToNat, Int.reduceAdd, Int.reduceSub, Int.reduceMul, Int.reduceLT, Int.reduceLE, Int.reduceEq, Nat.reduceLeDiff,  a0, a1, a2, a3, a4]
  refine GB_call (fun _ => plain_any _ _) ?_
  simp +contextual (maxSteps := 2000000) (disch := (first | omega | (simp only [SZ]; done) | (simp only [SZ]; omega) | (simp only [TS] at *; omega))) only [RZ, gval, gslot, fillL, ovw, numb, catL, ldN, agL, okC, oneC, init, Nat.reduceAdd, Nat.reduceMul, Nat.reduceSub, Nat.reduceEqDiff, Nat.reduceLT, ↓reduceIte, Int.reduceToNat, Int.reduceAdd, Int.reduceSub, Int.reduceMul, Int.reduceLT, Int.reduceLE, Int.reduceEq, Nat.reduceLeDiff,  a0, a1, a2, a3, a4]
  refine GB_call (fun _ => plain_any _ _) ?_
  simp +contextual (maxSteps := 2000000) (disch := (first | omega | (simp only [SZ]; done) | (simp only [SZ]; omega) | (simp only [TS] at *; omega))) only [RZ, gval, gslot, fillL, ovw, numb, catL, ldN, agL, okC, oneC, init, Nat.reduceAdd, Nat.reduceMul, Nat.reduceSub, Nat.reduceEqDiff, Nat.reduceLT, ↓reduceIte, Int.reduceToNat, Int.reduceAdd, Int.reduceSub, Int.reduceMul, Int.reduceLT, Int.reduceLE, Int.reduceEq, Nat.reduceLeDiff,  a0, a1, a2, a3, a4]
  refine GB_call (fun _ => plain_any _ _) ?_
  simp +contextual (maxSteps := 2000000) (disch := (first | omega | (simp only [SZ]; done) | (simp only [SZ]; omega) | (simp only [TS] at *; omega))) only [RZ, gval, gslot, fillL, ovw, numb, catL, ldN, agL, okC, oneC, init, Nat.reduceAdd, Nat.reduceMul, Nat.reduceSub, Nat.reduceEqDiff, Nat.reduceLT, ↓reduceIte, Int.reduceToNat, Int.reduceAdd, Int.reduceSub, Int.reduceMul, Int.reduceLT, Int.reduceLE, Int.reduceEq, Nat.reduceLeDiff,  a0, a1, a2, a3, a4]
  have hok0 : pk (nameB p.name && fitB p.price && fitB p.packs) (.bool (fitB p.size)) (.bool false) = .bool (nameB p.name && fitB p.price && fitB p.packs && fitB p.size) := by
    cases nameB p.name && fitB p.price && fitB p.packs <;> rfl
  generalize hok : (nameB p.name && fitB p.price && fitB p.packs && fitB p.size) = ok0 at *
  have hJ1 : Below w1.heap.size w1 w1.drew := ⟨rfl, rfl, rfl, Nat.le_refl _, fun _ _ => rfl⟩
  have z1 : (fmtB p.price).size ≤ 21 := by rw [← bs_len, bs_fmtB]; exact fmtI_len hr.1.1
  have z2 : (fmtB p.packs).size ≤ 21 := by rw [← bs_len, bs_fmtB]; exact fmtI_len hr.1.2.1
  have z3 : (fmtB p.size).size ≤ 21 := by rw [← bs_len, bs_fmtB]; exact fmtI_len hr.1.2.2
  refine Raw_ord (fun w' => Below w1.heap.size w1 w') 20 rfl MX ?_
  refine Ord_reads (τ := ?ta) [0, 1, 2, 3, 4, 5, 9, 10, 14, 15] 10 rfl (by kernel_rfl) (by kernel_rfl) (fun _ _ _ h => h) hJ1 (fun w7 h7 => ?_) ?_; rotate_left
  · have r7 := r0.below h7
    have c0 := r7.cell (i := 0) rfl
    have c1 := r7.cell (i := 1) rfl
    have c2 := r7.cell (i := 2) rfl
    have c3 := r7.cell (i := 3) rfl
    simp only [opsL_cons, opsL_nil, List.getElem?_toArray, List.getElem?_cons_zero, List.getElem?_cons_succ, optL_some]
    simp +contextual (maxSteps := 2000000) (disch := (first | omega | (simp only [SZ]; done) | (simp only [SZ]; omega) | (simp only [TS] at *; omega))) only [RZ, gval, gslot, fillL, ovw, numb, catL, ldN, agL, okC, oneC, init, Nat.reduceAdd, Nat.reduceMul, Nat.reduceSub, Nat.reduceEqDiff, Nat.reduceLT, ↓reduceIte, Int.reduceToNat, Int.reduceAdd, Int.reduceSub, Int.reduceMul, Int.reduceLT, Int.reduceLE, Int.reduceEq, Nat.reduceLeDiff,  c0, c1, c2, c3]
    exact rfl
  refine Ord_one 6 (by kernel_rfl) rfl ?_
  simp +contextual (maxSteps := 2000000) (disch := (first | omega | (simp only [SZ]; done) | (simp only [SZ]; omega) | (simp only [TS] at *; omega))) only [RZ, gval, gslot, fillL, ovw, numb, catL, ldN, agL, okC, oneC, init, Nat.reduceAdd, Nat.reduceMul, Nat.reduceSub, Nat.reduceEqDiff, Nat.reduceLT, ↓reduceIte, Int.reduceToNat, Int.reduceAdd, Int.reduceSub, Int.reduceMul, Int.reduceLT, Int.reduceLE, Int.reduceEq, Nat.reduceLeDiff]
  refine (rformat_any p.price w1.drew hr.1.1).mono ?_
  rintro e w2 ⟨rfl, hB2⟩
  refine ⟨_, rfl, ?_⟩
  have hJ2 := hJ1.trans hB2
  have hz2 := hJ2.size
  refine ⟨hJ2, ?_⟩
  refine Ord_reads (τ := ?tb) [7, 8] 7 rfl (by kernel_rfl) (by kernel_rfl) (fun _ _ _ h => h) hJ2 (fun w7 h7 => ?_) ?_; rotate_left
  · simp only [opsL_cons, opsL_nil, List.getElem?_toArray, List.getElem?_cons_zero, List.getElem?_cons_succ, optL_some]
    simp +contextual (maxSteps := 2000000) (disch := (first | omega | (simp only [SZ]; done) | (simp only [SZ]; omega) | (simp only [TS] at *; omega))) only [RZ, gval, gslot, fillL, ovw, numb, catL, ldN, agL, okC, oneC, init, Nat.reduceAdd, Nat.reduceMul, Nat.reduceSub, Nat.reduceEqDiff, Nat.reduceLT, ↓reduceIte, Int.reduceToNat, Int.reduceAdd, Int.reduceSub, Int.reduceMul, Int.reduceLT, Int.reduceLE, Int.reduceEq, Nat.reduceLeDiff]
    exact rfl
  refine Ord_one 11 (by kernel_rfl) rfl ?_
  simp +contextual (maxSteps := 2000000) (disch := (first | omega | (simp only [SZ]; done) | (simp only [SZ]; omega) | (simp only [TS] at *; omega))) only [RZ, gval, gslot, fillL, ovw, numb, catL, ldN, agL, okC, oneC, init, Nat.reduceAdd, Nat.reduceMul, Nat.reduceSub, Nat.reduceEqDiff, Nat.reduceLT, ↓reduceIte, Int.reduceToNat, Int.reduceAdd, Int.reduceSub, Int.reduceMul, Int.reduceLT, Int.reduceLE, Int.reduceEq, Nat.reduceLeDiff]
  refine (rformat_any p.packs w2 hr.1.2.1).mono ?_
  rintro e w3 ⟨rfl, hB3⟩
  refine ⟨_, rfl, ?_⟩
  have hJ3 := hJ2.trans (hB3.mono hz2)
  have hz3 := hJ3.size
  refine ⟨hJ3, ?_⟩
  refine Ord_reads (τ := ?tc) [12, 13] 4 rfl (by kernel_rfl) (by kernel_rfl) (fun _ _ _ h => h) hJ3 (fun w7 h7 => ?_) ?_; rotate_left
  · simp only [opsL_cons, opsL_nil, List.getElem?_toArray, List.getElem?_cons_zero, List.getElem?_cons_succ, optL_some]
    simp +contextual (maxSteps := 2000000) (disch := (first | omega | (simp only [SZ]; done) | (simp only [SZ]; omega) | (simp only [TS] at *; omega))) only [RZ, gval, gslot, fillL, ovw, numb, catL, ldN, agL, okC, oneC, init, Nat.reduceAdd, Nat.reduceMul, Nat.reduceSub, Nat.reduceEqDiff, Nat.reduceLT, ↓reduceIte, Int.reduceToNat, Int.reduceAdd, Int.reduceSub, Int.reduceMul, Int.reduceLT, Int.reduceLE, Int.reduceEq, Nat.reduceLeDiff]
    exact rfl
  refine Ord_one 16 (by kernel_rfl) rfl ?_
  simp +contextual (maxSteps := 2000000) (disch := (first | omega | (simp only [SZ]; done) | (simp only [SZ]; omega) | (simp only [TS] at *; omega))) only [RZ, gval, gslot, fillL, ovw, numb, catL, ldN, agL, okC, oneC, init, Nat.reduceAdd, Nat.reduceMul, Nat.reduceSub, Nat.reduceEqDiff, Nat.reduceLT, ↓reduceIte, Int.reduceToNat, Int.reduceAdd, Int.reduceSub, Int.reduceMul, Int.reduceLT, Int.reduceLE, Int.reduceEq, Nat.reduceLeDiff]
  refine (rformat_any p.size w3 hr.1.2.2).mono ?_
  rintro e w4 ⟨rfl, hB4⟩
  refine ⟨_, rfl, ?_⟩
  have hJ4 := hJ3.trans (hB4.mono hz3)
  have hz4 := hJ4.size
  refine ⟨hJ4, ?_⟩
  refine Ord_chainS _ [17, 18, 19] _ _ _ (by kernel_rfl) ?_
  simp only [opsL_cons, opsL_nil, List.getElem?_toArray, List.getElem?_cons_zero, List.getElem?_cons_succ, optL_some]
  simp +contextual (maxSteps := 2000000) (disch := (first | omega | (simp only [SZ]; done) | (simp only [SZ]; omega) | (simp only [TS] at *; omega))) only [RZ, gval, gslot, fillL, ovw, numb, catL, ldN, agL, okC, oneC, init, Nat.reduceAdd, Nat.reduceMul, Nat.reduceSub, Nat.reduceEqDiff, Nat.reduceLT, ↓reduceIte, Int.reduceToNat, Int.reduceAdd, Int.reduceSub, Int.reduceMul, Int.reduceLT, Int.reduceLE, Int.reduceEq, Nat.reduceLeDiff,  EC_op, EC_nil, hJ4]
  have hdl := bs_headB p
  generalize hsb : ByteArray.mk #[100, 101, 99, 107, 32] ++ p.name ++ ⟨#[32, 123, 10, 112, 114, 105, 99, 101, 32]⟩ ++ fmtB p.price ++ ⟨#[59, 10, 112, 97, 99, 107, 115, 32]⟩ ++ fmtB p.packs ++ ⟨#[32, 111, 102, 32]⟩ ++ fmtB p.size ++ ⟨#[59, 10]⟩ = sb at *
  have hsz : sb.size ≤ 200 := by rw [← hsb]; simp only [SZ]; omega
  clear hsb
  have r4 := r0.below hJ4
  have hL4 := hL1.below hJ4
  have hB4' := hB.trans (hJ4.mono hz1)
  have hz4 := hB4'.size
  clear a0 a1 a2 a3 a4 hJ1 hJ2 hJ3 hJ4 hB2 hB3 hB4 hz2 hz3
  refine Raw_loop (fun σ wl => ∃ (k : Nat) (s : ByteArray), k ≤ p.levels.length ∧ bs s = headT p ++ (p.levels.take k).flatMap lvlT ∧ s.size ≤ 200 + 90 * k ∧ Below w4.heap.size w4 wl ∧ σ 1 = .pointer (some ⟨w.heap.size, 0, none⟩) ∧ σ 3 = .bool (ok0 && (p.levels.take k).all Lvl.fits) ∧ σ 4 = .string s ∧ σ 5 = .int .i64 k) (fun σ _ => p.levels.length - (intOf (σ 5)).toNat) ?_ ?_
  · simp +contextual (maxSteps := 2000000) (disch := (first | omega | (simp only [SZ]; done) | (simp only [SZ]; omega) | (simp only [TS] at *; omega))) only [RZ, gval, gslot, fillL, ovw, numb, catL, ldN, agL, okC, oneC, init, Nat.reduceAdd, Nat.reduceMul, Nat.reduceSub, Nat.reduceEqDiff, Nat.reduceLT, ↓reduceIte, Int.reduceToNat, Int.reduceAdd, Int.reduceSub, Int.reduceMul, Int.reduceLT, Int.reduceLE, Int.reduceEq, Nat.reduceLeDiff]
    exact ⟨0, sb, Nat.zero_le _, by rw [hdl]; simp, by omega, Below.refl _ _, by simp, rfl, rfl⟩
  rintro σ wl ⟨k, s, hk, hs0, hs1, hBl, f1, f3, f4, f5⟩ K hK
  have rl := r4.below hBl
  have hLl := hL4.below hBl
  have hzl := hBl.size
  have a4 := rl.cell (i := 4) rfl
  have hfin : k = p.levels.length → bs s = headT p ++ p.levels.flatMap lvlT := fun h => by rw [hs0, h, List.take_length]
  cases hko : (ok0 && (p.levels.take k).all Lvl.fits) with
  | false =>
    rw [hko] at f3
    simp +contextual (maxSteps := 2000000) (disch := (first | omega | (simp only [SZ]; done) | (simp only [SZ]; omega) | (simp only [TS] at *; omega))) only [RZ, gval, gslot, fillL, ovw, numb, catL, ldN, agL, okC, oneC, init, Nat.reduceAdd, Nat.reduceMul, Nat.reduceSub, Nat.reduceEqDiff, Nat.reduceLT, ↓reduceIte, Int.reduceToNat, Int.reduceAdd, Int.reduceSub, Int.reduceMul, Int.reduceLT, Int.reduceLE, Int.reduceEq, Nat.reduceLeDiff,  f1, f3, f4, f5, a4]
    refine W_if_f rfl ?_
    simp +contextual (maxSteps := 2000000) (disch := (first | omega | (simp only [SZ]; done) | (simp only [SZ]; omega) | (simp only [TS] at *; omega))) only [RZ, gval, gslot, fillL, ovw, numb, catL, ldN, agL, okC, oneC, init, Nat.reduceAdd, Nat.reduceMul, Nat.reduceSub, Nat.reduceEqDiff, Nat.reduceLT, ↓reduceIte, Int.reduceToNat, Int.reduceAdd, Int.reduceSub, Int.reduceMul, Int.reduceLT, Int.reduceLE, Int.reduceEq, Nat.reduceLeDiff,  f1, f3, f4, f5, a4]
    refine W_if_t rfl ?_
    simp +contextual (maxSteps := 2000000) (disch := (first | omega | (simp only [SZ]; done) | (simp only [SZ]; omega) | (simp only [TS] at *; omega))) only [RZ, gval, gslot, fillL, ovw, numb, catL, ldN, agL, okC, oneC, init, Nat.reduceAdd, Nat.reduceMul, Nat.reduceSub, Nat.reduceEqDiff, Nat.reduceLT, ↓reduceIte, Int.reduceToNat, Int.reduceAdd, Int.reduceSub, Int.reduceMul, Int.reduceLT, Int.reduceLE, Int.reduceEq, Nat.reduceLeDiff,  f1, f3, f4, f5, a4]
    rw [printP_no (by rw [hok]; exact hko)]
    exact ⟨rfl, hB4'.trans (hBl.mono hz4)⟩
  | true =>
    rw [hko] at f3
    by_cases hkl : k < p.levels.length
    · obtain ⟨v, hvk⟩ : ∃ v, p.levels[k]? = some v := ⟨_, List.getElem?_eq_getElem hkl⟩
      have hvr := hr.2 v (List.mem_of_getElem? hvk)
      obtain ⟨ba, oa, rfl, hba, hcell⟩ := hLl.at_ hvk
      have l0 := hcell 0 _ rfl
      rw [Nat.add_zero] at l0
      have l1 := hcell 1 _ rfl
      have l2 := hcell 2 _ rfl
      have e6 : decide ((k : Int) < p.levels.length) = true := decide_eq_true (by omega)
      simp +contextual (maxSteps := 2000000) (disch := (first | omega | (simp only [SZ]; done) | (simp only [SZ]; omega) | (simp only [TS] at *; omega))) only [RZ, gval, gslot, fillL, ovw, numb, catL, ldN, agL, okC, oneC, init, Nat.reduceAdd, Nat.reduceMul, Nat.reduceSub, Nat.reduceEqDiff, Nat.reduceLT, ↓reduceIte, Int.reduceToNat, Int.reduceAdd, Int.reduceSub, Int.reduceMul, Int.reduceLT, Int.reduceLE, Int.reduceEq, Nat.reduceLeDiff,  f1, f3, f4, f5, a4, e6]
      refine W_if_t rfl ?_
      simp +contextual (maxSteps := 2000000) (disch := (first | omega | (simp only [SZ]; done) | (simp only [SZ]; omega) | (simp only [TS] at *; omega))) only [RZ, gval, gslot, fillL, ovw, numb, catL, ldN, agL, okC, oneC, init, Nat.reduceAdd, Nat.reduceMul, Nat.reduceSub, Nat.reduceEqDiff, Nat.reduceLT, ↓reduceIte, Int.reduceToNat, Int.reduceAdd, Int.reduceSub, Int.reduceMul, Int.reduceLT, Int.reduceLE, Int.reduceEq, Nat.reduceLeDiff,  f1, f3, f4, f5, a4, e6, l0, l1, l2]
      have hro := Row.new wl 43 (encLvl v)
      have hb5 := below_alloc wl (.cells (encLvl v).toArray 43)
      rw [show (encLvl v).toArray = #[.int .i64 v.prize, .int .i64 v.count, .int .i64 v.pack] from rfl] at hro hb5
      have hb5s : (wl.alloc (.cells #[.int .i64 v.prize, .int .i64 v.count, .int .i64 v.pack] 43)).heap.size = wl.heap.size + 1 := World.size_alloc _ _
      generalize wl.alloc (.cells #[.int .i64 v.prize, .int .i64 v.count, .int .i64 v.pack] 43) = w5 at *
      have v0 := hro.cell (i := 0) rfl
      have v1 := hro.cell (i := 1) rfl
      have v2 := hro.cell (i := 2) rfl
      refine (plain_any v.prize w5).mono ?_
      rintro e w6 ⟨rfl, rfl⟩
      refine ⟨_, rfl, ?_⟩
      simp +contextual (maxSteps := 2000000) (disch := (first | omega | (simp only [SZ]; done) | (simp only [SZ]; omega) | (simp only [TS] at *; omega))) only [RZ, gval, gslot, fillL, ovw, numb, catL, ldN, agL, okC, oneC, init, Nat.reduceAdd, Nat.reduceMul, Nat.reduceSub, Nat.reduceEqDiff, Nat.reduceLT, ↓reduceIte, Int.reduceToNat, Int.reduceAdd, Int.reduceSub, Int.reduceMul, Int.reduceLT, Int.reduceLE, Int.reduceEq, Nat.reduceLeDiff,  v0, v1, v2]
      refine GB_call (fun _ => plain_any _ _) ?_
      simp +contextual (maxSteps := 2000000) (disch := (first | omega | (simp only [SZ]; done) | (simp only [SZ]; omega) | (simp only [TS] at *; omega))) only [RZ, gval, gslot, fillL, ovw, numb, catL, ldN, agL, okC, oneC, init, Nat.reduceAdd, Nat.reduceMul, Nat.reduceSub, Nat.reduceEqDiff, Nat.reduceLT, ↓reduceIte, Int.reduceToNat, Int.reduceAdd, Int.reduceSub, Int.reduceMul, Int.reduceLT, Int.reduceLE, Int.reduceEq, Nat.reduceLeDiff,  v0, v1, v2]
      refine GB_call (fun _ => plain_any _ _) ?_
      simp +contextual (maxSteps := 2000000) (disch := (first | omega | (simp only [SZ]; done) | (simp only [SZ]; omega) | (simp only [TS] at *; omega))) only [RZ, gval, gslot, fillL, ovw, numb, catL, ldN, agL, okC, oneC, init, Nat.reduceAdd, Nat.reduceMul, Nat.reduceSub, Nat.reduceEqDiff, Nat.reduceLT, ↓reduceIte, Int.reduceToNat, Int.reduceAdd, Int.reduceSub, Int.reduceMul, Int.reduceLT, Int.reduceLE, Int.reduceEq, Nat.reduceLeDiff,  v0, v1, v2]
      have hok1 : pk (fitB v.prize && fitB v.count) (.bool (fitB v.pack)) (.bool false) = .bool v.fits := by
        unfold Lvl.fits
        cases fitB v.prize && fitB v.count <;> rfl
      have z1 : (fmtB v.prize).size ≤ 21 := by rw [← bs_len, bs_fmtB]; exact fmtI_len hvr.1
      have z2 : (fmtB v.count).size ≤ 21 := by rw [← bs_len, bs_fmtB]; exact fmtI_len hvr.2.1
      have z3 : (fmtB v.pack).size ≤ 21 := by rw [← bs_len, bs_fmtB]; exact fmtI_len hvr.2.2
      have hJ5 : Below w5.heap.size w5 w5.drew := ⟨rfl, rfl, rfl, Nat.le_refl _, fun _ _ => rfl⟩
      refine Raw_ord (fun w' => Below w5.heap.size w5 w') 18 rfl MX ?_
      refine Ord_reads (τ := ?tj) [0, 1, 2, 3, 7, 8, 12, 13] 10 rfl (by kernel_rfl) (by kernel_rfl) (fun _ _ _ h => h) hJ5 (fun w7 h7 => ?_) ?_; rotate_left
      · have r7 := hro.below h7
        have c0 := r7.cell (i := 0) rfl
        have c1 := r7.cell (i := 1) rfl
        have c2 := r7.cell (i := 2) rfl
        simp only [opsL_cons, opsL_nil, List.getElem?_toArray, List.getElem?_cons_zero, List.getElem?_cons_succ, optL_some]
        simp +contextual (maxSteps := 2000000) (disch := (first | omega | (simp only [SZ]; done) | (simp only [SZ]; omega) | (simp only [TS] at *; omega))) only [RZ, gval, gslot, fillL, ovw, numb, catL, ldN, agL, okC, oneC, init, Nat.reduceAdd, Nat.reduceMul, Nat.reduceSub, Nat.reduceEqDiff, Nat.reduceLT, ↓reduceIte, Int.reduceToNat, Int.reduceAdd, Int.reduceSub, Int.reduceMul, Int.reduceLT, Int.reduceLE, Int.reduceEq, Nat.reduceLeDiff,  f1, f4, f5, c0, c1, c2]
        exact rfl
      refine Ord_one 4 (by kernel_rfl) rfl ?_
      simp +contextual (maxSteps := 2000000) (disch := (first | omega | (simp only [SZ]; done) | (simp only [SZ]; omega) | (simp only [TS] at *; omega))) only [RZ, gval, gslot, fillL, ovw, numb, catL, ldN, agL, okC, oneC, init, Nat.reduceAdd, Nat.reduceMul, Nat.reduceSub, Nat.reduceEqDiff, Nat.reduceLT, ↓reduceIte, Int.reduceToNat, Int.reduceAdd, Int.reduceSub, Int.reduceMul, Int.reduceLT, Int.reduceLE, Int.reduceEq, Nat.reduceLeDiff]
      refine (rformat_any v.prize w5.drew hvr.1).mono ?_
      rintro e w6 ⟨rfl, hB6⟩
      refine ⟨_, rfl, ?_⟩
      have hJ6 := hJ5.trans hB6
      have hz6 := hJ6.size
      refine ⟨hJ6, ?_⟩
      refine Ord_reads (τ := ?tk) [5, 6] 7 rfl (by kernel_rfl) (by kernel_rfl) (fun _ _ _ h => h) hJ6 (fun w7 h7 => ?_) ?_; rotate_left
      · simp only [opsL_cons, opsL_nil, List.getElem?_toArray, List.getElem?_cons_zero, List.getElem?_cons_succ, optL_some]
        simp +contextual (maxSteps := 2000000) (disch := (first | omega | (simp only [SZ]; done) | (simp only [SZ]; omega) | (simp only [TS] at *; omega))) only [RZ, gval, gslot, fillL, ovw, numb, catL, ldN, agL, okC, oneC, init, Nat.reduceAdd, Nat.reduceMul, Nat.reduceSub, Nat.reduceEqDiff, Nat.reduceLT, ↓reduceIte, Int.reduceToNat, Int.reduceAdd, Int.reduceSub, Int.reduceMul, Int.reduceLT, Int.reduceLE, Int.reduceEq, Nat.reduceLeDiff]
        exact rfl
      refine Ord_one 9 (by kernel_rfl) rfl ?_
      simp +contextual (maxSteps := 2000000) (disch := (first | omega | (simp only [SZ]; done) | (simp only [SZ]; omega) | (simp only [TS] at *; omega))) only [RZ, gval, gslot, fillL, ovw, numb, catL, ldN, agL, okC, oneC, init, Nat.reduceAdd, Nat.reduceMul, Nat.reduceSub, Nat.reduceEqDiff, Nat.reduceLT, ↓reduceIte, Int.reduceToNat, Int.reduceAdd, Int.reduceSub, Int.reduceMul, Int.reduceLT, Int.reduceLE, Int.reduceEq, Nat.reduceLeDiff]
      refine (rformat_any v.count w6 hvr.2.1).mono ?_
      rintro e w7 ⟨rfl, hB7⟩
      refine ⟨_, rfl, ?_⟩
      have hJ7 := hJ6.trans (hB7.mono hz6)
      have hz7 := hJ7.size
      refine ⟨hJ7, ?_⟩
      refine Ord_reads (τ := ?tl) [10, 11] 4 rfl (by kernel_rfl) (by kernel_rfl) (fun _ _ _ h => h) hJ7 (fun w7 h7 => ?_) ?_; rotate_left
      · simp only [opsL_cons, opsL_nil, List.getElem?_toArray, List.getElem?_cons_zero, List.getElem?_cons_succ, optL_some]
        simp +contextual (maxSteps := 2000000) (disch := (first | omega | (simp only [SZ]; done) | (simp only [SZ]; omega) | (simp only [TS] at *; omega))) only [RZ, gval, gslot, fillL, ovw, numb, catL, ldN, agL, okC, oneC, init, Nat.reduceAdd, Nat.reduceMul, Nat.reduceSub, Nat.reduceEqDiff, Nat.reduceLT, ↓reduceIte, Int.reduceToNat, Int.reduceAdd, Int.reduceSub, Int.reduceMul, Int.reduceLT, Int.reduceLE, Int.reduceEq, Nat.reduceLeDiff]
        exact rfl
      refine Ord_one 14 (by kernel_rfl) rfl ?_
      simp +contextual (maxSteps := 2000000) (disch := (first | omega | (simp only [SZ]; done) | (simp only [SZ]; omega) | (simp only [TS] at *; omega))) only [RZ, gval, gslot, fillL, ovw, numb, catL, ldN, agL, okC, oneC, init, Nat.reduceAdd, Nat.reduceMul, Nat.reduceSub, Nat.reduceEqDiff, Nat.reduceLT, ↓reduceIte, Int.reduceToNat, Int.reduceAdd, Int.reduceSub, Int.reduceMul, Int.reduceLT, Int.reduceLE, Int.reduceEq, Nat.reduceLeDiff]
      refine (rformat_any v.pack w7 hvr.2.2).mono ?_
      rintro e w8 ⟨rfl, hB8⟩
      refine ⟨_, rfl, ?_⟩
      have hJ8 := hJ7.trans (hB8.mono hz7)
      have hz8 := hJ8.size
      refine ⟨hJ8, ?_⟩
      refine Ord_chainS _ [15, 16, 17] _ _ _ (by kernel_rfl) ?_
      simp only [opsL_cons, opsL_nil, List.getElem?_toArray, List.getElem?_cons_zero, List.getElem?_cons_succ, optL_some]
      simp +contextual (maxSteps := 2000000) (disch := (first | omega | (simp only [SZ]; done) | (simp only [SZ]; omega) | (simp only [TS] at *; omega))) only [RZ, gval, gslot, fillL, ovw, numb, catL, ldN, agL, okC, oneC, init, Nat.reduceAdd, Nat.reduceMul, Nat.reduceSub, Nat.reduceEqDiff, Nat.reduceLT, ↓reduceIte, Int.reduceToNat, Int.reduceAdd, Int.reduceSub, Int.reduceMul, Int.reduceLT, Int.reduceLE, Int.reduceEq, Nat.reduceLeDiff,  EC_op, EC_nil, hJ8]
      simp +contextual (maxSteps := 2000000) (disch := (first | omega | (simp only [SZ]; done) | (simp only [SZ]; omega) | (simp only [TS] at *; omega))) only [RZ, gval, gslot, fillL, ovw, numb, catL, ldN, agL, okC, oneC, init, Nat.reduceAdd, Nat.reduceMul, Nat.reduceSub, Nat.reduceEqDiff, Nat.reduceLT, ↓reduceIte, Int.reduceToNat, Int.reduceAdd, Int.reduceSub, Int.reduceMul, Int.reduceLT, Int.reduceLE, Int.reduceEq, Nat.reduceLeDiff,  f1, f4, f5, hok1]
      have htk : p.levels.take (k + 1) = p.levels.take k ++ [v] := by rw [List.take_add_one, hvk]; rfl
      refine hK _ _ ⟨k + 1, s ++ ByteArray.mk #[112, 114, 105, 122, 101, 32] ++ fmtB v.prize ++ ⟨#[32, 99, 111, 117, 110, 116, 32]⟩ ++ fmtB v.count ++ ⟨#[32, 112, 97, 99, 107, 32]⟩ ++ fmtB v.pack ++ ⟨#[59, 10]⟩, by omega, ?_, ?_, hBl.trans ((hb5.trans (hJ8.mono (by omega))).mono hzl), ?_⟩ ?_
      · rw [bs_lvlB, hs0, htk, List.flatMap_append, List.append_assoc]
        simp
      · simp only [SZ]
        omega
      · rw [htk, List.all_append, ← Bool.and_assoc, hko]
        simp +contextual (maxSteps := 2000000) (disch := (first | omega | (simp only [SZ]; done) | (simp only [SZ]; omega) | (simp only [TS] at *; omega))) only [RZ, gval, gslot, fillL, ovw, numb, catL, ldN, agL, okC, oneC, init, Nat.reduceAdd, Nat.reduceMul, Nat.reduceSub, Nat.reduceEqDiff, Nat.reduceLT, ↓reduceIte, Int.reduceToNat, Int.reduceAdd, Int.reduceSub, Int.reduceMul, Int.reduceLT, Int.reduceLE, Int.reduceEq, Nat.reduceLeDiff,  f1, f4, f5, hok1]
        simp [Lvl.fits]
      · simp +contextual (maxSteps := 2000000) (disch := (first | omega | (simp only [SZ]; done) | (simp only [SZ]; omega) | (simp only [TS] at *; omega))) only [RZ, gval, gslot, fillL, ovw, numb, catL, ldN, agL, okC, oneC, init, Nat.reduceAdd, Nat.reduceMul, Nat.reduceSub, Nat.reduceEqDiff, Nat.reduceLT, ↓reduceIte, Int.reduceToNat, Int.reduceAdd, Int.reduceSub, Int.reduceMul, Int.reduceLT, Int.reduceLE, Int.reduceEq, Nat.reduceLeDiff,  intOf, f5]
        omega
    · have e6 : decide ((k : Int) < p.levels.length) = false := decide_eq_false (by omega)
      simp +contextual (maxSteps := 2000000) (disch := (first | omega | (simp only [SZ]; done) | (simp only [SZ]; omega) | (simp only [TS] at *; omega))) only [RZ, gval, gslot, fillL, ovw, numb, catL, ldN, agL, okC, oneC, init, Nat.reduceAdd, Nat.reduceMul, Nat.reduceSub, Nat.reduceEqDiff, Nat.reduceLT, ↓reduceIte, Int.reduceToNat, Int.reduceAdd, Int.reduceSub, Int.reduceMul, Int.reduceLT, Int.reduceLE, Int.reduceEq, Nat.reduceLeDiff,  f1, f3, f4, f5, a4, e6]
      refine W_if_f rfl ?_
      simp +contextual (maxSteps := 2000000) (disch := (first | omega | (simp only [SZ]; done) | (simp only [SZ]; omega) | (simp only [TS] at *; omega))) only [RZ, gval, gslot, fillL, ovw, numb, catL, ldN, agL, okC, oneC, init, Nat.reduceAdd, Nat.reduceMul, Nat.reduceSub, Nat.reduceEqDiff, Nat.reduceLT, ↓reduceIte, Int.reduceToNat, Int.reduceAdd, Int.reduceSub, Int.reduceMul, Int.reduceLT, Int.reduceLE, Int.reduceEq, Nat.reduceLeDiff,  f1, f3, f4, f5, a4]
      refine W_if_f rfl ?_
      simp +contextual (maxSteps := 2000000) (disch := (first | omega | (simp only [SZ]; done) | (simp only [SZ]; omega) | (simp only [TS] at *; omega))) only [RZ, gval, gslot, fillL, ovw, numb, catL, ldN, agL, okC, oneC, init, Nat.reduceAdd, Nat.reduceMul, Nat.reduceSub, Nat.reduceEqDiff, Nat.reduceLT, ↓reduceIte, Int.reduceToNat, Int.reduceAdd, Int.reduceSub, Int.reduceMul, Int.reduceLT, Int.reduceLE, Int.reduceEq, Nat.reduceLeDiff,  f1, f3, f4, f5, a4]
      have hke : k = p.levels.length := by omega
      rw [printP_yes (by rw [hok, ← hko, hke, List.take_length]), ← hfin hke]
      refine ⟨?_, hB4'.trans (hBl.mono hz4)⟩
      have e7 : bs ⟨#[125, 10]⟩ = asc "}\n" := by kernel_rfl
      rw [app_toBA, e7]
end Go.Proofs.YtcnlopjjejdahaaDoor
/- Walks: the law DeckPrints. -/
namespace Go.Proofs.YtcnlopjjejdahaaDoor
open Go.RowKit
set_option maxRecDepth 100000
theorem deckPrints_any (p : Pl) (A : Option Addr) (c : Nat) (w : World) (hW : Laid w) (hL : Arr w A 3 (p.levels.map encLvl)) (hq : planWf p) :
    Calls Tryd.prog 5 #[planV p A c] w fun e w' => e = .returned (.bool true) ∧ Below w.heap.size w w' := by
  obtain ⟨hs, hl, hr, hrv⟩ := hq
  refine calls_W (l := [_]) Tryd.func5 rfl _ Tryd.ntmps5 (by simp) ?_
  have hpv : planV p A c = .agg #[.string p.name, .int .i64 p.price, .int .i64 p.packs, .int .i64 p.size, .slice A p.levels.length c] := rfl
  rw [hpv]
  have hw5 := hW.size
  simp +contextual (maxSteps := 2000000) (disch := (first | omega | (simp only [SZ]; done) | (simp only [SZ]; omega) | (simp only [TS] at *; omega))) only [RZ, gval, gslot, fillL, ovw, numb, catL, ldN, agL, okC, oneC, init, Nat.reduceAdd, Nat.reduceMul, Nat.reduceSub, Nat.reduceEqDiff, Nat.reduceLT, ↓reduceIte, Int.reduceToNat, Int.reduceAdd, Int.reduceSub, Int.reduceMul, Int.reduceLT, Int.reduceLE, Int.reduceEq, Nat.reduceLeDiff]
  have r0 := Row.new w 24 [.string p.name, .int .i64 p.price, .int .i64 p.packs, .int .i64 p.size, .slice A p.levels.length c]
  replace r0 : Row (w.alloc (.cells #[.string p.name, .int .i64 p.price, .int .i64 p.packs, .int .i64 p.size, .slice A p.levels.length c] 24)) _ _ _ := r0
  have hB := below_alloc w (.cells #[.string p.name, .int .i64 p.price, .int .i64 p.packs, .int .i64 p.size, .slice A p.levels.length c] 24)
  generalize w.alloc (.cells #[.string p.name, .int .i64 p.price, .int .i64 p.packs, .int .i64 p.size, .slice A p.levels.length c] 24) = w1 at *
  have hL1 := hL.below hB
  have hz1 := hB.size
  refine (few_any p A c w1).mono ?_
  rintro e w2 ⟨rfl, hB2⟩
  refine ⟨_, rfl, ?_⟩
  have r0 := r0.below hB2
  have hL2 := hL1.below hB2
  have hF2 := hB.trans (hB2.mono hz1)
  have hz2 := hF2.size
  cases hfew : fewB p with
  | false =>
    simp +contextual (maxSteps := 2000000) (disch := (first | omega | (simp only [SZ]; done) | (simp only [SZ]; omega) | (simp only [TS] at *; omega))) only [RZ, gval, gslot, fillL, ovw, numb, catL, ldN, agL, okC, oneC, init, Nat.reduceAdd, Nat.reduceMul, Nat.reduceSub, Nat.reduceEqDiff, Nat.reduceLT, ↓reduceIte, Int.reduceToNat, Int.reduceAdd, Int.reduceSub, Int.reduceMul, Int.reduceLT, Int.reduceLE, Int.reduceEq, Nat.reduceLeDiff]
    refine W_if_t rfl ?_
    simp +contextual (maxSteps := 2000000) (disch := (first | omega | (simp only [SZ]; done) | (simp only [SZ]; omega) | (simp only [TS] at *; omega))) only [RZ, gval, gslot, fillL, ovw, numb, catL, ldN, agL, okC, oneC, init, Nat.reduceAdd, Nat.reduceMul, Nat.reduceSub, Nat.reduceEqDiff, Nat.reduceLT, ↓reduceIte, Int.reduceToNat, Int.reduceAdd, Int.reduceSub, Int.reduceMul, Int.reduceLT, Int.reduceLE, Int.reduceEq, Nat.reduceLeDiff]
    refine (awake_any w2 (hW.below hF2 hw5)).mono ?_
    rintro e wz ⟨rfl, hBz⟩
    refine ⟨_, rfl, ?_⟩
    simp +contextual (maxSteps := 2000000) (disch := (first | omega | (simp only [SZ]; done) | (simp only [SZ]; omega) | (simp only [TS] at *; omega))) only [RZ, gval, gslot, fillL, ovw, numb, catL, ldN, agL, okC, oneC, init, Nat.reduceAdd, Nat.reduceMul, Nat.reduceSub, Nat.reduceEqDiff, Nat.reduceLT, ↓reduceIte, Int.reduceToNat, Int.reduceAdd, Int.reduceSub, Int.reduceMul, Int.reduceLT, Int.reduceLE, Int.reduceEq, Nat.reduceLeDiff]
    exact hF2.trans (hBz.mono hz2)
  | true =>
  unfold fewB at hfew
  simp only [Bool.and_eq_true, decide_eq_true_eq] at hfew
  simp +contextual (maxSteps := 2000000) (disch := (first | omega | (simp only [SZ]; done) | (simp only [SZ]; omega) | (simp only [TS] at *; omega))) only [RZ, gval, gslot, fillL, ovw, numb, catL, ldN, agL, okC, oneC, init, Nat.reduceAdd, Nat.reduceMul, Nat.reduceSub, Nat.reduceEqDiff, Nat.reduceLT, ↓reduceIte, Int.reduceToNat, Int.reduceAdd, Int.reduceSub, Int.reduceMul, Int.reduceLT, Int.reduceLE, Int.reduceEq, Nat.reduceLeDiff]
  refine W_if_f rfl ?_
  have a0 := r0.cell (i := 0) rfl
  have a1 := r0.cell (i := 1) rfl
  have a2 := r0.cell (i := 2) rfl
  have a3 := r0.cell (i := 3) rfl
  have a4 := r0.cell (i := 4) rfl
  simp +contextual (maxSteps := 2000000) (disch := (first | omega | (simp only [SZ]; done) | (simp only [SZ]; omega) | (simp only [TS] at *; omega))) only [RZ, gval, gslot, fillL, ovw, numb, catL, ldN, agL, okC, oneC, init, Nat.reduceAdd, Nat.reduceMul, Nat.reduceSub, Nat.reduceEqDiff, Nat.reduceLT, ↓reduceIte, Int.reduceToNat, Int.reduceAdd, Int.reduceSub, Int.reduceMul, Int.reduceLT, Int.reduceLE, Int.reduceEq, Nat.reduceLeDiff]
  have hdw : Below w2.heap.size w2 w2.drew := ⟨rfl, rfl, rfl, Nat.le_refl _, fun _ _ => rfl⟩
  refine Raw_rcS (τ := ?ta) (fun w' => Below w2.heap.size w2 w') [0, 2] [1, 3, 4, 5, 6, 7, 8] MX rfl (by kernel_rfl) (by kernel_rfl) (by kernel_rfl) (fun _ _ _ h => h) hdw (fun w8 h8 => ?_) ?_; rotate_left
  · have r8 := r0.below h8
    have c0 := r8.cell (i := 0) rfl
    have c1 := r8.cell (i := 1) rfl
    have c2 := r8.cell (i := 2) rfl
    have c3 := r8.cell (i := 3) rfl
    have c4 := r8.cell (i := 4) rfl
    simp only [opsL_cons, opsL_nil, List.getElem?_toArray, List.getElem?_cons_zero, List.getElem?_cons_succ, optL_some]
    simp +contextual (maxSteps := 2000000) (disch := (first | omega | (simp only [SZ]; done) | (simp only [SZ]; omega) | (simp only [TS] at *; omega))) only [RZ, gval, gslot, fillL, ovw, numb, catL, ldN, agL, okC, oneC, init, Nat.reduceAdd, Nat.reduceMul, Nat.reduceSub, Nat.reduceEqDiff, Nat.reduceLT, ↓reduceIte, Int.reduceToNat, Int.reduceAdd, Int.reduceSub, Int.reduceMul, Int.reduceLT, Int.reduceLE, Int.reduceEq, Nat.reduceLeDiff,  c0, c1, c2, c3, c4]
    exact rfl
  simp only [opsL_cons, opsL_nil, List.getElem?_toArray, List.getElem?_cons_zero, List.getElem?_cons_succ, optL_some]
  simp +contextual (maxSteps := 2000000) (disch := (first | omega | (simp only [SZ]; done) | (simp only [SZ]; omega) | (simp only [TS] at *; omega))) only [RZ, gval, gslot, fillL, ovw, numb, catL, ldN, agL, okC, oneC, init, Nat.reduceAdd, Nat.reduceMul, Nat.reduceSub, Nat.reduceEqDiff, Nat.reduceLT, ↓reduceIte, Int.reduceToNat, Int.reduceAdd, Int.reduceSub, Int.reduceMul, Int.reduceLT, Int.reduceLE, Int.reduceEq, Nat.reduceLeDiff,  EC_op, EC_nil]
  have hF2d := hF2.trans (hdw.mono hz2)
  refine (print_any p A c w2.drew (hW.below hF2d hw5) hfew.2 hfew.1 (hL2.below hdw) ⟨hr, hrv⟩).mono ?_
  rintro e w3 ⟨rfl, hB3⟩
  refine ⟨_, rfl, ?_⟩
  have hB3 := hdw.trans hB3
  have hz3 := hB3.size
  refine ⟨hB3, ?_⟩
  simp +contextual (maxSteps := 2000000) (disch := (first | omega | (simp only [SZ]; done) | (simp only [SZ]; omega) | (simp only [TS] at *; omega))) only [RZ, gval, gslot, fillL, ovw, numb, catL, ldN, agL, okC, oneC, init, Nat.reduceAdd, Nat.reduceMul, Nat.reduceSub, Nat.reduceEqDiff, Nat.reduceLT, ↓reduceIte, Int.reduceToNat, Int.reduceAdd, Int.reduceSub, Int.reduceMul, Int.reduceLT, Int.reduceLE, Int.reduceEq, Nat.reduceLeDiff,  EC_op, EC_opg, EC_nil]
  refine (rprint_any p A c w3 hfew.2 hfew.1 (hL2.below hB3) ⟨hr, hrv⟩).mono ?_
  rintro e w4 ⟨rfl, hB4⟩
  refine ⟨_, rfl, ?_⟩
  have hB4 := hB3.trans (hB4.mono hz3)
  have hF4 := hF2.trans (hB4.mono hz2)
  have hz4 := hB4.size
  refine ⟨hB4, ?_⟩
  simp +contextual (maxSteps := 2000000) (disch := (first | omega | (simp only [SZ]; done) | (simp only [SZ]; omega) | (simp only [TS] at *; omega))) only [RZ, gval, gslot, fillL, ovw, numb, catL, ldN, agL, okC, oneC, init, Nat.reduceAdd, Nat.reduceMul, Nat.reduceSub, Nat.reduceEqDiff, Nat.reduceLT, ↓reduceIte, Int.reduceToNat, Int.reduceAdd, Int.reduceSub, Int.reduceMul, Int.reduceLT, Int.reduceLE, Int.reduceEq, Nat.reduceLeDiff,  EC_op, EC_opg, EC_nil, hB4]
  refine (awake_any w4 (hW.below hF4 hw5)).mono ?_
  rintro e w5 ⟨rfl, hB5⟩
  refine ⟨_, rfl, ?_⟩
  have hB5 := hB4.trans (hB5.mono hz4)
  refine ⟨hB5, ?_⟩
  simp +contextual (maxSteps := 2000000) (disch := (first | omega | (simp only [SZ]; done) | (simp only [SZ]; omega) | (simp only [TS] at *; omega))) only [RZ, gval, gslot, fillL, ovw, numb, catL, ldN, agL, okC, oneC, init, Nat.reduceAdd, Nat.reduceMul, Nat.reduceSub, Nat.reduceEqDiff, Nat.reduceLT, ↓reduceIte, Int.reduceToNat, Int.reduceAdd, Int.reduceSub, Int.reduceMul, Int.reduceLT, Int.reduceLE, Int.reduceEq, Nat.reduceLeDiff,  EC_op, EC_opg, EC_nil, hB5]
  exact hF2.trans (hB5.mono hz2)
end Go.Proofs.YtcnlopjjejdahaaDoor
/- What the row says of the listed variables, as the walks ask it; the witness's world. -/
namespace Go.Proofs.YtcnlopjjejdahaaDoor
open Go.ChangeShapes Go.WideShapes Go.ChangeAt Go.WideMaps Go.WideElems Go.RowKit Go.Joins Go.Deep
set_option maxRecDepth 100000
def laidL : List (String × DataW Unit) := Rows.deckChecksRow.laid
theorem laid_of {W : World} (h : laidMetH Tryd.prog laidL W) : Laid W := by
  rw [MakeChecks.laidMetH_plain _ _ _ (by kernel_rfl)] at h
  obtain ⟨ps, hv, _⟩ := h
  obtain ⟨g0, t0, cs0, f0, p0, q0, hg0, ht0, hv0, hd0, hr0, _⟩ := hv
  obtain ⟨g1, t1, cs1, f1, p1, q1, hg1, ht1, hv1, hd1, hr1, _⟩ := hr0
  obtain ⟨g2, t2, cs2, f2, p2, q2, hg2, ht2, hv2, hd2, hr2, _⟩ := hr1
  obtain ⟨g3, t3, cs3, f3, p3, q3, hg3, ht3, hv3, hd3, hr3, _⟩ := hr2
  obtain rfl := Option.some.inj ((show Tryd.prog.globalNamed "lottery/digest.hexDigits" = some 0 by kernel_rfl).symm.trans hg0)
  obtain rfl := Option.some.inj ((show Tryd.prog.globalNamed "math/bits.deBruijn64tab" = some 4 by kernel_rfl).symm.trans hg2)
  obtain rfl := Option.some.inj ((show Tryd.prog.globalNamed "internal/strconv.uint64pow10" = some 2 by kernel_rfl).symm.trans hg3)
  obtain rfl := Option.some.inj ((show (Tryd.prog.globals[0]?).map (·.type) = some 95 by kernel_rfl).symm.trans ht0)
  obtain rfl := Option.some.inj ((show (Tryd.prog.globals[2]?).map (·.type) = some 135 by kernel_rfl).symm.trans ht3)
  refine ⟨?_, fun i hi => ?_, ?_⟩
  · have : W.heap[4]?.isSome = true := by
      unfold World.var? at hv2
      rw [hg2] at hv2
      simp only [Option.bind_some] at hv2
      cases hh : W.heap[4]? with
      | none => rw [hh] at hv2; simp at hv2
      | some o => rfl
    obtain ⟨o, ho⟩ := Option.isSome_iff_exists.1 this
    exact (Array.getElem?_eq_some_iff.1 ho).1
  · have hc := Lib.cells_of_tab (k := .u8) (zs := (List.range 16).map fun i => (hexd i : Int)) Tryd.underlying95 Tryd.underlying5 (by kernel_rfl) (by kernel_rfl) (show DataW.trod _ _ _ _ _ _ _ _ _ = some (Lib.tabData .u8 ((List.range 16).map fun i => (hexd i : Int)), p0) from hd0)
    rw [World.var?_cell hg0 hv0 i, ← Array.getElem?_toList, hc, List.getElem?_map, List.getElem?_map, List.getElem?_range hi]
    rfl
  · have hc := Lib.cells_of_tab (k := .u64) (zs := Lib.pow10Tab) Tryd.underlying135 Tryd.underlying36 (by kernel_rfl) (by kernel_rfl) (show DataW.trod _ _ _ _ _ _ _ _ _ = some (Lib.tabData .u64 Lib.pow10Tab, p3) from hd3)
    unfold Lib.TabIs
    rw [hv3, ← hc]
/-- The door's own heap meets the condition. -/
theorem door_met (os : Os) (args : Array Value) : laidMetH Tryd.prog laidL ((World.doorLaid Tryd.prog 4000 os).forCall (fun _ _ => 0) ⟨#[], args, []⟩).memory :=
  laidMetH_of_parts3 (fuel := 8) (laidMet_of_run' 8 (by kernel_rfl) (by kernel_rfl)) (by kernel_rfl) (by kernel_rfl)
end Go.Proofs.YtcnlopjjejdahaaDoor
