/- Texts laid one behind the other: DgA, DgB, Ord3, DgC. Each says at its head what it proves. -/
import Derived.Test.YtcnlopjjejdahaaDoorY07
set_option linter.unusedSimpArgs false
/- Walks: digest.Mix, unshift, inverse, Unmix. -/
namespace Go.Proofs.YtcnlopjjejdahaaDoor
open Go.RowKit
set_option maxRecDepth 100000
theorem mod_bd (a : Int) : 0 ≤ a % 18446744073709551616 ∧ a % 18446744073709551616 ≤ 18446744073709551615 := by omega
theorem xorI_sh {a b : Int} (_h0 : 0 ≤ a) (h1 : a ≤ 18446744073709551615) (h2 : b ≤ 18446744073709551615) : 0 ≤ xorI a b ∧ xorI a b ≤ 18446744073709551615 := ⟨xorI_nonneg _ _, xorI_le h1 h2⟩
theorem mix_any (x : Int) (w : World) (h0 : 0 ≤ x) (h1 : x ≤ 18446744073709551615) : Calls Tryd.prog 28 #[.int .u64 x] w fun e w' => e = .returned (.int .u64 (mixI x)) ∧ w = w' := by
  refine calls_W (l := [_]) Tryd.func28 rfl _ Tryd.ntmps28 (by simp) ?_
  have a1 := xorI_sh (b := x / 1073741824) h0 h1 (by omega)
  have a2 := mod_bd (xorI x (x / 1073741824) * 13787848793156543929)
  have a3 := xorI_sh (b := (xorI x (x / 1073741824) * 13787848793156543929 % 18446744073709551616) / 134217728) a2.1 a2.2 (by omega)
  have a4 := mod_bd (xorI (xorI x (x / 1073741824) * 13787848793156543929 % 18446744073709551616) ((xorI x (x / 1073741824) * 13787848793156543929 % 18446744073709551616) / 134217728) * 10723151780598845931)
  simp +contextual (maxSteps := 2000000) (disch := (first | omega | (simp only [SZ]; done) | (simp only [SZ]; omega) | (simp only [TS] at *; omega))) only [RZ, gval, gslot, fillL, ovw, numb, catL, ldN, agL, okC, oneC, init, Nat.reduceAdd, Nat.reduceMul, Nat.reduceSub, Nat.reduceEqDiff, Nat.reduceLT, ↓reduceIte, Int.reduceToNat, Int.reduceAdd, Int.reduceSub, Int.reduceMul, Int.reduceLT, Int.reduceLE, Int.reduceEq, Nat.reduceLeDiff,  vBin_xorU, vBin_mulW, Int.reducePow, a1, a2, a3, a4]
  unfold mixI mixB mixA
  rfl
def unF (y : Int) (n : Nat) : Nat → Int
  | 0 => y
  | k + 1 => xorI y (unF y n k / 2 ^ n)
theorem unshift_any (y : Int) (n : Nat) (w : World) (h0 : 0 ≤ y) (h1 : y ≤ 18446744073709551615) (hn : 22 ≤ n) (hn2 : n ≤ 31) : Calls Tryd.prog 62 #[.int .u64 y, .int .u64 n] w fun e w' => e = .returned (.int .u64 (unshI y n)) ∧ w = w' := by
  refine calls_W (l := [_, _]) Tryd.func62 rfl _ Tryd.ntmps62 (by simp) ?_
  simp +contextual (maxSteps := 2000000) (disch := (first | omega | (simp only [SZ]; done) | (simp only [SZ]; omega) | (simp only [TS] at *; omega))) only [RZ, gval, gslot, fillL, ovw, numb, catL, ldN, agL, okC, oneC, init, Nat.reduceAdd, Nat.reduceMul, Nat.reduceSub, Nat.reduceEqDiff, Nat.reduceLT, ↓reduceIte, Int.reduceToNat, Int.reduceAdd, Int.reduceSub, Int.reduceMul, Int.reduceLT, Int.reduceLE, Int.reduceEq, Nat.reduceLeDiff]
  refine Raw_loop (fun σ w2 => w2 = w ∧ ∃ k : Nat, k ≤ 2 ∧ (0 ≤ unF y n k ∧ unF y n k ≤ 18446744073709551615) ∧ σ 0 = .int .u64 y ∧ σ 1 = .int .u64 n ∧ σ 5 = .int .u64 (unF y n k) ∧ σ 6 = .int .u64 (n * (k + 1) : Nat)) (fun σ _ => 200 - (intOf (σ 6)).toNat) ?_ ?_
  · simp +contextual (maxSteps := 2000000) (disch := (first | omega | (simp only [SZ]; done) | (simp only [SZ]; omega) | (simp only [TS] at *; omega))) only [RZ, gval, gslot, fillL, ovw, numb, catL, ldN, agL, okC, oneC, init, Nat.reduceAdd, Nat.reduceMul, Nat.reduceSub, Nat.reduceEqDiff, Nat.reduceLT, ↓reduceIte, Int.reduceToNat, Int.reduceAdd, Int.reduceSub, Int.reduceMul, Int.reduceLT, Int.reduceLE, Int.reduceEq, Nat.reduceLeDiff]
    exact ⟨0, by omega, ⟨h0, h1⟩, by rw [unF], by rw [Nat.zero_add, Nat.mul_one]⟩
  rintro σ w2 ⟨rfl, k, hk, hb, f0, f1, f5, f6⟩ K hK
  have hm : n * (k + 1) = n * k + n := Nat.mul_succ n k
  have hx : 0 ≤ unF y n k / 2 ^ n ∧ unF y n k / 2 ^ n ≤ 18446744073709551615 := ⟨Int.ediv_nonneg hb.1 (Int.le_of_lt (Int.pow_pos (by decide))), Int.le_trans (Int.ediv_le_self _ hb.1) hb.2⟩
  have hy := xorI_sh h0 h1 hx.2
  have hk2 : n * k + n < 64 ↔ k ≤ 1 := by
    rcases (show k = 0 ∨ k = 1 ∨ k = 2 by omega) with rfl | rfl | rfl <;> omega
  have hk3 : n * k ≤ 62 := by
    rcases (show k = 0 ∨ k = 1 ∨ k = 2 by omega) with rfl | rfl | rfl <;> omega
  simp +contextual (maxSteps := 2000000) (disch := (first | omega | (simp only [SZ]; done) | (simp only [SZ]; omega) | (simp only [TS] at *; omega))) only [RZ, gval, gslot, fillL, ovw, numb, catL, ldN, agL, okC, oneC, init, Nat.reduceAdd, Nat.reduceMul, Nat.reduceSub, Nat.reduceEqDiff, Nat.reduceLT, ↓reduceIte, Int.reduceToNat, Int.reduceAdd, Int.reduceSub, Int.reduceMul, Int.reduceLT, Int.reduceLE, Int.reduceEq, Nat.reduceLeDiff,  f0, f1, f5, f6]
  (refine W_if rfl (fun hc => ?_) (fun hc => ?_) <;> (try simp only [TS] at hc))
  · simp +contextual (maxSteps := 2000000) (disch := (first | omega | (simp only [SZ]; done) | (simp only [SZ]; omega) | (simp only [TS] at *; omega))) only [RZ, gval, gslot, fillL, ovw, numb, catL, ldN, agL, okC, oneC, init, Nat.reduceAdd, Nat.reduceMul, Nat.reduceSub, Nat.reduceEqDiff, Nat.reduceLT, ↓reduceIte, Int.reduceToNat, Int.reduceAdd, Int.reduceSub, Int.reduceMul, Int.reduceLT, Int.reduceLE, Int.reduceEq, Nat.reduceLeDiff,  f0, f1, f5, f6, vBin_xorU, Int.toNat_natCast]
    refine hK _ _ ⟨rfl, k + 1, by omega, hy, ?_⟩ ?_
    · simp +contextual (maxSteps := 2000000) (disch := (first | omega | (simp only [SZ]; done) | (simp only [SZ]; omega) | (simp only [TS] at *; omega))) only [RZ, gval, gslot, fillL, ovw, numb, catL, ldN, agL, okC, oneC, init, Nat.reduceAdd, Nat.reduceMul, Nat.reduceSub, Nat.reduceEqDiff, Nat.reduceLT, ↓reduceIte, Int.reduceToNat, Int.reduceAdd, Int.reduceSub, Int.reduceMul, Int.reduceLT, Int.reduceLE, Int.reduceEq, Nat.reduceLeDiff,  f0, f1, f5, f6, Int.toNat_natCast]
      rw [Nat.mul_succ n (k + 1)]
      exact ⟨rfl, by rw [Int.natCast_add]⟩
    · simp +contextual (maxSteps := 2000000) (disch := (first | omega | (simp only [SZ]; done) | (simp only [SZ]; omega) | (simp only [TS] at *; omega))) only [RZ, gval, gslot, fillL, ovw, numb, catL, ldN, agL, okC, oneC, init, Nat.reduceAdd, Nat.reduceMul, Nat.reduceSub, Nat.reduceEqDiff, Nat.reduceLT, ↓reduceIte, Int.reduceToNat, Int.reduceAdd, Int.reduceSub, Int.reduceMul, Int.reduceLT, Int.reduceLE, Int.reduceEq, Nat.reduceLeDiff,  intOf, f1, f6]
      omega
  · simp +contextual (maxSteps := 2000000) (disch := (first | omega | (simp only [SZ]; done) | (simp only [SZ]; omega) | (simp only [TS] at *; omega))) only [RZ, gval, gslot, fillL, ovw, numb, catL, ldN, agL, okC, oneC, init, Nat.reduceAdd, Nat.reduceMul, Nat.reduceSub, Nat.reduceEqDiff, Nat.reduceLT, ↓reduceIte, Int.reduceToNat, Int.reduceAdd, Int.reduceSub, Int.reduceMul, Int.reduceLT, Int.reduceLE, Int.reduceEq, Nat.reduceLeDiff,  f0, f1, f5, f6]
    have : k = 2 := by omega
    subst this
    rfl
theorem inverse_any (m : Int) (w : World) (h0 : 0 ≤ m) (h1 : m ≤ 18446744073709551615) : Calls Tryd.prog 63 #[.int .u64 m] w fun e w' => e = .returned (.int .u64 (invI m)) ∧ w = w' := by
  refine calls_W (l := [_]) Tryd.func63 rfl _ Tryd.ntmps63 (by simp) ?_
  simp +contextual (maxSteps := 2000000) (disch := (first | omega | (simp only [SZ]; done) | (simp only [SZ]; omega) | (simp only [TS] at *; omega))) only [RZ, gval, gslot, fillL, ovw, numb, catL, ldN, agL, okC, oneC, init, Nat.reduceAdd, Nat.reduceMul, Nat.reduceSub, Nat.reduceEqDiff, Nat.reduceLT, ↓reduceIte, Int.reduceToNat, Int.reduceAdd, Int.reduceSub, Int.reduceMul, Int.reduceLT, Int.reduceLE, Int.reduceEq, Nat.reduceLeDiff]
  refine Raw_loop (fun σ w2 => w2 = w ∧ ∃ (k : Nat) (x : Int), k ≤ 5 ∧ invF m (5 - k) x = invI m ∧ (0 ≤ x ∧ x ≤ 18446744073709551615) ∧ σ 0 = .int .u64 m ∧ σ 3 = .int .u64 x ∧ σ 5 = .int .i64 k) (fun σ _ => 5 - (intOf (σ 5)).toNat) ?_ ?_
  · simp +contextual (maxSteps := 2000000) (disch := (first | omega | (simp only [SZ]; done) | (simp only [SZ]; omega) | (simp only [TS] at *; omega))) only [RZ, gval, gslot, fillL, ovw, numb, catL, ldN, agL, okC, oneC, init, Nat.reduceAdd, Nat.reduceMul, Nat.reduceSub, Nat.reduceEqDiff, Nat.reduceLT, ↓reduceIte, Int.reduceToNat, Int.reduceAdd, Int.reduceSub, Int.reduceMul, Int.reduceLT, Int.reduceLE, Int.reduceEq, Nat.reduceLeDiff]
    exact ⟨0, m, by omega, rfl, ⟨h0, h1⟩, rfl, rfl⟩
  rintro σ w2 ⟨rfl, k, x, hk, hi, hb, f0, f3, f5⟩ K hK
  simp +contextual (maxSteps := 2000000) (disch := (first | omega | (simp only [SZ]; done) | (simp only [SZ]; omega) | (simp only [TS] at *; omega))) only [RZ, gval, gslot, fillL, ovw, numb, catL, ldN, agL, okC, oneC, init, Nat.reduceAdd, Nat.reduceMul, Nat.reduceSub, Nat.reduceEqDiff, Nat.reduceLT, ↓reduceIte, Int.reduceToNat, Int.reduceAdd, Int.reduceSub, Int.reduceMul, Int.reduceLT, Int.reduceLE, Int.reduceEq, Nat.reduceLeDiff,  f0, f3, f5]
  (refine W_if rfl (fun hc => ?_) (fun hc => ?_) <;> (try simp only [TS] at hc))
  · simp +contextual (maxSteps := 2000000) (disch := (first | omega | (simp only [SZ]; done) | (simp only [SZ]; omega) | (simp only [TS] at *; omega))) only [RZ, gval, gslot, fillL, ovw, numb, catL, ldN, agL, okC, oneC, init, Nat.reduceAdd, Nat.reduceMul, Nat.reduceSub, Nat.reduceEqDiff, Nat.reduceLT, ↓reduceIte, Int.reduceToNat, Int.reduceAdd, Int.reduceSub, Int.reduceMul, Int.reduceLT, Int.reduceLE, Int.reduceEq, Nat.reduceLeDiff,  f0, f3, f5, vBin_mulW, vBin_subW]
    refine hK _ _ ⟨rfl, k + 1, stpI m x, by omega, ?_, mod_bd _, ?_⟩ ?_
    · rw [show 5 - k = (5 - (k + 1)) + 1 by omega, invF] at hi
      exact hi
    · simp +contextual (maxSteps := 2000000) (disch := (first | omega | (simp only [SZ]; done) | (simp only [SZ]; omega) | (simp only [TS] at *; omega))) only [RZ, gval, gslot, fillL, ovw, numb, catL, ldN, agL, okC, oneC, init, Nat.reduceAdd, Nat.reduceMul, Nat.reduceSub, Nat.reduceEqDiff, Nat.reduceLT, ↓reduceIte, Int.reduceToNat, Int.reduceAdd, Int.reduceSub, Int.reduceMul, Int.reduceLT, Int.reduceLE, Int.reduceEq, Nat.reduceLeDiff,  f0, f3, f5, vBin_mulW, vBin_subW]
      rfl
    · simp +contextual (maxSteps := 2000000) (disch := (first | omega | (simp only [SZ]; done) | (simp only [SZ]; omega) | (simp only [TS] at *; omega))) only [RZ, gval, gslot, fillL, ovw, numb, catL, ldN, agL, okC, oneC, init, Nat.reduceAdd, Nat.reduceMul, Nat.reduceSub, Nat.reduceEqDiff, Nat.reduceLT, ↓reduceIte, Int.reduceToNat, Int.reduceAdd, Int.reduceSub, Int.reduceMul, Int.reduceLT, Int.reduceLE, Int.reduceEq, Nat.reduceLeDiff,  intOf, f5]
      omega
  · simp +contextual (maxSteps := 2000000) (disch := (first | omega | (simp only [SZ]; done) | (simp only [SZ]; omega) | (simp only [TS] at *; omega))) only [RZ, gval, gslot, fillL, ovw, numb, catL, ldN, agL, okC, oneC, init, Nat.reduceAdd, Nat.reduceMul, Nat.reduceSub, Nat.reduceEqDiff, Nat.reduceLT, ↓reduceIte, Int.reduceToNat, Int.reduceAdd, Int.reduceSub, Int.reduceMul, Int.reduceLT, Int.reduceLE, Int.reduceEq, Nat.reduceLeDiff,  f0, f3, f5]
    rw [show 5 - k = 0 by omega, invF] at hi
    rw [hi]
theorem unmix_any (y : Int) (w : World) (h0 : 0 ≤ y) (h1 : y ≤ 18446744073709551615) : Calls Tryd.prog 30 #[.int .u64 y] w fun e w' => e = .returned (.int .u64 (unmixI y)) ∧ w = w' := by
  refine calls_W (l := [_]) Tryd.func30 rfl _ Tryd.ntmps30 (by simp) ?_
  have u1 := xorI_sh (b := xorI y (y / 2 ^ 31) / 2 ^ 31) h0 h1 (by
    have := xorI_sh (b := y / 2 ^ 31) h0 h1 (by omega)
    omega)
  have e1 : unshI y 31 = xorI y (xorI y (y / 2 ^ 31) / 2 ^ 31) := rfl
  rw [← e1] at u1
  have m1 := mod_bd (unshI y 31 * invI 10723151780598845931)
  have u2 : 0 ≤ unshI (unmixA y) 27 ∧ unshI (unmixA y) 27 ≤ 18446744073709551615 := by
    have ma : 0 ≤ unmixA y ∧ unmixA y ≤ 18446744073709551615 := m1
    have := xorI_sh (b := unmixA y / 2 ^ 27) ma.1 ma.2 (by omega)
    exact xorI_sh ma.1 ma.2 (by omega)
  have m2 : 0 ≤ unmixB y ∧ unmixB y ≤ 18446744073709551615 := mod_bd _
  have ma : 0 ≤ unmixA y ∧ unmixA y ≤ 18446744073709551615 := m1
  simp +contextual (maxSteps := 2000000) (disch := (first | omega | (simp only [SZ]; done) | (simp only [SZ]; omega) | (simp only [TS] at *; omega))) only [RZ, gval, gslot, fillL, ovw, numb, catL, ldN, agL, okC, oneC, init, Nat.reduceAdd, Nat.reduceMul, Nat.reduceSub, Nat.reduceEqDiff, Nat.reduceLT, ↓reduceIte, Int.reduceToNat, Int.reduceAdd, Int.reduceSub, Int.reduceMul, Int.reduceLT, Int.reduceLE, Int.reduceEq, Nat.reduceLeDiff]
  refine (unshift_any y 31 _ h0 h1 (by decide) (by decide)).mono ?_
  rintro e w1 ⟨rfl, rfl⟩
  refine ⟨_, rfl, ?_⟩
  simp +contextual (maxSteps := 2000000) (disch := (first | omega | (simp only [SZ]; done) | (simp only [SZ]; omega) | (simp only [TS] at *; omega))) only [RZ, gval, gslot, fillL, ovw, numb, catL, ldN, agL, okC, oneC, init, Nat.reduceAdd, Nat.reduceMul, Nat.reduceSub, Nat.reduceEqDiff, Nat.reduceLT, ↓reduceIte, Int.reduceToNat, Int.reduceAdd, Int.reduceSub, Int.reduceMul, Int.reduceLT, Int.reduceLE, Int.reduceEq, Nat.reduceLeDiff]
  refine (inverse_any _ _ (by decide) (by decide)).mono ?_
  rintro e w1 ⟨rfl, rfl⟩
  refine ⟨_, rfl, ?_⟩
  simp +contextual (maxSteps := 2000000) (disch := (first | omega | (simp only [SZ]; done) | (simp only [SZ]; omega) | (simp only [TS] at *; omega))) only [RZ, gval, gslot, fillL, ovw, numb, catL, ldN, agL, okC, oneC, init, Nat.reduceAdd, Nat.reduceMul, Nat.reduceSub, Nat.reduceEqDiff, Nat.reduceLT, ↓reduceIte, Int.reduceToNat, Int.reduceAdd, Int.reduceSub, Int.reduceMul, Int.reduceLT, Int.reduceLE, Int.reduceEq, Nat.reduceLeDiff,  vBin_mulW]
  refine (unshift_any (unmixA y) 27 _ ma.1 ma.2 (by decide) (by decide)).mono ?_
  rintro e w1 ⟨rfl, rfl⟩
  refine ⟨_, rfl, ?_⟩
  simp +contextual (maxSteps := 2000000) (disch := (first | omega | (simp only [SZ]; done) | (simp only [SZ]; omega) | (simp only [TS] at *; omega))) only [RZ, gval, gslot, fillL, ovw, numb, catL, ldN, agL, okC, oneC, init, Nat.reduceAdd, Nat.reduceMul, Nat.reduceSub, Nat.reduceEqDiff, Nat.reduceLT, ↓reduceIte, Int.reduceToNat, Int.reduceAdd, Int.reduceSub, Int.reduceMul, Int.reduceLT, Int.reduceLE, Int.reduceEq, Nat.reduceLeDiff]
  refine (inverse_any _ _ (by decide) (by decide)).mono ?_
  rintro e w1 ⟨rfl, rfl⟩
  refine ⟨_, rfl, ?_⟩
  simp +contextual (maxSteps := 2000000) (disch := (first | omega | (simp only [SZ]; done) | (simp only [SZ]; omega) | (simp only [TS] at *; omega))) only [RZ, gval, gslot, fillL, ovw, numb, catL, ldN, agL, okC, oneC, init, Nat.reduceAdd, Nat.reduceMul, Nat.reduceSub, Nat.reduceEqDiff, Nat.reduceLT, ↓reduceIte, Int.reduceToNat, Int.reduceAdd, Int.reduceSub, Int.reduceMul, Int.reduceLT, Int.reduceLE, Int.reduceEq, Nat.reduceLeDiff,  vBin_mulW]
  refine (unshift_any (unmixB y) 30 _ m2.1 m2.2 (by decide) (by decide)).mono ?_
  rintro e w1 ⟨rfl, rfl⟩
  refine ⟨_, rfl, ?_⟩
  simp +contextual (maxSteps := 2000000) (disch := (first | omega | (simp only [SZ]; done) | (simp only [SZ]; omega) | (simp only [TS] at *; omega))) only [RZ, gval, gslot, fillL, ovw, numb, catL, ldN, agL, okC, oneC, init, Nat.reduceAdd, Nat.reduceMul, Nat.reduceSub, Nat.reduceEqDiff, Nat.reduceLT, ↓reduceIte, Int.reduceToNat, Int.reduceAdd, Int.reduceSub, Int.reduceMul, Int.reduceLT, Int.reduceLE, Int.reduceEq, Nat.reduceLeDiff]
  rfl
end Go.Proofs.YtcnlopjjejdahaaDoor
/- Walks: the stream: New, Next, Below, ascending. -/
namespace Go.Proofs.YtcnlopjjejdahaaDoor
open Go.RowKit
set_option maxRecDepth 100000
theorem vBin_addIw {P : Program} {T : TypeId} {x y : Operand} {a b : Int} {w : World} : vBin P .add T x y (.int .i64 a) (.int .i64 b) w = .ok (.value (.int .i64 (IntKind.i64.wrap (a + b)))) w := by
  simp [vBin, eqGuard, binOp, Op.intArith]
/-- A stream: its state; how often it was used does not matter. -/
def StrIn (w : World) (g : Nat) (st : Int) : Prop := (0 ≤ st ∧ st ≤ 18446744073709551615) ∧ ∃ u : Int, Row w g 110 [.int .u64 st, .int .i64 u]
theorem StrIn.only {lo hi g : Nat} {w w' : World} {st : Int} (h : StrIn w g st) (ho : Only lo hi w w') (hr : g < lo ∨ hi ≤ g) : StrIn w' g st := by
  obtain ⟨hb, u, hR⟩ := h
  exact ⟨hb, u, hR.only ho hr⟩
theorem StrIn.below {g : Nat} {w w' : World} {st : Int} (h : StrIn w g st) (ho : Below w.heap.size w w') : StrIn w' g st := by
  obtain ⟨hb, u, hR⟩ := h
  exact ⟨hb, u, hR.below ho⟩
theorem StrIn.lt {g : Nat} {w : World} {st : Int} (h : StrIn w g st) : g < w.heap.size := by
  obtain ⟨_, u, hR⟩ := h
  exact hR.lt
theorem nxtI_bd (st : Int) : 0 ≤ nxtI st ∧ nxtI st ≤ 18446744073709551615 := mod_bd _
theorem streamNew_any (st : Int) (w : World) (h0 : 0 ≤ st) (h1 : st ≤ 18446744073709551615) : Calls Tryd.prog 52 #[.int .u64 st] w fun e w' => e = .returned (.pointer (some ⟨w.heap.size, 0, none⟩)) ∧ StrIn w' w.heap.size st ∧ Below w.heap.size w w' ∧ w'.heap.size = w.heap.size + 1 := by
  refine calls_W (l := [_]) Tryd.func52 rfl _ Tryd.ntmps52 (by simp) ?_
  simp +contextual (maxSteps := 2000000) (disch := (first | omega | (simp only [SZ]; done) | (simp only [SZ]; omega) | (simp only [TS] at *; omega))) only [RZ, gval, gslot, fillL, ovw, numb, catL, ldN, agL, okC, oneC, init, Nat.reduceAdd, Nat.reduceMul, Nat.reduceSub, Nat.reduceEqDiff, Nat.reduceLT, ↓reduceIte, Int.reduceToNat, Int.reduceAdd, Int.reduceSub, Int.reduceMul, Int.reduceLT, Int.reduceLE, Int.reduceEq, Nat.reduceLeDiff]
  exact ⟨⟨⟨h0, h1⟩, 0, Row.new _ _ _⟩, below_alloc _ _⟩
theorem next_any (g : Nat) (st : Int) (w : World) (h : StrIn w g st) : Calls Tryd.prog 109 #[.pointer (some ⟨g, 0, none⟩)] w fun e w' => e = .returned (.int .u64 (mixI (nxtI st))) ∧ StrIn w' g (nxtI st) ∧ Only g (g + 1) w w' := by
  refine calls_W (l := [_]) Tryd.func109 rfl _ Tryd.ntmps109 (by simp) ?_
  obtain ⟨hb, u, hR⟩ := h
  have c0 := hR.cell (i := 0) rfl
  have c1 := hR.cell (i := 1) rfl
  have z0 := hR.frozen 0
  have z1 := hR.frozen 1
  have hs := nxtI_bd st
  simp +contextual (maxSteps := 2000000) (disch := (first | omega | (simp only [SZ]; done) | (simp only [SZ]; omega) | (simp only [TS] at *; omega))) only [RZ, gval, gslot, fillL, ovw, numb, catL, ldN, agL, okC, oneC, init, Nat.reduceAdd, Nat.reduceMul, Nat.reduceSub, Nat.reduceEqDiff, Nat.reduceLT, ↓reduceIte, Int.reduceToNat, Int.reduceAdd, Int.reduceSub, Int.reduceMul, Int.reduceLT, Int.reduceLE, Int.reduceEq, Nat.reduceLeDiff]
  refine W_if_f rfl ?_
  simp +contextual (maxSteps := 2000000) (disch := (first | omega | (simp only [SZ]; done) | (simp only [SZ]; omega) | (simp only [TS] at *; omega))) only [RZ, gval, gslot, fillL, ovw, numb, catL, ldN, agL, okC, oneC, init, Nat.reduceAdd, Nat.reduceMul, Nat.reduceSub, Nat.reduceEqDiff, Nat.reduceLT, ↓reduceIte, Int.reduceToNat, Int.reduceAdd, Int.reduceSub, Int.reduceMul, Int.reduceLT, Int.reduceLE, Int.reduceEq, Nat.reduceLeDiff,  c0, c1, z0, z1, vBin_addW, vBin_addIw]
  refine (mix_any (nxtI st) _ hs.1 hs.2).mono ?_
  rintro e w1 ⟨rfl, rfl⟩
  refine ⟨_, rfl, ?_⟩
  simp +contextual (maxSteps := 2000000) (disch := (first | omega | (simp only [SZ]; done) | (simp only [SZ]; omega) | (simp only [TS] at *; omega))) only [RZ, gval, gslot, fillL, ovw, numb, catL, ldN, agL, okC, oneC, init, Nat.reduceAdd, Nat.reduceMul, Nat.reduceSub, Nat.reduceEqDiff, Nat.reduceLT, ↓reduceIte, Int.reduceToNat, Int.reduceAdd, Int.reduceSub, Int.reduceMul, Int.reduceLT, Int.reduceLE, Int.reduceEq, Nat.reduceLeDiff]
  exact ⟨⟨hs, _, (hR.set_ (i := 0) (by simp) _).set_ (i := 1) (by simp) _⟩, ((Only.refl g (g + 1) w).setCell (p := ⟨g, 0, none⟩) (Nat.le_refl _) (Nat.lt_succ_self _) _).setCell (p := ⟨g, 1, none⟩) (Nat.le_refl _) (Nat.lt_succ_self _) _⟩
theorem belR_def (n : Int) (f : Nat) (st : Int) : belR n (f + 1) st = if mixI (nxtI st) ≤ 18446744073709551615 - rejI n then (mixI (nxtI st) % n, 0, nxtI st) else belR n f (nxtI st) := rfl
theorem below_any (g : Nat) (n st : Int) (w : World) (h : StrIn w g st) (hn : -9223372036854775808 ≤ n ∧ n ≤ 9223372036854775807) : Calls Tryd.prog 83 #[.pointer (some ⟨g, 0, none⟩), .int .i64 n] w fun e w' =>
    e = .returned (.tuple #[.int .i64 (belE n st).1, .int .i64 (belE n st).2.1]) ∧ StrIn w' g (belE n st).2.2 ∧ Only g (g + 1) w w' := by
  refine calls_W (l := [_, _]) Tryd.func83 rfl _ Tryd.ntmps83 (by simp) ?_
  simp +contextual (maxSteps := 2000000) (disch := (first | omega | (simp only [SZ]; done) | (simp only [SZ]; omega) | (simp only [TS] at *; omega))) only [RZ, gval, gslot, fillL, ovw, numb, catL, ldN, agL, okC, oneC, init, Nat.reduceAdd, Nat.reduceMul, Nat.reduceSub, Nat.reduceEqDiff, Nat.reduceLT, ↓reduceIte, Int.reduceToNat, Int.reduceAdd, Int.reduceSub, Int.reduceMul, Int.reduceLT, Int.reduceLE, Int.reduceEq, Nat.reduceLeDiff]
  refine W_if_f rfl ?_
  simp +contextual (maxSteps := 2000000) (disch := (first | omega | (simp only [SZ]; done) | (simp only [SZ]; omega) | (simp only [TS] at *; omega))) only [RZ, gval, gslot, fillL, ovw, numb, catL, ldN, agL, okC, oneC, init, Nat.reduceAdd, Nat.reduceMul, Nat.reduceSub, Nat.reduceEqDiff, Nat.reduceLT, ↓reduceIte, Int.reduceToNat, Int.reduceAdd, Int.reduceSub, Int.reduceMul, Int.reduceLT, Int.reduceLE, Int.reduceEq, Nat.reduceLeDiff]
  (refine W_if rfl (fun hc => ?_) (fun hc => ?_) <;> (try simp only [TS] at hc))
  · simp +contextual (maxSteps := 2000000) (disch := (first | omega | (simp only [SZ]; done) | (simp only [SZ]; omega) | (simp only [TS] at *; omega))) only [RZ, gval, gslot, fillL, ovw, numb, catL, ldN, agL, okC, oneC, init, Nat.reduceAdd, Nat.reduceMul, Nat.reduceSub, Nat.reduceEqDiff, Nat.reduceLT, ↓reduceIte, Int.reduceToNat, Int.reduceAdd, Int.reduceSub, Int.reduceMul, Int.reduceLT, Int.reduceLE, Int.reduceEq, Nat.reduceLeDiff]
    unfold belE
    rw [if_pos (by omega)]
    exact ⟨rfl, h, Only.refl _ _ _⟩
  unfold belE
  rw [if_neg (by omega)]
  have hr : -n % 18446744073709551616 % n = rejI n := by
    unfold rejI
    congr 1
    omega
  have hr0 : 0 ≤ rejI n := Int.emod_nonneg _ (by omega)
  have hr1 : rejI n < n := Int.emod_lt_of_pos _ (by omega)
  simp +contextual (maxSteps := 2000000) (disch := (first | omega | (simp only [SZ]; done) | (simp only [SZ]; omega) | (simp only [TS] at *; omega))) only [RZ, gval, gslot, fillL, ovw, numb, catL, ldN, agL, okC, oneC, init, Nat.reduceAdd, Nat.reduceMul, Nat.reduceSub, Nat.reduceEqDiff, Nat.reduceLT, ↓reduceIte, Int.reduceToNat, Int.reduceAdd, Int.reduceSub, Int.reduceMul, Int.reduceLT, Int.reduceLE, Int.reduceEq, Nat.reduceLeDiff,  vUn_negW, hr]
  refine Raw_loop (fun σ w2 => ∃ (k : Nat) (st2 : Int), k ≤ 64 ∧ belR n (64 - k) st2 = belR n 64 st ∧ StrIn w2 g st2 ∧ Only g (g + 1) w w2 ∧ σ 0 = .pointer (some ⟨g, 0, none⟩) ∧ σ 6 = .int .u64 n ∧ σ 7 = .int .u64 (rejI n) ∧ σ 23 = .int .i64 k) (fun σ _ => 64 - (intOf (σ 23)).toNat) ?_ ?_
  · simp +contextual (maxSteps := 2000000) (disch := (first | omega | (simp only [SZ]; done) | (simp only [SZ]; omega) | (simp only [TS] at *; omega))) only [RZ, gval, gslot, fillL, ovw, numb, catL, ldN, agL, okC, oneC, init, Nat.reduceAdd, Nat.reduceMul, Nat.reduceSub, Nat.reduceEqDiff, Nat.reduceLT, ↓reduceIte, Int.reduceToNat, Int.reduceAdd, Int.reduceSub, Int.reduceMul, Int.reduceLT, Int.reduceLE, Int.reduceEq, Nat.reduceLeDiff]
    exact ⟨0, st, by omega, rfl, h, Only.refl _ _ _, rfl⟩
  rintro σ w2 ⟨k, st2, hk, hi, hst, ho, f0, f6, f7, f23⟩ K hK
  simp +contextual (maxSteps := 2000000) (disch := (first | omega | (simp only [SZ]; done) | (simp only [SZ]; omega) | (simp only [TS] at *; omega))) only [RZ, gval, gslot, fillL, ovw, numb, catL, ldN, agL, okC, oneC, init, Nat.reduceAdd, Nat.reduceMul, Nat.reduceSub, Nat.reduceEqDiff, Nat.reduceLT, ↓reduceIte, Int.reduceToNat, Int.reduceAdd, Int.reduceSub, Int.reduceMul, Int.reduceLT, Int.reduceLE, Int.reduceEq, Nat.reduceLeDiff,  f0, f6, f7, f23]
  (refine W_if rfl (fun hc => ?_) (fun hc => ?_) <;> (try simp only [TS] at hc))
  · rw [show 64 - k = (64 - (k + 1)) + 1 by omega, belR_def] at hi
    have hm := mixI_bd (nxtI st2) (nxtI_bd st2).1
    simp +contextual (maxSteps := 2000000) (disch := (first | omega | (simp only [SZ]; done) | (simp only [SZ]; omega) | (simp only [TS] at *; omega))) only [RZ, gval, gslot, fillL, ovw, numb, catL, ldN, agL, okC, oneC, init, Nat.reduceAdd, Nat.reduceMul, Nat.reduceSub, Nat.reduceEqDiff, Nat.reduceLT, ↓reduceIte, Int.reduceToNat, Int.reduceAdd, Int.reduceSub, Int.reduceMul, Int.reduceLT, Int.reduceLE, Int.reduceEq, Nat.reduceLeDiff,  f0, f6, f7, f23]
    refine (next_any g st2 _ hst).mono ?_
    rintro e w3 ⟨rfl, hst3, ho3⟩
    refine ⟨_, rfl, ?_⟩
    have hv0 : 0 ≤ mixI (nxtI st2) % n := Int.emod_nonneg _ (by omega)
    have hv1 : mixI (nxtI st2) % n < n := Int.emod_lt_of_pos _ (by omega)
    simp +contextual (maxSteps := 2000000) (disch := (first | omega | (simp only [SZ]; done) | (simp only [SZ]; omega) | (simp only [TS] at *; omega))) only [RZ, gval, gslot, fillL, ovw, numb, catL, ldN, agL, okC, oneC, init, Nat.reduceAdd, Nat.reduceMul, Nat.reduceSub, Nat.reduceEqDiff, Nat.reduceLT, ↓reduceIte, Int.reduceToNat, Int.reduceAdd, Int.reduceSub, Int.reduceMul, Int.reduceLT, Int.reduceLE, Int.reduceEq, Nat.reduceLeDiff,  f0, f6, f7, f23]
    (refine W_if rfl (fun hc => ?_) (fun hc => ?_) <;> (try simp only [TS] at hc))
    · rw [if_pos hc] at hi
      simp +contextual (maxSteps := 2000000) (disch := (first | omega | (simp only [SZ]; done) | (simp only [SZ]; omega) | (simp only [TS] at *; omega))) only [RZ, gval, gslot, fillL, ovw, numb, catL, ldN, agL, okC, oneC, init, Nat.reduceAdd, Nat.reduceMul, Nat.reduceSub, Nat.reduceEqDiff, Nat.reduceLT, ↓reduceIte, Int.reduceToNat, Int.reduceAdd, Int.reduceSub, Int.reduceMul, Int.reduceLT, Int.reduceLE, Int.reduceEq, Nat.reduceLeDiff,  f0, f6, f7, f23]
      rw [← hi]
      exact ⟨rfl, hst3, ho.trans ho3⟩
    · rw [if_neg hc] at hi
      simp +contextual (maxSteps := 2000000) (disch := (first | omega | (simp only [SZ]; done) | (simp only [SZ]; omega) | (simp only [TS] at *; omega))) only [RZ, gval, gslot, fillL, ovw, numb, catL, ldN, agL, okC, oneC, init, Nat.reduceAdd, Nat.reduceMul, Nat.reduceSub, Nat.reduceEqDiff, Nat.reduceLT, ↓reduceIte, Int.reduceToNat, Int.reduceAdd, Int.reduceSub, Int.reduceMul, Int.reduceLT, Int.reduceLE, Int.reduceEq, Nat.reduceLeDiff,  f0, f6, f7, f23]
      refine hK _ _ ⟨k + 1, nxtI st2, by omega, hi, hst3, ho.trans ho3, ?_⟩ ?_
      · simp +contextual (maxSteps := 2000000) (disch := (first | omega | (simp only [SZ]; done) | (simp only [SZ]; omega) | (simp only [TS] at *; omega))) only [RZ, gval, gslot, fillL, ovw, numb, catL, ldN, agL, okC, oneC, init, Nat.reduceAdd, Nat.reduceMul, Nat.reduceSub, Nat.reduceEqDiff, Nat.reduceLT, ↓reduceIte, Int.reduceToNat, Int.reduceAdd, Int.reduceSub, Int.reduceMul, Int.reduceLT, Int.reduceLE, Int.reduceEq, Nat.reduceLeDiff,  f0, f6, f7, f23]
      · simp +contextual (maxSteps := 2000000) (disch := (first | omega | (simp only [SZ]; done) | (simp only [SZ]; omega) | (simp only [TS] at *; omega))) only [RZ, gval, gslot, fillL, ovw, numb, catL, ldN, agL, okC, oneC, init, Nat.reduceAdd, Nat.reduceMul, Nat.reduceSub, Nat.reduceEqDiff, Nat.reduceLT, ↓reduceIte, Int.reduceToNat, Int.reduceAdd, Int.reduceSub, Int.reduceMul, Int.reduceLT, Int.reduceLE, Int.reduceEq, Nat.reduceLeDiff,  intOf, f23]
        omega
  · rw [show 64 - k = 0 by omega] at hi
    simp +contextual (maxSteps := 2000000) (disch := (first | omega | (simp only [SZ]; done) | (simp only [SZ]; omega) | (simp only [TS] at *; omega))) only [RZ, gval, gslot, fillL, ovw, numb, catL, ldN, agL, okC, oneC, init, Nat.reduceAdd, Nat.reduceMul, Nat.reduceSub, Nat.reduceEqDiff, Nat.reduceLT, ↓reduceIte, Int.reduceToNat, Int.reduceAdd, Int.reduceSub, Int.reduceMul, Int.reduceLT, Int.reduceLE, Int.reduceEq, Nat.reduceLeDiff,  f0, f6, f7, f23]
    rw [← hi]
    exact ⟨rfl, hst, ho⟩
def iV (l : List Int) : List Value := l.map fun n => Value.int .i64 n
theorem iV_len (l : List Int) : (iV l).length = l.length := List.length_map ..
theorem iV_set (l : List Int) (i : Nat) (n : Int) : (iV l).set i (.int .i64 n) = iV (l.set i n) := (List.map_set ..).symm
theorem iV_get {l : List Int} {i : Nat} (h : i < l.length) : (iV l)[i]? = some (.int .i64 (l.getD i 0)) := by
  unfold iV
  rw [List.getElem?_map, List.getElem?_eq_getElem h, List.getD_eq_getElem?_getD, List.getElem?_eq_getElem h]
  rfl
theorem iV_rep (n : Nat) : (List.replicate n [Value.int .i64 0]).flatten = iV (List.replicate n 0) := by
  induction n with
  | zero => rfl
  | succ n ih => rw [List.replicate_succ, List.flatten_cons, ih]; rfl
theorem getD_ext {l m : List Int} (h : l.length = m.length) (hg : ∀ i, i < l.length → l.getD i 0 = m.getD i 0) : l = m := by
  refine List.ext_getElem h fun i h1 h2 => ?_
  have := hg i h1
  rw [List.getD_eq_getElem?_getD, List.getD_eq_getElem?_getD, List.getElem?_eq_getElem h1, List.getElem?_eq_getElem h2] at this
  exact this
theorem ascending_any (n : Nat) (w : World) (hn : n ≤ 4096) : Calls Tryd.prog 107 #[.int .i64 n] w fun e w' => e = .returned (.slice (some ⟨w.heap.size, 0, none⟩) n n) ∧ Row w' w.heap.size 3 (iV (asc1 n)) ∧ Below w.heap.size w w' := by
  refine calls_W (l := [_]) Tryd.func107 rfl _ Tryd.ntmps107 (by simp) ?_
  have hI : sliceI Tryd.prog 74 = some (3, 1, 8) := by kernel_rfl
  have hz : zeroV Tryd.prog 3 = some (.int .i64 0) := by kernel_rfl
  have hmk := vMakeSlice_at (P := Tryd.prog) (T := 74) (w := w) (n := (n : Int)) hI hz (by omega) (by omega) (by omega)
  rw [Int.toNat_natCast] at hmk
  simp +contextual (maxSteps := 2000000) (disch := (first | omega | (simp only [SZ]; done) | (simp only [SZ]; omega) | (simp only [TS] at *; omega))) only [RZ, gval, gslot, fillL, ovw, numb, catL, ldN, agL, okC, oneC, init, Nat.reduceAdd, Nat.reduceMul, Nat.reduceSub, Nat.reduceEqDiff, Nat.reduceLT, ↓reduceIte, Int.reduceToNat, Int.reduceAdd, Int.reduceSub, Int.reduceMul, Int.reduceLT, Int.reduceLE, Int.reduceEq, Nat.reduceLeDiff,  hmk]
  have hR := make_row w [.int .i64 0] n 3 (by simp)
  have hB := below_alloc w (.cells (madeCells #[.int .i64 0] n) 3)
  rw [iV_rep] at hR
  replace hR : Row (w.alloc (.cells (madeCells #[.int .i64 0] n) 3)) w.heap.size 3 (iV (List.replicate n 0)) := by
    rw [show [Value.int .i64 0].length = 1 from rfl, Nat.mul_one] at hR
    exact hR
  generalize w.alloc (.cells (madeCells #[.int .i64 0] n) 3) = w1 at *
  refine Raw_loop (fun σ w2 => ∃ (k : Nat) (l : List Int), k ≤ n ∧ l.length = n ∧ (∀ j, j < k → l.getD j 0 = (j : Int) + 1) ∧ Row w2 w.heap.size 3 (iV l) ∧ Below w.heap.size w w2 ∧ σ 3 = .slice (some ⟨w.heap.size, 0, none⟩) n n ∧ σ 8 = .int .i64 n ∧ σ 9 = .int .i64 k) (fun σ _ => n - (intOf (σ 9)).toNat) ?_ ?_
  · simp +contextual (maxSteps := 2000000) (disch := (first | omega | (simp only [SZ]; done) | (simp only [SZ]; omega) | (simp only [TS] at *; omega))) only [RZ, gval, gslot, fillL, ovw, numb, catL, ldN, agL, okC, oneC, init, Nat.reduceAdd, Nat.reduceMul, Nat.reduceSub, Nat.reduceEqDiff, Nat.reduceLT, ↓reduceIte, Int.reduceToNat, Int.reduceAdd, Int.reduceSub, Int.reduceMul, Int.reduceLT, Int.reduceLE, Int.reduceEq, Nat.reduceLeDiff]
    exact ⟨0, _, by omega, by simp, fun j hj => absurd hj (Nat.not_lt_zero _), hR, hB, rfl⟩
  rintro σ w2 ⟨k, l, hk, hl, hj, hR2, hB2, f3, f8, f9⟩ K hK
  simp +contextual (maxSteps := 2000000) (disch := (first | omega | (simp only [SZ]; done) | (simp only [SZ]; omega) | (simp only [TS] at *; omega))) only [RZ, gval, gslot, fillL, ovw, numb, catL, ldN, agL, okC, oneC, init, Nat.reduceAdd, Nat.reduceMul, Nat.reduceSub, Nat.reduceEqDiff, Nat.reduceLT, ↓reduceIte, Int.reduceToNat, Int.reduceAdd, Int.reduceSub, Int.reduceMul, Int.reduceLT, Int.reduceLE, Int.reduceEq, Nat.reduceLeDiff,  f3, f8, f9]
  (refine W_if rfl (fun hc => ?_) (fun hc => ?_) <;> (try simp only [TS] at hc))
  · have hkl : k < l.length := by omega
    have c := hR2.cell (iV_get hkl)
    have z := hR2.frozen k
    simp +contextual (maxSteps := 2000000) (disch := (first | omega | (simp only [SZ]; done) | (simp only [SZ]; omega) | (simp only [TS] at *; omega))) only [RZ, gval, gslot, fillL, ovw, numb, catL, ldN, agL, okC, oneC, init, Nat.reduceAdd, Nat.reduceMul, Nat.reduceSub, Nat.reduceEqDiff, Nat.reduceLT, ↓reduceIte, Int.reduceToNat, Int.reduceAdd, Int.reduceSub, Int.reduceMul, Int.reduceLT, Int.reduceLE, Int.reduceEq, Nat.reduceLeDiff,  f3, f8, f9, c, z]
    refine hK _ _ ⟨k + 1, l.set k ((k : Int) + 1), by omega, by simpa using hl, fun j hj2 => ?_, ?_, hB2.setCell (p := ⟨w.heap.size, k, none⟩) (Nat.le_refl _) _, ?_⟩ ?_
    · rw [set_getD hkl]
      by_cases e : k = j
      · rw [if_pos e, e]
      · rw [if_neg e]; exact hj j (by omega)
    · rw [← iV_set]
      exact hR2.set_ (by rw [iV_len]; exact hkl) _
    · simp +contextual (maxSteps := 2000000) (disch := (first | omega | (simp only [SZ]; done) | (simp only [SZ]; omega) | (simp only [TS] at *; omega))) only [RZ, gval, gslot, fillL, ovw, numb, catL, ldN, agL, okC, oneC, init, Nat.reduceAdd, Nat.reduceMul, Nat.reduceSub, Nat.reduceEqDiff, Nat.reduceLT, ↓reduceIte, Int.reduceToNat, Int.reduceAdd, Int.reduceSub, Int.reduceMul, Int.reduceLT, Int.reduceLE, Int.reduceEq, Nat.reduceLeDiff,  f3, f8, f9]
    · simp +contextual (maxSteps := 2000000) (disch := (first | omega | (simp only [SZ]; done) | (simp only [SZ]; omega) | (simp only [TS] at *; omega))) only [RZ, gval, gslot, fillL, ovw, numb, catL, ldN, agL, okC, oneC, init, Nat.reduceAdd, Nat.reduceMul, Nat.reduceSub, Nat.reduceEqDiff, Nat.reduceLT, ↓reduceIte, Int.reduceToNat, Int.reduceAdd, Int.reduceSub, Int.reduceMul, Int.reduceLT, Int.reduceLE, Int.reduceEq, Nat.reduceLeDiff,  intOf, f9]
      omega
  · simp +contextual (maxSteps := 2000000) (disch := (first | omega | (simp only [SZ]; done) | (simp only [SZ]; omega) | (simp only [TS] at *; omega))) only [RZ, gval, gslot, fillL, ovw, numb, catL, ldN, agL, okC, oneC, init, Nat.reduceAdd, Nat.reduceMul, Nat.reduceSub, Nat.reduceEqDiff, Nat.reduceLT, ↓reduceIte, Int.reduceToNat, Int.reduceAdd, Int.reduceSub, Int.reduceMul, Int.reduceLT, Int.reduceLE, Int.reduceEq, Nat.reduceLeDiff,  f3, f8, f9]
    have : l = asc1 n := getD_ext (by rw [hl, asc1_len]) fun i hi => by rw [hj i (by omega), asc1_get (by omega)]
    rw [← this]
    exact ⟨hR2, hB2⟩
end Go.Proofs.YtcnlopjjejdahaaDoor
/- Regions that draw their order, where those that write wait for those that read: the pure ones are taken first, at the values that they yield in the world at hand. -/
namespace Go.Proofs.YtcnlopjjejdahaaDoor
open Go.RowKit
section
variable {P : Program} {md : Region.Mode} {ops : Array Oper} {Q : Exit → Act → World → Prop} {pl : List Nat}
/-- Whatever order is picked from here on; the operations of the list pl leave the world as it is. -/
def wpAnyT (P : Program) (md : Region.Mode) (ops : Array Oper) (Q : Exit → Act → World → Prop) (pl : List Nat) : Nat → Array Bool → Act → World → Prop
  | 0, listed, a, w => Region.ready md ops listed = [] ∧ Q .normal a w
  | fuel + 1, listed, a, w =>
    (Region.ready md ops listed = [] → Q .normal a w) ∧
    ∀ i ∈ Region.ready md ops listed, wpOp P ops Q i (fun a' w' => (pl.contains i = true → w' = w) ∧ wpAnyT P md ops Q pl fuel (listed.setIfInBounds i true) a' w') a w
theorem wpAny_of_T : ∀ (fuel : Nat) (listed : Array Bool) (a : Act) (w : World), wpAnyT P md ops Q pl fuel listed a w → wpAny P md ops Q fuel listed a w
  | 0, _, _, _, h => h
  | fuel + 1, _, _, _, h => ⟨h.1, fun i hi => wpOp_mono (fun a' w' h' => wpAny_of_T fuel _ a' w' h'.2) (h.2 i hi)⟩
theorem wpAnyT_first {i : Nat} {oi : Oper} {v : Value} (hi : ops[i]? = some oi) (hsel : ∀ (j : Nat) (o : Oper) cs b, ops[j]? = some o → o.op ≠ .select cs b)
    (hQ : ∀ c a w, Q (.panic c) (a.put oi.dst v) w → Q (.panic c) a w) :
    ∀ (fuel : Nat) (listed : Array Bool) (a : Act) (w : World),
      (∀ j oj, ops[j]? = some oj → j ≠ i → listed.getD j true = false → (∀ e ∈ oj.after, Region.binds md e = true → e.on ≠ i) → oi.apart ops oj = true ∧ pl.contains j = true) →
      i ∈ Region.ready md ops listed → YieldsIf P ops (fun w' => w' = w) oi v a →
      wpAnyT P md ops Q pl fuel (listed.setIfInBounds i true) (a.put oi.dst v) w → wpAnyT P md ops Q pl (fuel + 1) listed a w := by
  intro fuel
  induction fuel with
  | zero =>
    intro listed a w _ hr hy H
    refine ⟨fun h => (by rw [h] at hr; cases hr), fun j hj => ?_⟩
    by_cases hji : j = i
    · subst hji; exact hy.wpOp hi rfl ⟨fun _ => rfl, H⟩
    · have := ready_mono hj hji
      rw [H.1] at this
      cases this
  | succ fuel ih =>
    intro listed a w hfree hr hy H
    refine ⟨fun h => (by rw [h] at hr; cases hr), fun j hj => ?_⟩
    by_cases hji : j = i
    · subst hji; exact hy.wpOp hi rfl ⟨fun _ => rfl, H⟩
    · have h1 := H.2 j (ready_mono hj hji)
      obtain ⟨hjun, oj, hoj, hall⟩ := mem_ready.1 hj
      have hnot : ∀ e ∈ oj.after, Region.binds md e = true → e.on ≠ i := fun e he hb heq => by
        have h1 := hall e he hb
        have h0 := (mem_ready.1 hr).1
        rw [heq] at h1
        rcases Nat.lt_or_ge i listed.size with h' | h'
        · simp [h'] at h0 h1; rw [h0] at h1; cases h1
        · simp [Array.getElem?_eq_none h'] at h1
      obtain ⟨hap, hpj⟩ := hfree j oj hoj hji hjun hnot
      have h2 := wpOp_putIf hoj hap (fun cs b => hsel i oi cs b hi) (fun cs b => hsel j oj cs b hoj) hQ hy h1
      have hfree' : ∀ k ok, ops[k]? = some ok → k ≠ i → (listed.setIfInBounds j true).getD k true = false →
          (∀ e ∈ ok.after, Region.binds md e = true → e.on ≠ i) → oi.apart ops ok = true ∧ pl.contains k = true := fun k ok hk hki hun hno => by
        refine hfree k ok hk hki ?_ hno
        by_cases hjk : j = k
        · subst hjk; exact hjun
        · rw [getD_set_ne true hjk] at hun; exact hun
      refine wpOp_mono (fun a' w' h3 => ?_) h2
      obtain ⟨h4, h5, h6⟩ := h3
      have hw := h5 hpj
      subst hw
      refine ⟨fun _ => rfl, ih (listed.setIfInBounds j true) a' _ hfree' (ready_mono hr (Ne.symm hji)) h4 ?_⟩
      rw [Array.setIfInBounds_comm _ _ hji]
      exact h6
theorem wpAnyT_firstU {i : Nat} {oi : Oper} {v : Value} (hi : ops[i]? = some oi) (hsel : ∀ (j : Nat) (o : Oper) cs b, ops[j]? = some o → o.op ≠ .select cs b)
    (hQ : ∀ c a w, Q (.panic c) (a.put oi.dst v) w → Q (.panic c) a w) :
    ∀ (fuel : Nat) (listed : Array Bool) (a : Act) (w : World),
      (∀ j oj, ops[j]? = some oj → j ≠ i → listed.getD j true = false → (∀ e ∈ oj.after, Region.binds md e = true → e.on ≠ i) → oi.apart ops oj = true) →
      i ∈ Region.ready md ops listed → YieldsIf P ops (fun _ => True) oi v a →
      wpAnyT P md ops Q pl fuel (listed.setIfInBounds i true) (a.put oi.dst v) w → wpAnyT P md ops Q pl (fuel + 1) listed a w := by
  intro fuel
  induction fuel with
  | zero =>
    intro listed a w _ hr hy H
    refine ⟨fun h => (by rw [h] at hr; cases hr), fun j hj => ?_⟩
    by_cases hji : j = i
    · subst hji; exact hy.wpOp hi trivial ⟨fun _ => rfl, H⟩
    · have := ready_mono hj hji
      rw [H.1] at this
      cases this
  | succ fuel ih =>
    intro listed a w hfree hr hy H
    refine ⟨fun h => (by rw [h] at hr; cases hr), fun j hj => ?_⟩
    by_cases hji : j = i
    · subst hji; exact hy.wpOp hi trivial ⟨fun _ => rfl, H⟩
    · have h1 := H.2 j (ready_mono hj hji)
      obtain ⟨hjun, oj, hoj, hall⟩ := mem_ready.1 hj
      have hnot : ∀ e ∈ oj.after, Region.binds md e = true → e.on ≠ i := fun e he hb heq => by
        have h1 := hall e he hb
        have h0 := (mem_ready.1 hr).1
        rw [heq] at h1
        rcases Nat.lt_or_ge i listed.size with h' | h'
        · simp [h'] at h0 h1; rw [h0] at h1; cases h1
        · simp [Array.getElem?_eq_none h'] at h1
      have h2 := wpOp_putIf hoj (hfree j oj hoj hji hjun hnot) (fun cs b => hsel i oi cs b hi) (fun cs b => hsel j oj cs b hoj) hQ hy h1
      have hfree' : ∀ k ok, ops[k]? = some ok → k ≠ i → (listed.setIfInBounds j true).getD k true = false →
          (∀ e ∈ ok.after, Region.binds md e = true → e.on ≠ i) → oi.apart ops ok = true := fun k ok hk hki hun hno => by
        refine hfree k ok hk hki ?_ hno
        by_cases hjk : j = k
        · subst hjk; exact hjun
        · rw [getD_set_ne true hjk] at hun; exact hun
      refine wpOp_mono (fun a' w' h3 => ?_) h2
      obtain ⟨h4, h5, h6⟩ := h3
      refine ⟨h5, ih (listed.setIfInBounds j true) a' _ hfree' (ready_mono hr (Ne.symm hji)) h4 ?_⟩
      rw [Array.setIfInBounds_comm _ _ hji]
      exact h6
end
section
variable {P : Program} {n : Nat} {ops : Array Oper} {Q : Exit → Sl → World → Prop} {σ : Sl} {w : World} {fuel : Nat} {listed : Array Bool} {pl : List Nat}
def OrdT (P : Program) (n : Nat) (ops : Array Oper) (Q : Exit → Sl → World → Prop) (pl : List Nat) (fuel : Nat) (listed : Array Bool) (σ : Sl) (w : World) : Prop :=
  ∀ a, Fr n σ a → wpAnyT P .any ops (lift n Q) pl fuel listed a w
@[congr] theorem OrdT_congr {σ σ' : Sl} {w w' : World} (h : σ = σ') (h' : w = w') : OrdT P n ops Q pl fuel listed σ w = OrdT P n ops Q pl fuel listed σ' w' := by rw [h, h']
theorem Raw_ordT (pl : List Nat) (m : Nat) (hsz : ops.size = m) {id : Nat} (hm : P.follows .mixedOrders = true) (h : OrdT P n ops Q pl m (Array.replicate m false) σ w.drew) : Raw P n (.region id ops true) Q σ w := by
  intro a hf
  subst hsz
  exact wp_region_any hm (wpAny_of_T _ _ _ _ (h a hf))
/-- Each operation that has not come up waits for i, or is one of the pure ones and apart from it. -/
def freeT (ops : Array Oper) (pl : List Nat) (listed : Array Bool) (i : Nat) : Bool :=
  match ops[i]? with
  | none => false
  | some oi => (List.range ops.size).all fun j => j == i || listed.getD j true || match ops[j]? with
      | some oj => oj.after.any (fun e => Region.binds .any e && e.on == i) || (oi.apart ops oj && pl.contains j)
      | none => true
theorem freeT_spec {i : Nat} {oi : Oper} (hi : ops[i]? = some oi) (h : freeT ops pl listed i = true) (j : Nat) (oj : Oper)
    (hj : ops[j]? = some oj) (hne : j ≠ i) (hun : listed.getD j true = false) (hno : ∀ e ∈ oj.after, Region.binds .any e = true → e.on ≠ i) : oi.apart ops oj = true ∧ pl.contains j = true := by
  unfold freeT at h
  simp only [hi, List.all_eq_true, List.mem_range] at h
  have h1 := h j (Array.getElem?_eq_some_iff.1 hj).1
  rw [hj, hun] at h1
  simp only [Bool.or_false, Bool.or_eq_true, beq_iff_eq, Bool.and_eq_true, Array.any_eq_true', decide_eq_true_eq] at h1
  rcases h1 with h1 | h1 | h1
  · exact absurd h1 hne
  · obtain ⟨e, he, hb, ho⟩ := h1
    exact absurd ho (hno e he hb)
  · exact h1
theorem OrdT_take (i : Nat) {d : Option Nat} {op : Op} {ty : TypeId} {p : String} {af : Array Edge} {v : Value} (hi : ops[i]? = some ⟨d, op, ty, p, af, none⟩)
    (hs : Region.noSelect ops = true) (hf : freeT ops pl listed i = true) (hr : (Region.ready .any ops listed).contains i = true)
    (hQ : ∀ c σ w, ¬ Q (.panic c) σ w) (hv : run1 P op ty σ w = .ok (.value v) w)
    (h : OrdT P n ops Q pl fuel (listed.setIfInBounds i true) (put n σ d v) w) : OrdT P n ops Q pl (fuel + 1) listed σ w := by
  intro a hfr
  refine wpAnyT_first hi (Region.noSelect_spec hs) ?_ fuel listed a w (freeT_spec hi hf) (by simpa using hr) (v := v) ?_ (h _ (hfr.put d v))
  · rintro c a w ⟨σ', _, hq⟩
    exact absurd hq (hQ _ _ _)
  · refine .inl ⟨wanted_none rfl, fun w' hw' => ?_⟩
    subst hw'
    rw [hfr.eval]
    exact hv
/-- One that writes, if nobody else may come up. -/
theorem OrdT_all (rs : List Nat) (hr : Region.ready .any ops listed = rs) (hne : rs ≠ []) (h : ∀ i ∈ rs, pl.contains i = false ∧ match ops[i]? with
      | some ⟨d, op, ty, _, _, none⟩ => Okv P (fun v w' => OrdT P n ops Q pl fuel (listed.setIfInBounds i true) (put n σ d v) w') (run1 P op ty σ w)
      | _ => False) : OrdT P n ops Q pl (fuel + 1) listed σ w := by
  intro a hfr
  refine ⟨fun h0 => absurd (hr ▸ h0) hne, hr ▸ fun i hi => ?_⟩
  obtain ⟨h1, h2⟩ := h i hi
  cases ho : ops[i]? with
  | none => rw [ho] at h2; exact h2.elim
  | some o =>
    rw [ho] at h2
    obtain ⟨d, op, ty, p, af, g⟩ := o
    cases g with
    | some g => exact h2.elim
    | none =>
      unfold wpOp
      simp only [ho]
      rw [if_pos (wanted_none rfl)]
      exact .inl (Oper.wp_of_Okv hfr (o := ⟨d, op, ty, p, af, none⟩) h2 fun v w' hE => ⟨fun hp => (by rw [h1] at hp; cases hp), hE _ (hfr.put d v)⟩)
theorem OrdT_one (i : Nat) {d : Option Nat} {op : Op} {ty : TypeId} {p : String} {af : Array Edge} (hr : Region.ready .any ops listed = [i]) (hp : pl.contains i = false) (hi : ops[i]? = some ⟨d, op, ty, p, af, none⟩)
    (h : Okv P (fun v w' => OrdT P n ops Q pl fuel (listed.setIfInBounds i true) (put n σ d v) w') (run1 P op ty σ w)) : OrdT P n ops Q pl (fuel + 1) listed σ w :=
  OrdT_all [i] hr (by simp) fun j hj => by
    obtain rfl : j = i := by simpa using hj
    exact ⟨hp, by rw [hi]; exact h⟩
theorem OrdT_done (hr : Region.ready .any ops listed = []) (h : Q .normal σ w) : OrdT P n ops Q pl fuel listed σ w := fun a hf => by
  cases fuel with
  | zero => exact ⟨hr, σ, hf, h⟩
  | succ f => exact ⟨fun _ => ⟨σ, hf, h⟩, by rw [hr]; simp⟩
def rdT (n : Nat) (ops : Array Oper) (pl : List Nat) : Array Bool → List Nat → Bool
  | _, [] => true
  | L, i :: r => (match ops[i]? with
    | some ⟨some d, _, _, _, _, none⟩ => decide (d < n) && r.all fun j => (ops[j]?).bind (·.dst) != some d
    | _ => false) && freeT ops pl L i && (Region.ready .any ops L).contains i && rdT n ops pl (L.setIfInBounds i true) r
theorem OrdT_reads (is : List Nat) (f : Nat) {m : Nat} {τ : Sl} (hf : m = f + is.length) (hs : Region.noSelect ops = true) (hB : rdT n ops pl listed is = true)
    (hQ : ∀ c σ w, ¬ Q (.panic c) σ w) (hv : V P n w (opsL ops is) σ (fun σ' => σ' = τ))
    (h : OrdT P n ops Q pl f (markL listed is) τ w) : OrdT P n ops Q pl m listed σ w := by
  subst hf
  induction is generalizing listed σ with
  | nil => have e : σ = τ := hv; rw [e]; exact h
  | cons i r ih =>
    rw [rdT, Bool.and_eq_true, Bool.and_eq_true, Bool.and_eq_true] at hB
    obtain ⟨⟨⟨h1, h2⟩, h3⟩, h4⟩ := hB
    cases ho : ops[i]? with
    | none => rw [ho] at h1; cases h1
    | some o =>
      obtain ⟨d', op, ty, p, af, g⟩ := o
      rw [ho] at h1
      cases d' with
      | none => cases h1
      | some d =>
      cases g with
      | some g => cases h1
      | none =>
      rw [opsL_cons, ho, optL_some, V_op] at hv
      cases hr1 : run1 P op ty σ w with
      | halt x w2 => rw [hr1] at hv; exact hv.elim
      | ok nx w2 =>
        rw [hr1] at hv
        cases nx with
        | value v =>
          obtain ⟨rfl, hv⟩ := hv
          exact OrdT_take i ho hs h2 h3 hQ hr1 (ih h4 hv h)
        | _ => exact hv.elim
theorem OrdT_pair (i j : Nat) {di dj : Option Nat} {opi opj : Op} {tyi tyj : TypeId} {pi pj : String} {afi afj : Array Edge} (hr : Region.ready .any ops listed = [i, j])
    (hr1 : Region.ready .any ops (listed.setIfInBounds i true) = [j]) (hr2 : Region.ready .any ops (listed.setIfInBounds j true) = [i])
    (hr3 : Region.ready .any ops ((listed.setIfInBounds i true).setIfInBounds j true) = []) (hr4 : Region.ready .any ops ((listed.setIfInBounds j true).setIfInBounds i true) = [])
    (hpi : pl.contains i = false) (hpj : pl.contains j = false) (hij : i ≠ j) (hi : ops[i]? = some ⟨di, opi, tyi, pi, afi, none⟩) (hj : ops[j]? = some ⟨dj, opj, tyj, pj, afj, none⟩)
    (h1 : Okv P (fun v w' => Okv P (fun u w'' => Q .normal (put n (put n σ di v) dj u) w'') (run1 P opj tyj (put n σ di v) w')) (run1 P opi tyi σ w))
    (h2 : Okv P (fun v w' => Okv P (fun u w'' => Q .normal (put n (put n σ dj v) di u) w'') (run1 P opi tyi (put n σ dj v) w')) (run1 P opj tyj σ w)) : OrdT P n ops Q pl 2 listed σ w :=
  OrdT_all [i, j] hr (by simp) fun k hk => by
    simp only [List.mem_cons, List.not_mem_nil, or_false] at hk
    rcases hk with rfl | rfl
    · refine ⟨hpi, ?_⟩
      rw [hi]
      exact Okv_mono (fun v w' h => OrdT_one j hr1 hpj hj (Okv_mono (fun u w'' h => OrdT_done hr3 h) h)) h1
    · refine ⟨hpj, ?_⟩
      rw [hj]
      exact Okv_mono (fun v w' h => OrdT_one i hr2 hpi hi (Okv_mono (fun u w'' h => OrdT_done hr4 h) h)) h2
/-- A reader of slots: its value in whatever world. -/
theorem OrdT_takeU (i : Nat) {d : Option Nat} {op : Op} {ty : TypeId} {p : String} {af : Array Edge} {v : Value} (hi : ops[i]? = some ⟨d, op, ty, p, af, none⟩)
    (hs : Region.noSelect ops = true) (hf : Region.free .any ops listed i = true) (hr : (Region.ready .any ops listed).contains i = true)
    (hQ : ∀ c σ w, ¬ Q (.panic c) σ w) (hv : ∀ w', run1 P op ty σ w' = .ok (.value v) w')
    (h : OrdT P n ops Q pl fuel (listed.setIfInBounds i true) (put n σ d v) w) : OrdT P n ops Q pl (fuel + 1) listed σ w := by
  intro a hfr
  refine wpAnyT_firstU hi (Region.noSelect_spec hs) ?_ fuel listed a w (Region.free_spec hi hf) (by simpa using hr) (v := v) ?_ (h _ (hfr.put d v))
  · rintro c a w ⟨σ', _, hq⟩
    exact absurd hq (hQ _ _ _)
  · refine .inl ⟨wanted_none rfl, fun w' _ => ?_⟩
    rw [hfr.eval]
    exact hv w'
theorem OrdT_readsU (is : List Nat) (f : Nat) {m : Nat} {τ : Sl} (hf : m = f + is.length) (hs : Region.noSelect ops = true) (hB : rdB n ops listed is = true)
    (hQ : ∀ c σ w, ¬ Q (.panic c) σ w) (hv : ∀ w', V P n w' (opsL ops is) σ (fun σ' => σ' = τ))
    (h : OrdT P n ops Q pl f (markL listed is) τ w) : OrdT P n ops Q pl m listed σ w := by
  subst hf
  induction is generalizing listed σ with
  | nil => have e : σ = τ := hv w; rw [e]; exact h
  | cons i r ih =>
    rw [rdB, Bool.and_eq_true, Bool.and_eq_true, Bool.and_eq_true] at hB
    obtain ⟨⟨⟨h1, h2⟩, h3⟩, h4⟩ := hB
    cases ho : ops[i]? with
    | none => rw [ho] at h1; cases h1
    | some o =>
      obtain ⟨d', op, ty, p, af, g⟩ := o
      rw [ho] at h1
      cases d' with
      | none => cases h1
      | some d =>
      cases g with
      | some g => cases h1
      | none =>
      simp only [Bool.and_eq_true, decide_eq_true_eq] at h1
      obtain ⟨hd, hr⟩ := h1
      have key : ∀ w', run1 P op ty σ w' = .ok (.value (τ d)) w' ∧ V P n w' (opsL ops r) (put n σ (some d) (τ d)) (fun σ' => σ' = τ) := by
        intro w'
        have hv := hv w'
        rw [opsL_cons, ho, optL_some, V_op] at hv
        cases hr1 : run1 P op ty σ w' with
        | halt x w2 => rw [hr1] at hv; exact hv.elim
        | ok nx w2 =>
          rw [hr1] at hv
          cases nx with
          | value v =>
            obtain ⟨rfl, hv⟩ := hv
            have e := V_keep r _ hr hv
            rw [put_some, if_pos hd, upd_same] at e
            rw [e]
            exact ⟨rfl, hv⟩
          | _ => exact hv.elim
      exact OrdT_takeU i ho hs h2 h3 hQ (fun w' => (key w').1) (ih h4 (fun w' => (key w').2) h)
theorem OrdT_chain : ∀ (js : List Nat) (listed : Array Bool) (σ : Sl) (w : World), (js.all fun j => !pl.contains j) = true → chB ops listed js = true → E P n ops (opsL ops js) σ w (Q .normal) → OrdT P n ops Q pl js.length listed σ w
  | [], L, σ, w, _, h, hE => OrdT_done (of_decide_eq_true h) hE
  | j :: r, L, σ, w, hp, h, hE => by
    rw [chB, Bool.and_eq_true, Bool.and_eq_true] at h
    rw [List.all_cons, Bool.and_eq_true] at hp
    obtain ⟨⟨h1, h2⟩, h3⟩ := h
    rw [opsL_cons] at hE
    cases ho : ops[j]? with
    | none => rw [ho] at h2; cases h2
    | some o =>
      obtain ⟨d, op, ty, p, af, g⟩ := o
      rw [ho] at h2
      cases g with
      | some g => cases h2
      | none =>
        rw [ho, optL_some, E_op] at hE
        exact OrdT_one j (of_decide_eq_true h1) (by simpa using hp.1) ho (Okv_mono (fun v w' hh => OrdT_chain r _ _ _ hp.2 h3 hh) hE)
end
end Go.Proofs.YtcnlopjjejdahaaDoor
/- Walks: the stream: Shuffle and its step. -/
namespace Go.Proofs.YtcnlopjjejdahaaDoor
open Go.RowKit
set_option maxRecDepth 100000
/-- All blocks but the listed ones stay. -/
structure Kept (X : List Nat) (w w' : World) : Prop where
  os : w'.os = w.os
  tape : w'.tape = w.tape
  output : w'.output = w.output
  size : w.heap.size ≤ w'.heap.size
  block : ∀ k, k < w.heap.size → k ∉ X → w'.heap[k]? = w.heap[k]?
section
variable {X : List Nat} {a w w' : World}
theorem Kept.refl (X : List Nat) (w : World) : Kept X w w := ⟨rfl, rfl, rfl, Nat.le_refl _, fun _ _ _ => rfl⟩
theorem Kept.trans (h : Kept X a w) (k : Kept X w w') : Kept X a w' :=
  ⟨k.os.trans h.os, k.tape.trans h.tape, k.output.trans h.output, Nat.le_trans h.size k.size, fun g hg hr => (k.block g (Nat.lt_of_lt_of_le hg h.size) hr).trans (h.block g hg hr)⟩
theorem Kept.of_below (h : Below w.heap.size w w') : Kept X w w' := ⟨h.os, h.tape, h.output, h.size, fun g hg _ => h.block g hg⟩
theorem Kept.of_only {g : Nat} (h : Only g (g + 1) w w') (hg : g ∈ X) : Kept X w w' :=
  ⟨h.os, h.tape, h.output, h.size, fun k hk hr => h.block k hk (by have : k ≠ g := fun e => hr (e ▸ hg); omega)⟩
theorem Kept.alloc (h : Kept X a w) (o : Obj) : Kept X a (w.alloc o) := h.trans (Kept.of_below (below_alloc w o))
theorem Kept.drew (h : Kept X a w) : Kept X a w.drew := ⟨h.os, h.tape, h.output, h.size, h.block⟩
theorem Kept.setCell (h : Kept X a w) {p : Addr} (hp : p.block ∈ X) (v : Value) : Kept X a (w.setCell p v) :=
  h.trans (Kept.of_only (g := p.block) ((Only.refl p.block (p.block + 1) w).setCell (Nat.le_refl _) (Nat.lt_succ_self _) v) hp)
theorem Row.kept {g : Nat} {T : TypeId} {cs : List Value} (h : Row w g T cs) (k : Kept X w w') (hg : g ∉ X) : Row w' g T cs := h.of_block (k.block g h.lt hg)
theorem StrIn.kept {g : Nat} {st : Int} (h : StrIn w g st) (k : Kept X w w') (hg : g ∉ X) : StrIn w' g st := by
  obtain ⟨hb, u, hR⟩ := h
  exact ⟨hb, u, hR.kept k hg⟩
/-- What is new may be listed too. -/
theorem Kept.less {Y : List Nat} (h : Kept X w w') (hY : ∀ k ∈ X, k < w.heap.size → k ∈ Y) : Kept Y w w' :=
  ⟨h.os, h.tape, h.output, h.size, fun k hk hr => h.block k hk fun hx => hr (hY k hx hk)⟩
theorem Kept.only {g : Nat} (h : Kept [g] w w') : Only g (g + 1) w w' := ⟨h.os, h.tape, h.output, h.size, fun k hk hr => h.block k hk (by simp; omega)⟩
theorem Kept.cell {g o : Nat} (h : Kept X w w') (hg : g < w.heap.size) (hr : g ∉ X) : w'.cell? ⟨g, o, none⟩ = w.cell? ⟨g, o, none⟩ := World.cell?_of_block (w := w) (h.block g hg hr)
theorem Kept.frozen {g o : Nat} (h : Kept X w w') (hg : g < w.heap.size) (hr : g ∉ X) : w'.frozen? ⟨g, o, none⟩ = w.frozen? ⟨g, o, none⟩ := World.frozen?_of_block (w := w) (h.block g hg hr)
end
theorem StrIn.far {g : Nat} {w : World} {st : Int} (h : StrIn w g st) {p : Addr} (hp : g ≠ p.block) (v : Value) : StrIn (w.setCell p v) g st := by
  obtain ⟨hb, u, hR⟩ := h
  exact ⟨hb, u, hR.far hp v⟩
def stepL (l : List Int) (i : Nat) (b : Int × Int × Int) : List Int := if b.2.1 = 0 then swp l i b.1.toNat else l
theorem shufStep_any (gs gl a b : Nat) (st : Int) (l : List Int) (n c i : Nat) (w : World) (hs : StrIn w gs st) (hl : Row w gl 3 (iV l)) (hgn : gs ≠ gl) (hn : l.length = n) (hi : i < n) (hn2 : n ≤ 4096) (hc : n ≤ c)
    (ca : w.cell? ⟨a, 0, none⟩ = some (.pointer (some ⟨gs, 0, none⟩))) (cb : w.cell? ⟨b, 0, none⟩ = some (.slice (some ⟨gl, 0, none⟩) n c)) (ha : a < w.heap.size ∧ a ≠ gs ∧ a ≠ gl) (hb : b < w.heap.size ∧ b ≠ gs ∧ b ≠ gl) :
    Calls Tryd.prog 108 #[.int .i64 i, .pointer (some ⟨a, 0, none⟩), .pointer (some ⟨b, 0, none⟩)] w fun e w' =>
      e = .returned (.int .i64 (belE ((i : Int) + 1) st).2.1) ∧ StrIn w' gs (belE ((i : Int) + 1) st).2.2 ∧ Row w' gl 3 (iV (stepL l i (belE ((i : Int) + 1) st))) ∧ Kept [gs, gl] w w' := by
  refine calls_W (l := [_, _, _]) Tryd.func108 rfl _ Tryd.ntmps108 (by simp) ?_
  simp +contextual (maxSteps := 2000000) (disch := (first | omega | (simp only [SZ]; done) | (simp only [SZ]; omega) | (simp only [TS] at *; omega))) only [RZ, gval, gslot, fillL, ovw, numb, catL, ldN, agL, okC, oneC, init, Nat.reduceAdd, Nat.reduceMul, Nat.reduceSub, Nat.reduceEqDiff, Nat.reduceLT, ↓reduceIte, Int.reduceToNat, Int.reduceAdd, Int.reduceSub, Int.reduceMul, Int.reduceLT, Int.reduceLE, Int.reduceEq, Nat.reduceLeDiff,  ca, cb]
  refine (below_any gs ((i : Int) + 1) st w hs (by omega)).mono ?_
  rintro e w1 ⟨rfl, hs1, ho1⟩
  refine ⟨_, rfl, ?_⟩
  have hb1 := fun h => (belE_lt (n := (i : Int) + 1) (st := st) h)
  generalize belE ((i : Int) + 1) st = B at *
  have hk1 : Kept [gs, gl] w w1 := Kept.of_only ho1 (by simp)
  have ca1 : w1.cell? ⟨a, 0, none⟩ = _ := (ho1.cell ha.1 (by omega)).trans ca
  have cb1 : w1.cell? ⟨b, 0, none⟩ = _ := (ho1.cell hb.1 (by omega)).trans cb
  have hl1 := hl.only ho1 (by omega)
  simp +contextual (maxSteps := 2000000) (disch := (first | omega | (simp only [SZ]; done) | (simp only [SZ]; omega) | (simp only [TS] at *; omega))) only [RZ, gval, gslot, fillL, ovw, numb, catL, ldN, agL, okC, oneC, init, Nat.reduceAdd, Nat.reduceMul, Nat.reduceSub, Nat.reduceEqDiff, Nat.reduceLT, ↓reduceIte, Int.reduceToNat, Int.reduceAdd, Int.reduceSub, Int.reduceMul, Int.reduceLT, Int.reduceLE, Int.reduceEq, Nat.reduceLeDiff]
  (refine W_if rfl (fun hc => ?_) (fun hc => ?_) <;> (try simp only [TS] at hc))
  · have hbl := hb1 hc
    have hj : B.1.toNat < l.length := by omega
    have hil : i < l.length := by omega
    have hx : stepL l i B = swp l i B.1.toNat := if_pos hc
    rw [hx]
    have ci := hl1.cell (iV_get hil)
    have cj := hl1.cell (iV_get hj)
    have zi := hl1.frozen i
    have zj := hl1.frozen B.1.toNat
    refine Raw_gen fun τ hτ => ?_
    have t0 : τ 0 = .int .i64 i := (hτ 0).trans rfl
    have t2 : τ 2 = .pointer (some ⟨b, 0, none⟩) := (hτ 2).trans rfl
    have t5 : τ 5 = .int .i64 B.1 := (hτ 5).trans rfl
    have t6 : τ 6 = .int .i64 B.2.1 := (hτ 6).trans rfl
    clear hτ
    have cb2 : w1.drew.cell? ⟨b, 0, none⟩ = _ := cb1
    have ci2 : w1.drew.cell? ⟨gl, i, none⟩ = _ := ci
    have cj2 : w1.drew.cell? ⟨gl, B.1.toNat, none⟩ = _ := cj
    refine Raw_ord (fun w' => w'.cell? ⟨b, 0, none⟩ = some (.slice (some ⟨gl, 0, none⟩) n c)) 16 rfl MX ?_
    refine Ord_reads (τ := ?ta) [0, 1, 2, 3, 4, 5, 8, 9, 6, 10] 6 rfl (by kernel_rfl) (by kernel_rfl) (fun _ _ _ h => h) cb2 (fun w7 h7 => ?_) ?_; rotate_left
    · simp only [opsL_cons, opsL_nil, List.getElem?_toArray, List.getElem?_cons_zero, List.getElem?_cons_succ, optL_some]
      simp +contextual (maxSteps := 2000000) (disch := (first | omega | (simp only [SZ]; done) | (simp only [SZ]; omega) | (simp only [TS] at *; omega))) only [RZ, gval, gslot, fillL, ovw, numb, catL, ldN, agL, okC, oneC, init, Nat.reduceAdd, Nat.reduceMul, Nat.reduceSub, Nat.reduceEqDiff, Nat.reduceLT, ↓reduceIte, Int.reduceToNat, Int.reduceAdd, Int.reduceSub, Int.reduceMul, Int.reduceLT, Int.reduceLE, Int.reduceEq, Nat.reduceLeDiff,  t0, t2, t5, t6, h7]
      exact rfl
    refine Ord_two (fun (_ _ : Option Unit) w' => w' = w1.drew) (fun _ => .int .i64 (l.getD B.1.toNat 0)) (fun _ => .int .i64 (l.getD i 0)) 7 11 23 27 rfl rfl (by decide) (by decide) (by decide) (by decide) (by kernel_rfl) (by kernel_rfl) (by kernel_rfl) rfl ?_ ?_ ?_
    · rintro y w3 σ' hσ rfl
      have h22 : σ' 22 = .pointer (some ⟨gl, B.1.toNat, none⟩) := (hσ 22 (by decide) (by decide)).trans rfl
      simp +contextual (maxSteps := 2000000) (disch := (first | omega | (simp only [SZ]; done) | (simp only [SZ]; omega) | (simp only [TS] at *; omega))) only [RZ, gval, gslot, fillL, ovw, numb, catL, ldN, agL, okC, oneC, init, Nat.reduceAdd, Nat.reduceMul, Nat.reduceSub, Nat.reduceEqDiff, Nat.reduceLT, ↓reduceIte, Int.reduceToNat, Int.reduceAdd, Int.reduceSub, Int.reduceMul, Int.reduceLT, Int.reduceLE, Int.reduceEq, Nat.reduceLeDiff,  h22, cj2]
      exact ⟨(), cb2⟩
    · rintro y w3 σ' hσ rfl
      have h26 : σ' 26 = .pointer (some ⟨gl, i, none⟩) := (hσ 26 (by decide) (by decide)).trans rfl
      simp +contextual (maxSteps := 2000000) (disch := (first | omega | (simp only [SZ]; done) | (simp only [SZ]; omega) | (simp only [TS] at *; omega))) only [RZ, gval, gslot, fillL, ovw, numb, catL, ldN, agL, okC, oneC, init, Nat.reduceAdd, Nat.reduceMul, Nat.reduceSub, Nat.reduceEqDiff, Nat.reduceLT, ↓reduceIte, Int.reduceToNat, Int.reduceAdd, Int.reduceSub, Int.reduceMul, Int.reduceLT, Int.reduceLE, Int.reduceEq, Nat.reduceLeDiff,  h26, ci2]
      exact ⟨(), cb2⟩
    rintro _ _ w3 rfl
    refine Ord_chainS _ [12, 13, 14, 15] _ _ _ (by kernel_rfl) ?_
    simp only [opsL_cons, opsL_nil, List.getElem?_toArray, List.getElem?_cons_zero, List.getElem?_cons_succ, optL_some]
    have hl2 := hl1.set_ (i := i) (by rw [iV_len]; exact hil) (.int .i64 (l.getD B.1.toNat 0))
    rw [iV_set] at hl2
    have hj2 : B.1.toNat < (l.set i (l.getD B.1.toNat 0)).length := by rw [List.length_set]; exact hj
    have c3 := hl2.cell (iV_get hj2)
    have hl3 := hl2.set_ (i := B.1.toNat) (by rw [iV_len]; exact hj2) (.int .i64 (l.getD i 0))
    rw [iV_set] at hl3
    have hbg : b ≠ gl := hb.2.2
    simp +contextual (maxSteps := 2000000) (disch := (first | omega | (simp only [SZ]; done) | (simp only [SZ]; omega) | (simp only [TS] at *; omega))) only [RZ, gval, gslot, fillL, ovw, numb, catL, ldN, agL, okC, oneC, init, Nat.reduceAdd, Nat.reduceMul, Nat.reduceSub, Nat.reduceEqDiff, Nat.reduceLT, ↓reduceIte, Int.reduceToNat, Int.reduceAdd, Int.reduceSub, Int.reduceMul, Int.reduceLT, Int.reduceLE, Int.reduceEq, Nat.reduceLeDiff,  EC_op, EC_nil, zi, zj, ci2, cj2, c3, t6, cb1, hbg]
    exact ⟨(hs1.far (p := ⟨gl, i, none⟩) hgn _).far (p := ⟨gl, B.1.toNat, none⟩) hgn _, hl3, ((hk1.setCell (p := ⟨gl, i, none⟩) (by simp) _).setCell (p := ⟨gl, B.1.toNat, none⟩) (by simp) _).drew⟩
  · have hx : stepL l i B = l := if_neg hc
    rw [hx]
    simp +contextual (maxSteps := 2000000) (disch := (first | omega | (simp only [SZ]; done) | (simp only [SZ]; omega) | (simp only [TS] at *; omega))) only [RZ, gval, gslot, fillL, ovw, numb, catL, ldN, agL, okC, oneC, init, Nat.reduceAdd, Nat.reduceMul, Nat.reduceSub, Nat.reduceEqDiff, Nat.reduceLT, ↓reduceIte, Int.reduceToNat, Int.reduceAdd, Int.reduceSub, Int.reduceMul, Int.reduceLT, Int.reduceLE, Int.reduceEq, Nat.reduceLeDiff]
    exact ⟨hs1, hl1, hk1⟩
/-- A shuffle of n numbers, from a stream. -/
theorem shuffle_any (gs : Nat) (n : Nat) (st : Int) (w : World) (hs : StrIn w gs st) (h1 : 1 ≤ n) (hn : n ≤ 4096) : Calls Tryd.prog 81 #[.pointer (some ⟨gs, 0, none⟩), .int .i64 n] w fun e w' =>
    ∃ gl, w.heap.size ≤ gl ∧ StrIn w' gs (shuS n st).2.2 ∧ Only gs (gs + 1) w w' ∧
      if (shuS n st).2.1 = 0 then e = .returned (.tuple #[.slice (some ⟨gl, 0, none⟩) n n, .int .i64 0]) ∧ Row w' gl 3 (iV (shuS n st).1) else e = .returned (.tuple #[.slice none 0 0, .int .i64 (shuS n st).2.1]) := by
  refine calls_W (l := [_, _]) Tryd.func81 rfl _ Tryd.ntmps81 (by simp) ?_
  have hgs := hs.lt
  simp +contextual (maxSteps := 2000000) (disch := (first | omega | (simp only [SZ]; done) | (simp only [SZ]; omega) | (simp only [TS] at *; omega))) only [RZ, gval, gslot, fillL, ovw, numb, catL, ldN, agL, okC, oneC, init, Nat.reduceAdd, Nat.reduceMul, Nat.reduceSub, Nat.reduceEqDiff, Nat.reduceLT, ↓reduceIte, Int.reduceToNat, Int.reduceAdd, Int.reduceSub, Int.reduceMul, Int.reduceLT, Int.reduceLE, Int.reduceEq, Nat.reduceLeDiff]
  refine W_if_f rfl ?_
  simp +contextual (maxSteps := 2000000) (disch := (first | omega | (simp only [SZ]; done) | (simp only [SZ]; omega) | (simp only [TS] at *; omega))) only [RZ, gval, gslot, fillL, ovw, numb, catL, ldN, agL, okC, oneC, init, Nat.reduceAdd, Nat.reduceMul, Nat.reduceSub, Nat.reduceEqDiff, Nat.reduceLT, ↓reduceIte, Int.reduceToNat, Int.reduceAdd, Int.reduceSub, Int.reduceMul, Int.reduceLT, Int.reduceLE, Int.reduceEq, Nat.reduceLeDiff]
  (refine W_if rfl (fun hc => ?_) (fun hc => ?_) <;> (try simp only [TS] at hc))
  · exfalso; omega
  clear hc
  have hs0 := hs.below (below_alloc w (.cells #[.pointer (some ⟨gs, 0, none⟩)] 86))
  have ca0 := (new_block w #[.pointer (some ⟨gs, 0, none⟩)] 86).1 0
  have hk0 : Kept [gs] w (w.alloc (.cells #[.pointer (some ⟨gs, 0, none⟩)] 86)) := (Kept.refl _ _).alloc _
  have hz0 : (w.alloc (.cells #[.pointer (some ⟨gs, 0, none⟩)] 86)).heap.size = w.heap.size + 1 := World.size_alloc _ _
  simp +contextual (maxSteps := 2000000) (disch := (first | omega | (simp only [SZ]; done) | (simp only [SZ]; omega) | (simp only [TS] at *; omega))) only [RZ, gval, gslot, fillL, ovw, numb, catL, ldN, agL, okC, oneC, init, Nat.reduceAdd, Nat.reduceMul, Nat.reduceSub, Nat.reduceEqDiff, Nat.reduceLT, ↓reduceIte, Int.reduceToNat, Int.reduceAdd, Int.reduceSub, Int.reduceMul, Int.reduceLT, Int.reduceLE, Int.reduceEq, Nat.reduceLeDiff]
  generalize w.alloc (.cells #[.pointer (some ⟨gs, 0, none⟩)] 86) = w1 at *
  refine (ascending_any n w1 hn).mono ?_
  rintro e w2 ⟨rfl, hR2, hB2⟩
  refine ⟨_, rfl, ?_⟩
  have hs2 := hs0.below hB2
  have hk2 := hk0.trans (Kept.of_below hB2)
  have ca2 := (hB2.cell (p := ⟨w.heap.size, 0, none⟩) (by show w.heap.size < _; omega)).trans ca0
  have hz2 := hR2.lt
  rw [hz0] at hR2 hz2 ⊢
  simp +contextual (maxSteps := 2000000) (disch := (first | omega | (simp only [SZ]; done) | (simp only [SZ]; omega) | (simp only [TS] at *; omega))) only [RZ, gval, gslot, fillL, ovw, numb, catL, ldN, agL, okC, oneC, init, Nat.reduceAdd, Nat.reduceMul, Nat.reduceSub, Nat.reduceEqDiff, Nat.reduceLT, ↓reduceIte, Int.reduceToNat, Int.reduceAdd, Int.reduceSub, Int.reduceMul, Int.reduceLT, Int.reduceLE, Int.reduceEq, Nat.reduceLeDiff]
  have hs3 := hs2.below (below_alloc w2 (.cells #[.slice (some ⟨w.heap.size + 1, 0, none⟩) n n] 74))
  have hk3 := hk2.alloc (.cells #[.slice (some ⟨w.heap.size + 1, 0, none⟩) n n] 74)
  have hR3 := hR2.alloc (.cells #[.slice (some ⟨w.heap.size + 1, 0, none⟩) n n] 74)
  have cb3 := (new_block w2 #[.slice (some ⟨w.heap.size + 1, 0, none⟩) n n] 74).1 0
  have ca3 := ((below_alloc w2 (.cells #[.slice (some ⟨w.heap.size + 1, 0, none⟩) n n] 74)).cell (p := ⟨w.heap.size, 0, none⟩) (by show w.heap.size < _; omega)).trans ca2
  have hz3 : (w2.alloc (.cells #[.slice (some ⟨w.heap.size + 1, 0, none⟩) n n] 74)).heap.size = w2.heap.size + 1 := World.size_alloc _ _
  generalize w2.alloc (.cells #[.slice (some ⟨w.heap.size + 1, 0, none⟩) n n] 74) = w3 at *
  generalize hb : w2.heap.size = b at *
  simp only [List.getElem?_toArray, List.getElem?_cons_zero] at ca3 cb3
  refine Raw_loop (fun σ w4 => ∃ (i : Nat) (l : List Int) (st2 : Int), i < n ∧ l.length = n ∧ shufE i l st2 = shuS n st ∧ StrIn w4 gs st2 ∧ Row w4 (w.heap.size + 1) 3 (iV l) ∧ Kept [gs, w.heap.size + 1] w3 w4 ∧
    σ 6 = .pointer (some ⟨b, 0, none⟩) ∧ σ 7 = .func (.func 108) #[] #[.pointer (some ⟨w.heap.size, 0, none⟩), .pointer (some ⟨b, 0, none⟩)] ∧ σ 8 = .int .i64 i) (fun σ _ => (intOf (σ 8)).toNat) ?_ ?_
  · simp +contextual (maxSteps := 2000000) (disch := (first | omega | (simp only [SZ]; done) | (simp only [SZ]; omega) | (simp only [TS] at *; omega))) only [RZ, gval, gslot, fillL, ovw, numb, catL, ldN, agL, okC, oneC, init, Nat.reduceAdd, Nat.reduceMul, Nat.reduceSub, Nat.reduceEqDiff, Nat.reduceLT, ↓reduceIte, Int.reduceToNat, Int.reduceAdd, Int.reduceSub, Int.reduceMul, Int.reduceLT, Int.reduceLE, Int.reduceEq, Nat.reduceLeDiff]
    exact ⟨n - 1, asc1 n, st, by omega, asc1_len n, rfl, hs3, hR3, Kept.refl _ _, by congr 1; omega⟩
  rintro σ w4 ⟨i, l, st2, hi, hl, hsh, hs4, hR4, hk4, f6, f7, f8⟩ K hK
  have ca4 := (hk4.cell (o := 0) (g := w.heap.size) (by omega) (by simp; omega)).trans ca3
  have cb4 := (hk4.cell (o := 0) (g := b) (by omega) (by simp; omega)).trans cb3
  have hz4 := hk4.size
  have hfin : Kept [gs] w w4 := ((hk3.less (Y := [gs, w.heap.size + 1]) fun k h _ => by simp at h ⊢; exact .inl h).trans hk4).less fun k h1 h2 => by simp at h1 ⊢; omega
  simp +contextual (maxSteps := 2000000) (disch := (first | omega | (simp only [SZ]; done) | (simp only [SZ]; omega) | (simp only [TS] at *; omega))) only [RZ, gval, gslot, fillL, ovw, numb, catL, ldN, agL, okC, oneC, init, Nat.reduceAdd, Nat.reduceMul, Nat.reduceSub, Nat.reduceEqDiff, Nat.reduceLT, ↓reduceIte, Int.reduceToNat, Int.reduceAdd, Int.reduceSub, Int.reduceMul, Int.reduceLT, Int.reduceLE, Int.reduceEq, Nat.reduceLeDiff,  f6, f7, f8]
  (refine W_if rfl (fun hc => ?_) (fun hc => ?_) <;> (try simp only [TS] at hc))
  · obtain ⟨m, rfl⟩ : ∃ m, i = m + 1 := ⟨i - 1, by omega⟩
    rw [shufE] at hsh
    simp +contextual (maxSteps := 2000000) (disch := (first | omega | (simp only [SZ]; done) | (simp only [SZ]; omega) | (simp only [TS] at *; omega))) only [RZ, gval, gslot, fillL, ovw, numb, catL, ldN, agL, okC, oneC, init, Nat.reduceAdd, Nat.reduceMul, Nat.reduceSub, Nat.reduceEqDiff, Nat.reduceLT, ↓reduceIte, Int.reduceToNat, Int.reduceAdd, Int.reduceSub, Int.reduceMul, Int.reduceLT, Int.reduceLE, Int.reduceEq, Nat.reduceLeDiff,  f6, f7, f8]
    refine (shufStep_any gs (w.heap.size + 1) w.heap.size b st2 l n n (m + 1) w4 hs4 hR4 (by omega) hl hi hn (Nat.le_refl _) ca4 cb4 (by omega) (by omega)).mono ?_
    rintro e w5 ⟨rfl, hs5, hR5, hk5⟩
    refine ⟨_, rfl, ?_⟩
    rw [show ((m + 1 : Nat) : Int) + 1 = (m : Int) + 2 by omega] at hs5 hR5 ⊢
    have hfin5 : Kept [gs] w w5 := ((hfin.less (Y := [gs, w.heap.size + 1]) fun k h _ => by simp at h ⊢; exact .inl h).trans hk5).less fun k h1 h2 => by simp at h1 ⊢; omega
    generalize belE ((m : Int) + 2) st2 = B at *
    simp +contextual (maxSteps := 2000000) (disch := (first | omega | (simp only [SZ]; done) | (simp only [SZ]; omega) | (simp only [TS] at *; omega))) only [RZ, gval, gslot, fillL, ovw, numb, catL, ldN, agL, okC, oneC, init, Nat.reduceAdd, Nat.reduceMul, Nat.reduceSub, Nat.reduceEqDiff, Nat.reduceLT, ↓reduceIte, Int.reduceToNat, Int.reduceAdd, Int.reduceSub, Int.reduceMul, Int.reduceLT, Int.reduceLE, Int.reduceEq, Nat.reduceLeDiff,  f6, f7, f8]
    (refine W_if rfl (fun hc => ?_) (fun hc => ?_) <;> (try simp only [TS] at hc))
    · have hc' : ¬ B.2.1 = 0 := hc
      rw [if_neg hc'] at hsh
      simp +contextual (maxSteps := 2000000) (disch := (first | omega | (simp only [SZ]; done) | (simp only [SZ]; omega) | (simp only [TS] at *; omega))) only [RZ, gval, gslot, fillL, ovw, numb, catL, ldN, agL, okC, oneC, init, Nat.reduceAdd, Nat.reduceMul, Nat.reduceSub, Nat.reduceEqDiff, Nat.reduceLT, ↓reduceIte, Int.reduceToNat, Int.reduceAdd, Int.reduceSub, Int.reduceMul, Int.reduceLT, Int.reduceLE, Int.reduceEq, Nat.reduceLeDiff,  f6, f7, f8]
      rw [← hsh]
      refine ⟨w.heap.size, Nat.le_refl _, hs5, hfin5.only, ?_⟩
      dsimp only
      rw [if_neg hc']
    · have hc' : B.2.1 = 0 := by omega
      rw [if_pos hc'] at hsh
      unfold stepL at hR5
      rw [if_pos hc'] at hR5
      simp +contextual (maxSteps := 2000000) (disch := (first | omega | (simp only [SZ]; done) | (simp only [SZ]; omega) | (simp only [TS] at *; omega))) only [RZ, gval, gslot, fillL, ovw, numb, catL, ldN, agL, okC, oneC, init, Nat.reduceAdd, Nat.reduceMul, Nat.reduceSub, Nat.reduceEqDiff, Nat.reduceLT, ↓reduceIte, Int.reduceToNat, Int.reduceAdd, Int.reduceSub, Int.reduceMul, Int.reduceLT, Int.reduceLE, Int.reduceEq, Nat.reduceLeDiff,  f6, f7, f8]
      refine hK _ _ ⟨m, swp l (m + 1) B.1.toNat, B.2.2, by omega, by rw [swp_len, hl], hsh, hs5, hR5, hk4.trans hk5, ?_⟩ ?_
      · simp +contextual (maxSteps := 2000000) (disch := (first | omega | (simp only [SZ]; done) | (simp only [SZ]; omega) | (simp only [TS] at *; omega))) only [RZ, gval, gslot, fillL, ovw, numb, catL, ldN, agL, okC, oneC, init, Nat.reduceAdd, Nat.reduceMul, Nat.reduceSub, Nat.reduceEqDiff, Nat.reduceLT, ↓reduceIte, Int.reduceToNat, Int.reduceAdd, Int.reduceSub, Int.reduceMul, Int.reduceLT, Int.reduceLE, Int.reduceEq, Nat.reduceLeDiff,  f6, f7, f8]
        congr 1
        omega
      · simp +contextual (maxSteps := 2000000) (disch := (first | omega | (simp only [SZ]; done) | (simp only [SZ]; omega) | (simp only [TS] at *; omega))) only [RZ, gval, gslot, fillL, ovw, numb, catL, ldN, agL, okC, oneC, init, Nat.reduceAdd, Nat.reduceMul, Nat.reduceSub, Nat.reduceEqDiff, Nat.reduceLT, ↓reduceIte, Int.reduceToNat, Int.reduceAdd, Int.reduceSub, Int.reduceMul, Int.reduceLT, Int.reduceLE, Int.reduceEq, Nat.reduceLeDiff,  intOf, f8]
        omega
  · simp +contextual (maxSteps := 2000000) (disch := (first | omega | (simp only [SZ]; done) | (simp only [SZ]; omega) | (simp only [TS] at *; omega))) only [RZ, gval, gslot, fillL, ovw, numb, catL, ldN, agL, okC, oneC, init, Nat.reduceAdd, Nat.reduceMul, Nat.reduceSub, Nat.reduceEqDiff, Nat.reduceLT, ↓reduceIte, Int.reduceToNat, Int.reduceAdd, Int.reduceSub, Int.reduceMul, Int.reduceLT, Int.reduceLE, Int.reduceEq, Nat.reduceLeDiff,  f6, f7, f8, cb4]
    obtain rfl : i = 0 := by omega
    rw [shufE] at hsh
    rw [← hsh]
    exact ⟨w.heap.size + 1, by omega, hs4, hfin.only, rfl, hR4⟩
end Go.Proofs.YtcnlopjjejdahaaDoor
