/- Texts laid one behind the other: RpC, RpD, RpE. Each says at its head what it proves. -/
import Derived.Test.YtbdkggnajipdhaaGreatDoorRtStZ14
set_option linter.unusedSimpArgs false
/- Walks: the reference's printer of games: printDays, printAddon, printTier. -/
namespace Go.Proofs.YtbdkggnajipdhaaGreatDoor
open Nat (reduceAdd reduceMul reduceSub reduceEqDiff reduceLT reduceLeDiff)
open Go.RowKit
set_option maxRecDepth 100000
theorem addon_lits : bs ⟨#[32, 32, 97, 100, 100, 111, 110, 32]⟩ = 32 :: 32 :: (asc "addon" ++ [32]) ∧ bs ⟨#[32, 102, 97, 99, 116, 111, 114, 32]⟩ = 32 :: (asc "factor" ++ [32]) ∧ bs ⟨#[32, 115, 101, 114, 105, 97, 108, 32]⟩ = 32 :: (asc "serial" ++ [32]) ∧ bs ⟨#[32]⟩ = [32] ∧ bs ⟨#[59, 10]⟩ = asc ";\n" := by decide +kernel
set_option maxHeartbeats 4000000 in
theorem rprintAddon_any (a : Ad) (vf vs : Value) (w : World) (hf : IntsR w vf a.factors) (hs : IntsR w vs a.serials) (hnl : a.name.size ≤ 1000000) (hfl : a.factors.length ≤ 1000000) (hsl : a.serials.length ≤ 1000000) (hp : numR a.price) (hd : numR a.digits) (hfn : ∀ n ∈ a.factors, numR n) (hsn : ∀ n ∈ a.serials, numR n) :
    Calls Tryz.prog 44 #[.agg (encAd a vf vs).toArray] w fun e w' => Below w.heap.size w w' ∧ ∃ r, e = .returned (.string r) ∧ bs r = lineG (.addon a) ∧ r.size ≤ 100000000 := by
  refine calls_W (l := [_]) Tryz.func44 rfl _ Tryz.ntmps44 (by simp) ?_
  obtain ⟨Af, cf, rfl, hf⟩ := hf
  obtain ⟨As, cS, rfl, hs⟩ := hs
  obtain ⟨q1, q2, q3, q4, q5⟩ := addon_lits
  have r0 := Row.new w 45 (encAd a (.slice Af a.factors.length cf) (.slice As a.serials.length cS))
  have b0 := below_alloc w (.cells (encAd a (.slice Af a.factors.length cf) (.slice As a.serials.length cS)).toArray 45)
  refine W_piece fun K hK hX => ?_
  simp +contextual (maxSteps := 2000000) (disch := first | omega | (simp only [SZ]; first | done | omega) | (simp only [TS] at *; omega)) only [RZ, ovw, oneC, reduceAdd, reduceMul, reduceSub, reduceEqDiff, reduceLT, ↓reduceIte, Int.reduceToNat, reduceLeDiff]
  refine hK _ _ ?_
  clear hK hX K
  generalize w.alloc (.cells (encAd a (.slice Af a.factors.length cf) (.slice As a.serials.length cS)).toArray 45) = w1 at r0 b0 ⊢
  have hz0 := b0.size
  have z1 := fmtB_size hp
  have z2 := fmtB_size hd
  have c1 : w1.cell? ⟨w.heap.size, 1, none⟩ = some (.int .i64 a.kind) := r0.cell (i := 1) rfl
  simp +contextual (maxSteps := 2000000) (disch := first | omega | (simp only [SZ]; first | done | omega) | (simp only [TS] at *; omega)) only [RZ, ovw, oneC, reduceAdd, reduceMul, reduceSub, reduceEqDiff, reduceLT, ↓reduceIte, Int.reduceToNat, reduceLeDiff,  c1]
  by_cases hk : a.kind = 1
  · rw [show decide (a.kind = 1) = true by simp [hk]]
    refine W_if_t rfl ?_
    simp +contextual (maxSteps := 2000000) (disch := first | omega | (simp only [SZ]; first | done | omega) | (simp only [TS] at *; omega)) only [RZ, ovw, oneC, reduceAdd, reduceMul, reduceSub, reduceEqDiff, reduceLT, ↓reduceIte, Int.reduceToNat, reduceLeDiff]
    have hJ0 : Below w1.heap.size w1 w1.drew := below_drew (Below.refl _ _)
    refine Raw_ord (fun w' => Below w1.heap.size w1 w') 14 rfl MX ?_
    refine Ord_reads (τ := ?ta0) [0, 1, 2, 3, 4, 5, 8, 9] 6 rfl (by kernel_rfl) (by kernel_rfl) (fun _ _ _ h => h) hJ0 (fun w7 h7 => ?_) ?_; rotate_left
    · have r7 := r0.below h7
      have x0 := r7.cell (i := 0) rfl
      have x2 := r7.cell (i := 2) rfl
      have x3 := r7.cell (i := 3) rfl
      have x4 := r7.cell (i := 4) rfl
      have x5 := r7.cell (i := 5) rfl
      simp only [opsL_cons, opsL_nil, List.getElem?_toArray, List.getElem?_cons_zero, List.getElem?_cons_succ, optL_some]
      simp +contextual (maxSteps := 2000000) (disch := first | omega | (simp only [SZ]; first | done | omega) | (simp only [TS] at *; omega)) only [RZ, ovw, oneC, reduceAdd, reduceMul, reduceSub, reduceEqDiff, reduceLT, ↓reduceIte, Int.reduceToNat, reduceLeDiff,  x0, x2, x3, x4, x5]
      exact rfl
    refine Ord_one 6 (by kernel_rfl) rfl ?_
    simp +contextual (maxSteps := 2000000) (disch := first | omega | (simp only [SZ]; first | done | omega) | (simp only [TS] at *; omega)) only [RZ, ovw, oneC, reduceAdd, reduceMul, reduceSub, reduceEqDiff, reduceLT, ↓reduceIte, Int.reduceToNat, reduceLeDiff]
    refine (rformat_any a.price (w1.drew) hp).mono ?_
    rintro e u1 ⟨rfl, hB1⟩
    refine ⟨_, rfl, ?_⟩
    have hJ1 := hJ0.trans hB1
    have hz1 := hJ1.size
    refine ⟨hJ1, ?_⟩
    refine Ord_reads (τ := ?ta1) [7] 4 rfl (by kernel_rfl) (by kernel_rfl) (fun _ _ _ h => h) hJ1 (fun w7 h7 => ?_) ?_; rotate_left
    · simp only [opsL_cons, opsL_nil, List.getElem?_toArray, List.getElem?_cons_zero, List.getElem?_cons_succ, optL_some]
      simp +contextual (maxSteps := 2000000) (disch := first | omega | (simp only [SZ]; first | done | omega) | (simp only [TS] at *; omega)) only [RZ, ovw, oneC, reduceAdd, reduceMul, reduceSub, reduceEqDiff, reduceLT, ↓reduceIte, Int.reduceToNat, reduceLeDiff]
      exact rfl
    refine Ord_one 10 (by kernel_rfl) rfl ?_
    simp +contextual (maxSteps := 2000000) (disch := first | omega | (simp only [SZ]; first | done | omega) | (simp only [TS] at *; omega)) only [RZ, ovw, oneC, reduceAdd, reduceMul, reduceSub, reduceEqDiff, reduceLT, ↓reduceIte, Int.reduceToNat, reduceLeDiff]
    refine (rrow_any a.factors Af cf (u1) (hf.below (b0.trans (hJ1.mono hz0))) hfl hfn).mono ?_
    rintro e u2 ⟨hB2, r1, rfl, hr1, hrz⟩
    refine ⟨_, rfl, ?_⟩
    have hJ2 := hJ1.trans (hB2.mono hz1)
    have hz2 := hJ2.size
    refine ⟨hJ2, ?_⟩
    refine Ord_chainS _ [11, 12, 13] _ _ _ (by kernel_rfl) ?_
    simp only [opsL_cons, opsL_nil, List.getElem?_toArray, List.getElem?_cons_zero, List.getElem?_cons_succ, optL_some]
    simp +contextual (maxSteps := 2000000) (disch := first | omega | (simp only [SZ]; first | done | omega) | (simp only [TS] at *; omega)) only [RZ, ovw, oneC, reduceAdd, reduceMul, reduceSub, reduceEqDiff, reduceLT, ↓reduceIte, Int.reduceToNat, reduceLeDiff,  EC_op, EC_nil, hJ2]
    refine ⟨b0.trans (hJ2.mono hz0), _, rfl, ?_, ?_⟩
    · simp only [bs_append, bs_fmtB, lineG, It.words, hk, if_true, q1, q2, q5, hr1]
      simp
    · simp only [SZ]; omega
  · rw [show decide (a.kind = 1) = false by simp [hk]]
    refine W_if_f rfl ?_
    simp +contextual (maxSteps := 2000000) (disch := first | omega | (simp only [SZ]; first | done | omega) | (simp only [TS] at *; omega)) only [RZ, ovw, oneC, reduceAdd, reduceMul, reduceSub, reduceEqDiff, reduceLT, ↓reduceIte, Int.reduceToNat, reduceLeDiff]
    have hJ0 : Below w1.heap.size w1 w1.drew := below_drew (Below.refl _ _)
    refine Raw_ord (fun w' => Below w1.heap.size w1 w') 19 rfl MX ?_
    refine Ord_reads (τ := ?tb0) [0, 1, 2, 3, 4, 5, 9, 10, 13, 14] 9 rfl (by kernel_rfl) (by kernel_rfl) (fun _ _ _ h => h) hJ0 (fun w7 h7 => ?_) ?_; rotate_left
    · have r7 := r0.below h7
      have x0 := r7.cell (i := 0) rfl
      have x2 := r7.cell (i := 2) rfl
      have x3 := r7.cell (i := 3) rfl
      have x4 := r7.cell (i := 4) rfl
      have x5 := r7.cell (i := 5) rfl
      simp only [opsL_cons, opsL_nil, List.getElem?_toArray, List.getElem?_cons_zero, List.getElem?_cons_succ, optL_some]
      simp +contextual (maxSteps := 2000000) (disch := first | omega | (simp only [SZ]; first | done | omega) | (simp only [TS] at *; omega)) only [RZ, ovw, oneC, reduceAdd, reduceMul, reduceSub, reduceEqDiff, reduceLT, ↓reduceIte, Int.reduceToNat, reduceLeDiff,  x0, x2, x3, x4, x5]
      exact rfl
    refine Ord_one 6 (by kernel_rfl) rfl ?_
    simp +contextual (maxSteps := 2000000) (disch := first | omega | (simp only [SZ]; first | done | omega) | (simp only [TS] at *; omega)) only [RZ, ovw, oneC, reduceAdd, reduceMul, reduceSub, reduceEqDiff, reduceLT, ↓reduceIte, Int.reduceToNat, reduceLeDiff]
    refine (rformat_any a.price (w1.drew) hp).mono ?_
    rintro e u1 ⟨rfl, hB1⟩
    refine ⟨_, rfl, ?_⟩
    have hJ1 := hJ0.trans hB1
    have hz1 := hJ1.size
    refine ⟨hJ1, ?_⟩
    refine Ord_reads (τ := ?tb1) [7, 8] 6 rfl (by kernel_rfl) (by kernel_rfl) (fun _ _ _ h => h) hJ1 (fun w7 h7 => ?_) ?_; rotate_left
    · simp only [opsL_cons, opsL_nil, List.getElem?_toArray, List.getElem?_cons_zero, List.getElem?_cons_succ, optL_some]
      simp +contextual (maxSteps := 2000000) (disch := first | omega | (simp only [SZ]; first | done | omega) | (simp only [TS] at *; omega)) only [RZ, ovw, oneC, reduceAdd, reduceMul, reduceSub, reduceEqDiff, reduceLT, ↓reduceIte, Int.reduceToNat, reduceLeDiff]
      exact rfl
    refine Ord_one 11 (by kernel_rfl) rfl ?_
    simp +contextual (maxSteps := 2000000) (disch := first | omega | (simp only [SZ]; first | done | omega) | (simp only [TS] at *; omega)) only [RZ, ovw, oneC, reduceAdd, reduceMul, reduceSub, reduceEqDiff, reduceLT, ↓reduceIte, Int.reduceToNat, reduceLeDiff]
    refine (rformat_any a.digits (u1) hd).mono ?_
    rintro e u2 ⟨rfl, hB2⟩
    refine ⟨_, rfl, ?_⟩
    have hJ2 := hJ1.trans (hB2.mono hz1)
    have hz2 := hJ2.size
    refine ⟨hJ2, ?_⟩
    refine Ord_reads (τ := ?tb2) [12] 4 rfl (by kernel_rfl) (by kernel_rfl) (fun _ _ _ h => h) hJ2 (fun w7 h7 => ?_) ?_; rotate_left
    · simp only [opsL_cons, opsL_nil, List.getElem?_toArray, List.getElem?_cons_zero, List.getElem?_cons_succ, optL_some]
      simp +contextual (maxSteps := 2000000) (disch := first | omega | (simp only [SZ]; first | done | omega) | (simp only [TS] at *; omega)) only [RZ, ovw, oneC, reduceAdd, reduceMul, reduceSub, reduceEqDiff, reduceLT, ↓reduceIte, Int.reduceToNat, reduceLeDiff]
      exact rfl
    refine Ord_one 15 (by kernel_rfl) rfl ?_
    simp +contextual (maxSteps := 2000000) (disch := first | omega | (simp only [SZ]; first | done | omega) | (simp only [TS] at *; omega)) only [RZ, ovw, oneC, reduceAdd, reduceMul, reduceSub, reduceEqDiff, reduceLT, ↓reduceIte, Int.reduceToNat, reduceLeDiff]
    refine (rrow_any a.serials As cS (u2) (hs.below (b0.trans (hJ2.mono hz0))) hsl hsn).mono ?_
    rintro e u3 ⟨hB3, r1, rfl, hr1, hrz⟩
    refine ⟨_, rfl, ?_⟩
    have hJ3 := hJ2.trans (hB3.mono hz2)
    have hz3 := hJ3.size
    refine ⟨hJ3, ?_⟩
    refine Ord_chainS _ [16, 17, 18] _ _ _ (by kernel_rfl) ?_
    simp only [opsL_cons, opsL_nil, List.getElem?_toArray, List.getElem?_cons_zero, List.getElem?_cons_succ, optL_some]
    simp +contextual (maxSteps := 2000000) (disch := first | omega | (simp only [SZ]; first | done | omega) | (simp only [TS] at *; omega)) only [RZ, ovw, oneC, reduceAdd, reduceMul, reduceSub, reduceEqDiff, reduceLT, ↓reduceIte, Int.reduceToNat, reduceLeDiff,  EC_op, EC_nil, hJ3]
    refine ⟨b0.trans (hJ3.mono hz0), _, rfl, ?_, ?_⟩
    · simp only [bs_append, bs_fmtB, lineG, It.words, hk, if_false, q1, q3, q4, q5, hr1]
      simp
    · simp only [SZ]; omega
theorem tier_lits : bs ⟨#[32, 32, 116, 105, 101, 114]⟩ = 32 :: 32 :: asc "tier" ∧ bs ⟨#[32, 101, 120, 97, 99, 116]⟩ = 32 :: asc "exact" ∧ bs ⟨#[32, 98, 111, 120]⟩ = 32 :: asc "box" ∧ bs ⟨#[32, 102, 114, 111, 110, 116, 32]⟩ = 32 :: (asc "front" ++ [32]) ∧ bs ⟨#[32, 98, 97, 99, 107, 32]⟩ = 32 :: (asc "back" ++ [32]) ∧
    bs ⟨#[109, 97, 105, 110]⟩ = asc "main" ∧ bs ⟨#[98, 111, 110, 117, 115]⟩ = asc "bonus" ∧ bs ⟨#[101, 120, 116, 114, 97]⟩ = asc "extra" := by decide +kernel
def kindS (k : Int) : ByteArray := if k = 1 then ⟨#[32, 102, 105, 120, 101, 100, 32]⟩ else if k = 2 then ⟨#[32, 115, 104, 97, 114, 101, 32]⟩ else ⟨#[32, 106, 97, 99, 107, 112, 111, 116, 32]⟩
theorem bs_kindS (k : Int) : bs (kindS k) = 32 :: (kindW k ++ [32]) := by
  unfold kindS kindW
  by_cases h1 : k = 1
  · rw [if_pos h1, if_pos h1]; decide +kernel
  · rw [if_neg h1, if_neg h1]
    by_cases h2 : k = 2
    · rw [if_pos h2, if_pos h2]; decide +kernel
    · rw [if_neg h2, if_neg h2]; decide +kernel
theorem kindS_size (k : Int) : (kindS k).size ≤ 9 := by
  unfold kindS
  by_cases h1 : k = 1
  · rw [if_pos h1]; decide
  · rw [if_neg h1]
    by_cases h2 : k = 2
    · rw [if_pos h2]; decide
    · rw [if_neg h2]; decide
set_option maxHeartbeats 4000000 in
theorem rprintTier_any (t : Ti) (w : World) (hm : numR t.main) (hb : numR t.bonus) (he : numR t.extra) (hv : numR t.value) (hmode : 0 ≤ t.mode ∧ t.mode ≤ 4) (hkind : 1 ≤ t.kind ∧ t.kind ≤ 3) :
    Calls Tryz.prog 45 #[.agg (encTi t).toArray] w fun e w' => Below w.heap.size w w' ∧ ∃ r, e = .returned (.string r) ∧ bs r = lineG (.tier t) ∧ r.size ≤ 100000000 := by
  refine calls_W (l := [_]) Tryz.func45 rfl _ Tryz.ntmps45 (by simp) ?_
  obtain ⟨q1, q2, q3, q4, q5, q6, q7, q8⟩ := tier_lits
  have r0 := Row.new w 41 (encTi t)
  have b0 := below_alloc w (.cells (encTi t).toArray 41)
  refine W_piece fun K hK hX => ?_
  simp +contextual (maxSteps := 2000000) (disch := first | omega | (simp only [SZ]; first | done | omega) | (simp only [TS] at *; omega)) only [RZ, ovw, oneC, reduceAdd, reduceMul, reduceSub, reduceEqDiff, reduceLT, ↓reduceIte, Int.reduceToNat, reduceLeDiff]
  refine hK _ _ ?_
  clear hK hX K
  generalize w.alloc (.cells (encTi t).toArray 41) = w1 at r0 b0 ⊢
  have hz0 := b0.size
  have z1 := fmtB_size hm
  have z2 := fmtB_size hv
  refine W_piece fun K hK hX => ?_
  simp +contextual (maxSteps := 2000000) (disch := first | omega | (simp only [SZ]; first | done | omega) | (simp only [TS] at *; omega)) only [RZ, ovw, oneC, reduceAdd, reduceMul, reduceSub, reduceEqDiff, reduceLT, ↓reduceIte, Int.reduceToNat, reduceLeDiff]
  refine hK _ _ ?_
  clear hK hX K
  refine W_cutS (fun σ w2 => Below w1.heap.size w1 w2 ∧ ∃ r, σ 3 = .string r ∧ bs r = 32 :: 32 :: (asc "tier" ++ (modeW t).flatMap (32 :: ·)) ∧ r.size ≤ 200 ∧ σ 1 = .pointer (some ⟨w.heap.size, 0, none⟩)) ?_ ?_
  rotate_left
  · have c3 : w1.cell? ⟨w.heap.size, 3, none⟩ = some (.int .i64 t.mode) := r0.cell (i := 3) rfl
    have c0 : w1.cell? ⟨w.heap.size, 0, none⟩ = some (.int .i64 t.main) := r0.cell (i := 0) rfl
    have em : ∀ k : Int, t.mode = k → decide (t.mode = k) = true := fun k h => by simp [h]
    have en : ∀ k : Int, t.mode ≠ k → decide (t.mode = k) = false := fun k h => by simp [h]
    simp +contextual (maxSteps := 2000000) (disch := first | omega | (simp only [SZ]; first | done | omega) | (simp only [TS] at *; omega)) only [RZ, ovw, oneC, reduceAdd, reduceMul, reduceSub, reduceEqDiff, reduceLT, ↓reduceIte, Int.reduceToNat, reduceLeDiff,  c3]
    by_cases h1 : t.mode = 1
    · rw [em 1 h1]
      refine W_if_t rfl ?_
      simp +contextual (maxSteps := 2000000) (disch := first | omega | (simp only [SZ]; first | done | omega) | (simp only [TS] at *; omega)) only [RZ, ovw, oneC, reduceAdd, reduceMul, reduceSub, reduceEqDiff, reduceLT, ↓reduceIte, Int.reduceToNat, reduceLeDiff]
      refine ⟨Below.refl _ _, _, rfl, ?_, ?_⟩
      · simp [bs_append, bs_fmtB, modeW, h1, q1, q2]
      · simp only [SZ]; omega
    rw [en 1 h1]
    refine W_if_f rfl ?_
    simp +contextual (maxSteps := 2000000) (disch := first | omega | (simp only [SZ]; first | done | omega) | (simp only [TS] at *; omega)) only [RZ, ovw, oneC, reduceAdd, reduceMul, reduceSub, reduceEqDiff, reduceLT, ↓reduceIte, Int.reduceToNat, reduceLeDiff]
    by_cases h2 : t.mode = 2
    · rw [em 2 h2]
      refine W_if_t rfl ?_
      simp +contextual (maxSteps := 2000000) (disch := first | omega | (simp only [SZ]; first | done | omega) | (simp only [TS] at *; omega)) only [RZ, ovw, oneC, reduceAdd, reduceMul, reduceSub, reduceEqDiff, reduceLT, ↓reduceIte, Int.reduceToNat, reduceLeDiff]
      refine ⟨Below.refl _ _, _, rfl, ?_, ?_⟩
      · simp [bs_append, bs_fmtB, modeW, h2, q1, q3]
      · simp only [SZ]; omega
    rw [en 2 h2]
    refine W_if_f rfl ?_
    simp +contextual (maxSteps := 2000000) (disch := first | omega | (simp only [SZ]; first | done | omega) | (simp only [TS] at *; omega)) only [RZ, ovw, oneC, reduceAdd, reduceMul, reduceSub, reduceEqDiff, reduceLT, ↓reduceIte, Int.reduceToNat, reduceLeDiff]
    by_cases h3 : t.mode = 3
    · rw [em 3 h3]
      refine W_if_t rfl ?_
      simp +contextual (maxSteps := 2000000) (disch := first | omega | (simp only [SZ]; first | done | omega) | (simp only [TS] at *; omega)) only [RZ, ovw, oneC, reduceAdd, reduceMul, reduceSub, reduceEqDiff, reduceLT, ↓reduceIte, Int.reduceToNat, reduceLeDiff,  c0]
      refine (rformat_any t.main w1 hm).mono ?_
      rintro e u1 ⟨rfl, hB1⟩
      refine ⟨_, rfl, ?_⟩
      simp +contextual (maxSteps := 2000000) (disch := first | omega | (simp only [SZ]; first | done | omega) | (simp only [TS] at *; omega)) only [RZ, ovw, oneC, reduceAdd, reduceMul, reduceSub, reduceEqDiff, reduceLT, ↓reduceIte, Int.reduceToNat, reduceLeDiff]
      refine ⟨hB1, _, rfl, ?_, ?_⟩
      · simp [bs_append, bs_fmtB, modeW, h3, q1, q4]
      · simp only [SZ]; omega
    rw [en 3 h3]
    refine W_if_f rfl ?_
    simp +contextual (maxSteps := 2000000) (disch := first | omega | (simp only [SZ]; first | done | omega) | (simp only [TS] at *; omega)) only [RZ, ovw, oneC, reduceAdd, reduceMul, reduceSub, reduceEqDiff, reduceLT, ↓reduceIte, Int.reduceToNat, reduceLeDiff]
    by_cases h4 : t.mode = 4
    · rw [em 4 h4]
      refine W_if_t rfl ?_
      simp +contextual (maxSteps := 2000000) (disch := first | omega | (simp only [SZ]; first | done | omega) | (simp only [TS] at *; omega)) only [RZ, ovw, oneC, reduceAdd, reduceMul, reduceSub, reduceEqDiff, reduceLT, ↓reduceIte, Int.reduceToNat, reduceLeDiff,  c0]
      refine (rformat_any t.main w1 hm).mono ?_
      rintro e u1 ⟨rfl, hB1⟩
      refine ⟨_, rfl, ?_⟩
      simp +contextual (maxSteps := 2000000) (disch := first | omega | (simp only [SZ]; first | done | omega) | (simp only [TS] at *; omega)) only [RZ, ovw, oneC, reduceAdd, reduceMul, reduceSub, reduceEqDiff, reduceLT, ↓reduceIte, Int.reduceToNat, reduceLeDiff]
      refine ⟨hB1, _, rfl, ?_, ?_⟩
      · simp [bs_append, bs_fmtB, modeW, h4, q1, q5]
      · simp only [SZ]; omega
    rw [en 4 h4]
    refine W_if_f rfl ?_
    simp +contextual (maxSteps := 2000000) (disch := first | omega | (simp only [SZ]; first | done | omega) | (simp only [TS] at *; omega)) only [RZ, ovw, oneC, reduceAdd, reduceMul, reduceSub, reduceEqDiff, reduceLT, ↓reduceIte, Int.reduceToNat, reduceLeDiff]
    have h0 : t.mode = 0 := by omega
    have hJ0 : Below w1.heap.size w1 w1.drew := below_drew (Below.refl _ _)
    refine Raw_ord (fun w' => Below w1.heap.size w1 w') 14 rfl MX ?_
    refine Ord_reads (τ := ?tc0) [0, 1, 2, 5, 6, 9, 10] 7 rfl (by kernel_rfl) (by kernel_rfl) (fun _ _ _ h => h) hJ0 (fun w7 h7 => ?_) ?_; rotate_left
    · have r7 := r0.below h7
      have x0 := r7.cell (i := 0) rfl
      have x1 := r7.cell (i := 1) rfl
      have x2 := r7.cell (i := 2) rfl
      simp only [opsL_cons, opsL_nil, List.getElem?_toArray, List.getElem?_cons_zero, List.getElem?_cons_succ, optL_some]
      simp +contextual (maxSteps := 2000000) (disch := first | omega | (simp only [SZ]; first | done | omega) | (simp only [TS] at *; omega)) only [RZ, ovw, oneC, reduceAdd, reduceMul, reduceSub, reduceEqDiff, reduceLT, ↓reduceIte, Int.reduceToNat, reduceLeDiff,  x0, x1, x2]
      exact rfl
    refine Ord_one 3 (by kernel_rfl) rfl ?_
    simp +contextual (maxSteps := 2000000) (disch := first | omega | (simp only [SZ]; first | done | omega) | (simp only [TS] at *; omega)) only [RZ, ovw, oneC, reduceAdd, reduceMul, reduceSub, reduceEqDiff, reduceLT, ↓reduceIte, Int.reduceToNat, reduceLeDiff]
    refine (rhit_any ⟨#[109, 97, 105, 110]⟩ t.main (w1.drew) (by decide) hm).mono ?_
    rintro e u1 ⟨hB1, r1, rfl, hr1, hs1⟩
    refine ⟨_, rfl, ?_⟩
    have hJ1 := hJ0.trans hB1
    have hz1 := hJ1.size
    rw [show (⟨#[109, 97, 105, 110]⟩ : ByteArray).size = 4 from rfl] at hs1
    refine ⟨hJ1, ?_⟩
    refine Ord_reads (τ := ?tc1) [4] 5 rfl (by kernel_rfl) (by kernel_rfl) (fun _ _ _ h => h) hJ1 (fun w7 h7 => ?_) ?_; rotate_left
    · simp only [opsL_cons, opsL_nil, List.getElem?_toArray, List.getElem?_cons_zero, List.getElem?_cons_succ, optL_some]
      simp +contextual (maxSteps := 2000000) (disch := first | omega | (simp only [SZ]; first | done | omega) | (simp only [TS] at *; omega)) only [RZ, ovw, oneC, reduceAdd, reduceMul, reduceSub, reduceEqDiff, reduceLT, ↓reduceIte, Int.reduceToNat, reduceLeDiff]
      exact rfl
    refine Ord_one 7 (by kernel_rfl) rfl ?_
    simp +contextual (maxSteps := 2000000) (disch := first | omega | (simp only [SZ]; first | done | omega) | (simp only [TS] at *; omega)) only [RZ, ovw, oneC, reduceAdd, reduceMul, reduceSub, reduceEqDiff, reduceLT, ↓reduceIte, Int.reduceToNat, reduceLeDiff]
    refine (rhit_any ⟨#[98, 111, 110, 117, 115]⟩ t.bonus (u1) (by decide) hb).mono ?_
    rintro e u2 ⟨hB2, r2, rfl, hr2, hs2⟩
    refine ⟨_, rfl, ?_⟩
    have hJ2 := hJ1.trans (hB2.mono hz1)
    have hz2 := hJ2.size
    rw [show (⟨#[98, 111, 110, 117, 115]⟩ : ByteArray).size = 5 from rfl] at hs2
    refine ⟨hJ2, ?_⟩
    refine Ord_reads (τ := ?tc2) [8] 3 rfl (by kernel_rfl) (by kernel_rfl) (fun _ _ _ h => h) hJ2 (fun w7 h7 => ?_) ?_; rotate_left
    · simp only [opsL_cons, opsL_nil, List.getElem?_toArray, List.getElem?_cons_zero, List.getElem?_cons_succ, optL_some]
      simp +contextual (maxSteps := 2000000) (disch := first | omega | (simp only [SZ]; first | done | omega) | (simp only [TS] at *; omega)) only [RZ, ovw, oneC, reduceAdd, reduceMul, reduceSub, reduceEqDiff, reduceLT, ↓reduceIte, Int.reduceToNat, reduceLeDiff]
      exact rfl
    refine Ord_one 11 (by kernel_rfl) rfl ?_
    simp +contextual (maxSteps := 2000000) (disch := first | omega | (simp only [SZ]; first | done | omega) | (simp only [TS] at *; omega)) only [RZ, ovw, oneC, reduceAdd, reduceMul, reduceSub, reduceEqDiff, reduceLT, ↓reduceIte, Int.reduceToNat, reduceLeDiff]
    refine (rhit_any ⟨#[101, 120, 116, 114, 97]⟩ t.extra (u2) (by decide) he).mono ?_
    rintro e u3 ⟨hB3, r3, rfl, hr3, hs3⟩
    refine ⟨_, rfl, ?_⟩
    have hJ3 := hJ2.trans (hB3.mono hz2)
    have hz3 := hJ3.size
    rw [show (⟨#[101, 120, 116, 114, 97]⟩ : ByteArray).size = 5 from rfl] at hs3
    refine ⟨hJ3, ?_⟩
    refine Ord_chainS _ [12, 13] _ _ _ (by kernel_rfl) ?_
    simp only [opsL_cons, opsL_nil, List.getElem?_toArray, List.getElem?_cons_zero, List.getElem?_cons_succ, optL_some]
    simp +contextual (maxSteps := 2000000) (disch := first | omega | (simp only [SZ]; first | done | omega) | (simp only [TS] at *; omega)) only [RZ, ovw, oneC, reduceAdd, reduceMul, reduceSub, reduceEqDiff, reduceLT, ↓reduceIte, Int.reduceToNat, reduceLeDiff,  EC_op, EC_nil, hJ3]
    refine ⟨_, rfl, ?_, ?_⟩
    · simp [bs_append, modeW, h0, q1, q6, q7, q8, hr1, hr2, hr3]
    · simp only [SZ]; omega
  rintro σ w2 ⟨hB2, r, f3, hr, hrs, f1⟩
  have hF2 := b0.trans (hB2.mono hz0)
  have hz2 := hB2.size
  have r2 := r0.below hB2
  have hL := Row.new w2 9 [.string ⟨#[]⟩, .string ⟨#[32, 102, 105, 120, 101, 100, 32]⟩, .string ⟨#[32, 115, 104, 97, 114, 101, 32]⟩, .string ⟨#[32, 106, 97, 99, 107, 112, 111, 116, 32]⟩]
  have hBl := below_alloc w2 (.cells #[.string ⟨#[]⟩, .string ⟨#[32, 102, 105, 120, 101, 100, 32]⟩, .string ⟨#[32, 115, 104, 97, 114, 101, 32]⟩, .string ⟨#[32, 106, 97, 99, 107, 112, 111, 116, 32]⟩] 9)
  replace hL : Row (w2.alloc (.cells #[.string ⟨#[]⟩, .string ⟨#[32, 102, 105, 120, 101, 100, 32]⟩, .string ⟨#[32, 115, 104, 97, 114, 101, 32]⟩, .string ⟨#[32, 106, 97, 99, 107, 112, 111, 116, 32]⟩] 9)) w2.heap.size 9 [.string ⟨#[]⟩, .string ⟨#[32, 102, 105, 120, 101, 100, 32]⟩, .string ⟨#[32, 115, 104, 97, 114, 101, 32]⟩, .string ⟨#[32, 106, 97, 99, 107, 112, 111, 116, 32]⟩] := hL
  refine W_piece fun K hK hX => ?_
  simp +contextual (maxSteps := 2000000) (disch := first | omega | (simp only [SZ]; first | done | omega) | (simp only [TS] at *; omega)) only [RZ, ovw, oneC, reduceAdd, reduceMul, reduceSub, reduceEqDiff, reduceLT, ↓reduceIte, Int.reduceToNat, reduceLeDiff,  f1, f3]
  refine hK _ _ ?_
  clear hK hX K
  generalize w2.alloc (.cells #[.string ⟨#[]⟩, .string ⟨#[32, 102, 105, 120, 101, 100, 32]⟩, .string ⟨#[32, 115, 104, 97, 114, 101, 32]⟩, .string ⟨#[32, 106, 97, 99, 107, 112, 111, 116, 32]⟩] 9) = w3 at hL hBl ⊢
  have hF3 := hF2.trans (hBl.mono (Nat.le_trans hz0 hz2))
  have r3 := r2.below hBl
  have hz3 := hF3.size
  have hks := kindS_size t.kind
  obtain ⟨kn, hkn⟩ : ∃ k : Nat, t.kind = k := ⟨t.kind.toNat, by omega⟩
  have hlc : ∀ w7, Below w3.heap.size w3 w7 → w7.cell? ⟨w2.heap.size, kn, none⟩ = some (.string (kindS t.kind)) := fun w7 h7 => by
    refine (hL.below h7).cell (i := kn) ?_
    have : kn = 1 ∨ kn = 2 ∨ kn = 3 := by omega
    rw [hkn]
    rcases this with rfl | rfl | rfl <;> rfl
  simp +contextual (maxSteps := 2000000) (disch := first | omega | (simp only [SZ]; first | done | omega) | (simp only [TS] at *; omega)) only [RZ, ovw, oneC, reduceAdd, reduceMul, reduceSub, reduceEqDiff, reduceLT, ↓reduceIte, Int.reduceToNat, reduceLeDiff,  f1, f3]
  have hJ0 : Below w3.heap.size w3 w3.drew := below_drew (Below.refl _ _)
  refine Raw_ord (fun w' => Below w3.heap.size w3 w') 13 rfl MX ?_
  refine Ord_reads (τ := ?td0) [0, 1, 2, 3, 4, 5, 6, 7, 8] 4 rfl (by kernel_rfl) (by kernel_rfl) (fun _ _ _ h => h) hJ0 (fun w7 h7 => ?_) ?_; rotate_left
  · have r7 := r3.below h7
    have x4 := r7.cell (i := 4) rfl
    rw [hkn] at x4
    have x5 := r7.cell (i := 5) rfl
    have y := hlc w7 h7
    simp only [opsL_cons, opsL_nil, List.getElem?_toArray, List.getElem?_cons_zero, List.getElem?_cons_succ, optL_some]
    simp +contextual (maxSteps := 2000000) (disch := first | omega | (simp only [SZ]; first | done | omega) | (simp only [TS] at *; omega)) only [RZ, ovw, oneC, reduceAdd, reduceMul, reduceSub, reduceEqDiff, reduceLT, ↓reduceIte, Int.reduceToNat, reduceLeDiff,  f1, f3, x4, x5, y]
    exact rfl
  refine Ord_one 9 (by kernel_rfl) rfl ?_
  simp +contextual (maxSteps := 2000000) (disch := first | omega | (simp only [SZ]; first | done | omega) | (simp only [TS] at *; omega)) only [RZ, ovw, oneC, reduceAdd, reduceMul, reduceSub, reduceEqDiff, reduceLT, ↓reduceIte, Int.reduceToNat, reduceLeDiff]
  refine (rformat_any t.value (w3.drew) hv).mono ?_
  rintro e u1 ⟨rfl, hB1⟩
  refine ⟨_, rfl, ?_⟩
  have hJ1 := hJ0.trans hB1
  have hz1 := hJ1.size
  refine ⟨hJ1, ?_⟩
  refine Ord_chainS _ [10, 11, 12] _ _ _ (by kernel_rfl) ?_
  simp only [opsL_cons, opsL_nil, List.getElem?_toArray, List.getElem?_cons_zero, List.getElem?_cons_succ, optL_some]
  simp +contextual (maxSteps := 2000000) (disch := first | omega | (simp only [SZ]; first | done | omega) | (simp only [TS] at *; omega)) only [RZ, ovw, oneC, reduceAdd, reduceMul, reduceSub, reduceEqDiff, reduceLT, ↓reduceIte, Int.reduceToNat, reduceLeDiff,  EC_op, EC_nil, hJ1, f1, f3]
  refine ⟨hF3.trans (hJ1.mono hz3), _, rfl, ?_, ?_⟩
  · simp only [bs_append, bs_fmtB, bs_kindS, hr, show bs ⟨#[59, 10]⟩ = asc ";\n" by decide +kernel, lineG, It.words]
    simp
  · simp only [SZ]; omega
end Go.Proofs.YtbdkggnajipdhaaGreatDoor
/- Walks: the reference's printer of games: Days, printDays. -/
namespace Go.Proofs.YtbdkggnajipdhaaGreatDoor
open Nat (reduceAdd reduceMul reduceSub reduceEqDiff reduceLT reduceLeDiff)
open Go.RowKit
set_option maxRecDepth 100000
theorem dayC_lits : dayC = [.string ⟨#[109, 111, 110]⟩, .string ⟨#[116, 117, 101]⟩, .string ⟨#[119, 101, 100]⟩, .string ⟨#[116, 104, 117]⟩, .string ⟨#[102, 114, 105]⟩, .string ⟨#[115, 97, 116]⟩, .string ⟨#[115, 117, 110]⟩] := by kernel_rfl
theorem rDays_any (w : World) : Calls Tryz.prog 83 #[] w fun e w' => Below w.heap.size w w' ∧ e = .returned (.slice (some ⟨w.heap.size, 0, none⟩) 7 7) ∧ Row w' w.heap.size 9 dayC := by
  refine calls_W (l := []) Tryz.func83 rfl _ Tryz.ntmps83 (by simp) ?_
  simp +contextual (maxSteps := 2000000) (disch := first | omega | (simp only [SZ]; first | done | omega) | (simp only [TS] at *; omega)) only [RZ, ovw, oneC, reduceAdd, reduceMul, reduceSub, reduceEqDiff, reduceLT, ↓reduceIte, Int.reduceToNat, reduceLeDiff]
  rw [dayC_lits]
  exact ⟨below_alloc w _, Row.new w 9 [.string ⟨#[109, 111, 110]⟩, .string ⟨#[116, 117, 101]⟩, .string ⟨#[119, 101, 100]⟩, .string ⟨#[116, 104, 117]⟩, .string ⟨#[102, 114, 105]⟩, .string ⟨#[115, 97, 116]⟩, .string ⟨#[115, 117, 110]⟩]⟩
theorem days_lits : bs ⟨#[32, 32, 100, 97, 121, 115]⟩ = 32 :: 32 :: asc "days" ∧ bs ⟨#[32, 97, 116, 32]⟩ = 32 :: (asc "at" ++ [32]) ∧ bs ⟨#[32, 58, 32]⟩ = 32 :: (asc ":" ++ [32]) ∧ bs ⟨#[32]⟩ = [32] ∧ bs ⟨#[59, 10]⟩ = asc ";\n" := by decide +kernel
set_option maxHeartbeats 4000000 in
theorem rprintDays_any (G : Gm) (Va Vt : Value) (w : World) (hd0 : 0 ≤ G.n 9) (hd1 : G.n 9 ≤ 127) (ht0 : 0 ≤ G.n 10) (ht1 : G.n 10 ≤ 1439) :
    Calls Tryz.prog 43 #[.agg (gmV G Va Vt).toArray] w fun e w' => Below w.heap.size w w' ∧ ∃ r, e = .returned (.string r) ∧ bs r = (daysI G.n).flatMap lineG ∧ r.size ≤ 1000 := by
  refine calls_W (l := [_]) Tryz.func43 rfl _ Tryz.ntmps43 (by simp) ?_
  obtain ⟨q1, q2, q3, q4, q5⟩ := days_lits
  have r0 := Row.new w 26 (gmV G Va Vt)
  have b0 := below_alloc w (.cells (gmV G Va Vt).toArray 26)
  refine W_piece fun K hK hX => ?_
  simp +contextual (maxSteps := 2000000) (disch := first | omega | (simp only [SZ]; first | done | omega) | (simp only [TS] at *; omega)) only [RZ, ovw, oneC, reduceAdd, reduceMul, reduceSub, reduceEqDiff, reduceLT, ↓reduceIte, Int.reduceToNat, reduceLeDiff]
  refine hK _ _ ?_
  clear hK hX K
  generalize w.alloc (.cells (gmV G Va Vt).toArray 26) = w1 at r0 b0 ⊢
  have hz0 := b0.size
  have c9 : w1.cell? ⟨w.heap.size, 10, none⟩ = some (.int .i64 (G.n 9)) := r0.cell (i := 10) rfl
  refine W_piece fun K hK hX => ?_
  refine W_piece fun K2 hK2 hX2 => ?_
  simp +contextual (maxSteps := 2000000) (disch := first | omega | (simp only [SZ]; first | done | omega) | (simp only [TS] at *; omega)) only [RZ, ovw, oneC, reduceAdd, reduceMul, reduceSub, reduceEqDiff, reduceLT, ↓reduceIte, Int.reduceToNat, reduceLeDiff,  c9]
  refine hK2 _ _ ?_
  clear hK2 hX2 K2
  by_cases h9 : G.n 9 = 0
  · rw [show decide (G.n 9 = 0) = true by simp [h9]]
    refine W_if_t rfl ?_
    refine W_piece fun K2 hK2 hX2 => ?_
    simp +contextual (maxSteps := 2000000) (disch := first | omega | (simp only [SZ]; first | done | omega) | (simp only [TS] at *; omega)) only [RZ, ovw, oneC, reduceAdd, reduceMul, reduceSub, reduceEqDiff, reduceLT, ↓reduceIte, Int.reduceToNat, reduceLeDiff]
    refine hK2 _ _ ?_
    rw [W_ret]
    refine hX _ _ _ (fun h => by cases h) ?_
    simp +contextual (maxSteps := 2000000) (disch := first | omega | (simp only [SZ]; first | done | omega) | (simp only [TS] at *; omega)) only [RZ, ovw, oneC, reduceAdd, reduceMul, reduceSub, reduceEqDiff, reduceLT, ↓reduceIte, Int.reduceToNat, reduceLeDiff]
    refine ⟨b0, _, rfl, ?_, ?_⟩
    · unfold daysI; rw [if_pos h9]; rfl
    · exact Nat.zero_le _
  rw [show decide (G.n 9 = 0) = false by simp [h9]]
  refine W_if_f rfl ?_
  rw [W_skip]
  refine hK _ _ ?_
  clear hK hX K c9
  obtain ⟨dd, hdd⟩ : ∃ d : Nat, G.n 9 = d := ⟨(G.n 9).toNat, by omega⟩
  refine W_piece fun K hK hX => ?_
  simp +contextual (maxSteps := 2000000) (disch := first | omega | (simp only [SZ]; first | done | omega) | (simp only [TS] at *; omega)) only [RZ, ovw, oneC, reduceAdd, reduceMul, reduceSub, reduceEqDiff, reduceLT, ↓reduceIte, Int.reduceToNat, reduceLeDiff]
  refine hK _ _ ?_
  clear hK hX K
  refine W_piece fun K hK hX => ?_
  simp +contextual (maxSteps := 2000000) (disch := first | omega | (simp only [SZ]; first | done | omega) | (simp only [TS] at *; omega)) only [RZ, ovw, oneC, reduceAdd, reduceMul, reduceSub, reduceEqDiff, reduceLT, ↓reduceIte, Int.reduceToNat, reduceLeDiff]
  refine (rDays_any w1).mono ?_
  rintro e w2 ⟨hB2, rfl, hrd⟩
  refine ⟨_, rfl, ?_⟩
  try simp +contextual (maxSteps := 2000000) (disch := first | omega | (simp only [SZ]; first | done | omega) | (simp only [TS] at *; omega)) only [RZ, ovw, oneC, reduceAdd, reduceMul, reduceSub, reduceEqDiff, reduceLT, ↓reduceIte, Int.reduceToNat, reduceLeDiff]
  refine hK _ _ ?_
  clear hK hX K
  have hF2 := b0.trans (hB2.mono hz0)
  have r2 := r0.below hB2
  have hzF := hF2.size
  refine W_cutS (fun σ w3 => w3 = w2 ∧ ∃ r, σ 1 = .pointer (some ⟨w.heap.size, 0, none⟩) ∧ σ 3 = .string r ∧ bs r = 32 :: 32 :: (asc "days" ++ (dayL dd).flatMap (32 :: ·)) ∧ r.size ≤ 200) ?_ ?_
  rotate_left
  · refine W_piece fun K hK hX => ?_
    simp +contextual (maxSteps := 2000000) (disch := first | omega | (simp only [SZ]; first | done | omega) | (simp only [TS] at *; omega)) only [RZ, ovw, oneC, reduceAdd, reduceMul, reduceSub, reduceEqDiff, reduceLT, ↓reduceIte, Int.reduceToNat, reduceLeDiff]
    refine hK _ _ ?_
    clear hK hX K
    rw [W_block, W_loop]
    refine Raw_loop (fun σ w3 => w3 = w2 ∧ ∃ (k : Nat) (r : ByteArray), k ≤ 7 ∧ bs r = 32 :: 32 :: (asc "days" ++ (dayK dd k).flatMap (32 :: ·)) ∧ r.size ≤ 10 + 5 * k ∧ σ 1 = .pointer (some ⟨w.heap.size, 0, none⟩) ∧ σ 3 = .string r ∧ σ 4 = .slice (some ⟨w1.heap.size, 0, none⟩) 7 7 ∧ σ 5 = .int .i64 k) (fun σ _ => 7 - (intOf (σ 5)).toNat) ?_ ?_
    · exact ⟨rfl, 0, ⟨#[32, 32, 100, 97, 121, 115]⟩, by omega, by rw [q1]; rfl, by decide, rfl, rfl, rfl, rfl⟩
    rintro σ w3 ⟨rfl, k, r, hk, hr, hrs, f1, f3, f4, f5⟩ K hK
    refine W_piece fun K1 hK1 hX1 => ?_
    refine W_piece fun K2 hK2 hX2 => ?_
    simp +contextual (maxSteps := 2000000) (disch := first | omega | (simp only [SZ]; first | done | omega) | (simp only [TS] at *; omega)) only [RZ, ovw, oneC, reduceAdd, reduceMul, reduceSub, reduceEqDiff, reduceLT, ↓reduceIte, Int.reduceToNat, reduceLeDiff,  f1, f3, f4, f5]
    refine hK2 _ _ ?_
    clear hK2 hX2 K2
    (refine W_if rfl (fun hc => ?_) (fun hc => ?_) <;> (try simp only [TS] at hc))
    · have hk7 : k < 7 := by omega
      obtain ⟨d, hd⟩ : ∃ d, dayW[k]? = some d := ⟨_, List.getElem?_eq_getElem (show k < 7 by omega)⟩
      have hdc : w3.cell? ⟨w1.heap.size, k, none⟩ = some (.string (toBA d)) := hrd.cell (i := k) (by unfold dayC; rw [List.getElem?_map, hd]; rfl)
      have hdb : bs (toBA d) = d := by
        have hall : dayW.all (fun d => d.all fun c => decide (c < 256)) = true := by decide +kernel
        have := List.all_eq_true.1 hall d (List.mem_of_getElem? hd)
        exact bs_toBA fun c hc => by have := List.all_eq_true.1 this c hc; simpa using this
      have hdl : (toBA d).size ≤ 3 := by
        have hall : dayW.all (fun d => decide ((toBA d).size ≤ 3)) = true := by decide +kernel
        have := List.all_eq_true.1 hall d (List.mem_of_getElem? hd)
        simpa using this
      have hgd : dayW.getD k [] = d := by rw [List.getD_eq_getElem?_getD, hd]; rfl
      have d9 : w3.cell? ⟨w.heap.size, 10, none⟩ = some (.int .i64 (G.n 9)) := r2.cell (i := 10) rfl
      rw [hdd] at d9
      have hshr : ∀ (x y : Operand) (w : World), vBin Tryz.prog .shr 3 x y (.int .i64 dd) (.int .i64 k) w = .ok (.value (.int .i64 ((dd / 2 ^ k : Nat) : Int))) w := fun x y w => vBin_shrN hk7
      have hs := dayK_succ dd k
      have hle : dd / 2 ^ k ≤ dd := Nat.div_le_self _ _
      generalize dd / 2 ^ k = dk at *
      rw [W_skip]
      refine hK1 _ _ ?_
      clear hK1 hX1 K1
      refine W_piece fun K1 hK1 hX1 => ?_
      rw [W_block]
      refine W_piece fun K2 hK2 hX2 => ?_
      simp +contextual (maxSteps := 2000000) (disch := first | omega | (simp only [SZ]; first | done | omega) | (simp only [TS] at *; omega)) only [RZ, ovw, oneC, reduceAdd, reduceMul, reduceSub, reduceEqDiff, reduceLT, ↓reduceIte, Int.reduceToNat, reduceLeDiff,  f1, f5, d9, hshr]
      refine hK2 _ _ ?_
      clear hK2 hX2 K2
      by_cases hb : dk % 2 = 1
      · rw [show decide (((dk : Nat) : Int) % 2 = 1) = true by simp; omega]
        rw [if_pos hb, hgd] at hs
        refine W_if_t rfl ?_
        simp +contextual (maxSteps := 2000000) (disch := first | omega | (simp only [SZ]; first | done | omega) | (simp only [TS] at *; omega)) only [RZ, ovw, oneC, reduceAdd, reduceMul, reduceSub, reduceEqDiff, reduceLT, ↓reduceIte, Int.reduceToNat, reduceLeDiff,  f1, f3, f4, f5, hdc]
        refine hK1 _ _ ?_
        clear hK1 hX1 K1
        simp +contextual (maxSteps := 2000000) (disch := first | omega | (simp only [SZ]; first | done | omega) | (simp only [TS] at *; omega)) only [RZ, ovw, oneC, reduceAdd, reduceMul, reduceSub, reduceEqDiff, reduceLT, ↓reduceIte, Int.reduceToNat, reduceLeDiff,  f1, f3, f4, f5]
        refine hK _ _ ⟨rfl, k + 1, _, by omega, ?_, ?_, ?_, rfl, ?_, ?_⟩ ?_
        · rw [hs]
          simp [bs_append, hr, hdb, q4]
        · simp only [SZ]; omega
        · simp +contextual (maxSteps := 2000000) (disch := first | omega | (simp only [SZ]; first | done | omega) | (simp only [TS] at *; omega)) only [RZ, ovw, oneC, reduceAdd, reduceMul, reduceSub, reduceEqDiff, reduceLT, ↓reduceIte, Int.reduceToNat, reduceLeDiff,  f1, f3, f4, f5]
        · simp +contextual (maxSteps := 2000000) (disch := first | omega | (simp only [SZ]; first | done | omega) | (simp only [TS] at *; omega)) only [RZ, ovw, oneC, reduceAdd, reduceMul, reduceSub, reduceEqDiff, reduceLT, ↓reduceIte, Int.reduceToNat, reduceLeDiff,  f1, f3, f4, f5]
        · simp +contextual (maxSteps := 2000000) (disch := first | omega | (simp only [SZ]; first | done | omega) | (simp only [TS] at *; omega)) only [RZ, ovw, oneC, reduceAdd, reduceMul, reduceSub, reduceEqDiff, reduceLT, ↓reduceIte, Int.reduceToNat, reduceLeDiff,  f1, f3, f4, f5]
        · simp +contextual (maxSteps := 2000000) (disch := first | omega | (simp only [SZ]; first | done | omega) | (simp only [TS] at *; omega)) only [RZ, ovw, oneC, reduceAdd, reduceMul, reduceSub, reduceEqDiff, reduceLT, ↓reduceIte, Int.reduceToNat, reduceLeDiff,  intOf, f5]
          omega
      · rw [show decide (((dk : Nat) : Int) % 2 = 1) = false by simp; omega]
        rw [if_neg hb, List.append_nil] at hs
        refine W_if_f rfl ?_
        rw [W_skip, inX_normal]
        refine hK1 _ _ ?_
        clear hK1 hX1 K1
        simp +contextual (maxSteps := 2000000) (disch := first | omega | (simp only [SZ]; first | done | omega) | (simp only [TS] at *; omega)) only [RZ, ovw, oneC, reduceAdd, reduceMul, reduceSub, reduceEqDiff, reduceLT, ↓reduceIte, Int.reduceToNat, reduceLeDiff,  f1, f3, f4, f5]
        refine hK _ _ ⟨rfl, k + 1, r, by omega, by rw [hs]; exact hr, by omega, ?_⟩ ?_
        · simp +contextual (maxSteps := 2000000) (disch := first | omega | (simp only [SZ]; first | done | omega) | (simp only [TS] at *; omega)) only [RZ, ovw, oneC, reduceAdd, reduceMul, reduceSub, reduceEqDiff, reduceLT, ↓reduceIte, Int.reduceToNat, reduceLeDiff,  f1, f3, f4, f5]
        · simp +contextual (maxSteps := 2000000) (disch := first | omega | (simp only [SZ]; first | done | omega) | (simp only [TS] at *; omega)) only [RZ, ovw, oneC, reduceAdd, reduceMul, reduceSub, reduceEqDiff, reduceLT, ↓reduceIte, Int.reduceToNat, reduceLeDiff,  intOf, f5]
          omega
    · have hk7 : k = 7 := by omega
      subst hk7
      simp +contextual (maxSteps := 2000000) (disch := first | omega | (simp only [SZ]; first | done | omega) | (simp only [TS] at *; omega)) only [RZ, ovw, oneC, reduceAdd, reduceMul, reduceSub, reduceEqDiff, reduceLT, ↓reduceIte, Int.reduceToNat, reduceLeDiff,  f1, f3, f4, f5]
      refine hX1 _ _ _ (fun h => by cases h) ?_
      simp +contextual (maxSteps := 2000000) (disch := first | omega | (simp only [SZ]; first | done | omega) | (simp only [TS] at *; omega)) only [RZ, ovw, oneC, reduceAdd, reduceMul, reduceSub, reduceEqDiff, reduceLT, ↓reduceIte, Int.reduceToNat, reduceLeDiff,  f1, f3, f4, f5]
      first | exact ⟨r, rfl, hr, by omega⟩ | exact ⟨hr, by omega⟩
  rintro σ w3 ⟨rfl, r, f1, f3, hr, hrs⟩
  have hn1 : numR (G.n 10 / 60) := by unfold numR nR; omega
  have hn2 : numR (G.n 10 % 60) := by unfold numR nR; omega
  have z1 := fmtB_size hn1
  have z2 := fmtB_size hn2
  simp +contextual (maxSteps := 2000000) (disch := first | omega | (simp only [SZ]; first | done | omega) | (simp only [TS] at *; omega)) only [RZ, ovw, oneC, reduceAdd, reduceMul, reduceSub, reduceEqDiff, reduceLT, ↓reduceIte, Int.reduceToNat, reduceLeDiff,  f1, f3]
  have hJ0 : Below w3.heap.size w3 w3.drew := below_drew (Below.refl _ _)
  refine Raw_ord (fun w' => Below w3.heap.size w3 w') 15 rfl MX ?_
  refine Ord_reads (τ := ?ta0) [0, 1, 2, 3, 4, 8, 9, 10] 7 rfl (by kernel_rfl) (by kernel_rfl) (fun _ _ _ h => h) hJ0 (fun w7 h7 => ?_) ?_; rotate_left
  · have r7 := r2.below h7
    have x11 : w7.cell? ⟨w.heap.size, 11, none⟩ = some (.int .i64 (G.n 10)) := r7.cell (i := 11) rfl
    simp only [opsL_cons, opsL_nil, List.getElem?_toArray, List.getElem?_cons_zero, List.getElem?_cons_succ, optL_some]
    simp +contextual (maxSteps := 2000000) (disch := first | omega | (simp only [SZ]; first | done | omega) | (simp only [TS] at *; omega)) only [RZ, ovw, oneC, reduceAdd, reduceMul, reduceSub, reduceEqDiff, reduceLT, ↓reduceIte, Int.reduceToNat, reduceLeDiff,  f1, f3, x11]
    exact rfl
  refine Ord_one 5 (by kernel_rfl) rfl ?_
  simp +contextual (maxSteps := 2000000) (disch := first | omega | (simp only [SZ]; first | done | omega) | (simp only [TS] at *; omega)) only [RZ, ovw, oneC, reduceAdd, reduceMul, reduceSub, reduceEqDiff, reduceLT, ↓reduceIte, Int.reduceToNat, reduceLeDiff]
  refine (rformat_any (G.n 10 / 60) (w3.drew) hn1).mono ?_
  rintro e u1 ⟨rfl, hB1⟩
  refine ⟨_, rfl, ?_⟩
  have hJ1 := hJ0.trans hB1
  have hz1 := hJ1.size
  refine ⟨hJ1, ?_⟩
  refine Ord_reads (τ := ?ta1) [6, 7] 4 rfl (by kernel_rfl) (by kernel_rfl) (fun _ _ _ h => h) hJ1 (fun w7 h7 => ?_) ?_; rotate_left
  · simp only [opsL_cons, opsL_nil, List.getElem?_toArray, List.getElem?_cons_zero, List.getElem?_cons_succ, optL_some]
    simp +contextual (maxSteps := 2000000) (disch := first | omega | (simp only [SZ]; first | done | omega) | (simp only [TS] at *; omega)) only [RZ, ovw, oneC, reduceAdd, reduceMul, reduceSub, reduceEqDiff, reduceLT, ↓reduceIte, Int.reduceToNat, reduceLeDiff]
    exact rfl
  refine Ord_one 11 (by kernel_rfl) rfl ?_
  simp +contextual (maxSteps := 2000000) (disch := first | omega | (simp only [SZ]; first | done | omega) | (simp only [TS] at *; omega)) only [RZ, ovw, oneC, reduceAdd, reduceMul, reduceSub, reduceEqDiff, reduceLT, ↓reduceIte, Int.reduceToNat, reduceLeDiff]
  refine (rformat_any (G.n 10 % 60) (u1) hn2).mono ?_
  rintro e u2 ⟨rfl, hB2⟩
  refine ⟨_, rfl, ?_⟩
  have hJ2 := hJ1.trans (hB2.mono hz1)
  have hz2 := hJ2.size
  refine ⟨hJ2, ?_⟩
  refine Ord_chainS _ [12, 13, 14] _ _ _ (by kernel_rfl) ?_
  simp only [opsL_cons, opsL_nil, List.getElem?_toArray, List.getElem?_cons_zero, List.getElem?_cons_succ, optL_some]
  simp +contextual (maxSteps := 2000000) (disch := first | omega | (simp only [SZ]; first | done | omega) | (simp only [TS] at *; omega)) only [RZ, ovw, oneC, reduceAdd, reduceMul, reduceSub, reduceEqDiff, reduceLT, ↓reduceIte, Int.reduceToNat, reduceLeDiff,  EC_op, EC_nil, hJ2, f1, f3]
  refine ⟨hF2.trans (hJ2.mono hzF), _, rfl, ?_, ?_⟩
  · unfold daysI
    rw [if_neg h9, hdd, Int.toNat_natCast]
    simp only [bs_append, bs_fmtB, hr, q2, q3, q5, lineG, It.words, List.flatMap_cons, List.flatMap_nil]
    simp
  · simp only [SZ]; omega
end Go.Proofs.YtbdkggnajipdhaaGreatDoor
/- Walks: the reference's printer of games: fineAddon, fineTier. -/
namespace Go.Proofs.YtbdkggnajipdhaaGreatDoor
open Nat (reduceAdd reduceMul reduceSub reduceEqDiff reduceLT reduceLeDiff)
open Go.RowKit
set_option maxRecDepth 100000
theorem adFine_is (a : Ad) : a.fine = (wordL (bs a.name) && (fitB a.price && fitB a.digits) && a.factors.all fitB && a.serials.all fitB && ((decide (a.kind = 1) && decide (a.digits = 0) && decide (a.serials.length = 0)) || (decide (a.kind = 2) && decide (a.factors.length = 0)))) := by
  unfold Ad.fine
  by_cases h1 : a.kind = 1
  · have h2 : ¬ a.kind = 2 := by omega
    rw [if_pos h1, decide_eq_true h1, decide_eq_false h2, Bool.true_and, Bool.false_and, Bool.or_false, Bool.eq_iff_iff]
    simp only [Bool.and_eq_true, decide_eq_true_eq]
    constructor
    · rintro ⟨x, ⟨⟨d, s⟩, p⟩, f⟩
      have hs : a.serials = [] := List.eq_nil_of_length_eq_zero s
      refine ⟨⟨⟨⟨x, p, by rw [d]; decide⟩, f⟩, by rw [hs]; rfl⟩, d, s⟩
    · rintro ⟨⟨⟨⟨x, p, _⟩, f⟩, _⟩, d, s⟩
      exact ⟨x, ⟨⟨d, s⟩, p⟩, f⟩
  · rw [if_neg h1, decide_eq_false h1]
    by_cases h2 : a.kind = 2
    · rw [if_pos h2, decide_eq_true h2, Bool.false_and, Bool.false_and, Bool.false_or, Bool.true_and, Bool.eq_iff_iff]
      simp only [Bool.and_eq_true, decide_eq_true_eq, and_true]
      constructor
      · rintro ⟨x, ⟨f, p, d⟩, s⟩
        have hs : a.factors = [] := List.eq_nil_of_length_eq_zero f
        refine ⟨⟨⟨⟨x, p, d⟩, by rw [hs]; rfl⟩, s⟩, f⟩
      · rintro ⟨⟨⟨⟨x, p, d⟩, _⟩, s⟩, f⟩
        exact ⟨x, ⟨f, p, d⟩, s⟩
    · rw [if_neg h2, decide_eq_false h2]
      simp
theorem tiFine_is (t : Ti) : t.fine = ((fitB t.main && fitB t.bonus && fitB t.extra && fitB t.value) && decide (1 ≤ t.kind ∧ t.kind ≤ 3) && (if t.mode = 0 then true else if t.mode = 1 ∨ t.mode = 2 then decide (t.main = 0) && decide (t.bonus = 0) && decide (t.extra = 0) else if t.mode = 3 ∨ t.mode = 4 then decide (t.bonus = 0) && decide (t.extra = 0) else false)) := by
  have f0 : fitB 0 = true := by decide
  have hk : (decide (t.kind = 1) || decide (t.kind = 2) || decide (t.kind = 3)) = decide (1 ≤ t.kind ∧ t.kind ≤ 3) := by
    rw [Bool.eq_iff_iff]; simp only [Bool.or_eq_true, decide_eq_true_eq]; omega
  have hh : ∀ n : Int, hitB n = fitB n := fun n => by
    unfold hitB
    by_cases h : n = 0
    · rw [h, f0]; rfl
    · rw [decide_eq_false h]; rfl
  unfold Ti.fine Ti.fineM
  rw [hk]
  by_cases h0 : t.mode = 0
  · rw [if_pos h0, if_pos h0, hh, hh, hh, Bool.and_true, Bool.eq_iff_iff]
    simp only [Bool.and_eq_true]
    constructor <;> rintro ⟨⟨⟨a, b⟩, c⟩, d⟩ <;> simp [*]
  rw [if_neg h0, if_neg h0]
  by_cases h1 : t.mode = 1 ∨ t.mode = 2
  · rw [if_pos h1, if_pos h1, Bool.eq_iff_iff]
    simp only [Bool.and_eq_true, decide_eq_true_eq]
    constructor
    · rintro ⟨⟨⟨⟨a, b⟩, c⟩, k⟩, v⟩
      exact ⟨⟨⟨⟨⟨by rw [a]; exact f0, by rw [b]; exact f0⟩, by rw [c]; exact f0⟩, v⟩, k⟩, ⟨a, b⟩, c⟩
    · rintro ⟨⟨⟨_, v⟩, k⟩, ⟨a, b⟩, c⟩
      exact ⟨⟨⟨⟨a, b⟩, c⟩, k⟩, v⟩
  rw [if_neg h1, if_neg h1]
  by_cases h3 : t.mode = 3 ∨ t.mode = 4
  · rw [if_pos h3, if_pos h3, Bool.eq_iff_iff]
    simp only [Bool.and_eq_true, decide_eq_true_eq]
    constructor
    · rintro ⟨⟨⟨⟨b, c⟩, m⟩, k⟩, v⟩
      exact ⟨⟨⟨⟨⟨m, by rw [b]; exact f0⟩, by rw [c]; exact f0⟩, v⟩, k⟩, b, c⟩
    · rintro ⟨⟨⟨⟨⟨m, _⟩, _⟩, v⟩, k⟩, b, c⟩
      exact ⟨⟨⟨⟨b, c⟩, m⟩, k⟩, v⟩
  · rw [if_neg h3, if_neg h3]; simp
theorem arr_lit (w : World) (L : List Int) : Arr (w.alloc (.cells (iW L).toArray 3)) (some ⟨w.heap.size, 0, none⟩) 1 (L.map fun n => [Value.int .i64 n]) := by
  refine arr_row (T := 3) ?_ (by intro v hv; obtain ⟨n, _, rfl⟩ := List.mem_map.1 hv; rfl)
  have : ∀ L : List Int, (L.map fun n => [Value.int .i64 n]).flatten = iW L := fun L => by
    induction L with
    | nil => rfl
    | cons s r ih => rw [List.map_cons, List.flatten_cons, ih]; rfl
  rw [this]
  exact Row.new w 3 (iW L)
set_option maxHeartbeats 4000000 in
theorem rfineAddon_any (a : Ad) (vf vs : Value) (w : World) (hf : IntsR w vf a.factors) (hs : IntsR w vs a.serials) (hnl : a.name.size ≤ 1000000) (hfl : a.factors.length ≤ 1000000) (hsl : a.serials.length ≤ 1000000) :
    Calls Tryz.prog 80 #[.agg (encAd a vf vs).toArray] w fun e w' => Below w.heap.size w w' ∧ e = .returned (.bool a.fine) := by
  refine calls_W (l := [_]) Tryz.func80 rfl _ Tryz.ntmps80 (by simp) ?_
  obtain ⟨Af, cf, rfl, hf⟩ := hf
  obtain ⟨As, cS, rfl, hs⟩ := hs
  rw [adFine_is]
  have r0 := Row.new w 45 (encAd a (.slice Af a.factors.length cf) (.slice As a.serials.length cS))
  have b0 := below_alloc w (.cells (encAd a (.slice Af a.factors.length cf) (.slice As a.serials.length cS)).toArray 45)
  refine W_piece fun K hK hX => ?_
  simp +contextual (maxSteps := 2000000) (disch := first | omega | (simp only [SZ]; first | done | omega) | (simp only [TS] at *; omega)) only [RZ, ovw, oneC, reduceAdd, reduceMul, reduceSub, reduceEqDiff, reduceLT, ↓reduceIte, Int.reduceToNat, reduceLeDiff]
  refine hK _ _ ?_
  clear hK hX K
  generalize w.alloc (.cells (encAd a (.slice Af a.factors.length cf) (.slice As a.serials.length cS)).toArray 45) = w1 at r0 b0 ⊢
  have hz0 := b0.size
  have x0 : w1.cell? ⟨w.heap.size, 0, none⟩ = some (.string a.name) := r0.cell (i := 0) rfl
  have x2 : w1.cell? ⟨w.heap.size, 2, none⟩ = some (.int .i64 a.price) := r0.cell (i := 2) rfl
  have x4 : w1.cell? ⟨w.heap.size, 4, none⟩ = some (.int .i64 a.digits) := r0.cell (i := 4) rfl
  simp +contextual (maxSteps := 2000000) (disch := first | omega | (simp only [SZ]; first | done | omega) | (simp only [TS] at *; omega)) only [RZ, ovw, oneC, reduceAdd, reduceMul, reduceSub, reduceEqDiff, reduceLT, ↓reduceIte, Int.reduceToNat, reduceLeDiff,  x0]
  refine (rWord_any a.name w1 (by omega)).mono ?_
  rintro e w2 ⟨rfl, rfl⟩
  refine ⟨_, rfl, ?_⟩
  cases hw : wordL (bs a.name) with
  | false =>
    simp +contextual (maxSteps := 2000000) (disch := first | omega | (simp only [SZ]; first | done | omega) | (simp only [TS] at *; omega)) only [RZ, ovw, oneC, reduceAdd, reduceMul, reduceSub, reduceEqDiff, reduceLT, ↓reduceIte, Int.reduceToNat, reduceLeDiff]
    refine W_if_t rfl ?_
    simp +contextual (maxSteps := 2000000) (disch := first | omega | (simp only [SZ]; first | done | omega) | (simp only [TS] at *; omega)) only [RZ, ovw, oneC, reduceAdd, reduceMul, reduceSub, reduceEqDiff, reduceLT, ↓reduceIte, Int.reduceToNat, reduceLeDiff]
    exact b0
  | true =>
  simp +contextual (maxSteps := 2000000) (disch := first | omega | (simp only [SZ]; first | done | omega) | (simp only [TS] at *; omega)) only [RZ, ovw, oneC, reduceAdd, reduceMul, reduceSub, reduceEqDiff, reduceLT, ↓reduceIte, Int.reduceToNat, reduceLeDiff,  x2, x4]
  have hb2 := b0.trans ((below_alloc w1 (.cells #[.int .i64 a.price, .int .i64 a.digits] 3)).mono hz0)
  have hl := arr_lit w1 [a.price, a.digits]
  have r2 := r0.alloc (.cells #[.int .i64 a.price, .int .i64 a.digits] 3)
  refine (rfine_any [a.price, a.digits] _ 2 _ hl (by simp)).mono ?_
  rintro e w2 ⟨rfl, hw2⟩
  refine ⟨_, rfl, ?_⟩
  change w1.alloc (.cells #[.int .i64 a.price, .int .i64 a.digits] 3) = w2 at hw2
  rw [hw2] at hb2 r2
  clear hw2 hl
  have x1 : w2.cell? ⟨w.heap.size, 1, none⟩ = some (.int .i64 a.kind) := r2.cell (i := 1) rfl
  have x3 : w2.cell? ⟨w.heap.size, 3, none⟩ = some (.slice Af a.factors.length cf) := r2.cell (i := 3) rfl
  have x4 : w2.cell? ⟨w.heap.size, 4, none⟩ = some (.int .i64 a.digits) := r2.cell (i := 4) rfl
  have x5 : w2.cell? ⟨w.heap.size, 5, none⟩ = some (.slice As a.serials.length cS) := r2.cell (i := 5) rfl
  have h2 : [a.price, a.digits].all fitB = (fitB a.price && fitB a.digits) := by simp
  rw [h2]
  cases hp : fitB a.price && fitB a.digits with
  | false =>
    simp +contextual (maxSteps := 2000000) (disch := first | omega | (simp only [SZ]; first | done | omega) | (simp only [TS] at *; omega)) only [RZ, ovw, oneC, reduceAdd, reduceMul, reduceSub, reduceEqDiff, reduceLT, ↓reduceIte, Int.reduceToNat, reduceLeDiff]
    refine W_if_t rfl ?_
    simp +contextual (maxSteps := 2000000) (disch := first | omega | (simp only [SZ]; first | done | omega) | (simp only [TS] at *; omega)) only [RZ, ovw, oneC, reduceAdd, reduceMul, reduceSub, reduceEqDiff, reduceLT, ↓reduceIte, Int.reduceToNat, reduceLeDiff]
    exact hb2
  | true =>
  simp +contextual (maxSteps := 2000000) (disch := first | omega | (simp only [SZ]; first | done | omega) | (simp only [TS] at *; omega)) only [RZ, ovw, oneC, reduceAdd, reduceMul, reduceSub, reduceEqDiff, reduceLT, ↓reduceIte, Int.reduceToNat, reduceLeDiff,  x3]
  refine (rfine_any a.factors Af cf w2 (hf.below hb2) (by omega)).mono ?_
  rintro e w3 ⟨rfl, rfl⟩
  refine ⟨_, rfl, ?_⟩
  cases hff : a.factors.all fitB with
  | false =>
    simp +contextual (maxSteps := 2000000) (disch := first | omega | (simp only [SZ]; first | done | omega) | (simp only [TS] at *; omega)) only [RZ, ovw, oneC, reduceAdd, reduceMul, reduceSub, reduceEqDiff, reduceLT, ↓reduceIte, Int.reduceToNat, reduceLeDiff]
    refine W_if_t rfl ?_
    simp +contextual (maxSteps := 2000000) (disch := first | omega | (simp only [SZ]; first | done | omega) | (simp only [TS] at *; omega)) only [RZ, ovw, oneC, reduceAdd, reduceMul, reduceSub, reduceEqDiff, reduceLT, ↓reduceIte, Int.reduceToNat, reduceLeDiff]
    exact hb2
  | true =>
  simp +contextual (maxSteps := 2000000) (disch := first | omega | (simp only [SZ]; first | done | omega) | (simp only [TS] at *; omega)) only [RZ, ovw, oneC, reduceAdd, reduceMul, reduceSub, reduceEqDiff, reduceLT, ↓reduceIte, Int.reduceToNat, reduceLeDiff,  x5]
  refine (rfine_any a.serials As cS w2 (hs.below hb2) (by omega)).mono ?_
  rintro e w3 ⟨rfl, rfl⟩
  refine ⟨_, rfl, ?_⟩
  cases hss : a.serials.all fitB with
  | false =>
    simp +contextual (maxSteps := 2000000) (disch := first | omega | (simp only [SZ]; first | done | omega) | (simp only [TS] at *; omega)) only [RZ, ovw, oneC, reduceAdd, reduceMul, reduceSub, reduceEqDiff, reduceLT, ↓reduceIte, Int.reduceToNat, reduceLeDiff]
    refine W_if_t rfl ?_
    simp +contextual (maxSteps := 2000000) (disch := first | omega | (simp only [SZ]; first | done | omega) | (simp only [TS] at *; omega)) only [RZ, ovw, oneC, reduceAdd, reduceMul, reduceSub, reduceEqDiff, reduceLT, ↓reduceIte, Int.reduceToNat, reduceLeDiff]
    exact hb2
  | true =>
  simp +contextual (maxSteps := 2000000) (disch := first | omega | (simp only [SZ]; first | done | omega) | (simp only [TS] at *; omega)) only [RZ, ovw, oneC, reduceAdd, reduceMul, reduceSub, reduceEqDiff, reduceLT, ↓reduceIte, Int.reduceToNat, reduceLeDiff]
  refine W_if_f rfl ?_
  have l1 : decide ((a.serials.length : Int) = 0) = decide (a.serials.length = 0) := by simp
  have l2 : decide ((a.factors.length : Int) = 0) = decide (a.factors.length = 0) := by simp
  simp +contextual (maxSteps := 2000000) (disch := first | omega | (simp only [SZ]; first | done | omega) | (simp only [TS] at *; omega)) only [RZ, ovw, oneC, reduceAdd, reduceMul, reduceSub, reduceEqDiff, reduceLT, ↓reduceIte, Int.reduceToNat, reduceLeDiff,  x1, x3, x4, x5, l1, l2]
  first | exact hb2 | exact ⟨hb2, rfl⟩
set_option maxHeartbeats 4000000 in
theorem rfineTier_any (t : Ti) (w : World) : Calls Tryz.prog 81 #[.agg (encTi t).toArray] w fun e w' => Below w.heap.size w w' ∧ e = .returned (.bool t.fine) := by
  refine calls_W (l := [_]) Tryz.func81 rfl _ Tryz.ntmps81 (by simp) ?_
  rw [tiFine_is]
  have r0 := Row.new w 41 (encTi t)
  have b0 := below_alloc w (.cells (encTi t).toArray 41)
  refine W_piece fun K hK hX => ?_
  simp +contextual (maxSteps := 2000000) (disch := first | omega | (simp only [SZ]; first | done | omega) | (simp only [TS] at *; omega)) only [RZ, ovw, oneC, reduceAdd, reduceMul, reduceSub, reduceEqDiff, reduceLT, ↓reduceIte, Int.reduceToNat, reduceLeDiff]
  refine hK _ _ ?_
  clear hK hX K
  generalize w.alloc (.cells (encTi t).toArray 41) = w1 at r0 b0 ⊢
  have hz0 := b0.size
  have x0 : w1.cell? ⟨w.heap.size, 0, none⟩ = some (.int .i64 t.main) := r0.cell (i := 0) rfl
  have x1 : w1.cell? ⟨w.heap.size, 1, none⟩ = some (.int .i64 t.bonus) := r0.cell (i := 1) rfl
  have x2 : w1.cell? ⟨w.heap.size, 2, none⟩ = some (.int .i64 t.extra) := r0.cell (i := 2) rfl
  have x5 : w1.cell? ⟨w.heap.size, 5, none⟩ = some (.int .i64 t.value) := r0.cell (i := 5) rfl
  simp +contextual (maxSteps := 2000000) (disch := first | omega | (simp only [SZ]; first | done | omega) | (simp only [TS] at *; omega)) only [RZ, ovw, oneC, reduceAdd, reduceMul, reduceSub, reduceEqDiff, reduceLT, ↓reduceIte, Int.reduceToNat, reduceLeDiff,  x0, x1, x2, x5]
  have hb2 := b0.trans ((below_alloc w1 (.cells #[.int .i64 t.main, .int .i64 t.bonus, .int .i64 t.extra, .int .i64 t.value] 3)).mono hz0)
  have hl := arr_lit w1 [t.main, t.bonus, t.extra, t.value]
  have r2 := r0.alloc (.cells #[.int .i64 t.main, .int .i64 t.bonus, .int .i64 t.extra, .int .i64 t.value] 3)
  refine (rfine_any [t.main, t.bonus, t.extra, t.value] _ 4 _ hl (by simp)).mono ?_
  rintro e w2 ⟨rfl, hw2⟩
  refine ⟨_, rfl, ?_⟩
  change w1.alloc (.cells #[.int .i64 t.main, .int .i64 t.bonus, .int .i64 t.extra, .int .i64 t.value] 3) = w2 at hw2
  rw [hw2] at hb2 r2
  clear hw2 hl x0 x1 x2 x5
  have x0 : w2.cell? ⟨w.heap.size, 0, none⟩ = some (.int .i64 t.main) := r2.cell (i := 0) rfl
  have x1 : w2.cell? ⟨w.heap.size, 1, none⟩ = some (.int .i64 t.bonus) := r2.cell (i := 1) rfl
  have x2 : w2.cell? ⟨w.heap.size, 2, none⟩ = some (.int .i64 t.extra) := r2.cell (i := 2) rfl
  have x3 : w2.cell? ⟨w.heap.size, 3, none⟩ = some (.int .i64 t.mode) := r2.cell (i := 3) rfl
  have x4 : w2.cell? ⟨w.heap.size, 4, none⟩ = some (.int .i64 t.kind) := r2.cell (i := 4) rfl
  have h2 : [t.main, t.bonus, t.extra, t.value].all fitB = (fitB t.main && fitB t.bonus && fitB t.extra && fitB t.value) := by simp [Bool.and_assoc]
  rw [h2]
  cases hp : fitB t.main && fitB t.bonus && fitB t.extra && fitB t.value with
  | false =>
    simp +contextual (maxSteps := 2000000) (disch := first | omega | (simp only [SZ]; first | done | omega) | (simp only [TS] at *; omega)) only [RZ, ovw, oneC, reduceAdd, reduceMul, reduceSub, reduceEqDiff, reduceLT, ↓reduceIte, Int.reduceToNat, reduceLeDiff]
    refine W_if_t rfl ?_
    simp +contextual (maxSteps := 2000000) (disch := first | omega | (simp only [SZ]; first | done | omega) | (simp only [TS] at *; omega)) only [RZ, ovw, oneC, reduceAdd, reduceMul, reduceSub, reduceEqDiff, reduceLT, ↓reduceIte, Int.reduceToNat, reduceLeDiff]
    exact hb2
  | true =>
  have hkd : (decide (t.kind < 1) || decide (3 < t.kind)) = !decide (1 ≤ t.kind ∧ t.kind ≤ 3) := by
    rw [Bool.eq_iff_iff]; simp only [Bool.or_eq_true, decide_eq_true_eq, Bool.not_eq_true', decide_eq_false_iff_not]; omega
  simp +contextual (maxSteps := 2000000) (disch := first | omega | (simp only [SZ]; first | done | omega) | (simp only [TS] at *; omega)) only [RZ, ovw, oneC, reduceAdd, reduceMul, reduceSub, reduceEqDiff, reduceLT, ↓reduceIte, Int.reduceToNat, reduceLeDiff,  x4, hkd]
  cases hkk : decide (1 ≤ t.kind ∧ t.kind ≤ 3) with
  | false =>
    refine W_if_t rfl ?_
    simp +contextual (maxSteps := 2000000) (disch := first | omega | (simp only [SZ]; first | done | omega) | (simp only [TS] at *; omega)) only [RZ, ovw, oneC, reduceAdd, reduceMul, reduceSub, reduceEqDiff, reduceLT, ↓reduceIte, Int.reduceToNat, reduceLeDiff]
    exact hb2
  | true =>
  refine W_if_f rfl ?_
  simp +contextual (maxSteps := 2000000) (disch := first | omega | (simp only [SZ]; first | done | omega) | (simp only [TS] at *; omega)) only [RZ, ovw, oneC, reduceAdd, reduceMul, reduceSub, reduceEqDiff, reduceLT, ↓reduceIte, Int.reduceToNat, reduceLeDiff,  x3]
  by_cases m0 : t.mode = 0
  · rw [show decide (t.mode = 0) = true by simp [m0], if_pos m0]
    refine W_if_t rfl ?_
    simp +contextual (maxSteps := 2000000) (disch := first | omega | (simp only [SZ]; first | done | omega) | (simp only [TS] at *; omega)) only [RZ, ovw, oneC, reduceAdd, reduceMul, reduceSub, reduceEqDiff, reduceLT, ↓reduceIte, Int.reduceToNat, reduceLeDiff]
    exact hb2
  rw [show decide (t.mode = 0) = false by simp [m0], if_neg m0]
  refine W_if_f rfl ?_
  simp +contextual (maxSteps := 2000000) (disch := first | omega | (simp only [SZ]; first | done | omega) | (simp only [TS] at *; omega)) only [RZ, ovw, oneC, reduceAdd, reduceMul, reduceSub, reduceEqDiff, reduceLT, ↓reduceIte, Int.reduceToNat, reduceLeDiff]
  by_cases m1 : t.mode = 1 ∨ t.mode = 2
  · rw [if_pos m1]
    by_cases m11 : t.mode = 1
    · rw [show decide (t.mode = 1) = true by simp [m11]]
      refine W_if_t rfl ?_
      simp +contextual (maxSteps := 2000000) (disch := first | omega | (simp only [SZ]; first | done | omega) | (simp only [TS] at *; omega)) only [RZ, ovw, oneC, reduceAdd, reduceMul, reduceSub, reduceEqDiff, reduceLT, ↓reduceIte, Int.reduceToNat, reduceLeDiff]
      refine W_if_t rfl ?_
      simp +contextual (maxSteps := 2000000) (disch := first | omega | (simp only [SZ]; first | done | omega) | (simp only [TS] at *; omega)) only [RZ, ovw, oneC, reduceAdd, reduceMul, reduceSub, reduceEqDiff, reduceLT, ↓reduceIte, Int.reduceToNat, reduceLeDiff,  x0, x1, x2]
      exact hb2
    · rw [show decide (t.mode = 1) = false by simp [m11]]
      refine W_if_f rfl ?_
      have d2 : decide (t.mode = 2) = true := by simp [m1.resolve_left m11]
      simp +contextual (maxSteps := 2000000) (disch := first | omega | (simp only [SZ]; first | done | omega) | (simp only [TS] at *; omega)) only [RZ, ovw, oneC, reduceAdd, reduceMul, reduceSub, reduceEqDiff, reduceLT, ↓reduceIte, Int.reduceToNat, reduceLeDiff,  d2]
      refine W_if_t rfl ?_
      simp +contextual (maxSteps := 2000000) (disch := first | omega | (simp only [SZ]; first | done | omega) | (simp only [TS] at *; omega)) only [RZ, ovw, oneC, reduceAdd, reduceMul, reduceSub, reduceEqDiff, reduceLT, ↓reduceIte, Int.reduceToNat, reduceLeDiff,  x0, x1, x2]
      exact hb2
  rw [if_neg m1]
  have m11 : ¬ t.mode = 1 := fun e => m1 (.inl e)
  have m12 : ¬ t.mode = 2 := fun e => m1 (.inr e)
  rw [show decide (t.mode = 1) = false by simp [m11]]
  refine W_if_f rfl ?_
  have d2 : decide (t.mode = 2) = false := by simp [m12]
  simp +contextual (maxSteps := 2000000) (disch := first | omega | (simp only [SZ]; first | done | omega) | (simp only [TS] at *; omega)) only [RZ, ovw, oneC, reduceAdd, reduceMul, reduceSub, reduceEqDiff, reduceLT, ↓reduceIte, Int.reduceToNat, reduceLeDiff,  d2]
  refine W_if_f rfl ?_
  simp +contextual (maxSteps := 2000000) (disch := first | omega | (simp only [SZ]; first | done | omega) | (simp only [TS] at *; omega)) only [RZ, ovw, oneC, reduceAdd, reduceMul, reduceSub, reduceEqDiff, reduceLT, ↓reduceIte, Int.reduceToNat, reduceLeDiff]
  by_cases m3 : t.mode = 3
  · rw [show decide (t.mode = 3) = true by simp [m3], if_pos (.inl m3)]
    refine W_if_t rfl ?_
    simp +contextual (maxSteps := 2000000) (disch := first | omega | (simp only [SZ]; first | done | omega) | (simp only [TS] at *; omega)) only [RZ, ovw, oneC, reduceAdd, reduceMul, reduceSub, reduceEqDiff, reduceLT, ↓reduceIte, Int.reduceToNat, reduceLeDiff]
    refine W_if_t rfl ?_
    simp +contextual (maxSteps := 2000000) (disch := first | omega | (simp only [SZ]; first | done | omega) | (simp only [TS] at *; omega)) only [RZ, ovw, oneC, reduceAdd, reduceMul, reduceSub, reduceEqDiff, reduceLT, ↓reduceIte, Int.reduceToNat, reduceLeDiff,  x1, x2]
    exact hb2
  rw [show decide (t.mode = 3) = false by simp [m3]]
  refine W_if_f rfl ?_
  by_cases m4 : t.mode = 4
  · have d4 : decide (t.mode = 4) = true := by simp [m4]
    rw [if_pos (.inr m4)]
    simp +contextual (maxSteps := 2000000) (disch := first | omega | (simp only [SZ]; first | done | omega) | (simp only [TS] at *; omega)) only [RZ, ovw, oneC, reduceAdd, reduceMul, reduceSub, reduceEqDiff, reduceLT, ↓reduceIte, Int.reduceToNat, reduceLeDiff,  d4]
    refine W_if_t rfl ?_
    simp +contextual (maxSteps := 2000000) (disch := first | omega | (simp only [SZ]; first | done | omega) | (simp only [TS] at *; omega)) only [RZ, ovw, oneC, reduceAdd, reduceMul, reduceSub, reduceEqDiff, reduceLT, ↓reduceIte, Int.reduceToNat, reduceLeDiff,  x1, x2]
    exact hb2
  · have d4 : decide (t.mode = 4) = false := by simp [m4]
    rw [if_neg (fun e => e.elim m3 m4)]
    simp +contextual (maxSteps := 2000000) (disch := first | omega | (simp only [SZ]; first | done | omega) | (simp only [TS] at *; omega)) only [RZ, ovw, oneC, reduceAdd, reduceMul, reduceSub, reduceEqDiff, reduceLT, ↓reduceIte, Int.reduceToNat, reduceLeDiff,  d4]
    refine W_if_f rfl ?_
    simp +contextual (maxSteps := 2000000) (disch := first | omega | (simp only [SZ]; first | done | omega) | (simp only [TS] at *; omega)) only [RZ, ovw, oneC, reduceAdd, reduceMul, reduceSub, reduceEqDiff, reduceLT, ↓reduceIte, Int.reduceToNat, reduceLeDiff]
    exact hb2
end Go.Proofs.YtbdkggnajipdhaaGreatDoor
