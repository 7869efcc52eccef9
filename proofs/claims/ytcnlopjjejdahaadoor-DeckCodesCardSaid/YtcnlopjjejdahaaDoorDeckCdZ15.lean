/- Texts laid one behind the other: DwE, DwF. Each says at its head what it proves. -/
import Derived.Test.YtcnlopjjejdahaaDoorY14
set_option linter.unusedSimpArgs false
/- Walks: the law's count; the law DeckKeepsPlan. -/
namespace Go.Proofs.YtcnlopjjejdahaaDoor
open Go.RowKit
set_option maxRecDepth 100000
def packQ (S k : Nat) (i : Nat) : Bool := decide (k = 0) || decide (i / S + 1 = k)
theorem packQ_zero (S : Nat) : packQ S 0 = fun _ => true := by
  funext i
  simp [packQ]
theorem packQ_pos {S k : Nat} (h : 1 ≤ k) : packQ S k = fun i => decide (i / S + 1 = k) := by
  funext i
  simp [packQ, show ¬ k = 0 by omega]
theorem cntP_drop {q : Nat → Bool} {x : Int} {Z : List Int} {k : Nat} {z : Int} (h : Z[k]? = some z) : cntP q x k (Z.drop k) = (if q k = true ∧ z = x then 1 else 0) + cntP q x (k + 1) (Z.drop (k + 1)) := by
  obtain ⟨hk, rfl⟩ := List.getElem?_eq_some_iff.1 h
  rw [List.drop_eq_getElem_cons hk, cntP]
theorem cntP_le (q : Nat → Bool) (x : Int) : ∀ (Z : List Int) (i : Nat), cntP q x i Z ≤ Z.length
  | [], _ => Nat.le_refl _
  | z :: r, i => by
    have := cntP_le q x r (i + 1)
    rw [cntP, List.length_cons]
    split <;> omega
theorem count_any (S gd cd : Nat) (seed x : Int) (k : Nat) (Z : List Int) (w : World) (hR : Row w gd 46 (deckV S seed Z)) (hZ : Z.length ≤ 8192) (hk : k ≤ 1000) (hc : Z.length ≤ cd) :
    Calls Tryd.prog 26 #[.slice (some ⟨gd, 0, none⟩) Z.length cd, .int .i64 k, .int .i64 x] w fun e w' => e = .returned (.int .i64 (cntP (packQ S k) x 0 Z)) ∧ Below w.heap.size w w' := by
  refine calls_W (l := [_, _, _]) Tryd.func26 rfl _ Tryd.ntmps26 (by simp) ?_
  simp +contextual (maxSteps := 2000000) (disch := (first | omega | (simp only [SZ]; done) | (simp only [SZ]; omega) | (simp only [TS] at *; omega))) only [RZ, gval, gslot, fillL, ovw, numb, catL, ldN, agL, okC, oneC, init, Nat.reduceAdd, Nat.reduceMul, Nat.reduceSub, Nat.reduceEqDiff, Nat.reduceLT, ↓reduceIte, Int.reduceToNat, Int.reduceAdd, Int.reduceSub, Int.reduceMul, Int.reduceLT, Int.reduceLE, Int.reduceEq, Nat.reduceLeDiff]
  refine Raw_loop (fun σ w2 => w2 = w ∧ ∃ (k2 m : Nat), k2 ≤ Z.length ∧ m ≤ k2 ∧ m + cntP (packQ S k) x k2 (Z.drop k2) = cntP (packQ S k) x 0 Z ∧ σ 0 = .slice (some ⟨gd, 0, none⟩) Z.length cd ∧ σ 1 = .int .i64 k ∧ σ 2 = .int .i64 x ∧ σ 7 = .int .i64 m ∧ σ 8 = .int .i64 k2) (fun σ _ => Z.length - (intOf (σ 8)).toNat) ?_ ?_
  · simp +contextual (maxSteps := 2000000) (disch := (first | omega | (simp only [SZ]; done) | (simp only [SZ]; omega) | (simp only [TS] at *; omega))) only [RZ, gval, gslot, fillL, ovw, numb, catL, ldN, agL, okC, oneC, init, Nat.reduceAdd, Nat.reduceMul, Nat.reduceSub, Nat.reduceEqDiff, Nat.reduceLT, ↓reduceIte, Int.reduceToNat, Int.reduceAdd, Int.reduceSub, Int.reduceMul, Int.reduceLT, Int.reduceLE, Int.reduceEq, Nat.reduceLeDiff]
    exact ⟨0, 0, Nat.zero_le _, Nat.zero_le _, by rw [List.drop_zero, Nat.zero_add], rfl, rfl⟩
  rintro σ w2 ⟨rfl, k2, m, hk2, hm, hsum, f0, f1, f2, f7, f8⟩ K hK0
  have hK : ∀ (σ' : Sl) (w' : World), (∃ (k2 m : Nat), k2 ≤ Z.length ∧ m ≤ k2 ∧ m + cntP (packQ S k) x k2 (Z.drop k2) = cntP (packQ S k) x 0 Z ∧ w' = w2 ∧ σ' 0 = .slice (some ⟨gd, 0, none⟩) Z.length cd ∧ σ' 1 = .int .i64 k ∧ σ' 2 = .int .i64 x ∧ σ' 7 = .int .i64 m ∧ σ' 8 = .int .i64 k2) → Z.length - (intOf (σ' 8)).toNat < Z.length - (intOf (σ 8)).toNat → K σ' w' := fun σ' w' ⟨a, b, h1, h2, h3, h4, h5⟩ hlt => hK0 σ' w' ⟨h4, a, b, h1, h2, h3, h5⟩ hlt
  simp +contextual (maxSteps := 2000000) (disch := (first | omega | (simp only [SZ]; done) | (simp only [SZ]; omega) | (simp only [TS] at *; omega))) only [RZ, gval, gslot, fillL, ovw, numb, catL, ldN, agL, okC, oneC, init, Nat.reduceAdd, Nat.reduceMul, Nat.reduceSub, Nat.reduceEqDiff, Nat.reduceLT, ↓reduceIte, Int.reduceToNat, Int.reduceAdd, Int.reduceSub, Int.reduceMul, Int.reduceLT, Int.reduceLE, Int.reduceEq, Nat.reduceLeDiff,  f0, f1, f2, f7, f8]
  (refine W_if rfl (fun hc => ?_) (fun hc => ?_) <;> (try simp only [TS] at hc))
  · obtain ⟨z, hz⟩ : ∃ z, Z[k2]? = some z := ⟨_, List.getElem?_eq_getElem (by omega)⟩
    obtain ⟨v0, v1, v2, v3⟩ := deckV_cell (S := S) (seed := seed) hz
    have l0 := hR.cell v0
    have l2 := hR.cell v2
    by_cases hzx : z = x
    · have e1 : (z = x) = True := eq_true hzx
      by_cases hk0 : k = 0
      · have e2 : ((k : Int) = 0) = True := eq_true (by omega)
        simp +contextual (maxSteps := 2000000) (disch := (first | omega | (simp only [SZ]; done) | (simp only [SZ]; omega) | (simp only [TS] at *; omega))) only [RZ, gval, gslot, fillL, ovw, numb, catL, ldN, agL, okC, oneC, init, Nat.reduceAdd, Nat.reduceMul, Nat.reduceSub, Nat.reduceEqDiff, Nat.reduceLT, ↓reduceIte, Int.reduceToNat, Int.reduceAdd, Int.reduceSub, Int.reduceMul, Int.reduceLT, Int.reduceLE, Int.reduceEq, Nat.reduceLeDiff,  f0, f1, f2, f7, f8, l0, l2, e1, e2]
        refine W_if_t rfl ?_
        simp +contextual (maxSteps := 2000000) (disch := (first | omega | (simp only [SZ]; done) | (simp only [SZ]; omega) | (simp only [TS] at *; omega))) only [RZ, gval, gslot, fillL, ovw, numb, catL, ldN, agL, okC, oneC, init, Nat.reduceAdd, Nat.reduceMul, Nat.reduceSub, Nat.reduceEqDiff, Nat.reduceLT, ↓reduceIte, Int.reduceToNat, Int.reduceAdd, Int.reduceSub, Int.reduceMul, Int.reduceLT, Int.reduceLE, Int.reduceEq, Nat.reduceLeDiff,  f0, f1, f2, f7, f8]
        refine hK _ _ ⟨k2 + 1, m + 1, by omega, by omega, ?_, ?_⟩ ?_
        · rw [← hsum, cntP_drop hz, if_pos ⟨by simp [packQ, hk0], hzx⟩]
          omega
        · simp +contextual (maxSteps := 2000000) (disch := (first | omega | (simp only [SZ]; done) | (simp only [SZ]; omega) | (simp only [TS] at *; omega))) only [RZ, gval, gslot, fillL, ovw, numb, catL, ldN, agL, okC, oneC, init, Nat.reduceAdd, Nat.reduceMul, Nat.reduceSub, Nat.reduceEqDiff, Nat.reduceLT, ↓reduceIte, Int.reduceToNat, Int.reduceAdd, Int.reduceSub, Int.reduceMul, Int.reduceLT, Int.reduceLE, Int.reduceEq, Nat.reduceLeDiff,  f0, f1, f2, f7, f8]
        · simp +contextual (maxSteps := 2000000) (disch := (first | omega | (simp only [SZ]; done) | (simp only [SZ]; omega) | (simp only [TS] at *; omega))) only [RZ, gval, gslot, fillL, ovw, numb, catL, ldN, agL, okC, oneC, init, Nat.reduceAdd, Nat.reduceMul, Nat.reduceSub, Nat.reduceEqDiff, Nat.reduceLT, ↓reduceIte, Int.reduceToNat, Int.reduceAdd, Int.reduceSub, Int.reduceMul, Int.reduceLT, Int.reduceLE, Int.reduceEq, Nat.reduceLeDiff,  intOf, f8]
          omega
      · have e2 : ((k : Int) = 0) = False := eq_false (by omega)
        by_cases hp : k2 / S + 1 = k
        · have e3 : (((k2 / S : Nat) : Int) + 1 = k) = True := eq_true (by rw [← hp]; rfl)
          simp +contextual (maxSteps := 2000000) (disch := (first | omega | (simp only [SZ]; done) | (simp only [SZ]; omega) | (simp only [TS] at *; omega))) only [RZ, gval, gslot, fillL, ovw, numb, catL, ldN, agL, okC, oneC, init, Nat.reduceAdd, Nat.reduceMul, Nat.reduceSub, Nat.reduceEqDiff, Nat.reduceLT, ↓reduceIte, Int.reduceToNat, Int.reduceAdd, Int.reduceSub, Int.reduceMul, Int.reduceLT, Int.reduceLE, Int.reduceEq, Nat.reduceLeDiff,  f0, f1, f2, f7, f8, l0, l2, e1, e2, e3]
          refine W_if_t rfl ?_
          simp +contextual (maxSteps := 2000000) (disch := (first | omega | (simp only [SZ]; done) | (simp only [SZ]; omega) | (simp only [TS] at *; omega))) only [RZ, gval, gslot, fillL, ovw, numb, catL, ldN, agL, okC, oneC, init, Nat.reduceAdd, Nat.reduceMul, Nat.reduceSub, Nat.reduceEqDiff, Nat.reduceLT, ↓reduceIte, Int.reduceToNat, Int.reduceAdd, Int.reduceSub, Int.reduceMul, Int.reduceLT, Int.reduceLE, Int.reduceEq, Nat.reduceLeDiff,  f0, f1, f2, f7, f8]
          refine hK _ _ ⟨k2 + 1, m + 1, by omega, by omega, ?_, ?_⟩ ?_
          · rw [← hsum, cntP_drop hz, if_pos ⟨by simp [packQ, hp], hzx⟩]
            omega
          · simp +contextual (maxSteps := 2000000) (disch := (first | omega | (simp only [SZ]; done) | (simp only [SZ]; omega) | (simp only [TS] at *; omega))) only [RZ, gval, gslot, fillL, ovw, numb, catL, ldN, agL, okC, oneC, init, Nat.reduceAdd, Nat.reduceMul, Nat.reduceSub, Nat.reduceEqDiff, Nat.reduceLT, ↓reduceIte, Int.reduceToNat, Int.reduceAdd, Int.reduceSub, Int.reduceMul, Int.reduceLT, Int.reduceLE, Int.reduceEq, Nat.reduceLeDiff,  f0, f1, f2, f7, f8]
          · simp +contextual (maxSteps := 2000000) (disch := (first | omega | (simp only [SZ]; done) | (simp only [SZ]; omega) | (simp only [TS] at *; omega))) only [RZ, gval, gslot, fillL, ovw, numb, catL, ldN, agL, okC, oneC, init, Nat.reduceAdd, Nat.reduceMul, Nat.reduceSub, Nat.reduceEqDiff, Nat.reduceLT, ↓reduceIte, Int.reduceToNat, Int.reduceAdd, Int.reduceSub, Int.reduceMul, Int.reduceLT, Int.reduceLE, Int.reduceEq, Nat.reduceLeDiff,  intOf, f8]
            omega
        · have e3 : (((k2 / S : Nat) : Int) + 1 = k) = False := eq_false fun h => hp (by exact_mod_cast h)
          simp +contextual (maxSteps := 2000000) (disch := (first | omega | (simp only [SZ]; done) | (simp only [SZ]; omega) | (simp only [TS] at *; omega))) only [RZ, gval, gslot, fillL, ovw, numb, catL, ldN, agL, okC, oneC, init, Nat.reduceAdd, Nat.reduceMul, Nat.reduceSub, Nat.reduceEqDiff, Nat.reduceLT, ↓reduceIte, Int.reduceToNat, Int.reduceAdd, Int.reduceSub, Int.reduceMul, Int.reduceLT, Int.reduceLE, Int.reduceEq, Nat.reduceLeDiff,  f0, f1, f2, f7, f8, l0, l2, e1, e2, e3]
          refine W_if_f rfl ?_
          simp +contextual (maxSteps := 2000000) (disch := (first | omega | (simp only [SZ]; done) | (simp only [SZ]; omega) | (simp only [TS] at *; omega))) only [RZ, gval, gslot, fillL, ovw, numb, catL, ldN, agL, okC, oneC, init, Nat.reduceAdd, Nat.reduceMul, Nat.reduceSub, Nat.reduceEqDiff, Nat.reduceLT, ↓reduceIte, Int.reduceToNat, Int.reduceAdd, Int.reduceSub, Int.reduceMul, Int.reduceLT, Int.reduceLE, Int.reduceEq, Nat.reduceLeDiff,  f0, f1, f2, f7, f8]
          refine hK _ _ ⟨k2 + 1, m, by omega, by omega, ?_, ?_⟩ ?_
          · rw [← hsum, cntP_drop hz, if_neg (fun h => by simp [packQ, hp, hk0] at h)]
            omega
          · simp +contextual (maxSteps := 2000000) (disch := (first | omega | (simp only [SZ]; done) | (simp only [SZ]; omega) | (simp only [TS] at *; omega))) only [RZ, gval, gslot, fillL, ovw, numb, catL, ldN, agL, okC, oneC, init, Nat.reduceAdd, Nat.reduceMul, Nat.reduceSub, Nat.reduceEqDiff, Nat.reduceLT, ↓reduceIte, Int.reduceToNat, Int.reduceAdd, Int.reduceSub, Int.reduceMul, Int.reduceLT, Int.reduceLE, Int.reduceEq, Nat.reduceLeDiff,  f0, f1, f2, f7, f8]
          · simp +contextual (maxSteps := 2000000) (disch := (first | omega | (simp only [SZ]; done) | (simp only [SZ]; omega) | (simp only [TS] at *; omega))) only [RZ, gval, gslot, fillL, ovw, numb, catL, ldN, agL, okC, oneC, init, Nat.reduceAdd, Nat.reduceMul, Nat.reduceSub, Nat.reduceEqDiff, Nat.reduceLT, ↓reduceIte, Int.reduceToNat, Int.reduceAdd, Int.reduceSub, Int.reduceMul, Int.reduceLT, Int.reduceLE, Int.reduceEq, Nat.reduceLeDiff,  intOf, f8]
            omega
    · have e1 : (z = x) = False := eq_false hzx
      simp +contextual (maxSteps := 2000000) (disch := (first | omega | (simp only [SZ]; done) | (simp only [SZ]; omega) | (simp only [TS] at *; omega))) only [RZ, gval, gslot, fillL, ovw, numb, catL, ldN, agL, okC, oneC, init, Nat.reduceAdd, Nat.reduceMul, Nat.reduceSub, Nat.reduceEqDiff, Nat.reduceLT, ↓reduceIte, Int.reduceToNat, Int.reduceAdd, Int.reduceSub, Int.reduceMul, Int.reduceLT, Int.reduceLE, Int.reduceEq, Nat.reduceLeDiff,  f0, f1, f2, f7, f8, l0, l2, e1]
      refine W_if_f rfl ?_
      simp +contextual (maxSteps := 2000000) (disch := (first | omega | (simp only [SZ]; done) | (simp only [SZ]; omega) | (simp only [TS] at *; omega))) only [RZ, gval, gslot, fillL, ovw, numb, catL, ldN, agL, okC, oneC, init, Nat.reduceAdd, Nat.reduceMul, Nat.reduceSub, Nat.reduceEqDiff, Nat.reduceLT, ↓reduceIte, Int.reduceToNat, Int.reduceAdd, Int.reduceSub, Int.reduceMul, Int.reduceLT, Int.reduceLE, Int.reduceEq, Nat.reduceLeDiff,  f0, f1, f2, f7, f8]
      refine hK _ _ ⟨k2 + 1, m, by omega, by omega, ?_, ?_⟩ ?_
      · rw [← hsum, cntP_drop hz, if_neg (fun h => hzx h.2)]
        omega
      · simp +contextual (maxSteps := 2000000) (disch := (first | omega | (simp only [SZ]; done) | (simp only [SZ]; omega) | (simp only [TS] at *; omega))) only [RZ, gval, gslot, fillL, ovw, numb, catL, ldN, agL, okC, oneC, init, Nat.reduceAdd, Nat.reduceMul, Nat.reduceSub, Nat.reduceEqDiff, Nat.reduceLT, ↓reduceIte, Int.reduceToNat, Int.reduceAdd, Int.reduceSub, Int.reduceMul, Int.reduceLT, Int.reduceLE, Int.reduceEq, Nat.reduceLeDiff,  f0, f1, f2, f7, f8]
      · simp +contextual (maxSteps := 2000000) (disch := (first | omega | (simp only [SZ]; done) | (simp only [SZ]; omega) | (simp only [TS] at *; omega))) only [RZ, gval, gslot, fillL, ovw, numb, catL, ldN, agL, okC, oneC, init, Nat.reduceAdd, Nat.reduceMul, Nat.reduceSub, Nat.reduceEqDiff, Nat.reduceLT, ↓reduceIte, Int.reduceToNat, Int.reduceAdd, Int.reduceSub, Int.reduceMul, Int.reduceLT, Int.reduceLE, Int.reduceEq, Nat.reduceLeDiff,  intOf, f8]
        omega
  · have hk3 : Z.drop k2 = [] := List.drop_eq_nil_of_le (by omega)
    rw [hk3, show cntP (packQ S k) x k2 [] = 0 from rfl, Nat.add_zero] at hsum
    subst hsum
    simp +contextual (maxSteps := 2000000) (disch := (first | omega | (simp only [SZ]; done) | (simp only [SZ]; omega) | (simp only [TS] at *; omega))) only [RZ, gval, gslot, fillL, ovw, numb, catL, ldN, agL, okC, oneC, init, Nat.reduceAdd, Nat.reduceMul, Nat.reduceSub, Nat.reduceEqDiff, Nat.reduceLT, ↓reduceIte, Int.reduceToNat, Int.reduceAdd, Int.reduceSub, Int.reduceMul, Int.reduceLT, Int.reduceLE, Int.reduceEq, Nat.reduceLeDiff,  f0, f1, f2, f7, f8]
    exact Below.refl _ _
set_option maxHeartbeats 2000000 in
theorem deckKeepsPlan_any (p : Pl) (A : Option Addr) (c : Nat) (seed : Int) (w : World) (hW : Laid w) (hL : Arr w A 3 (p.levels.map encLvl)) (hq : planWf p) (hsd : 0 ≤ seed ∧ seed ≤ 18446744073709551615) :
    Calls Tryd.prog 8 #[planV p A c, .int .u64 seed] w fun e w' => e = .returned (.bool true) ∧ Below w.heap.size w w' := by
  obtain ⟨hs, hl, hr, hrv⟩ := hq
  refine calls_W (l := [_, _]) Tryd.func8 rfl _ Tryd.ntmps8 (by simp) ?_
  have hpv : planV p A c = .agg #[.string p.name, .int .i64 p.price, .int .i64 p.packs, .int .i64 p.size, .slice A p.levels.length c] := rfl
  rw [hpv]
  have hw5 := hW.size
  simp +contextual (maxSteps := 2000000) (disch := (first | omega | (simp only [SZ]; done) | (simp only [SZ]; omega) | (simp only [TS] at *; omega))) only [RZ, gval, gslot, fillL, ovw, numb, catL, ldN, agL, okC, oneC, init, Nat.reduceAdd, Nat.reduceMul, Nat.reduceSub, Nat.reduceEqDiff, Nat.reduceLT, ↓reduceIte, Int.reduceToNat, Int.reduceAdd, Int.reduceSub, Int.reduceMul, Int.reduceLT, Int.reduceLE, Int.reduceEq, Nat.reduceLeDiff]
  have r0 := Row.new w 24 [.string p.name, .int .i64 p.price, .int .i64 p.packs, .int .i64 p.size, .slice A p.levels.length c]
  replace r0 : Row (w.alloc (.cells #[.string p.name, .int .i64 p.price, .int .i64 p.packs, .int .i64 p.size, .slice A p.levels.length c] 24)) _ _ _ := r0
  have hB := below_alloc w (.cells #[.string p.name, .int .i64 p.price, .int .i64 p.packs, .int .i64 p.size, .slice A p.levels.length c] 24)
  generalize w.alloc (.cells #[.string p.name, .int .i64 p.price, .int .i64 p.packs, .int .i64 p.size, .slice A p.levels.length c] 24) = w1 at *
  have hL1 := hL.below hB
  have hz1 := hB.size
  refine (few_any p A c w1).mono ?_
  rintro e w2 ⟨rfl, hB2⟩
  refine ⟨_, rfl, ?_⟩
  have r0 := r0.below hB2
  have hL2 := hL1.below hB2
  have hF2 := hB.trans (hB2.mono hz1)
  have hz2 := hF2.size
  cases hfew : fewB p with
  | false =>
    simp +contextual (maxSteps := 2000000) (disch := (first | omega | (simp only [SZ]; done) | (simp only [SZ]; omega) | (simp only [TS] at *; omega))) only [RZ, gval, gslot, fillL, ovw, numb, catL, ldN, agL, okC, oneC, init, Nat.reduceAdd, Nat.reduceMul, Nat.reduceSub, Nat.reduceEqDiff, Nat.reduceLT, ↓reduceIte, Int.reduceToNat, Int.reduceAdd, Int.reduceSub, Int.reduceMul, Int.reduceLT, Int.reduceLE, Int.reduceEq, Nat.reduceLeDiff]
    refine W_if_t rfl ?_
    simp +contextual (maxSteps := 2000000) (disch := (first | omega | (simp only [SZ]; done) | (simp only [SZ]; omega) | (simp only [TS] at *; omega))) only [RZ, gval, gslot, fillL, ovw, numb, catL, ldN, agL, okC, oneC, init, Nat.reduceAdd, Nat.reduceMul, Nat.reduceSub, Nat.reduceEqDiff, Nat.reduceLT, ↓reduceIte, Int.reduceToNat, Int.reduceAdd, Int.reduceSub, Int.reduceMul, Int.reduceLT, Int.reduceLE, Int.reduceEq, Nat.reduceLeDiff]
    refine (awake_any w2 (hW.below hF2 hw5)).mono ?_
    rintro e wz ⟨rfl, hBz⟩
    refine ⟨_, rfl, ?_⟩
    simp +contextual (maxSteps := 2000000) (disch := (first | omega | (simp only [SZ]; done) | (simp only [SZ]; omega) | (simp only [TS] at *; omega))) only [RZ, gval, gslot, fillL, ovw, numb, catL, ldN, agL, okC, oneC, init, Nat.reduceAdd, Nat.reduceMul, Nat.reduceSub, Nat.reduceEqDiff, Nat.reduceLT, ↓reduceIte, Int.reduceToNat, Int.reduceAdd, Int.reduceSub, Int.reduceMul, Int.reduceLT, Int.reduceLE, Int.reduceEq, Nat.reduceLeDiff]
    exact hF2.trans (hBz.mono hz2)
  | true =>
  unfold fewB at hfew
  simp only [Bool.and_eq_true, decide_eq_true_eq] at hfew
  have a0 := r0.cell (i := 0) rfl
  have a1 := r0.cell (i := 1) rfl
  have a2 := r0.cell (i := 2) rfl
  have a3 := r0.cell (i := 3) rfl
  have a4 := r0.cell (i := 4) rfl
  simp +contextual (maxSteps := 2000000) (disch := (first | omega | (simp only [SZ]; done) | (simp only [SZ]; omega) | (simp only [TS] at *; omega))) only [RZ, gval, gslot, fillL, ovw, numb, catL, ldN, agL, okC, oneC, init, Nat.reduceAdd, Nat.reduceMul, Nat.reduceSub, Nat.reduceEqDiff, Nat.reduceLT, ↓reduceIte, Int.reduceToNat, Int.reduceAdd, Int.reduceSub, Int.reduceMul, Int.reduceLT, Int.reduceLE, Int.reduceEq, Nat.reduceLeDiff,  a0, a1, a2, a3, a4]
  refine (light_any p A c w2).mono ?_
  rintro e w3 ⟨rfl, hB3⟩
  refine ⟨_, rfl, ?_⟩
  have r0 := r0.below hB3
  have hL3 := hL2.below hB3
  have hF3 := hF2.trans (hB3.mono hz2)
  have hz3 := hF3.size
  cases hlig : lightB p with
  | false =>
    simp +contextual (maxSteps := 2000000) (disch := (first | omega | (simp only [SZ]; done) | (simp only [SZ]; omega) | (simp only [TS] at *; omega))) only [RZ, gval, gslot, fillL, ovw, numb, catL, ldN, agL, okC, oneC, init, Nat.reduceAdd, Nat.reduceMul, Nat.reduceSub, Nat.reduceEqDiff, Nat.reduceLT, ↓reduceIte, Int.reduceToNat, Int.reduceAdd, Int.reduceSub, Int.reduceMul, Int.reduceLT, Int.reduceLE, Int.reduceEq, Nat.reduceLeDiff]
    refine W_if_t rfl ?_
    simp +contextual (maxSteps := 2000000) (disch := (first | omega | (simp only [SZ]; done) | (simp only [SZ]; omega) | (simp only [TS] at *; omega))) only [RZ, gval, gslot, fillL, ovw, numb, catL, ldN, agL, okC, oneC, init, Nat.reduceAdd, Nat.reduceMul, Nat.reduceSub, Nat.reduceEqDiff, Nat.reduceLT, ↓reduceIte, Int.reduceToNat, Int.reduceAdd, Int.reduceSub, Int.reduceMul, Int.reduceLT, Int.reduceLE, Int.reduceEq, Nat.reduceLeDiff]
    refine (awake_any w3 (hW.below hF3 hw5)).mono ?_
    rintro e wz ⟨rfl, hBz⟩
    refine ⟨_, rfl, ?_⟩
    simp +contextual (maxSteps := 2000000) (disch := (first | omega | (simp only [SZ]; done) | (simp only [SZ]; omega) | (simp only [TS] at *; omega))) only [RZ, gval, gslot, fillL, ovw, numb, catL, ldN, agL, okC, oneC, init, Nat.reduceAdd, Nat.reduceMul, Nat.reduceSub, Nat.reduceEqDiff, Nat.reduceLT, ↓reduceIte, Int.reduceToNat, Int.reduceAdd, Int.reduceSub, Int.reduceMul, Int.reduceLT, Int.reduceLE, Int.reduceEq, Nat.reduceLeDiff]
    exact hF3.trans (hBz.mono hz3)
  | true =>
  have hlt := of_decide_eq_true hlig
  clear a0 a1 a2 a3 a4
  simp +contextual (maxSteps := 2000000) (disch := (first | omega | (simp only [SZ]; done) | (simp only [SZ]; omega) | (simp only [TS] at *; omega))) only [RZ, gval, gslot, fillL, ovw, numb, catL, ldN, agL, okC, oneC, init, Nat.reduceAdd, Nat.reduceMul, Nat.reduceSub, Nat.reduceEqDiff, Nat.reduceLT, ↓reduceIte, Int.reduceToNat, Int.reduceAdd, Int.reduceSub, Int.reduceMul, Int.reduceLT, Int.reduceLE, Int.reduceEq, Nat.reduceLeDiff]
  refine W_if_f rfl ?_
  have a0 := r0.cell (i := 0) rfl
  have a1 := r0.cell (i := 1) rfl
  have a2 := r0.cell (i := 2) rfl
  have a3 := r0.cell (i := 3) rfl
  have a4 := r0.cell (i := 4) rfl
  refine W_piece fun K0 hK0 hX0 => ?_
  simp +contextual (maxSteps := 2000000) (disch := (first | omega | (simp only [SZ]; done) | (simp only [SZ]; omega) | (simp only [TS] at *; omega))) only [RZ, gval, gslot, fillL, ovw, numb, catL, ldN, agL, okC, oneC, init, Nat.reduceAdd, Nat.reduceMul, Nat.reduceSub, Nat.reduceEqDiff, Nat.reduceLT, ↓reduceIte, Int.reduceToNat, Int.reduceAdd, Int.reduceSub, Int.reduceMul, Int.reduceLT, Int.reduceLE, Int.reduceEq, Nat.reduceLeDiff,  a0, a1, a2, a3, a4]
  refine (build_any p A c seed w3 (hW.below hF3 hw5) hs hL3 hsd.1 hsd.2).mono ?_
  rintro e w4 ⟨hB4, he⟩
  have r0 := r0.below hB4
  have hL4 := hL3.below hB4
  have hF4 := hF3.trans (hB4.mono hz3)
  have hz4 := hF4.size
  clear a0 a1 a2 a3 a4
  have a0 := r0.cell (i := 0) rfl
  have a1 := r0.cell (i := 1) rfl
  have a2 := r0.cell (i := 2) rfl
  have a3 := r0.cell (i := 3) rfl
  have a4 := r0.cell (i := 4) rfl
  have hck : chk p.name p.price p.packs p.size p.levels = p.chk := rfl
  by_cases hc0 : p.chk = 0
  rotate_left
  · have hb : buildE p seed = ([], p.chk) := if_neg hc0
    rw [hb, if_neg hc0] at he
    subst he
    refine ⟨_, rfl, ?_⟩
    have e1 : (p.chk = 0) = False := eq_false hc0
    simp +contextual (maxSteps := 2000000) (disch := (first | omega | (simp only [SZ]; done) | (simp only [SZ]; omega) | (simp only [TS] at *; omega))) only [RZ, gval, gslot, fillL, ovw, numb, catL, ldN, agL, okC, oneC, init, Nat.reduceAdd, Nat.reduceMul, Nat.reduceSub, Nat.reduceEqDiff, Nat.reduceLT, ↓reduceIte, Int.reduceToNat, Int.reduceAdd, Int.reduceSub, Int.reduceMul, Int.reduceLT, Int.reduceLE, Int.reduceEq, Nat.reduceLeDiff]
    refine hK0 _ _ ?_
    refine W_piece fun K1 hK1 hX1 => ?_
    simp +contextual (maxSteps := 2000000) (disch := (first | omega | (simp only [SZ]; done) | (simp only [SZ]; omega) | (simp only [TS] at *; omega))) only [RZ, gval, gslot, fillL, ovw, numb, catL, ldN, agL, okC, oneC, init, Nat.reduceAdd, Nat.reduceMul, Nat.reduceSub, Nat.reduceEqDiff, Nat.reduceLT, ↓reduceIte, Int.reduceToNat, Int.reduceAdd, Int.reduceSub, Int.reduceMul, Int.reduceLT, Int.reduceLE, Int.reduceEq, Nat.reduceLeDiff,  a0, a1, a2, a3, a4]
    refine (check_any p.name p.price p.packs p.size A c p.levels w4 hs hL4).mono ?_
    rintro e w5 ⟨rfl, hB5⟩
    refine ⟨_, rfl, ?_⟩
    have hF5 := hF4.trans (hB5.mono hz4)
    have hz5 := hF5.size
    rw [hck]
    simp +contextual (maxSteps := 2000000) (disch := (first | omega | (simp only [SZ]; done) | (simp only [SZ]; omega) | (simp only [TS] at *; omega))) only [RZ, gval, gslot, fillL, ovw, numb, catL, ldN, agL, okC, oneC, init, Nat.reduceAdd, Nat.reduceMul, Nat.reduceSub, Nat.reduceEqDiff, Nat.reduceLT, ↓reduceIte, Int.reduceToNat, Int.reduceAdd, Int.reduceSub, Int.reduceMul, Int.reduceLT, Int.reduceLE, Int.reduceEq, Nat.reduceLeDiff,  e1]
    refine W_if_t rfl ?_
    simp +contextual (maxSteps := 2000000) (disch := (first | omega | (simp only [SZ]; done) | (simp only [SZ]; omega) | (simp only [TS] at *; omega))) only [RZ, gval, gslot, fillL, ovw, numb, catL, ldN, agL, okC, oneC, init, Nat.reduceAdd, Nat.reduceMul, Nat.reduceSub, Nat.reduceEqDiff, Nat.reduceLT, ↓reduceIte, Int.reduceToNat, Int.reduceAdd, Int.reduceSub, Int.reduceMul, Int.reduceLT, Int.reduceLE, Int.reduceEq, Nat.reduceLeDiff,  e1]
    refine (awake_any w5 (hW.below hF5 hw5)).mono ?_
    rintro e wz ⟨rfl, hBz⟩
    refine ⟨_, rfl, ?_⟩
    simp +contextual (maxSteps := 2000000) (disch := (first | omega | (simp only [SZ]; done) | (simp only [SZ]; omega) | (simp only [TS] at *; omega))) only [RZ, gval, gslot, fillL, ovw, numb, catL, ldN, agL, okC, oneC, init, Nat.reduceAdd, Nat.reduceMul, Nat.reduceSub, Nat.reduceEqDiff, Nat.reduceLT, ↓reduceIte, Int.reduceToNat, Int.reduceAdd, Int.reduceSub, Int.reduceMul, Int.reduceLT, Int.reduceLE, Int.reduceEq, Nat.reduceLeDiff]
    refine hX1 _ _ _ (by simp) ?_
    simp +contextual (maxSteps := 2000000) (disch := (first | omega | (simp only [SZ]; done) | (simp only [SZ]; omega) | (simp only [TS] at *; omega))) only [RZ, gval, gslot, fillL, ovw, numb, catL, ldN, agL, okC, oneC, init, Nat.reduceAdd, Nat.reduceMul, Nat.reduceSub, Nat.reduceEqDiff, Nat.reduceLT, ↓reduceIte, Int.reduceToNat, Int.reduceAdd, Int.reduceSub, Int.reduceMul, Int.reduceLT, Int.reduceLE, Int.reduceEq, Nat.reduceLeDiff]
    exact ⟨rfl, hF5.trans (hBz.mono hz5)⟩
  obtain ⟨q1, q2, q3, q4, q5, q6⟩ := chk_ok hc0
  have hv := chkL_ok q3 q4 _ _ _ _ (Int.le_refl _) q6
  have hsum := chkL_sum _ _ _ _ q6
  obtain ⟨S, hSi⟩ : ∃ S : Nat, p.size = S := ⟨p.size.toNat, by omega⟩
  obtain ⟨P, hPi⟩ : ∃ P : Nat, p.packs = P := ⟨p.packs.toNat, by omega⟩
  have hb : buildE p seed = (insL S seed (deckZ P S p.levels seed).1, (deckZ P S p.levels seed).2) := by
    unfold buildE
    rw [if_pos hc0, hSi, hPi, Int.toNat_natCast]
  have hdz := deckZ_ok (p := P) (s := S) (L := p.levels) (by omega) (by omega) (by rw [← hPi, ← hSi]; exact q6) seed
  rw [hb] at he
  generalize deckZ P S p.levels seed = D at *
  obtain ⟨Z, er⟩ := D
  dsimp only at he hdz
  have e1 : (p.chk = 0) = True := eq_true hc0
  rcases hdz with ⟨rfl, hok⟩ | ⟨rfl, rfl⟩
  rotate_left
  · rw [if_neg (by decide)] at he
    subst he
    refine ⟨_, rfl, ?_⟩
    simp +contextual (maxSteps := 2000000) (disch := (first | omega | (simp only [SZ]; done) | (simp only [SZ]; omega) | (simp only [TS] at *; omega))) only [RZ, gval, gslot, fillL, ovw, numb, catL, ldN, agL, okC, oneC, init, Nat.reduceAdd, Nat.reduceMul, Nat.reduceSub, Nat.reduceEqDiff, Nat.reduceLT, ↓reduceIte, Int.reduceToNat, Int.reduceAdd, Int.reduceSub, Int.reduceMul, Int.reduceLT, Int.reduceLE, Int.reduceEq, Nat.reduceLeDiff]
    refine hK0 _ _ ?_
    refine W_piece fun K1 hK1 hX1 => ?_
    simp +contextual (maxSteps := 2000000) (disch := (first | omega | (simp only [SZ]; done) | (simp only [SZ]; omega) | (simp only [TS] at *; omega))) only [RZ, gval, gslot, fillL, ovw, numb, catL, ldN, agL, okC, oneC, init, Nat.reduceAdd, Nat.reduceMul, Nat.reduceSub, Nat.reduceEqDiff, Nat.reduceLT, ↓reduceIte, Int.reduceToNat, Int.reduceAdd, Int.reduceSub, Int.reduceMul, Int.reduceLT, Int.reduceLE, Int.reduceEq, Nat.reduceLeDiff,  a0, a1, a2, a3, a4]
    refine (check_any p.name p.price p.packs p.size A c p.levels w4 hs hL4).mono ?_
    rintro e w5 ⟨rfl, hB5⟩
    refine ⟨_, rfl, ?_⟩
    have hF5 := hF4.trans (hB5.mono hz4)
    have hz5 := hF5.size
    rw [hck]
    simp +contextual (maxSteps := 2000000) (disch := (first | omega | (simp only [SZ]; done) | (simp only [SZ]; omega) | (simp only [TS] at *; omega))) only [RZ, gval, gslot, fillL, ovw, numb, catL, ldN, agL, okC, oneC, init, Nat.reduceAdd, Nat.reduceMul, Nat.reduceSub, Nat.reduceEqDiff, Nat.reduceLT, ↓reduceIte, Int.reduceToNat, Int.reduceAdd, Int.reduceSub, Int.reduceMul, Int.reduceLT, Int.reduceLE, Int.reduceEq, Nat.reduceLeDiff,  e1]
    refine W_if_f rfl ?_
    simp +contextual (maxSteps := 2000000) (disch := (first | omega | (simp only [SZ]; done) | (simp only [SZ]; omega) | (simp only [TS] at *; omega))) only [RZ, gval, gslot, fillL, ovw, numb, catL, ldN, agL, okC, oneC, init, Nat.reduceAdd, Nat.reduceMul, Nat.reduceSub, Nat.reduceEqDiff, Nat.reduceLT, ↓reduceIte, Int.reduceToNat, Int.reduceAdd, Int.reduceSub, Int.reduceMul, Int.reduceLT, Int.reduceLE, Int.reduceEq, Nat.reduceLeDiff]
    refine hK1 _ _ ?_
    refine W_piece fun K2 hK2 hX2 => ?_
    simp +contextual (maxSteps := 2000000) (disch := (first | omega | (simp only [SZ]; done) | (simp only [SZ]; omega) | (simp only [TS] at *; omega))) only [RZ, gval, gslot, fillL, ovw, numb, catL, ldN, agL, okC, oneC, init, Nat.reduceAdd, Nat.reduceMul, Nat.reduceSub, Nat.reduceEqDiff, Nat.reduceLT, ↓reduceIte, Int.reduceToNat, Int.reduceAdd, Int.reduceSub, Int.reduceMul, Int.reduceLT, Int.reduceLE, Int.reduceEq, Nat.reduceLeDiff]
    refine W_if_t rfl ?_
    simp +contextual (maxSteps := 2000000) (disch := (first | omega | (simp only [SZ]; done) | (simp only [SZ]; omega) | (simp only [TS] at *; omega))) only [RZ, gval, gslot, fillL, ovw, numb, catL, ldN, agL, okC, oneC, init, Nat.reduceAdd, Nat.reduceMul, Nat.reduceSub, Nat.reduceEqDiff, Nat.reduceLT, ↓reduceIte, Int.reduceToNat, Int.reduceAdd, Int.reduceSub, Int.reduceMul, Int.reduceLT, Int.reduceLE, Int.reduceEq, Nat.reduceLeDiff]
    refine (awake_any w5 (hW.below hF5 hw5)).mono ?_
    rintro e wz ⟨rfl, hBz⟩
    refine ⟨_, rfl, ?_⟩
    simp +contextual (maxSteps := 2000000) (disch := (first | omega | (simp only [SZ]; done) | (simp only [SZ]; omega) | (simp only [TS] at *; omega))) only [RZ, gval, gslot, fillL, ovw, numb, catL, ldN, agL, okC, oneC, init, Nat.reduceAdd, Nat.reduceMul, Nat.reduceSub, Nat.reduceEqDiff, Nat.reduceLT, ↓reduceIte, Int.reduceToNat, Int.reduceAdd, Int.reduceSub, Int.reduceMul, Int.reduceLT, Int.reduceLE, Int.reduceEq, Nat.reduceLeDiff]
    refine hX2 _ _ _ (by simp) ?_
    simp +contextual (maxSteps := 2000000) (disch := (first | omega | (simp only [SZ]; done) | (simp only [SZ]; omega) | (simp only [TS] at *; omega))) only [RZ, gval, gslot, fillL, ovw, numb, catL, ldN, agL, okC, oneC, init, Nat.reduceAdd, Nat.reduceMul, Nat.reduceSub, Nat.reduceEqDiff, Nat.reduceLT, ↓reduceIte, Int.reduceToNat, Int.reduceAdd, Int.reduceSub, Int.reduceMul, Int.reduceLT, Int.reduceLE, Int.reduceEq, Nat.reduceLeDiff]
    exact ⟨rfl, hF5.trans (hBz.mono hz5)⟩
  rw [if_pos rfl, insL_len] at he
  obtain ⟨gd, hgd, rfl, hR4⟩ := he
  replace hR4 : Row w4 gd 46 (deckV S seed Z) := hR4
  refine ⟨_, rfl, ?_⟩
  have hPb : P * S ≤ 32 * 256 := Nat.mul_le_mul (by omega) (by omega)
  have hPS : (P : Int) * S = ((P * S : Nat) : Int) := (Int.natCast_mul P S).symm
  have hZl := hok.len
  simp +contextual (maxSteps := 2000000) (disch := (first | omega | (simp only [SZ]; done) | (simp only [SZ]; omega) | (simp only [TS] at *; omega))) only [RZ, gval, gslot, fillL, ovw, numb, catL, ldN, agL, okC, oneC, init, Nat.reduceAdd, Nat.reduceMul, Nat.reduceSub, Nat.reduceEqDiff, Nat.reduceLT, ↓reduceIte, Int.reduceToNat, Int.reduceAdd, Int.reduceSub, Int.reduceMul, Int.reduceLT, Int.reduceLE, Int.reduceEq, Nat.reduceLeDiff]
  refine hK0 _ _ ?_
  clear hK0 hX0 K0
  refine W_piece fun K1 hK1 hX1 => ?_
  simp +contextual (maxSteps := 2000000) (disch := (first | omega | (simp only [SZ]; done) | (simp only [SZ]; omega) | (simp only [TS] at *; omega))) only [RZ, gval, gslot, fillL, ovw, numb, catL, ldN, agL, okC, oneC, init, Nat.reduceAdd, Nat.reduceMul, Nat.reduceSub, Nat.reduceEqDiff, Nat.reduceLT, ↓reduceIte, Int.reduceToNat, Int.reduceAdd, Int.reduceSub, Int.reduceMul, Int.reduceLT, Int.reduceLE, Int.reduceEq, Nat.reduceLeDiff,  a0, a1, a2, a3, a4]
  refine (check_any p.name p.price p.packs p.size A c p.levels w4 hs hL4).mono ?_
  rintro e w5 ⟨rfl, hB5⟩
  refine ⟨_, rfl, ?_⟩
  have r0 := r0.below hB5
  have hL5 := hL4.below hB5
  have hR5 := hR4.below hB5
  have hF5 := hF4.trans (hB5.mono hz4)
  have hz5 := hF5.size
  clear a0 a1 a2 a3 a4
  have a0 := r0.cell (i := 0) rfl
  have a1 := r0.cell (i := 1) rfl
  have a2 := r0.cell (i := 2) rfl
  have a3 := r0.cell (i := 3) rfl
  have a4 := r0.cell (i := 4) rfl
  rw [hck]
  simp +contextual (maxSteps := 2000000) (disch := (first | omega | (simp only [SZ]; done) | (simp only [SZ]; omega) | (simp only [TS] at *; omega))) only [RZ, gval, gslot, fillL, ovw, numb, catL, ldN, agL, okC, oneC, init, Nat.reduceAdd, Nat.reduceMul, Nat.reduceSub, Nat.reduceEqDiff, Nat.reduceLT, ↓reduceIte, Int.reduceToNat, Int.reduceAdd, Int.reduceSub, Int.reduceMul, Int.reduceLT, Int.reduceLE, Int.reduceEq, Nat.reduceLeDiff,  e1]
  refine W_if_f rfl ?_
  simp +contextual (maxSteps := 2000000) (disch := (first | omega | (simp only [SZ]; done) | (simp only [SZ]; omega) | (simp only [TS] at *; omega))) only [RZ, gval, gslot, fillL, ovw, numb, catL, ldN, agL, okC, oneC, init, Nat.reduceAdd, Nat.reduceMul, Nat.reduceSub, Nat.reduceEqDiff, Nat.reduceLT, ↓reduceIte, Int.reduceToNat, Int.reduceAdd, Int.reduceSub, Int.reduceMul, Int.reduceLT, Int.reduceLE, Int.reduceEq, Nat.reduceLeDiff]
  refine hK1 _ _ ?_
  clear hK1 hX1 K1
  refine W_piece fun K2 hK2 hX2 => ?_
  simp +contextual (maxSteps := 2000000) (disch := (first | omega | (simp only [SZ]; done) | (simp only [SZ]; omega) | (simp only [TS] at *; omega))) only [RZ, gval, gslot, fillL, ovw, numb, catL, ldN, agL, okC, oneC, init, Nat.reduceAdd, Nat.reduceMul, Nat.reduceSub, Nat.reduceEqDiff, Nat.reduceLT, ↓reduceIte, Int.reduceToNat, Int.reduceAdd, Int.reduceSub, Int.reduceMul, Int.reduceLT, Int.reduceLE, Int.reduceEq, Nat.reduceLeDiff]
  refine W_if_f rfl ?_
  simp +contextual (maxSteps := 2000000) (disch := (first | omega | (simp only [SZ]; done) | (simp only [SZ]; omega) | (simp only [TS] at *; omega))) only [RZ, gval, gslot, fillL, ovw, numb, catL, ldN, agL, okC, oneC, init, Nat.reduceAdd, Nat.reduceMul, Nat.reduceSub, Nat.reduceEqDiff, Nat.reduceLT, ↓reduceIte, Int.reduceToNat, Int.reduceAdd, Int.reduceSub, Int.reduceMul, Int.reduceLT, Int.reduceLE, Int.reduceEq, Nat.reduceLeDiff]
  refine hK2 _ _ ?_
  clear hK2 hX2 K2
  have hm0 : 0 ≤ p.packs * p.size := by rw [hPi, hSi, hPS]; omega
  have e2 : ((Z.length : Int) = p.packs * p.size) = True := eq_true (by rw [hPi, hSi, hPS, hZl])
  refine W_piece fun K2 hK2 hX2 => ?_
  simp +contextual (maxSteps := 2000000) (disch := (first | omega | (simp only [SZ]; done) | (simp only [SZ]; omega) | (simp only [TS] at *; omega))) only [RZ, gval, gslot, fillL, ovw, numb, catL, ldN, agL, okC, oneC, init, Nat.reduceAdd, Nat.reduceMul, Nat.reduceSub, Nat.reduceEqDiff, Nat.reduceLT, ↓reduceIte, Int.reduceToNat, Int.reduceAdd, Int.reduceSub, Int.reduceMul, Int.reduceLT, Int.reduceLE, Int.reduceEq, Nat.reduceLeDiff,  a2, a3, e2]
  refine W_if_f rfl ?_
  simp +contextual (maxSteps := 2000000) (disch := (first | omega | (simp only [SZ]; done) | (simp only [SZ]; omega) | (simp only [TS] at *; omega))) only [RZ, gval, gslot, fillL, ovw, numb, catL, ldN, agL, okC, oneC, init, Nat.reduceAdd, Nat.reduceMul, Nat.reduceSub, Nat.reduceEqDiff, Nat.reduceLT, ↓reduceIte, Int.reduceToNat, Int.reduceAdd, Int.reduceSub, Int.reduceMul, Int.reduceLT, Int.reduceLE, Int.reduceEq, Nat.reduceLeDiff]
  refine hK2 _ _ ?_
  clear hK2 hX2 K2
  refine W_piece fun K2 hK2 hX2 => ?_
  simp +contextual (maxSteps := 2000000) (disch := (first | omega | (simp only [SZ]; done) | (simp only [SZ]; omega) | (simp only [TS] at *; omega))) only [RZ, gval, gslot, fillL, ovw, numb, catL, ldN, agL, okC, oneC, init, Nat.reduceAdd, Nat.reduceMul, Nat.reduceSub, Nat.reduceEqDiff, Nat.reduceLT, ↓reduceIte, Int.reduceToNat, Int.reduceAdd, Int.reduceSub, Int.reduceMul, Int.reduceLT, Int.reduceLE, Int.reduceEq, Nat.reduceLeDiff]
  refine hK2 _ _ ?_
  clear hK2 hX2 K2
  refine W_pieceP (fun _ _ _ h => h) fun K2 hK2 hX2 hP2 => ?_
  simp +contextual (maxSteps := 2000000) (disch := (first | omega | (simp only [SZ]; done) | (simp only [SZ]; omega) | (simp only [TS] at *; omega))) only [RZ, gval, gslot, fillL, ovw, numb, catL, ldN, agL, okC, oneC, init, Nat.reduceAdd, Nat.reduceMul, Nat.reduceSub, Nat.reduceEqDiff, Nat.reduceLT, ↓reduceIte, Int.reduceToNat, Int.reduceAdd, Int.reduceSub, Int.reduceMul, Int.reduceLT, Int.reduceLE, Int.reduceEq, Nat.reduceLeDiff,  a4]
  have hsn : ∀ k, 0 ≤ sumC (p.levels.drop k) ∧ sumC (p.levels.drop k) ≤ P * S := fun k => by
    have hpos : ∀ L : List Lvl, (∀ v ∈ L, 1 ≤ v.count) → 0 ≤ sumC L := fun L h => by
      induction L with
      | nil => exact Int.le_refl _
      | cons v L ih =>
        rw [sumC_cons]
        have := h v (by simp)
        have := ih fun u hu => h u (by simp [hu])
        omega
    have h1 := hpos (p.levels.drop k) fun v hm => (hv v (List.mem_of_mem_drop hm)).2.1.1
    have h2 := hpos (p.levels.take k) fun v hm => (hv v (List.mem_of_mem_take hm)).2.1.1
    have h3 : sumC p.levels = sumC (p.levels.take k) + sumC (p.levels.drop k) := by
      unfold sumC
      rw [← List.sum_append, ← List.map_append, List.take_append_drop]
    rw [hPi, hSi] at hsum
    omega
  have hsL := hsn 0
  rw [List.drop_zero] at hsL
  have hlv := hok.all
  have hpk := hok.per
  have hnn := hok.none
  refine Raw_loop (fun σ w6 => ∃ (k : Nat) (nn : Int), k ≤ p.levels.length ∧ nn - sumC (p.levels.drop k) = (P * S : Nat) - sumC p.levels ∧ Below w5.heap.size w5 w6 ∧ σ 2 = .pointer (some ⟨w.heap.size, 0, none⟩) ∧ σ 5 = .slice (some ⟨gd, 0, none⟩) Z.length Z.length ∧ σ 7 = .int .i64 nn ∧ σ 8 = .int .i64 k) (fun σ _ => p.levels.length - (intOf (σ 8)).toNat) ?_ ?_
  · simp +contextual (maxSteps := 2000000) (disch := (first | omega | (simp only [SZ]; done) | (simp only [SZ]; omega) | (simp only [TS] at *; omega))) only [RZ, gval, gslot, fillL, ovw, numb, catL, ldN, agL, okC, oneC, init, Nat.reduceAdd, Nat.reduceMul, Nat.reduceSub, Nat.reduceEqDiff, Nat.reduceLT, ↓reduceIte, Int.reduceToNat, Int.reduceAdd, Int.reduceSub, Int.reduceMul, Int.reduceLT, Int.reduceLE, Int.reduceEq, Nat.reduceLeDiff]
    exact ⟨0, _, Nat.zero_le _, by rw [List.drop_zero, hZl], Below.refl _ _, rfl, rfl⟩
  · rintro σ w6 ⟨k, nn, hk, hnk, hB6, f2, f5, f7, f8⟩ K hK
    have hz6 := hB6.size
    have r06 := r0.below hB6
    have a2 := r06.cell (i := 2) rfl
    have a4 := r06.cell (i := 4) rfl
    have hL6 := hL5.below hB6
    have hR6 := hR5.below hB6
    have hr6 := r06.lt
    simp +contextual (maxSteps := 2000000) (disch := (first | omega | (simp only [SZ]; done) | (simp only [SZ]; omega) | (simp only [TS] at *; omega))) only [RZ, gval, gslot, fillL, ovw, numb, catL, ldN, agL, okC, oneC, init, Nat.reduceAdd, Nat.reduceMul, Nat.reduceSub, Nat.reduceEqDiff, Nat.reduceLT, ↓reduceIte, Int.reduceToNat, Int.reduceAdd, Int.reduceSub, Int.reduceMul, Int.reduceLT, Int.reduceLE, Int.reduceEq, Nat.reduceLeDiff,  f2, f5, f7, f8, a4]
    (refine W_if rfl (fun hc => ?_) (fun hc => ?_) <;> (try simp only [TS] at hc))
    · obtain ⟨v, hvk⟩ : ∃ v, p.levels[k]? = some v := ⟨_, List.getElem?_eq_getElem (by omega)⟩
      have hvm := List.mem_of_getElem? hvk
      have hvv := hv v hvm
      obtain ⟨ba, oa, rfl, hba, hcell⟩ := hL6.at_ hvk
      have l0 := hcell 0 _ rfl
      rw [Nat.add_zero] at l0
      have l1 := hcell 1 _ rfl
      have l2 := hcell 2 _ rfl
      have hsd1 := hsn k
      have hsd2 := hsn (k + 1)
      have hsk : sumC (p.levels.drop k) = v.count + sumC (p.levels.drop (k + 1)) := by
        obtain ⟨hkl, rfl⟩ := List.getElem?_eq_some_iff.1 hvk
        rw [List.drop_eq_getElem_cons hkl, sumC_cons]
      simp +contextual (maxSteps := 2000000) (disch := (first | omega | (simp only [SZ]; done) | (simp only [SZ]; omega) | (simp only [TS] at *; omega))) only [RZ, gval, gslot, fillL, ovw, numb, catL, ldN, agL, okC, oneC, init, Nat.reduceAdd, Nat.reduceMul, Nat.reduceSub, Nat.reduceEqDiff, Nat.reduceLT, ↓reduceIte, Int.reduceToNat, Int.reduceAdd, Int.reduceSub, Int.reduceMul, Int.reduceLT, Int.reduceLE, Int.reduceEq, Nat.reduceLeDiff,  f2, f5, f7, f8, a4, l0, l1, l2]
      have hro := Row.new w6 43 (encLvl v)
      have hb7 := below_alloc w6 (.cells (encLvl v).toArray 43)
      rw [show (encLvl v).toArray = #[.int .i64 v.prize, .int .i64 v.count, .int .i64 v.pack] from rfl] at hro hb7
      have hR7 := hR6.below hb7
      have hB7 := hB6.trans (hb7.mono (by omega))
      have r07 := r06.below hb7
      generalize w6.alloc (.cells #[.int .i64 v.prize, .int .i64 v.count, .int .i64 v.pack] 43) = w7 at *
      have hdw : Below w7.heap.size w7 w7.drew := ⟨rfl, rfl, rfl, Nat.le_refl _, fun _ _ => rfl⟩
      refine Raw_rcS (τ := ?ta) (fun w' => Below w7.heap.size w7 w') [0, 1, 2, 4, 5] [3, 6] MX rfl (by kernel_rfl) (by kernel_rfl) (by kernel_rfl) (fun c σ w h => hP2 c σ w h) hdw (fun w8 h8 => ?_) ?_; rotate_left
      · have c0 := (hro.below h8).cell (i := 0) rfl
        have c1 := (hro.below h8).cell (i := 1) rfl
        simp only [opsL_cons, opsL_nil, List.getElem?_toArray, List.getElem?_cons_zero, List.getElem?_cons_succ, optL_some]
        simp +contextual (maxSteps := 2000000) (disch := (first | omega | (simp only [SZ]; done) | (simp only [SZ]; omega) | (simp only [TS] at *; omega))) only [RZ, gval, gslot, fillL, ovw, numb, catL, ldN, agL, okC, oneC, init, Nat.reduceAdd, Nat.reduceMul, Nat.reduceSub, Nat.reduceEqDiff, Nat.reduceLT, ↓reduceIte, Int.reduceToNat, Int.reduceAdd, Int.reduceSub, Int.reduceMul, Int.reduceLT, Int.reduceLE, Int.reduceEq, Nat.reduceLeDiff,  f2, f5, f7, f8, c0, c1]
        exact rfl
      simp only [opsL_cons, opsL_nil, List.getElem?_toArray, List.getElem?_cons_zero, List.getElem?_cons_succ, optL_some]
      simp +contextual (maxSteps := 2000000) (disch := (first | omega | (simp only [SZ]; done) | (simp only [SZ]; omega) | (simp only [TS] at *; omega))) only [RZ, gval, gslot, fillL, ovw, numb, catL, ldN, agL, okC, oneC, init, Nat.reduceAdd, Nat.reduceMul, Nat.reduceSub, Nat.reduceEqDiff, Nat.reduceLT, ↓reduceIte, Int.reduceToNat, Int.reduceAdd, Int.reduceSub, Int.reduceMul, Int.reduceLT, Int.reduceLE, Int.reduceEq, Nat.reduceLeDiff,  EC_op, EC_nil]
      refine (count_any S gd Z.length seed v.prize 0 Z w7.drew (hR7.below hdw) (by omega) (by omega) (Nat.le_refl _)).mono ?_
      rintro e w8 ⟨rfl, hB8⟩
      refine ⟨_, rfl, ?_⟩
      have hB8 := hdw.trans hB8
      refine ⟨hB8, ?_⟩
      have hcc : ((cntP (packQ S 0) v.prize 0 Z : Nat) : Int) = v.count := by rw [packQ_zero]; exact hlv v hvm
      rw [hcc]
      simp +contextual (maxSteps := 2000000) (disch := (first | omega | (simp only [SZ]; done) | (simp only [SZ]; omega) | (simp only [TS] at *; omega))) only [RZ, gval, gslot, fillL, ovw, numb, catL, ldN, agL, okC, oneC, init, Nat.reduceAdd, Nat.reduceMul, Nat.reduceSub, Nat.reduceEqDiff, Nat.reduceLT, ↓reduceIte, Int.reduceToNat, Int.reduceAdd, Int.reduceSub, Int.reduceMul, Int.reduceLT, Int.reduceLE, Int.reduceEq, Nat.reduceLeDiff,  EC_op, EC_nil, hB8]
      refine W_if_f rfl ?_
      have hz7 := hB7.size
      have hz8 := hB8.size
      have hB58 := hB7.trans (hB8.mono (by omega))
      have r08 := r07.below hB8
      have a2 := r08.cell (i := 2) rfl
      have hro8 := hro.below hB8
      have hR8 := hR7.below hB8
      have hro7 := hro.lt
      simp +contextual (maxSteps := 2000000) (disch := (first | omega | (simp only [SZ]; done) | (simp only [SZ]; omega) | (simp only [TS] at *; omega))) only [RZ, gval, gslot, fillL, ovw, numb, catL, ldN, agL, okC, oneC, init, Nat.reduceAdd, Nat.reduceMul, Nat.reduceSub, Nat.reduceEqDiff, Nat.reduceLT, ↓reduceIte, Int.reduceToNat, Int.reduceAdd, Int.reduceSub, Int.reduceMul, Int.reduceLT, Int.reduceLE, Int.reduceEq, Nat.reduceLeDiff,  f2, f5, f7, f8, a2]
      refine Raw_loop (fun σ9 w9 => ∃ kk : Nat, 1 ≤ kk ∧ kk ≤ P + 1 ∧ Below w8.heap.size w8 w9 ∧ σ9 2 = .pointer (some ⟨w.heap.size, 0, none⟩) ∧ σ9 5 = .slice (some ⟨gd, 0, none⟩) Z.length Z.length ∧ σ9 7 = .int .i64 nn ∧ σ9 8 = .int .i64 k ∧ σ9 9 = .pointer (some ⟨w6.heap.size, 0, none⟩) ∧ σ9 10 = .int .i64 kk) (fun σ9 _ => P + 1 - (intOf (σ9 10)).toNat) ?_ ?_
      · simp +contextual (maxSteps := 2000000) (disch := (first | omega | (simp only [SZ]; done) | (simp only [SZ]; omega) | (simp only [TS] at *; omega))) only [RZ, gval, gslot, fillL, ovw, numb, catL, ldN, agL, okC, oneC, init, Nat.reduceAdd, Nat.reduceMul, Nat.reduceSub, Nat.reduceEqDiff, Nat.reduceLT, ↓reduceIte, Int.reduceToNat, Int.reduceAdd, Int.reduceSub, Int.reduceMul, Int.reduceLT, Int.reduceLE, Int.reduceEq, Nat.reduceLeDiff,  f2, f5, f7, f8]
        exact ⟨1, by omega, by omega, Below.refl _ _, rfl⟩
      rintro σ9 w9 ⟨kk, hkk1, hkk2, hB9, g2, g5, g7, g8, g9, g10⟩ K9 hK9
      have r09 := r08.below hB9
      have a2 := r09.cell (i := 2) rfl
      rw [hPi] at a2
      have hro9 := hro8.below hB9
      have hR9 := hR8.below hB9
      have hz9 := hB9.size
      simp +contextual (maxSteps := 2000000) (disch := (first | omega | (simp only [SZ]; done) | (simp only [SZ]; omega) | (simp only [TS] at *; omega))) only [RZ, gval, gslot, fillL, ovw, numb, catL, ldN, agL, okC, oneC, init, Nat.reduceAdd, Nat.reduceMul, Nat.reduceSub, Nat.reduceEqDiff, Nat.reduceLT, ↓reduceIte, Int.reduceToNat, Int.reduceAdd, Int.reduceSub, Int.reduceMul, Int.reduceLT, Int.reduceLE, Int.reduceEq, Nat.reduceLeDiff,  g2, g5, g7, g8, g9, g10, a2]
      (refine W_if rfl (fun hc => ?_) (fun hc => ?_) <;> (try simp only [TS] at hc))
      · simp +contextual (maxSteps := 2000000) (disch := (first | omega | (simp only [SZ]; done) | (simp only [SZ]; omega) | (simp only [TS] at *; omega))) only [RZ, gval, gslot, fillL, ovw, numb, catL, ldN, agL, okC, oneC, init, Nat.reduceAdd, Nat.reduceMul, Nat.reduceSub, Nat.reduceEqDiff, Nat.reduceLT, ↓reduceIte, Int.reduceToNat, Int.reduceAdd, Int.reduceSub, Int.reduceMul, Int.reduceLT, Int.reduceLE, Int.reduceEq, Nat.reduceLeDiff,  g2, g5, g7, g8, g9, g10]
        have hdw : Below w9.heap.size w9 w9.drew := ⟨rfl, rfl, rfl, Nat.le_refl _, fun _ _ => rfl⟩
        refine Raw_rcS (τ := ?tb) (fun w' => Below w9.heap.size w9 w') [0, 1, 2, 3, 5, 6] [4, 7] MX rfl (by kernel_rfl) (by kernel_rfl) (by kernel_rfl) (fun c σ w h => hP2 c σ w h) hdw (fun w10 h10 => ?_) ?_; rotate_left
        · have c0 := (hro9.below h10).cell (i := 0) rfl
          have c2 := (hro9.below h10).cell (i := 2) rfl
          simp only [opsL_cons, opsL_nil, List.getElem?_toArray, List.getElem?_cons_zero, List.getElem?_cons_succ, optL_some]
          simp +contextual (maxSteps := 2000000) (disch := (first | omega | (simp only [SZ]; done) | (simp only [SZ]; omega) | (simp only [TS] at *; omega))) only [RZ, gval, gslot, fillL, ovw, numb, catL, ldN, agL, okC, oneC, init, Nat.reduceAdd, Nat.reduceMul, Nat.reduceSub, Nat.reduceEqDiff, Nat.reduceLT, ↓reduceIte, Int.reduceToNat, Int.reduceAdd, Int.reduceSub, Int.reduceMul, Int.reduceLT, Int.reduceLE, Int.reduceEq, Nat.reduceLeDiff,  g2, g5, g7, g8, g9, g10, c0, c2]
          exact rfl
        simp only [opsL_cons, opsL_nil, List.getElem?_toArray, List.getElem?_cons_zero, List.getElem?_cons_succ, optL_some]
        simp +contextual (maxSteps := 2000000) (disch := (first | omega | (simp only [SZ]; done) | (simp only [SZ]; omega) | (simp only [TS] at *; omega))) only [RZ, gval, gslot, fillL, ovw, numb, catL, ldN, agL, okC, oneC, init, Nat.reduceAdd, Nat.reduceMul, Nat.reduceSub, Nat.reduceEqDiff, Nat.reduceLT, ↓reduceIte, Int.reduceToNat, Int.reduceAdd, Int.reduceSub, Int.reduceMul, Int.reduceLT, Int.reduceLE, Int.reduceEq, Nat.reduceLeDiff,  EC_op, EC_nil]
        refine (count_any S gd Z.length seed v.prize kk Z w9.drew (hR9.below hdw) (by omega) (by omega) (Nat.le_refl _)).mono ?_
        rintro e w10 ⟨rfl, hB10⟩
        refine ⟨_, rfl, ?_⟩
        have hB10 := hdw.trans hB10
        refine ⟨hB10, ?_⟩
        have hcp : v.pack ≤ ((cntP (packQ S kk) v.prize 0 Z : Nat) : Int) := by rw [packQ_pos hkk1]; exact hpk kk hkk1 (by omega) v hvm
        generalize cntP (packQ S kk) v.prize 0 Z = cn at *
        have e4 : ((cn : Int) < v.pack) = False := eq_false (by omega)
        simp +contextual (maxSteps := 2000000) (disch := (first | omega | (simp only [SZ]; done) | (simp only [SZ]; omega) | (simp only [TS] at *; omega))) only [RZ, gval, gslot, fillL, ovw, numb, catL, ldN, agL, okC, oneC, init, Nat.reduceAdd, Nat.reduceMul, Nat.reduceSub, Nat.reduceEqDiff, Nat.reduceLT, ↓reduceIte, Int.reduceToNat, Int.reduceAdd, Int.reduceSub, Int.reduceMul, Int.reduceLT, Int.reduceLE, Int.reduceEq, Nat.reduceLeDiff,  EC_op, EC_nil, hB10, e4]
        refine W_if_f rfl ?_
        simp +contextual (maxSteps := 2000000) (disch := (first | omega | (simp only [SZ]; done) | (simp only [SZ]; omega) | (simp only [TS] at *; omega))) only [RZ, gval, gslot, fillL, ovw, numb, catL, ldN, agL, okC, oneC, init, Nat.reduceAdd, Nat.reduceMul, Nat.reduceSub, Nat.reduceEqDiff, Nat.reduceLT, ↓reduceIte, Int.reduceToNat, Int.reduceAdd, Int.reduceSub, Int.reduceMul, Int.reduceLT, Int.reduceLE, Int.reduceEq, Nat.reduceLeDiff,  g2, g5, g7, g8, g9, g10]
        refine hK9 _ _ ⟨kk + 1, by omega, by omega, hB9.trans (hB10.mono hz9), ?_⟩ ?_
        · simp +contextual (maxSteps := 2000000) (disch := (first | omega | (simp only [SZ]; done) | (simp only [SZ]; omega) | (simp only [TS] at *; omega))) only [RZ, gval, gslot, fillL, ovw, numb, catL, ldN, agL, okC, oneC, init, Nat.reduceAdd, Nat.reduceMul, Nat.reduceSub, Nat.reduceEqDiff, Nat.reduceLT, ↓reduceIte, Int.reduceToNat, Int.reduceAdd, Int.reduceSub, Int.reduceMul, Int.reduceLT, Int.reduceLE, Int.reduceEq, Nat.reduceLeDiff,  g2, g5, g7, g8, g9, g10]
        · simp +contextual (maxSteps := 2000000) (disch := (first | omega | (simp only [SZ]; done) | (simp only [SZ]; omega) | (simp only [TS] at *; omega))) only [RZ, gval, gslot, fillL, ovw, numb, catL, ldN, agL, okC, oneC, init, Nat.reduceAdd, Nat.reduceMul, Nat.reduceSub, Nat.reduceEqDiff, Nat.reduceLT, ↓reduceIte, Int.reduceToNat, Int.reduceAdd, Int.reduceSub, Int.reduceMul, Int.reduceLT, Int.reduceLE, Int.reduceEq, Nat.reduceLeDiff,  intOf, g10]
          omega
      · have c1 := hro9.cell (i := 1) rfl
        simp +contextual (maxSteps := 2000000) (disch := (first | omega | (simp only [SZ]; done) | (simp only [SZ]; omega) | (simp only [TS] at *; omega))) only [RZ, gval, gslot, fillL, ovw, numb, catL, ldN, agL, okC, oneC, init, Nat.reduceAdd, Nat.reduceMul, Nat.reduceSub, Nat.reduceEqDiff, Nat.reduceLT, ↓reduceIte, Int.reduceToNat, Int.reduceAdd, Int.reduceSub, Int.reduceMul, Int.reduceLT, Int.reduceLE, Int.reduceEq, Nat.reduceLeDiff,  g2, g5, g7, g8, g9, g10, c1]
        refine hK _ _ ⟨k + 1, nn - v.count, by omega, by omega, hB58.trans (hB9.mono (by omega)), ?_⟩ ?_
        · simp +contextual (maxSteps := 2000000) (disch := (first | omega | (simp only [SZ]; done) | (simp only [SZ]; omega) | (simp only [TS] at *; omega))) only [RZ, gval, gslot, fillL, ovw, numb, catL, ldN, agL, okC, oneC, init, Nat.reduceAdd, Nat.reduceMul, Nat.reduceSub, Nat.reduceEqDiff, Nat.reduceLT, ↓reduceIte, Int.reduceToNat, Int.reduceAdd, Int.reduceSub, Int.reduceMul, Int.reduceLT, Int.reduceLE, Int.reduceEq, Nat.reduceLeDiff,  g2, g5, g7, g8, g9, g10]
        · simp +contextual (maxSteps := 2000000) (disch := (first | omega | (simp only [SZ]; done) | (simp only [SZ]; omega) | (simp only [TS] at *; omega))) only [RZ, gval, gslot, fillL, ovw, numb, catL, ldN, agL, okC, oneC, init, Nat.reduceAdd, Nat.reduceMul, Nat.reduceSub, Nat.reduceEqDiff, Nat.reduceLT, ↓reduceIte, Int.reduceToNat, Int.reduceAdd, Int.reduceSub, Int.reduceMul, Int.reduceLT, Int.reduceLE, Int.reduceEq, Nat.reduceLeDiff,  intOf, f8, g8]
          omega
    · simp +contextual (maxSteps := 2000000) (disch := (first | omega | (simp only [SZ]; done) | (simp only [SZ]; omega) | (simp only [TS] at *; omega))) only [RZ, gval, gslot, fillL, ovw, numb, catL, ldN, agL, okC, oneC, init, Nat.reduceAdd, Nat.reduceMul, Nat.reduceSub, Nat.reduceEqDiff, Nat.reduceLT, ↓reduceIte, Int.reduceToNat, Int.reduceAdd, Int.reduceSub, Int.reduceMul, Int.reduceLT, Int.reduceLE, Int.reduceEq, Nat.reduceLeDiff,  f2, f5, f7, f8, a4]
      have hkl : p.levels.drop k = [] := List.drop_eq_nil_of_le (by omega)
      rw [hkl, show sumC [] = 0 from rfl, Int.sub_zero] at hnk
      subst hnk
      refine hK2 _ _ ?_
      clear hK2 hX2 hP2 K2 hK K hlv hpk hsn
      refine W_pieceP (fun _ _ _ h => h) fun K2 hK2 hX2 hP2 => ?_
      simp +contextual (maxSteps := 2000000) (disch := (first | omega | (simp only [SZ]; done) | (simp only [SZ]; omega) | (simp only [TS] at *; omega))) only [RZ, gval, gslot, fillL, ovw, numb, catL, ldN, agL, okC, oneC, init, Nat.reduceAdd, Nat.reduceMul, Nat.reduceSub, Nat.reduceEqDiff, Nat.reduceLT, ↓reduceIte, Int.reduceToNat, Int.reduceAdd, Int.reduceSub, Int.reduceMul, Int.reduceLT, Int.reduceLE, Int.reduceEq, Nat.reduceLeDiff]
      refine Raw_loop (fun σ7 w7 => ∃ k7 : Nat, k7 ≤ Z.length ∧ Below w6.heap.size w6 w7 ∧ σ7 2 = .pointer (some ⟨w.heap.size, 0, none⟩) ∧ σ7 5 = .slice (some ⟨gd, 0, none⟩) Z.length Z.length ∧ σ7 7 = σ 7 ∧ σ7 11 = .int .i64 k7) (fun σ7 _ => Z.length - (intOf (σ7 11)).toNat) ?_ ?_
      · simp +contextual (maxSteps := 2000000) (disch := (first | omega | (simp only [SZ]; done) | (simp only [SZ]; omega) | (simp only [TS] at *; omega))) only [RZ, gval, gslot, fillL, ovw, numb, catL, ldN, agL, okC, oneC, init, Nat.reduceAdd, Nat.reduceMul, Nat.reduceSub, Nat.reduceEqDiff, Nat.reduceLT, ↓reduceIte, Int.reduceToNat, Int.reduceAdd, Int.reduceSub, Int.reduceMul, Int.reduceLT, Int.reduceLE, Int.reduceEq, Nat.reduceLeDiff,  f2, f5, f7, f8]
        exact ⟨0, Nat.zero_le _, Below.refl _ _, rfl⟩
      rintro σ7 w7 ⟨k7, hk7, hB7, g2, g5, g7, g11⟩ K hK
      have r07 := r06.below hB7
      have hR7 := hR6.below hB7
      have a3 := r07.cell (i := 3) rfl
      rw [hSi] at a3
      simp +contextual (maxSteps := 2000000) (disch := (first | omega | (simp only [SZ]; done) | (simp only [SZ]; omega) | (simp only [TS] at *; omega))) only [RZ, gval, gslot, fillL, ovw, numb, catL, ldN, agL, okC, oneC, init, Nat.reduceAdd, Nat.reduceMul, Nat.reduceSub, Nat.reduceEqDiff, Nat.reduceLT, ↓reduceIte, Int.reduceToNat, Int.reduceAdd, Int.reduceSub, Int.reduceMul, Int.reduceLT, Int.reduceLE, Int.reduceEq, Nat.reduceLeDiff,  g2, g5, g11]
      (refine W_if rfl (fun hc => ?_) (fun hc => ?_) <;> (try simp only [TS] at hc))
      · obtain ⟨z, hz⟩ : ∃ z, Z[k7]? = some z := ⟨_, List.getElem?_eq_getElem (by omega)⟩
        obtain ⟨v0, v1, v2, v3⟩ := deckV_cell (S := S) (seed := seed) hz
        have l0 : w7.drew.cell? _ = _ := hR7.cell v0
        have l1 : w7.drew.cell? _ = _ := hR7.cell v1
        have a3d : w7.drew.cell? _ = _ := a3
        obtain ⟨kq, hkq⟩ : ∃ kq, k7 / S = kq := ⟨_, rfl⟩
        obtain ⟨kr, hkr⟩ : ∃ kr, k7 % S = kr := ⟨_, rfl⟩
        have hquo : ((k7 : Int) / S) = (kq : Int) := by rw [← hkq, Int.natCast_ediv]
        have hrem : ((k7 : Int) % S) = (kr : Int) := by rw [← hkr, Int.natCast_emod]
        have hqb : kq ≤ k7 := hkq ▸ Nat.div_le_self _ _
        have hrb : kr ≤ k7 := hkr ▸ Nat.mod_le _ _
        rw [hkq] at l0
        rw [hkr] at l1
        simp +contextual (maxSteps := 2000000) (disch := (first | omega | (simp only [SZ]; done) | (simp only [SZ]; omega) | (simp only [TS] at *; omega))) only [RZ, gval, gslot, fillL, ovw, numb, catL, ldN, agL, okC, oneC, init, Nat.reduceAdd, Nat.reduceMul, Nat.reduceSub, Nat.reduceEqDiff, Nat.reduceLT, ↓reduceIte, Int.reduceToNat, Int.reduceAdd, Int.reduceSub, Int.reduceMul, Int.reduceLT, Int.reduceLE, Int.reduceEq, Nat.reduceLeDiff,  g2, g5, g11]
        refine Raw_still MX (by kernel_rfl) ?_
        simp +contextual (maxSteps := 2000000) (disch := (first | omega | (simp only [SZ]; done) | (simp only [SZ]; omega) | (simp only [TS] at *; omega))) only [RZ, gval, gslot, fillL, ovw, numb, catL, ldN, agL, okC, oneC, init, Nat.reduceAdd, Nat.reduceMul, Nat.reduceSub, Nat.reduceEqDiff, Nat.reduceLT, ↓reduceIte, Int.reduceToNat, Int.reduceAdd, Int.reduceSub, Int.reduceMul, Int.reduceLT, Int.reduceLE, Int.reduceEq, Nat.reduceLeDiff,  g2, g5, g11, l0, l1, a3d, hquo, hrem]
        refine W_if_f rfl ?_
        simp +contextual (maxSteps := 2000000) (disch := (first | omega | (simp only [SZ]; done) | (simp only [SZ]; omega) | (simp only [TS] at *; omega))) only [RZ, gval, gslot, fillL, ovw, numb, catL, ldN, agL, okC, oneC, init, Nat.reduceAdd, Nat.reduceMul, Nat.reduceSub, Nat.reduceEqDiff, Nat.reduceLT, ↓reduceIte, Int.reduceToNat, Int.reduceAdd, Int.reduceSub, Int.reduceMul, Int.reduceLT, Int.reduceLE, Int.reduceEq, Nat.reduceLeDiff,  g2, g5, g11]
        refine hK _ _ ⟨k7 + 1, by omega, ⟨hB7.os, hB7.tape, hB7.output, hB7.size, hB7.block⟩, ?_⟩ ?_
        · simp +contextual (maxSteps := 2000000) (disch := (first | omega | (simp only [SZ]; done) | (simp only [SZ]; omega) | (simp only [TS] at *; omega))) only [RZ, gval, gslot, fillL, ovw, numb, catL, ldN, agL, okC, oneC, init, Nat.reduceAdd, Nat.reduceMul, Nat.reduceSub, Nat.reduceEqDiff, Nat.reduceLT, ↓reduceIte, Int.reduceToNat, Int.reduceAdd, Int.reduceSub, Int.reduceMul, Int.reduceLT, Int.reduceLE, Int.reduceEq, Nat.reduceLeDiff,  g2, g5, g7, g11]
        · simp +contextual (maxSteps := 2000000) (disch := (first | omega | (simp only [SZ]; done) | (simp only [SZ]; omega) | (simp only [TS] at *; omega))) only [RZ, gval, gslot, fillL, ovw, numb, catL, ldN, agL, okC, oneC, init, Nat.reduceAdd, Nat.reduceMul, Nat.reduceSub, Nat.reduceEqDiff, Nat.reduceLT, ↓reduceIte, Int.reduceToNat, Int.reduceAdd, Int.reduceSub, Int.reduceMul, Int.reduceLT, Int.reduceLE, Int.reduceEq, Nat.reduceLeDiff,  intOf, g11]
          omega
      · simp +contextual (maxSteps := 2000000) (disch := (first | omega | (simp only [SZ]; done) | (simp only [SZ]; omega) | (simp only [TS] at *; omega))) only [RZ, gval, gslot, fillL, ovw, numb, catL, ldN, agL, okC, oneC, init, Nat.reduceAdd, Nat.reduceMul, Nat.reduceSub, Nat.reduceEqDiff, Nat.reduceLT, ↓reduceIte, Int.reduceToNat, Int.reduceAdd, Int.reduceSub, Int.reduceMul, Int.reduceLT, Int.reduceLE, Int.reduceEq, Nat.reduceLeDiff,  g2, g5, g11]
        refine hK2 _ _ ?_
        rw [f7] at g7
        have hB57 := hB6.trans (hB7.mono hz6)
        have hF7 := hF5.trans (hB57.mono hz5)
        have hz7 := hB7.size
        refine W_piece fun K3 hK3 hX3 => ?_
        simp +contextual (maxSteps := 2000000) (disch := (first | omega | (simp only [SZ]; done) | (simp only [SZ]; omega) | (simp only [TS] at *; omega))) only [RZ, gval, gslot, fillL, ovw, numb, catL, ldN, agL, okC, oneC, init, Nat.reduceAdd, Nat.reduceMul, Nat.reduceSub, Nat.reduceEqDiff, Nat.reduceLT, ↓reduceIte, Int.reduceToNat, Int.reduceAdd, Int.reduceSub, Int.reduceMul, Int.reduceLT, Int.reduceLE, Int.reduceEq, Nat.reduceLeDiff,  g5, g7]
        refine (count_any S gd Z.length seed 0 0 Z w7 hR7 (by omega) (by omega) (Nat.le_refl _)).mono ?_
        rintro e w8 ⟨rfl, hB8⟩
        refine ⟨_, rfl, ?_⟩
        have hF8 := hF7.trans (hB8.mono (by omega))
        have hz8 := hF8.size
        have hcc : ((cntP (packQ S 0) 0 0 Z : Nat) : Int) = (P * S : Nat) - sumC p.levels := by rw [packQ_zero, hnn, hPS]
        rw [hcc]
        simp +contextual (maxSteps := 2000000) (disch := (first | omega | (simp only [SZ]; done) | (simp only [SZ]; omega) | (simp only [TS] at *; omega))) only [RZ, gval, gslot, fillL, ovw, numb, catL, ldN, agL, okC, oneC, init, Nat.reduceAdd, Nat.reduceMul, Nat.reduceSub, Nat.reduceEqDiff, Nat.reduceLT, ↓reduceIte, Int.reduceToNat, Int.reduceAdd, Int.reduceSub, Int.reduceMul, Int.reduceLT, Int.reduceLE, Int.reduceEq, Nat.reduceLeDiff,  g5, g7]
        refine (awake_any w8 (hW.below hF8 hw5)).mono ?_
        rintro e wz ⟨rfl, hBz⟩
        refine ⟨_, rfl, ?_⟩
        simp +contextual (maxSteps := 2000000) (disch := (first | omega | (simp only [SZ]; done) | (simp only [SZ]; omega) | (simp only [TS] at *; omega))) only [RZ, gval, gslot, fillL, ovw, numb, catL, ldN, agL, okC, oneC, init, Nat.reduceAdd, Nat.reduceMul, Nat.reduceSub, Nat.reduceEqDiff, Nat.reduceLT, ↓reduceIte, Int.reduceToNat, Int.reduceAdd, Int.reduceSub, Int.reduceMul, Int.reduceLT, Int.reduceLE, Int.reduceEq, Nat.reduceLeDiff]
        refine hK3 _ _ ?_
        simp +contextual (maxSteps := 2000000) (disch := (first | omega | (simp only [SZ]; done) | (simp only [SZ]; omega) | (simp only [TS] at *; omega))) only [RZ, gval, gslot, fillL, ovw, numb, catL, ldN, agL, okC, oneC, init, Nat.reduceAdd, Nat.reduceMul, Nat.reduceSub, Nat.reduceEqDiff, Nat.reduceLT, ↓reduceIte, Int.reduceToNat, Int.reduceAdd, Int.reduceSub, Int.reduceMul, Int.reduceLT, Int.reduceLE, Int.reduceEq, Nat.reduceLeDiff]
        exact hF8.trans (hBz.mono hz8)
end Go.Proofs.YtcnlopjjejdahaaDoor
/- Walks: the law DeckPays. -/
namespace Go.Proofs.YtcnlopjjejdahaaDoor
open Go.RowKit
set_option maxRecDepth 100000
theorem tot_le : ∀ (Z : List Int), (∀ z ∈ Z, 0 ≤ z ∧ z ≤ 1000000000) → 0 ≤ tot (fun z => z) Z ∧ tot (fun z => z) Z ≤ 1000000000 * Z.length
  | [], _ => ⟨Int.le_refl _, Int.le_refl _⟩
  | z :: r, h => by
    have h1 := tot_le r fun u hu => h u (by simp [hu])
    have h2 := h z (by simp)
    rw [tot_cons, List.length_cons]
    omega
theorem tot_drop {Z : List Int} {k : Nat} {z : Int} (h : Z[k]? = some z) : tot (fun z => z) (Z.drop k) = z + tot (fun z => z) (Z.drop (k + 1)) := by
  obtain ⟨hk, rfl⟩ := List.getElem?_eq_some_iff.1 h
  rw [List.drop_eq_getElem_cons hk, tot_cons]
set_option maxHeartbeats 2000000 in
theorem deckPays_any (p : Pl) (A : Option Addr) (c : Nat) (seed : Int) (w : World) (hW : Laid w) (hL : Arr w A 3 (p.levels.map encLvl)) (hq : planWf p) (hsd : 0 ≤ seed ∧ seed ≤ 18446744073709551615) :
    Calls Tryd.prog 9 #[planV p A c, .int .u64 seed] w fun e w' => e = .returned (.bool true) ∧ Below w.heap.size w w' := by
  obtain ⟨hs, hl, hr, hrv⟩ := hq
  refine calls_W (l := [_, _]) Tryd.func9 rfl _ Tryd.ntmps9 (by simp) ?_
  have hpv : planV p A c = .agg #[.string p.name, .int .i64 p.price, .int .i64 p.packs, .int .i64 p.size, .slice A p.levels.length c] := rfl
  rw [hpv]
  have hw5 := hW.size
  simp +contextual (maxSteps := 2000000) (disch := (first | omega | (simp only [SZ]; done) | (simp only [SZ]; omega) | (simp only [TS] at *; omega))) only [RZ, gval, gslot, fillL, ovw, numb, catL, ldN, agL, okC, oneC, init, Nat.reduceAdd, Nat.reduceMul, Nat.reduceSub, Nat.reduceEqDiff, Nat.reduceLT, ↓reduceIte, Int.reduceToNat, Int.reduceAdd, Int.reduceSub, Int.reduceMul, Int.reduceLT, Int.reduceLE, Int.reduceEq, Nat.reduceLeDiff]
  have r0 := Row.new w 24 [.string p.name, .int .i64 p.price, .int .i64 p.packs, .int .i64 p.size, .slice A p.levels.length c]
  replace r0 : Row (w.alloc (.cells #[.string p.name, .int .i64 p.price, .int .i64 p.packs, .int .i64 p.size, .slice A p.levels.length c] 24)) _ _ _ := r0
  have hB := below_alloc w (.cells #[.string p.name, .int .i64 p.price, .int .i64 p.packs, .int .i64 p.size, .slice A p.levels.length c] 24)
  generalize w.alloc (.cells #[.string p.name, .int .i64 p.price, .int .i64 p.packs, .int .i64 p.size, .slice A p.levels.length c] 24) = w1 at *
  have hL1 := hL.below hB
  have hz1 := hB.size
  refine (few_any p A c w1).mono ?_
  rintro e w2 ⟨rfl, hB2⟩
  refine ⟨_, rfl, ?_⟩
  have r0 := r0.below hB2
  have hL2 := hL1.below hB2
  have hF2 := hB.trans (hB2.mono hz1)
  have hz2 := hF2.size
  cases hfew : fewB p with
  | false =>
    simp +contextual (maxSteps := 2000000) (disch := (first | omega | (simp only [SZ]; done) | (simp only [SZ]; omega) | (simp only [TS] at *; omega))) only [RZ, gval, gslot, fillL, ovw, numb, catL, ldN, agL, okC, oneC, init, Nat.reduceAdd, Nat.reduceMul, Nat.reduceSub, Nat.reduceEqDiff, Nat.reduceLT, ↓reduceIte, Int.reduceToNat, Int.reduceAdd, Int.reduceSub, Int.reduceMul, Int.reduceLT, Int.reduceLE, Int.reduceEq, Nat.reduceLeDiff]
    refine W_if_t rfl ?_
    simp +contextual (maxSteps := 2000000) (disch := (first | omega | (simp only [SZ]; done) | (simp only [SZ]; omega) | (simp only [TS] at *; omega))) only [RZ, gval, gslot, fillL, ovw, numb, catL, ldN, agL, okC, oneC, init, Nat.reduceAdd, Nat.reduceMul, Nat.reduceSub, Nat.reduceEqDiff, Nat.reduceLT, ↓reduceIte, Int.reduceToNat, Int.reduceAdd, Int.reduceSub, Int.reduceMul, Int.reduceLT, Int.reduceLE, Int.reduceEq, Nat.reduceLeDiff]
    refine (awake_any w2 (hW.below hF2 hw5)).mono ?_
    rintro e wz ⟨rfl, hBz⟩
    refine ⟨_, rfl, ?_⟩
    simp +contextual (maxSteps := 2000000) (disch := (first | omega | (simp only [SZ]; done) | (simp only [SZ]; omega) | (simp only [TS] at *; omega))) only [RZ, gval, gslot, fillL, ovw, numb, catL, ldN, agL, okC, oneC, init, Nat.reduceAdd, Nat.reduceMul, Nat.reduceSub, Nat.reduceEqDiff, Nat.reduceLT, ↓reduceIte, Int.reduceToNat, Int.reduceAdd, Int.reduceSub, Int.reduceMul, Int.reduceLT, Int.reduceLE, Int.reduceEq, Nat.reduceLeDiff]
    exact hF2.trans (hBz.mono hz2)
  | true =>
  unfold fewB at hfew
  simp only [Bool.and_eq_true, decide_eq_true_eq] at hfew
  have a0 := r0.cell (i := 0) rfl
  have a1 := r0.cell (i := 1) rfl
  have a2 := r0.cell (i := 2) rfl
  have a3 := r0.cell (i := 3) rfl
  have a4 := r0.cell (i := 4) rfl
  simp +contextual (maxSteps := 2000000) (disch := (first | omega | (simp only [SZ]; done) | (simp only [SZ]; omega) | (simp only [TS] at *; omega))) only [RZ, gval, gslot, fillL, ovw, numb, catL, ldN, agL, okC, oneC, init, Nat.reduceAdd, Nat.reduceMul, Nat.reduceSub, Nat.reduceEqDiff, Nat.reduceLT, ↓reduceIte, Int.reduceToNat, Int.reduceAdd, Int.reduceSub, Int.reduceMul, Int.reduceLT, Int.reduceLE, Int.reduceEq, Nat.reduceLeDiff,  a0, a1, a2, a3, a4]
  refine (light_any p A c w2).mono ?_
  rintro e w3 ⟨rfl, hB3⟩
  refine ⟨_, rfl, ?_⟩
  have r0 := r0.below hB3
  have hL3 := hL2.below hB3
  have hF3 := hF2.trans (hB3.mono hz2)
  have hz3 := hF3.size
  cases hlig : lightB p with
  | false =>
    simp +contextual (maxSteps := 2000000) (disch := (first | omega | (simp only [SZ]; done) | (simp only [SZ]; omega) | (simp only [TS] at *; omega))) only [RZ, gval, gslot, fillL, ovw, numb, catL, ldN, agL, okC, oneC, init, Nat.reduceAdd, Nat.reduceMul, Nat.reduceSub, Nat.reduceEqDiff, Nat.reduceLT, ↓reduceIte, Int.reduceToNat, Int.reduceAdd, Int.reduceSub, Int.reduceMul, Int.reduceLT, Int.reduceLE, Int.reduceEq, Nat.reduceLeDiff]
    refine W_if_t rfl ?_
    simp +contextual (maxSteps := 2000000) (disch := (first | omega | (simp only [SZ]; done) | (simp only [SZ]; omega) | (simp only [TS] at *; omega))) only [RZ, gval, gslot, fillL, ovw, numb, catL, ldN, agL, okC, oneC, init, Nat.reduceAdd, Nat.reduceMul, Nat.reduceSub, Nat.reduceEqDiff, Nat.reduceLT, ↓reduceIte, Int.reduceToNat, Int.reduceAdd, Int.reduceSub, Int.reduceMul, Int.reduceLT, Int.reduceLE, Int.reduceEq, Nat.reduceLeDiff]
    refine (awake_any w3 (hW.below hF3 hw5)).mono ?_
    rintro e wz ⟨rfl, hBz⟩
    refine ⟨_, rfl, ?_⟩
    simp +contextual (maxSteps := 2000000) (disch := (first | omega | (simp only [SZ]; done) | (simp only [SZ]; omega) | (simp only [TS] at *; omega))) only [RZ, gval, gslot, fillL, ovw, numb, catL, ldN, agL, okC, oneC, init, Nat.reduceAdd, Nat.reduceMul, Nat.reduceSub, Nat.reduceEqDiff, Nat.reduceLT, ↓reduceIte, Int.reduceToNat, Int.reduceAdd, Int.reduceSub, Int.reduceMul, Int.reduceLT, Int.reduceLE, Int.reduceEq, Nat.reduceLeDiff]
    exact hF3.trans (hBz.mono hz3)
  | true =>
  have hlt := of_decide_eq_true hlig
  clear a0 a1 a2 a3 a4
  simp +contextual (maxSteps := 2000000) (disch := (first | omega | (simp only [SZ]; done) | (simp only [SZ]; omega) | (simp only [TS] at *; omega))) only [RZ, gval, gslot, fillL, ovw, numb, catL, ldN, agL, okC, oneC, init, Nat.reduceAdd, Nat.reduceMul, Nat.reduceSub, Nat.reduceEqDiff, Nat.reduceLT, ↓reduceIte, Int.reduceToNat, Int.reduceAdd, Int.reduceSub, Int.reduceMul, Int.reduceLT, Int.reduceLE, Int.reduceEq, Nat.reduceLeDiff]
  refine W_if_f rfl ?_
  have a0 := r0.cell (i := 0) rfl
  have a1 := r0.cell (i := 1) rfl
  have a2 := r0.cell (i := 2) rfl
  have a3 := r0.cell (i := 3) rfl
  have a4 := r0.cell (i := 4) rfl
  refine W_piece fun K0 hK0 hX0 => ?_
  simp +contextual (maxSteps := 2000000) (disch := (first | omega | (simp only [SZ]; done) | (simp only [SZ]; omega) | (simp only [TS] at *; omega))) only [RZ, gval, gslot, fillL, ovw, numb, catL, ldN, agL, okC, oneC, init, Nat.reduceAdd, Nat.reduceMul, Nat.reduceSub, Nat.reduceEqDiff, Nat.reduceLT, ↓reduceIte, Int.reduceToNat, Int.reduceAdd, Int.reduceSub, Int.reduceMul, Int.reduceLT, Int.reduceLE, Int.reduceEq, Nat.reduceLeDiff,  a0, a1, a2, a3, a4]
  refine (build_any p A c seed w3 (hW.below hF3 hw5) hs hL3 hsd.1 hsd.2).mono ?_
  rintro e w4 ⟨hB4, he⟩
  have r0 := r0.below hB4
  have hL4 := hL3.below hB4
  have hF4 := hF3.trans (hB4.mono hz3)
  have hz4 := hF4.size
  clear a0 a1 a2 a3 a4
  have a0 := r0.cell (i := 0) rfl
  have a1 := r0.cell (i := 1) rfl
  have a2 := r0.cell (i := 2) rfl
  have a3 := r0.cell (i := 3) rfl
  have a4 := r0.cell (i := 4) rfl
  by_cases hbz : (buildE p seed).2 = 0
  rotate_left
  · rw [if_neg hbz] at he
    subst he
    refine ⟨_, rfl, ?_⟩
    generalize (buildE p seed).2 = er at *
    have e1 : (er = 0) = False := eq_false hbz
    simp +contextual (maxSteps := 2000000) (disch := (first | omega | (simp only [SZ]; done) | (simp only [SZ]; omega) | (simp only [TS] at *; omega))) only [RZ, gval, gslot, fillL, ovw, numb, catL, ldN, agL, okC, oneC, init, Nat.reduceAdd, Nat.reduceMul, Nat.reduceSub, Nat.reduceEqDiff, Nat.reduceLT, ↓reduceIte, Int.reduceToNat, Int.reduceAdd, Int.reduceSub, Int.reduceMul, Int.reduceLT, Int.reduceLE, Int.reduceEq, Nat.reduceLeDiff]
    refine hK0 _ _ ?_
    refine W_piece fun K1 hK1 hX1 => ?_
    simp +contextual (maxSteps := 2000000) (disch := (first | omega | (simp only [SZ]; done) | (simp only [SZ]; omega) | (simp only [TS] at *; omega))) only [RZ, gval, gslot, fillL, ovw, numb, catL, ldN, agL, okC, oneC, init, Nat.reduceAdd, Nat.reduceMul, Nat.reduceSub, Nat.reduceEqDiff, Nat.reduceLT, ↓reduceIte, Int.reduceToNat, Int.reduceAdd, Int.reduceSub, Int.reduceMul, Int.reduceLT, Int.reduceLE, Int.reduceEq, Nat.reduceLeDiff,  a0, a1, a2, a3, a4]
    refine (payout_any p A c w4 hs hL4).mono ?_
    rintro e w5 ⟨rfl, hB5⟩
    refine ⟨_, rfl, ?_⟩
    have hF5 := hF4.trans (hB5.mono hz4)
    have hz5 := hF5.size
    simp +contextual (maxSteps := 2000000) (disch := (first | omega | (simp only [SZ]; done) | (simp only [SZ]; omega) | (simp only [TS] at *; omega))) only [RZ, gval, gslot, fillL, ovw, numb, catL, ldN, agL, okC, oneC, init, Nat.reduceAdd, Nat.reduceMul, Nat.reduceSub, Nat.reduceEqDiff, Nat.reduceLT, ↓reduceIte, Int.reduceToNat, Int.reduceAdd, Int.reduceSub, Int.reduceMul, Int.reduceLT, Int.reduceLE, Int.reduceEq, Nat.reduceLeDiff]
    refine hK1 _ _ ?_
    refine W_piece fun K2 hK2 hX2 => ?_
    simp +contextual (maxSteps := 2000000) (disch := (first | omega | (simp only [SZ]; done) | (simp only [SZ]; omega) | (simp only [TS] at *; omega))) only [RZ, gval, gslot, fillL, ovw, numb, catL, ldN, agL, okC, oneC, init, Nat.reduceAdd, Nat.reduceMul, Nat.reduceSub, Nat.reduceEqDiff, Nat.reduceLT, ↓reduceIte, Int.reduceToNat, Int.reduceAdd, Int.reduceSub, Int.reduceMul, Int.reduceLT, Int.reduceLE, Int.reduceEq, Nat.reduceLeDiff,  e1]
    refine W_if_t rfl ?_
    simp +contextual (maxSteps := 2000000) (disch := (first | omega | (simp only [SZ]; done) | (simp only [SZ]; omega) | (simp only [TS] at *; omega))) only [RZ, gval, gslot, fillL, ovw, numb, catL, ldN, agL, okC, oneC, init, Nat.reduceAdd, Nat.reduceMul, Nat.reduceSub, Nat.reduceEqDiff, Nat.reduceLT, ↓reduceIte, Int.reduceToNat, Int.reduceAdd, Int.reduceSub, Int.reduceMul, Int.reduceLT, Int.reduceLE, Int.reduceEq, Nat.reduceLeDiff]
    refine (awake_any w5 (hW.below hF5 hw5)).mono ?_
    rintro e wz ⟨rfl, hBz⟩
    refine ⟨_, rfl, ?_⟩
    simp +contextual (maxSteps := 2000000) (disch := (first | omega | (simp only [SZ]; done) | (simp only [SZ]; omega) | (simp only [TS] at *; omega))) only [RZ, gval, gslot, fillL, ovw, numb, catL, ldN, agL, okC, oneC, init, Nat.reduceAdd, Nat.reduceMul, Nat.reduceSub, Nat.reduceEqDiff, Nat.reduceLT, ↓reduceIte, Int.reduceToNat, Int.reduceAdd, Int.reduceSub, Int.reduceMul, Int.reduceLT, Int.reduceLE, Int.reduceEq, Nat.reduceLeDiff]
    refine hX2 _ _ _ (by simp) ?_
    simp +contextual (maxSteps := 2000000) (disch := (first | omega | (simp only [SZ]; done) | (simp only [SZ]; omega) | (simp only [TS] at *; omega))) only [RZ, gval, gslot, fillL, ovw, numb, catL, ldN, agL, okC, oneC, init, Nat.reduceAdd, Nat.reduceMul, Nat.reduceSub, Nat.reduceEqDiff, Nat.reduceLT, ↓reduceIte, Int.reduceToNat, Int.reduceAdd, Int.reduceSub, Int.reduceMul, Int.reduceLT, Int.reduceLE, Int.reduceEq, Nat.reduceLeDiff]
    exact hF5.trans (hBz.mono hz5)
  rw [if_pos hbz] at he
  obtain ⟨gd, hgd, rfl, hR4⟩ := he
  refine ⟨_, rfl, ?_⟩
  have hc0 : p.chk = 0 := by
    by_cases h : p.chk = 0
    · exact h
    · exfalso
      rw [show buildE p seed = ([], p.chk) from if_neg h] at hbz
      exact h hbz
  obtain ⟨q1, q2, q3, q4, q5, q6⟩ := chk_ok hc0
  obtain ⟨S, hSi⟩ : ∃ S : Nat, p.size = S := ⟨p.size.toNat, by omega⟩
  obtain ⟨P, hPi⟩ : ∃ P : Nat, p.packs = P := ⟨p.packs.toNat, by omega⟩
  have hb : buildE p seed = (insL S seed (deckZ P S p.levels seed).1, (deckZ P S p.levels seed).2) := by
    unfold buildE
    rw [if_pos hc0, hSi, hPi, Int.toNat_natCast]
  have hdz := deckZ_ok (p := P) (s := S) (L := p.levels) (by omega) (by omega) (by rw [← hPi, ← hSi]; exact q6) seed
  rw [hb] at hR4 hbz ⊢
  generalize deckZ P S p.levels seed = D at *
  obtain ⟨Z, er⟩ := D
  dsimp only at hR4 hdz hbz
  subst hbz
  obtain ⟨_, hok⟩ | ⟨h, _⟩ := hdz
  rotate_left
  · cases h
  replace hR4 : Row w4 gd 46 (deckV S seed Z) := hR4
  rw [show (insL S seed (Z, (0 : Int)).1).length = Z.length from insL_len S seed Z]
  have hZl := hok.len
  have hPS : (P : Int) * S = ((P * S : Nat) : Int) := (Int.natCast_mul P S).symm
  rw [hPi, hSi, hPS] at hlt
  have htl := tot_le Z hok.ran
  have hts := hok.sum
  have hpe : payE p = (paid p.levels, 0) := by
    unfold payE
    rw [if_pos hc0, if_neg (by omega)]
  simp +contextual (maxSteps := 2000000) (disch := (first | omega | (simp only [SZ]; done) | (simp only [SZ]; omega) | (simp only [TS] at *; omega))) only [RZ, gval, gslot, fillL, ovw, numb, catL, ldN, agL, okC, oneC, init, Nat.reduceAdd, Nat.reduceMul, Nat.reduceSub, Nat.reduceEqDiff, Nat.reduceLT, ↓reduceIte, Int.reduceToNat, Int.reduceAdd, Int.reduceSub, Int.reduceMul, Int.reduceLT, Int.reduceLE, Int.reduceEq, Nat.reduceLeDiff]
  refine hK0 _ _ ?_
  clear hK0 hX0 K0
  refine W_piece fun K1 hK1 hX1 => ?_
  simp +contextual (maxSteps := 2000000) (disch := (first | omega | (simp only [SZ]; done) | (simp only [SZ]; omega) | (simp only [TS] at *; omega))) only [RZ, gval, gslot, fillL, ovw, numb, catL, ldN, agL, okC, oneC, init, Nat.reduceAdd, Nat.reduceMul, Nat.reduceSub, Nat.reduceEqDiff, Nat.reduceLT, ↓reduceIte, Int.reduceToNat, Int.reduceAdd, Int.reduceSub, Int.reduceMul, Int.reduceLT, Int.reduceLE, Int.reduceEq, Nat.reduceLeDiff,  a0, a1, a2, a3, a4]
  refine (payout_any p A c w4 hs hL4).mono ?_
  rintro e w5 ⟨rfl, hB5⟩
  refine ⟨_, rfl, ?_⟩
  have hR5 := hR4.below hB5
  have hF5 := hF4.trans (hB5.mono hz4)
  have hz5 := hF5.size
  rw [hpe]
  simp +contextual (maxSteps := 2000000) (disch := (first | omega | (simp only [SZ]; done) | (simp only [SZ]; omega) | (simp only [TS] at *; omega))) only [RZ, gval, gslot, fillL, ovw, numb, catL, ldN, agL, okC, oneC, init, Nat.reduceAdd, Nat.reduceMul, Nat.reduceSub, Nat.reduceEqDiff, Nat.reduceLT, ↓reduceIte, Int.reduceToNat, Int.reduceAdd, Int.reduceSub, Int.reduceMul, Int.reduceLT, Int.reduceLE, Int.reduceEq, Nat.reduceLeDiff]
  refine hK1 _ _ ?_
  clear hK1 hX1 K1
  refine W_piece fun K2 hK2 hX2 => ?_
  simp +contextual (maxSteps := 2000000) (disch := (first | omega | (simp only [SZ]; done) | (simp only [SZ]; omega) | (simp only [TS] at *; omega))) only [RZ, gval, gslot, fillL, ovw, numb, catL, ldN, agL, okC, oneC, init, Nat.reduceAdd, Nat.reduceMul, Nat.reduceSub, Nat.reduceEqDiff, Nat.reduceLT, ↓reduceIte, Int.reduceToNat, Int.reduceAdd, Int.reduceSub, Int.reduceMul, Int.reduceLT, Int.reduceLE, Int.reduceEq, Nat.reduceLeDiff]
  refine W_if_f rfl ?_
  simp +contextual (maxSteps := 2000000) (disch := (first | omega | (simp only [SZ]; done) | (simp only [SZ]; omega) | (simp only [TS] at *; omega))) only [RZ, gval, gslot, fillL, ovw, numb, catL, ldN, agL, okC, oneC, init, Nat.reduceAdd, Nat.reduceMul, Nat.reduceSub, Nat.reduceEqDiff, Nat.reduceLT, ↓reduceIte, Int.reduceToNat, Int.reduceAdd, Int.reduceSub, Int.reduceMul, Int.reduceLT, Int.reduceLE, Int.reduceEq, Nat.reduceLeDiff]
  refine hK2 _ _ ?_
  clear hK2 hX2 K2
  refine W_piece fun K2 hK2 hX2 => ?_
  simp +contextual (maxSteps := 2000000) (disch := (first | omega | (simp only [SZ]; done) | (simp only [SZ]; omega) | (simp only [TS] at *; omega))) only [RZ, gval, gslot, fillL, ovw, numb, catL, ldN, agL, okC, oneC, init, Nat.reduceAdd, Nat.reduceMul, Nat.reduceSub, Nat.reduceEqDiff, Nat.reduceLT, ↓reduceIte, Int.reduceToNat, Int.reduceAdd, Int.reduceSub, Int.reduceMul, Int.reduceLT, Int.reduceLE, Int.reduceEq, Nat.reduceLeDiff]
  refine hK2 _ _ ?_
  clear hK2 hX2 K2
  refine W_pieceP (fun _ _ _ h => h) fun K2 hK2 hX2 hP2 => ?_
  simp +contextual (maxSteps := 2000000) (disch := (first | omega | (simp only [SZ]; done) | (simp only [SZ]; omega) | (simp only [TS] at *; omega))) only [RZ, gval, gslot, fillL, ovw, numb, catL, ldN, agL, okC, oneC, init, Nat.reduceAdd, Nat.reduceMul, Nat.reduceSub, Nat.reduceEqDiff, Nat.reduceLT, ↓reduceIte, Int.reduceToNat, Int.reduceAdd, Int.reduceSub, Int.reduceMul, Int.reduceLT, Int.reduceLE, Int.reduceEq, Nat.reduceLeDiff]
  have hpd : paid p.levels ≤ 1000000000 * (Z.length : Int) := by rw [← hts]; exact htl.2
  refine Raw_loop (fun σ wl => wl = w5 ∧ ∃ (k : Nat) (s : Int), k ≤ Z.length ∧ 0 ≤ s ∧ s + tot (fun z => z) (Z.drop k) = paid p.levels ∧ σ 0 = .agg #[.string p.name, .int .i64 p.price, .int .i64 p.packs, .int .i64 p.size, .slice A p.levels.length c] ∧ σ 5 = .slice (some ⟨gd, 0, none⟩) Z.length Z.length ∧ σ 7 = .int .i64 (paid p.levels) ∧ σ 8 = .int .i64 0 ∧ σ 9 = .int .i64 s ∧ σ 10 = .int .i64 k) (fun σ _ => Z.length - (intOf (σ 10)).toNat) ?_ ?_
  · simp +contextual (maxSteps := 2000000) (disch := (first | omega | (simp only [SZ]; done) | (simp only [SZ]; omega) | (simp only [TS] at *; omega))) only [RZ, gval, gslot, fillL, ovw, numb, catL, ldN, agL, okC, oneC, init, Nat.reduceAdd, Nat.reduceMul, Nat.reduceSub, Nat.reduceEqDiff, Nat.reduceLT, ↓reduceIte, Int.reduceToNat, Int.reduceAdd, Int.reduceSub, Int.reduceMul, Int.reduceLT, Int.reduceLE, Int.reduceEq, Nat.reduceLeDiff]
    exact ⟨0, 0, Nat.zero_le _, Int.le_refl _, by rw [List.drop_zero, Int.zero_add]; exact hts, rfl, rfl⟩
  rintro σ wl ⟨rfl, k, s, hk, hs0, hsum, f0, f5, f7, f8, f9, f10⟩ K hK0
  have hK : ∀ (σ' : Sl) (w' : World), (∃ (k : Nat) (s : Int), k ≤ Z.length ∧ 0 ≤ s ∧ s + tot (fun z => z) (Z.drop k) = paid p.levels ∧ w' = wl ∧ σ' 0 = .agg #[.string p.name, .int .i64 p.price, .int .i64 p.packs, .int .i64 p.size, .slice A p.levels.length c] ∧ σ' 5 = .slice (some ⟨gd, 0, none⟩) Z.length Z.length ∧ σ' 7 = .int .i64 (paid p.levels) ∧ σ' 8 = .int .i64 0 ∧ σ' 9 = .int .i64 s ∧ σ' 10 = .int .i64 k) → Z.length - (intOf (σ' 10)).toNat < Z.length - (intOf (σ 10)).toNat → K σ' w' := fun σ' w' ⟨a, b, h1, h2, h3, h4, h5⟩ hlt => hK0 σ' w' ⟨h4, a, b, h1, h2, h3, h5⟩ hlt
  simp +contextual (maxSteps := 2000000) (disch := (first | omega | (simp only [SZ]; done) | (simp only [SZ]; omega) | (simp only [TS] at *; omega))) only [RZ, gval, gslot, fillL, ovw, numb, catL, ldN, agL, okC, oneC, init, Nat.reduceAdd, Nat.reduceMul, Nat.reduceSub, Nat.reduceEqDiff, Nat.reduceLT, ↓reduceIte, Int.reduceToNat, Int.reduceAdd, Int.reduceSub, Int.reduceMul, Int.reduceLT, Int.reduceLE, Int.reduceEq, Nat.reduceLeDiff,  f0, f5, f7, f8, f9, f10]
  (refine W_if rfl (fun hc => ?_) (fun hc => ?_) <;> (try simp only [TS] at hc))
  · obtain ⟨z, hz⟩ : ∃ z, Z[k]? = some z := ⟨_, List.getElem?_eq_getElem (by omega)⟩
    obtain ⟨v0, v1, v2, v3⟩ := deckV_cell (S := S) (seed := seed) hz
    have l2 := hR5.cell v2
    have hzr := hok.ran z (List.mem_of_getElem? hz)
    have htd := tot_drop hz
    have htn := (tot_le (Z.drop (k + 1)) fun u hu => hok.ran u (List.mem_of_mem_drop hu)).1
    have e1 : (z < 0) = False := eq_false (by omega)
    have e2 : (1000000000 < z) = False := eq_false (by omega)
    simp +contextual (maxSteps := 2000000) (disch := (first | omega | (simp only [SZ]; done) | (simp only [SZ]; omega) | (simp only [TS] at *; omega))) only [RZ, gval, gslot, fillL, ovw, numb, catL, ldN, agL, okC, oneC, init, Nat.reduceAdd, Nat.reduceMul, Nat.reduceSub, Nat.reduceEqDiff, Nat.reduceLT, ↓reduceIte, Int.reduceToNat, Int.reduceAdd, Int.reduceSub, Int.reduceMul, Int.reduceLT, Int.reduceLE, Int.reduceEq, Nat.reduceLeDiff,  f0, f5, f7, f8, f9, f10, l2, e1, e2]
    refine W_if_f rfl ?_
    simp +contextual (maxSteps := 2000000) (disch := (first | omega | (simp only [SZ]; done) | (simp only [SZ]; omega) | (simp only [TS] at *; omega))) only [RZ, gval, gslot, fillL, ovw, numb, catL, ldN, agL, okC, oneC, init, Nat.reduceAdd, Nat.reduceMul, Nat.reduceSub, Nat.reduceEqDiff, Nat.reduceLT, ↓reduceIte, Int.reduceToNat, Int.reduceAdd, Int.reduceSub, Int.reduceMul, Int.reduceLT, Int.reduceLE, Int.reduceEq, Nat.reduceLeDiff,  f0, f5, f7, f8, f9, f10, l2]
    refine hK _ _ ⟨k + 1, s + z, by omega, by omega, by omega, ?_⟩ ?_
    · simp +contextual (maxSteps := 2000000) (disch := (first | omega | (simp only [SZ]; done) | (simp only [SZ]; omega) | (simp only [TS] at *; omega))) only [RZ, gval, gslot, fillL, ovw, numb, catL, ldN, agL, okC, oneC, init, Nat.reduceAdd, Nat.reduceMul, Nat.reduceSub, Nat.reduceEqDiff, Nat.reduceLT, ↓reduceIte, Int.reduceToNat, Int.reduceAdd, Int.reduceSub, Int.reduceMul, Int.reduceLT, Int.reduceLE, Int.reduceEq, Nat.reduceLeDiff,  f0, f5, f7, f8, f9, f10]
    · simp +contextual (maxSteps := 2000000) (disch := (first | omega | (simp only [SZ]; done) | (simp only [SZ]; omega) | (simp only [TS] at *; omega))) only [RZ, gval, gslot, fillL, ovw, numb, catL, ldN, agL, okC, oneC, init, Nat.reduceAdd, Nat.reduceMul, Nat.reduceSub, Nat.reduceEqDiff, Nat.reduceLT, ↓reduceIte, Int.reduceToNat, Int.reduceAdd, Int.reduceSub, Int.reduceMul, Int.reduceLT, Int.reduceLE, Int.reduceEq, Nat.reduceLeDiff,  intOf, f10]
      omega
  · have hk3 : Z.drop k = [] := List.drop_eq_nil_of_le (by omega)
    rw [hk3, show tot (fun z => z) ([] : List Int) = 0 from rfl, Int.add_zero] at hsum
    subst hsum
    refine hK2 _ _ ?_
    clear hK2 hX2 hP2 hK hK0 K2 K
    simp +contextual (maxSteps := 2000000) (disch := (first | omega | (simp only [SZ]; done) | (simp only [SZ]; omega) | (simp only [TS] at *; omega))) only [RZ, gval, gslot, fillL, ovw, numb, catL, ldN, agL, okC, oneC, init, Nat.reduceAdd, Nat.reduceMul, Nat.reduceSub, Nat.reduceEqDiff, Nat.reduceLT, ↓reduceIte, Int.reduceToNat, Int.reduceAdd, Int.reduceSub, Int.reduceMul, Int.reduceLT, Int.reduceLE, Int.reduceEq, Nat.reduceLeDiff,  f0, f5, f7, f8, f9, f10]
    refine (awake_any wl (hW.below hF5 hw5)).mono ?_
    rintro e wz ⟨rfl, hBz⟩
    refine ⟨_, rfl, ?_⟩
    simp +contextual (maxSteps := 2000000) (disch := (first | omega | (simp only [SZ]; done) | (simp only [SZ]; omega) | (simp only [TS] at *; omega))) only [RZ, gval, gslot, fillL, ovw, numb, catL, ldN, agL, okC, oneC, init, Nat.reduceAdd, Nat.reduceMul, Nat.reduceSub, Nat.reduceEqDiff, Nat.reduceLT, ↓reduceIte, Int.reduceToNat, Int.reduceAdd, Int.reduceSub, Int.reduceMul, Int.reduceLT, Int.reduceLE, Int.reduceEq, Nat.reduceLeDiff]
    exact hF5.trans (hBz.mono hz5)
end Go.Proofs.YtcnlopjjejdahaaDoor
