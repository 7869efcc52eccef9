/- Texts laid one behind the other: DwC. Each says at its head what it proves. -/
import Derived.Test.YtcnlopjjejdahaaDoorY13
set_option linter.unusedSimpArgs false
/- Walks: the laws of chapter 41: few, light, DeckChecks. -/
namespace Go.Proofs.YtcnlopjjejdahaaDoor
open Go.RowKit
set_option maxRecDepth 100000
def fewB (p : Pl) : Bool := decide (p.levels.length ≤ 20) && decide (p.name.size ≤ 100)
theorem few_any (p : Pl) (A : Option Addr) (c : Nat) (w : World) : Calls Tryd.prog 11 #[planV p A c] w fun e w' => e = .returned (.bool (fewB p)) ∧ Below w.heap.size w w' := by
  unfold planV
  refine calls_W (l := [_]) Tryd.func11 rfl _ Tryd.ntmps11 (by simp) ?_
  simp +contextual (maxSteps := 2000000) (disch := (first | omega | (simp only [SZ]; done) | (simp only [SZ]; omega) | (simp only [TS] at *; omega))) only [RZ, gval, gslot, fillL, ovw, numb, catL, ldN, agL, okC, oneC, init, Nat.reduceAdd, Nat.reduceMul, Nat.reduceSub, Nat.reduceEqDiff, Nat.reduceLT, ↓reduceIte, Int.reduceToNat, Int.reduceAdd, Int.reduceSub, Int.reduceMul, Int.reduceLT, Int.reduceLE, Int.reduceEq, Nat.reduceLeDiff]
  refine ⟨ret_bool ?_, below_alloc _ _⟩
  unfold fewB
  congr 1 <;> simp only [decide_eq_decide] <;> omega
def lightB (p : Pl) : Bool := decide (1 ≤ p.packs ∧ p.packs ≤ 32 ∧ 1 ≤ p.size ∧ p.size ≤ 256 ∧ p.packs * p.size ≤ 600)
theorem light_any (p : Pl) (A : Option Addr) (c : Nat) (w : World) : Calls Tryd.prog 22 #[planV p A c] w fun e w' => e = .returned (.bool (lightB p)) ∧ Below w.heap.size w w' := by
  unfold planV
  refine calls_W (l := [_]) Tryd.func22 rfl _ Tryd.ntmps22 (by simp) ?_
  simp +contextual (maxSteps := 2000000) (disch := (first | omega | (simp only [SZ]; done) | (simp only [SZ]; omega) | (simp only [TS] at *; omega))) only [RZ, gval, gslot, fillL, ovw, numb, catL, ldN, agL, okC, oneC, init, Nat.reduceAdd, Nat.reduceMul, Nat.reduceSub, Nat.reduceEqDiff, Nat.reduceLT, ↓reduceIte, Int.reduceToNat, Int.reduceAdd, Int.reduceSub, Int.reduceMul, Int.reduceLT, Int.reduceLE, Int.reduceEq, Nat.reduceLeDiff]
  generalize hb : (decide (1 ≤ p.packs) && decide (p.packs ≤ 32) && decide (1 ≤ p.size) && decide (p.size ≤ 256)) = b
  cases b with
  | false =>
    simp +contextual (maxSteps := 2000000) (disch := (first | omega | (simp only [SZ]; done) | (simp only [SZ]; omega) | (simp only [TS] at *; omega))) only [RZ, gval, gslot, fillL, ovw, numb, catL, ldN, agL, okC, oneC, init, Nat.reduceAdd, Nat.reduceMul, Nat.reduceSub, Nat.reduceEqDiff, Nat.reduceLT, ↓reduceIte, Int.reduceToNat, Int.reduceAdd, Int.reduceSub, Int.reduceMul, Int.reduceLT, Int.reduceLE, Int.reduceEq, Nat.reduceLeDiff]
    refine ⟨ret_bool ?_, below_alloc _ _⟩
    have hn : ¬ (1 ≤ p.packs ∧ p.packs ≤ 32 ∧ 1 ≤ p.size ∧ p.size ≤ 256 ∧ p.packs * p.size ≤ 600) := fun h => by
      have : (decide (1 ≤ p.packs) && decide (p.packs ≤ 32) && decide (1 ≤ p.size) && decide (p.size ≤ 256)) = true := by simp [h]
      rw [hb] at this
      cases this
    unfold lightB
    rw [decide_eq_false hn]
  | true =>
    simp only [Bool.and_eq_true, decide_eq_true_eq] at hb
    obtain ⟨⟨⟨h1, h2⟩, h3⟩, h4⟩ := hb
    have hm := mul_bd (a := p.packs) (b := p.size) (A := 32) (B := 256) (by omega) h2 (by omega) h4
    simp +contextual (maxSteps := 2000000) (disch := (first | omega | (simp only [SZ]; done) | (simp only [SZ]; omega) | (simp only [TS] at *; omega))) only [RZ, gval, gslot, fillL, ovw, numb, catL, ldN, agL, okC, oneC, init, Nat.reduceAdd, Nat.reduceMul, Nat.reduceSub, Nat.reduceEqDiff, Nat.reduceLT, ↓reduceIte, Int.reduceToNat, Int.reduceAdd, Int.reduceSub, Int.reduceMul, Int.reduceLT, Int.reduceLE, Int.reduceEq, Nat.reduceLeDiff]
    refine ⟨ret_bool ?_, below_alloc _ _⟩
    unfold lightB
    rw [decide_eq_decide]
    exact ⟨fun h => ⟨h1, h2, h3, h4, h⟩, fun h => h.2.2.2.2⟩
theorem rpayout_any (p : Pl) (A : Option Addr) (c : Nat) (w : World) (hs : p.name.size ≤ 9223372036854775807) (hl : p.levels.length ≤ 9223372036854775807) (hL : Arr w A 3 (p.levels.map encLvl)) :
    Calls Tryd.prog 14 #[planV p A c] w fun e w' => e = .returned (.tuple #[.int .i64 (payE p).1, .int .i64 (payE p).2]) ∧ Below w.heap.size w w' := by
  unfold planV
  refine calls_W (l := [_]) Tryd.func14 rfl _ Tryd.ntmps14 (by simp) ?_
  obtain ⟨hp, hsz, hB⟩ := new_block w #[Value.string p.name, .int .i64 p.price, .int .i64 p.packs, .int .i64 p.size, .slice A p.levels.length c] 24
  have hp4 := hp 4
  simp only [List.getElem?_toArray, List.getElem?_cons_zero, List.getElem?_cons_succ] at hp4
  simp +contextual (maxSteps := 2000000) (disch := (first | omega | (simp only [SZ]; done) | (simp only [SZ]; omega) | (simp only [TS] at *; omega))) only [RZ, gval, gslot, fillL, ovw, numb, catL, ldN, agL, okC, oneC, init, Nat.reduceAdd, Nat.reduceMul, Nat.reduceSub, Nat.reduceEqDiff, Nat.reduceLT, ↓reduceIte, Int.reduceToNat, Int.reduceAdd, Int.reduceSub, Int.reduceMul, Int.reduceLT, Int.reduceLE, Int.reduceEq, Nat.reduceLeDiff]
  generalize w.alloc (.cells #[Value.string p.name, .int .i64 p.price, .int .i64 p.packs, .int .i64 p.size, .slice A p.levels.length c] 24) = w1 at *
  have hL1 := hL.below hB
  refine (rcheck_any p.name p.price p.packs p.size A c p.levels w1 hs hL1).mono ?_
  rintro e w2 ⟨rfl, hB2⟩
  refine ⟨_, rfl, ?_⟩
  have hL2 := hL1.below hB2
  have e4 := ((bcell hB2).1 w.heap.size 4 (by omega)).trans hp4
  have hz2 := hB2.size
  have hfin : Below w.heap.size w w2 := hB.trans (hB2.mono (by omega))
  rw [show chk p.name p.price p.packs p.size p.levels = p.chk from rfl]
  simp +contextual (maxSteps := 2000000) (disch := (first | omega | (simp only [SZ]; done) | (simp only [SZ]; omega) | (simp only [TS] at *; omega))) only [RZ, gval, gslot, fillL, ovw, numb, catL, ldN, agL, okC, oneC, init, Nat.reduceAdd, Nat.reduceMul, Nat.reduceSub, Nat.reduceEqDiff, Nat.reduceLT, ↓reduceIte, Int.reduceToNat, Int.reduceAdd, Int.reduceSub, Int.reduceMul, Int.reduceLT, Int.reduceLE, Int.reduceEq, Nat.reduceLeDiff]
  (refine W_if rfl (fun hc => ?_) (fun hc => ?_) <;> (try simp only [TS] at hc))
  · simp +contextual (maxSteps := 2000000) (disch := (first | omega | (simp only [SZ]; done) | (simp only [SZ]; omega) | (simp only [TS] at *; omega))) only [RZ, gval, gslot, fillL, ovw, numb, catL, ldN, agL, okC, oneC, init, Nat.reduceAdd, Nat.reduceMul, Nat.reduceSub, Nat.reduceEqDiff, Nat.reduceLT, ↓reduceIte, Int.reduceToNat, Int.reduceAdd, Int.reduceSub, Int.reduceMul, Int.reduceLT, Int.reduceLE, Int.reduceEq, Nat.reduceLeDiff]
    unfold payE
    rw [if_neg hc]
    exact ⟨rfl, hfin⟩
  have hck : p.chk = 0 := by omega
  obtain ⟨h1, h2, h3, h4, h5, h6⟩ := chk_ok hck
  have hv := chkL_ok h3 h4 _ _ _ _ (Int.le_refl _) h6
  clear hc
  simp +contextual (maxSteps := 2000000) (disch := (first | omega | (simp only [SZ]; done) | (simp only [SZ]; omega) | (simp only [TS] at *; omega))) only [RZ, gval, gslot, fillL, ovw, numb, catL, ldN, agL, okC, oneC, init, Nat.reduceAdd, Nat.reduceMul, Nat.reduceSub, Nat.reduceEqDiff, Nat.reduceLT, ↓reduceIte, Int.reduceToNat, Int.reduceAdd, Int.reduceSub, Int.reduceMul, Int.reduceLT, Int.reduceLE, Int.reduceEq, Nat.reduceLeDiff,  e4]
  refine Raw_loop (fun σ w3 => ∃ (k : Nat) (s : Int), k ≤ p.levels.length ∧ s + paid (p.levels.drop k) = paid p.levels ∧ (0 ≤ s ∧ s ≤ 8192000000000 * k) ∧ Below w.heap.size w w3 ∧ Below w2.heap.size w2 w3 ∧ σ 1 = .pointer (some ⟨w.heap.size, 0, none⟩) ∧ σ 5 = .int .i64 s ∧ σ 6 = .int .i64 k) (fun σ _ => p.levels.length - (intOf (σ 6)).toNat) ?_ ?_
  · simp +contextual (maxSteps := 2000000) (disch := (first | omega | (simp only [SZ]; done) | (simp only [SZ]; omega) | (simp only [TS] at *; omega))) only [RZ, gval, gslot, fillL, ovw, numb, catL, ldN, agL, okC, oneC, init, Nat.reduceAdd, Nat.reduceMul, Nat.reduceSub, Nat.reduceEqDiff, Nat.reduceLT, ↓reduceIte, Int.reduceToNat, Int.reduceAdd, Int.reduceSub, Int.reduceMul, Int.reduceLT, Int.reduceLE, Int.reduceEq, Nat.reduceLeDiff]
    exact ⟨0, 0, Nat.zero_le _, by rw [List.drop_zero, Int.zero_add], by omega, hfin, Below.refl _ _, rfl, rfl⟩
  rintro σ w3 ⟨k, s, hk, hpd, hsb, hf3, hB3, f1, f5, f6⟩ K hK
  have hz3 := hf3.size
  have hz4 := hB3.size
  have e43 := ((bcell hB3).1 w.heap.size 4 (by omega)).trans e4
  simp +contextual (maxSteps := 2000000) (disch := (first | omega | (simp only [SZ]; done) | (simp only [SZ]; omega) | (simp only [TS] at *; omega))) only [RZ, gval, gslot, fillL, ovw, numb, catL, ldN, agL, okC, oneC, init, Nat.reduceAdd, Nat.reduceMul, Nat.reduceSub, Nat.reduceEqDiff, Nat.reduceLT, ↓reduceIte, Int.reduceToNat, Int.reduceAdd, Int.reduceSub, Int.reduceMul, Int.reduceLT, Int.reduceLE, Int.reduceEq, Nat.reduceLeDiff,  f1, f5, f6, e43]
  (refine W_if rfl (fun hc => ?_) (fun hc => ?_) <;> (try simp only [TS] at hc))
  · obtain ⟨v, hvk⟩ : ∃ v, p.levels[k]? = some v := ⟨_, List.getElem?_eq_getElem (by omega)⟩
    have hvv := hv v (List.mem_of_getElem? hvk)
    obtain ⟨b, o, rfl, hb, hcell⟩ := (hL2.below hB3).at_ hvk
    have l0 : w3.drew.cell? _ = _ := hcell 0 _ rfl
    rw [Nat.add_zero] at l0
    have l1 : w3.drew.cell? _ = _ := hcell 1 _ rfl
    have e44 : w3.drew.cell? _ = _ := e43
    have hm := mul_bd (a := v.prize) (b := v.count) (A := 1000000000) (B := 8192) (by omega) (by omega) (by omega) (by omega)
    rw [paid_drop hvk] at hpd
    simp +contextual (maxSteps := 2000000) (disch := (first | omega | (simp only [SZ]; done) | (simp only [SZ]; omega) | (simp only [TS] at *; omega))) only [RZ, gval, gslot, fillL, ovw, numb, catL, ldN, agL, okC, oneC, init, Nat.reduceAdd, Nat.reduceMul, Nat.reduceSub, Nat.reduceEqDiff, Nat.reduceLT, ↓reduceIte, Int.reduceToNat, Int.reduceAdd, Int.reduceSub, Int.reduceMul, Int.reduceLT, Int.reduceLE, Int.reduceEq, Nat.reduceLeDiff,  f1, f5, f6]
    refine Raw_still MX (by kernel_rfl) ?_
    simp +contextual (maxSteps := 2000000) (disch := (first | omega | (simp only [SZ]; done) | (simp only [SZ]; omega) | (simp only [TS] at *; omega))) only [RZ, gval, gslot, fillL, ovw, numb, catL, ldN, agL, okC, oneC, init, Nat.reduceAdd, Nat.reduceMul, Nat.reduceSub, Nat.reduceEqDiff, Nat.reduceLT, ↓reduceIte, Int.reduceToNat, Int.reduceAdd, Int.reduceSub, Int.reduceMul, Int.reduceLT, Int.reduceLE, Int.reduceEq, Nat.reduceLeDiff,  f1, f5, f6, e44, l0, l1]
    refine hK _ _ ⟨k + 1, s + v.prize * v.count, by omega, by omega, by omega, ⟨hf3.os, hf3.tape, hf3.output, hf3.size, hf3.block⟩, ⟨hB3.os, hB3.tape, hB3.output, hB3.size, hB3.block⟩, ?_⟩ ?_
    · simp +contextual (maxSteps := 2000000) (disch := (first | omega | (simp only [SZ]; done) | (simp only [SZ]; omega) | (simp only [TS] at *; omega))) only [RZ, gval, gslot, fillL, ovw, numb, catL, ldN, agL, okC, oneC, init, Nat.reduceAdd, Nat.reduceMul, Nat.reduceSub, Nat.reduceEqDiff, Nat.reduceLT, ↓reduceIte, Int.reduceToNat, Int.reduceAdd, Int.reduceSub, Int.reduceMul, Int.reduceLT, Int.reduceLE, Int.reduceEq, Nat.reduceLeDiff,  f1, f5, f6]
    · simp +contextual (maxSteps := 2000000) (disch := (first | omega | (simp only [SZ]; done) | (simp only [SZ]; omega) | (simp only [TS] at *; omega))) only [RZ, gval, gslot, fillL, ovw, numb, catL, ldN, agL, okC, oneC, init, Nat.reduceAdd, Nat.reduceMul, Nat.reduceSub, Nat.reduceEqDiff, Nat.reduceLT, ↓reduceIte, Int.reduceToNat, Int.reduceAdd, Int.reduceSub, Int.reduceMul, Int.reduceLT, Int.reduceLE, Int.reduceEq, Nat.reduceLeDiff,  intOf, f6]
      omega
  · have hk2 : k = p.levels.length := by omega
    subst hk2
    rw [List.drop_length, show paid [] = 0 from rfl, Int.add_zero] at hpd
    subst hpd
    unfold payE
    rw [if_pos hck]
    simp +contextual (maxSteps := 2000000) (disch := (first | omega | (simp only [SZ]; done) | (simp only [SZ]; omega) | (simp only [TS] at *; omega))) only [RZ, gval, gslot, fillL, ovw, numb, catL, ldN, agL, okC, oneC, init, Nat.reduceAdd, Nat.reduceMul, Nat.reduceSub, Nat.reduceEqDiff, Nat.reduceLT, ↓reduceIte, Int.reduceToNat, Int.reduceAdd, Int.reduceSub, Int.reduceMul, Int.reduceLT, Int.reduceLE, Int.reduceEq, Nat.reduceLeDiff,  f1, f5, f6]
    (refine W_if rfl (fun hc => ?_) (fun hc => ?_) <;> (try simp only [TS] at hc))
    · rw [if_pos (by omega)]
      simp +contextual (maxSteps := 2000000) (disch := (first | omega | (simp only [SZ]; done) | (simp only [SZ]; omega) | (simp only [TS] at *; omega))) only [RZ, gval, gslot, fillL, ovw, numb, catL, ldN, agL, okC, oneC, init, Nat.reduceAdd, Nat.reduceMul, Nat.reduceSub, Nat.reduceEqDiff, Nat.reduceLT, ↓reduceIte, Int.reduceToNat, Int.reduceAdd, Int.reduceSub, Int.reduceMul, Int.reduceLT, Int.reduceLE, Int.reduceEq, Nat.reduceLeDiff]
      exact hf3
    · rw [if_neg (by omega)]
      simp +contextual (maxSteps := 2000000) (disch := (first | omega | (simp only [SZ]; done) | (simp only [SZ]; omega) | (simp only [TS] at *; omega))) only [RZ, gval, gslot, fillL, ovw, numb, catL, ldN, agL, okC, oneC, init, Nat.reduceAdd, Nat.reduceMul, Nat.reduceSub, Nat.reduceEqDiff, Nat.reduceLT, ↓reduceIte, Int.reduceToNat, Int.reduceAdd, Int.reduceSub, Int.reduceMul, Int.reduceLT, Int.reduceLE, Int.reduceEq, Nat.reduceLeDiff,  f5]
      exact hf3
/-- The law DeckChecks. -/
theorem deckChecks_any (p : Pl) (A : Option Addr) (c : Nat) (w : World) (hW : Laid w) (hL : Arr w A 3 (p.levels.map encLvl)) (hq : planWf p) :
    Calls Tryd.prog 3 #[planV p A c] w fun e w' => e = .returned (.bool true) ∧ Below w.heap.size w w' := by
  obtain ⟨hs, hl, _, _⟩ := hq
  refine calls_W (l := [_]) Tryd.func3 rfl _ Tryd.ntmps3 (by simp) ?_
  have hpv : planV p A c = .agg #[.string p.name, .int .i64 p.price, .int .i64 p.packs, .int .i64 p.size, .slice A p.levels.length c] := rfl
  rw [hpv]
  have hw5 := hW.size
  simp +contextual (maxSteps := 2000000) (disch := (first | omega | (simp only [SZ]; done) | (simp only [SZ]; omega) | (simp only [TS] at *; omega))) only [RZ, gval, gslot, fillL, ovw, numb, catL, ldN, agL, okC, oneC, init, Nat.reduceAdd, Nat.reduceMul, Nat.reduceSub, Nat.reduceEqDiff, Nat.reduceLT, ↓reduceIte, Int.reduceToNat, Int.reduceAdd, Int.reduceSub, Int.reduceMul, Int.reduceLT, Int.reduceLE, Int.reduceEq, Nat.reduceLeDiff]
  have r0 := Row.new w 24 [.string p.name, .int .i64 p.price, .int .i64 p.packs, .int .i64 p.size, .slice A p.levels.length c]
  replace r0 : Row (w.alloc (.cells #[.string p.name, .int .i64 p.price, .int .i64 p.packs, .int .i64 p.size, .slice A p.levels.length c] 24)) _ _ _ := r0
  have hB := below_alloc w (.cells #[.string p.name, .int .i64 p.price, .int .i64 p.packs, .int .i64 p.size, .slice A p.levels.length c] 24)
  generalize w.alloc (.cells #[.string p.name, .int .i64 p.price, .int .i64 p.packs, .int .i64 p.size, .slice A p.levels.length c] 24) = w1 at *
  have hL1 := hL.below hB
  have hz1 := hB.size
  refine (few_any p A c w1).mono ?_
  rintro e w2 ⟨rfl, hB2⟩
  refine ⟨_, rfl, ?_⟩
  have r0 := r0.below hB2
  have hL2 := hL1.below hB2
  have hF2 := hB.trans (hB2.mono hz1)
  have hz2 := hF2.size
  cases fewB p with
  | false =>
    simp +contextual (maxSteps := 2000000) (disch := (first | omega | (simp only [SZ]; done) | (simp only [SZ]; omega) | (simp only [TS] at *; omega))) only [RZ, gval, gslot, fillL, ovw, numb, catL, ldN, agL, okC, oneC, init, Nat.reduceAdd, Nat.reduceMul, Nat.reduceSub, Nat.reduceEqDiff, Nat.reduceLT, ↓reduceIte, Int.reduceToNat, Int.reduceAdd, Int.reduceSub, Int.reduceMul, Int.reduceLT, Int.reduceLE, Int.reduceEq, Nat.reduceLeDiff]
    refine W_if_t rfl ?_
    simp +contextual (maxSteps := 2000000) (disch := (first | omega | (simp only [SZ]; done) | (simp only [SZ]; omega) | (simp only [TS] at *; omega))) only [RZ, gval, gslot, fillL, ovw, numb, catL, ldN, agL, okC, oneC, init, Nat.reduceAdd, Nat.reduceMul, Nat.reduceSub, Nat.reduceEqDiff, Nat.reduceLT, ↓reduceIte, Int.reduceToNat, Int.reduceAdd, Int.reduceSub, Int.reduceMul, Int.reduceLT, Int.reduceLE, Int.reduceEq, Nat.reduceLeDiff]
    refine (awake_any w2 (hW.below hF2 hw5)).mono ?_
    rintro e w3 ⟨rfl, hB3⟩
    refine ⟨_, rfl, ?_⟩
    simp +contextual (maxSteps := 2000000) (disch := (first | omega | (simp only [SZ]; done) | (simp only [SZ]; omega) | (simp only [TS] at *; omega))) only [RZ, gval, gslot, fillL, ovw, numb, catL, ldN, agL, okC, oneC, init, Nat.reduceAdd, Nat.reduceMul, Nat.reduceSub, Nat.reduceEqDiff, Nat.reduceLT, ↓reduceIte, Int.reduceToNat, Int.reduceAdd, Int.reduceSub, Int.reduceMul, Int.reduceLT, Int.reduceLE, Int.reduceEq, Nat.reduceLeDiff]
    exact hF2.trans (hB3.mono hz2)
  | true =>
  have a0 := r0.cell (i := 0) rfl
  have a1 := r0.cell (i := 1) rfl
  have a2 := r0.cell (i := 2) rfl
  have a3 := r0.cell (i := 3) rfl
  have a4 := r0.cell (i := 4) rfl
  simp +contextual (maxSteps := 2000000) (disch := (first | omega | (simp only [SZ]; done) | (simp only [SZ]; omega) | (simp only [TS] at *; omega))) only [RZ, gval, gslot, fillL, ovw, numb, catL, ldN, agL, okC, oneC, init, Nat.reduceAdd, Nat.reduceMul, Nat.reduceSub, Nat.reduceEqDiff, Nat.reduceLT, ↓reduceIte, Int.reduceToNat, Int.reduceAdd, Int.reduceSub, Int.reduceMul, Int.reduceLT, Int.reduceLE, Int.reduceEq, Nat.reduceLeDiff]
  refine W_if_f rfl ?_
  simp +contextual (maxSteps := 2000000) (disch := (first | omega | (simp only [SZ]; done) | (simp only [SZ]; omega) | (simp only [TS] at *; omega))) only [RZ, gval, gslot, fillL, ovw, numb, catL, ldN, agL, okC, oneC, init, Nat.reduceAdd, Nat.reduceMul, Nat.reduceSub, Nat.reduceEqDiff, Nat.reduceLT, ↓reduceIte, Int.reduceToNat, Int.reduceAdd, Int.reduceSub, Int.reduceMul, Int.reduceLT, Int.reduceLE, Int.reduceEq, Nat.reduceLeDiff,  a0, a1, a2, a3, a4]
  refine (payout_any p A c w2 hs hL2).mono ?_
  rintro e w3 ⟨rfl, hB3⟩
  refine ⟨_, rfl, ?_⟩
  have r0 := r0.below hB3
  have hL3 := hL2.below hB3
  have hF3 := hF2.trans (hB3.mono hz2)
  have hz3 := hF3.size
  clear a0 a1 a2 a3 a4
  have a0 := r0.cell (i := 0) rfl
  have a1 := r0.cell (i := 1) rfl
  have a2 := r0.cell (i := 2) rfl
  have a3 := r0.cell (i := 3) rfl
  have a4 := r0.cell (i := 4) rfl
  simp +contextual (maxSteps := 2000000) (disch := (first | omega | (simp only [SZ]; done) | (simp only [SZ]; omega) | (simp only [TS] at *; omega))) only [RZ, gval, gslot, fillL, ovw, numb, catL, ldN, agL, okC, oneC, init, Nat.reduceAdd, Nat.reduceMul, Nat.reduceSub, Nat.reduceEqDiff, Nat.reduceLT, ↓reduceIte, Int.reduceToNat, Int.reduceAdd, Int.reduceSub, Int.reduceMul, Int.reduceLT, Int.reduceLE, Int.reduceEq, Nat.reduceLeDiff,  a0, a1, a2, a3, a4]
  refine (rpayout_any p A c w3 hs hl hL3).mono ?_
  rintro e w4 ⟨rfl, hB4⟩
  refine ⟨_, rfl, ?_⟩
  have r0 := r0.below hB4
  have hL4 := hL3.below hB4
  have hF4 := hF3.trans (hB4.mono hz3)
  generalize (payE p).1 = n1
  generalize (payE p).2 = e1
  clear a0 a1 a2 a3 a4
  simp +contextual (maxSteps := 2000000) (disch := (first | omega | (simp only [SZ]; done) | (simp only [SZ]; omega) | (simp only [TS] at *; omega))) only [RZ, gval, gslot, fillL, ovw, numb, catL, ldN, agL, okC, oneC, init, Nat.reduceAdd, Nat.reduceMul, Nat.reduceSub, Nat.reduceEqDiff, Nat.reduceLT, ↓reduceIte, Int.reduceToNat, Int.reduceAdd, Int.reduceSub, Int.reduceMul, Int.reduceLT, Int.reduceLE, Int.reduceEq, Nat.reduceLeDiff]
  have hJ : Below w4.heap.size w4 w4.drew := ⟨rfl, rfl, rfl, Nat.le_refl _, fun _ _ => rfl⟩
  refine Raw_ord (fun w' => Below w4.heap.size w4 w') 19 rfl MX ?_
  refine Ord_reads (τ := ?ta) [0, 2] 17 rfl (by kernel_rfl) (by kernel_rfl) (fun _ _ _ h => h) hJ (fun w7 h7 => ?_) ?_; rotate_left
  · have a0 := (r0.below h7).cell (i := 0) rfl
    have a1 := (r0.below h7).cell (i := 1) rfl
    have a2 := (r0.below h7).cell (i := 2) rfl
    have a3 := (r0.below h7).cell (i := 3) rfl
    have a4 := (r0.below h7).cell (i := 4) rfl
    simp only [opsL_cons, opsL_nil, List.getElem?_toArray, List.getElem?_cons_zero, List.getElem?_cons_succ, optL_some]
    simp +contextual (maxSteps := 2000000) (disch := (first | omega | (simp only [SZ]; done) | (simp only [SZ]; omega) | (simp only [TS] at *; omega))) only [RZ, gval, gslot, fillL, ovw, numb, catL, ldN, agL, okC, oneC, init, Nat.reduceAdd, Nat.reduceMul, Nat.reduceSub, Nat.reduceEqDiff, Nat.reduceLT, ↓reduceIte, Int.reduceToNat, Int.reduceAdd, Int.reduceSub, Int.reduceMul, Int.reduceLT, Int.reduceLE, Int.reduceEq, Nat.reduceLeDiff,  a0, a1, a2, a3, a4]
    exact rfl
  have hz5 := hJ.size
  have hF5 := hF4.trans (hJ.mono (by have := hF4.size; omega))
  have hL5 := hL4.below hJ
  generalize w4.drew = w5 at *
  refine Ord_one 1 (by kernel_rfl) rfl ?_
  simp +contextual (maxSteps := 2000000) (disch := (first | omega | (simp only [SZ]; done) | (simp only [SZ]; omega) | (simp only [TS] at *; omega))) only [RZ, gval, gslot, fillL, ovw, numb, catL, ldN, agL, okC, oneC, init, Nat.reduceAdd, Nat.reduceMul, Nat.reduceSub, Nat.reduceEqDiff, Nat.reduceLT, ↓reduceIte, Int.reduceToNat, Int.reduceAdd, Int.reduceSub, Int.reduceMul, Int.reduceLT, Int.reduceLE, Int.reduceEq, Nat.reduceLeDiff]
  refine (check_any p.name p.price p.packs p.size A c p.levels w5 hs hL5).mono ?_
  rintro e w6 ⟨rfl, hB6⟩
  refine ⟨_, rfl, ?_⟩
  have hJ := hJ.trans (hB6.mono hz5)
  have hL6 := hL5.below hB6
  have hz6 := hJ.size
  have hF6 := hF4.trans (hJ.mono (by have := hF4.size; omega))
  refine ⟨hJ, ?_⟩
  refine Ord_one 3 (by kernel_rfl) rfl ?_
  simp +contextual (maxSteps := 2000000) (disch := (first | omega | (simp only [SZ]; done) | (simp only [SZ]; omega) | (simp only [TS] at *; omega))) only [RZ, gval, gslot, fillL, ovw, numb, catL, ldN, agL, okC, oneC, init, Nat.reduceAdd, Nat.reduceMul, Nat.reduceSub, Nat.reduceEqDiff, Nat.reduceLT, ↓reduceIte, Int.reduceToNat, Int.reduceAdd, Int.reduceSub, Int.reduceMul, Int.reduceLT, Int.reduceLE, Int.reduceEq, Nat.reduceLeDiff]
  refine (rcheck_any p.name p.price p.packs p.size A c p.levels w6 hs hL6).mono ?_
  rintro e w7 ⟨rfl, hB7⟩
  refine ⟨_, rfl, ?_⟩
  have hJ := hJ.trans (hB7.mono hz6)
  have hz7 := hJ.size
  have hF7 := hF4.trans (hJ.mono (by have := hF4.size; omega))
  refine ⟨hJ, ?_⟩
  generalize chk p.name p.price p.packs p.size p.levels = ck
  refine Ord_reads (τ := ?tb) [4, 5] 13 rfl (by kernel_rfl) (by kernel_rfl) (fun _ _ _ h => h) hJ (fun w7 _ => ?_) ?_; rotate_left
  · simp only [opsL_cons, opsL_nil, List.getElem?_toArray, List.getElem?_cons_zero, List.getElem?_cons_succ, optL_some]
    simp +contextual (maxSteps := 2000000) (disch := (first | omega | (simp only [SZ]; done) | (simp only [SZ]; omega) | (simp only [TS] at *; omega))) only [RZ, gval, gslot, fillL, ovw, numb, catL, ldN, agL, okC, oneC, init, Nat.reduceAdd, Nat.reduceMul, Nat.reduceSub, Nat.reduceEqDiff, Nat.reduceLT, ↓reduceIte, Int.reduceToNat, Int.reduceAdd, Int.reduceSub, Int.reduceMul, Int.reduceLT, Int.reduceLE, Int.reduceEq, Nat.reduceLeDiff]
    exact rfl
  refine Ord_takeg 6 (v := .int .i64 n1) rfl (by kernel_rfl) (by kernel_rfl) (by kernel_rfl) (fun _ _ _ h => h) hJ (by simp +contextual (maxSteps := 2000000) (disch := (first | omega | (simp only [SZ]; done) | (simp only [SZ]; omega) | (simp only [TS] at *; omega))) only [RZ, gval, gslot, fillL, ovw, numb, catL, ldN, agL, okC, oneC, init, Nat.reduceAdd, Nat.reduceMul, Nat.reduceSub, Nat.reduceEqDiff, Nat.reduceLT, ↓reduceIte, Int.reduceToNat, Int.reduceAdd, Int.reduceSub, Int.reduceMul, Int.reduceLT, Int.reduceLE, Int.reduceEq, Nat.reduceLeDiff]) (fun w' _ => by simp +contextual (maxSteps := 2000000) (disch := (first | omega | (simp only [SZ]; done) | (simp only [SZ]; omega) | (simp only [TS] at *; omega))) only [RZ, gval, gslot, fillL, ovw, numb, catL, ldN, agL, okC, oneC, init, Nat.reduceAdd, Nat.reduceMul, Nat.reduceSub, Nat.reduceEqDiff, Nat.reduceLT, ↓reduceIte, Int.reduceToNat, Int.reduceAdd, Int.reduceSub, Int.reduceMul, Int.reduceLT, Int.reduceLE, Int.reduceEq, Nat.reduceLeDiff]) ?_
  refine Ord_takeg 7 (v := .int .i64 n1) rfl (by kernel_rfl) (by kernel_rfl) (by kernel_rfl) (fun _ _ _ h => h) hJ (by simp +contextual (maxSteps := 2000000) (disch := (first | omega | (simp only [SZ]; done) | (simp only [SZ]; omega) | (simp only [TS] at *; omega))) only [RZ, gval, gslot, fillL, ovw, numb, catL, ldN, agL, okC, oneC, init, Nat.reduceAdd, Nat.reduceMul, Nat.reduceSub, Nat.reduceEqDiff, Nat.reduceLT, ↓reduceIte, Int.reduceToNat, Int.reduceAdd, Int.reduceSub, Int.reduceMul, Int.reduceLT, Int.reduceLE, Int.reduceEq, Nat.reduceLeDiff]) (fun w' _ => by simp +contextual (maxSteps := 2000000) (disch := (first | omega | (simp only [SZ]; done) | (simp only [SZ]; omega) | (simp only [TS] at *; omega))) only [RZ, gval, gslot, fillL, ovw, numb, catL, ldN, agL, okC, oneC, init, Nat.reduceAdd, Nat.reduceMul, Nat.reduceSub, Nat.reduceEqDiff, Nat.reduceLT, ↓reduceIte, Int.reduceToNat, Int.reduceAdd, Int.reduceSub, Int.reduceMul, Int.reduceLT, Int.reduceLE, Int.reduceEq, Nat.reduceLeDiff]) ?_
  refine Ord_takeg 8 (v := .bool true) rfl (by kernel_rfl) (by kernel_rfl) (by kernel_rfl) (fun _ _ _ h => h) hJ (by simp +contextual (maxSteps := 2000000) (disch := (first | omega | (simp only [SZ]; done) | (simp only [SZ]; omega) | (simp only [TS] at *; omega))) only [RZ, gval, gslot, fillL, ovw, numb, catL, ldN, agL, okC, oneC, init, Nat.reduceAdd, Nat.reduceMul, Nat.reduceSub, Nat.reduceEqDiff, Nat.reduceLT, ↓reduceIte, Int.reduceToNat, Int.reduceAdd, Int.reduceSub, Int.reduceMul, Int.reduceLT, Int.reduceLE, Int.reduceEq, Nat.reduceLeDiff]) (fun w' _ => by simp +contextual (maxSteps := 2000000) (disch := (first | omega | (simp only [SZ]; done) | (simp only [SZ]; omega) | (simp only [TS] at *; omega))) only [RZ, gval, gslot, fillL, ovw, numb, catL, ldN, agL, okC, oneC, init, Nat.reduceAdd, Nat.reduceMul, Nat.reduceSub, Nat.reduceEqDiff, Nat.reduceLT, ↓reduceIte, Int.reduceToNat, Int.reduceAdd, Int.reduceSub, Int.reduceMul, Int.reduceLT, Int.reduceLE, Int.reduceEq, Nat.reduceLeDiff]) ?_
  refine Ord_reads (τ := ?tc) [9, 10] 8 rfl (by kernel_rfl) (by kernel_rfl) (fun _ _ _ h => h) hJ (fun w7 _ => ?_) ?_; rotate_left
  · simp only [opsL_cons, opsL_nil, List.getElem?_toArray, List.getElem?_cons_zero, List.getElem?_cons_succ, optL_some]
    simp +contextual (maxSteps := 2000000) (disch := (first | omega | (simp only [SZ]; done) | (simp only [SZ]; omega) | (simp only [TS] at *; omega))) only [RZ, gval, gslot, fillL, ovw, numb, catL, ldN, agL, okC, oneC, init, Nat.reduceAdd, Nat.reduceMul, Nat.reduceSub, Nat.reduceEqDiff, Nat.reduceLT, ↓reduceIte, Int.reduceToNat, Int.reduceAdd, Int.reduceSub, Int.reduceMul, Int.reduceLT, Int.reduceLE, Int.reduceEq, Nat.reduceLeDiff]
    exact rfl
  refine Ord_takeg 11 (v := .int .i64 e1) rfl (by kernel_rfl) (by kernel_rfl) (by kernel_rfl) (fun _ _ _ h => h) hJ (by simp +contextual (maxSteps := 2000000) (disch := (first | omega | (simp only [SZ]; done) | (simp only [SZ]; omega) | (simp only [TS] at *; omega))) only [RZ, gval, gslot, fillL, ovw, numb, catL, ldN, agL, okC, oneC, init, Nat.reduceAdd, Nat.reduceMul, Nat.reduceSub, Nat.reduceEqDiff, Nat.reduceLT, ↓reduceIte, Int.reduceToNat, Int.reduceAdd, Int.reduceSub, Int.reduceMul, Int.reduceLT, Int.reduceLE, Int.reduceEq, Nat.reduceLeDiff]) (fun w' _ => by simp +contextual (maxSteps := 2000000) (disch := (first | omega | (simp only [SZ]; done) | (simp only [SZ]; omega) | (simp only [TS] at *; omega))) only [RZ, gval, gslot, fillL, ovw, numb, catL, ldN, agL, okC, oneC, init, Nat.reduceAdd, Nat.reduceMul, Nat.reduceSub, Nat.reduceEqDiff, Nat.reduceLT, ↓reduceIte, Int.reduceToNat, Int.reduceAdd, Int.reduceSub, Int.reduceMul, Int.reduceLT, Int.reduceLE, Int.reduceEq, Nat.reduceLeDiff]) ?_
  refine Ord_takeg 12 (v := .int .i64 e1) rfl (by kernel_rfl) (by kernel_rfl) (by kernel_rfl) (fun _ _ _ h => h) hJ (by simp +contextual (maxSteps := 2000000) (disch := (first | omega | (simp only [SZ]; done) | (simp only [SZ]; omega) | (simp only [TS] at *; omega))) only [RZ, gval, gslot, fillL, ovw, numb, catL, ldN, agL, okC, oneC, init, Nat.reduceAdd, Nat.reduceMul, Nat.reduceSub, Nat.reduceEqDiff, Nat.reduceLT, ↓reduceIte, Int.reduceToNat, Int.reduceAdd, Int.reduceSub, Int.reduceMul, Int.reduceLT, Int.reduceLE, Int.reduceEq, Nat.reduceLeDiff]) (fun w' _ => by simp +contextual (maxSteps := 2000000) (disch := (first | omega | (simp only [SZ]; done) | (simp only [SZ]; omega) | (simp only [TS] at *; omega))) only [RZ, gval, gslot, fillL, ovw, numb, catL, ldN, agL, okC, oneC, init, Nat.reduceAdd, Nat.reduceMul, Nat.reduceSub, Nat.reduceEqDiff, Nat.reduceLT, ↓reduceIte, Int.reduceToNat, Int.reduceAdd, Int.reduceSub, Int.reduceMul, Int.reduceLT, Int.reduceLE, Int.reduceEq, Nat.reduceLeDiff]) ?_
  refine Ord_takeg 13 (v := .bool true) rfl (by kernel_rfl) (by kernel_rfl) (by kernel_rfl) (fun _ _ _ h => h) hJ (by simp +contextual (maxSteps := 2000000) (disch := (first | omega | (simp only [SZ]; done) | (simp only [SZ]; omega) | (simp only [TS] at *; omega))) only [RZ, gval, gslot, fillL, ovw, numb, catL, ldN, agL, okC, oneC, init, Nat.reduceAdd, Nat.reduceMul, Nat.reduceSub, Nat.reduceEqDiff, Nat.reduceLT, ↓reduceIte, Int.reduceToNat, Int.reduceAdd, Int.reduceSub, Int.reduceMul, Int.reduceLT, Int.reduceLE, Int.reduceEq, Nat.reduceLeDiff]) (fun w' _ => by simp +contextual (maxSteps := 2000000) (disch := (first | omega | (simp only [SZ]; done) | (simp only [SZ]; omega) | (simp only [TS] at *; omega))) only [RZ, gval, gslot, fillL, ovw, numb, catL, ldN, agL, okC, oneC, init, Nat.reduceAdd, Nat.reduceMul, Nat.reduceSub, Nat.reduceEqDiff, Nat.reduceLT, ↓reduceIte, Int.reduceToNat, Int.reduceAdd, Int.reduceSub, Int.reduceMul, Int.reduceLT, Int.reduceLE, Int.reduceEq, Nat.reduceLeDiff]) ?_
  refine Ord_reads (τ := ?td) [14, 15] 3 rfl (by kernel_rfl) (by kernel_rfl) (fun _ _ _ h => h) hJ (fun w7 _ => ?_) ?_; rotate_left
  · simp only [opsL_cons, opsL_nil, List.getElem?_toArray, List.getElem?_cons_zero, List.getElem?_cons_succ, optL_some]
    simp +contextual (maxSteps := 2000000) (disch := (first | omega | (simp only [SZ]; done) | (simp only [SZ]; omega) | (simp only [TS] at *; omega))) only [RZ, gval, gslot, fillL, ovw, numb, catL, ldN, agL, okC, oneC, init, Nat.reduceAdd, Nat.reduceMul, Nat.reduceSub, Nat.reduceEqDiff, Nat.reduceLT, ↓reduceIte, Int.reduceToNat, Int.reduceAdd, Int.reduceSub, Int.reduceMul, Int.reduceLT, Int.reduceLE, Int.reduceEq, Nat.reduceLeDiff]
    exact rfl
  refine Ord_chainS _ [16, 17, 18] _ _ _ (by kernel_rfl) ?_
  simp only [opsL_cons, opsL_nil, List.getElem?_toArray, List.getElem?_cons_zero, List.getElem?_cons_succ, optL_some]
  simp +contextual (maxSteps := 2000000) (disch := (first | omega | (simp only [SZ]; done) | (simp only [SZ]; omega) | (simp only [TS] at *; omega))) only [RZ, gval, gslot, fillL, ovw, numb, catL, ldN, agL, okC, oneC, init, Nat.reduceAdd, Nat.reduceMul, Nat.reduceSub, Nat.reduceEqDiff, Nat.reduceLT, ↓reduceIte, Int.reduceToNat, Int.reduceAdd, Int.reduceSub, Int.reduceMul, Int.reduceLT, Int.reduceLE, Int.reduceEq, Nat.reduceLeDiff,  EC_op, EC_opg, EC_nil]
  refine (awake_any w7 (hW.below hF7 hw5)).mono ?_
  rintro e w8 ⟨rfl, hB8⟩
  refine ⟨_, rfl, ?_⟩
  have hJ8 := hJ.trans (hB8.mono hz7)
  exact ⟨hJ8, hJ8, hJ8, rfl, hF4.trans (hJ8.mono (by have := hF4.size; omega))⟩
end Go.Proofs.YtcnlopjjejdahaaDoor
