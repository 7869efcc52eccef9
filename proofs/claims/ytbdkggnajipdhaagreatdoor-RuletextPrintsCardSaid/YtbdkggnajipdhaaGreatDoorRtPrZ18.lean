/- Texts laid one behind the other: RpE, RpF. Each says at its head what it proves. -/
import Derived.Test.YtbdkggnajipdhaaGreatDoorRtPrZ17
set_option linter.unusedSimpArgs false
/- Walks: the reference's printer of games: fineAddon, fineTier. -/
namespace Go.Proofs.YtbdkggnajipdhaaGreatDoor
open Go.RowKit
set_option maxRecDepth 100000
theorem adFine_is (a : Ad) : a.fine = (wordL (bs a.name) && (fitB a.price && fitB a.digits) && a.factors.all fitB && a.serials.all fitB && ((decide (a.kind = 1) && decide (a.digits = 0) && decide (a.serials.length = 0)) || (decide (a.kind = 2) && decide (a.factors.length = 0)))) := by
  unfold Ad.fine
  by_cases h1 : a.kind = 1
  · have h2 : ¬ a.kind = 2 := by omega
    rw [if_pos h1, decide_eq_true h1, decide_eq_false h2, Bool.true_and, Bool.false_and, Bool.or_false, Bool.eq_iff_iff]
    simp only [Bool.and_eq_true, decide_eq_true_eq]
    constructor
    · rintro ⟨x, ⟨⟨d, s⟩, p⟩, f⟩
      have hs : a.serials = [] := List.eq_nil_of_length_eq_zero s
      refine ⟨⟨⟨⟨x, p, by rw [d]; decide⟩, f⟩, by rw [hs]; rfl⟩, d, s⟩
    · rintro ⟨⟨⟨⟨x, p, _⟩, f⟩, _⟩, d, s⟩
      exact ⟨x, ⟨⟨d, s⟩, p⟩, f⟩
  · rw [if_neg h1, decide_eq_false h1]
    by_cases h2 : a.kind = 2
    · rw [if_pos h2, decide_eq_true h2, Bool.false_and, Bool.false_and, Bool.false_or, Bool.true_and, Bool.eq_iff_iff]
      simp only [Bool.and_eq_true, decide_eq_true_eq, and_true]
      constructor
      · rintro ⟨x, ⟨f, p, d⟩, s⟩
        have hs : a.factors = [] := List.eq_nil_of_length_eq_zero f
        refine ⟨⟨⟨⟨x, p, d⟩, by rw [hs]; rfl⟩, s⟩, f⟩
      · rintro ⟨⟨⟨⟨x, p, d⟩, _⟩, s⟩, f⟩
        exact ⟨x, ⟨f, p, d⟩, s⟩
    · rw [if_neg h2, decide_eq_false h2]
      simp
theorem tiFine_is (t : Ti) : t.fine = ((fitB t.main && fitB t.bonus && fitB t.extra && fitB t.value) && decide (1 ≤ t.kind ∧ t.kind ≤ 3) && (if t.mode = 0 then true else if t.mode = 1 ∨ t.mode = 2 then decide (t.main = 0) && decide (t.bonus = 0) && decide (t.extra = 0) else if t.mode = 3 ∨ t.mode = 4 then decide (t.bonus = 0) && decide (t.extra = 0) else false)) := by
  have f0 : fitB 0 = true := by decide
  have hk : (decide (t.kind = 1) || decide (t.kind = 2) || decide (t.kind = 3)) = decide (1 ≤ t.kind ∧ t.kind ≤ 3) := by
    rw [Bool.eq_iff_iff]; simp only [Bool.or_eq_true, decide_eq_true_eq]; omega
  have hh : ∀ n : Int, hitB n = fitB n := fun n => by
    unfold hitB
    by_cases h : n = 0
    · rw [h, f0]; rfl
    · rw [decide_eq_false h]; rfl
  unfold Ti.fine Ti.fineM
  rw [hk]
  by_cases h0 : t.mode = 0
  · rw [if_pos h0, if_pos h0, hh, hh, hh, Bool.and_true, Bool.eq_iff_iff]
    simp only [Bool.and_eq_true]
    constructor <;> rintro ⟨⟨⟨a, b⟩, c⟩, d⟩ <;> simp [*]
  rw [if_neg h0, if_neg h0]
  by_cases h1 : t.mode = 1 ∨ t.mode = 2
  · rw [if_pos h1, if_pos h1, Bool.eq_iff_iff]
    simp only [Bool.and_eq_true, decide_eq_true_eq]
    constructor
    · rintro ⟨⟨⟨⟨a, b⟩, c⟩, k⟩, v⟩
      exact ⟨⟨⟨⟨⟨by rw [a]; exact f0, by rw [b]; exact f0⟩, by rw [c]; exact f0⟩, v⟩, k⟩, ⟨a, b⟩, c⟩
    · rintro ⟨⟨⟨_, v⟩, k⟩, ⟨a, b⟩, c⟩
      exact ⟨⟨⟨⟨a, b⟩, c⟩, k⟩, v⟩
  rw [if_neg h1, if_neg h1]
  by_cases h3 : t.mode = 3 ∨ t.mode = 4
  · rw [if_pos h3, if_pos h3, Bool.eq_iff_iff]
    simp only [Bool.and_eq_true, decide_eq_true_eq]
    constructor
    · rintro ⟨⟨⟨⟨b, c⟩, m⟩, k⟩, v⟩
      exact ⟨⟨⟨⟨⟨m, by rw [b]; exact f0⟩, by rw [c]; exact f0⟩, v⟩, k⟩, b, c⟩
    · rintro ⟨⟨⟨⟨⟨m, _⟩, _⟩, v⟩, k⟩, b, c⟩
      exact ⟨⟨⟨⟨b, c⟩, m⟩, k⟩, v⟩
  · rw [if_neg h3, if_neg h3]; simp
theorem arr_lit (w : World) (L : List Int) : Arr (w.alloc (.cells (iW L).toArray 3)) (some ⟨w.heap.size, 0, none⟩) 1 (L.map fun n => [Value.int .i64 n]) := by
  refine arr_row (T := 3) ?_ (by intro v hv; obtain ⟨n, _, rfl⟩ := List.mem_map.1 hv; rfl)
  have : ∀ L : List Int, (L.map fun n => [Value.int .i64 n]).flatten = iW L := fun L => by
    induction L with
    | nil => rfl
    | cons s r ih => rw [List.map_cons, List.flatten_cons, ih]; rfl
  rw [this]
  exact Row.new w 3 (iW L)
set_option maxHeartbeats 4000000 in
theorem rfineAddon_any (a : Ad) (vf vs : Value) (w : World) (hf : IntsR w vf a.factors) (hs : IntsR w vs a.serials) (hnl : a.name.size ≤ 1000000) (hfl : a.factors.length ≤ 1000000) (hsl : a.serials.length ≤ 1000000) :
    Calls Tryz.prog 80 #[.agg (encAd a vf vs).toArray] w fun e w' => Below w.heap.size w w' ∧ e = .returned (.bool a.fine) := by
  refine calls_W (l := [_]) Tryz.func80 rfl _ Tryz.ntmps80 (by simp) ?_
  obtain ⟨Af, cf, rfl, hf⟩ := hf
  obtain ⟨As, cS, rfl, hs⟩ := hs
  rw [adFine_is]
  have r0 := Row.new w 45 (encAd a (.slice Af a.factors.length cf) (.slice As a.serials.length cS))
  have b0 := below_alloc w (.cells (encAd a (.slice Af a.factors.length cf) (.slice As a.serials.length cS)).toArray 45)
  refine W_piece fun K hK hX => ?_
  simp +contextual (maxSteps := 2000000) (disch := (first | omega | (simp only [SZ]; first | done | omega) | (simp only [TS] at *; omega))) only [RZ, ovw, oneC, Nat.reduceAdd, Nat.reduceMul, Nat.reduceSub, Nat.reduceEqDiff, Nat.reduceLT, ↓reduceIte, Int.reduceToNat, Nat.reduceLeDiff]
  refine hK _ _ ?_
  clear hK hX K
  generalize w.alloc (.cells (encAd a (.slice Af a.factors.length cf) (.slice As a.serials.length cS)).toArray 45) = w1 at r0 b0 ⊢
  have hz0 := b0.size
  have x0 : w1.cell? ⟨w.heap.size, 0, none⟩ = some (.string a.name) := r0.cell (i := 0) rfl
  have x2 : w1.cell? ⟨w.heap.size, 2, none⟩ = some (.int .i64 a.price) := r0.cell (i := 2) rfl
  have x4 : w1.cell? ⟨w.heap.size, 4, none⟩ = some (.int .i64 a.digits) := r0.cell (i := 4) rfl
  simp +contextual (maxSteps := 2000000) (disch := (first | omega | (simp only [SZ]; first | done | omega) | (simp only [TS] at *; omega))) only [RZ, ovw, oneC, Nat.reduceAdd, Nat.reduceMul, Nat.reduceSub, Nat.reduceEqDiff, Nat.reduceLT, ↓reduceIte, Int.reduceToNat, Nat.reduceLeDiff,  x0]
  refine (rWord_any a.name w1 (by omega)).mono ?_
  rintro e w2 ⟨rfl, rfl⟩
  refine ⟨_, rfl, ?_⟩
  cases hw : wordL (bs a.name) with
  | false =>
    simp +contextual (maxSteps := 2000000) (disch := (first | omega | (simp only [SZ]; first | done | omega) | (simp only [TS] at *; omega))) only [RZ, ovw, oneC, Nat.reduceAdd, Nat.reduceMul, Nat.reduceSub, Nat.reduceEqDiff, Nat.reduceLT, ↓reduceIte, Int.reduceToNat, Nat.reduceLeDiff]
    refine W_if_t rfl ?_
    simp +contextual (maxSteps := 2000000) (disch := (first | omega | (simp only [SZ]; first | done | omega) | (simp only [TS] at *; omega))) only [RZ, ovw, oneC, Nat.reduceAdd, Nat.reduceMul, Nat.reduceSub, Nat.reduceEqDiff, Nat.reduceLT, ↓reduceIte, Int.reduceToNat, Nat.reduceLeDiff]
    exact b0
  | true =>
  simp +contextual (maxSteps := 2000000) (disch := (first | omega | (simp only [SZ]; first | done | omega) | (simp only [TS] at *; omega))) only [RZ, ovw, oneC, Nat.reduceAdd, Nat.reduceMul, Nat.reduceSub, Nat.reduceEqDiff, Nat.reduceLT, ↓reduceIte, Int.reduceToNat, Nat.reduceLeDiff,  x2, x4]
  have hb2 := b0.trans ((below_alloc w1 (.cells #[.int .i64 a.price, .int .i64 a.digits] 3)).mono hz0)
  have hl := arr_lit w1 [a.price, a.digits]
  have r2 := r0.alloc (.cells #[.int .i64 a.price, .int .i64 a.digits] 3)
  refine (rfine_any [a.price, a.digits] _ 2 _ hl (by simp)).mono ?_
  rintro e w2 ⟨rfl, hw2⟩
  refine ⟨_, rfl, ?_⟩
  change w1.alloc (.cells #[.int .i64 a.price, .int .i64 a.digits] 3) = w2 at hw2
  rw [hw2] at hb2 r2
  clear hw2 hl
  have x1 : w2.cell? ⟨w.heap.size, 1, none⟩ = some (.int .i64 a.kind) := r2.cell (i := 1) rfl
  have x3 : w2.cell? ⟨w.heap.size, 3, none⟩ = some (.slice Af a.factors.length cf) := r2.cell (i := 3) rfl
  have x4 : w2.cell? ⟨w.heap.size, 4, none⟩ = some (.int .i64 a.digits) := r2.cell (i := 4) rfl
  have x5 : w2.cell? ⟨w.heap.size, 5, none⟩ = some (.slice As a.serials.length cS) := r2.cell (i := 5) rfl
  have h2 : [a.price, a.digits].all fitB = (fitB a.price && fitB a.digits) := by simp
  rw [h2]
  cases hp : fitB a.price && fitB a.digits with
  | false =>
    simp +contextual (maxSteps := 2000000) (disch := (first | omega | (simp only [SZ]; first | done | omega) | (simp only [TS] at *; omega))) only [RZ, ovw, oneC, Nat.reduceAdd, Nat.reduceMul, Nat.reduceSub, Nat.reduceEqDiff, Nat.reduceLT, ↓reduceIte, Int.reduceToNat, Nat.reduceLeDiff]
    refine W_if_t rfl ?_
    simp +contextual (maxSteps := 2000000) (disch := (first | omega | (simp only [SZ]; first | done | omega) | (simp only [TS] at *; omega))) only [RZ, ovw, oneC, Nat.reduceAdd, Nat.reduceMul, Nat.reduceSub, Nat.reduceEqDiff, Nat.reduceLT, ↓reduceIte, Int.reduceToNat, Nat.reduceLeDiff]
    exact hb2
  | true =>
  simp +contextual (maxSteps := 2000000) (disch := (first | omega | (simp only [SZ]; first | done | omega) | (simp only [TS] at *; omega))) only [RZ, ovw, oneC, Nat.reduceAdd, Nat.reduceMul, Nat.reduceSub, Nat.reduceEqDiff, Nat.reduceLT, ↓reduceIte, Int.reduceToNat, Nat.reduceLeDiff,  x3]
  refine (rfine_any a.factors Af cf w2 (hf.below hb2) (by omega)).mono ?_
  rintro e w3 ⟨rfl, rfl⟩
  refine ⟨_, rfl, ?_⟩
  cases hff : a.factors.all fitB with
  | false =>
    simp +contextual (maxSteps := 2000000) (disch := (first | omega | (simp only [SZ]; first | done | omega) | (simp only [TS] at *; omega))) only [RZ, ovw, oneC, Nat.reduceAdd, Nat.reduceMul, Nat.reduceSub, Nat.reduceEqDiff, Nat.reduceLT, ↓reduceIte, Int.reduceToNat, Nat.reduceLeDiff]
    refine W_if_t rfl ?_
    simp +contextual (maxSteps := 2000000) (disch := (first | omega | (simp only [SZ]; first | done | omega) | (simp only [TS] at *; omega))) only [RZ, ovw, oneC, Nat.reduceAdd, Nat.reduceMul, Nat.reduceSub, Nat.reduceEqDiff, Nat.reduceLT, ↓reduceIte, Int.reduceToNat, Nat.reduceLeDiff]
    exact hb2
  | true =>
  simp +contextual (maxSteps := 2000000) (disch := (first | omega | (simp only [SZ]; first | done | omega) | (simp only [TS] at *; omega))) only [RZ, ovw, oneC, Nat.reduceAdd, Nat.reduceMul, Nat.reduceSub, Nat.reduceEqDiff, Nat.reduceLT, ↓reduceIte, Int.reduceToNat, Nat.reduceLeDiff,  x5]
  refine (rfine_any a.serials As cS w2 (hs.below hb2) (by omega)).mono ?_
  rintro e w3 ⟨rfl, rfl⟩
  refine ⟨_, rfl, ?_⟩
  cases hss : a.serials.all fitB with
  | false =>
    simp +contextual (maxSteps := 2000000) (disch := (first | omega | (simp only [SZ]; first | done | omega) | (simp only [TS] at *; omega))) only [RZ, ovw, oneC, Nat.reduceAdd, Nat.reduceMul, Nat.reduceSub, Nat.reduceEqDiff, Nat.reduceLT, ↓reduceIte, Int.reduceToNat, Nat.reduceLeDiff]
    refine W_if_t rfl ?_
    simp +contextual (maxSteps := 2000000) (disch := (first | omega | (simp only [SZ]; first | done | omega) | (simp only [TS] at *; omega))) only [RZ, ovw, oneC, Nat.reduceAdd, Nat.reduceMul, Nat.reduceSub, Nat.reduceEqDiff, Nat.reduceLT, ↓reduceIte, Int.reduceToNat, Nat.reduceLeDiff]
    exact hb2
  | true =>
  simp +contextual (maxSteps := 2000000) (disch := (first | omega | (simp only [SZ]; first | done | omega) | (simp only [TS] at *; omega))) only [RZ, ovw, oneC, Nat.reduceAdd, Nat.reduceMul, Nat.reduceSub, Nat.reduceEqDiff, Nat.reduceLT, ↓reduceIte, Int.reduceToNat, Nat.reduceLeDiff]
  refine W_if_f rfl ?_
  have l1 : decide ((a.serials.length : Int) = 0) = decide (a.serials.length = 0) := by simp
  have l2 : decide ((a.factors.length : Int) = 0) = decide (a.factors.length = 0) := by simp
  simp +contextual (maxSteps := 2000000) (disch := (first | omega | (simp only [SZ]; first | done | omega) | (simp only [TS] at *; omega))) only [RZ, ovw, oneC, Nat.reduceAdd, Nat.reduceMul, Nat.reduceSub, Nat.reduceEqDiff, Nat.reduceLT, ↓reduceIte, Int.reduceToNat, Nat.reduceLeDiff,  x1, x3, x4, x5, l1, l2]
  first | exact hb2 | exact ⟨hb2, rfl⟩
set_option maxHeartbeats 4000000 in
theorem rfineTier_any (t : Ti) (w : World) : Calls Tryz.prog 81 #[.agg (encTi t).toArray] w fun e w' => Below w.heap.size w w' ∧ e = .returned (.bool t.fine) := by
  refine calls_W (l := [_]) Tryz.func81 rfl _ Tryz.ntmps81 (by simp) ?_
  rw [tiFine_is]
  have r0 := Row.new w 41 (encTi t)
  have b0 := below_alloc w (.cells (encTi t).toArray 41)
  refine W_piece fun K hK hX => ?_
  simp +contextual (maxSteps := 2000000) (disch := (first | omega | (simp only [SZ]; first | done | omega) | (simp only [TS] at *; omega))) only [RZ, ovw, oneC, Nat.reduceAdd, Nat.reduceMul, Nat.reduceSub, Nat.reduceEqDiff, Nat.reduceLT, ↓reduceIte, Int.reduceToNat, Nat.reduceLeDiff]
  refine hK _ _ ?_
  clear hK hX K
  generalize w.alloc (.cells (encTi t).toArray 41) = w1 at r0 b0 ⊢
  have hz0 := b0.size
  have x0 : w1.cell? ⟨w.heap.size, 0, none⟩ = some (.int .i64 t.main) := r0.cell (i := 0) rfl
  have x1 : w1.cell? ⟨w.heap.size, 1, none⟩ = some (.int .i64 t.bonus) := r0.cell (i := 1) rfl
  have x2 : w1.cell? ⟨w.heap.size, 2, none⟩ = some (.int .i64 t.extra) := r0.cell (i := 2) rfl
  have x5 : w1.cell? ⟨w.heap.size, 5, none⟩ = some (.int .i64 t.value) := r0.cell (i := 5) rfl
  simp +contextual (maxSteps := 2000000) (disch := (first | omega | (simp only [SZ]; first | done | omega) | (simp only [TS] at *; omega))) only [RZ, ovw, oneC, Nat.reduceAdd, Nat.reduceMul, Nat.reduceSub, Nat.reduceEqDiff, Nat.reduceLT, ↓reduceIte, Int.reduceToNat, Nat.reduceLeDiff,  x0, x1, x2, x5]
  have hb2 := b0.trans ((below_alloc w1 (.cells #[.int .i64 t.main, .int .i64 t.bonus, .int .i64 t.extra, .int .i64 t.value] 3)).mono hz0)
  have hl := arr_lit w1 [t.main, t.bonus, t.extra, t.value]
  have r2 := r0.alloc (.cells #[.int .i64 t.main, .int .i64 t.bonus, .int .i64 t.extra, .int .i64 t.value] 3)
  refine (rfine_any [t.main, t.bonus, t.extra, t.value] _ 4 _ hl (by simp)).mono ?_
  rintro e w2 ⟨rfl, hw2⟩
  refine ⟨_, rfl, ?_⟩
  change w1.alloc (.cells #[.int .i64 t.main, .int .i64 t.bonus, .int .i64 t.extra, .int .i64 t.value] 3) = w2 at hw2
  rw [hw2] at hb2 r2
  clear hw2 hl x0 x1 x2 x5
  have x0 : w2.cell? ⟨w.heap.size, 0, none⟩ = some (.int .i64 t.main) := r2.cell (i := 0) rfl
  have x1 : w2.cell? ⟨w.heap.size, 1, none⟩ = some (.int .i64 t.bonus) := r2.cell (i := 1) rfl
  have x2 : w2.cell? ⟨w.heap.size, 2, none⟩ = some (.int .i64 t.extra) := r2.cell (i := 2) rfl
  have x3 : w2.cell? ⟨w.heap.size, 3, none⟩ = some (.int .i64 t.mode) := r2.cell (i := 3) rfl
  have x4 : w2.cell? ⟨w.heap.size, 4, none⟩ = some (.int .i64 t.kind) := r2.cell (i := 4) rfl
  have h2 : [t.main, t.bonus, t.extra, t.value].all fitB = (fitB t.main && fitB t.bonus && fitB t.extra && fitB t.value) := by simp [Bool.and_assoc]
  rw [h2]
  cases hp : fitB t.main && fitB t.bonus && fitB t.extra && fitB t.value with
  | false =>
    simp +contextual (maxSteps := 2000000) (disch := (first | omega | (simp only [SZ]; first | done | omega) | (simp only [TS] at *; omega))) only [RZ, ovw, oneC, Nat.reduceAdd, Nat.reduceMul, Nat.reduceSub, Nat.reduceEqDiff, Nat.reduceLT, ↓reduceIte, Int.reduceToNat, Nat.reduceLeDiff]
    refine W_if_t rfl ?_
    simp +contextual (maxSteps := 2000000) (disch := (first | omega | (simp only [SZ]; first | done | omega) | (simp only [TS] at *; omega))) only [RZ, ovw, oneC, Nat.reduceAdd, Nat.reduceMul, Nat.reduceSub, Nat.reduceEqDiff, Nat.reduceLT, ↓reduceIte, Int.reduceToNat, Nat.reduceLeDiff]
    exact hb2
  | true =>
  have hkd : (decide (t.kind < 1) || decide (3 < t.kind)) = !decide (1 ≤ t.kind ∧ t.kind ≤ 3) := by
    rw [Bool.eq_iff_iff]; simp only [Bool.or_eq_true, decide_eq_true_eq, Bool.not_eq_true', decide_eq_false_iff_not]; omega
  simp +contextual (maxSteps := 2000000) (disch := (first | omega | (simp only [SZ]; first | done | omega) | (simp only [TS] at *; omega))) only [RZ, ovw, oneC, Nat.reduceAdd, Nat.reduceMul, Nat.reduceSub, Nat.reduceEqDiff, Nat.reduceLT, ↓reduceIte, Int.reduceToNat, Nat.reduceLeDiff,  x4, hkd]
  cases hkk : decide (1 ≤ t.kind ∧ t.kind ≤ 3) with
  | false =>
    refine W_if_t rfl ?_
    simp +contextual (maxSteps := 2000000) (disch := (first | omega | (simp only [SZ]; first | done | omega) | (simp only [TS] at *; omega))) only [RZ, ovw, oneC, Nat.reduceAdd, Nat.reduceMul, Nat.reduceSub, Nat.reduceEqDiff, Nat.reduceLT, ↓reduceIte, Int.reduceToNat, Nat.reduceLeDiff]
    exact hb2
  | true =>
  refine W_if_f rfl ?_
  simp +contextual (maxSteps := 2000000) (disch := (first | omega | (simp only [SZ]; first | done | omega) | (simp only [TS] at *; omega))) only [RZ, ovw, oneC, Nat.reduceAdd, Nat.reduceMul, Nat.reduceSub, Nat.reduceEqDiff, Nat.reduceLT, ↓reduceIte, Int.reduceToNat, Nat.reduceLeDiff,  x3]
  by_cases m0 : t.mode = 0
  · rw [show decide (t.mode = 0) = true by simp [m0], if_pos m0]
    refine W_if_t rfl ?_
    simp +contextual (maxSteps := 2000000) (disch := (first | omega | (simp only [SZ]; first | done | omega) | (simp only [TS] at *; omega))) only [RZ, ovw, oneC, Nat.reduceAdd, Nat.reduceMul, Nat.reduceSub, Nat.reduceEqDiff, Nat.reduceLT, ↓reduceIte, Int.reduceToNat, Nat.reduceLeDiff]
    exact hb2
  rw [show decide (t.mode = 0) = false by simp [m0], if_neg m0]
  refine W_if_f rfl ?_
  simp +contextual (maxSteps := 2000000) (disch := (first | omega | (simp only [SZ]; first | done | omega) | (simp only [TS] at *; omega))) only [RZ, ovw, oneC, Nat.reduceAdd, Nat.reduceMul, Nat.reduceSub, Nat.reduceEqDiff, Nat.reduceLT, ↓reduceIte, Int.reduceToNat, Nat.reduceLeDiff]
  by_cases m1 : t.mode = 1 ∨ t.mode = 2
  · rw [if_pos m1]
    by_cases m11 : t.mode = 1
    · rw [show decide (t.mode = 1) = true by simp [m11]]
      refine W_if_t rfl ?_
      simp +contextual (maxSteps := 2000000) (disch := (first | omega | (simp only [SZ]; first | done | omega) | (simp only [TS] at *; omega))) only [RZ, ovw, oneC, Nat.reduceAdd, Nat.reduceMul, Nat.reduceSub, Nat.reduceEqDiff, Nat.reduceLT, ↓reduceIte, Int.reduceToNat, Nat.reduceLeDiff]
      refine W_if_t rfl ?_
      simp +contextual (maxSteps := 2000000) (disch := (first | omega | (simp only [SZ]; first | done | omega) | (simp only [TS] at *; omega))) only [RZ, ovw, oneC, Nat.reduceAdd, Nat.reduceMul, Nat.reduceSub, Nat.reduceEqDiff, Nat.reduceLT, ↓reduceIte, Int.reduceToNat, Nat.reduceLeDiff,  x0, x1, x2]
      exact hb2
    · rw [show decide (t.mode = 1) = false by simp [m11]]
      refine W_if_f rfl ?_
      have d2 : decide (t.mode = 2) = true := by simp [m1.resolve_left m11]
      simp +contextual (maxSteps := 2000000) (disch := (first | omega | (simp only [SZ]; first | done | omega) | (simp only [TS] at *; omega))) only [RZ, ovw, oneC, Nat.reduceAdd, Nat.reduceMul, Nat.reduceSub, Nat.reduceEqDiff, Nat.reduceLT, ↓reduceIte, Int.reduceToNat, Nat.reduceLeDiff,  d2]
      refine W_if_t rfl ?_
      simp +contextual (maxSteps := 2000000) (disch := (first | omega | (simp only [SZ]; first | done | omega) | (simp only [TS] at *; omega))) only [RZ, ovw, oneC, Nat.reduceAdd, Nat.reduceMul, Nat.reduceSub, Nat.reduceEqDiff, Nat.reduceLT, ↓reduceIte, Int.reduceToNat, Nat.reduceLeDiff,  x0, x1, x2]
      exact hb2
  rw [if_neg m1]
  have m11 : ¬ t.mode = 1 := fun e => m1 (.inl e)
  have m12 : ¬ t.mode = 2 := fun e => m1 (.inr e)
  rw [show decide (t.mode = 1) = false by simp [m11]]
  refine W_if_f rfl ?_
  have d2 : decide (t.mode = 2) = false := by simp [m12]
  simp +contextual (maxSteps := 2000000) (disch := (first | omega | (simp only [SZ]; first | done | omega) | (simp only [TS] at *; omega))) only [RZ, ovw, oneC, Nat.reduceAdd, Nat.reduceMul, Nat.reduceSub, Nat.reduceEqDiff, Nat.reduceLT, ↓reduceIte, Int.reduceToNat, Nat.reduceLeDiff,  d2]
  refine W_if_f rfl ?_
  simp +contextual (maxSteps := 2000000) (disch := (first | omega | (simp only [SZ]; first | done | omega) | (simp only [TS] at *; omega))) only [RZ, ovw, oneC, Nat.reduceAdd, Nat.reduceMul, Nat.reduceSub, Nat.reduceEqDiff, Nat.reduceLT, ↓reduceIte, Int.reduceToNat, Nat.reduceLeDiff]
  by_cases m3 : t.mode = 3
  · rw [show decide (t.mode = 3) = true by simp [m3], if_pos (.inl m3)]
    refine W_if_t rfl ?_
    simp +contextual (maxSteps := 2000000) (disch := (first | omega | (simp only [SZ]; first | done | omega) | (simp only [TS] at *; omega))) only [RZ, ovw, oneC, Nat.reduceAdd, Nat.reduceMul, Nat.reduceSub, Nat.reduceEqDiff, Nat.reduceLT, ↓reduceIte, Int.reduceToNat, Nat.reduceLeDiff]
    refine W_if_t rfl ?_
    simp +contextual (maxSteps := 2000000) (disch := (first | omega | (simp only [SZ]; first | done | omega) | (simp only [TS] at *; omega))) only [RZ, ovw, oneC, Nat.reduceAdd, Nat.reduceMul, Nat.reduceSub, Nat.reduceEqDiff, Nat.reduceLT, ↓reduceIte, Int.reduceToNat, Nat.reduceLeDiff,  x1, x2]
    exact hb2
  rw [show decide (t.mode = 3) = false by simp [m3]]
  refine W_if_f rfl ?_
  by_cases m4 : t.mode = 4
  · have d4 : decide (t.mode = 4) = true := by simp [m4]
    rw [if_pos (.inr m4)]
    simp +contextual (maxSteps := 2000000) (disch := (first | omega | (simp only [SZ]; first | done | omega) | (simp only [TS] at *; omega))) only [RZ, ovw, oneC, Nat.reduceAdd, Nat.reduceMul, Nat.reduceSub, Nat.reduceEqDiff, Nat.reduceLT, ↓reduceIte, Int.reduceToNat, Nat.reduceLeDiff,  d4]
    refine W_if_t rfl ?_
    simp +contextual (maxSteps := 2000000) (disch := (first | omega | (simp only [SZ]; first | done | omega) | (simp only [TS] at *; omega))) only [RZ, ovw, oneC, Nat.reduceAdd, Nat.reduceMul, Nat.reduceSub, Nat.reduceEqDiff, Nat.reduceLT, ↓reduceIte, Int.reduceToNat, Nat.reduceLeDiff,  x1, x2]
    exact hb2
  · have d4 : decide (t.mode = 4) = false := by simp [m4]
    rw [if_neg (fun e => e.elim m3 m4)]
    simp +contextual (maxSteps := 2000000) (disch := (first | omega | (simp only [SZ]; first | done | omega) | (simp only [TS] at *; omega))) only [RZ, ovw, oneC, Nat.reduceAdd, Nat.reduceMul, Nat.reduceSub, Nat.reduceEqDiff, Nat.reduceLT, ↓reduceIte, Int.reduceToNat, Nat.reduceLeDiff,  d4]
    refine W_if_f rfl ?_
    simp +contextual (maxSteps := 2000000) (disch := (first | omega | (simp only [SZ]; first | done | omega) | (simp only [TS] at *; omega))) only [RZ, ovw, oneC, Nat.reduceAdd, Nat.reduceMul, Nat.reduceSub, Nat.reduceEqDiff, Nat.reduceLT, ↓reduceIte, Int.reduceToNat, Nat.reduceLeDiff]
    exact hb2
end Go.Proofs.YtbdkggnajipdhaaGreatDoor
/- Walks: the reference's Printable and Print. -/
namespace Go.Proofs.YtbdkggnajipdhaaGreatDoor
open Go.RowKit
set_option maxRecDepth 100000
theorem fit_num {n : Int} (h : fitB n = true) : numR n := by unfold fitB at h; simp only [Bool.and_eq_true, decide_eq_true_eq] at h; unfold numR nR; omega
def numsG (G : Gm) : List Int := [G.n 1, G.n 2, G.n 3, G.n 4, G.n 5, G.n 6, G.n 7, G.n 8, G.n 11, G.n 12, G.n 13, G.n 14, G.n 15, G.n 16, G.n 17, G.n 18]
theorem optI_fine (w : List Nat) (n std : Int) (h : fitB std = true) : (optI w n std).all It.fine = fitB n := by
  unfold optI
  by_cases e : n = std
  · rw [if_pos e, e, h]; rfl
  · rw [if_neg e]; simp [It.fine]
theorem fineG_is (G : Gm) : fineG G = (wordL (bs G.name) && (decide (G.n 0 = 1) || decide (G.n 0 = 2)) && (numsG G).all fitB && daysC G.n && G.addons.all Ad.fine && G.tiers.all Ti.fine) := by
  have f0 : fitB 0 = true := by decide
  have f1 : fitB 1 = true := by decide
  unfold fineG itemsG optsI
  rw [headI_is]
  simp only [List.all_append, optI_fine _ _ _ f0, optI_fine _ _ _ f1, List.all_map, List.all_cons, List.all_nil, Bool.and_true]
  have hb : (bonusI G.n).all It.fine = (fitB (G.n 4) && fitB (G.n 5)) := by
    unfold bonusI
    by_cases h : G.n 4 ≠ 0 ∨ G.n 5 ≠ 0
    · rw [if_pos h]; simp [It.fine]
    · rw [if_neg h]
      have h4 : G.n 4 = 0 := Classical.byContradiction fun e => h (.inl e)
      have h5 : G.n 5 = 0 := Classical.byContradiction fun e => h (.inr e)
      rw [h4, h5, f0]; rfl
  have ha : G.addons.all (It.fine ∘ It.addon) = G.addons.all Ad.fine := rfl
  have ht : G.tiers.all (It.fine ∘ It.tier) = G.tiers.all Ti.fine := rfl
  rw [hb, ha, ht]
  rw [Bool.eq_iff_iff]
  unfold numsG
  simp only [Bool.and_eq_true, List.all_cons, List.all_nil, and_true, It.fine]
  constructor
  · rintro ⟨⟨⟨w, k⟩, d⟩, ⟨⟨⟨⟨⟨⟨⟨m, o⟩, b4, b5⟩, ⟨⟨e6, e1⟩, e7⟩, e8⟩, _⟩, ⟨⟨⟨⟨⟨⟨⟨e11, e12⟩, e13⟩, e14⟩, e15⟩, e16⟩, e17⟩, e18⟩⟩, a⟩, t⟩⟩
    rw [optI_fine _ _ _ m] at e8
    exact ⟨⟨⟨⟨⟨w, k⟩, e1, m, o, b4, b5, e6, e7, e8, e11, e12, e13, e14, e15, e16, e17, e18⟩, d⟩, a⟩, t⟩
  · rintro ⟨⟨⟨⟨⟨w, k⟩, e1, m, o, b4, b5, e6, e7, e8, e11, e12, e13, e14, e15, e16, e17, e18⟩, d⟩, a⟩, t⟩
    have hd := daysC_fine d
    exact ⟨⟨⟨w, k⟩, d⟩, ⟨⟨⟨⟨⟨⟨⟨m, o⟩, b4, b5⟩, ⟨⟨e6, e1⟩, e7⟩, by rw [optI_fine _ _ _ m]; exact e8⟩, hd⟩, ⟨⟨⟨⟨⟨⟨⟨e11, e12⟩, e13⟩, e14⟩, e15⟩, e16⟩, e17⟩, e18⟩⟩, a⟩, t⟩⟩
set_option maxHeartbeats 8000000 in
theorem rPrintable_any (G : Gm) (Va Vt : Value) (w : World) (hG : GmIn w Va Vt G) (hL : G.little) :
    Calls Tryz.prog 40 #[.agg (gmV G Va Vt).toArray] w fun e w' => Below w.heap.size w w' ∧ e = .returned (.bool (fineG G)) := by
  refine calls_W (l := [_]) Tryz.func40 rfl _ Tryz.ntmps40 (by simp) ?_
  obtain ⟨hnl, hal, htl, hadl⟩ := hL
  obtain ⟨⟨Aa, ca, Vs, rfl, hAa, hads⟩, At, ct, rfl, hAt⟩ := hG
  rw [fineG_is]
  generalize hrr : (wordL (bs G.name) && (decide (G.n 0 = 1) || decide (G.n 0 = 2)) && (numsG G).all fitB && daysC G.n && G.addons.all Ad.fine && G.tiers.all Ti.fine) = rr
  have r0 := Row.new w 26 (gmV G (.slice Aa G.addons.length ca) (.slice At G.tiers.length ct))
  have b0 := below_alloc w (.cells (gmV G (.slice Aa G.addons.length ca) (.slice At G.tiers.length ct)).toArray 26)
  refine W_piece fun K hK hX => ?_
  simp +contextual (maxSteps := 2000000) (disch := (first | omega | (simp only [SZ]; first | done | omega) | (simp only [TS] at *; omega))) only [RZ, ovw, oneC, Nat.reduceAdd, Nat.reduceMul, Nat.reduceSub, Nat.reduceEqDiff, Nat.reduceLT, ↓reduceIte, Int.reduceToNat, Nat.reduceLeDiff]
  refine hK _ _ ?_
  clear hK hX K
  generalize w.alloc (.cells (gmV G (.slice Aa G.addons.length ca) (.slice At G.tiers.length ct)).toArray 26) = w1 at r0 b0 ⊢
  have hz0 := b0.size
  have c0 : w1.cell? ⟨w.heap.size, 0, none⟩ = some (.string G.name) := r0.cell (i := 0) rfl
  have c1 : w1.cell? ⟨w.heap.size, 1, none⟩ = some (.int .i64 (G.n 0)) := r0.cell (i := 1) rfl
  refine W_piece fun K hK hX => ?_
  refine W_piece fun K2 hK2 hX2 => ?_
  simp +contextual (maxSteps := 2000000) (disch := (first | omega | (simp only [SZ]; first | done | omega) | (simp only [TS] at *; omega))) only [RZ, ovw, oneC, Nat.reduceAdd, Nat.reduceMul, Nat.reduceSub, Nat.reduceEqDiff, Nat.reduceLT, ↓reduceIte, Int.reduceToNat, Nat.reduceLeDiff,  c0]
  refine (rWord_any G.name w1 (by omega)).mono ?_
  rintro e w2 ⟨rfl, rfl⟩
  refine ⟨_, rfl, ?_⟩
  have fls : ∀ {b : Bool} {c d e f : Bool}, (false && b && c && d && e && f) = false := fun {b c d e f} => rfl
  cases hw : wordL (bs G.name) with
  | false =>
    simp +contextual (maxSteps := 2000000) (disch := (first | omega | (simp only [SZ]; first | done | omega) | (simp only [TS] at *; omega))) only [RZ, ovw, oneC, Nat.reduceAdd, Nat.reduceMul, Nat.reduceSub, Nat.reduceEqDiff, Nat.reduceLT, ↓reduceIte, Int.reduceToNat, Nat.reduceLeDiff]
    refine hK2 _ _ ?_
    clear hK2 hX2 K2
    refine W_if_t rfl ?_
    refine W_piece fun K2 hK2 hX2 => ?_
    simp +contextual (maxSteps := 2000000) (disch := (first | omega | (simp only [SZ]; first | done | omega) | (simp only [TS] at *; omega))) only [RZ, ovw, oneC, Nat.reduceAdd, Nat.reduceMul, Nat.reduceSub, Nat.reduceEqDiff, Nat.reduceLT, ↓reduceIte, Int.reduceToNat, Nat.reduceLeDiff]
    refine hK2 _ _ ?_
    rw [W_ret]
    refine hX _ _ _ (fun h => by cases h) ?_
    have hf : rr = false := by rw [← hrr, hw]; rfl
    subst hf
    simp +contextual (maxSteps := 2000000) (disch := (first | omega | (simp only [SZ]; first | done | omega) | (simp only [TS] at *; omega))) only [RZ, ovw, oneC, Nat.reduceAdd, Nat.reduceMul, Nat.reduceSub, Nat.reduceEqDiff, Nat.reduceLT, ↓reduceIte, Int.reduceToNat, Nat.reduceLeDiff]
    exact b0
  | true =>
  simp +contextual (maxSteps := 2000000) (disch := (first | omega | (simp only [SZ]; first | done | omega) | (simp only [TS] at *; omega))) only [RZ, ovw, oneC, Nat.reduceAdd, Nat.reduceMul, Nat.reduceSub, Nat.reduceEqDiff, Nat.reduceLT, ↓reduceIte, Int.reduceToNat, Nat.reduceLeDiff,  c1]
  refine hK2 _ _ ?_
  clear hK2 hX2 K2
  have hkd : (!decide (G.n 0 = 1) && !decide (G.n 0 = 2)) = !(decide (G.n 0 = 1) || decide (G.n 0 = 2)) := by cases decide (G.n 0 = 1) <;> cases decide (G.n 0 = 2) <;> rfl
  rw [hkd]
  cases hk : decide (G.n 0 = 1) || decide (G.n 0 = 2) with
  | false =>
    refine W_if_t rfl ?_
    refine W_piece fun K2 hK2 hX2 => ?_
    simp +contextual (maxSteps := 2000000) (disch := (first | omega | (simp only [SZ]; first | done | omega) | (simp only [TS] at *; omega))) only [RZ, ovw, oneC, Nat.reduceAdd, Nat.reduceMul, Nat.reduceSub, Nat.reduceEqDiff, Nat.reduceLT, ↓reduceIte, Int.reduceToNat, Nat.reduceLeDiff]
    refine hK2 _ _ ?_
    rw [W_ret]
    refine hX _ _ _ (fun h => by cases h) ?_
    have hf : rr = false := by rw [← hrr, hw, hk]; rfl
    subst hf
    simp +contextual (maxSteps := 2000000) (disch := (first | omega | (simp only [SZ]; first | done | omega) | (simp only [TS] at *; omega))) only [RZ, ovw, oneC, Nat.reduceAdd, Nat.reduceMul, Nat.reduceSub, Nat.reduceEqDiff, Nat.reduceLT, ↓reduceIte, Int.reduceToNat, Nat.reduceLeDiff]
    exact b0
  | true =>
  refine W_if_f rfl ?_
  rw [W_skip]
  refine hK _ _ ?_
  clear hK hX K

  have d1 : w1.cell? ⟨w.heap.size, 2, none⟩ = some (.int .i64 (G.n 1)) := r0.cell (i := 2) rfl
  have d2 : w1.cell? ⟨w.heap.size, 3, none⟩ = some (.int .i64 (G.n 2)) := r0.cell (i := 3) rfl
  have d3 : w1.cell? ⟨w.heap.size, 4, none⟩ = some (.int .i64 (G.n 3)) := r0.cell (i := 4) rfl
  have d4 : w1.cell? ⟨w.heap.size, 5, none⟩ = some (.int .i64 (G.n 4)) := r0.cell (i := 5) rfl
  have d5 : w1.cell? ⟨w.heap.size, 6, none⟩ = some (.int .i64 (G.n 5)) := r0.cell (i := 6) rfl
  have d6 : w1.cell? ⟨w.heap.size, 7, none⟩ = some (.int .i64 (G.n 6)) := r0.cell (i := 7) rfl
  have d7 : w1.cell? ⟨w.heap.size, 8, none⟩ = some (.int .i64 (G.n 7)) := r0.cell (i := 8) rfl
  have d8 : w1.cell? ⟨w.heap.size, 9, none⟩ = some (.int .i64 (G.n 8)) := r0.cell (i := 9) rfl
  have d11 : w1.cell? ⟨w.heap.size, 12, none⟩ = some (.int .i64 (G.n 11)) := r0.cell (i := 12) rfl
  have d12 : w1.cell? ⟨w.heap.size, 13, none⟩ = some (.int .i64 (G.n 12)) := r0.cell (i := 13) rfl
  have d13 : w1.cell? ⟨w.heap.size, 14, none⟩ = some (.int .i64 (G.n 13)) := r0.cell (i := 14) rfl
  have d14 : w1.cell? ⟨w.heap.size, 15, none⟩ = some (.int .i64 (G.n 14)) := r0.cell (i := 15) rfl
  have d15 : w1.cell? ⟨w.heap.size, 16, none⟩ = some (.int .i64 (G.n 15)) := r0.cell (i := 16) rfl
  have d16 : w1.cell? ⟨w.heap.size, 17, none⟩ = some (.int .i64 (G.n 16)) := r0.cell (i := 17) rfl
  have d17 : w1.cell? ⟨w.heap.size, 18, none⟩ = some (.int .i64 (G.n 17)) := r0.cell (i := 18) rfl
  have d18 : w1.cell? ⟨w.heap.size, 19, none⟩ = some (.int .i64 (G.n 18)) := r0.cell (i := 19) rfl
  refine W_piece fun K hK hX => ?_
  refine W_piece fun K2 hK2 hX2 => ?_
  simp +contextual (maxSteps := 2000000) (disch := (first | omega | (simp only [SZ]; first | done | omega) | (simp only [TS] at *; omega))) only [RZ, ovw, oneC, Nat.reduceAdd, Nat.reduceMul, Nat.reduceSub, Nat.reduceEqDiff, Nat.reduceLT, ↓reduceIte, Int.reduceToNat, Nat.reduceLeDiff,  d1, d2, d3, d4, d5, d6, d7, d8, d11, d12, d13, d14, d15, d16, d17, d18]
  have hb2 := b0.trans ((below_alloc w1 (.cells #[.int .i64 (G.n 1), .int .i64 (G.n 2), .int .i64 (G.n 3), .int .i64 (G.n 4), .int .i64 (G.n 5), .int .i64 (G.n 6), .int .i64 (G.n 7), .int .i64 (G.n 8), .int .i64 (G.n 11), .int .i64 (G.n 12), .int .i64 (G.n 13), .int .i64 (G.n 14), .int .i64 (G.n 15), .int .i64 (G.n 16), .int .i64 (G.n 17), .int .i64 (G.n 18)] 3)).mono hz0)
  have hl := arr_lit w1 (numsG G)
  have r2 := r0.alloc (.cells #[.int .i64 (G.n 1), .int .i64 (G.n 2), .int .i64 (G.n 3), .int .i64 (G.n 4), .int .i64 (G.n 5), .int .i64 (G.n 6), .int .i64 (G.n 7), .int .i64 (G.n 8), .int .i64 (G.n 11), .int .i64 (G.n 12), .int .i64 (G.n 13), .int .i64 (G.n 14), .int .i64 (G.n 15), .int .i64 (G.n 16), .int .i64 (G.n 17), .int .i64 (G.n 18)] 3)
  refine (rfine_any (numsG G) _ 16 _ hl (by simp [numsG])).mono ?_
  rintro e w2 ⟨rfl, hw2⟩
  refine ⟨_, rfl, ?_⟩
  change w1.alloc (.cells #[.int .i64 (G.n 1), .int .i64 (G.n 2), .int .i64 (G.n 3), .int .i64 (G.n 4), .int .i64 (G.n 5), .int .i64 (G.n 6), .int .i64 (G.n 7), .int .i64 (G.n 8), .int .i64 (G.n 11), .int .i64 (G.n 12), .int .i64 (G.n 13), .int .i64 (G.n 14), .int .i64 (G.n 15), .int .i64 (G.n 16), .int .i64 (G.n 17), .int .i64 (G.n 18)] 3) = w2 at hw2
  rw [hw2] at hb2 r2
  clear hw2 hl d1 d2 d3 d4 d5 d6 d7 d8 d11 d12 d13 d14 d15 d16 d17 d18
  simp +contextual (maxSteps := 2000000) (disch := (first | omega | (simp only [SZ]; first | done | omega) | (simp only [TS] at *; omega))) only [RZ, ovw, oneC, Nat.reduceAdd, Nat.reduceMul, Nat.reduceSub, Nat.reduceEqDiff, Nat.reduceLT, ↓reduceIte, Int.reduceToNat, Nat.reduceLeDiff]
  refine hK2 _ _ ?_
  clear hK2 hX2 K2
  cases hnn : (numsG G).all fitB with
  | false =>
    refine W_if_t rfl ?_
    refine W_piece fun K2 hK2 hX2 => ?_
    simp +contextual (maxSteps := 2000000) (disch := (first | omega | (simp only [SZ]; first | done | omega) | (simp only [TS] at *; omega))) only [RZ, ovw, oneC, Nat.reduceAdd, Nat.reduceMul, Nat.reduceSub, Nat.reduceEqDiff, Nat.reduceLT, ↓reduceIte, Int.reduceToNat, Nat.reduceLeDiff]
    refine hK2 _ _ ?_
    rw [W_ret]
    refine hX _ _ _ (fun h => by cases h) ?_
    have hf : rr = false := by rw [← hrr, hw, hk, hnn]; rfl
    subst hf
    simp +contextual (maxSteps := 2000000) (disch := (first | omega | (simp only [SZ]; first | done | omega) | (simp only [TS] at *; omega))) only [RZ, ovw, oneC, Nat.reduceAdd, Nat.reduceMul, Nat.reduceSub, Nat.reduceEqDiff, Nat.reduceLT, ↓reduceIte, Int.reduceToNat, Nat.reduceLeDiff]
    exact hb2
  | true =>
  refine W_if_f rfl ?_
  rw [W_skip]
  refine hK _ _ ?_
  clear hK hX K
  have hz2 := hb2.size
  have d9 : w2.cell? ⟨w.heap.size, 10, none⟩ = some (.int .i64 (G.n 9)) := r2.cell (i := 10) rfl
  have d10 : w2.cell? ⟨w.heap.size, 11, none⟩ = some (.int .i64 (G.n 10)) := r2.cell (i := 11) rfl
  have hdc : ((((decide (G.n 9 < 0) || decide (127 < G.n 9)) || decide (G.n 10 < 0)) || decide (1439 < G.n 10)) || (decide (G.n 9 = 0) && !decide (G.n 10 = 0))) = !daysC G.n := by
    rw [Bool.eq_iff_iff]
    unfold daysC
    simp only [Bool.or_eq_true, Bool.and_eq_true, decide_eq_true_eq, Bool.not_eq_true', decide_eq_false_iff_not, Bool.and_eq_false_iff, Bool.or_eq_false_iff, Bool.not_eq_false']
    omega
  refine W_piece fun K hK hX => ?_
  refine W_piece fun K2 hK2 hX2 => ?_
  simp +contextual (maxSteps := 2000000) (disch := (first | omega | (simp only [SZ]; first | done | omega) | (simp only [TS] at *; omega))) only [RZ, ovw, oneC, Nat.reduceAdd, Nat.reduceMul, Nat.reduceSub, Nat.reduceEqDiff, Nat.reduceLT, ↓reduceIte, Int.reduceToNat, Nat.reduceLeDiff,  d9, d10]
  refine hK2 _ _ ?_
  clear hK2 hX2 K2
  rw [hdc]
  cases hdd : daysC G.n with
  | false =>
    refine W_if_t rfl ?_
    refine W_piece fun K2 hK2 hX2 => ?_
    simp +contextual (maxSteps := 2000000) (disch := (first | omega | (simp only [SZ]; first | done | omega) | (simp only [TS] at *; omega))) only [RZ, ovw, oneC, Nat.reduceAdd, Nat.reduceMul, Nat.reduceSub, Nat.reduceEqDiff, Nat.reduceLT, ↓reduceIte, Int.reduceToNat, Nat.reduceLeDiff]
    refine hK2 _ _ ?_
    rw [W_ret]
    refine hX _ _ _ (fun h => by cases h) ?_
    have hf : rr = false := by rw [← hrr, hw, hk, hnn, hdd]; rfl
    subst hf
    simp +contextual (maxSteps := 2000000) (disch := (first | omega | (simp only [SZ]; first | done | omega) | (simp only [TS] at *; omega))) only [RZ, ovw, oneC, Nat.reduceAdd, Nat.reduceMul, Nat.reduceSub, Nat.reduceEqDiff, Nat.reduceLT, ↓reduceIte, Int.reduceToNat, Nat.reduceLeDiff]
    exact hb2
  | true =>
  refine W_if_f rfl ?_
  rw [W_skip]
  refine hK _ _ ?_
  clear hK hX K d9 d10 hdc
  rw [hw, hk, hnn, hdd] at hrr
  simp only [Bool.true_and] at hrr
  refine W_cutS (fun σ w3 => Below w2.heap.size w2 w3 ∧ G.addons.all Ad.fine = true ∧ σ 1 = .pointer (some ⟨w.heap.size, 0, none⟩)) ?_ ?_
  rotate_left
  · refine W_piece fun K hK hX => ?_
    simp +contextual (maxSteps := 2000000) (disch := (first | omega | (simp only [SZ]; first | done | omega) | (simp only [TS] at *; omega))) only [RZ, ovw, oneC, Nat.reduceAdd, Nat.reduceMul, Nat.reduceSub, Nat.reduceEqDiff, Nat.reduceLT, ↓reduceIte, Int.reduceToNat, Nat.reduceLeDiff]
    refine hK _ _ ?_
    clear hK hX K
    rw [W_block, W_loop]
    refine Raw_loop (fun σ w3 => Below w2.heap.size w2 w3 ∧ ∃ k : Nat, k ≤ G.addons.length ∧ (∀ j a, j < k → G.addons[j]? = some a → a.fine = true) ∧ σ 1 = .pointer (some ⟨w.heap.size, 0, none⟩) ∧ σ 3 = .int .i64 k) (fun σ _ => G.addons.length - (intOf (σ 3)).toNat) ?_ ?_
    · exact ⟨Below.refl _ _, 0, Nat.zero_le _, fun j a hj => absurd hj (Nat.not_lt_zero _), rfl, rfl⟩
    rintro σ w3 ⟨hb3, k, hkl, hall, f1, f3⟩ K hK
    have r3 := r2.below hb3
    have hF3 := hb2.trans (hb3.mono hz2)
    have c20 : w3.cell? ⟨w.heap.size, 20, none⟩ = some (.slice Aa G.addons.length ca) := r3.cell (i := 20) rfl
    refine W_piece fun K1 hK1 hX1 => ?_
    refine W_piece fun K2 hK2 hX2 => ?_
    simp +contextual (maxSteps := 2000000) (disch := (first | omega | (simp only [SZ]; first | done | omega) | (simp only [TS] at *; omega))) only [RZ, ovw, oneC, Nat.reduceAdd, Nat.reduceMul, Nat.reduceSub, Nat.reduceEqDiff, Nat.reduceLT, ↓reduceIte, Int.reduceToNat, Nat.reduceLeDiff,  f1, f3, c20]
    refine hK2 _ _ ?_
    clear hK2 hX2 K2
    (refine W_if rfl (fun hc => ?_) (fun hc => ?_) <;> (try simp only [TS] at hc))
    · have hkl2 : k < G.addons.length := by omega
      obtain ⟨a, ha⟩ : ∃ a, G.addons[k]? = some a := ⟨_, List.getElem?_eq_getElem hkl2⟩
      obtain ⟨cv1, hcv⟩ : ∃ c, Vs[k]? = some c := ⟨_, List.getElem?_eq_getElem (by rw [hads.1]; exact hkl2)⟩
      obtain ⟨vf, vs, rfl, hvf, hvs⟩ := hads.2 k _ a hcv ha
      obtain ⟨b2, o2, rfl, hbb2, hcell⟩ := (hAa.below hF3) (by rw [hads.1]; omega)
      have hla : vLoad Tryz.prog 45 (.pointer (some ⟨b2, o2 + k * 6, none⟩)) w3 = .ok (.value (.agg (encAd a vf vs).toArray)) w3 := vLoad_all (by kernel_rfl) (by show _ = some 6; kernel_rfl) (fun i v hv => hcell k _ hcv i v hv)
      obtain ⟨m1, m2, m3⟩ := hadl a (List.mem_of_getElem? ha)
      rw [W_skip]
      refine hK1 _ _ ?_
      clear hK1 hX1 K1
      refine W_piece fun K1 hK1 hX1 => ?_
      rw [W_block]
      refine W_piece fun K2 hK2 hX2 => ?_
      simp +contextual (maxSteps := 2000000) (disch := (first | omega | (simp only [SZ]; first | done | omega) | (simp only [TS] at *; omega))) only [RZ, ovw, oneC, Nat.reduceAdd, Nat.reduceMul, Nat.reduceSub, Nat.reduceEqDiff, Nat.reduceLT, ↓reduceIte, Int.reduceToNat, Nat.reduceLeDiff,  f1, f3, c20, hla]
      refine (rfineAddon_any a vf vs w3 (hvf.below hF3) (hvs.below hF3) m1 m2 m3).mono ?_
      rintro e w4 ⟨hB4, rfl⟩
      refine ⟨_, rfl, ?_⟩
      try simp +contextual (maxSteps := 2000000) (disch := (first | omega | (simp only [SZ]; first | done | omega) | (simp only [TS] at *; omega))) only [RZ, ovw, oneC, Nat.reduceAdd, Nat.reduceMul, Nat.reduceSub, Nat.reduceEqDiff, Nat.reduceLT, ↓reduceIte, Int.reduceToNat, Nat.reduceLeDiff]
      refine hK2 _ _ ?_
      clear hK2 hX2 K2
      have hF4 := hF3.trans (hB4.mono hF3.size)
      cases hfa : a.fine with
      | false =>
        refine W_if_t rfl ?_
        refine W_piece fun K2 hK2 hX2 => ?_
        simp +contextual (maxSteps := 2000000) (disch := (first | omega | (simp only [SZ]; first | done | omega) | (simp only [TS] at *; omega))) only [RZ, ovw, oneC, Nat.reduceAdd, Nat.reduceMul, Nat.reduceSub, Nat.reduceEqDiff, Nat.reduceLT, ↓reduceIte, Int.reduceToNat, Nat.reduceLeDiff]
        refine hK2 _ _ ?_
        rw [W_ret, inX_ret]
        refine hX1 _ _ _ (fun h => by cases h) ?_
        have : rr = false := by
          rw [← hrr]
          have : G.addons.all Ad.fine = false := by
            rw [Bool.eq_false_iff]
            intro e
            have := List.all_eq_true.1 e a (List.mem_of_getElem? ha)
            rw [hfa] at this
            cases this
          rw [this]; rfl
        subst this
        simp +contextual (maxSteps := 2000000) (disch := (first | omega | (simp only [SZ]; first | done | omega) | (simp only [TS] at *; omega))) only [RZ, ovw, oneC, Nat.reduceAdd, Nat.reduceMul, Nat.reduceSub, Nat.reduceEqDiff, Nat.reduceLT, ↓reduceIte, Int.reduceToNat, Nat.reduceLeDiff]
        exact hF4
      | true =>
        refine W_if_f rfl ?_
        rw [W_skip, inX_normal]
        refine hK1 _ _ ?_
        clear hK1 hX1 K1
        simp +contextual (maxSteps := 2000000) (disch := (first | omega | (simp only [SZ]; first | done | omega) | (simp only [TS] at *; omega))) only [RZ, ovw, oneC, Nat.reduceAdd, Nat.reduceMul, Nat.reduceSub, Nat.reduceEqDiff, Nat.reduceLT, ↓reduceIte, Int.reduceToNat, Nat.reduceLeDiff,  f1, f3]
        refine hK _ _ ⟨hb3.trans (hB4.mono hb3.size), k + 1, by omega, fun j a' hj ha' => ?_, ?_⟩ ?_
        · by_cases hjk : j = k
          · subst hjk; rw [ha] at ha'; injection ha' with ha'; subst ha'; exact hfa
          · exact hall j a' (by omega) ha'
        · simp +contextual (maxSteps := 2000000) (disch := (first | omega | (simp only [SZ]; first | done | omega) | (simp only [TS] at *; omega))) only [RZ, ovw, oneC, Nat.reduceAdd, Nat.reduceMul, Nat.reduceSub, Nat.reduceEqDiff, Nat.reduceLT, ↓reduceIte, Int.reduceToNat, Nat.reduceLeDiff,  f1, f3]
        · simp +contextual (maxSteps := 2000000) (disch := (first | omega | (simp only [SZ]; first | done | omega) | (simp only [TS] at *; omega))) only [RZ, ovw, oneC, Nat.reduceAdd, Nat.reduceMul, Nat.reduceSub, Nat.reduceEqDiff, Nat.reduceLT, ↓reduceIte, Int.reduceToNat, Nat.reduceLeDiff,  intOf, f3]
          omega
    · have hkz : k = G.addons.length := by omega
      subst hkz
      simp +contextual (maxSteps := 2000000) (disch := (first | omega | (simp only [SZ]; first | done | omega) | (simp only [TS] at *; omega))) only [RZ, ovw, oneC, Nat.reduceAdd, Nat.reduceMul, Nat.reduceSub, Nat.reduceEqDiff, Nat.reduceLT, ↓reduceIte, Int.reduceToNat, Nat.reduceLeDiff,  f1, f3]
      refine hX1 _ _ _ (fun h => by cases h) ?_
      simp +contextual (maxSteps := 2000000) (disch := (first | omega | (simp only [SZ]; first | done | omega) | (simp only [TS] at *; omega))) only [RZ, ovw, oneC, Nat.reduceAdd, Nat.reduceMul, Nat.reduceSub, Nat.reduceEqDiff, Nat.reduceLT, ↓reduceIte, Int.reduceToNat, Nat.reduceLeDiff,  f1, f3]
      refine ⟨hb3, ?_⟩
      rw [List.all_eq_true]
      intro a ha
      obtain ⟨j, hj⟩ := List.mem_iff_getElem?.1 ha
      exact hall j a (List.getElem?_eq_some_iff.1 hj).1 hj
  rintro σ wa ⟨hba, hadf, f1⟩
  rw [hadf, Bool.true_and] at hrr
  have ra := r2.below hba
  have hFa := hb2.trans (hba.mono hz2)
  have hza := hFa.size
  refine W_cutS (fun σ w3 => Below wa.heap.size wa w3 ∧ G.tiers.all Ti.fine = true) ?_ ?_
  · rintro σ w3 ⟨hb3, hall⟩
    rw [hall] at hrr
    subst hrr
    simp +contextual (maxSteps := 2000000) (disch := (first | omega | (simp only [SZ]; first | done | omega) | (simp only [TS] at *; omega))) only [RZ, ovw, oneC, Nat.reduceAdd, Nat.reduceMul, Nat.reduceSub, Nat.reduceEqDiff, Nat.reduceLT, ↓reduceIte, Int.reduceToNat, Nat.reduceLeDiff]
    exact hFa.trans (hb3.mono hza)
  · refine W_piece fun K hK hX => ?_
    simp +contextual (maxSteps := 2000000) (disch := (first | omega | (simp only [SZ]; first | done | omega) | (simp only [TS] at *; omega))) only [RZ, ovw, oneC, Nat.reduceAdd, Nat.reduceMul, Nat.reduceSub, Nat.reduceEqDiff, Nat.reduceLT, ↓reduceIte, Int.reduceToNat, Nat.reduceLeDiff]
    refine hK _ _ ?_
    clear hK hX K
    rw [W_block, W_loop]
    refine Raw_loop (fun σ w3 => Below wa.heap.size wa w3 ∧ ∃ k : Nat, k ≤ G.tiers.length ∧ (∀ j a, j < k → G.tiers[j]? = some a → a.fine = true) ∧ σ 1 = .pointer (some ⟨w.heap.size, 0, none⟩) ∧ σ 4 = .int .i64 k) (fun σ _ => G.tiers.length - (intOf (σ 4)).toNat) ?_ ?_
    · refine ⟨Below.refl _ _, 0, Nat.zero_le _, fun j a hj => absurd hj (Nat.not_lt_zero _), ?_⟩
      simp +contextual (maxSteps := 2000000) (disch := (first | omega | (simp only [SZ]; first | done | omega) | (simp only [TS] at *; omega))) only [RZ, ovw, oneC, Nat.reduceAdd, Nat.reduceMul, Nat.reduceSub, Nat.reduceEqDiff, Nat.reduceLT, ↓reduceIte, Int.reduceToNat, Nat.reduceLeDiff,  f1]
      rfl
    clear f1
    rintro σ w3 ⟨hb3, k, hkl, hall, f1, f4⟩ K hK
    have r3 := ra.below hb3
    have hF3 := hFa.trans (hb3.mono hza)
    have c21 : w3.cell? ⟨w.heap.size, 21, none⟩ = some (.slice At G.tiers.length ct) := r3.cell (i := 21) rfl
    refine W_piece fun K1 hK1 hX1 => ?_
    refine W_piece fun K2 hK2 hX2 => ?_
    simp +contextual (maxSteps := 2000000) (disch := (first | omega | (simp only [SZ]; first | done | omega) | (simp only [TS] at *; omega))) only [RZ, ovw, oneC, Nat.reduceAdd, Nat.reduceMul, Nat.reduceSub, Nat.reduceEqDiff, Nat.reduceLT, ↓reduceIte, Int.reduceToNat, Nat.reduceLeDiff,  f1, f4, c21]
    refine hK2 _ _ ?_
    clear hK2 hX2 K2
    (refine W_if rfl (fun hc => ?_) (fun hc => ?_) <;> (try simp only [TS] at hc))
    · have hkl2 : k < G.tiers.length := by omega
      obtain ⟨a, ha⟩ : ∃ a, G.tiers[k]? = some a := ⟨_, List.getElem?_eq_getElem hkl2⟩
      obtain ⟨b2, o2, rfl, hbb2, hcell⟩ := (hAt.below hF3).at_ (enc := encTi) ha
      have hla : vLoad Tryz.prog 41 (.pointer (some ⟨b2, o2 + k * 6, none⟩)) w3 = .ok (.value (.agg (encTi a).toArray)) w3 := vLoad_all (by kernel_rfl) (by show _ = some 6; kernel_rfl) (fun i v hv => hcell i v hv)
      rw [W_skip]
      refine hK1 _ _ ?_
      clear hK1 hX1 K1
      refine W_piece fun K1 hK1 hX1 => ?_
      rw [W_block]
      refine W_piece fun K2 hK2 hX2 => ?_
      simp +contextual (maxSteps := 2000000) (disch := (first | omega | (simp only [SZ]; first | done | omega) | (simp only [TS] at *; omega))) only [RZ, ovw, oneC, Nat.reduceAdd, Nat.reduceMul, Nat.reduceSub, Nat.reduceEqDiff, Nat.reduceLT, ↓reduceIte, Int.reduceToNat, Nat.reduceLeDiff,  f1, f4, c21, hla]
      refine (rfineTier_any a w3).mono ?_
      rintro e w4 ⟨hB4, rfl⟩
      refine ⟨_, rfl, ?_⟩
      try simp +contextual (maxSteps := 2000000) (disch := (first | omega | (simp only [SZ]; first | done | omega) | (simp only [TS] at *; omega))) only [RZ, ovw, oneC, Nat.reduceAdd, Nat.reduceMul, Nat.reduceSub, Nat.reduceEqDiff, Nat.reduceLT, ↓reduceIte, Int.reduceToNat, Nat.reduceLeDiff]
      refine hK2 _ _ ?_
      clear hK2 hX2 K2
      have hF4 := hF3.trans (hB4.mono hF3.size)
      cases hfa : a.fine with
      | false =>
        refine W_if_t rfl ?_
        refine W_piece fun K2 hK2 hX2 => ?_
        simp +contextual (maxSteps := 2000000) (disch := (first | omega | (simp only [SZ]; first | done | omega) | (simp only [TS] at *; omega))) only [RZ, ovw, oneC, Nat.reduceAdd, Nat.reduceMul, Nat.reduceSub, Nat.reduceEqDiff, Nat.reduceLT, ↓reduceIte, Int.reduceToNat, Nat.reduceLeDiff]
        refine hK2 _ _ ?_
        rw [W_ret, inX_ret]
        refine hX1 _ _ _ (fun h => by cases h) ?_
        have : rr = false := by
          rw [← hrr, Bool.eq_false_iff]
          intro e
          have := List.all_eq_true.1 e a (List.mem_of_getElem? ha)
          rw [hfa] at this
          cases this
        subst this
        simp +contextual (maxSteps := 2000000) (disch := (first | omega | (simp only [SZ]; first | done | omega) | (simp only [TS] at *; omega))) only [RZ, ovw, oneC, Nat.reduceAdd, Nat.reduceMul, Nat.reduceSub, Nat.reduceEqDiff, Nat.reduceLT, ↓reduceIte, Int.reduceToNat, Nat.reduceLeDiff]
        exact hF4
      | true =>
        refine W_if_f rfl ?_
        rw [W_skip, inX_normal]
        refine hK1 _ _ ?_
        clear hK1 hX1 K1
        simp +contextual (maxSteps := 2000000) (disch := (first | omega | (simp only [SZ]; first | done | omega) | (simp only [TS] at *; omega))) only [RZ, ovw, oneC, Nat.reduceAdd, Nat.reduceMul, Nat.reduceSub, Nat.reduceEqDiff, Nat.reduceLT, ↓reduceIte, Int.reduceToNat, Nat.reduceLeDiff,  f1, f4]
        refine hK _ _ ⟨hb3.trans (hB4.mono hb3.size), k + 1, by omega, fun j a' hj ha' => ?_, ?_⟩ ?_
        · by_cases hjk : j = k
          · subst hjk; rw [ha] at ha'; injection ha' with ha'; subst ha'; exact hfa
          · exact hall j a' (by omega) ha'
        · simp +contextual (maxSteps := 2000000) (disch := (first | omega | (simp only [SZ]; first | done | omega) | (simp only [TS] at *; omega))) only [RZ, ovw, oneC, Nat.reduceAdd, Nat.reduceMul, Nat.reduceSub, Nat.reduceEqDiff, Nat.reduceLT, ↓reduceIte, Int.reduceToNat, Nat.reduceLeDiff,  f1, f4]
        · simp +contextual (maxSteps := 2000000) (disch := (first | omega | (simp only [SZ]; first | done | omega) | (simp only [TS] at *; omega))) only [RZ, ovw, oneC, Nat.reduceAdd, Nat.reduceMul, Nat.reduceSub, Nat.reduceEqDiff, Nat.reduceLT, ↓reduceIte, Int.reduceToNat, Nat.reduceLeDiff,  intOf, f4]
          omega
    · have hkz : k = G.tiers.length := by omega
      subst hkz
      simp +contextual (maxSteps := 2000000) (disch := (first | omega | (simp only [SZ]; first | done | omega) | (simp only [TS] at *; omega))) only [RZ, ovw, oneC, Nat.reduceAdd, Nat.reduceMul, Nat.reduceSub, Nat.reduceEqDiff, Nat.reduceLT, ↓reduceIte, Int.reduceToNat, Nat.reduceLeDiff,  f1, f4]
      refine hX1 _ _ _ (fun h => by cases h) ?_
      simp +contextual (maxSteps := 2000000) (disch := (first | omega | (simp only [SZ]; first | done | omega) | (simp only [TS] at *; omega))) only [RZ, ovw, oneC, Nat.reduceAdd, Nat.reduceMul, Nat.reduceSub, Nat.reduceEqDiff, Nat.reduceLT, ↓reduceIte, Int.reduceToNat, Nat.reduceLeDiff,  f1, f4]
      refine ⟨hb3, ?_⟩
      rw [List.all_eq_true]
      intro a ha
      obtain ⟨j, hj⟩ := List.mem_iff_getElem?.1 ha
      exact hall j a (List.getElem?_eq_some_iff.1 hj).1 hj
end Go.Proofs.YtbdkggnajipdhaaGreatDoor
