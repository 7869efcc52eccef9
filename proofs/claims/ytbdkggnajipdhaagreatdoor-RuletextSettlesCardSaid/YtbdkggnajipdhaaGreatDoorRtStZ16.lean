/- Texts laid one behind the other: RpF, RpG. Each says at its head what it proves. -/
import Derived.Test.YtbdkggnajipdhaaGreatDoorRtStZ15
set_option linter.unusedSimpArgs false
/- Walks: the reference's Printable and Print. -/
namespace Go.Proofs.YtbdkggnajipdhaaGreatDoor
open Nat (reduceAdd reduceMul reduceSub reduceEqDiff reduceLT reduceLeDiff)
open Go.RowKit
set_option maxRecDepth 100000
theorem fit_num {n : Int} (h : fitB n = true) : numR n := by unfold fitB at h; simp only [Bool.and_eq_true, decide_eq_true_eq] at h; unfold numR nR; omega
def numsG (G : Gm) : List Int := [G.n 1, G.n 2, G.n 3, G.n 4, G.n 5, G.n 6, G.n 7, G.n 8, G.n 11, G.n 12, G.n 13, G.n 14, G.n 15, G.n 16, G.n 17, G.n 18]
theorem optI_fine (w : List Nat) (n std : Int) (h : fitB std = true) : (optI w n std).all It.fine = fitB n := by
  unfold optI
  by_cases e : n = std
  · rw [if_pos e, e, h]; rfl
  · rw [if_neg e]; simp [It.fine]
theorem fineG_is (G : Gm) : fineG G = (wordL (bs G.name) && (decide (G.n 0 = 1) || decide (G.n 0 = 2)) && (numsG G).all fitB && daysC G.n && G.addons.all Ad.fine && G.tiers.all Ti.fine) := by
  have f0 : fitB 0 = true := by decide
  have f1 : fitB 1 = true := by decide
  unfold fineG itemsG optsI
  rw [headI_is]
  simp only [List.all_append, optI_fine _ _ _ f0, optI_fine _ _ _ f1, List.all_map, List.all_cons, List.all_nil, Bool.and_true]
  have hb : (bonusI G.n).all It.fine = (fitB (G.n 4) && fitB (G.n 5)) := by
    unfold bonusI
    by_cases h : G.n 4 ≠ 0 ∨ G.n 5 ≠ 0
    · rw [if_pos h]; simp [It.fine]
    · rw [if_neg h]
      have h4 : G.n 4 = 0 := Classical.byContradiction fun e => h (.inl e)
      have h5 : G.n 5 = 0 := Classical.byContradiction fun e => h (.inr e)
      rw [h4, h5, f0]; rfl
  have ha : G.addons.all (It.fine ∘ It.addon) = G.addons.all Ad.fine := rfl
  have ht : G.tiers.all (It.fine ∘ It.tier) = G.tiers.all Ti.fine := rfl
  rw [hb, ha, ht]
  rw [Bool.eq_iff_iff]
  unfold numsG
  simp only [Bool.and_eq_true, List.all_cons, List.all_nil, and_true, It.fine]
  constructor
  · rintro ⟨⟨⟨w, k⟩, d⟩, ⟨⟨⟨⟨⟨⟨⟨m, o⟩, b4, b5⟩, ⟨⟨e6, e1⟩, e7⟩, e8⟩, _⟩, ⟨⟨⟨⟨⟨⟨⟨e11, e12⟩, e13⟩, e14⟩, e15⟩, e16⟩, e17⟩, e18⟩⟩, a⟩, t⟩⟩
    rw [optI_fine _ _ _ m] at e8
    exact ⟨⟨⟨⟨⟨w, k⟩, e1, m, o, b4, b5, e6, e7, e8, e11, e12, e13, e14, e15, e16, e17, e18⟩, d⟩, a⟩, t⟩
  · rintro ⟨⟨⟨⟨⟨w, k⟩, e1, m, o, b4, b5, e6, e7, e8, e11, e12, e13, e14, e15, e16, e17, e18⟩, d⟩, a⟩, t⟩
    have hd := daysC_fine d
    exact ⟨⟨⟨w, k⟩, d⟩, ⟨⟨⟨⟨⟨⟨⟨m, o⟩, b4, b5⟩, ⟨⟨e6, e1⟩, e7⟩, by rw [optI_fine _ _ _ m]; exact e8⟩, hd⟩, ⟨⟨⟨⟨⟨⟨⟨e11, e12⟩, e13⟩, e14⟩, e15⟩, e16⟩, e17⟩, e18⟩⟩, a⟩, t⟩⟩
set_option maxHeartbeats 8000000 in
theorem rPrintable_any (G : Gm) (Va Vt : Value) (w : World) (hG : GmIn w Va Vt G) (hL : G.little) :
    Calls Tryz.prog 40 #[.agg (gmV G Va Vt).toArray] w fun e w' => Below w.heap.size w w' ∧ e = .returned (.bool (fineG G)) := by
  refine calls_W (l := [_]) Tryz.func40 rfl _ Tryz.ntmps40 (by simp) ?_
  obtain ⟨hnl, hal, htl, hadl⟩ := hL
  obtain ⟨⟨Aa, ca, Vs, rfl, hAa, hads⟩, At, ct, rfl, hAt⟩ := hG
  rw [fineG_is]
  generalize hrr : (wordL (bs G.name) && (decide (G.n 0 = 1) || decide (G.n 0 = 2)) && (numsG G).all fitB && daysC G.n && G.addons.all Ad.fine && G.tiers.all Ti.fine) = rr
  have r0 := Row.new w 26 (gmV G (.slice Aa G.addons.length ca) (.slice At G.tiers.length ct))
  have b0 := below_alloc w (.cells (gmV G (.slice Aa G.addons.length ca) (.slice At G.tiers.length ct)).toArray 26)
  refine W_piece fun K hK hX => ?_
  simp +contextual (maxSteps := 2000000) (disch := first | omega | (simp only [SZ]; first | done | omega) | (simp only [TS] at *; omega)) only [RZ, ovw, oneC, reduceAdd, reduceMul, reduceSub, reduceEqDiff, reduceLT, ↓reduceIte, Int.reduceToNat, reduceLeDiff]
  refine hK _ _ ?_
  clear hK hX K
  generalize w.alloc (.cells (gmV G (.slice Aa G.addons.length ca) (.slice At G.tiers.length ct)).toArray 26) = w1 at r0 b0 ⊢
  have hz0 := b0.size
  have c0 : w1.cell? ⟨w.heap.size, 0, none⟩ = some (.string G.name) := r0.cell (i := 0) rfl
  have c1 : w1.cell? ⟨w.heap.size, 1, none⟩ = some (.int .i64 (G.n 0)) := r0.cell (i := 1) rfl
  refine W_piece fun K hK hX => ?_
  refine W_piece fun K2 hK2 hX2 => ?_
  simp +contextual (maxSteps := 2000000) (disch := first | omega | (simp only [SZ]; first | done | omega) | (simp only [TS] at *; omega)) only [RZ, ovw, oneC, reduceAdd, reduceMul, reduceSub, reduceEqDiff, reduceLT, ↓reduceIte, Int.reduceToNat, reduceLeDiff,  c0]
  refine (rWord_any G.name w1 (by omega)).mono ?_
  rintro e w2 ⟨rfl, rfl⟩
  refine ⟨_, rfl, ?_⟩
  have fls : ∀ {b : Bool} {c d e f : Bool}, (false && b && c && d && e && f) = false := fun {b c d e f} => rfl
  cases hw : wordL (bs G.name) with
  | false =>
    simp +contextual (maxSteps := 2000000) (disch := first | omega | (simp only [SZ]; first | done | omega) | (simp only [TS] at *; omega)) only [RZ, ovw, oneC, reduceAdd, reduceMul, reduceSub, reduceEqDiff, reduceLT, ↓reduceIte, Int.reduceToNat, reduceLeDiff]
    refine hK2 _ _ ?_
    clear hK2 hX2 K2
    refine W_if_t rfl ?_
    refine W_piece fun K2 hK2 hX2 => ?_
    simp +contextual (maxSteps := 2000000) (disch := first | omega | (simp only [SZ]; first | done | omega) | (simp only [TS] at *; omega)) only [RZ, ovw, oneC, reduceAdd, reduceMul, reduceSub, reduceEqDiff, reduceLT, ↓reduceIte, Int.reduceToNat, reduceLeDiff]
    refine hK2 _ _ ?_
    rw [W_ret]
    refine hX _ _ _ (fun h => by cases h) ?_
    have hf : rr = false := by rw [← hrr, hw]; rfl
    subst hf
    simp +contextual (maxSteps := 2000000) (disch := first | omega | (simp only [SZ]; first | done | omega) | (simp only [TS] at *; omega)) only [RZ, ovw, oneC, reduceAdd, reduceMul, reduceSub, reduceEqDiff, reduceLT, ↓reduceIte, Int.reduceToNat, reduceLeDiff]
    exact b0
  | true =>
  simp +contextual (maxSteps := 2000000) (disch := first | omega | (simp only [SZ]; first | done | omega) | (simp only [TS] at *; omega)) only [RZ, ovw, oneC, reduceAdd, reduceMul, reduceSub, reduceEqDiff, reduceLT, ↓reduceIte, Int.reduceToNat, reduceLeDiff,  c1]
  refine hK2 _ _ ?_
  clear hK2 hX2 K2
  have hkd : (!decide (G.n 0 = 1) && !decide (G.n 0 = 2)) = !(decide (G.n 0 = 1) || decide (G.n 0 = 2)) := by cases decide (G.n 0 = 1) <;> cases decide (G.n 0 = 2) <;> rfl
  rw [hkd]
  cases hk : decide (G.n 0 = 1) || decide (G.n 0 = 2) with
  | false =>
    refine W_if_t rfl ?_
    refine W_piece fun K2 hK2 hX2 => ?_
    simp +contextual (maxSteps := 2000000) (disch := first | omega | (simp only [SZ]; first | done | omega) | (simp only [TS] at *; omega)) only [RZ, ovw, oneC, reduceAdd, reduceMul, reduceSub, reduceEqDiff, reduceLT, ↓reduceIte, Int.reduceToNat, reduceLeDiff]
    refine hK2 _ _ ?_
    rw [W_ret]
    refine hX _ _ _ (fun h => by cases h) ?_
    have hf : rr = false := by rw [← hrr, hw, hk]; rfl
    subst hf
    simp +contextual (maxSteps := 2000000) (disch := first | omega | (simp only [SZ]; first | done | omega) | (simp only [TS] at *; omega)) only [RZ, ovw, oneC, reduceAdd, reduceMul, reduceSub, reduceEqDiff, reduceLT, ↓reduceIte, Int.reduceToNat, reduceLeDiff]
    exact b0
  | true =>
  refine W_if_f rfl ?_
  rw [W_skip]
  refine hK _ _ ?_
  clear hK hX K

  have d1 : w1.cell? ⟨w.heap.size, 2, none⟩ = some (.int .i64 (G.n 1)) := r0.cell (i := 2) rfl
  have d2 : w1.cell? ⟨w.heap.size, 3, none⟩ = some (.int .i64 (G.n 2)) := r0.cell (i := 3) rfl
  have d3 : w1.cell? ⟨w.heap.size, 4, none⟩ = some (.int .i64 (G.n 3)) := r0.cell (i := 4) rfl
  have d4 : w1.cell? ⟨w.heap.size, 5, none⟩ = some (.int .i64 (G.n 4)) := r0.cell (i := 5) rfl
  have d5 : w1.cell? ⟨w.heap.size, 6, none⟩ = some (.int .i64 (G.n 5)) := r0.cell (i := 6) rfl
  have d6 : w1.cell? ⟨w.heap.size, 7, none⟩ = some (.int .i64 (G.n 6)) := r0.cell (i := 7) rfl
  have d7 : w1.cell? ⟨w.heap.size, 8, none⟩ = some (.int .i64 (G.n 7)) := r0.cell (i := 8) rfl
  have d8 : w1.cell? ⟨w.heap.size, 9, none⟩ = some (.int .i64 (G.n 8)) := r0.cell (i := 9) rfl
  have d11 : w1.cell? ⟨w.heap.size, 12, none⟩ = some (.int .i64 (G.n 11)) := r0.cell (i := 12) rfl
  have d12 : w1.cell? ⟨w.heap.size, 13, none⟩ = some (.int .i64 (G.n 12)) := r0.cell (i := 13) rfl
  have d13 : w1.cell? ⟨w.heap.size, 14, none⟩ = some (.int .i64 (G.n 13)) := r0.cell (i := 14) rfl
  have d14 : w1.cell? ⟨w.heap.size, 15, none⟩ = some (.int .i64 (G.n 14)) := r0.cell (i := 15) rfl
  have d15 : w1.cell? ⟨w.heap.size, 16, none⟩ = some (.int .i64 (G.n 15)) := r0.cell (i := 16) rfl
  have d16 : w1.cell? ⟨w.heap.size, 17, none⟩ = some (.int .i64 (G.n 16)) := r0.cell (i := 17) rfl
  have d17 : w1.cell? ⟨w.heap.size, 18, none⟩ = some (.int .i64 (G.n 17)) := r0.cell (i := 18) rfl
  have d18 : w1.cell? ⟨w.heap.size, 19, none⟩ = some (.int .i64 (G.n 18)) := r0.cell (i := 19) rfl
  refine W_piece fun K hK hX => ?_
  refine W_piece fun K2 hK2 hX2 => ?_
  simp +contextual (maxSteps := 2000000) (disch := first | omega | (simp only [SZ]; first | done | omega) | (simp only [TS] at *; omega)) only [RZ, ovw, oneC, reduceAdd, reduceMul, reduceSub, reduceEqDiff, reduceLT, ↓reduceIte, Int.reduceToNat, reduceLeDiff,  d1, d2, d3, d4, d5, d6, d7, d8, d11, d12, d13, d14, d15, d16, d17, d18]
  have hb2 := b0.trans ((below_alloc w1 (.cells #[.int .i64 (G.n 1), .int .i64 (G.n 2), .int .i64 (G.n 3), .int .i64 (G.n 4), .int .i64 (G.n 5), .int .i64 (G.n 6), .int .i64 (G.n 7), .int .i64 (G.n 8), .int .i64 (G.n 11), .int .i64 (G.n 12), .int .i64 (G.n 13), .int .i64 (G.n 14), .int .i64 (G.n 15), .int .i64 (G.n 16), .int .i64 (G.n 17), .int .i64 (G.n 18)] 3)).mono hz0)
  have hl := arr_lit w1 (numsG G)
  have r2 := r0.alloc (.cells #[.int .i64 (G.n 1), .int .i64 (G.n 2), .int .i64 (G.n 3), .int .i64 (G.n 4), .int .i64 (G.n 5), .int .i64 (G.n 6), .int .i64 (G.n 7), .int .i64 (G.n 8), .int .i64 (G.n 11), .int .i64 (G.n 12), .int .i64 (G.n 13), .int .i64 (G.n 14), .int .i64 (G.n 15), .int .i64 (G.n 16), .int .i64 (G.n 17), .int .i64 (G.n 18)] 3)
  refine (rfine_any (numsG G) _ 16 _ hl (by simp [numsG])).mono ?_
  rintro e w2 ⟨rfl, hw2⟩
  refine ⟨_, rfl, ?_⟩
  change w1.alloc (.cells #[.int .i64 (G.n 1), .int .i64 (G.n 2), .int .i64 (G.n 3), .int .i64 (G.n 4), .int .i64 (G.n 5), .int .i64 (G.n 6), .int .i64 (G.n 7), .int .i64 (G.n 8), .int .i64 (G.n 11), .int .i64 (G.n 12), .int .i64 (G.n 13), .int .i64 (G.n 14), .int .i64 (G.n 15), .int .i64 (G.n 16), .int .i64 (G.n 17), .int .i64 (G.n 18)] 3) = w2 at hw2
  rw [hw2] at hb2 r2
  clear hw2 hl d1 d2 d3 d4 d5 d6 d7 d8 d11 d12 d13 d14 d15 d16 d17 d18
  simp +contextual (maxSteps := 2000000) (disch := first | omega | (simp only [SZ]; first | done | omega) | (simp only [TS] at *; omega)) only [RZ, ovw, oneC, reduceAdd, reduceMul, reduceSub, reduceEqDiff, reduceLT, ↓reduceIte, Int.reduceToNat, reduceLeDiff]
  refine hK2 _ _ ?_
  clear hK2 hX2 K2
  cases hnn : (numsG G).all fitB with
  | false =>
    refine W_if_t rfl ?_
    refine W_piece fun K2 hK2 hX2 => ?_
    simp +contextual (maxSteps := 2000000) (disch := first | omega | (simp only [SZ]; first | done | omega) | (simp only [TS] at *; omega)) only [RZ, ovw, oneC, reduceAdd, reduceMul, reduceSub, reduceEqDiff, reduceLT, ↓reduceIte, Int.reduceToNat, reduceLeDiff]
    refine hK2 _ _ ?_
    rw [W_ret]
    refine hX _ _ _ (fun h => by cases h) ?_
    have hf : rr = false := by rw [← hrr, hw, hk, hnn]; rfl
    subst hf
    simp +contextual (maxSteps := 2000000) (disch := first | omega | (simp only [SZ]; first | done | omega) | (simp only [TS] at *; omega)) only [RZ, ovw, oneC, reduceAdd, reduceMul, reduceSub, reduceEqDiff, reduceLT, ↓reduceIte, Int.reduceToNat, reduceLeDiff]
    exact hb2
  | true =>
  refine W_if_f rfl ?_
  rw [W_skip]
  refine hK _ _ ?_
  clear hK hX K
  have hz2 := hb2.size
  have d9 : w2.cell? ⟨w.heap.size, 10, none⟩ = some (.int .i64 (G.n 9)) := r2.cell (i := 10) rfl
  have d10 : w2.cell? ⟨w.heap.size, 11, none⟩ = some (.int .i64 (G.n 10)) := r2.cell (i := 11) rfl
  have hdc : ((((decide (G.n 9 < 0) || decide (127 < G.n 9)) || decide (G.n 10 < 0)) || decide (1439 < G.n 10)) || (decide (G.n 9 = 0) && !decide (G.n 10 = 0))) = !daysC G.n := by
    rw [Bool.eq_iff_iff]
    unfold daysC
    simp only [Bool.or_eq_true, Bool.and_eq_true, decide_eq_true_eq, Bool.not_eq_true', decide_eq_false_iff_not, Bool.and_eq_false_iff, Bool.or_eq_false_iff, Bool.not_eq_false']
    omega
  refine W_piece fun K hK hX => ?_
  refine W_piece fun K2 hK2 hX2 => ?_
  simp +contextual (maxSteps := 2000000) (disch := first | omega | (simp only [SZ]; first | done | omega) | (simp only [TS] at *; omega)) only [RZ, ovw, oneC, reduceAdd, reduceMul, reduceSub, reduceEqDiff, reduceLT, ↓reduceIte, Int.reduceToNat, reduceLeDiff,  d9, d10]
  refine hK2 _ _ ?_
  clear hK2 hX2 K2
  rw [hdc]
  cases hdd : daysC G.n with
  | false =>
    refine W_if_t rfl ?_
    refine W_piece fun K2 hK2 hX2 => ?_
    simp +contextual (maxSteps := 2000000) (disch := first | omega | (simp only [SZ]; first | done | omega) | (simp only [TS] at *; omega)) only [RZ, ovw, oneC, reduceAdd, reduceMul, reduceSub, reduceEqDiff, reduceLT, ↓reduceIte, Int.reduceToNat, reduceLeDiff]
    refine hK2 _ _ ?_
    rw [W_ret]
    refine hX _ _ _ (fun h => by cases h) ?_
    have hf : rr = false := by rw [← hrr, hw, hk, hnn, hdd]; rfl
    subst hf
    simp +contextual (maxSteps := 2000000) (disch := first | omega | (simp only [SZ]; first | done | omega) | (simp only [TS] at *; omega)) only [RZ, ovw, oneC, reduceAdd, reduceMul, reduceSub, reduceEqDiff, reduceLT, ↓reduceIte, Int.reduceToNat, reduceLeDiff]
    exact hb2
  | true =>
  refine W_if_f rfl ?_
  rw [W_skip]
  refine hK _ _ ?_
  clear hK hX K d9 d10 hdc
  rw [hw, hk, hnn, hdd] at hrr
  simp only [Bool.true_and] at hrr
  refine W_cutS (fun σ w3 => Below w2.heap.size w2 w3 ∧ G.addons.all Ad.fine = true ∧ σ 1 = .pointer (some ⟨w.heap.size, 0, none⟩)) ?_ ?_
  rotate_left
  · refine W_piece fun K hK hX => ?_
    simp +contextual (maxSteps := 2000000) (disch := first | omega | (simp only [SZ]; first | done | omega) | (simp only [TS] at *; omega)) only [RZ, ovw, oneC, reduceAdd, reduceMul, reduceSub, reduceEqDiff, reduceLT, ↓reduceIte, Int.reduceToNat, reduceLeDiff]
    refine hK _ _ ?_
    clear hK hX K
    rw [W_block, W_loop]
    refine Raw_loop (fun σ w3 => Below w2.heap.size w2 w3 ∧ ∃ k : Nat, k ≤ G.addons.length ∧ (∀ j a, j < k → G.addons[j]? = some a → a.fine = true) ∧ σ 1 = .pointer (some ⟨w.heap.size, 0, none⟩) ∧ σ 3 = .int .i64 k) (fun σ _ => G.addons.length - (intOf (σ 3)).toNat) ?_ ?_
    · exact ⟨Below.refl _ _, 0, Nat.zero_le _, fun j a hj => absurd hj (Nat.not_lt_zero _), rfl, rfl⟩
    rintro σ w3 ⟨hb3, k, hkl, hall, f1, f3⟩ K hK
    have r3 := r2.below hb3
    have hF3 := hb2.trans (hb3.mono hz2)
    have c20 : w3.cell? ⟨w.heap.size, 20, none⟩ = some (.slice Aa G.addons.length ca) := r3.cell (i := 20) rfl
    refine W_piece fun K1 hK1 hX1 => ?_
    refine W_piece fun K2 hK2 hX2 => ?_
    simp +contextual (maxSteps := 2000000) (disch := first | omega | (simp only [SZ]; first | done | omega) | (simp only [TS] at *; omega)) only [RZ, ovw, oneC, reduceAdd, reduceMul, reduceSub, reduceEqDiff, reduceLT, ↓reduceIte, Int.reduceToNat, reduceLeDiff,  f1, f3, c20]
    refine hK2 _ _ ?_
    clear hK2 hX2 K2
    (refine W_if rfl (fun hc => ?_) (fun hc => ?_) <;> (try simp only [TS] at hc))
    · have hkl2 : k < G.addons.length := by omega
      obtain ⟨a, ha⟩ : ∃ a, G.addons[k]? = some a := ⟨_, List.getElem?_eq_getElem hkl2⟩
      obtain ⟨cv1, hcv⟩ : ∃ c, Vs[k]? = some c := ⟨_, List.getElem?_eq_getElem (by rw [hads.1]; exact hkl2)⟩
      obtain ⟨vf, vs, rfl, hvf, hvs⟩ := hads.2 k _ a hcv ha
      obtain ⟨b2, o2, rfl, hbb2, hcell⟩ := (hAa.below hF3) (by rw [hads.1]; omega)
      have hla : vLoad Tryz.prog 45 (.pointer (some ⟨b2, o2 + k * 6, none⟩)) w3 = .ok (.value (.agg (encAd a vf vs).toArray)) w3 := vLoad_all (by kernel_rfl) (by show _ = some 6; kernel_rfl) (fun i v hv => hcell k _ hcv i v hv)
      obtain ⟨m1, m2, m3⟩ := hadl a (List.mem_of_getElem? ha)
      rw [W_skip]
      refine hK1 _ _ ?_
      clear hK1 hX1 K1
      refine W_piece fun K1 hK1 hX1 => ?_
      rw [W_block]
      refine W_piece fun K2 hK2 hX2 => ?_
      simp +contextual (maxSteps := 2000000) (disch := first | omega | (simp only [SZ]; first | done | omega) | (simp only [TS] at *; omega)) only [RZ, ovw, oneC, reduceAdd, reduceMul, reduceSub, reduceEqDiff, reduceLT, ↓reduceIte, Int.reduceToNat, reduceLeDiff,  f1, f3, c20, hla]
      refine (rfineAddon_any a vf vs w3 (hvf.below hF3) (hvs.below hF3) m1 m2 m3).mono ?_
      rintro e w4 ⟨hB4, rfl⟩
      refine ⟨_, rfl, ?_⟩
      try simp +contextual (maxSteps := 2000000) (disch := first | omega | (simp only [SZ]; first | done | omega) | (simp only [TS] at *; omega)) only [RZ, ovw, oneC, reduceAdd, reduceMul, reduceSub, reduceEqDiff, reduceLT, ↓reduceIte, Int.reduceToNat, reduceLeDiff]
      refine hK2 _ _ ?_
      clear hK2 hX2 K2
      have hF4 := hF3.trans (hB4.mono hF3.size)
      cases hfa : a.fine with
      | false =>
        refine W_if_t rfl ?_
        refine W_piece fun K2 hK2 hX2 => ?_
        simp +contextual (maxSteps := 2000000) (disch := first | omega | (simp only [SZ]; first | done | omega) | (simp only [TS] at *; omega)) only [RZ, ovw, oneC, reduceAdd, reduceMul, reduceSub, reduceEqDiff, reduceLT, ↓reduceIte, Int.reduceToNat, reduceLeDiff]
        refine hK2 _ _ ?_
        rw [W_ret, inX_ret]
        refine hX1 _ _ _ (fun h => by cases h) ?_
        have : rr = false := by
          rw [← hrr]
          have : G.addons.all Ad.fine = false := by
            rw [Bool.eq_false_iff]
            intro e
            have := List.all_eq_true.1 e a (List.mem_of_getElem? ha)
            rw [hfa] at this
            cases this
          rw [this]; rfl
        subst this
        simp +contextual (maxSteps := 2000000) (disch := first | omega | (simp only [SZ]; first | done | omega) | (simp only [TS] at *; omega)) only [RZ, ovw, oneC, reduceAdd, reduceMul, reduceSub, reduceEqDiff, reduceLT, ↓reduceIte, Int.reduceToNat, reduceLeDiff]
        exact hF4
      | true =>
        refine W_if_f rfl ?_
        rw [W_skip, inX_normal]
        refine hK1 _ _ ?_
        clear hK1 hX1 K1
        simp +contextual (maxSteps := 2000000) (disch := first | omega | (simp only [SZ]; first | done | omega) | (simp only [TS] at *; omega)) only [RZ, ovw, oneC, reduceAdd, reduceMul, reduceSub, reduceEqDiff, reduceLT, ↓reduceIte, Int.reduceToNat, reduceLeDiff,  f1, f3]
        refine hK _ _ ⟨hb3.trans (hB4.mono hb3.size), k + 1, by omega, fun j a' hj ha' => ?_, ?_⟩ ?_
        · by_cases hjk : j = k
          · subst hjk; rw [ha] at ha'; injection ha' with ha'; subst ha'; exact hfa
          · exact hall j a' (by omega) ha'
        · simp +contextual (maxSteps := 2000000) (disch := first | omega | (simp only [SZ]; first | done | omega) | (simp only [TS] at *; omega)) only [RZ, ovw, oneC, reduceAdd, reduceMul, reduceSub, reduceEqDiff, reduceLT, ↓reduceIte, Int.reduceToNat, reduceLeDiff,  f1, f3]
        · simp +contextual (maxSteps := 2000000) (disch := first | omega | (simp only [SZ]; first | done | omega) | (simp only [TS] at *; omega)) only [RZ, ovw, oneC, reduceAdd, reduceMul, reduceSub, reduceEqDiff, reduceLT, ↓reduceIte, Int.reduceToNat, reduceLeDiff,  intOf, f3]
          omega
    · have hkz : k = G.addons.length := by omega
      subst hkz
      simp +contextual (maxSteps := 2000000) (disch := first | omega | (simp only [SZ]; first | done | omega) | (simp only [TS] at *; omega)) only [RZ, ovw, oneC, reduceAdd, reduceMul, reduceSub, reduceEqDiff, reduceLT, ↓reduceIte, Int.reduceToNat, reduceLeDiff,  f1, f3]
      refine hX1 _ _ _ (fun h => by cases h) ?_
      simp +contextual (maxSteps := 2000000) (disch := first | omega | (simp only [SZ]; first | done | omega) | (simp only [TS] at *; omega)) only [RZ, ovw, oneC, reduceAdd, reduceMul, reduceSub, reduceEqDiff, reduceLT, ↓reduceIte, Int.reduceToNat, reduceLeDiff,  f1, f3]
      refine ⟨hb3, ?_⟩
      rw [List.all_eq_true]
      intro a ha
      obtain ⟨j, hj⟩ := List.mem_iff_getElem?.1 ha
      exact hall j a (List.getElem?_eq_some_iff.1 hj).1 hj
  rintro σ wa ⟨hba, hadf, f1⟩
  rw [hadf, Bool.true_and] at hrr
  have ra := r2.below hba
  have hFa := hb2.trans (hba.mono hz2)
  have hza := hFa.size
  refine W_cutS (fun σ w3 => Below wa.heap.size wa w3 ∧ G.tiers.all Ti.fine = true) ?_ ?_
  · rintro σ w3 ⟨hb3, hall⟩
    rw [hall] at hrr
    subst hrr
    simp +contextual (maxSteps := 2000000) (disch := first | omega | (simp only [SZ]; first | done | omega) | (simp only [TS] at *; omega)) only [RZ, ovw, oneC, reduceAdd, reduceMul, reduceSub, reduceEqDiff, reduceLT, ↓reduceIte, Int.reduceToNat, reduceLeDiff]
    exact hFa.trans (hb3.mono hza)
  · refine W_piece fun K hK hX => ?_
    simp +contextual (maxSteps := 2000000) (disch := first | omega | (simp only [SZ]; first | done | omega) | (simp only [TS] at *; omega)) only [RZ, ovw, oneC, reduceAdd, reduceMul, reduceSub, reduceEqDiff, reduceLT, ↓reduceIte, Int.reduceToNat, reduceLeDiff]
    refine hK _ _ ?_
    clear hK hX K
    rw [W_block, W_loop]
    refine Raw_loop (fun σ w3 => Below wa.heap.size wa w3 ∧ ∃ k : Nat, k ≤ G.tiers.length ∧ (∀ j a, j < k → G.tiers[j]? = some a → a.fine = true) ∧ σ 1 = .pointer (some ⟨w.heap.size, 0, none⟩) ∧ σ 4 = .int .i64 k) (fun σ _ => G.tiers.length - (intOf (σ 4)).toNat) ?_ ?_
    · refine ⟨Below.refl _ _, 0, Nat.zero_le _, fun j a hj => absurd hj (Nat.not_lt_zero _), ?_⟩
      simp +contextual (maxSteps := 2000000) (disch := first | omega | (simp only [SZ]; first | done | omega) | (simp only [TS] at *; omega)) only [RZ, ovw, oneC, reduceAdd, reduceMul, reduceSub, reduceEqDiff, reduceLT, ↓reduceIte, Int.reduceToNat, reduceLeDiff,  f1]
      rfl
    clear f1
    rintro σ w3 ⟨hb3, k, hkl, hall, f1, f4⟩ K hK
    have r3 := ra.below hb3
    have hF3 := hFa.trans (hb3.mono hza)
    have c21 : w3.cell? ⟨w.heap.size, 21, none⟩ = some (.slice At G.tiers.length ct) := r3.cell (i := 21) rfl
    refine W_piece fun K1 hK1 hX1 => ?_
    refine W_piece fun K2 hK2 hX2 => ?_
    simp +contextual (maxSteps := 2000000) (disch := first | omega | (simp only [SZ]; first | done | omega) | (simp only [TS] at *; omega)) only [RZ, ovw, oneC, reduceAdd, reduceMul, reduceSub, reduceEqDiff, reduceLT, ↓reduceIte, Int.reduceToNat, reduceLeDiff,  f1, f4, c21]
    refine hK2 _ _ ?_
    clear hK2 hX2 K2
    (refine W_if rfl (fun hc => ?_) (fun hc => ?_) <;> (try simp only [TS] at hc))
    · have hkl2 : k < G.tiers.length := by omega
      obtain ⟨a, ha⟩ : ∃ a, G.tiers[k]? = some a := ⟨_, List.getElem?_eq_getElem hkl2⟩
      obtain ⟨b2, o2, rfl, hbb2, hcell⟩ := (hAt.below hF3).at_ (enc := encTi) ha
      have hla : vLoad Tryz.prog 41 (.pointer (some ⟨b2, o2 + k * 6, none⟩)) w3 = .ok (.value (.agg (encTi a).toArray)) w3 := vLoad_all (by kernel_rfl) (by show _ = some 6; kernel_rfl) (fun i v hv => hcell i v hv)
      rw [W_skip]
      refine hK1 _ _ ?_
      clear hK1 hX1 K1
      refine W_piece fun K1 hK1 hX1 => ?_
      rw [W_block]
      refine W_piece fun K2 hK2 hX2 => ?_
      simp +contextual (maxSteps := 2000000) (disch := first | omega | (simp only [SZ]; first | done | omega) | (simp only [TS] at *; omega)) only [RZ, ovw, oneC, reduceAdd, reduceMul, reduceSub, reduceEqDiff, reduceLT, ↓reduceIte, Int.reduceToNat, reduceLeDiff,  f1, f4, c21, hla]
      refine (rfineTier_any a w3).mono ?_
      rintro e w4 ⟨hB4, rfl⟩
      refine ⟨_, rfl, ?_⟩
      try simp +contextual (maxSteps := 2000000) (disch := first | omega | (simp only [SZ]; first | done | omega) | (simp only [TS] at *; omega)) only [RZ, ovw, oneC, reduceAdd, reduceMul, reduceSub, reduceEqDiff, reduceLT, ↓reduceIte, Int.reduceToNat, reduceLeDiff]
      refine hK2 _ _ ?_
      clear hK2 hX2 K2
      have hF4 := hF3.trans (hB4.mono hF3.size)
      cases hfa : a.fine with
      | false =>
        refine W_if_t rfl ?_
        refine W_piece fun K2 hK2 hX2 => ?_
        simp +contextual (maxSteps := 2000000) (disch := first | omega | (simp only [SZ]; first | done | omega) | (simp only [TS] at *; omega)) only [RZ, ovw, oneC, reduceAdd, reduceMul, reduceSub, reduceEqDiff, reduceLT, ↓reduceIte, Int.reduceToNat, reduceLeDiff]
        refine hK2 _ _ ?_
        rw [W_ret, inX_ret]
        refine hX1 _ _ _ (fun h => by cases h) ?_
        have : rr = false := by
          rw [← hrr, Bool.eq_false_iff]
          intro e
          have := List.all_eq_true.1 e a (List.mem_of_getElem? ha)
          rw [hfa] at this
          cases this
        subst this
        simp +contextual (maxSteps := 2000000) (disch := first | omega | (simp only [SZ]; first | done | omega) | (simp only [TS] at *; omega)) only [RZ, ovw, oneC, reduceAdd, reduceMul, reduceSub, reduceEqDiff, reduceLT, ↓reduceIte, Int.reduceToNat, reduceLeDiff]
        exact hF4
      | true =>
        refine W_if_f rfl ?_
        rw [W_skip, inX_normal]
        refine hK1 _ _ ?_
        clear hK1 hX1 K1
        simp +contextual (maxSteps := 2000000) (disch := first | omega | (simp only [SZ]; first | done | omega) | (simp only [TS] at *; omega)) only [RZ, ovw, oneC, reduceAdd, reduceMul, reduceSub, reduceEqDiff, reduceLT, ↓reduceIte, Int.reduceToNat, reduceLeDiff,  f1, f4]
        refine hK _ _ ⟨hb3.trans (hB4.mono hb3.size), k + 1, by omega, fun j a' hj ha' => ?_, ?_⟩ ?_
        · by_cases hjk : j = k
          · subst hjk; rw [ha] at ha'; injection ha' with ha'; subst ha'; exact hfa
          · exact hall j a' (by omega) ha'
        · simp +contextual (maxSteps := 2000000) (disch := first | omega | (simp only [SZ]; first | done | omega) | (simp only [TS] at *; omega)) only [RZ, ovw, oneC, reduceAdd, reduceMul, reduceSub, reduceEqDiff, reduceLT, ↓reduceIte, Int.reduceToNat, reduceLeDiff,  f1, f4]
        · simp +contextual (maxSteps := 2000000) (disch := first | omega | (simp only [SZ]; first | done | omega) | (simp only [TS] at *; omega)) only [RZ, ovw, oneC, reduceAdd, reduceMul, reduceSub, reduceEqDiff, reduceLT, ↓reduceIte, Int.reduceToNat, reduceLeDiff,  intOf, f4]
          omega
    · have hkz : k = G.tiers.length := by omega
      subst hkz
      simp +contextual (maxSteps := 2000000) (disch := first | omega | (simp only [SZ]; first | done | omega) | (simp only [TS] at *; omega)) only [RZ, ovw, oneC, reduceAdd, reduceMul, reduceSub, reduceEqDiff, reduceLT, ↓reduceIte, Int.reduceToNat, reduceLeDiff,  f1, f4]
      refine hX1 _ _ _ (fun h => by cases h) ?_
      simp +contextual (maxSteps := 2000000) (disch := first | omega | (simp only [SZ]; first | done | omega) | (simp only [TS] at *; omega)) only [RZ, ovw, oneC, reduceAdd, reduceMul, reduceSub, reduceEqDiff, reduceLT, ↓reduceIte, Int.reduceToNat, reduceLeDiff,  f1, f4]
      refine ⟨hb3, ?_⟩
      rw [List.all_eq_true]
      intro a ha
      obtain ⟨j, hj⟩ := List.mem_iff_getElem?.1 ha
      exact hall j a (List.getElem?_eq_some_iff.1 hj).1 hj
end Go.Proofs.YtbdkggnajipdhaaGreatDoor
/- Walks: the reference's Print of a game. -/
namespace Go.Proofs.YtbdkggnajipdhaaGreatDoor
open Nat (reduceAdd reduceMul reduceSub reduceEqDiff reduceLT reduceLeDiff)
open Go.RowKit
set_option maxRecDepth 100000
def P0 (G : Gm) : List Nat := asc "game" ++ (32 :: bs G.name) ++ asc " {\n"
theorem ad_nums {a : Ad} (h : a.fine = true) : numR a.price ∧ numR a.digits ∧ (∀ n ∈ a.factors, numR n) ∧ ∀ n ∈ a.serials, numR n := by
  rw [adFine_is] at h
  simp only [Bool.and_eq_true, List.all_eq_true] at h
  obtain ⟨⟨⟨⟨_, p, d⟩, f⟩, s⟩, _⟩ := h
  exact ⟨fit_num p, fit_num d, fun n hn => fit_num (f n hn), fun n hn => fit_num (s n hn)⟩
theorem ti_nums {t : Ti} (h : t.fine = true) : numR t.main ∧ numR t.bonus ∧ numR t.extra ∧ numR t.value ∧ (0 ≤ t.mode ∧ t.mode ≤ 4) ∧ 1 ≤ t.kind ∧ t.kind ≤ 3 := by
  rw [tiFine_is] at h
  simp only [Bool.and_eq_true, decide_eq_true_eq] at h
  obtain ⟨⟨⟨⟨⟨m, b⟩, e⟩, v⟩, k⟩, md⟩ := h
  refine ⟨fit_num m, fit_num b, fit_num e, fit_num v, ?_, k⟩
  by_cases h0 : t.mode = 0
  · omega
  rw [if_neg h0] at md
  by_cases h1 : t.mode = 1 ∨ t.mode = 2
  · omega
  rw [if_neg h1] at md
  by_cases h3 : t.mode = 3 ∨ t.mode = 4
  · omega
  · rw [if_neg h3] at md; cases md
set_option maxHeartbeats 8000000 in
theorem rprint_any (G : Gm) (Va Vt : Value) (w : World) (hG : GmIn w Va Vt G) (hL : G.little) :
    Calls Tryz.prog 14 #[.agg (gmV G Va Vt).toArray] w fun e w' => e = .returned (.string (toBA (printG G))) ∧ Below w.heap.size w w' := by
  refine calls_W (l := [_]) Tryz.func14 rfl _ Tryz.ntmps14 (by simp) ?_
  have hGi := hG
  have hLi := hL
  obtain ⟨hnl, hal, htl, hadl⟩ := hL
  obtain ⟨⟨Aa, ca, Vs, rfl, hAa, hads⟩, At, ct, rfl, hAt⟩ := hG
  generalize hrr : printG G = rr
  rw [printG_is] at hrr
  have r0 := Row.new w 26 (gmV G (.slice Aa G.addons.length ca) (.slice At G.tiers.length ct))
  have b0 := below_alloc w (.cells (gmV G (.slice Aa G.addons.length ca) (.slice At G.tiers.length ct)).toArray 26)
  refine W_piece fun K hK hX => ?_
  simp +contextual (maxSteps := 2000000) (disch := first | omega | (simp only [SZ]; first | done | omega) | (simp only [TS] at *; omega)) only [RZ, ovw, oneC, reduceAdd, reduceMul, reduceSub, reduceEqDiff, reduceLT, ↓reduceIte, Int.reduceToNat, reduceLeDiff]
  refine hK _ _ ?_
  clear hK hX K
  generalize w.alloc (.cells (gmV G (.slice Aa G.addons.length ca) (.slice At G.tiers.length ct)).toArray 26) = w1 at r0 b0 ⊢
  have hz0 := b0.size
  have hld : ∀ {wi : World}, Row wi w.heap.size 26 (gmV G (.slice Aa G.addons.length ca) (.slice At G.tiers.length ct)) → vLoad Tryz.prog 26 (.pointer (some ⟨w.heap.size, 0, none⟩)) wi = .ok (.value (.agg (gmV G (.slice Aa G.addons.length ca) (.slice At G.tiers.length ct)).toArray)) wi := fun {wi} h =>
    vLoad_all (by kernel_rfl) (by rw [gmV_len]; kernel_rfl) (fun i v hv => by rw [Nat.zero_add]; exact h.cell hv)
  have l1 := hld r0
  refine W_piece fun K hK hX => ?_
  refine W_piece fun K2 hK2 hX2 => ?_
  simp +contextual (maxSteps := 2000000) (disch := first | omega | (simp only [SZ]; first | done | omega) | (simp only [TS] at *; omega)) only [RZ, ovw, oneC, reduceAdd, reduceMul, reduceSub, reduceEqDiff, reduceLT, ↓reduceIte, Int.reduceToNat, reduceLeDiff,  l1]
  refine (rPrintable_any G _ _ w1 (hGi.below b0) hLi).mono ?_
  rintro e w2 ⟨hB2, rfl⟩
  refine ⟨_, rfl, ?_⟩
  try simp +contextual (maxSteps := 2000000) (disch := first | omega | (simp only [SZ]; first | done | omega) | (simp only [TS] at *; omega)) only [RZ, ovw, oneC, reduceAdd, reduceMul, reduceSub, reduceEqDiff, reduceLT, ↓reduceIte, Int.reduceToNat, reduceLeDiff]
  refine hK2 _ _ ?_
  clear hK2 hX2 K2 l1
  have hF2 := b0.trans (hB2.mono hz0)
  have hz2 := hF2.size
  have r2 := r0.below hB2
  cases hfine : fineG G with
  | false =>
    rw [if_neg (by rw [hfine]; simp)] at hrr
    subst hrr
    refine W_if_t rfl ?_
    refine W_piece fun K2 hK2 hX2 => ?_
    simp +contextual (maxSteps := 2000000) (disch := first | omega | (simp only [SZ]; first | done | omega) | (simp only [TS] at *; omega)) only [RZ, ovw, oneC, reduceAdd, reduceMul, reduceSub, reduceEqDiff, reduceLT, ↓reduceIte, Int.reduceToNat, reduceLeDiff]
    refine hK2 _ _ ?_
    rw [W_ret]
    refine hX _ _ _ (fun h => by cases h) ?_
    simp +contextual (maxSteps := 2000000) (disch := first | omega | (simp only [SZ]; first | done | omega) | (simp only [TS] at *; omega)) only [RZ, ovw, oneC, reduceAdd, reduceMul, reduceSub, reduceEqDiff, reduceLT, ↓reduceIte, Int.reduceToNat, reduceLeDiff]
    exact ⟨rfl, hF2⟩
  | true =>
  refine W_if_f rfl ?_
  rw [W_skip]
  refine hK _ _ ?_
  clear hK hX K
  have hff := hfine
  rw [fineG_is] at hff
  simp only [Bool.and_eq_true, List.all_eq_true, Bool.or_eq_true, decide_eq_true_eq] at hff
  obtain ⟨⟨⟨⟨⟨hwd, hk⟩, hnn⟩, hdc⟩, hadf⟩, htif⟩ := hff
  have hdc' := hdc
  unfold daysC at hdc'
  simp only [Bool.and_eq_true, decide_eq_true_eq] at hdc'
  have hnm : ∀ n ∈ numsG G, numR n := fun n hn => fit_num (hnn n hn)
  unfold numsG at hnm
  simp only [List.mem_cons, List.not_mem_nil, or_false, forall_eq_or_imp, forall_eq] at hnm
  obtain ⟨m1, m2, m3, m4, m5, m6, m7, m8, m11, m12, m13, m14, m15, m16, m17, m18⟩ := hnm
  have c0 : w2.cell? ⟨w.heap.size, 0, none⟩ = some (.string G.name) := r2.cell (i := 0) rfl
  refine W_piece fun K hK hX => ?_
  simp +contextual (maxSteps := 2000000) (disch := first | omega | (simp only [SZ]; first | done | omega) | (simp only [TS] at *; omega)) only [RZ, ovw, oneC, reduceAdd, reduceMul, reduceSub, reduceEqDiff, reduceLT, ↓reduceIte, Int.reduceToNat, reduceLeDiff,  c0]
  refine hK _ _ ?_
  clear hK hX K
  have hp0 : bs (⟨#[103, 97, 109, 101, 32]⟩ ++ G.name ++ ⟨#[32, 123, 10]⟩) = P0 G := by
    unfold P0
    rw [show asc "game" = [103, 97, 109, 101] by decide +kernel, show asc " {\n" = [32, 123, 10] by decide +kernel]
    simp only [bs_append, show bs ⟨#[103, 97, 109, 101, 32]⟩ = [103, 97, 109, 101, 32] by decide +kernel, show bs ⟨#[32, 123, 10]⟩ = [32, 123, 10] by decide +kernel]
    simp
  have hs0 : ((⟨#[103, 97, 109, 101, 32]⟩ : ByteArray) ++ G.name ++ ⟨#[32, 123, 10]⟩).size ≤ 1000010 := by simp only [SZ]; omega
  generalize (⟨#[103, 97, 109, 101, 32]⟩ : ByteArray) ++ G.name ++ ⟨#[32, 123, 10]⟩ = rA at hp0 hs0 ⊢
  refine W_cutS (fun σ w3 => Below w2.heap.size w2 w3 ∧ ∃ r, σ 1 = .pointer (some ⟨w.heap.size, 0, none⟩) ∧ σ 3 = .string r ∧ bs r = P0 G ++ lineG (.two (if G.n 0 = 1 then asc "choose" else asc "digits") (G.n 2) (G.n 3)) ∧ r.size ≤ 1000100) ?_ ?_
  rotate_left
  · have c1 : w2.cell? ⟨w.heap.size, 1, none⟩ = some (.int .i64 (G.n 0)) := r2.cell (i := 1) rfl
    have c3 : w2.cell? ⟨w.heap.size, 3, none⟩ = some (.int .i64 (G.n 2)) := r2.cell (i := 3) rfl
    have c4 : w2.cell? ⟨w.heap.size, 4, none⟩ = some (.int .i64 (G.n 3)) := r2.cell (i := 4) rfl
    refine W_piece fun K hK hX => ?_
    simp +contextual (maxSteps := 2000000) (disch := first | omega | (simp only [SZ]; first | done | omega) | (simp only [TS] at *; omega)) only [RZ, ovw, oneC, reduceAdd, reduceMul, reduceSub, reduceEqDiff, reduceLT, ↓reduceIte, Int.reduceToNat, reduceLeDiff,  c1]
    refine hK _ _ ?_
    clear hK hX K
    by_cases k1 : G.n 0 = 1
    · rw [show decide (G.n 0 = 1) = true by simp [k1], if_pos k1]
      refine W_if_t rfl ?_
      simp +contextual (maxSteps := 2000000) (disch := first | omega | (simp only [SZ]; first | done | omega) | (simp only [TS] at *; omega)) only [RZ, ovw, oneC, reduceAdd, reduceMul, reduceSub, reduceEqDiff, reduceLT, ↓reduceIte, Int.reduceToNat, reduceLeDiff,  c3, c4]
      refine (rof_any ⟨#[99, 104, 111, 111, 115, 101]⟩ (G.n 2) (G.n 3) w2 (by decide) m2 m3).mono ?_
      rintro e w3 ⟨hB3, r1, rfl, hr1, hs1⟩
      refine ⟨_, rfl, ?_⟩
      rw [show bs ⟨#[99, 104, 111, 111, 115, 101]⟩ = asc "choose" by decide +kernel] at hr1
      rw [show (⟨#[99, 104, 111, 111, 115, 101]⟩ : ByteArray).size = 6 from rfl] at hs1
      simp +contextual (maxSteps := 2000000) (disch := first | omega | (simp only [SZ]; first | done | omega) | (simp only [TS] at *; omega)) only [RZ, ovw, oneC, reduceAdd, reduceMul, reduceSub, reduceEqDiff, reduceLT, ↓reduceIte, Int.reduceToNat, reduceLeDiff]
      refine ⟨hB3, _, rfl, ?_, ?_⟩
      · rw [bs_append, hp0, hr1]
      · simp only [SZ]; omega
    · rw [show decide (G.n 0 = 1) = false by simp [k1], if_neg k1]
      refine W_if_f rfl ?_
      simp +contextual (maxSteps := 2000000) (disch := first | omega | (simp only [SZ]; first | done | omega) | (simp only [TS] at *; omega)) only [RZ, ovw, oneC, reduceAdd, reduceMul, reduceSub, reduceEqDiff, reduceLT, ↓reduceIte, Int.reduceToNat, reduceLeDiff,  c3, c4]
      refine (rof_any ⟨#[100, 105, 103, 105, 116, 115]⟩ (G.n 2) (G.n 3) w2 (by decide) m2 m3).mono ?_
      rintro e w3 ⟨hB3, r1, rfl, hr1, hs1⟩
      refine ⟨_, rfl, ?_⟩
      rw [show bs ⟨#[100, 105, 103, 105, 116, 115]⟩ = asc "digits" by decide +kernel] at hr1
      rw [show (⟨#[100, 105, 103, 105, 116, 115]⟩ : ByteArray).size = 6 from rfl] at hs1
      simp +contextual (maxSteps := 2000000) (disch := first | omega | (simp only [SZ]; first | done | omega) | (simp only [TS] at *; omega)) only [RZ, ovw, oneC, reduceAdd, reduceMul, reduceSub, reduceEqDiff, reduceLT, ↓reduceIte, Int.reduceToNat, reduceLeDiff]
      refine ⟨hB3, _, rfl, ?_, ?_⟩
      · rw [bs_append, hp0, hr1]
      · simp only [SZ]; omega
  rintro σ w3 ⟨hB3, rB, f1, f3, hpB, hsB⟩
  have hF3 := hF2.trans (hB3.mono hz2)
  have hz3 := hF3.size
  have r3 := r2.below hB3
  refine W_cutS (fun σ w4 => Below w3.heap.size w3 w4 ∧ ∃ r, σ 1 = .pointer (some ⟨w.heap.size, 0, none⟩) ∧ σ 3 = .string r ∧ bs r = bs rB ++ (bonusI G.n).flatMap lineG ∧ r.size ≤ 1000200) ?_ ?_
  rotate_left
  · have c5 : w3.cell? ⟨w.heap.size, 5, none⟩ = some (.int .i64 (G.n 4)) := r3.cell (i := 5) rfl
    have c6 : w3.cell? ⟨w.heap.size, 6, none⟩ = some (.int .i64 (G.n 5)) := r3.cell (i := 6) rfl
    refine W_piece fun K hK hX => ?_
    simp +contextual (maxSteps := 2000000) (disch := first | omega | (simp only [SZ]; first | done | omega) | (simp only [TS] at *; omega)) only [RZ, ovw, oneC, reduceAdd, reduceMul, reduceSub, reduceEqDiff, reduceLT, ↓reduceIte, Int.reduceToNat, reduceLeDiff,  f1, f3, c5, c6]
    refine hK _ _ ?_
    clear hK hX K
    unfold bonusI
    by_cases hc : G.n 4 ≠ 0 ∨ G.n 5 ≠ 0
    · rw [if_pos hc]
      refine W_if_t (by show Value.bool (!decide (G.n 4 = 0) || !decide (G.n 5 = 0)) = .bool true; rw [show (!decide (G.n 4 = 0) || !decide (G.n 5 = 0)) = true by simpa [Decidable.not_and_iff_not_or_not] using hc]) ?_
      simp +contextual (maxSteps := 2000000) (disch := first | omega | (simp only [SZ]; first | done | omega) | (simp only [TS] at *; omega)) only [RZ, ovw, oneC, reduceAdd, reduceMul, reduceSub, reduceEqDiff, reduceLT, ↓reduceIte, Int.reduceToNat, reduceLeDiff,  f1, f3, c5, c6]
      refine (rof_any ⟨#[98, 111, 110, 117, 115]⟩ (G.n 4) (G.n 5) w3 (by decide) m4 m5).mono ?_
      rintro e w4 ⟨hB4, r1, rfl, hr1, hs1⟩
      refine ⟨_, rfl, ?_⟩
      rw [show bs ⟨#[98, 111, 110, 117, 115]⟩ = asc "bonus" by decide +kernel] at hr1
      rw [show (⟨#[98, 111, 110, 117, 115]⟩ : ByteArray).size = 5 from rfl] at hs1
      simp +contextual (maxSteps := 2000000) (disch := first | omega | (simp only [SZ]; first | done | omega) | (simp only [TS] at *; omega)) only [RZ, ovw, oneC, reduceAdd, reduceMul, reduceSub, reduceEqDiff, reduceLT, ↓reduceIte, Int.reduceToNat, reduceLeDiff,  f1, f3]
      refine ⟨hB4, _, rfl, ?_, ?_⟩
      · rw [bs_append, hr1]; simp
      · simp only [SZ]; omega
    · rw [if_neg hc]
      refine W_if_f (by show Value.bool (!decide (G.n 4 = 0) || !decide (G.n 5 = 0)) = .bool false; rw [show (!decide (G.n 4 = 0) || !decide (G.n 5 = 0)) = false by simpa using hc]) ?_
      simp +contextual (maxSteps := 2000000) (disch := first | omega | (simp only [SZ]; first | done | omega) | (simp only [TS] at *; omega)) only [RZ, ovw, oneC, reduceAdd, reduceMul, reduceSub, reduceEqDiff, reduceLT, ↓reduceIte, Int.reduceToNat, reduceLeDiff,  f1, f3]
      refine ⟨Below.refl _ _, rB, rfl, by simp, by omega⟩
  clear f1 f3
  rintro σ w4 ⟨hB4, rC, f1, f3, hpC, hsC⟩
  have hF4 := hF3.trans (hB4.mono hz3)
  have hz4 := hF4.size
  have r4 := r3.below hB4
  refine W_cutS (fun σ wn => Below w4.heap.size w4 wn ∧ ∃ r, σ 1 = .pointer (some ⟨w.heap.size, 0, none⟩) ∧ σ 3 = .string r ∧ bs r = bs rC ++ ((optI (asc "extra") (G.n 6) 0).flatMap lineG ++ (optI (asc "price") (G.n 1) 0).flatMap lineG ++ (optI (asc "draws") (G.n 7) 1).flatMap lineG ++ (optI (asc "system") (G.n 8) (G.n 2)).flatMap lineG ++ (daysI G.n).flatMap lineG) ∧ r.size ≤ 1002000) ?_ ?_
  rotate_left
  · have r4' := r4
    rw [W_draw]
    have hJ0 : Below w4.heap.size w4 w4.drew := below_drew (Below.refl _ _)
    refine Raw_ord (fun w' => Below w4.heap.size w4 w') 23 rfl MX ?_
    refine Ord_reads (τ := ?t00) [0, 1, 2, 5, 6, 9, 10, 13, 14, 15, 16, 19] 11 rfl (by kernel_rfl) (by kernel_rfl) (fun _ _ _ h => h) hJ0 (fun w7 h7 => ?_) ?_; rotate_left
    · have r7 := r4.below h7
      have x7 : w7.cell? ⟨w.heap.size, 7, none⟩ = some (.int .i64 (G.n 6)) := r7.cell (i := 7) rfl
      have x2 : w7.cell? ⟨w.heap.size, 2, none⟩ = some (.int .i64 (G.n 1)) := r7.cell (i := 2) rfl
      have x8 : w7.cell? ⟨w.heap.size, 8, none⟩ = some (.int .i64 (G.n 7)) := r7.cell (i := 8) rfl
      have x9 : w7.cell? ⟨w.heap.size, 9, none⟩ = some (.int .i64 (G.n 8)) := r7.cell (i := 9) rfl
      have x3 : w7.cell? ⟨w.heap.size, 3, none⟩ = some (.int .i64 (G.n 2)) := r7.cell (i := 3) rfl
      have lg := hld r7
      simp only [opsL_cons, opsL_nil, List.getElem?_toArray, List.getElem?_cons_zero, List.getElem?_cons_succ, optL_some]
      simp +contextual (maxSteps := 2000000) (disch := first | omega | (simp only [SZ]; first | done | omega) | (simp only [TS] at *; omega)) only [RZ, ovw, oneC, reduceAdd, reduceMul, reduceSub, reduceEqDiff, reduceLT, ↓reduceIte, Int.reduceToNat, reduceLeDiff,  f1, f3, x7, x2, x8, x9, x3, lg]
      exact rfl
    refine Ord_one 3 (by kernel_rfl) rfl ?_
    simp +contextual (maxSteps := 2000000) (disch := first | omega | (simp only [SZ]; first | done | omega) | (simp only [TS] at *; omega)) only [RZ, ovw, oneC, reduceAdd, reduceMul, reduceSub, reduceEqDiff, reduceLT, ↓reduceIte, Int.reduceToNat, reduceLeDiff]
    refine (rput_any ⟨#[101, 120, 116, 114, 97]⟩ (G.n 6) 0 (w4.drew) (by decide) m6).mono ?_
    rintro e u1 ⟨hB1, p0, rfl, hp0, hq0⟩
    refine ⟨_, rfl, ?_⟩
    have hJ1 := hJ0.trans hB1
    have hz1 := hJ1.size
    rw [show bs ⟨#[101, 120, 116, 114, 97]⟩ = asc "extra" by decide +kernel] at hp0
    rw [show (⟨#[101, 120, 116, 114, 97]⟩ : ByteArray).size = 5 from rfl] at hq0
    refine ⟨hJ1, ?_⟩
    refine Ord_reads (τ := ?t01) [4] 9 rfl (by kernel_rfl) (by kernel_rfl) (fun _ _ _ h => h) hJ1 (fun w7 h7 => ?_) ?_; rotate_left
    · simp only [opsL_cons, opsL_nil, List.getElem?_toArray, List.getElem?_cons_zero, List.getElem?_cons_succ, optL_some]
      simp +contextual (maxSteps := 2000000) (disch := first | omega | (simp only [SZ]; first | done | omega) | (simp only [TS] at *; omega)) only [RZ, ovw, oneC, reduceAdd, reduceMul, reduceSub, reduceEqDiff, reduceLT, ↓reduceIte, Int.reduceToNat, reduceLeDiff]
      exact rfl
    refine Ord_one 7 (by kernel_rfl) rfl ?_
    simp +contextual (maxSteps := 2000000) (disch := first | omega | (simp only [SZ]; first | done | omega) | (simp only [TS] at *; omega)) only [RZ, ovw, oneC, reduceAdd, reduceMul, reduceSub, reduceEqDiff, reduceLT, ↓reduceIte, Int.reduceToNat, reduceLeDiff]
    refine (rput_any ⟨#[112, 114, 105, 99, 101]⟩ (G.n 1) 0 (u1) (by decide) m1).mono ?_
    rintro e u2 ⟨hB2, p1, rfl, hp1, hq1⟩
    refine ⟨_, rfl, ?_⟩
    have hJ2 := hJ1.trans (hB2.mono hz1)
    have hz2 := hJ2.size
    rw [show bs ⟨#[112, 114, 105, 99, 101]⟩ = asc "price" by decide +kernel] at hp1
    rw [show (⟨#[112, 114, 105, 99, 101]⟩ : ByteArray).size = 5 from rfl] at hq1
    refine ⟨hJ2, ?_⟩
    refine Ord_reads (τ := ?t02) [8] 7 rfl (by kernel_rfl) (by kernel_rfl) (fun _ _ _ h => h) hJ2 (fun w7 h7 => ?_) ?_; rotate_left
    · simp only [opsL_cons, opsL_nil, List.getElem?_toArray, List.getElem?_cons_zero, List.getElem?_cons_succ, optL_some]
      simp +contextual (maxSteps := 2000000) (disch := first | omega | (simp only [SZ]; first | done | omega) | (simp only [TS] at *; omega)) only [RZ, ovw, oneC, reduceAdd, reduceMul, reduceSub, reduceEqDiff, reduceLT, ↓reduceIte, Int.reduceToNat, reduceLeDiff]
      exact rfl
    refine Ord_one 11 (by kernel_rfl) rfl ?_
    simp +contextual (maxSteps := 2000000) (disch := first | omega | (simp only [SZ]; first | done | omega) | (simp only [TS] at *; omega)) only [RZ, ovw, oneC, reduceAdd, reduceMul, reduceSub, reduceEqDiff, reduceLT, ↓reduceIte, Int.reduceToNat, reduceLeDiff]
    refine (rput_any ⟨#[100, 114, 97, 119, 115]⟩ (G.n 7) 1 (u2) (by decide) m7).mono ?_
    rintro e u3 ⟨hB3, p2, rfl, hp2, hq2⟩
    refine ⟨_, rfl, ?_⟩
    have hJ3 := hJ2.trans (hB3.mono hz2)
    have hz3 := hJ3.size
    rw [show bs ⟨#[100, 114, 97, 119, 115]⟩ = asc "draws" by decide +kernel] at hp2
    rw [show (⟨#[100, 114, 97, 119, 115]⟩ : ByteArray).size = 5 from rfl] at hq2
    refine ⟨hJ3, ?_⟩
    refine Ord_reads (τ := ?t03) [12] 5 rfl (by kernel_rfl) (by kernel_rfl) (fun _ _ _ h => h) hJ3 (fun w7 h7 => ?_) ?_; rotate_left
    · simp only [opsL_cons, opsL_nil, List.getElem?_toArray, List.getElem?_cons_zero, List.getElem?_cons_succ, optL_some]
      simp +contextual (maxSteps := 2000000) (disch := first | omega | (simp only [SZ]; first | done | omega) | (simp only [TS] at *; omega)) only [RZ, ovw, oneC, reduceAdd, reduceMul, reduceSub, reduceEqDiff, reduceLT, ↓reduceIte, Int.reduceToNat, reduceLeDiff]
      exact rfl
    refine Ord_one 17 (by kernel_rfl) rfl ?_
    simp +contextual (maxSteps := 2000000) (disch := first | omega | (simp only [SZ]; first | done | omega) | (simp only [TS] at *; omega)) only [RZ, ovw, oneC, reduceAdd, reduceMul, reduceSub, reduceEqDiff, reduceLT, ↓reduceIte, Int.reduceToNat, reduceLeDiff]
    refine (rput_any ⟨#[115, 121, 115, 116, 101, 109]⟩ (G.n 8) (G.n 2) (u3) (by decide) m8).mono ?_
    rintro e u4 ⟨hB4, p3, rfl, hp3, hq3⟩
    refine ⟨_, rfl, ?_⟩
    have hJ4 := hJ3.trans (hB4.mono hz3)
    have hz4 := hJ4.size
    rw [show bs ⟨#[115, 121, 115, 116, 101, 109]⟩ = asc "system" by decide +kernel] at hp3
    rw [show (⟨#[115, 121, 115, 116, 101, 109]⟩ : ByteArray).size = 6 from rfl] at hq3
    refine ⟨hJ4, ?_⟩
    refine Ord_reads (τ := ?t04) [18] 3 rfl (by kernel_rfl) (by kernel_rfl) (fun _ _ _ h => h) hJ4 (fun w7 h7 => ?_) ?_; rotate_left
    · simp only [opsL_cons, opsL_nil, List.getElem?_toArray, List.getElem?_cons_zero, List.getElem?_cons_succ, optL_some]
      simp +contextual (maxSteps := 2000000) (disch := first | omega | (simp only [SZ]; first | done | omega) | (simp only [TS] at *; omega)) only [RZ, ovw, oneC, reduceAdd, reduceMul, reduceSub, reduceEqDiff, reduceLT, ↓reduceIte, Int.reduceToNat, reduceLeDiff]
      exact rfl
    refine Ord_one 20 (by kernel_rfl) rfl ?_
    simp +contextual (maxSteps := 2000000) (disch := first | omega | (simp only [SZ]; first | done | omega) | (simp only [TS] at *; omega)) only [RZ, ovw, oneC, reduceAdd, reduceMul, reduceSub, reduceEqDiff, reduceLT, ↓reduceIte, Int.reduceToNat, reduceLeDiff]
    refine (rprintDays_any G _ _ (u4) hdc'.1.1.1.1 hdc'.1.1.1.2 hdc'.1.1.2 hdc'.1.2).mono ?_
    rintro e u5 ⟨hB5, pd, rfl, hpd, hqd⟩
    refine ⟨_, rfl, ?_⟩
    have hJ5 := hJ4.trans (hB5.mono hz4)
    have hz5 := hJ5.size
    refine ⟨hJ5, ?_⟩
    refine Ord_chainS _ [21, 22] _ _ _ (by kernel_rfl) ?_
    simp only [opsL_cons, opsL_nil, List.getElem?_toArray, List.getElem?_cons_zero, List.getElem?_cons_succ, optL_some]
    simp +contextual (maxSteps := 2000000) (disch := first | omega | (simp only [SZ]; first | done | omega) | (simp only [TS] at *; omega)) only [RZ, ovw, oneC, reduceAdd, reduceMul, reduceSub, reduceEqDiff, reduceLT, ↓reduceIte, Int.reduceToNat, reduceLeDiff,  EC_op, EC_nil, hJ5, f1, f3]
    refine ⟨_, rfl, ?_, ?_⟩
    · simp only [bs_append, hp0, hp1, hp2, hp3, hpd]
      simp only [List.append_assoc]
    · simp only [SZ]; omega
  clear f1 f3
  rintro σ w5 ⟨hB5, rD, f1, f3, hpD, hsD⟩
  have hF5 := hF4.trans (hB5.mono hz4)
  have hz5 := hF5.size
  have r5 := r4.below hB5
  refine W_cutS (fun σ wn => Below w5.heap.size w5 wn ∧ ∃ r, σ 1 = .pointer (some ⟨w.heap.size, 0, none⟩) ∧ σ 3 = .string r ∧ bs r = bs rD ++ ((optI (asc "close") (G.n 11) 0).flatMap lineG ++ (optI (asc "cancel") (G.n 12) 0).flatMap lineG ++ (optI (asc "expiry") (G.n 13) 0).flatMap lineG ++ (optI (asc "pool") (G.n 14) 0).flatMap lineG ++ (optI (asc "reserve") (G.n 15) 0).flatMap lineG) ∧ r.size ≤ 1003000) ?_ ?_
  rotate_left
  · have r5' := r5
    rw [W_draw]
    have hJ0 : Below w5.heap.size w5 w5.drew := below_drew (Below.refl _ _)
    refine Raw_ord (fun w' => Below w5.heap.size w5 w') 22 rfl MX ?_
    refine Ord_reads (τ := ?t10) [0, 1, 2, 5, 6, 9, 10, 13, 14, 17, 18] 11 rfl (by kernel_rfl) (by kernel_rfl) (fun _ _ _ h => h) hJ0 (fun w7 h7 => ?_) ?_; rotate_left
    · have r7 := r5.below h7
      have x12 : w7.cell? ⟨w.heap.size, 12, none⟩ = some (.int .i64 (G.n 11)) := r7.cell (i := 12) rfl
      have x13 : w7.cell? ⟨w.heap.size, 13, none⟩ = some (.int .i64 (G.n 12)) := r7.cell (i := 13) rfl
      have x14 : w7.cell? ⟨w.heap.size, 14, none⟩ = some (.int .i64 (G.n 13)) := r7.cell (i := 14) rfl
      have x15 : w7.cell? ⟨w.heap.size, 15, none⟩ = some (.int .i64 (G.n 14)) := r7.cell (i := 15) rfl
      have x16 : w7.cell? ⟨w.heap.size, 16, none⟩ = some (.int .i64 (G.n 15)) := r7.cell (i := 16) rfl
      simp only [opsL_cons, opsL_nil, List.getElem?_toArray, List.getElem?_cons_zero, List.getElem?_cons_succ, optL_some]
      simp +contextual (maxSteps := 2000000) (disch := first | omega | (simp only [SZ]; first | done | omega) | (simp only [TS] at *; omega)) only [RZ, ovw, oneC, reduceAdd, reduceMul, reduceSub, reduceEqDiff, reduceLT, ↓reduceIte, Int.reduceToNat, reduceLeDiff,  f1, f3, x12, x13, x14, x15, x16]
      exact rfl
    refine Ord_one 3 (by kernel_rfl) rfl ?_
    simp +contextual (maxSteps := 2000000) (disch := first | omega | (simp only [SZ]; first | done | omega) | (simp only [TS] at *; omega)) only [RZ, ovw, oneC, reduceAdd, reduceMul, reduceSub, reduceEqDiff, reduceLT, ↓reduceIte, Int.reduceToNat, reduceLeDiff]
    refine (rput_any ⟨#[99, 108, 111, 115, 101]⟩ (G.n 11) 0 (w5.drew) (by decide) m11).mono ?_
    rintro e u1 ⟨hB1, p0, rfl, hp0, hq0⟩
    refine ⟨_, rfl, ?_⟩
    have hJ1 := hJ0.trans hB1
    have hz1 := hJ1.size
    rw [show bs ⟨#[99, 108, 111, 115, 101]⟩ = asc "close" by decide +kernel] at hp0
    rw [show (⟨#[99, 108, 111, 115, 101]⟩ : ByteArray).size = 5 from rfl] at hq0
    refine ⟨hJ1, ?_⟩
    refine Ord_reads (τ := ?t11) [4] 9 rfl (by kernel_rfl) (by kernel_rfl) (fun _ _ _ h => h) hJ1 (fun w7 h7 => ?_) ?_; rotate_left
    · simp only [opsL_cons, opsL_nil, List.getElem?_toArray, List.getElem?_cons_zero, List.getElem?_cons_succ, optL_some]
      simp +contextual (maxSteps := 2000000) (disch := first | omega | (simp only [SZ]; first | done | omega) | (simp only [TS] at *; omega)) only [RZ, ovw, oneC, reduceAdd, reduceMul, reduceSub, reduceEqDiff, reduceLT, ↓reduceIte, Int.reduceToNat, reduceLeDiff]
      exact rfl
    refine Ord_one 7 (by kernel_rfl) rfl ?_
    simp +contextual (maxSteps := 2000000) (disch := first | omega | (simp only [SZ]; first | done | omega) | (simp only [TS] at *; omega)) only [RZ, ovw, oneC, reduceAdd, reduceMul, reduceSub, reduceEqDiff, reduceLT, ↓reduceIte, Int.reduceToNat, reduceLeDiff]
    refine (rput_any ⟨#[99, 97, 110, 99, 101, 108]⟩ (G.n 12) 0 (u1) (by decide) m12).mono ?_
    rintro e u2 ⟨hB2, p1, rfl, hp1, hq1⟩
    refine ⟨_, rfl, ?_⟩
    have hJ2 := hJ1.trans (hB2.mono hz1)
    have hz2 := hJ2.size
    rw [show bs ⟨#[99, 97, 110, 99, 101, 108]⟩ = asc "cancel" by decide +kernel] at hp1
    rw [show (⟨#[99, 97, 110, 99, 101, 108]⟩ : ByteArray).size = 6 from rfl] at hq1
    refine ⟨hJ2, ?_⟩
    refine Ord_reads (τ := ?t12) [8] 7 rfl (by kernel_rfl) (by kernel_rfl) (fun _ _ _ h => h) hJ2 (fun w7 h7 => ?_) ?_; rotate_left
    · simp only [opsL_cons, opsL_nil, List.getElem?_toArray, List.getElem?_cons_zero, List.getElem?_cons_succ, optL_some]
      simp +contextual (maxSteps := 2000000) (disch := first | omega | (simp only [SZ]; first | done | omega) | (simp only [TS] at *; omega)) only [RZ, ovw, oneC, reduceAdd, reduceMul, reduceSub, reduceEqDiff, reduceLT, ↓reduceIte, Int.reduceToNat, reduceLeDiff]
      exact rfl
    refine Ord_one 11 (by kernel_rfl) rfl ?_
    simp +contextual (maxSteps := 2000000) (disch := first | omega | (simp only [SZ]; first | done | omega) | (simp only [TS] at *; omega)) only [RZ, ovw, oneC, reduceAdd, reduceMul, reduceSub, reduceEqDiff, reduceLT, ↓reduceIte, Int.reduceToNat, reduceLeDiff]
    refine (rput_any ⟨#[101, 120, 112, 105, 114, 121]⟩ (G.n 13) 0 (u2) (by decide) m13).mono ?_
    rintro e u3 ⟨hB3, p2, rfl, hp2, hq2⟩
    refine ⟨_, rfl, ?_⟩
    have hJ3 := hJ2.trans (hB3.mono hz2)
    have hz3 := hJ3.size
    rw [show bs ⟨#[101, 120, 112, 105, 114, 121]⟩ = asc "expiry" by decide +kernel] at hp2
    rw [show (⟨#[101, 120, 112, 105, 114, 121]⟩ : ByteArray).size = 6 from rfl] at hq2
    refine ⟨hJ3, ?_⟩
    refine Ord_reads (τ := ?t13) [12] 5 rfl (by kernel_rfl) (by kernel_rfl) (fun _ _ _ h => h) hJ3 (fun w7 h7 => ?_) ?_; rotate_left
    · simp only [opsL_cons, opsL_nil, List.getElem?_toArray, List.getElem?_cons_zero, List.getElem?_cons_succ, optL_some]
      simp +contextual (maxSteps := 2000000) (disch := first | omega | (simp only [SZ]; first | done | omega) | (simp only [TS] at *; omega)) only [RZ, ovw, oneC, reduceAdd, reduceMul, reduceSub, reduceEqDiff, reduceLT, ↓reduceIte, Int.reduceToNat, reduceLeDiff]
      exact rfl
    refine Ord_one 15 (by kernel_rfl) rfl ?_
    simp +contextual (maxSteps := 2000000) (disch := first | omega | (simp only [SZ]; first | done | omega) | (simp only [TS] at *; omega)) only [RZ, ovw, oneC, reduceAdd, reduceMul, reduceSub, reduceEqDiff, reduceLT, ↓reduceIte, Int.reduceToNat, reduceLeDiff]
    refine (rput_any ⟨#[112, 111, 111, 108]⟩ (G.n 14) 0 (u3) (by decide) m14).mono ?_
    rintro e u4 ⟨hB4, p3, rfl, hp3, hq3⟩
    refine ⟨_, rfl, ?_⟩
    have hJ4 := hJ3.trans (hB4.mono hz3)
    have hz4 := hJ4.size
    rw [show bs ⟨#[112, 111, 111, 108]⟩ = asc "pool" by decide +kernel] at hp3
    rw [show (⟨#[112, 111, 111, 108]⟩ : ByteArray).size = 4 from rfl] at hq3
    refine ⟨hJ4, ?_⟩
    refine Ord_reads (τ := ?t14) [16] 3 rfl (by kernel_rfl) (by kernel_rfl) (fun _ _ _ h => h) hJ4 (fun w7 h7 => ?_) ?_; rotate_left
    · simp only [opsL_cons, opsL_nil, List.getElem?_toArray, List.getElem?_cons_zero, List.getElem?_cons_succ, optL_some]
      simp +contextual (maxSteps := 2000000) (disch := first | omega | (simp only [SZ]; first | done | omega) | (simp only [TS] at *; omega)) only [RZ, ovw, oneC, reduceAdd, reduceMul, reduceSub, reduceEqDiff, reduceLT, ↓reduceIte, Int.reduceToNat, reduceLeDiff]
      exact rfl
    refine Ord_one 19 (by kernel_rfl) rfl ?_
    simp +contextual (maxSteps := 2000000) (disch := first | omega | (simp only [SZ]; first | done | omega) | (simp only [TS] at *; omega)) only [RZ, ovw, oneC, reduceAdd, reduceMul, reduceSub, reduceEqDiff, reduceLT, ↓reduceIte, Int.reduceToNat, reduceLeDiff]
    refine (rput_any ⟨#[114, 101, 115, 101, 114, 118, 101]⟩ (G.n 15) 0 (u4) (by decide) m15).mono ?_
    rintro e u5 ⟨hB5, p4, rfl, hp4, hq4⟩
    refine ⟨_, rfl, ?_⟩
    have hJ5 := hJ4.trans (hB5.mono hz4)
    have hz5 := hJ5.size
    rw [show bs ⟨#[114, 101, 115, 101, 114, 118, 101]⟩ = asc "reserve" by decide +kernel] at hp4
    rw [show (⟨#[114, 101, 115, 101, 114, 118, 101]⟩ : ByteArray).size = 7 from rfl] at hq4
    refine ⟨hJ5, ?_⟩
    refine Ord_chainS _ [20, 21] _ _ _ (by kernel_rfl) ?_
    simp only [opsL_cons, opsL_nil, List.getElem?_toArray, List.getElem?_cons_zero, List.getElem?_cons_succ, optL_some]
    simp +contextual (maxSteps := 2000000) (disch := first | omega | (simp only [SZ]; first | done | omega) | (simp only [TS] at *; omega)) only [RZ, ovw, oneC, reduceAdd, reduceMul, reduceSub, reduceEqDiff, reduceLT, ↓reduceIte, Int.reduceToNat, reduceLeDiff,  EC_op, EC_nil, hJ5, f1, f3]
    refine ⟨_, rfl, ?_, ?_⟩
    · simp only [bs_append, hp0, hp1, hp2, hp3, hp4]
      simp only [List.append_assoc]
    · simp only [SZ]; omega
  clear f1 f3
  rintro σ w6 ⟨hB6, rE, f1, f3, hpE, hsE⟩
  have hF6 := hF5.trans (hB6.mono hz5)
  have hz6 := hF6.size
  have r6 := r5.below hB6
  refine W_cutS (fun σ wn => Below w6.heap.size w6 wn ∧ ∃ r, σ 1 = .pointer (some ⟨w.heap.size, 0, none⟩) ∧ σ 3 = .string r ∧ bs r = bs rE ++ ((optI (asc "round") (G.n 16) 1).flatMap lineG ++ (optI (asc "cap") (G.n 17) 0).flatMap lineG ++ (optI (asc "rolls") (G.n 18) 0).flatMap lineG) ∧ r.size ≤ 1004000) ?_ ?_
  rotate_left
  · have r6' := r6
    rw [W_draw]
    have hJ0 : Below w6.heap.size w6 w6.drew := below_drew (Below.refl _ _)
    refine Raw_ord (fun w' => Below w6.heap.size w6 w') 14 rfl MX ?_
    refine Ord_reads (τ := ?t20) [0, 1, 2, 5, 6, 9, 10] 7 rfl (by kernel_rfl) (by kernel_rfl) (fun _ _ _ h => h) hJ0 (fun w7 h7 => ?_) ?_; rotate_left
    · have r7 := r6.below h7
      have x17 : w7.cell? ⟨w.heap.size, 17, none⟩ = some (.int .i64 (G.n 16)) := r7.cell (i := 17) rfl
      have x18 : w7.cell? ⟨w.heap.size, 18, none⟩ = some (.int .i64 (G.n 17)) := r7.cell (i := 18) rfl
      have x19 : w7.cell? ⟨w.heap.size, 19, none⟩ = some (.int .i64 (G.n 18)) := r7.cell (i := 19) rfl
      simp only [opsL_cons, opsL_nil, List.getElem?_toArray, List.getElem?_cons_zero, List.getElem?_cons_succ, optL_some]
      simp +contextual (maxSteps := 2000000) (disch := first | omega | (simp only [SZ]; first | done | omega) | (simp only [TS] at *; omega)) only [RZ, ovw, oneC, reduceAdd, reduceMul, reduceSub, reduceEqDiff, reduceLT, ↓reduceIte, Int.reduceToNat, reduceLeDiff,  f1, f3, x17, x18, x19]
      exact rfl
    refine Ord_one 3 (by kernel_rfl) rfl ?_
    simp +contextual (maxSteps := 2000000) (disch := first | omega | (simp only [SZ]; first | done | omega) | (simp only [TS] at *; omega)) only [RZ, ovw, oneC, reduceAdd, reduceMul, reduceSub, reduceEqDiff, reduceLT, ↓reduceIte, Int.reduceToNat, reduceLeDiff]
    refine (rput_any ⟨#[114, 111, 117, 110, 100]⟩ (G.n 16) 1 (w6.drew) (by decide) m16).mono ?_
    rintro e u1 ⟨hB1, p0, rfl, hp0, hq0⟩
    refine ⟨_, rfl, ?_⟩
    have hJ1 := hJ0.trans hB1
    have hz1 := hJ1.size
    rw [show bs ⟨#[114, 111, 117, 110, 100]⟩ = asc "round" by decide +kernel] at hp0
    rw [show (⟨#[114, 111, 117, 110, 100]⟩ : ByteArray).size = 5 from rfl] at hq0
    refine ⟨hJ1, ?_⟩
    refine Ord_reads (τ := ?t21) [4] 5 rfl (by kernel_rfl) (by kernel_rfl) (fun _ _ _ h => h) hJ1 (fun w7 h7 => ?_) ?_; rotate_left
    · simp only [opsL_cons, opsL_nil, List.getElem?_toArray, List.getElem?_cons_zero, List.getElem?_cons_succ, optL_some]
      simp +contextual (maxSteps := 2000000) (disch := first | omega | (simp only [SZ]; first | done | omega) | (simp only [TS] at *; omega)) only [RZ, ovw, oneC, reduceAdd, reduceMul, reduceSub, reduceEqDiff, reduceLT, ↓reduceIte, Int.reduceToNat, reduceLeDiff]
      exact rfl
    refine Ord_one 7 (by kernel_rfl) rfl ?_
    simp +contextual (maxSteps := 2000000) (disch := first | omega | (simp only [SZ]; first | done | omega) | (simp only [TS] at *; omega)) only [RZ, ovw, oneC, reduceAdd, reduceMul, reduceSub, reduceEqDiff, reduceLT, ↓reduceIte, Int.reduceToNat, reduceLeDiff]
    refine (rput_any ⟨#[99, 97, 112]⟩ (G.n 17) 0 (u1) (by decide) m17).mono ?_
    rintro e u2 ⟨hB2, p1, rfl, hp1, hq1⟩
    refine ⟨_, rfl, ?_⟩
    have hJ2 := hJ1.trans (hB2.mono hz1)
    have hz2 := hJ2.size
    rw [show bs ⟨#[99, 97, 112]⟩ = asc "cap" by decide +kernel] at hp1
    rw [show (⟨#[99, 97, 112]⟩ : ByteArray).size = 3 from rfl] at hq1
    refine ⟨hJ2, ?_⟩
    refine Ord_reads (τ := ?t22) [8] 3 rfl (by kernel_rfl) (by kernel_rfl) (fun _ _ _ h => h) hJ2 (fun w7 h7 => ?_) ?_; rotate_left
    · simp only [opsL_cons, opsL_nil, List.getElem?_toArray, List.getElem?_cons_zero, List.getElem?_cons_succ, optL_some]
      simp +contextual (maxSteps := 2000000) (disch := first | omega | (simp only [SZ]; first | done | omega) | (simp only [TS] at *; omega)) only [RZ, ovw, oneC, reduceAdd, reduceMul, reduceSub, reduceEqDiff, reduceLT, ↓reduceIte, Int.reduceToNat, reduceLeDiff]
      exact rfl
    refine Ord_one 11 (by kernel_rfl) rfl ?_
    simp +contextual (maxSteps := 2000000) (disch := first | omega | (simp only [SZ]; first | done | omega) | (simp only [TS] at *; omega)) only [RZ, ovw, oneC, reduceAdd, reduceMul, reduceSub, reduceEqDiff, reduceLT, ↓reduceIte, Int.reduceToNat, reduceLeDiff]
    refine (rput_any ⟨#[114, 111, 108, 108, 115]⟩ (G.n 18) 0 (u2) (by decide) m18).mono ?_
    rintro e u3 ⟨hB3, p2, rfl, hp2, hq2⟩
    refine ⟨_, rfl, ?_⟩
    have hJ3 := hJ2.trans (hB3.mono hz2)
    have hz3 := hJ3.size
    rw [show bs ⟨#[114, 111, 108, 108, 115]⟩ = asc "rolls" by decide +kernel] at hp2
    rw [show (⟨#[114, 111, 108, 108, 115]⟩ : ByteArray).size = 5 from rfl] at hq2
    refine ⟨hJ3, ?_⟩
    refine Ord_chainS _ [12, 13] _ _ _ (by kernel_rfl) ?_
    simp only [opsL_cons, opsL_nil, List.getElem?_toArray, List.getElem?_cons_zero, List.getElem?_cons_succ, optL_some]
    simp +contextual (maxSteps := 2000000) (disch := first | omega | (simp only [SZ]; first | done | omega) | (simp only [TS] at *; omega)) only [RZ, ovw, oneC, reduceAdd, reduceMul, reduceSub, reduceEqDiff, reduceLT, ↓reduceIte, Int.reduceToNat, reduceLeDiff,  EC_op, EC_nil, hJ3, f1, f3]
    refine ⟨_, rfl, ?_, ?_⟩
    · simp only [bs_append, hp0, hp1, hp2]
      simp only [List.append_assoc]
    · simp only [SZ]; omega
  clear f1 f3
  rintro σ w7 ⟨hB7, rF, f1, f3, hpF, hsF⟩
  have hF7 := hF6.trans (hB7.mono hz6)
  have hz7 := hF7.size
  have r7 := r6.below hB7
  refine W_cutS (fun σ wn => Below w7.heap.size w7 wn ∧ ∃ r, σ 1 = .pointer (some ⟨w.heap.size, 0, none⟩) ∧ σ 3 = .string r ∧ bs r = bs rF ++ (G.addons.map It.addon).flatMap lineG ∧ r.size ≤ 100000001004000) ?_ ?_
  rotate_left
  · refine W_piece fun K hK hX => ?_
    simp +contextual (maxSteps := 2000000) (disch := first | omega | (simp only [SZ]; first | done | omega) | (simp only [TS] at *; omega)) only [RZ, ovw, oneC, reduceAdd, reduceMul, reduceSub, reduceEqDiff, reduceLT, ↓reduceIte, Int.reduceToNat, reduceLeDiff,  f1, f3]
    refine hK _ _ ?_
    clear hK hX K
    rw [W_block, W_loop]
    refine Raw_loop (fun σ wn => Below w7.heap.size w7 wn ∧ ∃ (k : Nat) (r : ByteArray), k ≤ G.addons.length ∧ bs r = bs rF ++ ((G.addons.take k).map It.addon).flatMap lineG ∧ r.size ≤ 1004000 + 100000000 * k ∧ σ 1 = .pointer (some ⟨w.heap.size, 0, none⟩) ∧ σ 3 = .string r ∧ σ 4 = .int .i64 k) (fun σ _ => G.addons.length - (intOf (σ 4)).toNat) ?_ ?_
    · refine ⟨Below.refl _ _, 0, rF, Nat.zero_le _, by simp, by omega, ?_⟩
      simp +contextual (maxSteps := 2000000) (disch := first | omega | (simp only [SZ]; first | done | omega) | (simp only [TS] at *; omega)) only [RZ, ovw, oneC, reduceAdd, reduceMul, reduceSub, reduceEqDiff, reduceLT, ↓reduceIte, Int.reduceToNat, reduceLeDiff,  f1, f3]
      rfl
    clear f1 f3
    rintro σ wk ⟨hbk, k, r, hkl, hr, hrs, f1, f3, fk⟩ K hK
    have rk := r7.below hbk
    have hFk := hF7.trans (hbk.mono hz7)
    have cc : wk.cell? ⟨w.heap.size, 20, none⟩ = some (.slice Aa G.addons.length ca) := rk.cell (i := 20) rfl
    refine W_piece fun K1 hK1 hX1 => ?_
    refine W_piece fun K2 hK2 hX2 => ?_
    simp +contextual (maxSteps := 2000000) (disch := first | omega | (simp only [SZ]; first | done | omega) | (simp only [TS] at *; omega)) only [RZ, ovw, oneC, reduceAdd, reduceMul, reduceSub, reduceEqDiff, reduceLT, ↓reduceIte, Int.reduceToNat, reduceLeDiff,  f1, f3, fk, cc]
    refine hK2 _ _ ?_
    clear hK2 hX2 K2
    (refine W_if rfl (fun hc => ?_) (fun hc => ?_) <;> (try simp only [TS] at hc))
    · have hkl2 : k < G.addons.length := by omega
      obtain ⟨a, ha⟩ : ∃ a, G.addons[k]? = some a := ⟨_, List.getElem?_eq_getElem hkl2⟩
      obtain ⟨cv1, hcv⟩ : ∃ c, Vs[k]? = some c := ⟨_, List.getElem?_eq_getElem (by rw [hads.1]; exact hkl2)⟩
      obtain ⟨vf, vs, rfl, hvf, hvs⟩ := hads.2 k _ a hcv ha
      obtain ⟨b2, o2, rfl, hbb2, hcell⟩ := (hAa.below hFk) (by rw [hads.1]; omega)
      have hla : vLoad Tryz.prog 45 (.pointer (some ⟨b2, o2 + k * 6, none⟩)) wk = .ok (.value (.agg (encAd a vf vs).toArray)) wk := vLoad_all (by kernel_rfl) (by show _ = some 6; kernel_rfl) (fun i v hv => hcell k _ hcv i v hv)
      obtain ⟨e1, e2, e3⟩ := hadl a (List.mem_of_getElem? ha)
      obtain ⟨g1, g2, g3, g4⟩ := ad_nums (hadf a (List.mem_of_getElem? ha))
      rw [W_skip]
      refine hK1 _ _ ?_
      clear hK1 hX1 K1
      refine W_piece fun K1 hK1 hX1 => ?_
      rw [W_block]
      simp +contextual (maxSteps := 2000000) (disch := first | omega | (simp only [SZ]; first | done | omega) | (simp only [TS] at *; omega)) only [RZ, ovw, oneC, reduceAdd, reduceMul, reduceSub, reduceEqDiff, reduceLT, ↓reduceIte, Int.reduceToNat, reduceLeDiff,  f1, f3, fk, cc, hla]
      refine (rprintAddon_any a vf vs wk (hvf.below hFk) (hvs.below hFk) e1 e2 e3 g1 g2 g3 g4).mono ?_
      rintro e wl ⟨hBl, rl, rfl, hrl, hsl⟩
      refine ⟨_, rfl, ?_⟩
      try simp +contextual (maxSteps := 2000000) (disch := first | omega | (simp only [SZ]; first | done | omega) | (simp only [TS] at *; omega)) only [RZ, ovw, oneC, reduceAdd, reduceMul, reduceSub, reduceEqDiff, reduceLT, ↓reduceIte, Int.reduceToNat, reduceLeDiff,  f1, f3, fk]
      refine hK1 _ _ ?_
      clear hK1 hX1 K1
      simp +contextual (maxSteps := 2000000) (disch := first | omega | (simp only [SZ]; first | done | omega) | (simp only [TS] at *; omega)) only [RZ, ovw, oneC, reduceAdd, reduceMul, reduceSub, reduceEqDiff, reduceLT, ↓reduceIte, Int.reduceToNat, reduceLeDiff,  f1, f3, fk]
      refine hK _ _ ⟨hbk.trans (hBl.mono hbk.size), k + 1, _, by omega, ?_, ?_, ?_, rfl, ?_⟩ ?_
      · rw [bs_append, hr, hrl, List.take_add_one, ha]
        simp
      · simp only [SZ]; omega
      · simp +contextual (maxSteps := 2000000) (disch := first | omega | (simp only [SZ]; first | done | omega) | (simp only [TS] at *; omega)) only [RZ, ovw, oneC, reduceAdd, reduceMul, reduceSub, reduceEqDiff, reduceLT, ↓reduceIte, Int.reduceToNat, reduceLeDiff,  f1, f3, fk]
      · simp +contextual (maxSteps := 2000000) (disch := first | omega | (simp only [SZ]; first | done | omega) | (simp only [TS] at *; omega)) only [RZ, ovw, oneC, reduceAdd, reduceMul, reduceSub, reduceEqDiff, reduceLT, ↓reduceIte, Int.reduceToNat, reduceLeDiff,  f1, f3, fk]
      · simp +contextual (maxSteps := 2000000) (disch := first | omega | (simp only [SZ]; first | done | omega) | (simp only [TS] at *; omega)) only [RZ, ovw, oneC, reduceAdd, reduceMul, reduceSub, reduceEqDiff, reduceLT, ↓reduceIte, Int.reduceToNat, reduceLeDiff,  intOf, fk]
        omega
    · have hkz : k = G.addons.length := by omega
      subst hkz
      rw [List.take_length] at hr
      simp +contextual (maxSteps := 2000000) (disch := first | omega | (simp only [SZ]; first | done | omega) | (simp only [TS] at *; omega)) only [RZ, ovw, oneC, reduceAdd, reduceMul, reduceSub, reduceEqDiff, reduceLT, ↓reduceIte, Int.reduceToNat, reduceLeDiff,  f1, f3, fk]
      refine hX1 _ _ _ (fun h => by cases h) ?_
      simp +contextual (maxSteps := 2000000) (disch := first | omega | (simp only [SZ]; first | done | omega) | (simp only [TS] at *; omega)) only [RZ, ovw, oneC, reduceAdd, reduceMul, reduceSub, reduceEqDiff, reduceLT, ↓reduceIte, Int.reduceToNat, reduceLeDiff,  f1, f3, fk]
      exact ⟨hbk, r, by first | exact ⟨rfl, hr, by omega⟩ | exact ⟨hr, by omega⟩⟩
  clear f1 f3
  rintro σ w8 ⟨hB8, rG, f1, f3, hpG, hsG⟩
  have hF8 := hF7.trans (hB8.mono hz7)
  have hz8 := hF8.size
  have r8 := r7.below hB8
  refine W_cutS (fun σ wn => Below w8.heap.size w8 wn ∧ ∃ r, σ 1 = .pointer (some ⟨w.heap.size, 0, none⟩) ∧ σ 3 = .string r ∧ bs r = bs rG ++ (G.tiers.map It.tier).flatMap lineG ∧ r.size ≤ 200000001004000) ?_ ?_
  rotate_left
  · refine W_piece fun K hK hX => ?_
    simp +contextual (maxSteps := 2000000) (disch := first | omega | (simp only [SZ]; first | done | omega) | (simp only [TS] at *; omega)) only [RZ, ovw, oneC, reduceAdd, reduceMul, reduceSub, reduceEqDiff, reduceLT, ↓reduceIte, Int.reduceToNat, reduceLeDiff,  f1, f3]
    refine hK _ _ ?_
    clear hK hX K
    rw [W_block, W_loop]
    refine Raw_loop (fun σ wn => Below w8.heap.size w8 wn ∧ ∃ (k : Nat) (r : ByteArray), k ≤ G.tiers.length ∧ bs r = bs rG ++ ((G.tiers.take k).map It.tier).flatMap lineG ∧ r.size ≤ 100000001004000 + 100000000 * k ∧ σ 1 = .pointer (some ⟨w.heap.size, 0, none⟩) ∧ σ 3 = .string r ∧ σ 5 = .int .i64 k) (fun σ _ => G.tiers.length - (intOf (σ 5)).toNat) ?_ ?_
    · refine ⟨Below.refl _ _, 0, rG, Nat.zero_le _, by simp, by omega, ?_⟩
      simp +contextual (maxSteps := 2000000) (disch := first | omega | (simp only [SZ]; first | done | omega) | (simp only [TS] at *; omega)) only [RZ, ovw, oneC, reduceAdd, reduceMul, reduceSub, reduceEqDiff, reduceLT, ↓reduceIte, Int.reduceToNat, reduceLeDiff,  f1, f3]
      rfl
    clear f1 f3
    rintro σ wk ⟨hbk, k, r, hkl, hr, hrs, f1, f3, fk⟩ K hK
    have rk := r8.below hbk
    have hFk := hF8.trans (hbk.mono hz8)
    have cc : wk.cell? ⟨w.heap.size, 21, none⟩ = some (.slice At G.tiers.length ct) := rk.cell (i := 21) rfl
    refine W_piece fun K1 hK1 hX1 => ?_
    refine W_piece fun K2 hK2 hX2 => ?_
    simp +contextual (maxSteps := 2000000) (disch := first | omega | (simp only [SZ]; first | done | omega) | (simp only [TS] at *; omega)) only [RZ, ovw, oneC, reduceAdd, reduceMul, reduceSub, reduceEqDiff, reduceLT, ↓reduceIte, Int.reduceToNat, reduceLeDiff,  f1, f3, fk, cc]
    refine hK2 _ _ ?_
    clear hK2 hX2 K2
    (refine W_if rfl (fun hc => ?_) (fun hc => ?_) <;> (try simp only [TS] at hc))
    · have hkl2 : k < G.tiers.length := by omega
      obtain ⟨a, ha⟩ : ∃ a, G.tiers[k]? = some a := ⟨_, List.getElem?_eq_getElem hkl2⟩
      obtain ⟨b2, o2, rfl, hbb2, hcell⟩ := (hAt.below hFk).at_ (enc := encTi) ha
      have hla : vLoad Tryz.prog 41 (.pointer (some ⟨b2, o2 + k * 6, none⟩)) wk = .ok (.value (.agg (encTi a).toArray)) wk := vLoad_all (by kernel_rfl) (by show _ = some 6; kernel_rfl) (fun i v hv => hcell i v hv)
      obtain ⟨g1, g2, g3, g4, g5, g6⟩ := ti_nums (htif a (List.mem_of_getElem? ha))
      rw [W_skip]
      refine hK1 _ _ ?_
      clear hK1 hX1 K1
      refine W_piece fun K1 hK1 hX1 => ?_
      rw [W_block]
      simp +contextual (maxSteps := 2000000) (disch := first | omega | (simp only [SZ]; first | done | omega) | (simp only [TS] at *; omega)) only [RZ, ovw, oneC, reduceAdd, reduceMul, reduceSub, reduceEqDiff, reduceLT, ↓reduceIte, Int.reduceToNat, reduceLeDiff,  f1, f3, fk, cc, hla]
      refine (rprintTier_any a wk g1 g2 g3 g4 g5 g6).mono ?_
      rintro e wl ⟨hBl, rl, rfl, hrl, hsl⟩
      refine ⟨_, rfl, ?_⟩
      try simp +contextual (maxSteps := 2000000) (disch := first | omega | (simp only [SZ]; first | done | omega) | (simp only [TS] at *; omega)) only [RZ, ovw, oneC, reduceAdd, reduceMul, reduceSub, reduceEqDiff, reduceLT, ↓reduceIte, Int.reduceToNat, reduceLeDiff,  f1, f3, fk]
      refine hK1 _ _ ?_
      clear hK1 hX1 K1
      simp +contextual (maxSteps := 2000000) (disch := first | omega | (simp only [SZ]; first | done | omega) | (simp only [TS] at *; omega)) only [RZ, ovw, oneC, reduceAdd, reduceMul, reduceSub, reduceEqDiff, reduceLT, ↓reduceIte, Int.reduceToNat, reduceLeDiff,  f1, f3, fk]
      refine hK _ _ ⟨hbk.trans (hBl.mono hbk.size), k + 1, _, by omega, ?_, ?_, ?_, rfl, ?_⟩ ?_
      · rw [bs_append, hr, hrl, List.take_add_one, ha]
        simp
      · simp only [SZ]; omega
      · simp +contextual (maxSteps := 2000000) (disch := first | omega | (simp only [SZ]; first | done | omega) | (simp only [TS] at *; omega)) only [RZ, ovw, oneC, reduceAdd, reduceMul, reduceSub, reduceEqDiff, reduceLT, ↓reduceIte, Int.reduceToNat, reduceLeDiff,  f1, f3, fk]
      · simp +contextual (maxSteps := 2000000) (disch := first | omega | (simp only [SZ]; first | done | omega) | (simp only [TS] at *; omega)) only [RZ, ovw, oneC, reduceAdd, reduceMul, reduceSub, reduceEqDiff, reduceLT, ↓reduceIte, Int.reduceToNat, reduceLeDiff,  f1, f3, fk]
      · simp +contextual (maxSteps := 2000000) (disch := first | omega | (simp only [SZ]; first | done | omega) | (simp only [TS] at *; omega)) only [RZ, ovw, oneC, reduceAdd, reduceMul, reduceSub, reduceEqDiff, reduceLT, ↓reduceIte, Int.reduceToNat, reduceLeDiff,  intOf, fk]
        omega
    · have hkz : k = G.tiers.length := by omega
      subst hkz
      rw [List.take_length] at hr
      simp +contextual (maxSteps := 2000000) (disch := first | omega | (simp only [SZ]; first | done | omega) | (simp only [TS] at *; omega)) only [RZ, ovw, oneC, reduceAdd, reduceMul, reduceSub, reduceEqDiff, reduceLT, ↓reduceIte, Int.reduceToNat, reduceLeDiff,  f1, f3, fk]
      refine hX1 _ _ _ (fun h => by cases h) ?_
      simp +contextual (maxSteps := 2000000) (disch := first | omega | (simp only [SZ]; first | done | omega) | (simp only [TS] at *; omega)) only [RZ, ovw, oneC, reduceAdd, reduceMul, reduceSub, reduceEqDiff, reduceLT, ↓reduceIte, Int.reduceToNat, reduceLeDiff,  f1, f3, fk]
      exact ⟨hbk, r, by first | exact ⟨rfl, hr, by omega⟩ | exact ⟨hr, by omega⟩⟩
  clear f1 f3
  rintro σ w9 ⟨hB9, rH, f1, f3, hpH, hsH⟩
  have hF9 := hF8.trans (hB9.mono hz8)
  have hz9 := hF9.size
  have r9 := r8.below hB9
  have htx : bs (rH ++ ⟨#[125, 10]⟩) = textG G := by
    rw [bs_append, hpH, hpG, hpF, hpE, hpD, hpC, hpB, show bs ⟨#[125, 10]⟩ = asc "}\n" by decide +kernel]
    unfold textG itemsG optsI P0
    rw [headI_is]
    simp only [List.flatMap_append, List.append_assoc, List.flatMap_cons, List.flatMap_nil, List.cons_append, List.nil_append, List.append_nil]
  refine W_piece fun K hK hX => ?_
  simp +contextual (maxSteps := 2000000) (disch := first | omega | (simp only [SZ]; first | done | omega) | (simp only [TS] at *; omega)) only [RZ, ovw, oneC, reduceAdd, reduceMul, reduceSub, reduceEqDiff, reduceLT, ↓reduceIte, Int.reduceToNat, reduceLeDiff,  f1, f3]
  refine hK _ _ ?_
  clear hK hX K
  have hsz : (rH ++ ⟨#[125, 10]⟩).size = (textG G).length := by rw [← htx, bs_len]
  have hszb : (rH ++ ⟨#[125, 10]⟩).size ≤ 200000001004002 := by simp only [SZ]; omega
  generalize rH ++ ⟨#[125, 10]⟩ = rI at htx hsz hszb ⊢
  refine W_piece fun K hK hX => ?_
  refine W_piece fun K2 hK2 hX2 => ?_
  simp +contextual (maxSteps := 2000000) (disch := first | omega | (simp only [SZ]; first | done | omega) | (simp only [TS] at *; omega)) only [RZ, ovw, oneC, reduceAdd, reduceMul, reduceSub, reduceEqDiff, reduceLT, ↓reduceIte, Int.reduceToNat, reduceLeDiff,  f1, f3]
  refine hK2 _ _ ?_
  clear hK2 hX2 K2
  by_cases hlong : 32768 < (textG G).length
  · rw [if_neg (by rw [hfine]; simp; omega)] at hrr
    subst hrr
    refine W_if_t (by show Value.bool (decide ((32768 : Int) < (rI.size : Int))) = .bool true; rw [show decide ((32768 : Int) < (rI.size : Int)) = true by simp; omega]) ?_
    refine W_piece fun K2 hK2 hX2 => ?_
    simp +contextual (maxSteps := 2000000) (disch := first | omega | (simp only [SZ]; first | done | omega) | (simp only [TS] at *; omega)) only [RZ, ovw, oneC, reduceAdd, reduceMul, reduceSub, reduceEqDiff, reduceLT, ↓reduceIte, Int.reduceToNat, reduceLeDiff]
    refine hK2 _ _ ?_
    rw [W_ret]
    refine hX _ _ _ (fun h => by cases h) ?_
    simp +contextual (maxSteps := 2000000) (disch := first | omega | (simp only [SZ]; first | done | omega) | (simp only [TS] at *; omega)) only [RZ, ovw, oneC, reduceAdd, reduceMul, reduceSub, reduceEqDiff, reduceLT, ↓reduceIte, Int.reduceToNat, reduceLeDiff]
    exact ⟨rfl, hF9⟩
  · rw [if_pos ⟨hfine, by omega⟩] at hrr
    subst hrr
    refine W_if_f (by show Value.bool (decide ((32768 : Int) < (rI.size : Int))) = .bool false; rw [show decide ((32768 : Int) < (rI.size : Int)) = false by simp; omega]) ?_
    rw [W_skip]
    refine hK _ _ ?_
    clear hK hX K
    simp +contextual (maxSteps := 2000000) (disch := first | omega | (simp only [SZ]; first | done | omega) | (simp only [TS] at *; omega)) only [RZ, ovw, oneC, reduceAdd, reduceMul, reduceSub, reduceEqDiff, reduceLT, ↓reduceIte, Int.reduceToNat, reduceLeDiff,  f1, f3]
    refine ⟨?_, hF9⟩
    rw [← htx, toBA_bs]
end Go.Proofs.YtbdkggnajipdhaaGreatDoor
