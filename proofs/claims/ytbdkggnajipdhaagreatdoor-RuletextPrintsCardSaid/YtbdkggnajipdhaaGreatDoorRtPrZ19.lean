/- Texts laid one behind the other: RpG, RwF, Laid. Each says at its head what it proves. -/
import Derived.Test.YtbdkggnajipdhaaGreatDoorRtPrZ18
import Derived.ChangeMaps5
import Derived.LaidMore
import Derived.OpenShut
import Derived.Stop.Joined
import Derived.Lib.LaidTab
import Derived.MakeChecks
set_option linter.unusedSimpArgs false
/- Walks: the reference's Print of a game. -/
namespace Go.Proofs.YtbdkggnajipdhaaGreatDoor
open Go.RowKit
set_option maxRecDepth 100000
def P0 (G : Gm) : List Nat := asc "game" ++ (32 :: bs G.name) ++ asc " {\n"
theorem ad_nums {a : Ad} (h : a.fine = true) : numR a.price ∧ numR a.digits ∧ (∀ n ∈ a.factors, numR n) ∧ ∀ n ∈ a.serials, numR n := by
  rw [adFine_is] at h
  simp only [Bool.and_eq_true, List.all_eq_true] at h
  obtain ⟨⟨⟨⟨_, p, d⟩, f⟩, s⟩, _⟩ := h
  exact ⟨fit_num p, fit_num d, fun n hn => fit_num (f n hn), fun n hn => fit_num (s n hn)⟩
theorem ti_nums {t : Ti} (h : t.fine = true) : numR t.main ∧ numR t.bonus ∧ numR t.extra ∧ numR t.value ∧ (0 ≤ t.mode ∧ t.mode ≤ 4) ∧ 1 ≤ t.kind ∧ t.kind ≤ 3 := by
  rw [tiFine_is] at h
  simp only [Bool.and_eq_true, decide_eq_true_eq] at h
  obtain ⟨⟨⟨⟨⟨m, b⟩, e⟩, v⟩, k⟩, md⟩ := h
  refine ⟨fit_num m, fit_num b, fit_num e, fit_num v, ?_, k⟩
  by_cases h0 : t.mode = 0
  · omega
  rw [if_neg h0] at md
  by_cases h1 : t.mode = 1 ∨ t.mode = 2
  · omega
  rw [if_neg h1] at md
  by_cases h3 : t.mode = 3 ∨ t.mode = 4
  · omega
  · rw [if_neg h3] at md; cases md
set_option maxHeartbeats 8000000 in
theorem rprint_any (G : Gm) (Va Vt : Value) (w : World) (hG : GmIn w Va Vt G) (hL : G.little) :
    Calls Tryz.prog 14 #[.agg (gmV G Va Vt).toArray] w fun e w' => e = .returned (.string (toBA (printG G))) ∧ Below w.heap.size w w' := by
  refine calls_W (l := [_]) Tryz.func14 rfl _ Tryz.ntmps14 (by simp) ?_
  have hGi := hG
  have hLi := hL
  obtain ⟨hnl, hal, htl, hadl⟩ := hL
  obtain ⟨⟨Aa, ca, Vs, rfl, hAa, hads⟩, At, ct, rfl, hAt⟩ := hG
  generalize hrr : printG G = rr
  rw [printG_is] at hrr
  have r0 := Row.new w 26 (gmV G (.slice Aa G.addons.length ca) (.slice At G.tiers.length ct))
  have b0 := below_alloc w (.cells (gmV G (.slice Aa G.addons.length ca) (.slice At G.tiers.length ct)).toArray 26)
  refine W_piece fun K hK hX => ?_
  simp +contextual (maxSteps := 2000000) (disch := (first | omega | (simp only [SZ]; first | done | omega) | (simp only [TS] at *; omega))) only [RZ, ovw, oneC, Nat.reduceAdd, Nat.reduceMul, Nat.reduceSub, Nat.reduceEqDiff, Nat.reduceLT, ↓reduceIte, Int.reduceToNat, Nat.reduceLeDiff]
  refine hK _ _ ?_
  clear hK hX K
  generalize w.alloc (.cells (gmV G (.slice Aa G.addons.length ca) (.slice At G.tiers.length ct)).toArray 26) = w1 at r0 b0 ⊢
  have hz0 := b0.size
  have hld : ∀ {wi : World}, Row wi w.heap.size 26 (gmV G (.slice Aa G.addons.length ca) (.slice At G.tiers.length ct)) → vLoad Tryz.prog 26 (.pointer (some ⟨w.heap.size, 0, none⟩)) wi = .ok (.value (.agg (gmV G (.slice Aa G.addons.length ca) (.slice At G.tiers.length ct)).toArray)) wi := fun {wi} h =>
    vLoad_all (by kernel_rfl) (by rw [gmV_len]; kernel_rfl) (fun i v hv => by rw [Nat.zero_add]; exact h.cell hv)
  have l1 := hld r0
  refine W_piece fun K hK hX => ?_
  refine W_piece fun K2 hK2 hX2 => ?_
  simp +contextual (maxSteps := 2000000) (disch := (first | omega | (simp only [SZ]; first | done | omega) | (simp only [TS] at *; omega))) only [RZ, ovw, oneC, Nat.reduceAdd, Nat.reduceMul, Nat.reduceSub, Nat.reduceEqDiff, Nat.reduceLT, ↓reduceIte, Int.reduceToNat, Nat.reduceLeDiff,  l1]
  refine (rPrintable_any G _ _ w1 (hGi.below b0) hLi).mono ?_
  rintro e w2 ⟨hB2, rfl⟩
  refine ⟨_, rfl, ?_⟩
  try simp +contextual (maxSteps := 2000000) (disch := (first | omega | (simp only [SZ]; first | done | omega) | (simp only [TS] at *; omega))) only [RZ, ovw, oneC, Nat.reduceAdd, Nat.reduceMul, Nat.reduceSub, Nat.reduceEqDiff, Nat.reduceLT, ↓reduceIte, Int.reduceToNat, Nat.reduceLeDiff]
  refine hK2 _ _ ?_
  clear hK2 hX2 K2 l1
  have hF2 := b0.trans (hB2.mono hz0)
  have hz2 := hF2.size
  have r2 := r0.below hB2
  cases hfine : fineG G with
  | false =>
    rw [if_neg (by rw [hfine]; simp)] at hrr
    subst hrr
    refine W_if_t rfl ?_
    refine W_piece fun K2 hK2 hX2 => ?_
    simp +contextual (maxSteps := 2000000) (disch := (first | omega | (simp only [SZ]; first | done | omega) | (simp only [TS] at *; omega))) only [RZ, ovw, oneC, Nat.reduceAdd, Nat.reduceMul, Nat.reduceSub, Nat.reduceEqDiff, Nat.reduceLT, ↓reduceIte, Int.reduceToNat, Nat.reduceLeDiff]
    refine hK2 _ _ ?_
    rw [W_ret]
    refine hX _ _ _ (fun h => by cases h) ?_
    simp +contextual (maxSteps := 2000000) (disch := (first | omega | (simp only [SZ]; first | done | omega) | (simp only [TS] at *; omega))) only [RZ, ovw, oneC, Nat.reduceAdd, Nat.reduceMul, Nat.reduceSub, Nat.reduceEqDiff, Nat.reduceLT, ↓reduceIte, Int.reduceToNat, Nat.reduceLeDiff]
    exact ⟨rfl, hF2⟩
  | true =>
  refine W_if_f rfl ?_
  rw [W_skip]
  refine hK _ _ ?_
  clear hK hX K
  have hff := hfine
  rw [fineG_is] at hff
  simp only [Bool.and_eq_true, List.all_eq_true, Bool.or_eq_true, decide_eq_true_eq] at hff
  obtain ⟨⟨⟨⟨⟨hwd, hk⟩, hnn⟩, hdc⟩, hadf⟩, htif⟩ := hff
  have hdc' := hdc
  unfold daysC at hdc'
  simp only [Bool.and_eq_true, decide_eq_true_eq] at hdc'
  have hnm : ∀ n ∈ numsG G, numR n := fun n hn => fit_num (hnn n hn)
  unfold numsG at hnm
  simp only [List.mem_cons, List.not_mem_nil, or_false, forall_eq_or_imp, forall_eq] at hnm
  obtain ⟨m1, m2, m3, m4, m5, m6, m7, m8, m11, m12, m13, m14, m15, m16, m17, m18⟩ := hnm
  have c0 : w2.cell? ⟨w.heap.size, 0, none⟩ = some (.string G.name) := r2.cell (i := 0) rfl
  refine W_piece fun K hK hX => ?_
  simp +contextual (maxSteps := 2000000) (disch := (first | omega | (simp only [SZ]; first | done | omega) | (simp only [TS] at *; omega))) only [RZ, ovw, oneC, Nat.reduceAdd, Nat.reduceMul, Nat.reduceSub, Nat.reduceEqDiff, Nat.reduceLT, ↓reduceIte, Int.reduceToNat, Nat.reduceLeDiff,  c0]
  refine hK _ _ ?_
  clear hK hX K
  have hp0 : bs (⟨#[103, 97, 109, 101, 32]⟩ ++ G.name ++ ⟨#[32, 123, 10]⟩) = P0 G := by
    unfold P0
    rw [show asc "game" = [103, 97, 109, 101] by decide +kernel, show asc " {\n" = [32, 123, 10] by decide +kernel]
    simp only [bs_append, show bs ⟨#[103, 97, 109, 101, 32]⟩ = [103, 97, 109, 101, 32] by decide +kernel, show bs ⟨#[32, 123, 10]⟩ = [32, 123, 10] by decide +kernel]
    simp
  have hs0 : ((⟨#[103, 97, 109, 101, 32]⟩ : ByteArray) ++ G.name ++ ⟨#[32, 123, 10]⟩).size ≤ 1000010 := by simp only [SZ]; omega
  generalize (⟨#[103, 97, 109, 101, 32]⟩ : ByteArray) ++ G.name ++ ⟨#[32, 123, 10]⟩ = rA at hp0 hs0 ⊢
  refine W_cutS (fun σ w3 => Below w2.heap.size w2 w3 ∧ ∃ r, σ 1 = .pointer (some ⟨w.heap.size, 0, none⟩) ∧ σ 3 = .string r ∧ bs r = P0 G ++ lineG (.two (if G.n 0 = 1 then asc "choose" else asc "digits") (G.n 2) (G.n 3)) ∧ r.size ≤ 1000100) ?_ ?_
  rotate_left
  · have c1 : w2.cell? ⟨w.heap.size, 1, none⟩ = some (.int .i64 (G.n 0)) := r2.cell (i := 1) rfl
    have c3 : w2.cell? ⟨w.heap.size, 3, none⟩ = some (.int .i64 (G.n 2)) := r2.cell (i := 3) rfl
    have c4 : w2.cell? ⟨w.heap.size, 4, none⟩ = some (.int .i64 (G.n 3)) := r2.cell (i := 4) rfl
    refine W_piece fun K hK hX => ?_
    simp +contextual (maxSteps := 2000000) (disch := (first | omega | (simp only [SZ]; first | done | omega) | (simp only [TS] at *; omega))) only [RZ, ovw, oneC, Nat.reduceAdd, Nat.reduceMul, Nat.reduceSub, Nat.reduceEqDiff, Nat.reduceLT, ↓reduceIte, Int.reduceToNat, Nat.reduceLeDiff,  c1]
    refine hK _ _ ?_
    clear hK hX K
    by_cases k1 : G.n 0 = 1
    · rw [show decide (G.n 0 = 1) = true by simp [k1], if_pos k1]
      refine W_if_t rfl ?_
      simp +contextual (maxSteps := 2000000) (disch := (first | omega | (simp only [SZ]; first | done | omega) | (simp only [TS] at *; omega))) only [RZ, ovw, oneC, Nat.reduceAdd, Nat.reduceMul, Nat.reduceSub, Nat.reduceEqDiff, Nat.reduceLT, ↓reduceIte, Int.reduceToNat, Nat.reduceLeDiff,  c3, c4]
      refine (rof_any ⟨#[99, 104, 111, 111, 115, 101]⟩ (G.n 2) (G.n 3) w2 (by decide) m2 m3).mono ?_
      rintro e w3 ⟨hB3, r1, rfl, hr1, hs1⟩
      refine ⟨_, rfl, ?_⟩
      rw [show bs ⟨#[99, 104, 111, 111, 115, 101]⟩ = asc "choose" by decide +kernel] at hr1
      rw [show (⟨#[99, 104, 111, 111, 115, 101]⟩ : ByteArray).size = 6 from rfl] at hs1
      simp +contextual (maxSteps := 2000000) (disch := (first | omega | (simp only [SZ]; first | done | omega) | (simp only [TS] at *; omega))) only [RZ, ovw, oneC, Nat.reduceAdd, Nat.reduceMul, Nat.reduceSub, Nat.reduceEqDiff, Nat.reduceLT, ↓reduceIte, Int.reduceToNat, Nat.reduceLeDiff]
      refine ⟨hB3, _, rfl, ?_, ?_⟩
      · rw [bs_append, hp0, hr1]
      · simp only [SZ]; omega
    · rw [show decide (G.n 0 = 1) = false by simp [k1], if_neg k1]
      refine W_if_f rfl ?_
      simp +contextual (maxSteps := 2000000) (disch := (first | omega | (simp only [SZ]; first | done | omega) | (simp only [TS] at *; omega))) only [RZ, ovw, oneC, Nat.reduceAdd, Nat.reduceMul, Nat.reduceSub, Nat.reduceEqDiff, Nat.reduceLT, ↓reduceIte, Int.reduceToNat, Nat.reduceLeDiff,  c3, c4]
      refine (rof_any ⟨#[100, 105, 103, 105, 116, 115]⟩ (G.n 2) (G.n 3) w2 (by decide) m2 m3).mono ?_
      rintro e w3 ⟨hB3, r1, rfl, hr1, hs1⟩
      refine ⟨_, rfl, ?_⟩
      rw [show bs ⟨#[100, 105, 103, 105, 116, 115]⟩ = asc "digits" by decide +kernel] at hr1
      rw [show (⟨#[100, 105, 103, 105, 116, 115]⟩ : ByteArray).size = 6 from rfl] at hs1
      simp +contextual (maxSteps := 2000000) (disch := (first | omega | (simp only [SZ]; first | done | omega) | (simp only [TS] at *; omega))) only [RZ, ovw, oneC, Nat.reduceAdd, Nat.reduceMul, Nat.reduceSub, Nat.reduceEqDiff, Nat.reduceLT, ↓reduceIte, Int.reduceToNat, Nat.reduceLeDiff]
      refine ⟨hB3, _, rfl, ?_, ?_⟩
      · rw [bs_append, hp0, hr1]
      · simp only [SZ]; omega
  rintro σ w3 ⟨hB3, rB, f1, f3, hpB, hsB⟩
  have hF3 := hF2.trans (hB3.mono hz2)
  have hz3 := hF3.size
  have r3 := r2.below hB3
  refine W_cutS (fun σ w4 => Below w3.heap.size w3 w4 ∧ ∃ r, σ 1 = .pointer (some ⟨w.heap.size, 0, none⟩) ∧ σ 3 = .string r ∧ bs r = bs rB ++ (bonusI G.n).flatMap lineG ∧ r.size ≤ 1000200) ?_ ?_
  rotate_left
  · have c5 : w3.cell? ⟨w.heap.size, 5, none⟩ = some (.int .i64 (G.n 4)) := r3.cell (i := 5) rfl
    have c6 : w3.cell? ⟨w.heap.size, 6, none⟩ = some (.int .i64 (G.n 5)) := r3.cell (i := 6) rfl
    refine W_piece fun K hK hX => ?_
    simp +contextual (maxSteps := 2000000) (disch := (first | omega | (simp only [SZ]; first | done | omega) | (simp only [TS] at *; omega))) only [RZ, ovw, oneC, Nat.reduceAdd, Nat.reduceMul, Nat.reduceSub, Nat.reduceEqDiff, Nat.reduceLT, ↓reduceIte, Int.reduceToNat, Nat.reduceLeDiff,  f1, f3, c5, c6]
    refine hK _ _ ?_
    clear hK hX K
    unfold bonusI
    by_cases hc : G.n 4 ≠ 0 ∨ G.n 5 ≠ 0
    · rw [if_pos hc]
      refine W_if_t (by show Value.bool (!decide (G.n 4 = 0) || !decide (G.n 5 = 0)) = .bool true; rw [show (!decide (G.n 4 = 0) || !decide (G.n 5 = 0)) = true by simpa [Decidable.not_and_iff_not_or_not] using hc]) ?_
      simp +contextual (maxSteps := 2000000) (disch := (first | omega | (simp only [SZ]; first | done | omega) | (simp only [TS] at *; omega))) only [RZ, ovw, oneC, Nat.reduceAdd, Nat.reduceMul, Nat.reduceSub, Nat.reduceEqDiff, Nat.reduceLT, ↓reduceIte, Int.reduceToNat, Nat.reduceLeDiff,  f1, f3, c5, c6]
      refine (rof_any ⟨#[98, 111, 110, 117, 115]⟩ (G.n 4) (G.n 5) w3 (by decide) m4 m5).mono ?_
      rintro e w4 ⟨hB4, r1, rfl, hr1, hs1⟩
      refine ⟨_, rfl, ?_⟩
      rw [show bs ⟨#[98, 111, 110, 117, 115]⟩ = asc "bonus" by decide +kernel] at hr1
      rw [show (⟨#[98, 111, 110, 117, 115]⟩ : ByteArray).size = 5 from rfl] at hs1
      simp +contextual (maxSteps := 2000000) (disch := (first | omega | (simp only [SZ]; first | done | omega) | (simp only [TS] at *; omega))) only [RZ, ovw, oneC, Nat.reduceAdd, Nat.reduceMul, Nat.reduceSub, Nat.reduceEqDiff, Nat.reduceLT, ↓reduceIte, Int.reduceToNat, Nat.reduceLeDiff,  f1, f3]
      refine ⟨hB4, _, rfl, ?_, ?_⟩
      · rw [bs_append, hr1]; simp
      · simp only [SZ]; omega
    · rw [if_neg hc]
      refine W_if_f (by show Value.bool (!decide (G.n 4 = 0) || !decide (G.n 5 = 0)) = .bool false; rw [show (!decide (G.n 4 = 0) || !decide (G.n 5 = 0)) = false by simpa using hc]) ?_
      simp +contextual (maxSteps := 2000000) (disch := (first | omega | (simp only [SZ]; first | done | omega) | (simp only [TS] at *; omega))) only [RZ, ovw, oneC, Nat.reduceAdd, Nat.reduceMul, Nat.reduceSub, Nat.reduceEqDiff, Nat.reduceLT, ↓reduceIte, Int.reduceToNat, Nat.reduceLeDiff,  f1, f3]
      refine ⟨Below.refl _ _, rB, rfl, by simp, by omega⟩
  clear f1 f3
  rintro σ w4 ⟨hB4, rC, f1, f3, hpC, hsC⟩
  have hF4 := hF3.trans (hB4.mono hz3)
  have hz4 := hF4.size
  have r4 := r3.below hB4
  refine W_cutS (fun σ wn => Below w4.heap.size w4 wn ∧ ∃ r, σ 1 = .pointer (some ⟨w.heap.size, 0, none⟩) ∧ σ 3 = .string r ∧ bs r = bs rC ++ ((optI (asc "extra") (G.n 6) 0).flatMap lineG ++ (optI (asc "price") (G.n 1) 0).flatMap lineG ++ (optI (asc "draws") (G.n 7) 1).flatMap lineG ++ (optI (asc "system") (G.n 8) (G.n 2)).flatMap lineG ++ (daysI G.n).flatMap lineG) ∧ r.size ≤ 1002000) ?_ ?_
  rotate_left
  · have r4' := r4
    rw [W_draw]
    have hJ0 : Below w4.heap.size w4 w4.drew := below_drew (Below.refl _ _)
    refine Raw_ord (fun w' => Below w4.heap.size w4 w') 23 rfl MX ?_
    refine Ord_reads (τ := ?t00) [0, 1, 2, 5, 6, 9, 10, 13, 14, 15, 16, 19] 11 rfl (by kernel_rfl) (by kernel_rfl) (fun _ _ _ h => h) hJ0 (fun w7 h7 => ?_) ?_; rotate_left
    · have r7 := r4.below h7
      have x7 : w7.cell? ⟨w.heap.size, 7, none⟩ = some (.int .i64 (G.n 6)) := r7.cell (i := 7) rfl
      have x2 : w7.cell? ⟨w.heap.size, 2, none⟩ = some (.int .i64 (G.n 1)) := r7.cell (i := 2) rfl
      have x8 : w7.cell? ⟨w.heap.size, 8, none⟩ = some (.int .i64 (G.n 7)) := r7.cell (i := 8) rfl
      have x9 : w7.cell? ⟨w.heap.size, 9, none⟩ = some (.int .i64 (G.n 8)) := r7.cell (i := 9) rfl
      have x3 : w7.cell? ⟨w.heap.size, 3, none⟩ = some (.int .i64 (G.n 2)) := r7.cell (i := 3) rfl
      have lg := hld r7
      simp only [opsL_cons, opsL_nil, List.getElem?_toArray, List.getElem?_cons_zero, List.getElem?_cons_succ, optL_some]
      simp +contextual (maxSteps := 2000000) (disch := (first | omega | (simp only [SZ]; first | done | omega) | (simp only [TS] at *; omega))) only [RZ, ovw, oneC, Nat.reduceAdd, Nat.reduceMul, Nat.reduceSub, Nat.reduceEqDiff, Nat.reduceLT, ↓reduceIte, Int.reduceToNat, Nat.reduceLeDiff,  f1, f3, x7, x2, x8, x9, x3, lg]
      exact rfl
    refine Ord_one 3 (by kernel_rfl) rfl ?_
    simp +contextual (maxSteps := 2000000) (disch := (first | omega | (simp only [SZ]; first | done | omega) | (simp only [TS] at *; omega))) only [RZ, ovw, oneC, Nat.reduceAdd, Nat.reduceMul, Nat.reduceSub, Nat.reduceEqDiff, Nat.reduceLT, ↓reduceIte, Int.reduceToNat, Nat.reduceLeDiff]
    refine (rput_any ⟨#[101, 120, 116, 114, 97]⟩ (G.n 6) 0 (w4.drew) (by decide) m6).mono ?_
    rintro e u1 ⟨hB1, p0, rfl, hp0, hq0⟩
    refine ⟨_, rfl, ?_⟩
    have hJ1 := hJ0.trans hB1
    have hz1 := hJ1.size
    rw [show bs ⟨#[101, 120, 116, 114, 97]⟩ = asc "extra" by decide +kernel] at hp0
    rw [show (⟨#[101, 120, 116, 114, 97]⟩ : ByteArray).size = 5 from rfl] at hq0
    refine ⟨hJ1, ?_⟩
    refine Ord_reads (τ := ?t01) [4] 9 rfl (by kernel_rfl) (by kernel_rfl) (fun _ _ _ h => h) hJ1 (fun w7 h7 => ?_) ?_; rotate_left
    · simp only [opsL_cons, opsL_nil, List.getElem?_toArray, List.getElem?_cons_zero, List.getElem?_cons_succ, optL_some]
      simp +contextual (maxSteps := 2000000) (disch := (first | omega | (simp only [SZ]; first | done | omega) | (simp only [TS] at *; omega))) only [RZ, ovw, oneC, Nat.reduceAdd, Nat.reduceMul, Nat.reduceSub, Nat.reduceEqDiff, Nat.reduceLT, ↓reduceIte, Int.reduceToNat, Nat.reduceLeDiff]
      exact rfl
    refine Ord_one 7 (by kernel_rfl) rfl ?_
    simp +contextual (maxSteps := 2000000) (disch := (first | omega | (simp only [SZ]; first | done | omega) | (simp only [TS] at *; omega))) only [RZ, ovw, oneC, Nat.reduceAdd, Nat.reduceMul, Nat.reduceSub, Nat.reduceEqDiff, Nat.reduceLT, ↓reduceIte, Int.reduceToNat, Nat.reduceLeDiff]
    refine (rput_any ⟨#[112, 114, 105, 99, 101]⟩ (G.n 1) 0 (u1) (by decide) m1).mono ?_
    rintro e u2 ⟨hB2, p1, rfl, hp1, hq1⟩
    refine ⟨_, rfl, ?_⟩
    have hJ2 := hJ1.trans (hB2.mono hz1)
    have hz2 := hJ2.size
    rw [show bs ⟨#[112, 114, 105, 99, 101]⟩ = asc "price" by decide +kernel] at hp1
    rw [show (⟨#[112, 114, 105, 99, 101]⟩ : ByteArray).size = 5 from rfl] at hq1
    refine ⟨hJ2, ?_⟩
    refine Ord_reads (τ := ?t02) [8] 7 rfl (by kernel_rfl) (by kernel_rfl) (fun _ _ _ h => h) hJ2 (fun w7 h7 => ?_) ?_; rotate_left
    · simp only [opsL_cons, opsL_nil, List.getElem?_toArray, List.getElem?_cons_zero, List.getElem?_cons_succ, optL_some]
      simp +contextual (maxSteps := 2000000) (disch := (first | omega | (simp only [SZ]; first | done | omega) | (simp only [TS] at *; omega))) only [RZ, ovw, oneC, Nat.reduceAdd, Nat.reduceMul, Nat.reduceSub, Nat.reduceEqDiff, Nat.reduceLT, ↓reduceIte, Int.reduceToNat, Nat.reduceLeDiff]
      exact rfl
    refine Ord_one 11 (by kernel_rfl) rfl ?_
    simp +contextual (maxSteps := 2000000) (disch := (first | omega | (simp only [SZ]; first | done | omega) | (simp only [TS] at *; omega))) only [RZ, ovw, oneC, Nat.reduceAdd, Nat.reduceMul, Nat.reduceSub, Nat.reduceEqDiff, Nat.reduceLT, ↓reduceIte, Int.reduceToNat, Nat.reduceLeDiff]
    refine (rput_any ⟨#[100, 114, 97, 119, 115]⟩ (G.n 7) 1 (u2) (by decide) m7).mono ?_
    rintro e u3 ⟨hB3, p2, rfl, hp2, hq2⟩
    refine ⟨_, rfl, ?_⟩
    have hJ3 := hJ2.trans (hB3.mono hz2)
    have hz3 := hJ3.size
    rw [show bs ⟨#[100, 114, 97, 119, 115]⟩ = asc "draws" by decide +kernel] at hp2
    rw [show (⟨#[100, 114, 97, 119, 115]⟩ : ByteArray).size = 5 from rfl] at hq2
    refine ⟨hJ3, ?_⟩
    refine Ord_reads (τ := ?t03) [12] 5 rfl (by kernel_rfl) (by kernel_rfl) (fun _ _ _ h => h) hJ3 (fun w7 h7 => ?_) ?_; rotate_left
    · simp only [opsL_cons, opsL_nil, List.getElem?_toArray, List.getElem?_cons_zero, List.getElem?_cons_succ, optL_some]
      simp +contextual (maxSteps := 2000000) (disch := (first | omega | (simp only [SZ]; first | done | omega) | (simp only [TS] at *; omega))) only [RZ, ovw, oneC, Nat.reduceAdd, Nat.reduceMul, Nat.reduceSub, Nat.reduceEqDiff, Nat.reduceLT, ↓reduceIte, Int.reduceToNat, Nat.reduceLeDiff]
      exact rfl
    refine Ord_one 17 (by kernel_rfl) rfl ?_
    simp +contextual (maxSteps := 2000000) (disch := (first | omega | (simp only [SZ]; first | done | omega) | (simp only [TS] at *; omega))) only [RZ, ovw, oneC, Nat.reduceAdd, Nat.reduceMul, Nat.reduceSub, Nat.reduceEqDiff, Nat.reduceLT, ↓reduceIte, Int.reduceToNat, Nat.reduceLeDiff]
    refine (rput_any ⟨#[115, 121, 115, 116, 101, 109]⟩ (G.n 8) (G.n 2) (u3) (by decide) m8).mono ?_
    rintro e u4 ⟨hB4, p3, rfl, hp3, hq3⟩
    refine ⟨_, rfl, ?_⟩
    have hJ4 := hJ3.trans (hB4.mono hz3)
    have hz4 := hJ4.size
    rw [show bs ⟨#[115, 121, 115, 116, 101, 109]⟩ = asc "system" by decide +kernel] at hp3
    rw [show (⟨#[115, 121, 115, 116, 101, 109]⟩ : ByteArray).size = 6 from rfl] at hq3
    refine ⟨hJ4, ?_⟩
    refine Ord_reads (τ := ?t04) [18] 3 rfl (by kernel_rfl) (by kernel_rfl) (fun _ _ _ h => h) hJ4 (fun w7 h7 => ?_) ?_; rotate_left
    · simp only [opsL_cons, opsL_nil, List.getElem?_toArray, List.getElem?_cons_zero, List.getElem?_cons_succ, optL_some]
      simp +contextual (maxSteps := 2000000) (disch := (first | omega | (simp only [SZ]; first | done | omega) | (simp only [TS] at *; omega))) only [RZ, ovw, oneC, Nat.reduceAdd, Nat.reduceMul, Nat.reduceSub, Nat.reduceEqDiff, Nat.reduceLT, ↓reduceIte, Int.reduceToNat, Nat.reduceLeDiff]
      exact rfl
    refine Ord_one 20 (by kernel_rfl) rfl ?_
    simp +contextual (maxSteps := 2000000) (disch := (first | omega | (simp only [SZ]; first | done | omega) | (simp only [TS] at *; omega))) only [RZ, ovw, oneC, Nat.reduceAdd, Nat.reduceMul, Nat.reduceSub, Nat.reduceEqDiff, Nat.reduceLT, ↓reduceIte, Int.reduceToNat, Nat.reduceLeDiff]
    refine (rprintDays_any G _ _ (u4) hdc'.1.1.1.1 hdc'.1.1.1.2 hdc'.1.1.2 hdc'.1.2).mono ?_
    rintro e u5 ⟨hB5, pd, rfl, hpd, hqd⟩
    refine ⟨_, rfl, ?_⟩
    have hJ5 := hJ4.trans (hB5.mono hz4)
    have hz5 := hJ5.size
    refine ⟨hJ5, ?_⟩
    refine Ord_chainS _ [21, 22] _ _ _ (by kernel_rfl) ?_
    simp only [opsL_cons, opsL_nil, List.getElem?_toArray, List.getElem?_cons_zero, List.getElem?_cons_succ, optL_some]
    simp +contextual (maxSteps := 2000000) (disch := (first | omega | (simp only [SZ]; first | done | omega) | (simp only [TS] at *; omega))) only [RZ, ovw, oneC, Nat.reduceAdd, Nat.reduceMul, Nat.reduceSub, Nat.reduceEqDiff, Nat.reduceLT, ↓reduceIte, Int.reduceToNat, Nat.reduceLeDiff,  EC_op, EC_nil, hJ5, f1, f3]
    refine ⟨_, rfl, ?_, ?_⟩
    · simp only [bs_append, hp0, hp1, hp2, hp3, hpd]
      simp only [List.append_assoc]
    · simp only [SZ]; omega
  clear f1 f3
  rintro σ w5 ⟨hB5, rD, f1, f3, hpD, hsD⟩
  have hF5 := hF4.trans (hB5.mono hz4)
  have hz5 := hF5.size
  have r5 := r4.below hB5
  refine W_cutS (fun σ wn => Below w5.heap.size w5 wn ∧ ∃ r, σ 1 = .pointer (some ⟨w.heap.size, 0, none⟩) ∧ σ 3 = .string r ∧ bs r = bs rD ++ ((optI (asc "close") (G.n 11) 0).flatMap lineG ++ (optI (asc "cancel") (G.n 12) 0).flatMap lineG ++ (optI (asc "expiry") (G.n 13) 0).flatMap lineG ++ (optI (asc "pool") (G.n 14) 0).flatMap lineG ++ (optI (asc "reserve") (G.n 15) 0).flatMap lineG) ∧ r.size ≤ 1003000) ?_ ?_
  rotate_left
  · have r5' := r5
    rw [W_draw]
    have hJ0 : Below w5.heap.size w5 w5.drew := below_drew (Below.refl _ _)
    refine Raw_ord (fun w' => Below w5.heap.size w5 w') 22 rfl MX ?_
    refine Ord_reads (τ := ?t10) [0, 1, 2, 5, 6, 9, 10, 13, 14, 17, 18] 11 rfl (by kernel_rfl) (by kernel_rfl) (fun _ _ _ h => h) hJ0 (fun w7 h7 => ?_) ?_; rotate_left
    · have r7 := r5.below h7
      have x12 : w7.cell? ⟨w.heap.size, 12, none⟩ = some (.int .i64 (G.n 11)) := r7.cell (i := 12) rfl
      have x13 : w7.cell? ⟨w.heap.size, 13, none⟩ = some (.int .i64 (G.n 12)) := r7.cell (i := 13) rfl
      have x14 : w7.cell? ⟨w.heap.size, 14, none⟩ = some (.int .i64 (G.n 13)) := r7.cell (i := 14) rfl
      have x15 : w7.cell? ⟨w.heap.size, 15, none⟩ = some (.int .i64 (G.n 14)) := r7.cell (i := 15) rfl
      have x16 : w7.cell? ⟨w.heap.size, 16, none⟩ = some (.int .i64 (G.n 15)) := r7.cell (i := 16) rfl
      simp only [opsL_cons, opsL_nil, List.getElem?_toArray, List.getElem?_cons_zero, List.getElem?_cons_succ, optL_some]
      simp +contextual (maxSteps := 2000000) (disch := (first | omega | (simp only [SZ]; first | done | omega) | (simp only [TS] at *; omega))) only [RZ, ovw, oneC, Nat.reduceAdd, Nat.reduceMul, Nat.reduceSub, Nat.reduceEqDiff, Nat.reduceLT, ↓reduceIte, Int.reduceToNat, Nat.reduceLeDiff,  f1, f3, x12, x13, x14, x15, x16]
      exact rfl
    refine Ord_one 3 (by kernel_rfl) rfl ?_
    simp +contextual (maxSteps := 2000000) (disch := (first | omega | (simp only [SZ]; first | done | omega) | (simp only [TS] at *; omega))) only [RZ, ovw, oneC, Nat.reduceAdd, Nat.reduceMul, Nat.reduceSub, Nat.reduceEqDiff, Nat.reduceLT, ↓reduceIte, Int.reduceToNat, Nat.reduceLeDiff]
    refine (rput_any ⟨#[99, 108, 111, 115, 101]⟩ (G.n 11) 0 (w5.drew) (by decide) m11).mono ?_
    rintro e u1 ⟨hB1, p0, rfl, hp0, hq0⟩
    refine ⟨_, rfl, ?_⟩
    have hJ1 := hJ0.trans hB1
    have hz1 := hJ1.size
    rw [show bs ⟨#[99, 108, 111, 115, 101]⟩ = asc "close" by decide +kernel] at hp0
    rw [show (⟨#[99, 108, 111, 115, 101]⟩ : ByteArray).size = 5 from rfl] at hq0
    refine ⟨hJ1, ?_⟩
    refine Ord_reads (τ := ?t11) [4] 9 rfl (by kernel_rfl) (by kernel_rfl) (fun _ _ _ h => h) hJ1 (fun w7 h7 => ?_) ?_; rotate_left
    · simp only [opsL_cons, opsL_nil, List.getElem?_toArray, List.getElem?_cons_zero, List.getElem?_cons_succ, optL_some]
      simp +contextual (maxSteps := 2000000) (disch := (first | omega | (simp only [SZ]; first | done | omega) | (simp only [TS] at *; omega))) only [RZ, ovw, oneC, Nat.reduceAdd, Nat.reduceMul, Nat.reduceSub, Nat.reduceEqDiff, Nat.reduceLT, ↓reduceIte, Int.reduceToNat, Nat.reduceLeDiff]
      exact rfl
    refine Ord_one 7 (by kernel_rfl) rfl ?_
    simp +contextual (maxSteps := 2000000) (disch := (first | omega | (simp only [SZ]; first | done | omega) | (simp only [TS] at *; omega))) only [RZ, ovw, oneC, Nat.reduceAdd, Nat.reduceMul, Nat.reduceSub, Nat.reduceEqDiff, Nat.reduceLT, ↓reduceIte, Int.reduceToNat, Nat.reduceLeDiff]
    refine (rput_any ⟨#[99, 97, 110, 99, 101, 108]⟩ (G.n 12) 0 (u1) (by decide) m12).mono ?_
    rintro e u2 ⟨hB2, p1, rfl, hp1, hq1⟩
    refine ⟨_, rfl, ?_⟩
    have hJ2 := hJ1.trans (hB2.mono hz1)
    have hz2 := hJ2.size
    rw [show bs ⟨#[99, 97, 110, 99, 101, 108]⟩ = asc "cancel" by decide +kernel] at hp1
    rw [show (⟨#[99, 97, 110, 99, 101, 108]⟩ : ByteArray).size = 6 from rfl] at hq1
    refine ⟨hJ2, ?_⟩
    refine Ord_reads (τ := ?t12) [8] 7 rfl (by kernel_rfl) (by kernel_rfl) (fun _ _ _ h => h) hJ2 (fun w7 h7 => ?_) ?_; rotate_left
    · simp only [opsL_cons, opsL_nil, List.getElem?_toArray, List.getElem?_cons_zero, List.getElem?_cons_succ, optL_some]
      simp +contextual (maxSteps := 2000000) (disch := (first | omega | (simp only [SZ]; first | done | omega) | (simp only [TS] at *; omega))) only [RZ, ovw, oneC, Nat.reduceAdd, Nat.reduceMul, Nat.reduceSub, Nat.reduceEqDiff, Nat.reduceLT, ↓reduceIte, Int.reduceToNat, Nat.reduceLeDiff]
      exact rfl
    refine Ord_one 11 (by kernel_rfl) rfl ?_
    simp +contextual (maxSteps := 2000000) (disch := (first | omega | (simp only [SZ]; first | done | omega) | (simp only [TS] at *; omega))) only [RZ, ovw, oneC, Nat.reduceAdd, Nat.reduceMul, Nat.reduceSub, Nat.reduceEqDiff, Nat.reduceLT, ↓reduceIte, Int.reduceToNat, Nat.reduceLeDiff]
    refine (rput_any ⟨#[101, 120, 112, 105, 114, 121]⟩ (G.n 13) 0 (u2) (by decide) m13).mono ?_
    rintro e u3 ⟨hB3, p2, rfl, hp2, hq2⟩
    refine ⟨_, rfl, ?_⟩
    have hJ3 := hJ2.trans (hB3.mono hz2)
    have hz3 := hJ3.size
    rw [show bs ⟨#[101, 120, 112, 105, 114, 121]⟩ = asc "expiry" by decide +kernel] at hp2
    rw [show (⟨#[101, 120, 112, 105, 114, 121]⟩ : ByteArray).size = 6 from rfl] at hq2
    refine ⟨hJ3, ?_⟩
    refine Ord_reads (τ := ?t13) [12] 5 rfl (by kernel_rfl) (by kernel_rfl) (fun _ _ _ h => h) hJ3 (fun w7 h7 => ?_) ?_; rotate_left
    · simp only [opsL_cons, opsL_nil, List.getElem?_toArray, List.getElem?_cons_zero, List.getElem?_cons_succ, optL_some]
      simp +contextual (maxSteps := 2000000) (disch := (first | omega | (simp only [SZ]; first | done | omega) | (simp only [TS] at *; omega))) only [RZ, ovw, oneC, Nat.reduceAdd, Nat.reduceMul, Nat.reduceSub, Nat.reduceEqDiff, Nat.reduceLT, ↓reduceIte, Int.reduceToNat, Nat.reduceLeDiff]
      exact rfl
    refine Ord_one 15 (by kernel_rfl) rfl ?_
    simp +contextual (maxSteps := 2000000) (disch := (first | omega | (simp only [SZ]; first | done | omega) | (simp only [TS] at *; omega))) only [RZ, ovw, oneC, Nat.reduceAdd, Nat.reduceMul, Nat.reduceSub, Nat.reduceEqDiff, Nat.reduceLT, ↓reduceIte, Int.reduceToNat, Nat.reduceLeDiff]
    refine (rput_any ⟨#[112, 111, 111, 108]⟩ (G.n 14) 0 (u3) (by decide) m14).mono ?_
    rintro e u4 ⟨hB4, p3, rfl, hp3, hq3⟩
    refine ⟨_, rfl, ?_⟩
    have hJ4 := hJ3.trans (hB4.mono hz3)
    have hz4 := hJ4.size
    rw [show bs ⟨#[112, 111, 111, 108]⟩ = asc "pool" by decide +kernel] at hp3
    rw [show (⟨#[112, 111, 111, 108]⟩ : ByteArray).size = 4 from rfl] at hq3
    refine ⟨hJ4, ?_⟩
    refine Ord_reads (τ := ?t14) [16] 3 rfl (by kernel_rfl) (by kernel_rfl) (fun _ _ _ h => h) hJ4 (fun w7 h7 => ?_) ?_; rotate_left
    · simp only [opsL_cons, opsL_nil, List.getElem?_toArray, List.getElem?_cons_zero, List.getElem?_cons_succ, optL_some]
      simp +contextual (maxSteps := 2000000) (disch := (first | omega | (simp only [SZ]; first | done | omega) | (simp only [TS] at *; omega))) only [RZ, ovw, oneC, Nat.reduceAdd, Nat.reduceMul, Nat.reduceSub, Nat.reduceEqDiff, Nat.reduceLT, ↓reduceIte, Int.reduceToNat, Nat.reduceLeDiff]
      exact rfl
    refine Ord_one 19 (by kernel_rfl) rfl ?_
    simp +contextual (maxSteps := 2000000) (disch := (first | omega | (simp only [SZ]; first | done | omega) | (simp only [TS] at *; omega))) only [RZ, ovw, oneC, Nat.reduceAdd, Nat.reduceMul, Nat.reduceSub, Nat.reduceEqDiff, Nat.reduceLT, ↓reduceIte, Int.reduceToNat, Nat.reduceLeDiff]
    refine (rput_any ⟨#[114, 101, 115, 101, 114, 118, 101]⟩ (G.n 15) 0 (u4) (by decide) m15).mono ?_
    rintro e u5 ⟨hB5, p4, rfl, hp4, hq4⟩
    refine ⟨_, rfl, ?_⟩
    have hJ5 := hJ4.trans (hB5.mono hz4)
    have hz5 := hJ5.size
    rw [show bs ⟨#[114, 101, 115, 101, 114, 118, 101]⟩ = asc "reserve" by decide +kernel] at hp4
    rw [show (⟨#[114, 101, 115, 101, 114, 118, 101]⟩ : ByteArray).size = 7 from rfl] at hq4
    refine ⟨hJ5, ?_⟩
    refine Ord_chainS _ [20, 21] _ _ _ (by kernel_rfl) ?_
    simp only [opsL_cons, opsL_nil, List.getElem?_toArray, List.getElem?_cons_zero, List.getElem?_cons_succ, optL_some]
    simp +contextual (maxSteps := 2000000) (disch := (first | omega | (simp only [SZ]; first | done | omega) | (simp only [TS] at *; omega))) only [RZ, ovw, oneC, Nat.reduceAdd, Nat.reduceMul, Nat.reduceSub, Nat.reduceEqDiff, Nat.reduceLT, ↓reduceIte, Int.reduceToNat, Nat.reduceLeDiff,  EC_op, EC_nil, hJ5, f1, f3]
    refine ⟨_, rfl, ?_, ?_⟩
    · simp only [bs_append, hp0, hp1, hp2, hp3, hp4]
      simp only [List.append_assoc]
    · simp only [SZ]; omega
  clear f1 f3
  rintro σ w6 ⟨hB6, rE, f1, f3, hpE, hsE⟩
  have hF6 := hF5.trans (hB6.mono hz5)
  have hz6 := hF6.size
  have r6 := r5.below hB6
  refine W_cutS (fun σ wn => Below w6.heap.size w6 wn ∧ ∃ r, σ 1 = .pointer (some ⟨w.heap.size, 0, none⟩) ∧ σ 3 = .string r ∧ bs r = bs rE ++ ((optI (asc "round") (G.n 16) 1).flatMap lineG ++ (optI (asc "cap") (G.n 17) 0).flatMap lineG ++ (optI (asc "rolls") (G.n 18) 0).flatMap lineG) ∧ r.size ≤ 1004000) ?_ ?_
  rotate_left
  · have r6' := r6
    rw [W_draw]
    have hJ0 : Below w6.heap.size w6 w6.drew := below_drew (Below.refl _ _)
    refine Raw_ord (fun w' => Below w6.heap.size w6 w') 14 rfl MX ?_
    refine Ord_reads (τ := ?t20) [0, 1, 2, 5, 6, 9, 10] 7 rfl (by kernel_rfl) (by kernel_rfl) (fun _ _ _ h => h) hJ0 (fun w7 h7 => ?_) ?_; rotate_left
    · have r7 := r6.below h7
      have x17 : w7.cell? ⟨w.heap.size, 17, none⟩ = some (.int .i64 (G.n 16)) := r7.cell (i := 17) rfl
      have x18 : w7.cell? ⟨w.heap.size, 18, none⟩ = some (.int .i64 (G.n 17)) := r7.cell (i := 18) rfl
      have x19 : w7.cell? ⟨w.heap.size, 19, none⟩ = some (.int .i64 (G.n 18)) := r7.cell (i := 19) rfl
      simp only [opsL_cons, opsL_nil, List.getElem?_toArray, List.getElem?_cons_zero, List.getElem?_cons_succ, optL_some]
      simp +contextual (maxSteps := 2000000) (disch := (first | omega | (simp only [SZ]; first | done | omega) | (simp only [TS] at *; omega))) only [RZ, ovw, oneC, Nat.reduceAdd, Nat.reduceMul, Nat.reduceSub, Nat.reduceEqDiff, Nat.reduceLT, ↓reduceIte, Int.reduceToNat, Nat.reduceLeDiff,  f1, f3, x17, x18, x19]
      exact rfl
    refine Ord_one 3 (by kernel_rfl) rfl ?_
    simp +contextual (maxSteps := 2000000) (disch := (first | omega | (simp only [SZ]; first | done | omega) | (simp only [TS] at *; omega))) only [RZ, ovw, oneC, Nat.reduceAdd, Nat.reduceMul, Nat.reduceSub, Nat.reduceEqDiff, Nat.reduceLT, ↓reduceIte, Int.reduceToNat, Nat.reduceLeDiff]
    refine (rput_any ⟨#[114, 111, 117, 110, 100]⟩ (G.n 16) 1 (w6.drew) (by decide) m16).mono ?_
    rintro e u1 ⟨hB1, p0, rfl, hp0, hq0⟩
    refine ⟨_, rfl, ?_⟩
    have hJ1 := hJ0.trans hB1
    have hz1 := hJ1.size
    rw [show bs ⟨#[114, 111, 117, 110, 100]⟩ = asc "round" by decide +kernel] at hp0
    rw [show (⟨#[114, 111, 117, 110, 100]⟩ : ByteArray).size = 5 from rfl] at hq0
    refine ⟨hJ1, ?_⟩
    refine Ord_reads (τ := ?t21) [4] 5 rfl (by kernel_rfl) (by kernel_rfl) (fun _ _ _ h => h) hJ1 (fun w7 h7 => ?_) ?_; rotate_left
    · simp only [opsL_cons, opsL_nil, List.getElem?_toArray, List.getElem?_cons_zero, List.getElem?_cons_succ, optL_some]
      simp +contextual (maxSteps := 2000000) (disch := (first | omega | (simp only [SZ]; first | done | omega) | (simp only [TS] at *; omega))) only [RZ, ovw, oneC, Nat.reduceAdd, Nat.reduceMul, Nat.reduceSub, Nat.reduceEqDiff, Nat.reduceLT, ↓reduceIte, Int.reduceToNat, Nat.reduceLeDiff]
      exact rfl
    refine Ord_one 7 (by kernel_rfl) rfl ?_
    simp +contextual (maxSteps := 2000000) (disch := (first | omega | (simp only [SZ]; first | done | omega) | (simp only [TS] at *; omega))) only [RZ, ovw, oneC, Nat.reduceAdd, Nat.reduceMul, Nat.reduceSub, Nat.reduceEqDiff, Nat.reduceLT, ↓reduceIte, Int.reduceToNat, Nat.reduceLeDiff]
    refine (rput_any ⟨#[99, 97, 112]⟩ (G.n 17) 0 (u1) (by decide) m17).mono ?_
    rintro e u2 ⟨hB2, p1, rfl, hp1, hq1⟩
    refine ⟨_, rfl, ?_⟩
    have hJ2 := hJ1.trans (hB2.mono hz1)
    have hz2 := hJ2.size
    rw [show bs ⟨#[99, 97, 112]⟩ = asc "cap" by decide +kernel] at hp1
    rw [show (⟨#[99, 97, 112]⟩ : ByteArray).size = 3 from rfl] at hq1
    refine ⟨hJ2, ?_⟩
    refine Ord_reads (τ := ?t22) [8] 3 rfl (by kernel_rfl) (by kernel_rfl) (fun _ _ _ h => h) hJ2 (fun w7 h7 => ?_) ?_; rotate_left
    · simp only [opsL_cons, opsL_nil, List.getElem?_toArray, List.getElem?_cons_zero, List.getElem?_cons_succ, optL_some]
      simp +contextual (maxSteps := 2000000) (disch := (first | omega | (simp only [SZ]; first | done | omega) | (simp only [TS] at *; omega))) only [RZ, ovw, oneC, Nat.reduceAdd, Nat.reduceMul, Nat.reduceSub, Nat.reduceEqDiff, Nat.reduceLT, ↓reduceIte, Int.reduceToNat, Nat.reduceLeDiff]
      exact rfl
    refine Ord_one 11 (by kernel_rfl) rfl ?_
    simp +contextual (maxSteps := 2000000) (disch := (first | omega | (simp only [SZ]; first | done | omega) | (simp only [TS] at *; omega))) only [RZ, ovw, oneC, Nat.reduceAdd, Nat.reduceMul, Nat.reduceSub, Nat.reduceEqDiff, Nat.reduceLT, ↓reduceIte, Int.reduceToNat, Nat.reduceLeDiff]
    refine (rput_any ⟨#[114, 111, 108, 108, 115]⟩ (G.n 18) 0 (u2) (by decide) m18).mono ?_
    rintro e u3 ⟨hB3, p2, rfl, hp2, hq2⟩
    refine ⟨_, rfl, ?_⟩
    have hJ3 := hJ2.trans (hB3.mono hz2)
    have hz3 := hJ3.size
    rw [show bs ⟨#[114, 111, 108, 108, 115]⟩ = asc "rolls" by decide +kernel] at hp2
    rw [show (⟨#[114, 111, 108, 108, 115]⟩ : ByteArray).size = 5 from rfl] at hq2
    refine ⟨hJ3, ?_⟩
    refine Ord_chainS _ [12, 13] _ _ _ (by kernel_rfl) ?_
    simp only [opsL_cons, opsL_nil, List.getElem?_toArray, List.getElem?_cons_zero, List.getElem?_cons_succ, optL_some]
    simp +contextual (maxSteps := 2000000) (disch := (first | omega | (simp only [SZ]; first | done | omega) | (simp only [TS] at *; omega))) only [RZ, ovw, oneC, Nat.reduceAdd, Nat.reduceMul, Nat.reduceSub, Nat.reduceEqDiff, Nat.reduceLT, ↓reduceIte, Int.reduceToNat, Nat.reduceLeDiff,  EC_op, EC_nil, hJ3, f1, f3]
    refine ⟨_, rfl, ?_, ?_⟩
    · simp only [bs_append, hp0, hp1, hp2]
      simp only [List.append_assoc]
    · simp only [SZ]; omega
  clear f1 f3
  rintro σ w7 ⟨hB7, rF, f1, f3, hpF, hsF⟩
  have hF7 := hF6.trans (hB7.mono hz6)
  have hz7 := hF7.size
  have r7 := r6.below hB7
  refine W_cutS (fun σ wn => Below w7.heap.size w7 wn ∧ ∃ r, σ 1 = .pointer (some ⟨w.heap.size, 0, none⟩) ∧ σ 3 = .string r ∧ bs r = bs rF ++ (G.addons.map It.addon).flatMap lineG ∧ r.size ≤ 100000001004000) ?_ ?_
  rotate_left
  · refine W_piece fun K hK hX => ?_
    simp +contextual (maxSteps := 2000000) (disch := (first | omega | (simp only [SZ]; first | done | omega) | (simp only [TS] at *; omega))) only [RZ, ovw, oneC, Nat.reduceAdd, Nat.reduceMul, Nat.reduceSub, Nat.reduceEqDiff, Nat.reduceLT, ↓reduceIte, Int.reduceToNat, Nat.reduceLeDiff,  f1, f3]
    refine hK _ _ ?_
    clear hK hX K
    rw [W_block, W_loop]
    refine Raw_loop (fun σ wn => Below w7.heap.size w7 wn ∧ ∃ (k : Nat) (r : ByteArray), k ≤ G.addons.length ∧ bs r = bs rF ++ ((G.addons.take k).map It.addon).flatMap lineG ∧ r.size ≤ 1004000 + 100000000 * k ∧ σ 1 = .pointer (some ⟨w.heap.size, 0, none⟩) ∧ σ 3 = .string r ∧ σ 4 = .int .i64 k) (fun σ _ => G.addons.length - (intOf (σ 4)).toNat) ?_ ?_
    · refine ⟨Below.refl _ _, 0, rF, Nat.zero_le _, by simp, by omega, ?_⟩
      simp +contextual (maxSteps := 2000000) (disch := (first | omega | (simp only [SZ]; first | done | omega) | (simp only [TS] at *; omega))) only [RZ, ovw, oneC, Nat.reduceAdd, Nat.reduceMul, Nat.reduceSub, Nat.reduceEqDiff, Nat.reduceLT, ↓reduceIte, Int.reduceToNat, Nat.reduceLeDiff,  f1, f3]
      rfl
    clear f1 f3
    rintro σ wk ⟨hbk, k, r, hkl, hr, hrs, f1, f3, fk⟩ K hK
    have rk := r7.below hbk
    have hFk := hF7.trans (hbk.mono hz7)
    have cc : wk.cell? ⟨w.heap.size, 20, none⟩ = some (.slice Aa G.addons.length ca) := rk.cell (i := 20) rfl
    refine W_piece fun K1 hK1 hX1 => ?_
    refine W_piece fun K2 hK2 hX2 => ?_
    simp +contextual (maxSteps := 2000000) (disch := (first | omega | (simp only [SZ]; first | done | omega) | (simp only [TS] at *; omega))) only [RZ, ovw, oneC, Nat.reduceAdd, Nat.reduceMul, Nat.reduceSub, Nat.reduceEqDiff, Nat.reduceLT, ↓reduceIte, Int.reduceToNat, Nat.reduceLeDiff,  f1, f3, fk, cc]
    refine hK2 _ _ ?_
    clear hK2 hX2 K2
    (refine W_if rfl (fun hc => ?_) (fun hc => ?_) <;> (try simp only [TS] at hc))
    · have hkl2 : k < G.addons.length := by omega
      obtain ⟨a, ha⟩ : ∃ a, G.addons[k]? = some a := ⟨_, List.getElem?_eq_getElem hkl2⟩
      obtain ⟨cv1, hcv⟩ : ∃ c, Vs[k]? = some c := ⟨_, List.getElem?_eq_getElem (by rw [hads.1]; exact hkl2)⟩
      obtain ⟨vf, vs, rfl, hvf, hvs⟩ := hads.2 k _ a hcv ha
      obtain ⟨b2, o2, rfl, hbb2, hcell⟩ := (hAa.below hFk) (by rw [hads.1]; omega)
      have hla : vLoad Tryz.prog 45 (.pointer (some ⟨b2, o2 + k * 6, none⟩)) wk = .ok (.value (.agg (encAd a vf vs).toArray)) wk := vLoad_all (by kernel_rfl) (by show _ = some 6; kernel_rfl) (fun i v hv => hcell k _ hcv i v hv)
      obtain ⟨e1, e2, e3⟩ := hadl a (List.mem_of_getElem? ha)
      obtain ⟨g1, g2, g3, g4⟩ := ad_nums (hadf a (List.mem_of_getElem? ha))
      rw [W_skip]
      refine hK1 _ _ ?_
      clear hK1 hX1 K1
      refine W_piece fun K1 hK1 hX1 => ?_
      rw [W_block]
      simp +contextual (maxSteps := 2000000) (disch := (first | omega | (simp only [SZ]; first | done | omega) | (simp only [TS] at *; omega))) only [RZ, ovw, oneC, Nat.reduceAdd, Nat.reduceMul, Nat.reduceSub, Nat.reduceEqDiff, Nat.reduceLT, ↓reduceIte, Int.reduceToNat, Nat.reduceLeDiff,  f1, f3, fk, cc, hla]
      refine (rprintAddon_any a vf vs wk (hvf.below hFk) (hvs.below hFk) e1 e2 e3 g1 g2 g3 g4).mono ?_
      rintro e wl ⟨hBl, rl, rfl, hrl, hsl⟩
      refine ⟨_, rfl, ?_⟩
      try simp +contextual (maxSteps := 2000000) (disch := (first | omega | (simp only [SZ]; first | done | omega) | (simp only [TS] at *; omega))) only [RZ, ovw, oneC, Nat.reduceAdd, Nat.reduceMul, Nat.reduceSub, Nat.reduceEqDiff, Nat.reduceLT, ↓reduceIte, Int.reduceToNat, Nat.reduceLeDiff,  f1, f3, fk]
      refine hK1 _ _ ?_
      clear hK1 hX1 K1
      simp +contextual (maxSteps := 2000000) (disch := (first | omega | (simp only [SZ]; first | done | omega) | (simp only [TS] at *; omega))) only [RZ, ovw, oneC, Nat.reduceAdd, Nat.reduceMul, Nat.reduceSub, Nat.reduceEqDiff, Nat.reduceLT, ↓reduceIte, Int.reduceToNat, Nat.reduceLeDiff,  f1, f3, fk]
      refine hK _ _ ⟨hbk.trans (hBl.mono hbk.size), k + 1, _, by omega, ?_, ?_, ?_, rfl, ?_⟩ ?_
      · rw [bs_append, hr, hrl, List.take_add_one, ha]
        simp
      · simp only [SZ]; omega
      · simp +contextual (maxSteps := 2000000) (disch := (first | omega | (simp only [SZ]; first | done | omega) | (simp only [TS] at *; omega))) only [RZ, ovw, oneC, Nat.reduceAdd, Nat.reduceMul, Nat.reduceSub, Nat.reduceEqDiff, Nat.reduceLT, ↓reduceIte, Int.reduceToNat, Nat.reduceLeDiff,  f1, f3, fk]
      · simp +contextual (maxSteps := 2000000) (disch := (first | omega | (simp only [SZ]; first | done | omega) | (simp only [TS] at *; omega))) only [RZ, ovw, oneC, Nat.reduceAdd, Nat.reduceMul, Nat.reduceSub, Nat.reduceEqDiff, Nat.reduceLT, ↓reduceIte, Int.reduceToNat, Nat.reduceLeDiff,  f1, f3, fk]
      · simp +contextual (maxSteps := 2000000) (disch := (first | omega | (simp only [SZ]; first | done | omega) | (simp only [TS] at *; omega))) only [RZ, ovw, oneC, Nat.reduceAdd, Nat.reduceMul, Nat.reduceSub, Nat.reduceEqDiff, Nat.reduceLT, ↓reduceIte, Int.reduceToNat, Nat.reduceLeDiff,  intOf, fk]
        omega
    · have hkz : k = G.addons.length := by omega
      subst hkz
      rw [List.take_length] at hr
      simp +contextual (maxSteps := 2000000) (disch := (first | omega | (simp only [SZ]; first | done | omega) | (simp only [TS] at *; omega))) only [RZ, ovw, oneC, Nat.reduceAdd, Nat.reduceMul, Nat.reduceSub, Nat.reduceEqDiff, Nat.reduceLT, ↓reduceIte, Int.reduceToNat, Nat.reduceLeDiff,  f1, f3, fk]
      refine hX1 _ _ _ (fun h => by cases h) ?_
      simp +contextual (maxSteps := 2000000) (disch := (first | omega | (simp only [SZ]; first | done | omega) | (simp only [TS] at *; omega))) only [RZ, ovw, oneC, Nat.reduceAdd, Nat.reduceMul, Nat.reduceSub, Nat.reduceEqDiff, Nat.reduceLT, ↓reduceIte, Int.reduceToNat, Nat.reduceLeDiff,  f1, f3, fk]
      exact ⟨hbk, r, by first | exact ⟨rfl, hr, by omega⟩ | exact ⟨hr, by omega⟩⟩
  clear f1 f3
  rintro σ w8 ⟨hB8, rG, f1, f3, hpG, hsG⟩
  have hF8 := hF7.trans (hB8.mono hz7)
  have hz8 := hF8.size
  have r8 := r7.below hB8
  refine W_cutS (fun σ wn => Below w8.heap.size w8 wn ∧ ∃ r, σ 1 = .pointer (some ⟨w.heap.size, 0, none⟩) ∧ σ 3 = .string r ∧ bs r = bs rG ++ (G.tiers.map It.tier).flatMap lineG ∧ r.size ≤ 200000001004000) ?_ ?_
  rotate_left
  · refine W_piece fun K hK hX => ?_
    simp +contextual (maxSteps := 2000000) (disch := (first | omega | (simp only [SZ]; first | done | omega) | (simp only [TS] at *; omega))) only [RZ, ovw, oneC, Nat.reduceAdd, Nat.reduceMul, Nat.reduceSub, Nat.reduceEqDiff, Nat.reduceLT, ↓reduceIte, Int.reduceToNat, Nat.reduceLeDiff,  f1, f3]
    refine hK _ _ ?_
    clear hK hX K
    rw [W_block, W_loop]
    refine Raw_loop (fun σ wn => Below w8.heap.size w8 wn ∧ ∃ (k : Nat) (r : ByteArray), k ≤ G.tiers.length ∧ bs r = bs rG ++ ((G.tiers.take k).map It.tier).flatMap lineG ∧ r.size ≤ 100000001004000 + 100000000 * k ∧ σ 1 = .pointer (some ⟨w.heap.size, 0, none⟩) ∧ σ 3 = .string r ∧ σ 5 = .int .i64 k) (fun σ _ => G.tiers.length - (intOf (σ 5)).toNat) ?_ ?_
    · refine ⟨Below.refl _ _, 0, rG, Nat.zero_le _, by simp, by omega, ?_⟩
      simp +contextual (maxSteps := 2000000) (disch := (first | omega | (simp only [SZ]; first | done | omega) | (simp only [TS] at *; omega))) only [RZ, ovw, oneC, Nat.reduceAdd, Nat.reduceMul, Nat.reduceSub, Nat.reduceEqDiff, Nat.reduceLT, ↓reduceIte, Int.reduceToNat, Nat.reduceLeDiff,  f1, f3]
      rfl
    clear f1 f3
    rintro σ wk ⟨hbk, k, r, hkl, hr, hrs, f1, f3, fk⟩ K hK
    have rk := r8.below hbk
    have hFk := hF8.trans (hbk.mono hz8)
    have cc : wk.cell? ⟨w.heap.size, 21, none⟩ = some (.slice At G.tiers.length ct) := rk.cell (i := 21) rfl
    refine W_piece fun K1 hK1 hX1 => ?_
    refine W_piece fun K2 hK2 hX2 => ?_
    simp +contextual (maxSteps := 2000000) (disch := (first | omega | (simp only [SZ]; first | done | omega) | (simp only [TS] at *; omega))) only [RZ, ovw, oneC, Nat.reduceAdd, Nat.reduceMul, Nat.reduceSub, Nat.reduceEqDiff, Nat.reduceLT, ↓reduceIte, Int.reduceToNat, Nat.reduceLeDiff,  f1, f3, fk, cc]
    refine hK2 _ _ ?_
    clear hK2 hX2 K2
    (refine W_if rfl (fun hc => ?_) (fun hc => ?_) <;> (try simp only [TS] at hc))
    · have hkl2 : k < G.tiers.length := by omega
      obtain ⟨a, ha⟩ : ∃ a, G.tiers[k]? = some a := ⟨_, List.getElem?_eq_getElem hkl2⟩
      obtain ⟨b2, o2, rfl, hbb2, hcell⟩ := (hAt.below hFk).at_ (enc := encTi) ha
      have hla : vLoad Tryz.prog 41 (.pointer (some ⟨b2, o2 + k * 6, none⟩)) wk = .ok (.value (.agg (encTi a).toArray)) wk := vLoad_all (by kernel_rfl) (by show _ = some 6; kernel_rfl) (fun i v hv => hcell i v hv)
      obtain ⟨g1, g2, g3, g4, g5, g6⟩ := ti_nums (htif a (List.mem_of_getElem? ha))
      rw [W_skip]
      refine hK1 _ _ ?_
      clear hK1 hX1 K1
      refine W_piece fun K1 hK1 hX1 => ?_
      rw [W_block]
      simp +contextual (maxSteps := 2000000) (disch := (first | omega | (simp only [SZ]; first | done | omega) | (simp only [TS] at *; omega))) only [RZ, ovw, oneC, Nat.reduceAdd, Nat.reduceMul, Nat.reduceSub, Nat.reduceEqDiff, Nat.reduceLT, ↓reduceIte, Int.reduceToNat, Nat.reduceLeDiff,  f1, f3, fk, cc, hla]
      refine (rprintTier_any a wk g1 g2 g3 g4 g5 g6).mono ?_
      rintro e wl ⟨hBl, rl, rfl, hrl, hsl⟩
      refine ⟨_, rfl, ?_⟩
      try simp +contextual (maxSteps := 2000000) (disch := (first | omega | (simp only [SZ]; first | done | omega) | (simp only [TS] at *; omega))) only [RZ, ovw, oneC, Nat.reduceAdd, Nat.reduceMul, Nat.reduceSub, Nat.reduceEqDiff, Nat.reduceLT, ↓reduceIte, Int.reduceToNat, Nat.reduceLeDiff,  f1, f3, fk]
      refine hK1 _ _ ?_
      clear hK1 hX1 K1
      simp +contextual (maxSteps := 2000000) (disch := (first | omega | (simp only [SZ]; first | done | omega) | (simp only [TS] at *; omega))) only [RZ, ovw, oneC, Nat.reduceAdd, Nat.reduceMul, Nat.reduceSub, Nat.reduceEqDiff, Nat.reduceLT, ↓reduceIte, Int.reduceToNat, Nat.reduceLeDiff,  f1, f3, fk]
      refine hK _ _ ⟨hbk.trans (hBl.mono hbk.size), k + 1, _, by omega, ?_, ?_, ?_, rfl, ?_⟩ ?_
      · rw [bs_append, hr, hrl, List.take_add_one, ha]
        simp
      · simp only [SZ]; omega
      · simp +contextual (maxSteps := 2000000) (disch := (first | omega | (simp only [SZ]; first | done | omega) | (simp only [TS] at *; omega))) only [RZ, ovw, oneC, Nat.reduceAdd, Nat.reduceMul, Nat.reduceSub, Nat.reduceEqDiff, Nat.reduceLT, ↓reduceIte, Int.reduceToNat, Nat.reduceLeDiff,  f1, f3, fk]
      · simp +contextual (maxSteps := 2000000) (disch := (first | omega | (simp only [SZ]; first | done | omega) | (simp only [TS] at *; omega))) only [RZ, ovw, oneC, Nat.reduceAdd, Nat.reduceMul, Nat.reduceSub, Nat.reduceEqDiff, Nat.reduceLT, ↓reduceIte, Int.reduceToNat, Nat.reduceLeDiff,  f1, f3, fk]
      · simp +contextual (maxSteps := 2000000) (disch := (first | omega | (simp only [SZ]; first | done | omega) | (simp only [TS] at *; omega))) only [RZ, ovw, oneC, Nat.reduceAdd, Nat.reduceMul, Nat.reduceSub, Nat.reduceEqDiff, Nat.reduceLT, ↓reduceIte, Int.reduceToNat, Nat.reduceLeDiff,  intOf, fk]
        omega
    · have hkz : k = G.tiers.length := by omega
      subst hkz
      rw [List.take_length] at hr
      simp +contextual (maxSteps := 2000000) (disch := (first | omega | (simp only [SZ]; first | done | omega) | (simp only [TS] at *; omega))) only [RZ, ovw, oneC, Nat.reduceAdd, Nat.reduceMul, Nat.reduceSub, Nat.reduceEqDiff, Nat.reduceLT, ↓reduceIte, Int.reduceToNat, Nat.reduceLeDiff,  f1, f3, fk]
      refine hX1 _ _ _ (fun h => by cases h) ?_
      simp +contextual (maxSteps := 2000000) (disch := (first | omega | (simp only [SZ]; first | done | omega) | (simp only [TS] at *; omega))) only [RZ, ovw, oneC, Nat.reduceAdd, Nat.reduceMul, Nat.reduceSub, Nat.reduceEqDiff, Nat.reduceLT, ↓reduceIte, Int.reduceToNat, Nat.reduceLeDiff,  f1, f3, fk]
      exact ⟨hbk, r, by first | exact ⟨rfl, hr, by omega⟩ | exact ⟨hr, by omega⟩⟩
  clear f1 f3
  rintro σ w9 ⟨hB9, rH, f1, f3, hpH, hsH⟩
  have hF9 := hF8.trans (hB9.mono hz8)
  have hz9 := hF9.size
  have r9 := r8.below hB9
  have htx : bs (rH ++ ⟨#[125, 10]⟩) = textG G := by
    rw [bs_append, hpH, hpG, hpF, hpE, hpD, hpC, hpB, show bs ⟨#[125, 10]⟩ = asc "}\n" by decide +kernel]
    unfold textG itemsG optsI P0
    rw [headI_is]
    simp only [List.flatMap_append, List.append_assoc, List.flatMap_cons, List.flatMap_nil, List.cons_append, List.nil_append, List.append_nil]
  refine W_piece fun K hK hX => ?_
  simp +contextual (maxSteps := 2000000) (disch := (first | omega | (simp only [SZ]; first | done | omega) | (simp only [TS] at *; omega))) only [RZ, ovw, oneC, Nat.reduceAdd, Nat.reduceMul, Nat.reduceSub, Nat.reduceEqDiff, Nat.reduceLT, ↓reduceIte, Int.reduceToNat, Nat.reduceLeDiff,  f1, f3]
  refine hK _ _ ?_
  clear hK hX K
  have hsz : (rH ++ ⟨#[125, 10]⟩).size = (textG G).length := by rw [← htx, bs_len]
  have hszb : (rH ++ ⟨#[125, 10]⟩).size ≤ 200000001004002 := by simp only [SZ]; omega
  generalize rH ++ ⟨#[125, 10]⟩ = rI at htx hsz hszb ⊢
  refine W_piece fun K hK hX => ?_
  refine W_piece fun K2 hK2 hX2 => ?_
  simp +contextual (maxSteps := 2000000) (disch := (first | omega | (simp only [SZ]; first | done | omega) | (simp only [TS] at *; omega))) only [RZ, ovw, oneC, Nat.reduceAdd, Nat.reduceMul, Nat.reduceSub, Nat.reduceEqDiff, Nat.reduceLT, ↓reduceIte, Int.reduceToNat, Nat.reduceLeDiff,  f1, f3]
  refine hK2 _ _ ?_
  clear hK2 hX2 K2
  by_cases hlong : 32768 < (textG G).length
  · rw [if_neg (by rw [hfine]; simp; omega)] at hrr
    subst hrr
    refine W_if_t (by show Value.bool (decide ((32768 : Int) < (rI.size : Int))) = .bool true; rw [show decide ((32768 : Int) < (rI.size : Int)) = true by simp; omega]) ?_
    refine W_piece fun K2 hK2 hX2 => ?_
    simp +contextual (maxSteps := 2000000) (disch := (first | omega | (simp only [SZ]; first | done | omega) | (simp only [TS] at *; omega))) only [RZ, ovw, oneC, Nat.reduceAdd, Nat.reduceMul, Nat.reduceSub, Nat.reduceEqDiff, Nat.reduceLT, ↓reduceIte, Int.reduceToNat, Nat.reduceLeDiff]
    refine hK2 _ _ ?_
    rw [W_ret]
    refine hX _ _ _ (fun h => by cases h) ?_
    simp +contextual (maxSteps := 2000000) (disch := (first | omega | (simp only [SZ]; first | done | omega) | (simp only [TS] at *; omega))) only [RZ, ovw, oneC, Nat.reduceAdd, Nat.reduceMul, Nat.reduceSub, Nat.reduceEqDiff, Nat.reduceLT, ↓reduceIte, Int.reduceToNat, Nat.reduceLeDiff]
    exact ⟨rfl, hF9⟩
  · rw [if_pos ⟨hfine, by omega⟩] at hrr
    subst hrr
    refine W_if_f (by show Value.bool (decide ((32768 : Int) < (rI.size : Int))) = .bool false; rw [show decide ((32768 : Int) < (rI.size : Int)) = false by simp; omega]) ?_
    rw [W_skip]
    refine hK _ _ ?_
    clear hK hX K
    simp +contextual (maxSteps := 2000000) (disch := (first | omega | (simp only [SZ]; first | done | omega) | (simp only [TS] at *; omega))) only [RZ, ovw, oneC, Nat.reduceAdd, Nat.reduceMul, Nat.reduceSub, Nat.reduceEqDiff, Nat.reduceLT, ↓reduceIte, Int.reduceToNat, Nat.reduceLeDiff,  f1, f3]
    refine ⟨?_, hF9⟩
    rw [← htx, toBA_bs]
end Go.Proofs.YtbdkggnajipdhaaGreatDoor
/- Walk: the law RuletextPrints. -/
namespace Go.Proofs.YtbdkggnajipdhaaGreatDoor
open Go.RowKit
set_option maxRecDepth 100000
section
variable {P : Program} {n : Nat} {ops : Array Oper} {Q : Exit → Sl → World → Prop} {σ : Sl} {w : World} {fuel : Nat} {listed : Array Bool} {S : World → Prop}
theorem Ord_oneg (i : Nat) {d : Option Nat} {op : Op} {ty : TypeId} {p : String} {af : Array Edge} {j : Nat} {b : Bool} (hr : Region.ready .any ops listed = [i]) (hi : ops[i]? = some ⟨d, op, ty, p, af, some (j, b)⟩)
    (h : GB P (isB b (gval σ (gslot ops j))) (run1 P op ty σ w) (fun v w' => S w' ∧ Ord P n ops Q S fuel (listed.setIfInBounds i true) (put n σ d v) w') w) : Ord P n ops Q S (fuel + 1) listed σ w :=
  Ord_all [i] hr (by simp) fun k hk => by
    obtain rfl : k = i := by simpa using hk
    exact OpO_ofg k hi h
end
set_option maxHeartbeats 4000000 in
theorem ruletextPrints_any (G : Gm) (Va Vt : Value) (w : World) (hW : Laid w) (hG : GmIn w Va Vt G) :
    Calls Tryz.prog 4 #[.agg (gmV G Va Vt).toArray] w fun e w' => e = .returned (.bool true) ∧ Below w.heap.size w w' := by
  refine calls_W (l := [_]) Tryz.func4 rfl _ Tryz.ntmps4 (by simp) ?_
  have hw5 := hW.size
  have r0 := Row.new w 26 (gmV G Va Vt)
  have b0 := below_alloc w (.cells (gmV G Va Vt).toArray 26)
  refine W_piece fun K hK hX => ?_
  simp +contextual (maxSteps := 2000000) (disch := (first | omega | (simp only [SZ]; first | done | omega) | (simp only [TS] at *; omega))) only [RZ, ovw, oneC, Nat.reduceAdd, Nat.reduceMul, Nat.reduceSub, Nat.reduceEqDiff, Nat.reduceLT, ↓reduceIte, Int.reduceToNat, Nat.reduceLeDiff]
  refine hK _ _ ?_
  clear hK hX K
  generalize w.alloc (.cells (gmV G Va Vt).toArray 26) = w1 at r0 b0 ⊢
  have hz0 := b0.size
  rw [W_seq, W_draw]
  have hJ0 : Below w1.heap.size w1 w1.drew := below_drew (Below.refl _ _)
  refine Raw_ord (fun w' => Below w1.heap.size w1 w') 17 rfl MX ?_
  refine Ord_reads (τ := ?ta) [0] 16 rfl (by kernel_rfl) (by kernel_rfl) (fun _ _ _ h => h) hJ0 (fun w7 h7 => ?_) ?_; rotate_left
  · have l7 := load_game (r0.below h7)
    simp only [opsL_cons, opsL_nil, List.getElem?_toArray, List.getElem?_cons_zero, List.getElem?_cons_succ, optL_some]
    simp +contextual (maxSteps := 2000000) (disch := (first | omega | (simp only [SZ]; first | done | omega) | (simp only [TS] at *; omega))) only [RZ, ovw, oneC, Nat.reduceAdd, Nat.reduceMul, Nat.reduceSub, Nat.reduceEqDiff, Nat.reduceLT, ↓reduceIte, Int.reduceToNat, Nat.reduceLeDiff,  l7]
    exact rfl
  refine Ord_one 1 (by kernel_rfl) rfl ?_
  simp +contextual (maxSteps := 2000000) (disch := (first | omega | (simp only [SZ]; first | done | omega) | (simp only [TS] at *; omega))) only [RZ, ovw, oneC, Nat.reduceAdd, Nat.reduceMul, Nat.reduceSub, Nat.reduceEqDiff, Nat.reduceLT, ↓reduceIte, Int.reduceToNat, Nat.reduceLeDiff]
  refine (few_any G Va Vt w1.drew (hG.below (b0.trans (hJ0.mono hz0)))).mono ?_
  rintro e u1 ⟨rfl, hB1⟩
  refine ⟨_, rfl, ?_⟩
  have hJ1 := hJ0.trans hB1
  have hz1 := hJ1.size
  refine ⟨hJ1, ?_⟩
  have hF1 := b0.trans (hJ1.mono hz0)
  have hfz := hF1.size
  refine Ord_reads (τ := ?tb) [2, 3] 13 rfl (by kernel_rfl) (by kernel_rfl) (fun _ _ _ h => h) hJ1 (fun w7 h7 => ?_) ?_; rotate_left
  · simp only [opsL_cons, opsL_nil, List.getElem?_toArray, List.getElem?_cons_zero, List.getElem?_cons_succ, optL_some]
    simp +contextual (maxSteps := 2000000) (disch := (first | omega | (simp only [SZ]; first | done | omega) | (simp only [TS] at *; omega))) only [RZ, ovw, oneC, Nat.reduceAdd, Nat.reduceMul, Nat.reduceSub, Nat.reduceEqDiff, Nat.reduceLT, ↓reduceIte, Int.reduceToNat, Nat.reduceLeDiff]
    exact rfl
  cases hfew : fewB G with
  | false =>
    refine Ord_oneg 4 (by kernel_rfl) rfl ?_
    simp +contextual (maxSteps := 2000000) (disch := (first | omega | (simp only [SZ]; first | done | omega) | (simp only [TS] at *; omega))) only [RZ, ovw, oneC, Nat.reduceAdd, Nat.reduceMul, Nat.reduceSub, Nat.reduceEqDiff, Nat.reduceLT, ↓reduceIte, Int.reduceToNat, Nat.reduceLeDiff]
    refine (awake_any u1 (hW.below hF1 hw5) (by omega)).mono ?_
    rintro e u2 ⟨rfl, hB2⟩
    refine ⟨_, rfl, ?_⟩
    have hJ2 := hJ1.trans (hB2.mono hz1)
    refine ⟨hJ2, ?_⟩
    refine Ord_reads (τ := ?tc) [5, 6] 10 rfl (by kernel_rfl) (by kernel_rfl) (fun _ _ _ h => h) hJ2 (fun w7 h7 => ?_) ?_; rotate_left
    · simp only [opsL_cons, opsL_nil, List.getElem?_toArray, List.getElem?_cons_zero, List.getElem?_cons_succ, optL_some]
      simp +contextual (maxSteps := 2000000) (disch := (first | omega | (simp only [SZ]; first | done | omega) | (simp only [TS] at *; omega))) only [RZ, ovw, oneC, Nat.reduceAdd, Nat.reduceMul, Nat.reduceSub, Nat.reduceEqDiff, Nat.reduceLT, ↓reduceIte, Int.reduceToNat, Nat.reduceLeDiff]
      exact rfl
    refine Ord_takeo 7 rfl (by kernel_rfl) (by kernel_rfl) (by kernel_rfl) (fun _ _ _ h => h) hJ2 (by simp +contextual (maxSteps := 2000000) (disch := (first | omega | (simp only [SZ]; first | done | omega) | (simp only [TS] at *; omega))) only [RZ, ovw, oneC, Nat.reduceAdd, Nat.reduceMul, Nat.reduceSub, Nat.reduceEqDiff, Nat.reduceLT, ↓reduceIte, Int.reduceToNat, Nat.reduceLeDiff]) ?_
    refine Ord_takeo 8 rfl (by kernel_rfl) (by kernel_rfl) (by kernel_rfl) (fun _ _ _ h => h) hJ2 (by simp +contextual (maxSteps := 2000000) (disch := (first | omega | (simp only [SZ]; first | done | omega) | (simp only [TS] at *; omega))) only [RZ, ovw, oneC, Nat.reduceAdd, Nat.reduceMul, Nat.reduceSub, Nat.reduceEqDiff, Nat.reduceLT, ↓reduceIte, Int.reduceToNat, Nat.reduceLeDiff]) ?_
    refine Ord_takeo 9 rfl (by kernel_rfl) (by kernel_rfl) (by kernel_rfl) (fun _ _ _ h => h) hJ2 (by simp +contextual (maxSteps := 2000000) (disch := (first | omega | (simp only [SZ]; first | done | omega) | (simp only [TS] at *; omega))) only [RZ, ovw, oneC, Nat.reduceAdd, Nat.reduceMul, Nat.reduceSub, Nat.reduceEqDiff, Nat.reduceLT, ↓reduceIte, Int.reduceToNat, Nat.reduceLeDiff]) ?_
    refine Ord_chainS _ [10, 11, 12, 13, 14, 15, 16] _ _ _ (by kernel_rfl) ?_
    simp only [opsL_cons, opsL_nil, List.getElem?_toArray, List.getElem?_cons_zero, List.getElem?_cons_succ, optL_some]
    simp +contextual (maxSteps := 2000000) (disch := (first | omega | (simp only [SZ]; first | done | omega) | (simp only [TS] at *; omega))) only [RZ, ovw, oneC, Nat.reduceAdd, Nat.reduceMul, Nat.reduceSub, Nat.reduceEqDiff, Nat.reduceLT, ↓reduceIte, Int.reduceToNat, Nat.reduceLeDiff,  EC_op, EC_opg, EC_nil, hJ2]
    exact b0.trans (hJ2.mono hz0)
  | true =>
    refine Ord_takeo 4 rfl (by kernel_rfl) (by kernel_rfl) (by kernel_rfl) (fun _ _ _ h => h) hJ1 (by simp +contextual (maxSteps := 2000000) (disch := (first | omega | (simp only [SZ]; first | done | omega) | (simp only [TS] at *; omega))) only [RZ, ovw, oneC, Nat.reduceAdd, Nat.reduceMul, Nat.reduceSub, Nat.reduceEqDiff, Nat.reduceLT, ↓reduceIte, Int.reduceToNat, Nat.reduceLeDiff]) ?_
    refine Ord_reads (τ := ?td) [5, 6] 10 rfl (by kernel_rfl) (by kernel_rfl) (fun _ _ _ h => h) hJ1 (fun w7 h7 => ?_) ?_; rotate_left
    · simp only [opsL_cons, opsL_nil, List.getElem?_toArray, List.getElem?_cons_zero, List.getElem?_cons_succ, optL_some]
      simp +contextual (maxSteps := 2000000) (disch := (first | omega | (simp only [SZ]; first | done | omega) | (simp only [TS] at *; omega))) only [RZ, ovw, oneC, Nat.reduceAdd, Nat.reduceMul, Nat.reduceSub, Nat.reduceEqDiff, Nat.reduceLT, ↓reduceIte, Int.reduceToNat, Nat.reduceLeDiff]
      exact rfl
    refine Ord_takeg 7 (v := .agg (gmV G Va Vt).toArray) rfl (by kernel_rfl) (by kernel_rfl) (by kernel_rfl) (fun _ _ _ h => h) hJ1 (by simp +contextual (maxSteps := 2000000) (disch := (first | omega | (simp only [SZ]; first | done | omega) | (simp only [TS] at *; omega))) only [RZ, ovw, oneC, Nat.reduceAdd, Nat.reduceMul, Nat.reduceSub, Nat.reduceEqDiff, Nat.reduceLT, ↓reduceIte, Int.reduceToNat, Nat.reduceLeDiff]) (fun w' h' => by have l7 := load_game (r0.below h'); simp +contextual (maxSteps := 2000000) (disch := (first | omega | (simp only [SZ]; first | done | omega) | (simp only [TS] at *; omega))) only [RZ, ovw, oneC, Nat.reduceAdd, Nat.reduceMul, Nat.reduceSub, Nat.reduceEqDiff, Nat.reduceLT, ↓reduceIte, Int.reduceToNat, Nat.reduceLeDiff,  l7]) ?_
    refine Ord_takeg 9 (v := .agg (gmV G Va Vt).toArray) rfl (by kernel_rfl) (by kernel_rfl) (by kernel_rfl) (fun _ _ _ h => h) hJ1 (by simp +contextual (maxSteps := 2000000) (disch := (first | omega | (simp only [SZ]; first | done | omega) | (simp only [TS] at *; omega))) only [RZ, ovw, oneC, Nat.reduceAdd, Nat.reduceMul, Nat.reduceSub, Nat.reduceEqDiff, Nat.reduceLT, ↓reduceIte, Int.reduceToNat, Nat.reduceLeDiff]) (fun w' h' => by have l7 := load_game (r0.below h'); simp +contextual (maxSteps := 2000000) (disch := (first | omega | (simp only [SZ]; first | done | omega) | (simp only [TS] at *; omega))) only [RZ, ovw, oneC, Nat.reduceAdd, Nat.reduceMul, Nat.reduceSub, Nat.reduceEqDiff, Nat.reduceLT, ↓reduceIte, Int.reduceToNat, Nat.reduceLeDiff,  l7]) ?_
    refine Ord_oneg 8 (by kernel_rfl) rfl ?_
    simp +contextual (maxSteps := 2000000) (disch := (first | omega | (simp only [SZ]; first | done | omega) | (simp only [TS] at *; omega))) only [RZ, ovw, oneC, Nat.reduceAdd, Nat.reduceMul, Nat.reduceSub, Nat.reduceEqDiff, Nat.reduceLT, ↓reduceIte, Int.reduceToNat, Nat.reduceLeDiff]
    refine (print_any G Va Vt u1 (hW.below hF1 hw5) (by omega) (hG.below hF1) (few_little hfew)).mono ?_
    rintro e u2 ⟨rfl, hB2⟩
    refine ⟨_, rfl, ?_⟩
    have hJ2 := hJ1.trans (hB2.mono hz1)
    have hz2 := hJ2.size
    have hF2 := b0.trans (hJ2.mono hz0)
    refine ⟨hJ2, ?_⟩
    refine Ord_oneg 10 (by kernel_rfl) rfl ?_
    simp +contextual (maxSteps := 2000000) (disch := (first | omega | (simp only [SZ]; first | done | omega) | (simp only [TS] at *; omega))) only [RZ, ovw, oneC, Nat.reduceAdd, Nat.reduceMul, Nat.reduceSub, Nat.reduceEqDiff, Nat.reduceLT, ↓reduceIte, Int.reduceToNat, Nat.reduceLeDiff]
    refine (rprint_any G Va Vt u2 (hG.below hF2) (few_little hfew)).mono ?_
    rintro e u3 ⟨rfl, hB3⟩
    refine ⟨_, rfl, ?_⟩
    have hJ3 := hJ2.trans (hB3.mono hz2)
    have hz3 := hJ3.size
    have hF3 := b0.trans (hJ3.mono hz0)
    have hfz3 := hF3.size
    refine ⟨hJ3, ?_⟩
    refine Ord_chainS _ [11, 12, 13, 14, 15, 16] _ _ _ (by kernel_rfl) ?_
    simp only [opsL_cons, opsL_nil, List.getElem?_toArray, List.getElem?_cons_zero, List.getElem?_cons_succ, optL_some]
    simp +contextual (maxSteps := 2000000) (disch := (first | omega | (simp only [SZ]; first | done | omega) | (simp only [TS] at *; omega))) only [RZ, ovw, oneC, Nat.reduceAdd, Nat.reduceMul, Nat.reduceSub, Nat.reduceEqDiff, Nat.reduceLT, ↓reduceIte, Int.reduceToNat, Nat.reduceLeDiff,  EC_op, EC_opg, EC_nil, hJ3]
    refine (awake_any u3 (hW.below hF3 hw5) (by omega)).mono ?_
    rintro e u4 ⟨rfl, hB4⟩
    refine ⟨_, rfl, ?_⟩
    have hJ4 := hJ3.trans (hB4.mono hz3)
    exact ⟨hJ4, hJ4, hJ4, hJ4, rfl, b0.trans (hJ4.mono hz0)⟩
end Go.Proofs.YtbdkggnajipdhaaGreatDoor
/- What the row says of the listed variables, as the walks ask it; the witness's world. -/
namespace Go.Proofs.YtbdkggnajipdhaaGreatDoor
open Go.ChangeShapes Go.WideShapes Go.ChangeAt Go.WideMaps Go.WideElems Go.RowKit Go.Joins Go.Deep
set_option maxRecDepth 100000
def laidL : List (String × DataW Unit) := Rows.ruletextPrintsRow.laid
theorem days_data : (Rows.laid_lottery_ruletext_dayNames : DataW Unit) = .agg (dayW.map fun d => .lit (.string (d.map UInt8.ofNat))) := by kernel_rfl
theorem days_cells {W : World} {fuel : Nat} {cs : List Value} {p : List MemPlace} (h : DataW.trod (fun _ => ()) Tryz.prog W 0 (fun _ => true) false fuel 102 cs = some (Rows.laid_lottery_ruletext_dayNames, p)) :
    ∀ (i : Nat) (v : Value), dayC[i]? = some v → cs[i]? = some v := by
  rw [days_data] at h
  obtain ⟨xs, m, rfl, hx, hlen, hn, hel⟩ := DataW.trod_array Tryz.underlying102 h
  have hC : Tryz.prog.cellsOf 9 = 1 := by kernel_rfl
  rw [hC] at hel
  simp only [Prod.mk.injEq, DataW.agg.injEq] at hx
  intro i v hv
  unfold dayC at hv
  rw [List.getElem?_map] at hv
  obtain ⟨d, hd, rfl⟩ := Option.map_eq_some_iff.1 hv
  have hi : i < 7 := (List.getElem?_eq_some_iff.1 hd).1
  have h1 := hel i hi
  have h2 : (xs.map (·.1))[i]? = some (.lit (.string (d.map UInt8.ofNat))) := by rw [← hx.1, List.getElem?_map, hd]; rfl
  rw [List.getElem?_map] at h2
  obtain ⟨x, hxi, hx2⟩ := Option.map_eq_some_iff.1 h2
  rw [hxi] at h1
  obtain ⟨s1, e1, d1, _⟩ := DataW.trod_string Tryz.underlying9 h1
  subst d1
  simp only [DataW.lit.injEq, Lit.string.injEq] at hx2
  have t1 : s1 = toBA d := by
    apply ByteArray.ext; apply Array.ext'; rw [hx2]; rfl
  subst t1
  have := congrArg (·[0]?) e1
  simp only [List.getElem?_cons_zero] at this
  rw [List.getElem?_take_of_lt (by decide), List.getElem?_drop] at this
  simpa using this
theorem laid_of {W : World} (h : laidMetH Tryz.prog laidL W) : Laid W := by
  rw [MakeChecks.laidMetH_plain _ _ _ (by kernel_rfl)] at h
  obtain ⟨ps, hv, _⟩ := h
  obtain ⟨g0, t0, cs0, f0, p0, q0, hg0, ht0, hv0, hd0, hr0, _⟩ := hv
  obtain ⟨g1, t1, cs1, f1, p1, q1, hg1, ht1, hv1, hd1, hr1, _⟩ := hr0
  obtain ⟨g2, t2, cs2, f2, p2, q2, hg2, ht2, hv2, hd2, hr2, _⟩ := hr1
  obtain ⟨g3, t3, cs3, f3, p3, q3, hg3, ht3, hv3, hd3, hr3, _⟩ := hr2
  obtain rfl := Option.some.inj ((show Tryz.prog.globalNamed "math/bits.deBruijn64tab" = some 8 by kernel_rfl).symm.trans hg1)
  obtain rfl := Option.some.inj ((show Tryz.prog.globalNamed "internal/strconv.uint64pow10" = some 6 by kernel_rfl).symm.trans hg2)
  obtain rfl := Option.some.inj ((show Tryz.prog.globalNamed "lottery/ruletext.dayNames" = some 0 by kernel_rfl).symm.trans hg3)
  obtain rfl := Option.some.inj ((show (Tryz.prog.globals[6]?).map (·.type) = some 167 by kernel_rfl).symm.trans ht2)
  obtain rfl := Option.some.inj ((show (Tryz.prog.globals[0]?).map (·.type) = some 102 by kernel_rfl).symm.trans ht3)
  refine ⟨?_, fun i v hi => ?_, ?_⟩
  · have : W.heap[8]?.isSome = true := by
      unfold World.var? at hv1
      rw [hg1] at hv1
      simp only [Option.bind_some] at hv1
      cases hh : W.heap[8]? with
      | none => rw [hh] at hv1; simp at hv1
      | some o => rfl
    obtain ⟨o, ho⟩ := Option.isSome_iff_exists.1 this
    exact (Array.getElem?_eq_some_iff.1 ho).1
  · rw [World.var?_cell hg3 hv3 i]
    have := days_cells hd3 i v hi
    simpa using this
  · have hc := Lib.cells_of_tab (k := .u64) (zs := Lib.pow10Tab) Tryz.underlying167 Tryz.underlying128 (by kernel_rfl) (by kernel_rfl) (show DataW.trod _ _ _ _ _ _ _ _ _ = some (Lib.tabData .u64 Lib.pow10Tab, p2) from hd2)
    unfold Lib.TabIs
    rw [hv2, ← hc]
/-- The door's own heap meets the condition. -/
theorem door_met (os : Os) (args : Array Value) : laidMetH Tryz.prog laidL ((World.doorLaid Tryz.prog 4000 os).forCall (fun _ _ => 0) ⟨#[], args, []⟩).memory :=
  laidMetH_of_parts3 (fuel := 8) (laidMet_of_run' 8 (by kernel_rfl) (by kernel_rfl)) (by kernel_rfl) (by kernel_rfl)
end Go.Proofs.YtbdkggnajipdhaaGreatDoor
