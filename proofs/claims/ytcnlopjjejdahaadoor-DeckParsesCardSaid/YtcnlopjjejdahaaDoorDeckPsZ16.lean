/- Texts laid one behind the other: LexF, LexG, RfD, RfE. Each says at its head what it proves. -/
import Derived.Test.YtcnlopjjejdahaaDoorDeckPsZ15
set_option linter.unusedSimpArgs false
/- Walks: the reference's end. -/
namespace Go.Proofs.YtcnlopjjejdahaaDoor
open Go.RowKit
set_option maxRecDepth 100000
def tokP (l : List Nat) : Nat × Nat := if (piece l).1 = 0 ∨ (piece l).2 = 0 then (0, 0) else piece l
theorem drop_at {s : ByteArray} {k : Nat} (h : k < s.size) : (bs s).drop k = bt s k :: (bs s).drop (k + 1) := by
  have h1 := bs_get h
  obtain ⟨h2, h3⟩ := List.getElem?_eq_some_iff.1 h1
  rw [List.drop_eq_getElem_cons h2, h3]
theorem spn_seg {q : Nat → Bool} {s : ByteArray} {a b : Nat} (hab : a ≤ b) (hb : b ≤ s.size) (h1 : ∀ j, a ≤ j → j < b → q (bt s j) = true) (h2 : b < s.size → q (bt s b) = false) : spn q ((bs s).drop a) = b - a := by
  refine spn_is _ _ (fun j hj => ⟨bt s (a + j), ?_, h1 _ (by omega) (by omega)⟩) (fun c hc => ?_)
  · rw [List.getElem?_drop, bs_get (by omega)]
  · rw [List.getElem?_drop, show a + (b - a) = b from by omega] at hc
    have := (List.getElem?_eq_some_iff.1 hc).1
    rw [bs_len] at this
    rw [bs_get this] at hc
    injection hc with hc
    rw [← hc]; exact h2 this
theorem rend_any (s : ByteArray) (at_ : Nat) (w : World) (hs : s.size ≤ 1000000) (ha : at_ < s.size) :
    Calls Tryd.prog 75 #[.string s, .int .i64 at_] w fun e w' => e = .returned (.tuple #[.int .i64 (at_ + (tokP ((bs s).drop at_)).2), .int .i64 (tokP ((bs s).drop at_)).1]) ∧ w = w' := by
  refine calls_W (l := [_, _]) Tryd.func75 rfl _ Tryd.ntmps75 (by simp) ?_
  have hlt := bt_lt s at_
  have hl := drop_at ha
  have hP : piece ((bs s).drop at_) = if blankB (bt s at_) then (0, spn blankB ((bs s).drop at_)) else if bt s at_ = 35 then (0, spn remB ((bs s).drop at_)) else if letterB (bt s at_) then (1, spn wordB ((bs s).drop at_)) else if digitB (bt s at_) then (if badN (spn digitB ((bs s).drop at_)) (bt s at_) then (2, 0) else (2, spn digitB ((bs s).drop at_))) else if markB (bt s at_) then (3, 1) else (0, 0) := by rw [hl, piece]
  unfold tokP
  simp +contextual (maxSteps := 2000000) (disch := (first | omega | (simp only [SZ]; done) | (simp only [SZ]; omega) | (simp only [TS] at *; omega))) only [RZ, gval, gslot, fillL, ovw, numb, catL, ldN, agL, okC, oneC, init, Nat.reduceAdd, Nat.reduceMul, Nat.reduceSub, Nat.reduceEqDiff, Nat.reduceLT, ↓reduceIte, Int.reduceToNat, Int.reduceAdd, Int.reduceSub, Int.reduceMul, Int.reduceLT, Int.reduceLE, Int.reduceEq, Nat.reduceLeDiff]
  refine (rmark_any _ _).mono ?_
  rintro e w' ⟨rfl, rfl⟩
  refine ⟨_, rfl, ?_⟩
  rw [markIB]
  simp +contextual (maxSteps := 2000000) (disch := (first | omega | (simp only [SZ]; done) | (simp only [SZ]; omega) | (simp only [TS] at *; omega))) only [RZ, gval, gslot, fillL, ovw, numb, catL, ldN, agL, okC, oneC, init, Nat.reduceAdd, Nat.reduceMul, Nat.reduceSub, Nat.reduceEqDiff, Nat.reduceLT, ↓reduceIte, Int.reduceToNat, Int.reduceAdd, Int.reduceSub, Int.reduceMul, Int.reduceLT, Int.reduceLE, Int.reduceEq, Nat.reduceLeDiff]
  (refine W_if rfl (fun hc => ?_) (fun hc => ?_) <;> (try simp only [TS] at hc))
  · have h1 : blankB (bt s at_) = false ∧ bt s at_ ≠ 35 ∧ letterB (bt s at_) = false ∧ digitB (bt s at_) = false := by
      unfold markB at hc; unfold blankB letterB digitB
      simp only [Bool.or_eq_true, beq_iff_eq, Bool.or_eq_false_iff, beq_eq_false_iff_ne, Bool.and_eq_false_iff, decide_eq_false_iff_not] at *
      omega
    rw [h1.1, h1.2.2.1, h1.2.2.2, hc, if_neg (by simp), if_neg h1.2.1, if_neg (by simp), if_neg (by simp), if_pos rfl] at hP
    rw [hP, if_neg (by simp)]
    simp +contextual (maxSteps := 2000000) (disch := (first | omega | (simp only [SZ]; done) | (simp only [SZ]; omega) | (simp only [TS] at *; omega))) only [RZ, gval, gslot, fillL, ovw, numb, catL, ldN, agL, okC, oneC, init, Nat.reduceAdd, Nat.reduceMul, Nat.reduceSub, Nat.reduceEqDiff, Nat.reduceLT, ↓reduceIte, Int.reduceToNat, Int.reduceAdd, Int.reduceSub, Int.reduceMul, Int.reduceLT, Int.reduceLE, Int.reduceEq, Nat.reduceLeDiff]
    exact rfl
  have hmk := hc
  clear hc
  simp +contextual (maxSteps := 2000000) (disch := (first | omega | (simp only [SZ]; done) | (simp only [SZ]; omega) | (simp only [TS] at *; omega))) only [RZ, gval, gslot, fillL, ovw, numb, catL, ldN, agL, okC, oneC, init, Nat.reduceAdd, Nat.reduceMul, Nat.reduceSub, Nat.reduceEqDiff, Nat.reduceLT, ↓reduceIte, Int.reduceToNat, Int.reduceAdd, Int.reduceSub, Int.reduceMul, Int.reduceLT, Int.reduceLE, Int.reduceEq, Nat.reduceLeDiff]
  refine (rletter_any _ _).mono ?_
  rintro e w' ⟨rfl, rfl⟩
  refine ⟨_, rfl, ?_⟩
  rw [letterIB]
  simp +contextual (maxSteps := 2000000) (disch := (first | omega | (simp only [SZ]; done) | (simp only [SZ]; omega) | (simp only [TS] at *; omega))) only [RZ, gval, gslot, fillL, ovw, numb, catL, ldN, agL, okC, oneC, init, Nat.reduceAdd, Nat.reduceMul, Nat.reduceSub, Nat.reduceEqDiff, Nat.reduceLT, ↓reduceIte, Int.reduceToNat, Int.reduceAdd, Int.reduceSub, Int.reduceMul, Int.reduceLT, Int.reduceLE, Int.reduceEq, Nat.reduceLeDiff]
  (refine W_if rfl (fun hc => ?_) (fun hc => ?_) <;> (try simp only [TS] at hc))
  · have h1 : blankB (bt s at_) = false ∧ bt s at_ ≠ 35 := by
      unfold letterB at hc; unfold blankB
      simp only [Bool.and_eq_true, decide_eq_true_eq, Bool.or_eq_false_iff, beq_eq_false_iff_ne] at *
      omega
    rw [h1.1, hc, if_neg (by simp), if_neg h1.2, if_pos rfl] at hP
    have hw0 : wordB (bt s at_) = true := by unfold wordB; rw [hc]; rfl
    simp +contextual (maxSteps := 2000000) (disch := (first | omega | (simp only [SZ]; done) | (simp only [SZ]; omega) | (simp only [TS] at *; omega))) only [RZ, gval, gslot, fillL, ovw, numb, catL, ldN, agL, okC, oneC, init, Nat.reduceAdd, Nat.reduceMul, Nat.reduceSub, Nat.reduceEqDiff, Nat.reduceLT, ↓reduceIte, Int.reduceToNat, Int.reduceAdd, Int.reduceSub, Int.reduceMul, Int.reduceLT, Int.reduceLE, Int.reduceEq, Nat.reduceLeDiff]
    refine Raw_loop (fun σ w' => w = w' ∧ ∃ k : Nat, at_ < k ∧ k ≤ s.size ∧ (∀ j, at_ ≤ j → j < k → wordB (bt s j) = true) ∧ σ 0 = .string s ∧ σ 7 = .int .i64 k) (fun σ _ => s.size - (intOf (σ 7)).toNat) ?_ ?_
    · simp +contextual (maxSteps := 2000000) (disch := (first | omega | (simp only [SZ]; done) | (simp only [SZ]; omega) | (simp only [TS] at *; omega))) only [RZ, gval, gslot, fillL, ovw, numb, catL, ldN, agL, okC, oneC, init, Nat.reduceAdd, Nat.reduceMul, Nat.reduceSub, Nat.reduceEqDiff, Nat.reduceLT, ↓reduceIte, Int.reduceToNat, Int.reduceAdd, Int.reduceSub, Int.reduceMul, Int.reduceLT, Int.reduceLE, Int.reduceEq, Nat.reduceLeDiff]
      exact ⟨at_ + 1, Nat.lt_succ_self _, ha, fun j h h' => by rw [show j = at_ from by omega]; exact hw0, rfl⟩
    rintro σ w' ⟨rfl, k, hk1, hk2, hq, e0, e7⟩ K hK
    by_cases hks : k < s.size
    · have hd : decide ((k : Int) < s.size) = true := decide_eq_true (by omega)
      simp +contextual (maxSteps := 2000000) (disch := (first | omega | (simp only [SZ]; done) | (simp only [SZ]; omega) | (simp only [TS] at *; omega))) only [RZ, gval, gslot, fillL, ovw, numb, catL, ldN, agL, okC, oneC, init, Nat.reduceAdd, Nat.reduceMul, Nat.reduceSub, Nat.reduceEqDiff, Nat.reduceLT, ↓reduceIte, Int.reduceToNat, Int.reduceAdd, Int.reduceSub, Int.reduceMul, Int.reduceLT, Int.reduceLE, Int.reduceEq, Nat.reduceLeDiff,  e0, e7, hd]
      refine (rletter_any _ _).mono ?_
      rintro e w' ⟨rfl, rfl⟩
      refine ⟨_, rfl, ?_⟩
      rw [letterIB]
      simp +contextual (maxSteps := 2000000) (disch := (first | omega | (simp only [SZ]; done) | (simp only [SZ]; omega) | (simp only [TS] at *; omega))) only [RZ, gval, gslot, fillL, ovw, numb, catL, ldN, agL, okC, oneC, init, Nat.reduceAdd, Nat.reduceMul, Nat.reduceSub, Nat.reduceEqDiff, Nat.reduceLT, ↓reduceIte, Int.reduceToNat, Int.reduceAdd, Int.reduceSub, Int.reduceMul, Int.reduceLT, Int.reduceLE, Int.reduceEq, Nat.reduceLeDiff,  e0, e7, hd]
      refine GB_call (fun _ => rdigit_any _ _) ?_
      rw [digitIB]
      simp +contextual (maxSteps := 2000000) (disch := (first | omega | (simp only [SZ]; done) | (simp only [SZ]; omega) | (simp only [TS] at *; omega))) only [RZ, gval, gslot, fillL, ovw, numb, catL, ldN, agL, okC, oneC, init, Nat.reduceAdd, Nat.reduceMul, Nat.reduceSub, Nat.reduceEqDiff, Nat.reduceLT, ↓reduceIte, Int.reduceToNat, Int.reduceAdd, Int.reduceSub, Int.reduceMul, Int.reduceLT, Int.reduceLE, Int.reduceEq, Nat.reduceLeDiff,  e0, e7, hd]
      (refine W_if rfl (fun hc => ?_) (fun hc => ?_) <;> (try simp only [TS] at hc))
      · have hw : wordB (bt s k) = true := by
          unfold wordB
          simp only [Bool.or_eq_true, beq_iff_eq]
          rcases hc with hc | hc
          · exact .inl hc
          · exact .inr (by omega)
        simp +contextual (maxSteps := 2000000) (disch := (first | omega | (simp only [SZ]; done) | (simp only [SZ]; omega) | (simp only [TS] at *; omega))) only [RZ, gval, gslot, fillL, ovw, numb, catL, ldN, agL, okC, oneC, init, Nat.reduceAdd, Nat.reduceMul, Nat.reduceSub, Nat.reduceEqDiff, Nat.reduceLT, ↓reduceIte, Int.reduceToNat, Int.reduceAdd, Int.reduceSub, Int.reduceMul, Int.reduceLT, Int.reduceLE, Int.reduceEq, Nat.reduceLeDiff,  e0, e7]
        refine hK _ _ ⟨rfl, k + 1, by omega, hks, fun j h h' => ?_, e0, rfl⟩ ?_
        · by_cases hj : j < k
          · exact hq j h hj
          · rw [show j = k from by omega]; exact hw
        · show s.size - (intOf (.int .i64 ((k : Int) + 1))).toNat < s.size - (intOf (σ 7)).toNat; rw [e7]; simp only [intOf]; omega
      · have hw : wordB (bt s k) = false := by
          unfold wordB
          simp only [Bool.or_eq_false_iff, beq_eq_false_iff_ne, ne_eq]
          exact ⟨hc.1, by omega⟩
        have hsp := spn_seg (a := at_) (b := k) (by omega) hk2 hq (fun _ => hw)
        rw [hP, hsp, if_neg (by simp; omega)]
        simp +contextual (maxSteps := 2000000) (disch := (first | omega | (simp only [SZ]; done) | (simp only [SZ]; omega) | (simp only [TS] at *; omega))) only [RZ, gval, gslot, fillL, ovw, numb, catL, ldN, agL, okC, oneC, init, Nat.reduceAdd, Nat.reduceMul, Nat.reduceSub, Nat.reduceEqDiff, Nat.reduceLT, ↓reduceIte, Int.reduceToNat, Int.reduceAdd, Int.reduceSub, Int.reduceMul, Int.reduceLT, Int.reduceLE, Int.reduceEq, Nat.reduceLeDiff,  e7]
        refine congrArg _ (congrArg Value.tuple ?_)
        congr 2
        · congr 1; omega
    · have hd : decide ((k : Int) < s.size) = false := decide_eq_false (by omega)
      have hsp := spn_seg (a := at_) (b := k) (by omega) hk2 hq (fun h => absurd h hks)
      rw [hP, hsp, if_neg (by simp; omega)]
      simp +contextual (maxSteps := 2000000) (disch := (first | omega | (simp only [SZ]; done) | (simp only [SZ]; omega) | (simp only [TS] at *; omega))) only [RZ, gval, gslot, fillL, ovw, numb, catL, ldN, agL, okC, oneC, init, Nat.reduceAdd, Nat.reduceMul, Nat.reduceSub, Nat.reduceEqDiff, Nat.reduceLT, ↓reduceIte, Int.reduceToNat, Int.reduceAdd, Int.reduceSub, Int.reduceMul, Int.reduceLT, Int.reduceLE, Int.reduceEq, Nat.reduceLeDiff,  e0, e7, hd]
      refine W_if_f rfl ?_
      simp +contextual (maxSteps := 2000000) (disch := (first | omega | (simp only [SZ]; done) | (simp only [SZ]; omega) | (simp only [TS] at *; omega))) only [RZ, gval, gslot, fillL, ovw, numb, catL, ldN, agL, okC, oneC, init, Nat.reduceAdd, Nat.reduceMul, Nat.reduceSub, Nat.reduceEqDiff, Nat.reduceLT, ↓reduceIte, Int.reduceToNat, Int.reduceAdd, Int.reduceSub, Int.reduceMul, Int.reduceLT, Int.reduceLE, Int.reduceEq, Nat.reduceLeDiff,  e7]
      refine congrArg _ (congrArg Value.tuple ?_)
      congr 2
      · congr 1; omega
  have hlk := hc
  clear hc
  simp +contextual (maxSteps := 2000000) (disch := (first | omega | (simp only [SZ]; done) | (simp only [SZ]; omega) | (simp only [TS] at *; omega))) only [RZ, gval, gslot, fillL, ovw, numb, catL, ldN, agL, okC, oneC, init, Nat.reduceAdd, Nat.reduceMul, Nat.reduceSub, Nat.reduceEqDiff, Nat.reduceLT, ↓reduceIte, Int.reduceToNat, Int.reduceAdd, Int.reduceSub, Int.reduceMul, Int.reduceLT, Int.reduceLE, Int.reduceEq, Nat.reduceLeDiff]
  refine (rdigit_any _ _).mono ?_
  rintro e w' ⟨rfl, rfl⟩
  refine ⟨_, rfl, ?_⟩
  rw [digitIB]
  simp +contextual (maxSteps := 2000000) (disch := (first | omega | (simp only [SZ]; done) | (simp only [SZ]; omega) | (simp only [TS] at *; omega))) only [RZ, gval, gslot, fillL, ovw, numb, catL, ldN, agL, okC, oneC, init, Nat.reduceAdd, Nat.reduceMul, Nat.reduceSub, Nat.reduceEqDiff, Nat.reduceLT, ↓reduceIte, Int.reduceToNat, Int.reduceAdd, Int.reduceSub, Int.reduceMul, Int.reduceLT, Int.reduceLE, Int.reduceEq, Nat.reduceLeDiff]
  (refine W_if rfl (fun hc => ?_) (fun hc => ?_) <;> (try simp only [TS] at hc))
  · have hdg := hc
    have h1 : blankB (bt s at_) = false ∧ bt s at_ ≠ 35 := by
      unfold digitB at hc; unfold blankB
      simp only [Bool.and_eq_true, decide_eq_true_eq, Bool.or_eq_false_iff, beq_eq_false_iff_ne] at *
      omega
    rw [h1.1, hlk, hc, if_neg (by simp), if_neg h1.2, if_neg (by simp), if_pos rfl] at hP
    clear hc
    simp +contextual (maxSteps := 2000000) (disch := (first | omega | (simp only [SZ]; done) | (simp only [SZ]; omega) | (simp only [TS] at *; omega))) only [RZ, gval, gslot, fillL, ovw, numb, catL, ldN, agL, okC, oneC, init, Nat.reduceAdd, Nat.reduceMul, Nat.reduceSub, Nat.reduceEqDiff, Nat.reduceLT, ↓reduceIte, Int.reduceToNat, Int.reduceAdd, Int.reduceSub, Int.reduceMul, Int.reduceLT, Int.reduceLE, Int.reduceEq, Nat.reduceLeDiff]
    refine Raw_loop (fun σ w' => w = w' ∧ ∃ k : Nat, at_ < k ∧ k ≤ s.size ∧ (∀ j, at_ ≤ j → j < k → digitB (bt s j) = true) ∧ σ 0 = .string s ∧ σ 1 = .int .i64 at_ ∧ σ 6 = .int .u8 (bt s at_) ∧ σ 7 = .int .i64 k) (fun σ _ => s.size - (intOf (σ 7)).toNat) ?_ ?_
    · simp +contextual (maxSteps := 2000000) (disch := (first | omega | (simp only [SZ]; done) | (simp only [SZ]; omega) | (simp only [TS] at *; omega))) only [RZ, gval, gslot, fillL, ovw, numb, catL, ldN, agL, okC, oneC, init, Nat.reduceAdd, Nat.reduceMul, Nat.reduceSub, Nat.reduceEqDiff, Nat.reduceLT, ↓reduceIte, Int.reduceToNat, Int.reduceAdd, Int.reduceSub, Int.reduceMul, Int.reduceLT, Int.reduceLE, Int.reduceEq, Nat.reduceLeDiff]
      exact ⟨at_ + 1, Nat.lt_succ_self _, ha, fun j h h' => by rw [show j = at_ from by omega]; exact hdg, rfl⟩
    rintro σ w' ⟨rfl, k, hk1, hk2, hq, e0, e1, e6, e7⟩ K hK
    by_cases hks : k < s.size
    · have hd : decide ((k : Int) < s.size) = true := decide_eq_true (by omega)
      simp +contextual (maxSteps := 2000000) (disch := (first | omega | (simp only [SZ]; done) | (simp only [SZ]; omega) | (simp only [TS] at *; omega))) only [RZ, gval, gslot, fillL, ovw, numb, catL, ldN, agL, okC, oneC, init, Nat.reduceAdd, Nat.reduceMul, Nat.reduceSub, Nat.reduceEqDiff, Nat.reduceLT, ↓reduceIte, Int.reduceToNat, Int.reduceAdd, Int.reduceSub, Int.reduceMul, Int.reduceLT, Int.reduceLE, Int.reduceEq, Nat.reduceLeDiff,  e0, e1, e6, e7, hd]
      refine (rdigit_any _ _).mono ?_
      rintro e w' ⟨rfl, rfl⟩
      refine ⟨_, rfl, ?_⟩
      rw [digitIB]
      simp +contextual (maxSteps := 2000000) (disch := (first | omega | (simp only [SZ]; done) | (simp only [SZ]; omega) | (simp only [TS] at *; omega))) only [RZ, gval, gslot, fillL, ovw, numb, catL, ldN, agL, okC, oneC, init, Nat.reduceAdd, Nat.reduceMul, Nat.reduceSub, Nat.reduceEqDiff, Nat.reduceLT, ↓reduceIte, Int.reduceToNat, Int.reduceAdd, Int.reduceSub, Int.reduceMul, Int.reduceLT, Int.reduceLE, Int.reduceEq, Nat.reduceLeDiff,  e0, e1, e6, e7, hd]
      (refine W_if rfl (fun hc => ?_) (fun hc => ?_) <;> (try simp only [TS] at hc))
      · have hw := hc
        simp +contextual (maxSteps := 2000000) (disch := (first | omega | (simp only [SZ]; done) | (simp only [SZ]; omega) | (simp only [TS] at *; omega))) only [RZ, gval, gslot, fillL, ovw, numb, catL, ldN, agL, okC, oneC, init, Nat.reduceAdd, Nat.reduceMul, Nat.reduceSub, Nat.reduceEqDiff, Nat.reduceLT, ↓reduceIte, Int.reduceToNat, Int.reduceAdd, Int.reduceSub, Int.reduceMul, Int.reduceLT, Int.reduceLE, Int.reduceEq, Nat.reduceLeDiff,  e0, e1, e6, e7]
        refine hK _ _ ⟨rfl, k + 1, by omega, hks, fun j h h' => ?_, e0, e1, e6, rfl⟩ ?_
        · by_cases hj : j < k
          · exact hq j h hj
          · rw [show j = k from by omega]; exact hw
        · show s.size - (intOf (.int .i64 ((k : Int) + 1))).toNat < s.size - (intOf (σ 7)).toNat; rw [e7]; simp only [intOf]; omega
      · have hsp := spn_seg (a := at_) (b := k) (by omega) hk2 hq (fun _ => hc)
        clear hc
        rw [hsp] at hP
        simp +contextual (maxSteps := 2000000) (disch := (first | omega | (simp only [SZ]; done) | (simp only [SZ]; omega) | (simp only [TS] at *; omega))) only [RZ, gval, gslot, fillL, ovw, numb, catL, ldN, agL, okC, oneC, init, Nat.reduceAdd, Nat.reduceMul, Nat.reduceSub, Nat.reduceEqDiff, Nat.reduceLT, ↓reduceIte, Int.reduceToNat, Int.reduceAdd, Int.reduceSub, Int.reduceMul, Int.reduceLT, Int.reduceLE, Int.reduceEq, Nat.reduceLeDiff,  e0, e1, e6, e7]
        (refine W_if rfl (fun hc => ?_) (fun hc => ?_) <;> (try simp only [TS] at hc))
        · have hbn : badN (k - at_) (bt s at_) = false := by
            unfold badN
            simp only [Bool.or_eq_false_iff, Bool.and_eq_false_iff, decide_eq_false_iff_not, beq_eq_false_iff_ne, ne_eq]
            omega
          rw [hbn, if_neg (by simp)] at hP
          rw [hP, if_neg (by simp; omega)]
          simp +contextual (maxSteps := 2000000) (disch := (first | omega | (simp only [SZ]; done) | (simp only [SZ]; omega) | (simp only [TS] at *; omega))) only [RZ, gval, gslot, fillL, ovw, numb, catL, ldN, agL, okC, oneC, init, Nat.reduceAdd, Nat.reduceMul, Nat.reduceSub, Nat.reduceEqDiff, Nat.reduceLT, ↓reduceIte, Int.reduceToNat, Int.reduceAdd, Int.reduceSub, Int.reduceMul, Int.reduceLT, Int.reduceLE, Int.reduceEq, Nat.reduceLeDiff,  e0, e1, e6, e7]
          refine congrArg _ (congrArg Value.tuple ?_)
          congr 2
          · congr 1; omega
        · have hbn : badN (k - at_) (bt s at_) = true := by
            unfold badN
            simp only [Bool.or_eq_true, Bool.and_eq_true, decide_eq_true_eq, beq_iff_eq]
            omega
          rw [hbn, if_pos rfl] at hP
          rw [hP, if_pos (.inr rfl)]
          simp +contextual (maxSteps := 2000000) (disch := (first | omega | (simp only [SZ]; done) | (simp only [SZ]; omega) | (simp only [TS] at *; omega))) only [RZ, gval, gslot, fillL, ovw, numb, catL, ldN, agL, okC, oneC, init, Nat.reduceAdd, Nat.reduceMul, Nat.reduceSub, Nat.reduceEqDiff, Nat.reduceLT, ↓reduceIte, Int.reduceToNat, Int.reduceAdd, Int.reduceSub, Int.reduceMul, Int.reduceLT, Int.reduceLE, Int.reduceEq, Nat.reduceLeDiff,  e0, e1, e6, e7]
          exact congrArg (fun z => Ending.returned (.tuple #[.int .i64 z, .int .i64 0])) (Int.add_zero _).symm
    · have hd : decide ((k : Int) < s.size) = false := decide_eq_false (by omega)
      have hsp := spn_seg (a := at_) (b := k) (by omega) hk2 hq (fun h => absurd h hks)
      rw [hsp] at hP
      simp +contextual (maxSteps := 2000000) (disch := (first | omega | (simp only [SZ]; done) | (simp only [SZ]; omega) | (simp only [TS] at *; omega))) only [RZ, gval, gslot, fillL, ovw, numb, catL, ldN, agL, okC, oneC, init, Nat.reduceAdd, Nat.reduceMul, Nat.reduceSub, Nat.reduceEqDiff, Nat.reduceLT, ↓reduceIte, Int.reduceToNat, Int.reduceAdd, Int.reduceSub, Int.reduceMul, Int.reduceLT, Int.reduceLE, Int.reduceEq, Nat.reduceLeDiff,  e0, e1, e6, e7, hd]
      refine W_if_f rfl ?_
      simp +contextual (maxSteps := 2000000) (disch := (first | omega | (simp only [SZ]; done) | (simp only [SZ]; omega) | (simp only [TS] at *; omega))) only [RZ, gval, gslot, fillL, ovw, numb, catL, ldN, agL, okC, oneC, init, Nat.reduceAdd, Nat.reduceMul, Nat.reduceSub, Nat.reduceEqDiff, Nat.reduceLT, ↓reduceIte, Int.reduceToNat, Int.reduceAdd, Int.reduceSub, Int.reduceMul, Int.reduceLT, Int.reduceLE, Int.reduceEq, Nat.reduceLeDiff,  e0, e1, e6, e7]
      (refine W_if rfl (fun hc => ?_) (fun hc => ?_) <;> (try simp only [TS] at hc))
      · have hbn : badN (k - at_) (bt s at_) = false := by
          unfold badN
          simp only [Bool.or_eq_false_iff, Bool.and_eq_false_iff, decide_eq_false_iff_not, beq_eq_false_iff_ne, ne_eq]
          omega
        rw [hbn, if_neg (by simp)] at hP
        rw [hP, if_neg (by simp; omega)]
        simp +contextual (maxSteps := 2000000) (disch := (first | omega | (simp only [SZ]; done) | (simp only [SZ]; omega) | (simp only [TS] at *; omega))) only [RZ, gval, gslot, fillL, ovw, numb, catL, ldN, agL, okC, oneC, init, Nat.reduceAdd, Nat.reduceMul, Nat.reduceSub, Nat.reduceEqDiff, Nat.reduceLT, ↓reduceIte, Int.reduceToNat, Int.reduceAdd, Int.reduceSub, Int.reduceMul, Int.reduceLT, Int.reduceLE, Int.reduceEq, Nat.reduceLeDiff,  e0, e1, e6, e7]
        refine congrArg _ (congrArg Value.tuple ?_)
        congr 2
        · congr 1; omega
      · have hbn : badN (k - at_) (bt s at_) = true := by
          unfold badN
          simp only [Bool.or_eq_true, Bool.and_eq_true, decide_eq_true_eq, beq_iff_eq]
          omega
        rw [hbn, if_pos rfl] at hP
        rw [hP, if_pos (.inr rfl)]
        simp +contextual (maxSteps := 2000000) (disch := (first | omega | (simp only [SZ]; done) | (simp only [SZ]; omega) | (simp only [TS] at *; omega))) only [RZ, gval, gslot, fillL, ovw, numb, catL, ldN, agL, okC, oneC, init, Nat.reduceAdd, Nat.reduceMul, Nat.reduceSub, Nat.reduceEqDiff, Nat.reduceLT, ↓reduceIte, Int.reduceToNat, Int.reduceAdd, Int.reduceSub, Int.reduceMul, Int.reduceLT, Int.reduceLE, Int.reduceEq, Nat.reduceLeDiff,  e0, e1, e6, e7]
        exact congrArg (fun z => Ending.returned (.tuple #[.int .i64 z, .int .i64 0])) (Int.add_zero _).symm
  · have hdk := hc
    clear hc
    have hz : (piece ((bs s).drop at_)).1 = 0 := by
      rw [hP]
      repeat' split
      all_goals first | rfl | simp_all
    rw [if_pos (.inl hz)]
    simp +contextual (maxSteps := 2000000) (disch := (first | omega | (simp only [SZ]; done) | (simp only [SZ]; omega) | (simp only [TS] at *; omega))) only [RZ, gval, gslot, fillL, ovw, numb, catL, ldN, agL, okC, oneC, init, Nat.reduceAdd, Nat.reduceMul, Nat.reduceSub, Nat.reduceEqDiff, Nat.reduceLT, ↓reduceIte, Int.reduceToNat, Int.reduceAdd, Int.reduceSub, Int.reduceMul, Int.reduceLT, Int.reduceLE, Int.reduceEq, Nat.reduceLeDiff]
    exact congrArg (fun z => Ending.returned (.tuple #[.int .i64 z, .int .i64 0])) (Int.add_zero _).symm
end Go.Proofs.YtcnlopjjejdahaaDoor
/- Walk: the reference's Scan. -/
namespace Go.Proofs.YtcnlopjjejdahaaDoor
open Go.RowKit
set_option maxRecDepth 100000
theorem skip_blank : ∀ l : List Nat, skipB false l = spn blankB l + skipB false (l.drop (spn blankB l))
  | [] => rfl
  | c :: r => by
    by_cases h : blankB c = true
    · have h35 : (c == 35) = false := by unfold blankB at h; simp only [Bool.or_eq_true, beq_iff_eq, beq_eq_false_iff_ne] at *; omega
      have e : spn blankB (c :: r) = spn blankB r + 1 := by unfold spn; rw [List.takeWhile_cons_of_pos h]; rfl
      rw [e, List.drop_succ_cons, skipB, if_pos (by rw [h]; simp), h35, Bool.false_or, Bool.false_and, skip_blank r]
      omega
    · have e : spn blankB (c :: r) = 0 := by unfold spn; rw [List.takeWhile_cons_of_neg h]; rfl
      rw [e]; simp
theorem skip_rem : ∀ l : List Nat, skipB true l = spn remB l + skipB false (l.drop (spn remB l))
  | [] => rfl
  | c :: r => by
    by_cases h : c = 10
    · subst h
      have e : spn remB (10 :: r) = 0 := by unfold spn; rw [List.takeWhile_cons_of_neg (by decide)]; rfl
      rw [e, List.drop_zero, skipB, skipB, if_pos (by simp), if_pos (by decide)]
      simp
    · have e : spn remB (c :: r) = spn remB r + 1 := by unfold spn; rw [List.takeWhile_cons_of_pos (by unfold remB; simp [h])]; rfl
      have h10 : (c == 10) = false := by simp [h]
      rw [e, List.drop_succ_cons, skipB, if_pos (by simp), h10, Bool.true_or, Bool.not_false, Bool.true_and, skip_rem r]
      omega
theorem skip_hash (r : List Nat) : skipB false (35 :: r) = spn remB (35 :: r) + skipB false ((35 :: r).drop (spn remB (35 :: r))) := by
  have e : spn remB (35 :: r) = spn remB r + 1 := by unfold spn; rw [List.takeWhile_cons_of_pos (by decide)]; rfl
  rw [e, List.drop_succ_cons, skipB, if_pos (by decide)]
  have := skip_rem r
  simp only [Bool.false_or, beq_self_eq_true, Bool.true_and] at *
  rw [show (!(35 == 10 : Bool)) = true from rfl, this]
  omega
theorem skip_idem : ∀ (l : List Nat) (m : Bool), skipB false (l.drop (skipB m l)) = 0
  | [], m => by simp [skipB]
  | c :: r, m => by
    rw [skipB]
    split
    · rw [Nat.add_comm, List.drop_succ_cons]; exact skip_idem r _
    · rename_i h
      rw [List.drop_zero, skipB, if_neg]
      intro h2
      apply h
      simp only [Bool.or_eq_true, Bool.false_or] at *
      rcases h2 with h2 | h2
      · exact .inl (.inr h2)
      · exact .inr h2
theorem skip_le : ∀ (l : List Nat) (m : Bool), skipB m l ≤ l.length
  | [], m => by simp [skipB]
  | c :: r, m => by
    rw [skipB]
    split
    · have := skip_le r ((m || c == 35) && !(c == 10)); rw [List.length_cons]; omega
    · omega
theorem lexR_skip : ∀ (n : Nat) (l : List Nat) (at_ : Nat), l.length ≤ n → lexR at_ l = lexR (at_ + skipB false l) (l.drop (skipB false l))
  | _, [], _, _ => rfl
  | 0, c :: r, _, h => by simp at h
  | n + 1, c :: r, at_, h => by
    have go : ∀ k, piece (c :: r) = (0, k) → 1 ≤ k → skipB false (c :: r) = k + skipB false ((c :: r).drop k) → lexR at_ (c :: r) = lexR (at_ + skipB false (c :: r)) ((c :: r).drop (skipB false (c :: r))) := by
      intro k hk h1 h2
      rw [lexR_cons, hk, if_neg (by simp only; omega), if_pos rfl, h2]
      simp only
      rw [lexR_skip n _ _ (by rw [List.length_drop, List.length_cons] at *; omega), List.drop_drop, Nat.add_assoc]
    by_cases hb : blankB c = true
    · exact go _ (by rw [piece, if_pos hb]) (spn_pos hb) (skip_blank _)
    · by_cases h35 : c = 35
      · subst h35
        exact go _ (by rw [piece, if_neg hb, if_pos rfl]) (spn_pos (by decide)) (skip_hash r)
      · have : skipB false (c :: r) = 0 := by rw [skipB, if_neg (by simp [hb, h35])]
        rw [this]; rfl
/-- Where nothing is skipped. -/
theorem lexG_tok {l : List Nat} (h : skipB false l = 0) (hl : l ≠ []) (at_ : Nat) : lexR at_ l = if (tokP l).1 = 0 then .error at_ else consR ((tokP l).1, at_, (tokP l).2) (lexR (at_ + (tokP l).2) (l.drop (tokP l).2)) := by
  cases l with
  | nil => exact absurd rfl hl
  | cons c r =>
    have hb : ¬ (blankB c = true) ∧ ¬ c = 35 := by
      rw [skipB] at h
      split at h
      · omega
      · rename_i h'
        simp only [Bool.or_eq_true, beq_iff_eq, not_or] at h'
        exact ⟨h'.1.2, h'.2⟩
    rw [lexR_cons]
    by_cases h2 : (piece (c :: r)).2 = 0
    · have ht : tokP (c :: r) = (0, 0) := if_pos (.inr h2)
      rw [if_pos h2, ht, if_pos rfl]
    · have h1 : (piece (c :: r)).1 ≠ 0 := by
        intro e
        apply h2
        rw [piece, if_neg hb.1, if_neg hb.2] at e ⊢
        repeat' split at e
        all_goals simp_all
      have ht : tokP (c :: r) = piece (c :: r) := if_neg (fun h => h.elim h1 h2)
      rw [if_neg h2, if_neg h1, ht, if_neg h1]
theorem last10 : ∀ b : List Nat, 0 < b.count 10 → ∃ k : Nat, b[k]? = some 10 ∧ ∀ j : Nat, k < j → b[j]? ≠ some 10
  | [], hc => by simp at hc
  | c :: r, hc => by
    by_cases hr : 0 < r.count 10
    · obtain ⟨k, h3, h4⟩ := last10 r hr
      refine ⟨k + 1, by simpa using h3, fun j hj => ?_⟩
      cases j with
      | zero => omega
      | succ j => simpa using h4 j (by omega)
    · have h10 : c = 10 := by
        by_cases h : c = 10
        · exact h
        · rw [List.count_cons_of_ne h] at hc; omega
      refine ⟨0, by simp [h10], fun j hj => ?_⟩
      cases j with
      | zero => omega
      | succ j =>
        intro h
        simp only [List.getElem?_cons_succ] at h
        exact hr (List.count_pos_iff.2 (List.mem_of_getElem? h))
theorem fold_place (b : List Nat) (p : Int × Int) : b.foldl step1 p = if 1 < (place b).1 then (p.1 + (place b).1 - 1, (place b).2) else (p.1, p.2 + (place b).2 - 1) := by
  have h1 := fold_line b (1, 1)
  have h2 := fold_line b p
  unfold place
  by_cases hc : 0 < b.count 10
  · rw [if_pos (by rw [h1]; simp only; omega)]
    obtain ⟨k, hk, hn⟩ := last10 b hc
    have e1 := fold_col b (1, 1) k hk hn
    have e2 := fold_col b p k hk hn
    apply Prod.ext
    · simp only; rw [h1, h2]; simp only; omega
    · simp only; rw [e1, e2]
  · have hno : ∀ c ∈ b, c ≠ 10 := fun c hc' e => hc (by subst e; exact List.count_pos_iff.2 hc')
    rw [fold_plain b _ hno, fold_plain b _ hno, if_neg (by simp)]
    simp only [Prod.mk.injEq, true_and]
    omega
set_option maxHeartbeats 1000000 in
theorem rscan_any (s : ByteArray) (w : World) (hs : s.size ≤ 1000000) :
    Calls Tryd.prog 39 #[.string s] w fun e w' => Below w.heap.size w w' ∧ ∃ v, e = .returned (.tuple #[v, .int .i64 (scanE s).1, .int .i64 (scanE s).2.1]) ∧ TokIn w.heap.size w' v (scanE s).2.2 := by
  refine calls_W (l := [_]) Tryd.func39 rfl _ Tryd.ntmps39 (by simp) ?_
  have hI : sliceI Tryd.prog 53 = some (63, 4, 40) := by kernel_rfl
  unfold scanE
  simp +contextual (maxSteps := 2000000) (disch := (first | omega | (simp only [SZ]; done) | (simp only [SZ]; omega) | (simp only [TS] at *; omega))) only [RZ, gval, gslot, fillL, ovw, numb, catL, ldN, agL, okC, oneC, init, Nat.reduceAdd, Nat.reduceMul, Nat.reduceSub, Nat.reduceEqDiff, Nat.reduceLT, ↓reduceIte, Int.reduceToNat, Int.reduceAdd, Int.reduceSub, Int.reduceMul, Int.reduceLT, Int.reduceLE, Int.reduceEq, Nat.reduceLeDiff]
  (refine W_if rfl (fun hc => ?_) (fun hc => ?_) <;> (try simp only [TS] at hc))
  · rw [if_pos (by omega)]
    simp +contextual (maxSteps := 2000000) (disch := (first | omega | (simp only [SZ]; done) | (simp only [SZ]; omega) | (simp only [TS] at *; omega))) only [RZ, gval, gslot, fillL, ovw, numb, catL, ldN, agL, okC, oneC, init, Nat.reduceAdd, Nat.reduceMul, Nat.reduceSub, Nat.reduceEqDiff, Nat.reduceLT, ↓reduceIte, Int.reduceToNat, Int.reduceAdd, Int.reduceSub, Int.reduceMul, Int.reduceLT, Int.reduceLE, Int.reduceEq, Nat.reduceLeDiff]
    exact ⟨Below.refl _ _, _, rfl, none, 0, rfl, owns_nil _ _ _ _⟩
  rw [if_neg (by omega)]
  clear hc
  simp +contextual (maxSteps := 2000000) (disch := (first | omega | (simp only [SZ]; done) | (simp only [SZ]; omega) | (simp only [TS] at *; omega))) only [RZ, gval, gslot, fillL, ovw, numb, catL, ldN, agL, okC, oneC, init, Nat.reduceAdd, Nat.reduceMul, Nat.reduceSub, Nat.reduceEqDiff, Nat.reduceLT, ↓reduceIte, Int.reduceToNat, Int.reduceAdd, Int.reduceSub, Int.reduceMul, Int.reduceLT, Int.reduceLE, Int.reduceEq, Nat.reduceLeDiff]
  generalize hR : lexR 0 (bs s) = R
  refine (rskip_any s 0 w hs (Nat.zero_le _)).mono ?_
  rintro e w0 ⟨rfl, rfl⟩
  refine ⟨_, rfl, ?_⟩
  rw [List.drop_zero]
  have hk0 := skip_le (bs s) false
  rw [bs_len] at hk0
  have hid0 := skip_idem (bs s) false
  rw [lexR_skip _ _ _ (Nat.le_refl _), Nat.zero_add] at hR
  generalize skipB false (bs s) = k0 at *
  refine Raw_loop (fun σ w' => Below w.heap.size w w' ∧ ∃ (at_ last : Nat) (D : List (Nat × Nat × Nat)) (A : Option Addr) (c : Nat), at_ ≤ s.size ∧ last ≤ at_ ∧ D.length ≤ at_ ∧ skipB false ((bs s).drop at_) = 0 ∧ joinR D (lexR at_ ((bs s).drop at_)) = R ∧
      w'.ownsRow w.heap.size 63 4 (.slice A D.length c) D.length ((D.map (tokOf s)).flatMap encTk) ∧
      σ 0 = .string s ∧ σ 5 = .slice A D.length c ∧ σ 6 = .int .i64 (place ((bs s).take last)).1 ∧ σ 7 = .int .i64 (place ((bs s).take last)).2 ∧ σ 8 = .int .i64 last ∧ σ 9 = .int .i64 at_) (fun σ _ => s.size - (intOf (σ 9)).toNat) ?_ ?_
  · simp +contextual (maxSteps := 2000000) (disch := (first | omega | (simp only [SZ]; done) | (simp only [SZ]; omega) | (simp only [TS] at *; omega))) only [RZ, gval, gslot, fillL, ovw, numb, catL, ldN, agL, okC, oneC, init, Nat.reduceAdd, Nat.reduceMul, Nat.reduceSub, Nat.reduceEqDiff, Nat.reduceLT, ↓reduceIte, Int.reduceToNat, Int.reduceAdd, Int.reduceSub, Int.reduceMul, Int.reduceLT, Int.reduceLE, Int.reduceEq, Nat.reduceLeDiff]
    exact ⟨Below.refl _ _, k0, 0, [], none, 0, hk0, Nat.zero_le _, Nat.zero_le _, hid0, by rw [hR]; cases R <;> rfl, owns_nil _ _ _ _, rfl, rfl, rfl, rfl, by simp⟩
  rintro σ w1 ⟨hB, at_, last, D, A, c, ha, hla, hDa, hsk, hj, hown, e0, e5, e6, e7, e8, e9⟩ K hK
  have hpb := place_bd ((bs s).take last)
  have hpa := place_bd ((bs s).take at_)
  rw [List.length_take, bs_len] at hpb hpa
  have hx : bs (s.extract last at_) = ((bs s).drop last).take (at_ - last) := bs_extract _ _ _
  have hxs : (s.extract last at_).size = at_ - last := by rw [← bs_len, hx, List.length_take, List.length_drop, bs_len]; omega
  have hpt : place ((bs s).take at_) = (bs (s.extract last at_)).foldl step1 (place ((bs s).take last)) := by
    rw [hx, ← place_append, ← List.take_add, show last + (at_ - last) = at_ from by omega]
  rw [fold_place] at hpt
  have hpd := place_bd (bs (s.extract last at_))
  rw [bs_len, hxs] at hpd
  have htl : (bs (s.extract last at_)).take (at_ - last) = bs (s.extract last at_) := List.take_of_length_le (by rw [bs_len]; omega)
  have hlast : ((at_ : Int) - last) = ((at_ - last : Nat) : Int) := by omega
  have hd : decide ((at_ : Int) ≤ s.size) = true := decide_eq_true (by omega)
  simp +contextual (maxSteps := 2000000) (disch := (first | omega | (simp only [SZ]; done) | (simp only [SZ]; omega) | (simp only [TS] at *; omega))) only [RZ, gval, gslot, fillL, ovw, numb, catL, ldN, agL, okC, oneC, init, Nat.reduceAdd, Nat.reduceMul, Nat.reduceSub, Nat.reduceEqDiff, Nat.reduceLT, ↓reduceIte, Int.reduceToNat, Int.reduceAdd, Int.reduceSub, Int.reduceMul, Int.reduceLT, Int.reduceLE, Int.reduceEq, Nat.reduceLeDiff,  e0, e5, e6, e7, e8, e9, hd]
  refine W_if_t rfl ?_
  simp +contextual (maxSteps := 2000000) (disch := (first | omega | (simp only [SZ]; done) | (simp only [SZ]; omega) | (simp only [TS] at *; omega))) only [RZ, gval, gslot, fillL, ovw, numb, catL, ldN, agL, okC, oneC, init, Nat.reduceAdd, Nat.reduceMul, Nat.reduceSub, Nat.reduceEqDiff, Nat.reduceLT, ↓reduceIte, Int.reduceToNat, Int.reduceAdd, Int.reduceSub, Int.reduceMul, Int.reduceLT, Int.reduceLE, Int.reduceEq, Nat.reduceLeDiff,  e0, e5, e6, e7, e8, e9, hlast]
  refine (rplace_any (s.extract last at_) (at_ - last) w1 (by omega) (by omega)).mono ?_
  rintro e w2 ⟨rfl, rfl⟩
  refine ⟨_, rfl, ?_⟩
  rw [htl]
  generalize place (bs (s.extract last at_)) = dp at *
  obtain ⟨dl, dc⟩ := dp
  simp only at *
  simp +contextual (maxSteps := 2000000) (disch := (first | omega | (simp only [SZ]; done) | (simp only [SZ]; omega) | (simp only [TS] at *; omega))) only [RZ, gval, gslot, fillL, ovw, numb, catL, ldN, agL, okC, oneC, init, Nat.reduceAdd, Nat.reduceMul, Nat.reduceSub, Nat.reduceEqDiff, Nat.reduceLT, ↓reduceIte, Int.reduceToNat, Int.reduceAdd, Int.reduceSub, Int.reduceMul, Int.reduceLT, Int.reduceLE, Int.reduceEq, Nat.reduceLeDiff,  e0, e5, e6, e7, e8, e9]
  refine W_cut (fun τ w2 => w2 = w1 ∧ τ 0 = .string s ∧ τ 5 = .slice A D.length c ∧ τ 6 = .int .i64 (place ((bs s).take at_)).1 ∧ τ 7 = .int .i64 (place ((bs s).take at_)).2 ∧ τ 9 = .int .i64 at_) ?_ ?_
  · rintro τ w2 ⟨rfl, f0, f5, f6, f7, f9⟩
    simp +contextual (maxSteps := 2000000) (disch := (first | omega | (simp only [SZ]; done) | (simp only [SZ]; omega) | (simp only [TS] at *; omega))) only [RZ, gval, gslot, fillL, ovw, numb, catL, ldN, agL, okC, oneC, init, Nat.reduceAdd, Nat.reduceMul, Nat.reduceSub, Nat.reduceEqDiff, Nat.reduceLT, ↓reduceIte, Int.reduceToNat, Int.reduceAdd, Int.reduceSub, Int.reduceMul, Int.reduceLT, Int.reduceLE, Int.reduceEq, Nat.reduceLeDiff,  f0, f5, f6, f7, f9]
    (refine W_if rfl (fun hc => ?_) (fun hc => ?_) <;> (try simp only [TS] at hc))
    · have hae : at_ = s.size := by omega
      clear hc
      subst hae
      rw [List.drop_eq_nil_of_le (by rw [bs_len]; omega), lexR_nil] at hj
      simp only [joinR, List.append_nil] at hj
      subst hj
      simp only
      have htk : (bs s).take s.size = bs s := List.take_of_length_le (by rw [bs_len]; omega)
      rw [htk] at f6 f7
      obtain ⟨A', c', w3, he, hown3, hb3, hs3⟩ := push1 (P := Tryd.prog) (T := 53) (ty := 53) (news := encTk (endTok s)) hown hB.size hI rfl (fun u hu => by simp only [encTk, List.mem_cons, List.not_mem_nil, or_false] at hu; rcases hu with rfl | rfl | rfl | rfl <;> rfl) (by omega) (by omega)
      simp only [encTk, endTok] at he
      simp +contextual (maxSteps := 2000000) (disch := (first | omega | (simp only [SZ]; done) | (simp only [SZ]; omega) | (simp only [TS] at *; omega))) only [RZ, gval, gslot, fillL, ovw, numb, catL, ldN, agL, okC, oneC, init, Nat.reduceAdd, Nat.reduceMul, Nat.reduceSub, Nat.reduceEqDiff, Nat.reduceLT, ↓reduceIte, Int.reduceToNat, Int.reduceAdd, Int.reduceSub, Int.reduceMul, Int.reduceLT, Int.reduceLE, Int.reduceEq, Nat.reduceLeDiff,  f0, f5, f6, f7, f9, he]
      refine ⟨hB.trans hb3, _, rfl, A', c', ?_, ?_⟩
      · rw [List.length_append, tok_len]; rfl
      · rw [List.length_append, tok_len, List.flatMap_append]; simpa using hown3
    have hal : at_ < s.size := by omega
    clear hc
    have hll : ((bs s).drop at_).length = s.size - at_ := by rw [List.length_drop, bs_len]
    have hne : (bs s).drop at_ ≠ [] := by intro e; rw [e] at hll; simp at hll; omega
    rw [lexG_tok hsk hne] at hj
    have htp : (tokP ((bs s).drop at_)).2 ≤ s.size - at_ ∧ ((tokP ((bs s).drop at_)).1 = 0 ∨ 1 ≤ (tokP ((bs s).drop at_)).2) := by
      have := piece_le ((bs s).drop at_)
      unfold tokP
      split
      · simp
      · omega
    simp +contextual (maxSteps := 2000000) (disch := (first | omega | (simp only [SZ]; done) | (simp only [SZ]; omega) | (simp only [TS] at *; omega))) only [RZ, gval, gslot, fillL, ovw, numb, catL, ldN, agL, okC, oneC, init, Nat.reduceAdd, Nat.reduceMul, Nat.reduceSub, Nat.reduceEqDiff, Nat.reduceLT, ↓reduceIte, Int.reduceToNat, Int.reduceAdd, Int.reduceSub, Int.reduceMul, Int.reduceLT, Int.reduceLE, Int.reduceEq, Nat.reduceLeDiff,  f0, f5, f6, f7, f9]
    refine (rend_any s at_ _ hs hal).mono ?_
    rintro e w3 ⟨rfl, rfl⟩
    refine ⟨_, rfl, ?_⟩
    generalize tokP ((bs s).drop at_) = tp at *
    obtain ⟨k, n⟩ := tp
    simp only at *
    simp +contextual (maxSteps := 2000000) (disch := (first | omega | (simp only [SZ]; done) | (simp only [SZ]; omega) | (simp only [TS] at *; omega))) only [RZ, gval, gslot, fillL, ovw, numb, catL, ldN, agL, okC, oneC, init, Nat.reduceAdd, Nat.reduceMul, Nat.reduceSub, Nat.reduceEqDiff, Nat.reduceLT, ↓reduceIte, Int.reduceToNat, Int.reduceAdd, Int.reduceSub, Int.reduceMul, Int.reduceLT, Int.reduceLE, Int.reduceEq, Nat.reduceLeDiff,  f0, f5, f6, f7, f9]
    (refine W_if rfl (fun hc => ?_) (fun hc => ?_) <;> (try simp only [TS] at hc))
    · rw [if_pos (by omega)] at hj
      have hR2 : R = .error at_ := hj.symm
      subst hR2
      simp +contextual (maxSteps := 2000000) (disch := (first | omega | (simp only [SZ]; done) | (simp only [SZ]; omega) | (simp only [TS] at *; omega))) only [RZ, gval, gslot, fillL, ovw, numb, catL, ldN, agL, okC, oneC, init, Nat.reduceAdd, Nat.reduceMul, Nat.reduceSub, Nat.reduceEqDiff, Nat.reduceLT, ↓reduceIte, Int.reduceToNat, Int.reduceAdd, Int.reduceSub, Int.reduceMul, Int.reduceLT, Int.reduceLE, Int.reduceEq, Nat.reduceLeDiff,  f0, f5, f6, f7, f9]
      exact ⟨hB, _, rfl, none, 0, rfl, owns_nil _ _ _ _⟩
    have hk0 : k ≠ 0 := by omega
    clear hc
    rw [if_neg hk0, joinR_cons, List.drop_drop] at hj
    obtain ⟨A', c', w3, he, hown3, hb3, hs3⟩ := push1 (P := Tryd.prog) (T := 53) (ty := 53) (news := encTk (tokOf s (k, at_, n))) hown hB.size hI rfl (fun u hu => by simp only [encTk, List.mem_cons, List.not_mem_nil, or_false] at hu; rcases hu with rfl | rfl | rfl | rfl <;> rfl) (by omega) (by omega)
    have hB3 := hB.trans hb3
    have hown3' : w3.ownsRow w.heap.size 63 4 (.slice A' (D ++ [(k, at_, n)]).length c') (D ++ [(k, at_, n)]).length (((D ++ [(k, at_, n)]).map (tokOf s)).flatMap encTk) := by
      rw [List.length_append, List.map_append, List.flatMap_append]; simpa using hown3
    simp only [encTk, tokOf] at he
    have htn : ((at_ : Int) + n).toNat = at_ + n := by omega
    simp +contextual (maxSteps := 2000000) (disch := (first | omega | (simp only [SZ]; done) | (simp only [SZ]; omega) | (simp only [TS] at *; omega))) only [RZ, gval, gslot, fillL, ovw, numb, catL, ldN, agL, okC, oneC, init, Nat.reduceAdd, Nat.reduceMul, Nat.reduceSub, Nat.reduceEqDiff, Nat.reduceLT, ↓reduceIte, Int.reduceToNat, Int.reduceAdd, Int.reduceSub, Int.reduceMul, Int.reduceLT, Int.reduceLE, Int.reduceEq, Nat.reduceLeDiff,  f0, f5, f6, f7, f9, he, htn]
    have hcast : ((at_ : Int) + n) = ((at_ + n : Nat) : Int) := by omega
    rw [hcast]
    refine (rskip_any s (at_ + n) w3 hs (by omega)).mono ?_
    rintro e w4 ⟨rfl, rfl⟩
    refine ⟨_, rfl, ?_⟩
    have hk3 := skip_le ((bs s).drop (at_ + n)) false
    rw [List.length_drop, bs_len] at hk3
    have hid := skip_idem ((bs s).drop (at_ + n)) false
    rw [lexR_skip _ _ _ (Nat.le_refl _), List.drop_drop] at hj
    rw [List.drop_drop] at hid
    generalize skipB false ((bs s).drop (at_ + n)) = k3 at *
    simp +contextual (maxSteps := 2000000) (disch := (first | omega | (simp only [SZ]; done) | (simp only [SZ]; omega) | (simp only [TS] at *; omega))) only [RZ, gval, gslot, fillL, ovw, numb, catL, ldN, agL, okC, oneC, init, Nat.reduceAdd, Nat.reduceMul, Nat.reduceSub, Nat.reduceEqDiff, Nat.reduceLT, ↓reduceIte, Int.reduceToNat, Int.reduceAdd, Int.reduceSub, Int.reduceMul, Int.reduceLT, Int.reduceLE, Int.reduceEq, Nat.reduceLeDiff,  f0, f5, f6, f7, f9]
    refine hK _ _ ⟨hB3, at_ + n + k3, at_, D ++ [(k, at_, n)], A', c', by omega, by omega, by simp; omega, hid, hj, hown3', f0, ?_, f6, f7, ?_, ?_⟩ ?_
    · rw [List.length_append]; rfl
    · rfl
    · simp only [upd_apply]; simp
    · show s.size - (intOf (.int .i64 (((at_ + n : Nat) : Int) + k3))).toNat < s.size - (intOf (σ 9)).toNat; rw [e9]; simp only [intOf]; omega
  · (refine W_if rfl (fun hc => ?_) (fun hc => ?_) <;> (try simp only [TS] at hc))
    · rw [if_pos hc] at hpt
      simp +contextual (maxSteps := 2000000) (disch := (first | omega | (simp only [SZ]; done) | (simp only [SZ]; omega) | (simp only [TS] at *; omega))) only [RZ, gval, gslot, fillL, ovw, numb, catL, ldN, agL, okC, oneC, init, Nat.reduceAdd, Nat.reduceMul, Nat.reduceSub, Nat.reduceEqDiff, Nat.reduceLT, ↓reduceIte, Int.reduceToNat, Int.reduceAdd, Int.reduceSub, Int.reduceMul, Int.reduceLT, Int.reduceLE, Int.reduceEq, Nat.reduceLeDiff,  e0, e5, e6, e7, e8, e9, cutX_normal, cutX_ret, cutX_exit, cut2X_normal, cut2X_ret, cut2X_same, cut2X_ne]
      rw [hpt]
      exact ⟨rfl, rfl⟩
    · rw [if_neg hc] at hpt
      simp +contextual (maxSteps := 2000000) (disch := (first | omega | (simp only [SZ]; done) | (simp only [SZ]; omega) | (simp only [TS] at *; omega))) only [RZ, gval, gslot, fillL, ovw, numb, catL, ldN, agL, okC, oneC, init, Nat.reduceAdd, Nat.reduceMul, Nat.reduceSub, Nat.reduceEqDiff, Nat.reduceLT, ↓reduceIte, Int.reduceToNat, Int.reduceAdd, Int.reduceSub, Int.reduceMul, Int.reduceLT, Int.reduceLE, Int.reduceEq, Nat.reduceLeDiff,  e0, e5, e6, e7, e8, e9, cutX_normal, cutX_ret, cutX_exit, cut2X_normal, cut2X_ret, cut2X_same, cut2X_ne]
      rw [hpt]
      exact ⟨rfl, rfl⟩
end Go.Proofs.YtcnlopjjejdahaaDoor
/- Walks: the reference's reader of a plan's tokens: fail, next, number, is, once, prize. -/
namespace Go.Proofs.YtcnlopjjejdahaaDoor
open Go.RowKit
set_option maxRecDepth 100000
/-- The reference's reader in its block. -/
def RrIn (w : World) (g : Nat) (A : Option Addr) (c : Nat) (T : List Tk) (r : Rd) : Prop := ∃ a : Nat, r.L = T.drop a ∧ a < T.length ∧ T.length ≤ 1000000 ∧ Arr w A 4 (T.map encTk) ∧ (∀ b o, A = some ⟨b, o, none⟩ → b ≠ g) ∧
  Row w g 69 [.slice A T.length c, .int .i64 a, .int .i64 r.err, .int .i64 r.line] ∧ ∀ t ∈ T, t.text.size ≤ 1000000
theorem RrIn.kept {X : List Nat} {w w' : World} {g : Nat} {A : Option Addr} {c : Nat} {T : List Tk} {r : Rd} (h : RrIn w g A c T r) (k : Kept X w w') (hg : g ∉ X) (hA : ∀ b o, A = some ⟨b, o, none⟩ → b ∉ X) : RrIn w' g A c T r := by
  obtain ⟨a, h1, h2, h3, h4, h5, h6, h7⟩ := h
  exact ⟨a, h1, h2, h3, h4.kept k hA, h5, h6.kept k hg, h7⟩
theorem RrIn.below {w w' : World} {g : Nat} {A : Option Addr} {c : Nat} {T : List Tk} {r : Rd} (h : RrIn w g A c T r) (k : Below w.heap.size w w') : RrIn w' g A c T r := by
  obtain ⟨a, h1, h2, h3, h4, h5, h6, h7⟩ := h
  exact ⟨a, h1, h2, h3, h4.below k, h5, h6.below k, h7⟩
section
variable {g c : Nat} {A : Option Addr} {T : List Tk} {w : World} {r : Rd}
theorem rfail_any (er : Int) (h : RrIn w g A c T r) : Calls Tryd.prog 76 #[.pointer (some ⟨g, 0, none⟩), .int .i64 er] w fun e w' => (∃ v, e = .returned v) ∧ RrIn w' g A c T (r.fail er) ∧ Kept [g] w w' := by
  refine calls_W (l := [_, _]) Tryd.func76 rfl _ Tryd.ntmps76 (by simp) ?_
  obtain ⟨a, h1, h2, h3, h4, h5, h6, h7⟩ := id h
  obtain ⟨t, ht⟩ : ∃ t, T[a]? = some t := ⟨_, List.getElem?_eq_getElem h2⟩
  have hd := drop_hd ht
  obtain ⟨b, o, rfl, hb, hcell⟩ := h4.at_ ht
  have l1 := hcell 1 _ rfl
  have c0 := h6.cell (i := 0) rfl
  have c1 := h6.cell (i := 1) rfl
  have c2 := h6.cell (i := 2) rfl
  have c3 := h6.cell (i := 3) rfl
  have y2 := h6.frozen 2
  have y3 := h6.frozen 3
  have hgb := h5 b o rfl
  simp +contextual (maxSteps := 2000000) (disch := (first | omega | (simp only [SZ]; done) | (simp only [SZ]; omega) | (simp only [TS] at *; omega))) only [RZ, gval, gslot, fillL, ovw, numb, catL, ldN, agL, okC, oneC, init, Nat.reduceAdd, Nat.reduceMul, Nat.reduceSub, Nat.reduceEqDiff, Nat.reduceLT, ↓reduceIte, Int.reduceToNat, Int.reduceAdd, Int.reduceSub, Int.reduceMul, Int.reduceLT, Int.reduceLE, Int.reduceEq, Nat.reduceLeDiff,  c0, c1, c2, c3]
  (refine W_if rfl (fun hc => ?_) (fun hc => ?_) <;> (try simp only [TS] at hc))
  · simp +contextual (maxSteps := 2000000) (disch := (first | omega | (simp only [SZ]; done) | (simp only [SZ]; omega) | (simp only [TS] at *; omega))) only [RZ, gval, gslot, fillL, ovw, numb, catL, ldN, agL, okC, oneC, init, Nat.reduceAdd, Nat.reduceMul, Nat.reduceSub, Nat.reduceEqDiff, Nat.reduceLT, ↓reduceIte, Int.reduceToNat, Int.reduceAdd, Int.reduceSub, Int.reduceMul, Int.reduceLT, Int.reduceLE, Int.reduceEq, Nat.reduceLeDiff,  c0, c1, c2, c3, l1, y2, y3]
    have hk := (Kept.refl [g] w).setCell (p := ⟨g, 2, none⟩) (by simp) (.int .i64 er)
    have r1 := h6.set_ (i := 2) (by simp) (.int .i64 er)
    have l1 := (Arr.kept h4 hk (fun b' o' hb' => by have := h5 b' o' hb'; simp; omega)).at_ ht
    have h4' := Arr.kept h4 hk (fun b' o' hb' => by have := h5 b' o' hb'; simp; omega)
    generalize w.setCell ⟨g, 2, none⟩ (.int .i64 er) = w1 at *
    obtain ⟨b', o', he', hb', hcell'⟩ := l1
    cases he'
    have l1 : w1.drew.cell? _ = _ := hcell' 1 _ rfl
    have c0 : w1.drew.cell? _ = _ := r1.cell (i := 0) rfl
    have c1 : w1.drew.cell? _ = _ := r1.cell (i := 1) rfl
    have c3 : w1.drew.cell? _ = _ := r1.cell (i := 3) rfl
    have y3 : w1.drew.frozen? _ = _ := r1.frozen 3
    refine Raw_tail 12 MX (by kernel_rfl) ?_
    dsimp only [List.take, List.drop]
    simp +contextual (maxSteps := 2000000) (disch := (first | omega | (simp only [SZ]; done) | (simp only [SZ]; omega) | (simp only [TS] at *; omega))) only [RZ, gval, gslot, fillL, ovw, numb, catL, ldN, agL, okC, oneC, init, Nat.reduceAdd, Nat.reduceMul, Nat.reduceSub, Nat.reduceEqDiff, Nat.reduceLT, ↓reduceIte, Int.reduceToNat, Int.reduceAdd, Int.reduceSub, Int.reduceMul, Int.reduceLT, Int.reduceLE, Int.reduceEq, Nat.reduceLeDiff,  c0, c1, c3, l1, y3]
    have e : r.fail er = ⟨r.L, er, t.line⟩ := by unfold Rd.fail; rw [if_pos hc, h1, hd]
    rw [e]
    have hk2 := (Kept.refl [g] w1).drew.setCell (p := ⟨g, 3, none⟩) (by simp) (.int .i64 t.line)
    refine ⟨⟨_, rfl⟩, ⟨a, h1, h2, h3, h4'.kept hk2 (fun b' o' hb' => by have := h5 b' o' hb'; simp; omega), h5, ?_, h7⟩, hk.trans hk2⟩
    exact (r1.kept (X := []) (Kept.refl _ _).drew (by simp)).set_ (i := 3) (by simp) (.int .i64 t.line)
  · simp +contextual (maxSteps := 2000000) (disch := (first | omega | (simp only [SZ]; done) | (simp only [SZ]; omega) | (simp only [TS] at *; omega))) only [RZ, gval, gslot, fillL, ovw, numb, catL, ldN, agL, okC, oneC, init, Nat.reduceAdd, Nat.reduceMul, Nat.reduceSub, Nat.reduceEqDiff, Nat.reduceLT, ↓reduceIte, Int.reduceToNat, Int.reduceAdd, Int.reduceSub, Int.reduceMul, Int.reduceLT, Int.reduceLE, Int.reduceEq, Nat.reduceLeDiff,  c0, c1, c2, c3]
    have e : r.fail er = r := by unfold Rd.fail; rw [if_neg hc]
    rw [e]
    exact ⟨⟨_, rfl⟩, h, Kept.refl _ _⟩
theorem ris_any (s : ByteArray) (h : RrIn w g A c T r) : Calls Tryd.prog 42 #[.pointer (some ⟨g, 0, none⟩), .string s] w fun e w' => e = .returned (.bool (r.is (bs s))) ∧ Below w.heap.size w w' := by
  refine calls_W (l := [_, _]) Tryd.func42 rfl _ Tryd.ntmps42 (by simp) ?_
  obtain ⟨a, h1, h2, h3, h4, h5, h6, h7⟩ := id h
  obtain ⟨t, ht⟩ : ∃ t, T[a]? = some t := ⟨_, List.getElem?_eq_getElem h2⟩
  have hd := drop_hd ht
  obtain ⟨b, o, rfl, hb, hcell⟩ := h4.at_ ht
  have l0 := hcell 0 _ rfl
  rw [Nat.add_zero] at l0
  have l3 := hcell 3 _ rfl
  have c0 := h6.cell (i := 0) rfl
  have c1 := h6.cell (i := 1) rfl
  have hgb := h5 b o rfl
  simp +contextual (maxSteps := 2000000) (disch := (first | omega | (simp only [SZ]; done) | (simp only [SZ]; omega) | (simp only [TS] at *; omega))) only [RZ, gval, gslot, fillL, ovw, numb, catL, ldN, agL, okC, oneC, init, Nat.reduceAdd, Nat.reduceMul, Nat.reduceSub, Nat.reduceEqDiff, Nat.reduceLT, ↓reduceIte, Int.reduceToNat, Int.reduceAdd, Int.reduceSub, Int.reduceMul, Int.reduceLT, Int.reduceLE, Int.reduceEq, Nat.reduceLeDiff]
  refine Raw_still MX (by kernel_rfl) ?_
  have c0 : w.drew.cell? _ = _ := c0
  have c1 : w.drew.cell? _ = _ := c1
  have l0 : w.drew.cell? _ = _ := l0
  have l3 : w.drew.cell? _ = _ := l3
  simp +contextual (maxSteps := 2000000) (disch := (first | omega | (simp only [SZ]; done) | (simp only [SZ]; omega) | (simp only [TS] at *; omega))) only [RZ, gval, gslot, fillL, ovw, numb, catL, ldN, agL, okC, oneC, init, Nat.reduceAdd, Nat.reduceMul, Nat.reduceSub, Nat.reduceEqDiff, Nat.reduceLT, ↓reduceIte, Int.reduceToNat, Int.reduceAdd, Int.reduceSub, Int.reduceMul, Int.reduceLT, Int.reduceLE, Int.reduceEq, Nat.reduceLeDiff,  c0, c1, l0, l3]
  refine ⟨ret_bool ?_, ⟨rfl, rfl, rfl, Nat.le_refl _, fun _ _ => rfl⟩⟩
  unfold Rd.is
  rw [h1, hd]
  congr 1
  exact decide_eq_decide.2 ⟨fun h => by rw [h], fun h => bs_inj h⟩
theorem rnext_any (k : Int) (s : ByteArray) (h : RrIn w g A c T r) : Calls Tryd.prog 41 #[.pointer (some ⟨g, 0, none⟩), .int .i64 k, .string s] w fun e w' => e = .returned (.string (r.next k (bs s)).1) ∧ RrIn w' g A c T (r.next k (bs s)).2 ∧ Kept [g] w w' := by
  refine calls_W (l := [_, _, _]) Tryd.func41 rfl _ Tryd.ntmps41 (by simp) ?_
  obtain ⟨a, h1, h2, h3, h4, h5, h6, h7⟩ := id h
  obtain ⟨t, ht⟩ : ∃ t, T[a]? = some t := ⟨_, List.getElem?_eq_getElem h2⟩
  have hd := drop_hd ht
  obtain ⟨b, o, rfl, hb, hcell⟩ := h4.at_ ht
  have l0 := hcell 0 _ rfl
  rw [Nat.add_zero] at l0
  have l1 := hcell 1 _ rfl
  have l2 := hcell 2 _ rfl
  have l3 := hcell 3 _ rfl
  have c0 := h6.cell (i := 0) rfl
  have c1 := h6.cell (i := 1) rfl
  have hgl := h6.lt
  have hgb := h5 b o rfl
  simp +contextual (maxSteps := 2000000) (disch := (first | omega | (simp only [SZ]; done) | (simp only [SZ]; omega) | (simp only [TS] at *; omega))) only [RZ, gval, gslot, fillL, ovw, numb, catL, ldN, agL, okC, oneC, init, Nat.reduceAdd, Nat.reduceMul, Nat.reduceSub, Nat.reduceEqDiff, Nat.reduceLT, ↓reduceIte, Int.reduceToNat, Int.reduceAdd, Int.reduceSub, Int.reduceMul, Int.reduceLT, Int.reduceLE, Int.reduceEq, Nat.reduceLeDiff]
  have hJ0 : Below w.heap.size w w.drew := ⟨rfl, rfl, rfl, Nat.le_refl _, fun _ _ => rfl⟩
  refine Raw_rcS (τ := ?ta) (fun w' => Below w.heap.size w w') [0, 1, 2, 3, 4, 5, 6, 7, 8, 9] [10, 11] MX rfl (by kernel_rfl) (by kernel_rfl) (by kernel_rfl) (fun _ _ _ h => h) hJ0 (fun w7 h7 => ?_) ?_; rotate_left
  · have k := (bcell h7).1
    have l0 := (k _ _ hb).trans l0
    have l1 := (k _ _ hb).trans l1
    have l2 := (k _ _ hb).trans l2
    have l3 := (k _ _ hb).trans l3
    have c0 := (k _ _ hgl).trans c0
    have c1 := (k _ _ hgl).trans c1
    simp only [opsL_cons, opsL_nil, List.getElem?_toArray, List.getElem?_cons_zero, List.getElem?_cons_succ, optL_some]
    simp +contextual (maxSteps := 2000000) (disch := (first | omega | (simp only [SZ]; done) | (simp only [SZ]; omega) | (simp only [TS] at *; omega))) only [RZ, gval, gslot, fillL, ovw, numb, catL, ldN, agL, okC, oneC, init, Nat.reduceAdd, Nat.reduceMul, Nat.reduceSub, Nat.reduceEqDiff, Nat.reduceLT, ↓reduceIte, Int.reduceToNat, Int.reduceAdd, Int.reduceSub, Int.reduceMul, Int.reduceLT, Int.reduceLE, Int.reduceEq, Nat.reduceLeDiff,  c0, c1, l0, l1, l2, l3]
    exact rfl
  simp only [opsL_cons, opsL_nil, List.getElem?_toArray, List.getElem?_cons_zero, List.getElem?_cons_succ, optL_some]
  simp +contextual (maxSteps := 2000000) (disch := (first | omega | (simp only [SZ]; done) | (simp only [SZ]; omega) | (simp only [TS] at *; omega))) only [RZ, gval, gslot, fillL, ovw, numb, catL, ldN, agL, okC, oneC, init, Nat.reduceAdd, Nat.reduceMul, Nat.reduceSub, Nat.reduceEqDiff, Nat.reduceLT, ↓reduceIte, Int.reduceToNat, Int.reduceAdd, Int.reduceSub, Int.reduceMul, Int.reduceLT, Int.reduceLE, Int.reduceEq, Nat.reduceLeDiff,  EC_op, EC_nil]
  have hb0 := below_alloc w (.cells #[.int .i64 0, .int .i64 0, .int .i64 0, .string ByteArray.empty] 63)
  have hb1 := below_alloc w (.cells #[.int .i64 t.kind, .int .i64 t.line, .int .i64 t.col, .string t.text] 63)
  refine ⟨hb0.trans ⟨rfl, rfl, rfl, Nat.le_refl _, fun _ _ => rfl⟩, ?_⟩
  have hro := Row.new w 63 [.int .i64 t.kind, .int .i64 t.line, .int .i64 t.col, .string t.text]
  replace hro : Row (w.alloc (.cells #[.int .i64 t.kind, .int .i64 t.line, .int .i64 t.col, .string t.text] 63)).drew w.heap.size 63 [.int .i64 t.kind, .int .i64 t.line, .int .i64 t.col, .string t.text] := hro.kept (X := []) (Kept.refl _ _).drew (by simp)
  replace hb1 : Below w.heap.size w (w.alloc (.cells #[.int .i64 t.kind, .int .i64 t.line, .int .i64 t.col, .string t.text] 63)).drew := hb1.trans ⟨rfl, rfl, rfl, Nat.le_refl _, fun _ _ => rfl⟩
  refine ⟨hb1, ?_⟩
  have c2 := (h6.below hb1).cell (i := 2) rfl
  have h1r := h.below hb1
  have h6r := h6.below hb1
  have hk1 : Kept [g] w _ := Kept.of_below hb1
  have hc2w := h6.cell (i := 2) rfl
  generalize (w.alloc (.cells #[.int .i64 t.kind, .int .i64 t.line, .int .i64 t.col, .string t.text] 63)).drew = w1 at *
  have v0 := hro.cell (i := 0) rfl
  have v3 := hro.cell (i := 3) rfl
  unfold Rd.next
  rw [h1, hd]
  by_cases he : r.err = 0
  · have e1 : (r.err = 0) = True := eq_true he
    have hs0 : (s = (⟨#[]⟩ : ByteArray)) ↔ bs s = [] := ⟨fun h => by rw [h]; rfl, fun h => bs_inj h⟩
    have hst : (t.text = s) ↔ bs t.text = bs s := ⟨fun h => by rw [h], fun h => bs_inj h⟩
    by_cases hbad : t.kind ≠ k ∨ (bs s ≠ [] ∧ bs t.text ≠ bs s)
    · have e2 : (!decide (t.kind = k) || !decide (s = (⟨#[]⟩ : ByteArray)) && !decide (t.text = s)) = true := by
        rcases hbad with h | ⟨h1, h2⟩
        · simp [h]
        · simp [hs0, hst, h1, h2]
      rw [if_neg (fun h => h he), if_pos hbad]
      simp +contextual (maxSteps := 2000000) (disch := (first | omega | (simp only [SZ]; done) | (simp only [SZ]; omega) | (simp only [TS] at *; omega))) only [RZ, gval, gslot, fillL, ovw, numb, catL, ldN, agL, okC, oneC, init, Nat.reduceAdd, Nat.reduceMul, Nat.reduceSub, Nat.reduceEqDiff, Nat.reduceLT, ↓reduceIte, Int.reduceToNat, Int.reduceAdd, Int.reduceSub, Int.reduceMul, Int.reduceLT, Int.reduceLE, Int.reduceEq, Nat.reduceLeDiff,  hc2w, c2, e1]
      refine W_if_f rfl ?_
      simp +contextual (maxSteps := 2000000) (disch := (first | omega | (simp only [SZ]; done) | (simp only [SZ]; omega) | (simp only [TS] at *; omega))) only [RZ, gval, gslot, fillL, ovw, numb, catL, ldN, agL, okC, oneC, init, Nat.reduceAdd, Nat.reduceMul, Nat.reduceSub, Nat.reduceEqDiff, Nat.reduceLT, ↓reduceIte, Int.reduceToNat, Int.reduceAdd, Int.reduceSub, Int.reduceMul, Int.reduceLT, Int.reduceLE, Int.reduceEq, Nat.reduceLeDiff,  v0, v3]
      simp +contextual (maxSteps := 2000000) (disch := (first | omega | (simp only [SZ]; done) | (simp only [SZ]; omega) | (simp only [TS] at *; omega))) only [RZ, gval, gslot, fillL, ovw, numb, catL, ldN, agL, okC, oneC, init, Nat.reduceAdd, Nat.reduceMul, Nat.reduceSub, Nat.reduceEqDiff, Nat.reduceLT, ↓reduceIte, Int.reduceToNat, Int.reduceAdd, Int.reduceSub, Int.reduceMul, Int.reduceLT, Int.reduceLE, Int.reduceEq, Nat.reduceLeDiff,  e2]
      refine W_if_t rfl ?_
      simp +contextual (maxSteps := 2000000) (disch := (first | omega | (simp only [SZ]; done) | (simp only [SZ]; omega) | (simp only [TS] at *; omega))) only [RZ, gval, gslot, fillL, ovw, numb, catL, ldN, agL, okC, oneC, init, Nat.reduceAdd, Nat.reduceMul, Nat.reduceSub, Nat.reduceEqDiff, Nat.reduceLT, ↓reduceIte, Int.reduceToNat, Int.reduceAdd, Int.reduceSub, Int.reduceMul, Int.reduceLT, Int.reduceLE, Int.reduceEq, Nat.reduceLeDiff]
      refine (rfail_any 1 h1r).mono ?_
      rintro e w2 ⟨⟨v, rfl⟩, h2r, hk2⟩
      refine ⟨_, rfl, ?_⟩
      simp +contextual (maxSteps := 2000000) (disch := (first | omega | (simp only [SZ]; done) | (simp only [SZ]; omega) | (simp only [TS] at *; omega))) only [RZ, gval, gslot, fillL, ovw, numb, catL, ldN, agL, okC, oneC, init, Nat.reduceAdd, Nat.reduceMul, Nat.reduceSub, Nat.reduceEqDiff, Nat.reduceLT, ↓reduceIte, Int.reduceToNat, Int.reduceAdd, Int.reduceSub, Int.reduceMul, Int.reduceLT, Int.reduceLE, Int.reduceEq, Nat.reduceLeDiff]
      exact ⟨rfl, h2r, hk1.trans hk2⟩
    · obtain ⟨n1, n2⟩ := not_or.1 hbad
      have e2 : (!decide (t.kind = k) || !decide (s = (⟨#[]⟩ : ByteArray)) && !decide (t.text = s)) = false := by
        have n1' : t.kind = k := Classical.not_not.1 n1
        by_cases h1 : bs s = []
        · simp [n1', hs0, h1]
        · have h2 : bs t.text = bs s := Classical.byContradiction fun h => n2 ⟨h1, h⟩
          simp [n1', hst, h2]
      rw [if_neg (fun h => h he), if_neg hbad]
      have c0r : w1.drew.cell? _ = _ := h6r.cell (i := 0) rfl
      have c1r : w1.drew.cell? _ = _ := h6r.cell (i := 1) rfl
      have v3r : w1.drew.cell? _ = _ := v3
      have hd1 : Kept [g] w w1.drew := hk1.drew
      have h6d : Row w1.drew g 69 _ := h6r.kept (X := []) (Kept.refl _ _).drew (by simp)
      have h4d := Arr.kept (h4.below (show Below w.heap.size w w1 from ⟨hk1.os, hk1.tape, hk1.output, hk1.size, fun k hk => by have := hb1.block k hk; exact this⟩)) (Kept.refl [] w1).drew (by simp)
      have hrod := hro.kept (X := []) (Kept.refl _ _).drew (by simp)
      simp +contextual (maxSteps := 2000000) (disch := (first | omega | (simp only [SZ]; done) | (simp only [SZ]; omega) | (simp only [TS] at *; omega))) only [RZ, gval, gslot, fillL, ovw, numb, catL, ldN, agL, okC, oneC, init, Nat.reduceAdd, Nat.reduceMul, Nat.reduceSub, Nat.reduceEqDiff, Nat.reduceLT, ↓reduceIte, Int.reduceToNat, Int.reduceAdd, Int.reduceSub, Int.reduceMul, Int.reduceLT, Int.reduceLE, Int.reduceEq, Nat.reduceLeDiff,  hc2w, c2, e1]
      refine W_if_f rfl ?_
      simp +contextual (maxSteps := 2000000) (disch := (first | omega | (simp only [SZ]; done) | (simp only [SZ]; omega) | (simp only [TS] at *; omega))) only [RZ, gval, gslot, fillL, ovw, numb, catL, ldN, agL, okC, oneC, init, Nat.reduceAdd, Nat.reduceMul, Nat.reduceSub, Nat.reduceEqDiff, Nat.reduceLT, ↓reduceIte, Int.reduceToNat, Int.reduceAdd, Int.reduceSub, Int.reduceMul, Int.reduceLT, Int.reduceLE, Int.reduceEq, Nat.reduceLeDiff,  v0, v3]
      simp +contextual (maxSteps := 2000000) (disch := (first | omega | (simp only [SZ]; done) | (simp only [SZ]; omega) | (simp only [TS] at *; omega))) only [RZ, gval, gslot, fillL, ovw, numb, catL, ldN, agL, okC, oneC, init, Nat.reduceAdd, Nat.reduceMul, Nat.reduceSub, Nat.reduceEqDiff, Nat.reduceLT, ↓reduceIte, Int.reduceToNat, Int.reduceAdd, Int.reduceSub, Int.reduceMul, Int.reduceLT, Int.reduceLE, Int.reduceEq, Nat.reduceLeDiff,  e2]
      refine W_if_f rfl ?_
      simp +contextual (maxSteps := 2000000) (disch := (first | omega | (simp only [SZ]; done) | (simp only [SZ]; omega) | (simp only [TS] at *; omega))) only [RZ, gval, gslot, fillL, ovw, numb, catL, ldN, agL, okC, oneC, init, Nat.reduceAdd, Nat.reduceMul, Nat.reduceSub, Nat.reduceEqDiff, Nat.reduceLT, ↓reduceIte, Int.reduceToNat, Int.reduceAdd, Int.reduceSub, Int.reduceMul, Int.reduceLT, Int.reduceLE, Int.reduceEq, Nat.reduceLeDiff]
      refine Raw_still MX (by kernel_rfl) ?_
      generalize w1.drew = w2 at *
      have y1 := h6d.frozen 1
      have hne : g ≠ w.heap.size := by omega
      simp +contextual (maxSteps := 2000000) (disch := (first | omega | (simp only [SZ]; done) | (simp only [SZ]; omega) | (simp only [TS] at *; omega))) only [RZ, gval, gslot, fillL, ovw, numb, catL, ldN, agL, okC, oneC, init, Nat.reduceAdd, Nat.reduceMul, Nat.reduceSub, Nat.reduceEqDiff, Nat.reduceLT, ↓reduceIte, Int.reduceToNat, Int.reduceAdd, Int.reduceSub, Int.reduceMul, Int.reduceLT, Int.reduceLE, Int.reduceEq, Nat.reduceLeDiff,  c0r, c1r]
      have hnx : nxT (T.drop a) = T.drop (adv T a) := drop_nx h2
      rw [hnx, he]
      (refine W_if rfl (fun hc => ?_) (fun hc => ?_) <;> (try simp only [TS] at hc))
      · have ea : adv T a = a + 1 := if_pos (by omega)
        simp +contextual (maxSteps := 2000000) (disch := (first | omega | (simp only [SZ]; done) | (simp only [SZ]; omega) | (simp only [TS] at *; omega))) only [RZ, gval, gslot, fillL, ovw, numb, catL, ldN, agL, okC, oneC, init, Nat.reduceAdd, Nat.reduceMul, Nat.reduceSub, Nat.reduceEqDiff, Nat.reduceLT, ↓reduceIte, Int.reduceToNat, Int.reduceAdd, Int.reduceSub, Int.reduceMul, Int.reduceLT, Int.reduceLE, Int.reduceEq, Nat.reduceLeDiff,  c0r, c1r, y1, v3r]
        rw [ea]
        have hk3 := (Kept.refl [g] w2).setCell (p := ⟨g, 1, none⟩) (by simp) (.int .i64 ((a : Int) + 1))
        refine ⟨⟨a + 1, rfl, by omega, h3, h4d.kept hk3 (fun b' o' hb' => by have := h5 b' o' hb'; simp; omega), h5, ?_, h7⟩, hd1.trans hk3⟩
        have := h6d.set_ (i := 1) (by simp) (.int .i64 ((a : Int) + 1))
        rw [he] at this
        exact this
      · have ea : adv T a = a := if_neg (by omega)
        simp +contextual (maxSteps := 2000000) (disch := (first | omega | (simp only [SZ]; done) | (simp only [SZ]; omega) | (simp only [TS] at *; omega))) only [RZ, gval, gslot, fillL, ovw, numb, catL, ldN, agL, okC, oneC, init, Nat.reduceAdd, Nat.reduceMul, Nat.reduceSub, Nat.reduceEqDiff, Nat.reduceLT, ↓reduceIte, Int.reduceToNat, Int.reduceAdd, Int.reduceSub, Int.reduceMul, Int.reduceLT, Int.reduceLE, Int.reduceEq, Nat.reduceLeDiff,  c0r, c1r, v3r]
        rw [ea]
        rw [he] at h6d
        exact ⟨⟨a, rfl, h2, h3, h4d, h5, h6d, h7⟩, hd1⟩
  · have e1 : (r.err = 0) = False := eq_false he
    rw [if_pos he]
    simp +contextual (maxSteps := 2000000) (disch := (first | omega | (simp only [SZ]; done) | (simp only [SZ]; omega) | (simp only [TS] at *; omega))) only [RZ, gval, gslot, fillL, ovw, numb, catL, ldN, agL, okC, oneC, init, Nat.reduceAdd, Nat.reduceMul, Nat.reduceSub, Nat.reduceEqDiff, Nat.reduceLT, ↓reduceIte, Int.reduceToNat, Int.reduceAdd, Int.reduceSub, Int.reduceMul, Int.reduceLT, Int.reduceLE, Int.reduceEq, Nat.reduceLeDiff,  hc2w, c2, e1]
    refine W_if_t rfl ?_
    simp +contextual (maxSteps := 2000000) (disch := (first | omega | (simp only [SZ]; done) | (simp only [SZ]; omega) | (simp only [TS] at *; omega))) only [RZ, gval, gslot, fillL, ovw, numb, catL, ldN, agL, okC, oneC, init, Nat.reduceAdd, Nat.reduceMul, Nat.reduceSub, Nat.reduceEqDiff, Nat.reduceLT, ↓reduceIte, Int.reduceToNat, Int.reduceAdd, Int.reduceSub, Int.reduceMul, Int.reduceLT, Int.reduceLE, Int.reduceEq, Nat.reduceLeDiff]
    exact ⟨rfl, h1r, hk1⟩
end
end Go.Proofs.YtcnlopjjejdahaaDoor
/- Walks: the reference's reader of a plan's tokens: number, once, prize; Parse. -/
namespace Go.Proofs.YtcnlopjjejdahaaDoor
open Go.RowKit
set_option maxRecDepth 100000
section
variable {g c : Nat} {A : Option Addr} {T : List Tk} {w : World} {r : Rd}
theorem next_sz (k : Int) (s : ByteArray) (h : RrIn w g A c T r) : (r.next k (bs s)).1.size ≤ 1000000 := by
  obtain ⟨a, h1, h2, h3, h4, h5, h6, h7⟩ := h
  unfold Rd.next
  split
  · exact Nat.zero_le _
  · split
    · exact Nat.zero_le _
    · rw [h1, drop_hd (List.getElem?_eq_getElem h2)]
      exact h7 _ (List.getElem_mem h2)
theorem rnumber_any (h : RrIn w g A c T r) : Calls Tryd.prog 44 #[.pointer (some ⟨g, 0, none⟩)] w fun e w' => e = .returned (.int .i64 r.num.1) ∧ RrIn w' g A c T r.num.2 ∧ Kept [g] w w' := by
  refine calls_W (l := [_]) Tryd.func44 rfl _ Tryd.ntmps44 (by simp) ?_
  simp +contextual (maxSteps := 2000000) (disch := (first | omega | (simp only [SZ]; done) | (simp only [SZ]; omega) | (simp only [TS] at *; omega))) only [RZ, gval, gslot, fillL, ovw, numb, catL, ldN, agL, okC, oneC, init, Nat.reduceAdd, Nat.reduceMul, Nat.reduceSub, Nat.reduceEqDiff, Nat.reduceLT, ↓reduceIte, Int.reduceToNat, Int.reduceAdd, Int.reduceSub, Int.reduceMul, Int.reduceLT, Int.reduceLE, Int.reduceEq, Nat.reduceLeDiff]
  have hz := next_sz 2 ⟨#[]⟩ h
  refine (rnext_any 2 ⟨#[]⟩ h).mono ?_
  rintro e w1 ⟨rfl, h1, k1⟩
  refine ⟨_, rfl, ?_⟩
  simp +contextual (maxSteps := 2000000) (disch := (first | omega | (simp only [SZ]; done) | (simp only [SZ]; omega) | (simp only [TS] at *; omega))) only [RZ, gval, gslot, fillL, ovw, numb, catL, ldN, agL, okC, oneC, init, Nat.reduceAdd, Nat.reduceMul, Nat.reduceSub, Nat.reduceEqDiff, Nat.reduceLT, ↓reduceIte, Int.reduceToNat, Int.reduceAdd, Int.reduceSub, Int.reduceMul, Int.reduceLT, Int.reduceLE, Int.reduceEq, Nat.reduceLeDiff]
  refine (rnumParse_any _ w1 (by omega)).mono ?_
  rintro e w2 ⟨rfl, rfl⟩
  refine ⟨_, rfl, ?_⟩
  simp +contextual (maxSteps := 2000000) (disch := (first | omega | (simp only [SZ]; done) | (simp only [SZ]; omega) | (simp only [TS] at *; omega))) only [RZ, gval, gslot, fillL, ovw, numb, catL, ldN, agL, okC, oneC, init, Nat.reduceAdd, Nat.reduceMul, Nat.reduceSub, Nat.reduceEqDiff, Nat.reduceLT, ↓reduceIte, Int.reduceToNat, Int.reduceAdd, Int.reduceSub, Int.reduceMul, Int.reduceLT, Int.reduceLE, Int.reduceEq, Nat.reduceLeDiff]
  exact ⟨rfl, h1, k1⟩
theorem ronce_any (s : ByteArray) (had : Bool) (h : RrIn w g A c T r) : Calls Tryd.prog 43 #[.pointer (some ⟨g, 0, none⟩), .string s, .bool had] w fun e w' => (∃ v, e = .returned v) ∧ RrIn w' g A c T (r.once (bs s) had) ∧ Kept [g] w w' := by
  refine calls_W (l := [_, _, _]) Tryd.func43 rfl _ Tryd.ntmps43 (by simp) ?_
  unfold Rd.once
  cases had with
  | false =>
    simp +contextual (maxSteps := 2000000) (disch := (first | omega | (simp only [SZ]; done) | (simp only [SZ]; omega) | (simp only [TS] at *; omega))) only [RZ, gval, gslot, fillL, ovw, numb, catL, ldN, agL, okC, oneC, init, Nat.reduceAdd, Nat.reduceMul, Nat.reduceSub, Nat.reduceEqDiff, Nat.reduceLT, ↓reduceIte, Int.reduceToNat, Int.reduceAdd, Int.reduceSub, Int.reduceMul, Int.reduceLT, Int.reduceLE, Int.reduceEq, Nat.reduceLeDiff]
    refine W_if_f rfl ?_
    simp +contextual (maxSteps := 2000000) (disch := (first | omega | (simp only [SZ]; done) | (simp only [SZ]; omega) | (simp only [TS] at *; omega))) only [RZ, gval, gslot, fillL, ovw, numb, catL, ldN, agL, okC, oneC, init, Nat.reduceAdd, Nat.reduceMul, Nat.reduceSub, Nat.reduceEqDiff, Nat.reduceLT, ↓reduceIte, Int.reduceToNat, Int.reduceAdd, Int.reduceSub, Int.reduceMul, Int.reduceLT, Int.reduceLE, Int.reduceEq, Nat.reduceLeDiff]
    refine (rnext_any 1 s h).mono ?_
    rintro e w1 ⟨rfl, h1, k1⟩
    refine ⟨_, rfl, ?_⟩
    simp +contextual (maxSteps := 2000000) (disch := (first | omega | (simp only [SZ]; done) | (simp only [SZ]; omega) | (simp only [TS] at *; omega))) only [RZ, gval, gslot, fillL, ovw, numb, catL, ldN, agL, okC, oneC, init, Nat.reduceAdd, Nat.reduceMul, Nat.reduceSub, Nat.reduceEqDiff, Nat.reduceLT, ↓reduceIte, Int.reduceToNat, Int.reduceAdd, Int.reduceSub, Int.reduceMul, Int.reduceLT, Int.reduceLE, Int.reduceEq, Nat.reduceLeDiff]
    exact ⟨⟨_, rfl⟩, h1, k1⟩
  | true =>
    simp +contextual (maxSteps := 2000000) (disch := (first | omega | (simp only [SZ]; done) | (simp only [SZ]; omega) | (simp only [TS] at *; omega))) only [RZ, gval, gslot, fillL, ovw, numb, catL, ldN, agL, okC, oneC, init, Nat.reduceAdd, Nat.reduceMul, Nat.reduceSub, Nat.reduceEqDiff, Nat.reduceLT, ↓reduceIte, Int.reduceToNat, Int.reduceAdd, Int.reduceSub, Int.reduceMul, Int.reduceLT, Int.reduceLE, Int.reduceEq, Nat.reduceLeDiff]
    refine W_if_t rfl ?_
    simp +contextual (maxSteps := 2000000) (disch := (first | omega | (simp only [SZ]; done) | (simp only [SZ]; omega) | (simp only [TS] at *; omega))) only [RZ, gval, gslot, fillL, ovw, numb, catL, ldN, agL, okC, oneC, init, Nat.reduceAdd, Nat.reduceMul, Nat.reduceSub, Nat.reduceEqDiff, Nat.reduceLT, ↓reduceIte, Int.reduceToNat, Int.reduceAdd, Int.reduceSub, Int.reduceMul, Int.reduceLT, Int.reduceLE, Int.reduceEq, Nat.reduceLeDiff]
    refine (rfail_any 6 h).mono ?_
    rintro e w1 ⟨⟨v, rfl⟩, h1, k1⟩
    refine ⟨_, rfl, ?_⟩
    simp +contextual (maxSteps := 2000000) (disch := (first | omega | (simp only [SZ]; done) | (simp only [SZ]; omega) | (simp only [TS] at *; omega))) only [RZ, gval, gslot, fillL, ovw, numb, catL, ldN, agL, okC, oneC, init, Nat.reduceAdd, Nat.reduceMul, Nat.reduceSub, Nat.reduceEqDiff, Nat.reduceLT, ↓reduceIte, Int.reduceToNat, Int.reduceAdd, Int.reduceSub, Int.reduceMul, Int.reduceLT, Int.reduceLE, Int.reduceEq, Nat.reduceLeDiff]
    refine (rnext_any 1 s h1).mono ?_
    rintro e w2 ⟨rfl, h2, k2⟩
    refine ⟨_, rfl, ?_⟩
    simp +contextual (maxSteps := 2000000) (disch := (first | omega | (simp only [SZ]; done) | (simp only [SZ]; omega) | (simp only [TS] at *; omega))) only [RZ, gval, gslot, fillL, ovw, numb, catL, ldN, agL, okC, oneC, init, Nat.reduceAdd, Nat.reduceMul, Nat.reduceSub, Nat.reduceEqDiff, Nat.reduceLT, ↓reduceIte, Int.reduceToNat, Int.reduceAdd, Int.reduceSub, Int.reduceMul, Int.reduceLT, Int.reduceLE, Int.reduceEq, Nat.reduceLeDiff]
    exact ⟨⟨_, rfl⟩, h2, k1.trans k2⟩
theorem rprize_any (h : RrIn w g A c T r) (hAw : ∀ b o, A = some ⟨b, o, none⟩ → b ≠ w.heap.size) : Calls Tryd.prog 45 #[.pointer (some ⟨g, 0, none⟩)] w fun e w' => e = .returned (.agg #[.int .i64 r.prize.1.prize, .int .i64 r.prize.1.count, .int .i64 r.prize.1.pack]) ∧ RrIn w' g A c T r.prize.2 ∧ Kept [g] w w' := by
  refine calls_W (l := [_]) Tryd.func45 rfl _ Tryd.ntmps45 (by simp) ?_
  simp +contextual (maxSteps := 2000000) (disch := (first | omega | (simp only [SZ]; done) | (simp only [SZ]; omega) | (simp only [TS] at *; omega))) only [RZ, gval, gslot, fillL, ovw, numb, catL, ldN, agL, okC, oneC, init, Nat.reduceAdd, Nat.reduceMul, Nat.reduceSub, Nat.reduceEqDiff, Nat.reduceLT, ↓reduceIte, Int.reduceToNat, Int.reduceAdd, Int.reduceSub, Int.reduceMul, Int.reduceLT, Int.reduceLE, Int.reduceEq, Nat.reduceLeDiff]
  have hv := Row.new w 43 [.int .i64 0, .int .i64 0, .int .i64 0]
  replace hv : Row (w.alloc (.cells #[.int .i64 0, .int .i64 0, .int .i64 0] 43)) w.heap.size 43 [.int .i64 0, .int .i64 0, .int .i64 0] := hv
  have hb0 := below_alloc w (.cells #[.int .i64 0, .int .i64 0, .int .i64 0] 43)
  have h0 := h.below hb0
  have k0 : Kept [g] w _ := Kept.of_below hb0
  have hgw : w.heap.size ≠ g := by
    obtain ⟨a, i1, i2, i3, i4, i5, i6, i7⟩ := h
    have := i6.lt
    omega
  generalize w.alloc (.cells #[.int .i64 0, .int .i64 0, .int .i64 0] 43) = w0 at *
  refine (rnext_any 1 ⟨#[112, 114, 105, 122, 101]⟩ h0).mono ?_
  rintro e w1 ⟨rfl, h1, k1⟩
  refine ⟨_, rfl, ?_⟩
  rw [show bs ⟨#[112, 114, 105, 122, 101]⟩ = asc "prize" by kernel_rfl] at h1 ⊢
  try simp +contextual (maxSteps := 2000000) (disch := (first | omega | (simp only [SZ]; done) | (simp only [SZ]; omega) | (simp only [TS] at *; omega))) only [RZ, gval, gslot, fillL, ovw, numb, catL, ldN, agL, okC, oneC, init, Nat.reduceAdd, Nat.reduceMul, Nat.reduceSub, Nat.reduceEqDiff, Nat.reduceLT, ↓reduceIte, Int.reduceToNat, Int.reduceAdd, Int.reduceSub, Int.reduceMul, Int.reduceLT, Int.reduceLE, Int.reduceEq, Nat.reduceLeDiff]
  refine (rnumber_any h1).mono ?_
  rintro e w2 ⟨rfl, h2, k2⟩
  refine ⟨_, rfl, ?_⟩
  try simp +contextual (maxSteps := 2000000) (disch := (first | omega | (simp only [SZ]; done) | (simp only [SZ]; omega) | (simp only [TS] at *; omega))) only [RZ, gval, gslot, fillL, ovw, numb, catL, ldN, agL, okC, oneC, init, Nat.reduceAdd, Nat.reduceMul, Nat.reduceSub, Nat.reduceEqDiff, Nat.reduceLT, ↓reduceIte, Int.reduceToNat, Int.reduceAdd, Int.reduceSub, Int.reduceMul, Int.reduceLT, Int.reduceLE, Int.reduceEq, Nat.reduceLeDiff]
  refine (rnext_any 1 ⟨#[99, 111, 117, 110, 116]⟩ h2).mono ?_
  rintro e w3 ⟨rfl, h3, k3⟩
  refine ⟨_, rfl, ?_⟩
  rw [show bs ⟨#[99, 111, 117, 110, 116]⟩ = asc "count" by kernel_rfl] at h3 ⊢
  try simp +contextual (maxSteps := 2000000) (disch := (first | omega | (simp only [SZ]; done) | (simp only [SZ]; omega) | (simp only [TS] at *; omega))) only [RZ, gval, gslot, fillL, ovw, numb, catL, ldN, agL, okC, oneC, init, Nat.reduceAdd, Nat.reduceMul, Nat.reduceSub, Nat.reduceEqDiff, Nat.reduceLT, ↓reduceIte, Int.reduceToNat, Int.reduceAdd, Int.reduceSub, Int.reduceMul, Int.reduceLT, Int.reduceLE, Int.reduceEq, Nat.reduceLeDiff]
  refine (rnumber_any h3).mono ?_
  rintro e w4 ⟨rfl, h4, k4⟩
  refine ⟨_, rfl, ?_⟩
  unfold Rd.prize
  dsimp only
  generalize (r.next 1 (asc "prize")).2.num = R1 at *
  generalize (R1.2.next 1 (asc "count")).2.num = R2 at *
  have k04 := (((k0.trans k1).trans k2).trans k3).trans k4
  have hv4 := (((hv.kept k1 (by simpa using hgw)).kept k2 (by simpa using hgw)).kept k3 (by simpa using hgw)).kept k4 (by simpa using hgw)
  clear h0 h1 h2 h3 k0 k1 k2 k3 k4 hv
  have fin : ∀ (w5 : World) (x y z : Value), Kept [g] w w5 → Kept [g] w (((w5.setCell ⟨w.heap.size, 0, none⟩ x).setCell ⟨w.heap.size, 1, none⟩ y).setCell ⟨w.heap.size, 2, none⟩ z) := fun w5 x y z k =>
    ((((k.less (Y := [g, w.heap.size]) (fun x hx _ => by simp at hx ⊢; exact .inl hx)).setCell (p := ⟨w.heap.size, 0, none⟩) (by simp) x).setCell (p := ⟨w.heap.size, 1, none⟩) (by simp) y).setCell (p := ⟨w.heap.size, 2, none⟩) (by simp) z).less fun x hx hlt => by simp at hx ⊢; omega
  have finR : ∀ (w5 : World) (r' : Rd) (x y z : Value), RrIn w5 g A c T r' → RrIn (((w5.setCell ⟨w.heap.size, 0, none⟩ x).setCell ⟨w.heap.size, 1, none⟩ y).setCell ⟨w.heap.size, 2, none⟩ z) g A c T r' := fun w5 r' x y z h5 =>
    h5.kept ((((Kept.refl [w.heap.size] w5).setCell (p := ⟨w.heap.size, 0, none⟩) (by simp) x).setCell (p := ⟨w.heap.size, 1, none⟩) (by simp) y).setCell (p := ⟨w.heap.size, 2, none⟩) (by simp) z) (by simp; omega) (fun b o hbo => by simp; exact hAw b o hbo)
  obtain ⟨a, i1, i2, i3, i4, i5, i6, i7⟩ := id h4
  have c2 := i6.cell (i := 2) rfl
  have f0 := hv4.cell (i := 0) rfl
  have f1 := hv4.cell (i := 1) rfl
  have f2 := hv4.cell (i := 2) rfl
  have z0 := hv4.frozen 0
  have z1 := hv4.frozen 1
  have z2 := hv4.frozen 2
  by_cases he : R2.2.err = 0
  · have e1 : (R2.2.err = 0) = True := eq_true he
    simp +contextual (maxSteps := 2000000) (disch := (first | omega | (simp only [SZ]; done) | (simp only [SZ]; omega) | (simp only [TS] at *; omega))) only [RZ, gval, gslot, fillL, ovw, numb, catL, ldN, agL, okC, oneC, init, Nat.reduceAdd, Nat.reduceMul, Nat.reduceSub, Nat.reduceEqDiff, Nat.reduceLT, ↓reduceIte, Int.reduceToNat, Int.reduceAdd, Int.reduceSub, Int.reduceMul, Int.reduceLT, Int.reduceLE, Int.reduceEq, Nat.reduceLeDiff,  c2, e1]
    refine (ris_any ⟨#[112, 97, 99, 107]⟩ h4).mono ?_
    rintro e w5 ⟨rfl, b5⟩
    refine ⟨_, rfl, ?_⟩
    rw [show bs ⟨#[112, 97, 99, 107]⟩ = asc "pack" by kernel_rfl]
    have h5 := h4.below b5
    have k5 : Kept [g] w w5 := k04.trans (Kept.of_below b5)
    have hv5 := hv4.below b5
    have f0 := hv5.cell (i := 0) rfl
    have f1 := hv5.cell (i := 1) rfl
    have f2 := hv5.cell (i := 2) rfl
    have z0 := hv5.frozen 0
    have z1 := hv5.frozen 1
    have z2 := hv5.frozen 2
    cases hi : R2.2.is (asc "pack") with
    | false =>
      rw [if_neg (by simp)]
      simp +contextual (maxSteps := 2000000) (disch := (first | omega | (simp only [SZ]; done) | (simp only [SZ]; omega) | (simp only [TS] at *; omega))) only [RZ, gval, gslot, fillL, ovw, numb, catL, ldN, agL, okC, oneC, init, Nat.reduceAdd, Nat.reduceMul, Nat.reduceSub, Nat.reduceEqDiff, Nat.reduceLT, ↓reduceIte, Int.reduceToNat, Int.reduceAdd, Int.reduceSub, Int.reduceMul, Int.reduceLT, Int.reduceLE, Int.reduceEq, Nat.reduceLeDiff]
      refine W_if_f rfl ?_
      simp +contextual (maxSteps := 2000000) (disch := (first | omega | (simp only [SZ]; done) | (simp only [SZ]; omega) | (simp only [TS] at *; omega))) only [RZ, gval, gslot, fillL, ovw, numb, catL, ldN, agL, okC, oneC, init, Nat.reduceAdd, Nat.reduceMul, Nat.reduceSub, Nat.reduceEqDiff, Nat.reduceLT, ↓reduceIte, Int.reduceToNat, Int.reduceAdd, Int.reduceSub, Int.reduceMul, Int.reduceLT, Int.reduceLE, Int.reduceEq, Nat.reduceLeDiff,  f0, f1, f2, z0, z1, z2]
      exact ⟨finR _ _ _ _ _ h5, fin _ _ _ _ k5⟩
    | true =>
      rw [if_pos rfl]
      simp +contextual (maxSteps := 2000000) (disch := (first | omega | (simp only [SZ]; done) | (simp only [SZ]; omega) | (simp only [TS] at *; omega))) only [RZ, gval, gslot, fillL, ovw, numb, catL, ldN, agL, okC, oneC, init, Nat.reduceAdd, Nat.reduceMul, Nat.reduceSub, Nat.reduceEqDiff, Nat.reduceLT, ↓reduceIte, Int.reduceToNat, Int.reduceAdd, Int.reduceSub, Int.reduceMul, Int.reduceLT, Int.reduceLE, Int.reduceEq, Nat.reduceLeDiff]
      refine W_if_t rfl ?_
      simp +contextual (maxSteps := 2000000) (disch := (first | omega | (simp only [SZ]; done) | (simp only [SZ]; omega) | (simp only [TS] at *; omega))) only [RZ, gval, gslot, fillL, ovw, numb, catL, ldN, agL, okC, oneC, init, Nat.reduceAdd, Nat.reduceMul, Nat.reduceSub, Nat.reduceEqDiff, Nat.reduceLT, ↓reduceIte, Int.reduceToNat, Int.reduceAdd, Int.reduceSub, Int.reduceMul, Int.reduceLT, Int.reduceLE, Int.reduceEq, Nat.reduceLeDiff]
      refine (rnext_any 1 ⟨#[112, 97, 99, 107]⟩ h5).mono ?_
      rintro e w6 ⟨rfl, h6, k6⟩
      refine ⟨_, rfl, ?_⟩
      rw [show bs ⟨#[112, 97, 99, 107]⟩ = asc "pack" by kernel_rfl] at h6
      have hv6 := hv5.kept k6 (by simpa using hgw)
      try simp +contextual (maxSteps := 2000000) (disch := (first | omega | (simp only [SZ]; done) | (simp only [SZ]; omega) | (simp only [TS] at *; omega))) only [RZ, gval, gslot, fillL, ovw, numb, catL, ldN, agL, okC, oneC, init, Nat.reduceAdd, Nat.reduceMul, Nat.reduceSub, Nat.reduceEqDiff, Nat.reduceLT, ↓reduceIte, Int.reduceToNat, Int.reduceAdd, Int.reduceSub, Int.reduceMul, Int.reduceLT, Int.reduceLE, Int.reduceEq, Nat.reduceLeDiff]
      refine (rnumber_any h6).mono ?_
      rintro e w7 ⟨rfl, h7, k7⟩
      refine ⟨_, rfl, ?_⟩
      have hv7 := hv6.kept k7 (by simpa using hgw)
      have f0 := hv7.cell (i := 0) rfl
      have f1 := hv7.cell (i := 1) rfl
      have f2 := hv7.cell (i := 2) rfl
      have z0 := hv7.frozen 0
      have z1 := hv7.frozen 1
      have z2 := hv7.frozen 2
      simp +contextual (maxSteps := 2000000) (disch := (first | omega | (simp only [SZ]; done) | (simp only [SZ]; omega) | (simp only [TS] at *; omega))) only [RZ, gval, gslot, fillL, ovw, numb, catL, ldN, agL, okC, oneC, init, Nat.reduceAdd, Nat.reduceMul, Nat.reduceSub, Nat.reduceEqDiff, Nat.reduceLT, ↓reduceIte, Int.reduceToNat, Int.reduceAdd, Int.reduceSub, Int.reduceMul, Int.reduceLT, Int.reduceLE, Int.reduceEq, Nat.reduceLeDiff,  f0, f1, f2, z0, z1, z2]
      exact ⟨finR _ _ _ _ _ h7, fin _ _ _ _ ((k5.trans k6).trans k7)⟩
  · have e1 : (R2.2.err = 0) = False := eq_false he
    rw [if_neg (fun h => he h.1)]
    simp +contextual (maxSteps := 2000000) (disch := (first | omega | (simp only [SZ]; done) | (simp only [SZ]; omega) | (simp only [TS] at *; omega))) only [RZ, gval, gslot, fillL, ovw, numb, catL, ldN, agL, okC, oneC, init, Nat.reduceAdd, Nat.reduceMul, Nat.reduceSub, Nat.reduceEqDiff, Nat.reduceLT, ↓reduceIte, Int.reduceToNat, Int.reduceAdd, Int.reduceSub, Int.reduceMul, Int.reduceLT, Int.reduceLE, Int.reduceEq, Nat.reduceLeDiff,  c2, e1]
    refine W_if_f rfl ?_
    simp +contextual (maxSteps := 2000000) (disch := (first | omega | (simp only [SZ]; done) | (simp only [SZ]; omega) | (simp only [TS] at *; omega))) only [RZ, gval, gslot, fillL, ovw, numb, catL, ldN, agL, okC, oneC, init, Nat.reduceAdd, Nat.reduceMul, Nat.reduceSub, Nat.reduceEqDiff, Nat.reduceLT, ↓reduceIte, Int.reduceToNat, Int.reduceAdd, Int.reduceSub, Int.reduceMul, Int.reduceLT, Int.reduceLE, Int.reduceEq, Nat.reduceLeDiff,  f0, f1, f2, z0, z1, z2]
    exact ⟨finR _ _ _ _ _ h4, fin _ _ _ _ k04⟩
end
end Go.Proofs.YtcnlopjjejdahaaDoor
