/- Walk: awake. -/
import Derived.Test.YthadhnmbddddbaaLexJ
namespace Go.Proofs.Ythadhnmbddddbaa
open Go.RowKit
set_option maxRecDepth 100000
set_option linter.unusedSimpArgs false
def exA : ByteArray := ⟨#[112, 114, 105, 99, 101, 32, 50, 48, 48, 59, 32, 35, 32, 99, 104, 101, 97, 112]⟩
def exT : List Tk := [⟨1, 1, 1, ⟨#[112, 114, 105, 99, 101]⟩⟩, ⟨2, 1, 7, ⟨#[50, 48, 48]⟩⟩, ⟨3, 1, 10, ⟨#[59]⟩⟩, ⟨0, 1, 19, ByteArray.empty⟩]
theorem exA_scan : scanE exA = (0, 0, exT) := by kernel_rfl
theorem exB_scan : scanE ⟨#[97, 10, 65]⟩ = (1, 2, []) := by kernel_rfl
theorem exC_scan : scanE ⟨#[120, 32, 48, 48, 55]⟩ = (1, 2, []) := by kernel_rfl
theorem exT_join : joinB (cutT exT) = bs ⟨#[112, 114, 105, 99, 101, 32, 50, 48, 48, 32, 59, 10]⟩ := by kernel_rfl
theorem lexR_len : ∀ (n : Nat) (l : List Nat) (at_ : Nat) (T : List (Nat × Nat × Nat)), l.length ≤ n → lexR at_ l = .ok T → T.length ≤ l.length
  | _, [], at_, T, _, h => by rw [lexR_nil] at h; injection h with h; subst h; simp
  | 0, c :: r, _, _, hl, _ => by simp at hl
  | n + 1, c :: r, at_, T, hl, h => by
    rw [lexR_cons] at h
    split at h
    · cases h
    · rename_i h2
      have hd : ((c :: r).drop (piece (c :: r)).2).length + 1 ≤ (c :: r).length := by rw [List.length_drop, List.length_cons]; omega
      split at h
      · have := lexR_len n _ _ _ (by omega) h; omega
      · cases hR : lexR (at_ + (piece (c :: r)).2) ((c :: r).drop (piece (c :: r)).2) with
        | error e => rw [hR] at h; cases h
        | ok T' =>
          rw [hR] at h
          simp only [consR, Except.ok.injEq] at h
          subst h
          have := lexR_len n _ _ _ (by omega) hR
          rw [List.length_cons]; omega
theorem scan_len (s : ByteArray) : (scanE s).2.2.length ≤ s.size + 1 := by
  unfold scanE
  split
  · simp
  · cases h : lexR 0 (bs s) with
    | error e => simp
    | ok T =>
      have := lexR_len _ _ _ _ (Nat.le_refl _) h
      rw [bs_len] at this
      simp only [List.length_append, List.length_map, List.length_cons, List.length_nil]
      omega
theorem awake_any (w : World) : Calls Try.prog 10 #[] w fun e w' => e = .returned (.bool true) ∧ Below w.heap.size w w' := by
  refine calls_W (l := []) Try.func10 rfl _ Try.ntmps10 (by simp) ?_
  simp +contextual (maxSteps := 2000000) (disch := (first | omega | (simp only [World.size_alloc, World.size_setCell, World.size_drew]; done) | (simp only [World.size_alloc, World.size_setCell, World.size_drew]; omega) | (simp only [Bool.false_eq_true, false_or, or_false, true_and, and_true, not_false_eq_true, Bool.true_eq_false, decide_eq_true_eq, decide_eq_false_iff_not, Bool.not_eq_true', Bool.not_eq_false', Bool.and_eq_true, Bool.or_eq_true, Bool.and_eq_false_iff, Bool.or_eq_false_iff, Bool.not_not, Classical.not_not] at *; omega) | fail)) only [RB0, RB1, RB2, RB3, RB4, RB5, RB6, RB7, RB8, RB9, RB10, RB11, RB12, RB13, RB14, RB15, RB16, RB17, RB18, RB19, RB20, RB21, MX, BF, TY0, TY1, TY2, TY3, TY4, TY5, TY6, TY7, TY8, gval, gslot, decide_true, decide_false, Option.isNone_some, Option.isNone_none, Option.isSome_some, Option.isSome_none, fillL, ovw, numb, catL, List.length_cons, List.length_nil, List.cons_append, List.nil_append, List.size_toArray, ldN, agL, okC, List.setIfInBounds_toArray, List.set_cons_zero, List.set_cons_succ, oneC, Option.map_some, Option.map_none, init, List.getElem?_toArray, List.getElem?_cons_zero, List.getElem?_cons_succ, Option.bind_some, Option.bind_none, List.map_cons, List.map_nil, Nat.reduceAdd, Nat.reduceMul, Nat.reduceSub, Nat.reduceEqDiff, Nat.reduceLT, ↓reduceIte, Int.reduceToNat, Int.reduceAdd, Int.reduceSub, Int.reduceMul, Int.reduceLT, Int.reduceLE, Int.reduceEq, Nat.reduceLeDiff]
  refine (scan_any exA w (by decide)).mono ?_
  rw [exA_scan]
  rintro e w1 ⟨hb1, v, rfl, hT⟩
  refine ⟨_, rfl, ?_⟩
  simp +contextual (maxSteps := 2000000) (disch := (first | omega | (simp only [World.size_alloc, World.size_setCell, World.size_drew]; done) | (simp only [World.size_alloc, World.size_setCell, World.size_drew]; omega) | (simp only [Bool.false_eq_true, false_or, or_false, true_and, and_true, not_false_eq_true, Bool.true_eq_false, decide_eq_true_eq, decide_eq_false_iff_not, Bool.not_eq_true', Bool.not_eq_false', Bool.and_eq_true, Bool.or_eq_true, Bool.and_eq_false_iff, Bool.or_eq_false_iff, Bool.not_not, Classical.not_not] at *; omega) | fail)) only [RB0, RB1, RB2, RB3, RB4, RB5, RB6, RB7, RB8, RB9, RB10, RB11, RB12, RB13, RB14, RB15, RB16, RB17, RB18, RB19, RB20, RB21, MX, BF, TY0, TY1, TY2, TY3, TY4, TY5, TY6, TY7, TY8, gval, gslot, decide_true, decide_false, Option.isNone_some, Option.isNone_none, Option.isSome_some, Option.isSome_none, fillL, ovw, numb, catL, List.length_cons, List.length_nil, List.cons_append, List.nil_append, List.size_toArray, ldN, agL, okC, List.setIfInBounds_toArray, List.set_cons_zero, List.set_cons_succ, oneC, Option.map_some, Option.map_none, init, List.getElem?_toArray, List.getElem?_cons_zero, List.getElem?_cons_succ, Option.bind_some, Option.bind_none, List.map_cons, List.map_nil, Nat.reduceAdd, Nat.reduceMul, Nat.reduceSub, Nat.reduceEqDiff, Nat.reduceLT, ↓reduceIte, Int.reduceToNat, Int.reduceAdd, Int.reduceSub, Int.reduceMul, Int.reduceLT, Int.reduceLE, Int.reduceEq, Nat.reduceLeDiff]
  refine (scan_any ⟨#[97, 10, 65]⟩ w1 (by decide)).mono ?_
  rw [exB_scan]
  rintro e w2 ⟨hb2, v2, rfl, _⟩
  refine ⟨_, rfl, ?_⟩
  simp +contextual (maxSteps := 2000000) (disch := (first | omega | (simp only [World.size_alloc, World.size_setCell, World.size_drew]; done) | (simp only [World.size_alloc, World.size_setCell, World.size_drew]; omega) | (simp only [Bool.false_eq_true, false_or, or_false, true_and, and_true, not_false_eq_true, Bool.true_eq_false, decide_eq_true_eq, decide_eq_false_iff_not, Bool.not_eq_true', Bool.not_eq_false', Bool.and_eq_true, Bool.or_eq_true, Bool.and_eq_false_iff, Bool.or_eq_false_iff, Bool.not_not, Classical.not_not] at *; omega) | fail)) only [RB0, RB1, RB2, RB3, RB4, RB5, RB6, RB7, RB8, RB9, RB10, RB11, RB12, RB13, RB14, RB15, RB16, RB17, RB18, RB19, RB20, RB21, MX, BF, TY0, TY1, TY2, TY3, TY4, TY5, TY6, TY7, TY8, gval, gslot, decide_true, decide_false, Option.isNone_some, Option.isNone_none, Option.isSome_some, Option.isSome_none, fillL, ovw, numb, catL, List.length_cons, List.length_nil, List.cons_append, List.nil_append, List.size_toArray, ldN, agL, okC, List.setIfInBounds_toArray, List.set_cons_zero, List.set_cons_succ, oneC, Option.map_some, Option.map_none, init, List.getElem?_toArray, List.getElem?_cons_zero, List.getElem?_cons_succ, Option.bind_some, Option.bind_none, List.map_cons, List.map_nil, Nat.reduceAdd, Nat.reduceMul, Nat.reduceSub, Nat.reduceEqDiff, Nat.reduceLT, ↓reduceIte, Int.reduceToNat, Int.reduceAdd, Int.reduceSub, Int.reduceMul, Int.reduceLT, Int.reduceLE, Int.reduceEq, Nat.reduceLeDiff]
  refine (scan_any ⟨#[120, 32, 48, 48, 55]⟩ w2 (by decide)).mono ?_
  rw [exC_scan]
  rintro e w3 ⟨hb3, v3, rfl, _⟩
  refine ⟨_, rfl, ?_⟩
  simp +contextual (maxSteps := 2000000) (disch := (first | omega | (simp only [World.size_alloc, World.size_setCell, World.size_drew]; done) | (simp only [World.size_alloc, World.size_setCell, World.size_drew]; omega) | (simp only [Bool.false_eq_true, false_or, or_false, true_and, and_true, not_false_eq_true, Bool.true_eq_false, decide_eq_true_eq, decide_eq_false_iff_not, Bool.not_eq_true', Bool.not_eq_false', Bool.and_eq_true, Bool.or_eq_true, Bool.and_eq_false_iff, Bool.or_eq_false_iff, Bool.not_not, Classical.not_not] at *; omega) | fail)) only [RB0, RB1, RB2, RB3, RB4, RB5, RB6, RB7, RB8, RB9, RB10, RB11, RB12, RB13, RB14, RB15, RB16, RB17, RB18, RB19, RB20, RB21, MX, BF, TY0, TY1, TY2, TY3, TY4, TY5, TY6, TY7, TY8, gval, gslot, decide_true, decide_false, Option.isNone_some, Option.isNone_none, Option.isSome_some, Option.isSome_none, fillL, ovw, numb, catL, List.length_cons, List.length_nil, List.cons_append, List.nil_append, List.size_toArray, ldN, agL, okC, List.setIfInBounds_toArray, List.set_cons_zero, List.set_cons_succ, oneC, Option.map_some, Option.map_none, init, List.getElem?_toArray, List.getElem?_cons_zero, List.getElem?_cons_succ, Option.bind_some, Option.bind_none, List.map_cons, List.map_nil, Nat.reduceAdd, Nat.reduceMul, Nat.reduceSub, Nat.reduceEqDiff, Nat.reduceLT, ↓reduceIte, Int.reduceToNat, Int.reduceAdd, Int.reduceSub, Int.reduceMul, Int.reduceLT, Int.reduceLE, Int.reduceEq, Nat.reduceLeDiff]
  have hb12 := hb1.trans (hb2.mono hb1.size)
  have hb13 := hb12.trans (hb3.mono hb12.size)
  have hb4 := below_alloc w3 (.cells (exT.flatMap encTk).toArray 32)
  have hr4 := Row.new w3 32 (exT.flatMap encTk)
  have hs4 : w3.heap.size < (w3.alloc (.cells (exT.flatMap encTk).toArray 32)).heap.size := by simp
  have hT4 : TokArr (w3.alloc (.cells (exT.flatMap encTk).toArray 32)) (.slice (some ⟨w3.heap.size, 0, none⟩) 4 4) exT := ⟨_, _, rfl, Nat.le_refl 4, fun _ => by simpa using Row.arr (enc := encTk) (sz := 4) hr4 (fun _ => rfl) (by simp [exT])⟩
  have hT1 := (((hT.arr.below hb2).below hb3).below hb4)
  have hb14 := hb13.trans (hb4.mono hb13.size)
  change Calls Try.prog _ _ (w3.alloc (.cells (exT.flatMap encTk).toArray 32)) _
  generalize w3.alloc (.cells (exT.flatMap encTk).toArray 32) = w4 at *
  refine (rsame_any v _ exT w4 hT1 hT4 (by decide)).mono ?_
  rintro e w5 ⟨rfl, hb5⟩
  refine ⟨_, rfl, ?_⟩
  have hb15 := hb14.trans (hb5.mono hb14.size)
  have hT5 := hT4.below hb5
  simp +contextual (maxSteps := 2000000) (disch := (first | omega | (simp only [World.size_alloc, World.size_setCell, World.size_drew]; done) | (simp only [World.size_alloc, World.size_setCell, World.size_drew]; omega) | (simp only [Bool.false_eq_true, false_or, or_false, true_and, and_true, not_false_eq_true, Bool.true_eq_false, decide_eq_true_eq, decide_eq_false_iff_not, Bool.not_eq_true', Bool.not_eq_false', Bool.and_eq_true, Bool.or_eq_true, Bool.and_eq_false_iff, Bool.or_eq_false_iff, Bool.not_not, Classical.not_not] at *; omega) | fail)) only [RB0, RB1, RB2, RB3, RB4, RB5, RB6, RB7, RB8, RB9, RB10, RB11, RB12, RB13, RB14, RB15, RB16, RB17, RB18, RB19, RB20, RB21, MX, BF, TY0, TY1, TY2, TY3, TY4, TY5, TY6, TY7, TY8, gval, gslot, decide_true, decide_false, Option.isNone_some, Option.isNone_none, Option.isSome_some, Option.isSome_none, fillL, ovw, numb, catL, List.length_cons, List.length_nil, List.cons_append, List.nil_append, List.size_toArray, ldN, agL, okC, List.setIfInBounds_toArray, List.set_cons_zero, List.set_cons_succ, oneC, Option.map_some, Option.map_none, init, List.getElem?_toArray, List.getElem?_cons_zero, List.getElem?_cons_succ, Option.bind_some, Option.bind_none, List.map_cons, List.map_nil, Nat.reduceAdd, Nat.reduceMul, Nat.reduceSub, Nat.reduceEqDiff, Nat.reduceLT, ↓reduceIte, Int.reduceToNat, Int.reduceAdd, Int.reduceSub, Int.reduceMul, Int.reduceLT, Int.reduceLE, Int.reduceEq, Nat.reduceLeDiff]
  refine (join_any _ exT w5 hT5 (by decide) (by decide +kernel) (by rw [exT_join]; decide +kernel)).mono ?_
  rintro e w6 ⟨hb6, x, rfl, hx⟩
  refine ⟨_, rfl, ?_⟩
  rw [exT_join] at hx
  have hx := bs_inj hx
  subst hx
  simp +contextual (maxSteps := 2000000) (disch := (first | omega | (simp only [World.size_alloc, World.size_setCell, World.size_drew]; done) | (simp only [World.size_alloc, World.size_setCell, World.size_drew]; omega) | (simp only [Bool.false_eq_true, false_or, or_false, true_and, and_true, not_false_eq_true, Bool.true_eq_false, decide_eq_true_eq, decide_eq_false_iff_not, Bool.not_eq_true', Bool.not_eq_false', Bool.and_eq_true, Bool.or_eq_true, Bool.and_eq_false_iff, Bool.or_eq_false_iff, Bool.not_not, Classical.not_not] at *; omega) | fail)) only [RB0, RB1, RB2, RB3, RB4, RB5, RB6, RB7, RB8, RB9, RB10, RB11, RB12, RB13, RB14, RB15, RB16, RB17, RB18, RB19, RB20, RB21, MX, BF, TY0, TY1, TY2, TY3, TY4, TY5, TY6, TY7, TY8, gval, gslot, decide_true, decide_false, Option.isNone_some, Option.isNone_none, Option.isSome_some, Option.isSome_none, fillL, ovw, numb, catL, List.length_cons, List.length_nil, List.cons_append, List.nil_append, List.size_toArray, ldN, agL, okC, List.setIfInBounds_toArray, List.set_cons_zero, List.set_cons_succ, oneC, Option.map_some, Option.map_none, init, List.getElem?_toArray, List.getElem?_cons_zero, List.getElem?_cons_succ, Option.bind_some, Option.bind_none, List.map_cons, List.map_nil, Nat.reduceAdd, Nat.reduceMul, Nat.reduceSub, Nat.reduceEqDiff, Nat.reduceLT, ↓reduceIte, Int.reduceToNat, Int.reduceAdd, Int.reduceSub, Int.reduceMul, Int.reduceLT, Int.reduceLE, Int.reduceEq, Nat.reduceLeDiff,  eq_self]

  exact hb15.trans (hb6.mono hb15.size)
end Go.Proofs.Ythadhnmbddddbaa
