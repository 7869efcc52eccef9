/- Walks: kinds of bytes, span, piece. -/
import Derived.Test.YthadhnmbddddbaaLexP
import Derived.Test.YthadhnmbddddbaaOrd
namespace Go.Proofs.Ythadhnmbddddbaa
open Go.RowKit
set_option maxRecDepth 100000
set_option linter.unusedSimpArgs false
def blankI (c : Int) : Bool := decide (c = 32) || decide (c = 9) || decide (c = 13) || decide (c = 10)
def letterI (c : Int) : Bool := decide (97 ≤ c) && decide (c ≤ 122)
def digitI (c : Int) : Bool := decide (48 ≤ c) && decide (c ≤ 57)
def wordI (c : Int) : Bool := letterI c || digitI c || decide (c = 45)
def remI (c : Int) : Bool := !decide (c = 10)
def markI (c : Int) : Bool := decide (c = 123) || decide (c = 125) || decide (c = 59) || decide (c = 58)
theorem isBlank_any (c : Int) (w : World) : Calls Try.prog 29 #[.int .i32 c] w fun e w' => e = .returned (.bool (blankI c)) ∧ w = w' := by
  refine calls_W (l := [_]) Try.func29 rfl _ Try.ntmps29 (by simp) ?_
  simp +contextual (maxSteps := 2000000) (disch := (first | omega | (simp only [World.size_alloc, World.size_setCell, World.size_drew]; done) | (simp only [World.size_alloc, World.size_setCell, World.size_drew]; omega) | (simp only [Bool.false_eq_true, false_or, or_false, true_and, and_true, not_false_eq_true, Bool.true_eq_false, decide_eq_true_eq, decide_eq_false_iff_not, Bool.not_eq_true', Bool.not_eq_false', Bool.and_eq_true, Bool.or_eq_true, Bool.and_eq_false_iff, Bool.or_eq_false_iff, Bool.not_not, Classical.not_not] at *; omega) | fail)) only [RB0, RB1, RB2, RB3, RB4, RB5, RB6, RB7, RB8, RB9, RB10, RB11, RB12, RB13, RB14, RB15, RB16, RB17, RB18, RB19, RB20, RB21, MX, BF, TY0, TY1, TY2, TY3, TY4, TY5, TY6, TY7, TY8, gval, gslot, decide_true, decide_false, Option.isNone_some, Option.isNone_none, Option.isSome_some, Option.isSome_none, fillL, ovw, numb, catL, List.length_cons, List.length_nil, List.cons_append, List.nil_append, List.size_toArray, ldN, agL, okC, List.setIfInBounds_toArray, List.set_cons_zero, List.set_cons_succ, oneC, Option.map_some, Option.map_none, init, List.getElem?_toArray, List.getElem?_cons_zero, List.getElem?_cons_succ, Option.bind_some, Option.bind_none, List.map_cons, List.map_nil, Nat.reduceAdd, Nat.reduceMul, Nat.reduceSub, Nat.reduceEqDiff, Nat.reduceLT, ↓reduceIte, Int.reduceToNat, Int.reduceAdd, Int.reduceSub, Int.reduceMul, Int.reduceLT, Int.reduceLE, Int.reduceEq, Nat.reduceLeDiff]
  exact rfl
theorem isDigit_any (c : Int) (w : World) : Calls Try.prog 34 #[.int .i32 c] w fun e w' => e = .returned (.bool (digitI c)) ∧ w = w' := by
  refine calls_W (l := [_]) Try.func34 rfl _ Try.ntmps34 (by simp) ?_
  simp +contextual (maxSteps := 2000000) (disch := (first | omega | (simp only [World.size_alloc, World.size_setCell, World.size_drew]; done) | (simp only [World.size_alloc, World.size_setCell, World.size_drew]; omega) | (simp only [Bool.false_eq_true, false_or, or_false, true_and, and_true, not_false_eq_true, Bool.true_eq_false, decide_eq_true_eq, decide_eq_false_iff_not, Bool.not_eq_true', Bool.not_eq_false', Bool.and_eq_true, Bool.or_eq_true, Bool.and_eq_false_iff, Bool.or_eq_false_iff, Bool.not_not, Classical.not_not] at *; omega) | fail)) only [RB0, RB1, RB2, RB3, RB4, RB5, RB6, RB7, RB8, RB9, RB10, RB11, RB12, RB13, RB14, RB15, RB16, RB17, RB18, RB19, RB20, RB21, MX, BF, TY0, TY1, TY2, TY3, TY4, TY5, TY6, TY7, TY8, gval, gslot, decide_true, decide_false, Option.isNone_some, Option.isNone_none, Option.isSome_some, Option.isSome_none, fillL, ovw, numb, catL, List.length_cons, List.length_nil, List.cons_append, List.nil_append, List.size_toArray, ldN, agL, okC, List.setIfInBounds_toArray, List.set_cons_zero, List.set_cons_succ, oneC, Option.map_some, Option.map_none, init, List.getElem?_toArray, List.getElem?_cons_zero, List.getElem?_cons_succ, Option.bind_some, Option.bind_none, List.map_cons, List.map_nil, Nat.reduceAdd, Nat.reduceMul, Nat.reduceSub, Nat.reduceEqDiff, Nat.reduceLT, ↓reduceIte, Int.reduceToNat, Int.reduceAdd, Int.reduceSub, Int.reduceMul, Int.reduceLT, Int.reduceLE, Int.reduceEq, Nat.reduceLeDiff]
  exact rfl
theorem isLetter_any (c : Int) (w : World) : Calls Try.prog 32 #[.int .i32 c] w fun e w' => e = .returned (.bool (letterI c)) ∧ w = w' := by
  refine calls_W (l := [_]) Try.func32 rfl _ Try.ntmps32 (by simp) ?_
  simp +contextual (maxSteps := 2000000) (disch := (first | omega | (simp only [World.size_alloc, World.size_setCell, World.size_drew]; done) | (simp only [World.size_alloc, World.size_setCell, World.size_drew]; omega) | (simp only [Bool.false_eq_true, false_or, or_false, true_and, and_true, not_false_eq_true, Bool.true_eq_false, decide_eq_true_eq, decide_eq_false_iff_not, Bool.not_eq_true', Bool.not_eq_false', Bool.and_eq_true, Bool.or_eq_true, Bool.and_eq_false_iff, Bool.or_eq_false_iff, Bool.not_not, Classical.not_not] at *; omega) | fail)) only [RB0, RB1, RB2, RB3, RB4, RB5, RB6, RB7, RB8, RB9, RB10, RB11, RB12, RB13, RB14, RB15, RB16, RB17, RB18, RB19, RB20, RB21, MX, BF, TY0, TY1, TY2, TY3, TY4, TY5, TY6, TY7, TY8, gval, gslot, decide_true, decide_false, Option.isNone_some, Option.isNone_none, Option.isSome_some, Option.isSome_none, fillL, ovw, numb, catL, List.length_cons, List.length_nil, List.cons_append, List.nil_append, List.size_toArray, ldN, agL, okC, List.setIfInBounds_toArray, List.set_cons_zero, List.set_cons_succ, oneC, Option.map_some, Option.map_none, init, List.getElem?_toArray, List.getElem?_cons_zero, List.getElem?_cons_succ, Option.bind_some, Option.bind_none, List.map_cons, List.map_nil, Nat.reduceAdd, Nat.reduceMul, Nat.reduceSub, Nat.reduceEqDiff, Nat.reduceLT, ↓reduceIte, Int.reduceToNat, Int.reduceAdd, Int.reduceSub, Int.reduceMul, Int.reduceLT, Int.reduceLE, Int.reduceEq, Nat.reduceLeDiff]
  exact rfl
theorem inRemark_any (c : Int) (w : World) : Calls Try.prog 31 #[.int .i32 c] w fun e w' => e = .returned (.bool (remI c)) ∧ w = w' := by
  refine calls_W (l := [_]) Try.func31 rfl _ Try.ntmps31 (by simp) ?_
  simp +contextual (maxSteps := 2000000) (disch := (first | omega | (simp only [World.size_alloc, World.size_setCell, World.size_drew]; done) | (simp only [World.size_alloc, World.size_setCell, World.size_drew]; omega) | (simp only [Bool.false_eq_true, false_or, or_false, true_and, and_true, not_false_eq_true, Bool.true_eq_false, decide_eq_true_eq, decide_eq_false_iff_not, Bool.not_eq_true', Bool.not_eq_false', Bool.and_eq_true, Bool.or_eq_true, Bool.and_eq_false_iff, Bool.or_eq_false_iff, Bool.not_not, Classical.not_not] at *; omega) | fail)) only [RB0, RB1, RB2, RB3, RB4, RB5, RB6, RB7, RB8, RB9, RB10, RB11, RB12, RB13, RB14, RB15, RB16, RB17, RB18, RB19, RB20, RB21, MX, BF, TY0, TY1, TY2, TY3, TY4, TY5, TY6, TY7, TY8, gval, gslot, decide_true, decide_false, Option.isNone_some, Option.isNone_none, Option.isSome_some, Option.isSome_none, fillL, ovw, numb, catL, List.length_cons, List.length_nil, List.cons_append, List.nil_append, List.size_toArray, ldN, agL, okC, List.setIfInBounds_toArray, List.set_cons_zero, List.set_cons_succ, oneC, Option.map_some, Option.map_none, init, List.getElem?_toArray, List.getElem?_cons_zero, List.getElem?_cons_succ, Option.bind_some, Option.bind_none, List.map_cons, List.map_nil, Nat.reduceAdd, Nat.reduceMul, Nat.reduceSub, Nat.reduceEqDiff, Nat.reduceLT, ↓reduceIte, Int.reduceToNat, Int.reduceAdd, Int.reduceSub, Int.reduceMul, Int.reduceLT, Int.reduceLE, Int.reduceEq, Nat.reduceLeDiff]
  exact rfl
theorem isMark_any (c : Int) (w : World) : Calls Try.prog 36 #[.int .i32 c] w fun e w' => e = .returned (.bool (markI c)) ∧ w = w' := by
  refine calls_W (l := [_]) Try.func36 rfl _ Try.ntmps36 (by simp) ?_
  simp +contextual (maxSteps := 2000000) (disch := (first | omega | (simp only [World.size_alloc, World.size_setCell, World.size_drew]; done) | (simp only [World.size_alloc, World.size_setCell, World.size_drew]; omega) | (simp only [Bool.false_eq_true, false_or, or_false, true_and, and_true, not_false_eq_true, Bool.true_eq_false, decide_eq_true_eq, decide_eq_false_iff_not, Bool.not_eq_true', Bool.not_eq_false', Bool.and_eq_true, Bool.or_eq_true, Bool.and_eq_false_iff, Bool.or_eq_false_iff, Bool.not_not, Classical.not_not] at *; omega) | fail)) only [RB0, RB1, RB2, RB3, RB4, RB5, RB6, RB7, RB8, RB9, RB10, RB11, RB12, RB13, RB14, RB15, RB16, RB17, RB18, RB19, RB20, RB21, MX, BF, TY0, TY1, TY2, TY3, TY4, TY5, TY6, TY7, TY8, gval, gslot, decide_true, decide_false, Option.isNone_some, Option.isNone_none, Option.isSome_some, Option.isSome_none, fillL, ovw, numb, catL, List.length_cons, List.length_nil, List.cons_append, List.nil_append, List.size_toArray, ldN, agL, okC, List.setIfInBounds_toArray, List.set_cons_zero, List.set_cons_succ, oneC, Option.map_some, Option.map_none, init, List.getElem?_toArray, List.getElem?_cons_zero, List.getElem?_cons_succ, Option.bind_some, Option.bind_none, List.map_cons, List.map_nil, Nat.reduceAdd, Nat.reduceMul, Nat.reduceSub, Nat.reduceEqDiff, Nat.reduceLT, ↓reduceIte, Int.reduceToNat, Int.reduceAdd, Int.reduceSub, Int.reduceMul, Int.reduceLT, Int.reduceLE, Int.reduceEq, Nat.reduceLeDiff]
  exact rfl
theorem inWord_any (c : Int) (w : World) : Calls Try.prog 33 #[.int .i32 c] w fun e w' => e = .returned (.bool (wordI c)) ∧ w = w' := by
  refine calls_W (l := [_]) Try.func33 rfl _ Try.ntmps33 (by simp) ?_
  simp +contextual (maxSteps := 2000000) (disch := (first | omega | (simp only [World.size_alloc, World.size_setCell, World.size_drew]; done) | (simp only [World.size_alloc, World.size_setCell, World.size_drew]; omega) | (simp only [Bool.false_eq_true, false_or, or_false, true_and, and_true, not_false_eq_true, Bool.true_eq_false, decide_eq_true_eq, decide_eq_false_iff_not, Bool.not_eq_true', Bool.not_eq_false', Bool.and_eq_true, Bool.or_eq_true, Bool.and_eq_false_iff, Bool.or_eq_false_iff, Bool.not_not, Classical.not_not] at *; omega) | fail)) only [RB0, RB1, RB2, RB3, RB4, RB5, RB6, RB7, RB8, RB9, RB10, RB11, RB12, RB13, RB14, RB15, RB16, RB17, RB18, RB19, RB20, RB21, MX, BF, TY0, TY1, TY2, TY3, TY4, TY5, TY6, TY7, TY8, gval, gslot, decide_true, decide_false, Option.isNone_some, Option.isNone_none, Option.isSome_some, Option.isSome_none, fillL, ovw, numb, catL, List.length_cons, List.length_nil, List.cons_append, List.nil_append, List.size_toArray, ldN, agL, okC, List.setIfInBounds_toArray, List.set_cons_zero, List.set_cons_succ, oneC, Option.map_some, Option.map_none, init, List.getElem?_toArray, List.getElem?_cons_zero, List.getElem?_cons_succ, Option.bind_some, Option.bind_none, List.map_cons, List.map_nil, Nat.reduceAdd, Nat.reduceMul, Nat.reduceSub, Nat.reduceEqDiff, Nat.reduceLT, ↓reduceIte, Int.reduceToNat, Int.reduceAdd, Int.reduceSub, Int.reduceMul, Int.reduceLT, Int.reduceLE, Int.reduceEq, Nat.reduceLeDiff]
  refine (isLetter_any c _).mono ?_
  rintro e w' ⟨rfl, rfl⟩
  refine ⟨_, rfl, ?_⟩
  simp +contextual (maxSteps := 2000000) (disch := (first | omega | (simp only [World.size_alloc, World.size_setCell, World.size_drew]; done) | (simp only [World.size_alloc, World.size_setCell, World.size_drew]; omega) | (simp only [Bool.false_eq_true, false_or, or_false, true_and, and_true, not_false_eq_true, Bool.true_eq_false, decide_eq_true_eq, decide_eq_false_iff_not, Bool.not_eq_true', Bool.not_eq_false', Bool.and_eq_true, Bool.or_eq_true, Bool.and_eq_false_iff, Bool.or_eq_false_iff, Bool.not_not, Classical.not_not] at *; omega) | fail)) only [RB0, RB1, RB2, RB3, RB4, RB5, RB6, RB7, RB8, RB9, RB10, RB11, RB12, RB13, RB14, RB15, RB16, RB17, RB18, RB19, RB20, RB21, MX, BF, TY0, TY1, TY2, TY3, TY4, TY5, TY6, TY7, TY8, gval, gslot, decide_true, decide_false, Option.isNone_some, Option.isNone_none, Option.isSome_some, Option.isSome_none, fillL, ovw, numb, catL, List.length_cons, List.length_nil, List.cons_append, List.nil_append, List.size_toArray, ldN, agL, okC, List.setIfInBounds_toArray, List.set_cons_zero, List.set_cons_succ, oneC, Option.map_some, Option.map_none, init, List.getElem?_toArray, List.getElem?_cons_zero, List.getElem?_cons_succ, Option.bind_some, Option.bind_none, List.map_cons, List.map_nil, Nat.reduceAdd, Nat.reduceMul, Nat.reduceSub, Nat.reduceEqDiff, Nat.reduceLT, ↓reduceIte, Int.reduceToNat, Int.reduceAdd, Int.reduceSub, Int.reduceMul, Int.reduceLT, Int.reduceLE, Int.reduceEq, Nat.reduceLeDiff]
  refine GB_call (fun _ => isDigit_any c _) ?_
  simp +contextual (maxSteps := 2000000) (disch := (first | omega | (simp only [World.size_alloc, World.size_setCell, World.size_drew]; done) | (simp only [World.size_alloc, World.size_setCell, World.size_drew]; omega) | (simp only [Bool.false_eq_true, false_or, or_false, true_and, and_true, not_false_eq_true, Bool.true_eq_false, decide_eq_true_eq, decide_eq_false_iff_not, Bool.not_eq_true', Bool.not_eq_false', Bool.and_eq_true, Bool.or_eq_true, Bool.and_eq_false_iff, Bool.or_eq_false_iff, Bool.not_not, Classical.not_not] at *; omega) | fail)) only [RB0, RB1, RB2, RB3, RB4, RB5, RB6, RB7, RB8, RB9, RB10, RB11, RB12, RB13, RB14, RB15, RB16, RB17, RB18, RB19, RB20, RB21, MX, BF, TY0, TY1, TY2, TY3, TY4, TY5, TY6, TY7, TY8, gval, gslot, decide_true, decide_false, Option.isNone_some, Option.isNone_none, Option.isSome_some, Option.isSome_none, fillL, ovw, numb, catL, List.length_cons, List.length_nil, List.cons_append, List.nil_append, List.size_toArray, ldN, agL, okC, List.setIfInBounds_toArray, List.set_cons_zero, List.set_cons_succ, oneC, Option.map_some, Option.map_none, init, List.getElem?_toArray, List.getElem?_cons_zero, List.getElem?_cons_succ, Option.bind_some, Option.bind_none, List.map_cons, List.map_nil, Nat.reduceAdd, Nat.reduceMul, Nat.reduceSub, Nat.reduceEqDiff, Nat.reduceLT, ↓reduceIte, Int.reduceToNat, Int.reduceAdd, Int.reduceSub, Int.reduceMul, Int.reduceLT, Int.reduceLE, Int.reduceEq, Nat.reduceLeDiff]
  exact rfl
theorem rblank_any (c : Int) (w : World) : Calls Try.prog 41 #[.int .u8 c] w fun e w' => e = .returned (.bool (blankI c)) ∧ w = w' := by
  refine calls_W (l := [_]) Try.func41 rfl _ Try.ntmps41 (by simp) ?_
  simp +contextual (maxSteps := 2000000) (disch := (first | omega | (simp only [World.size_alloc, World.size_setCell, World.size_drew]; done) | (simp only [World.size_alloc, World.size_setCell, World.size_drew]; omega) | (simp only [Bool.false_eq_true, false_or, or_false, true_and, and_true, not_false_eq_true, Bool.true_eq_false, decide_eq_true_eq, decide_eq_false_iff_not, Bool.not_eq_true', Bool.not_eq_false', Bool.and_eq_true, Bool.or_eq_true, Bool.and_eq_false_iff, Bool.or_eq_false_iff, Bool.not_not, Classical.not_not] at *; omega) | fail)) only [RB0, RB1, RB2, RB3, RB4, RB5, RB6, RB7, RB8, RB9, RB10, RB11, RB12, RB13, RB14, RB15, RB16, RB17, RB18, RB19, RB20, RB21, MX, BF, TY0, TY1, TY2, TY3, TY4, TY5, TY6, TY7, TY8, gval, gslot, decide_true, decide_false, Option.isNone_some, Option.isNone_none, Option.isSome_some, Option.isSome_none, fillL, ovw, numb, catL, List.length_cons, List.length_nil, List.cons_append, List.nil_append, List.size_toArray, ldN, agL, okC, List.setIfInBounds_toArray, List.set_cons_zero, List.set_cons_succ, oneC, Option.map_some, Option.map_none, init, List.getElem?_toArray, List.getElem?_cons_zero, List.getElem?_cons_succ, Option.bind_some, Option.bind_none, List.map_cons, List.map_nil, Nat.reduceAdd, Nat.reduceMul, Nat.reduceSub, Nat.reduceEqDiff, Nat.reduceLT, ↓reduceIte, Int.reduceToNat, Int.reduceAdd, Int.reduceSub, Int.reduceMul, Int.reduceLT, Int.reduceLE, Int.reduceEq, Nat.reduceLeDiff]
  exact rfl
theorem rdigit_any (c : Int) (w : World) : Calls Try.prog 44 #[.int .u8 c] w fun e w' => e = .returned (.bool (digitI c)) ∧ w = w' := by
  refine calls_W (l := [_]) Try.func44 rfl _ Try.ntmps44 (by simp) ?_
  simp +contextual (maxSteps := 2000000) (disch := (first | omega | (simp only [World.size_alloc, World.size_setCell, World.size_drew]; done) | (simp only [World.size_alloc, World.size_setCell, World.size_drew]; omega) | (simp only [Bool.false_eq_true, false_or, or_false, true_and, and_true, not_false_eq_true, Bool.true_eq_false, decide_eq_true_eq, decide_eq_false_iff_not, Bool.not_eq_true', Bool.not_eq_false', Bool.and_eq_true, Bool.or_eq_true, Bool.and_eq_false_iff, Bool.or_eq_false_iff, Bool.not_not, Classical.not_not] at *; omega) | fail)) only [RB0, RB1, RB2, RB3, RB4, RB5, RB6, RB7, RB8, RB9, RB10, RB11, RB12, RB13, RB14, RB15, RB16, RB17, RB18, RB19, RB20, RB21, MX, BF, TY0, TY1, TY2, TY3, TY4, TY5, TY6, TY7, TY8, gval, gslot, decide_true, decide_false, Option.isNone_some, Option.isNone_none, Option.isSome_some, Option.isSome_none, fillL, ovw, numb, catL, List.length_cons, List.length_nil, List.cons_append, List.nil_append, List.size_toArray, ldN, agL, okC, List.setIfInBounds_toArray, List.set_cons_zero, List.set_cons_succ, oneC, Option.map_some, Option.map_none, init, List.getElem?_toArray, List.getElem?_cons_zero, List.getElem?_cons_succ, Option.bind_some, Option.bind_none, List.map_cons, List.map_nil, Nat.reduceAdd, Nat.reduceMul, Nat.reduceSub, Nat.reduceEqDiff, Nat.reduceLT, ↓reduceIte, Int.reduceToNat, Int.reduceAdd, Int.reduceSub, Int.reduceMul, Int.reduceLT, Int.reduceLE, Int.reduceEq, Nat.reduceLeDiff]
  exact rfl
theorem rletter_any (c : Int) (w : World) : Calls Try.prog 43 #[.int .u8 c] w fun e w' => e = .returned (.bool (letterI c)) ∧ w = w' := by
  refine calls_W (l := [_]) Try.func43 rfl _ Try.ntmps43 (by simp) ?_
  simp +contextual (maxSteps := 2000000) (disch := (first | omega | (simp only [World.size_alloc, World.size_setCell, World.size_drew]; done) | (simp only [World.size_alloc, World.size_setCell, World.size_drew]; omega) | (simp only [Bool.false_eq_true, false_or, or_false, true_and, and_true, not_false_eq_true, Bool.true_eq_false, decide_eq_true_eq, decide_eq_false_iff_not, Bool.not_eq_true', Bool.not_eq_false', Bool.and_eq_true, Bool.or_eq_true, Bool.and_eq_false_iff, Bool.or_eq_false_iff, Bool.not_not, Classical.not_not] at *; omega) | fail)) only [RB0, RB1, RB2, RB3, RB4, RB5, RB6, RB7, RB8, RB9, RB10, RB11, RB12, RB13, RB14, RB15, RB16, RB17, RB18, RB19, RB20, RB21, MX, BF, TY0, TY1, TY2, TY3, TY4, TY5, TY6, TY7, TY8, gval, gslot, decide_true, decide_false, Option.isNone_some, Option.isNone_none, Option.isSome_some, Option.isSome_none, fillL, ovw, numb, catL, List.length_cons, List.length_nil, List.cons_append, List.nil_append, List.size_toArray, ldN, agL, okC, List.setIfInBounds_toArray, List.set_cons_zero, List.set_cons_succ, oneC, Option.map_some, Option.map_none, init, List.getElem?_toArray, List.getElem?_cons_zero, List.getElem?_cons_succ, Option.bind_some, Option.bind_none, List.map_cons, List.map_nil, Nat.reduceAdd, Nat.reduceMul, Nat.reduceSub, Nat.reduceEqDiff, Nat.reduceLT, ↓reduceIte, Int.reduceToNat, Int.reduceAdd, Int.reduceSub, Int.reduceMul, Int.reduceLT, Int.reduceLE, Int.reduceEq, Nat.reduceLeDiff]
  exact rfl
theorem rmark_any (c : Int) (w : World) : Calls Try.prog 42 #[.int .u8 c] w fun e w' => e = .returned (.bool (markI c)) ∧ w = w' := by
  refine calls_W (l := [_]) Try.func42 rfl _ Try.ntmps42 (by simp) ?_
  simp +contextual (maxSteps := 2000000) (disch := (first | omega | (simp only [World.size_alloc, World.size_setCell, World.size_drew]; done) | (simp only [World.size_alloc, World.size_setCell, World.size_drew]; omega) | (simp only [Bool.false_eq_true, false_or, or_false, true_and, and_true, not_false_eq_true, Bool.true_eq_false, decide_eq_true_eq, decide_eq_false_iff_not, Bool.not_eq_true', Bool.not_eq_false', Bool.and_eq_true, Bool.or_eq_true, Bool.and_eq_false_iff, Bool.or_eq_false_iff, Bool.not_not, Classical.not_not] at *; omega) | fail)) only [RB0, RB1, RB2, RB3, RB4, RB5, RB6, RB7, RB8, RB9, RB10, RB11, RB12, RB13, RB14, RB15, RB16, RB17, RB18, RB19, RB20, RB21, MX, BF, TY0, TY1, TY2, TY3, TY4, TY5, TY6, TY7, TY8, gval, gslot, decide_true, decide_false, Option.isNone_some, Option.isNone_none, Option.isSome_some, Option.isSome_none, fillL, ovw, numb, catL, List.length_cons, List.length_nil, List.cons_append, List.nil_append, List.size_toArray, ldN, agL, okC, List.setIfInBounds_toArray, List.set_cons_zero, List.set_cons_succ, oneC, Option.map_some, Option.map_none, init, List.getElem?_toArray, List.getElem?_cons_zero, List.getElem?_cons_succ, Option.bind_some, Option.bind_none, List.map_cons, List.map_nil, Nat.reduceAdd, Nat.reduceMul, Nat.reduceSub, Nat.reduceEqDiff, Nat.reduceLT, ↓reduceIte, Int.reduceToNat, Int.reduceAdd, Int.reduceSub, Int.reduceMul, Int.reduceLT, Int.reduceLE, Int.reduceEq, Nat.reduceLeDiff]
  exact rfl
theorem badNumber_any (s : ByteArray) (w : World) (hs : s.size ≤ 9223372036854775807) : Calls Try.prog 35 #[.string s] w fun e w' => e = .returned (.bool (badN s.size (bt s 0))) ∧ w = w' := by
  refine calls_W (l := [_]) Try.func35 rfl _ Try.ntmps35 (by simp) ?_
  simp +contextual (maxSteps := 2000000) (disch := (first | omega | (simp only [World.size_alloc, World.size_setCell, World.size_drew]; done) | (simp only [World.size_alloc, World.size_setCell, World.size_drew]; omega) | (simp only [Bool.false_eq_true, false_or, or_false, true_and, and_true, not_false_eq_true, Bool.true_eq_false, decide_eq_true_eq, decide_eq_false_iff_not, Bool.not_eq_true', Bool.not_eq_false', Bool.and_eq_true, Bool.or_eq_true, Bool.and_eq_false_iff, Bool.or_eq_false_iff, Bool.not_not, Classical.not_not] at *; omega) | fail)) only [RB0, RB1, RB2, RB3, RB4, RB5, RB6, RB7, RB8, RB9, RB10, RB11, RB12, RB13, RB14, RB15, RB16, RB17, RB18, RB19, RB20, RB21, MX, BF, TY0, TY1, TY2, TY3, TY4, TY5, TY6, TY7, TY8, gval, gslot, decide_true, decide_false, Option.isNone_some, Option.isNone_none, Option.isSome_some, Option.isSome_none, fillL, ovw, numb, catL, List.length_cons, List.length_nil, List.cons_append, List.nil_append, List.size_toArray, ldN, agL, okC, List.setIfInBounds_toArray, List.set_cons_zero, List.set_cons_succ, oneC, Option.map_some, Option.map_none, init, List.getElem?_toArray, List.getElem?_cons_zero, List.getElem?_cons_succ, Option.bind_some, Option.bind_none, List.map_cons, List.map_nil, Nat.reduceAdd, Nat.reduceMul, Nat.reduceSub, Nat.reduceEqDiff, Nat.reduceLT, ↓reduceIte, Int.reduceToNat, Int.reduceAdd, Int.reduceSub, Int.reduceMul, Int.reduceLT, Int.reduceLE, Int.reduceEq, Nat.reduceLeDiff]
  refine ret_bool ?_
  unfold badN
  rw [Bool.eq_iff_iff]
  simp only [Bool.or_eq_true, Bool.and_eq_true, decide_eq_true_eq, beq_iff_eq]
  omega
theorem blankIB (c : Nat) : blankI c = blankB c := by
  unfold blankI blankB; rw [Bool.eq_iff_iff]; simp only [Bool.or_eq_true, Bool.and_eq_true, decide_eq_true_eq, beq_iff_eq]; omega
theorem letterIB (c : Nat) : letterI c = letterB c := by
  unfold letterI letterB; rw [Bool.eq_iff_iff]; simp only [Bool.or_eq_true, Bool.and_eq_true, decide_eq_true_eq, beq_iff_eq]; omega
theorem digitIB (c : Nat) : digitI c = digitB c := by
  unfold digitI digitB; rw [Bool.eq_iff_iff]; simp only [Bool.or_eq_true, Bool.and_eq_true, decide_eq_true_eq, beq_iff_eq]; omega
theorem wordIB (c : Nat) : wordI c = wordB c := by
  have e : decide ((c : Int) = 45) = (c == 45) := by rw [Bool.eq_iff_iff]; simp only [decide_eq_true_eq, beq_iff_eq]; omega
  unfold wordI wordB; rw [letterIB, digitIB, e]
theorem remIB (c : Nat) : remI c = remB c := by
  unfold remI remB; rw [Bool.eq_iff_iff]; simp only [Bool.not_eq_true', decide_eq_false_iff_not, beq_eq_false_iff_ne, ne_eq]; omega
theorem markIB (c : Nat) : markI c = markB c := by
  unfold markI markB; rw [Bool.eq_iff_iff]; simp only [Bool.or_eq_true, Bool.and_eq_true, decide_eq_true_eq, beq_iff_eq]; omega
/-- A rune at a place: its bytes. -/
theorem get_bt {s : ByteArray} {i : Nat} (h : i < s.size) : (s.get! i).toNat = bt s i := by
  unfold bt
  have : s.get! i = s.data.toList.getD i 0 := by
    show s.data[i]! = _
    have h' : i < s.data.size := h
    rw [getElem!_pos s.data i h', List.getD_eq_getElem?_getD, List.getElem?_eq_getElem (by simpa using h')]
    simp
  rw [this]
theorem decode_lo {s : ByteArray} {i : Nat} (h : i < s.size) (hb : bt s i < 128) : Utf8.decode s i = (bt s i, 1) := by
  have e := get_bt h
  unfold Utf8.decode
  simp only [Nat.add_zero, e]
  rw [if_pos hb]
theorem decode_hi {s : ByteArray} {i : Nat} (h : i < s.size) (hb : 128 ≤ bt s i) : 128 ≤ (Utf8.decode s i).1 ∧ 1 ≤ (Utf8.decode s i).2 ∧ i + (Utf8.decode s i).2 ≤ s.size ∧ ∀ j, j < (Utf8.decode s i).2 → 128 ≤ bt s (i + j) := by
  have e := get_bt h
  have c : ∀ k, (decide (i + k < s.size) && (s.get! (i + k)).toNat / 64 == 2) = true → i + k < s.size ∧ 128 ≤ bt s (i + k) := by
    intro k hk
    rw [Bool.and_eq_true, decide_eq_true_eq, beq_iff_eq] at hk
    rw [get_bt hk.1] at hk
    exact ⟨hk.1, by omega⟩
  have one : ∀ j, j < 1 → 128 ≤ bt s (i + j) := by
    intro j hj
    obtain rfl : j = 0 := by omega
    exact hb
  unfold Utf8.decode Utf8.runeError
  simp only [Nat.add_zero, e]
  rw [if_neg (by omega)]
  split
  · rename_i h1
    rw [Bool.and_eq_true] at h1
    have c1 := c 1 h1.2
    split
    · refine ⟨by simp only; omega, by simp, by simp only; omega, fun j hj => ?_⟩
      simp only at hj
      match j, hj with
      | 0, _ => exact hb
      | 1, _ => exact c1.2
    · exact ⟨by simp, by simp, by simp only; omega, one⟩
  split
  · rename_i h1
    rw [Bool.and_eq_true, Bool.and_eq_true] at h1
    have c1 := c 1 h1.1.2
    have c2 := c 2 h1.2
    split
    · rename_i h2
      rw [Bool.and_eq_true, decide_eq_true_eq] at h2
      refine ⟨by simp only; omega, by simp, by simp only; omega, fun j hj => ?_⟩
      simp only at hj
      match j, hj with
      | 0, _ => exact hb
      | 1, _ => exact c1.2
      | 2, _ => exact c2.2
    · exact ⟨by simp, by simp, by simp only; omega, one⟩
  split
  · rename_i h1
    rw [Bool.and_eq_true, Bool.and_eq_true, Bool.and_eq_true] at h1
    have c1 := c 1 h1.1.1.2
    have c2 := c 2 h1.1.2
    have c3 := c 3 h1.2
    split
    · rename_i h2
      rw [Bool.and_eq_true, decide_eq_true_eq] at h2
      refine ⟨by simp only; omega, by simp, by simp only; omega, fun j hj => ?_⟩
      simp only at hj
      match j, hj with
      | 0, _ => exact hb
      | 1, _ => exact c1.2
      | 2, _ => exact c2.2
      | 3, _ => exact c3.2
    · exact ⟨by simp, by simp, by simp only; omega, one⟩
  exact ⟨by simp, by simp, by simp only; omega, one⟩
theorem decode_top (s : ByteArray) (i : Nat) : (Utf8.decode s i).1 ≤ 1114111 := by
  have hb := UInt8.toNat_lt (s.get! i)
  have hb' : (s.get! (i + 0)).toNat < 256 := by rw [Nat.add_zero]; exact hb
  unfold Utf8.decode Utf8.runeError
  simp only
  repeat' split
  all_goals first
    | (simp only; omega)
    | (rename_i h; simp only [Utf8.valid, Bool.and_eq_true, Bool.or_eq_true, decide_eq_true_eq] at h; simp only; omega)
def iterPos (w : World) (g : Nat) : Nat := match w.heap[g]? with
  | some (.stringIter _ p) => p
  | _ => 0
theorem span_any (s : ByteArray) (f : FuncId) (p : Int → Bool) (q : Nat → Bool) (hi : Bool) (w : World) (hs : s.size ≤ 9223372036854775807) (hb : bodyB Try.prog f = true)
    (hf : ∀ c w, Calls Try.prog f #[.int .i32 c] w fun e w' => e = .returned (.bool (p c)) ∧ w = w')
    (h1 : ∀ c : Nat, p c = q c) (h2 : ∀ c : Nat, 128 ≤ c → q c = hi) :
    Calls Try.prog 30 #[.string s, .func (.func f) #[] #[]] w fun e w' => e = .returned (.int .i64 (spn q (bs s))) ∧ Below w.heap.size w w' := by
  refine calls_W (l := [_, _]) Try.func30 rfl _ Try.ntmps30 (by simp) ?_
  simp +contextual (maxSteps := 2000000) (disch := (first | omega | (simp only [World.size_alloc, World.size_setCell, World.size_drew]; done) | (simp only [World.size_alloc, World.size_setCell, World.size_drew]; omega) | (simp only [Bool.false_eq_true, false_or, or_false, true_and, and_true, not_false_eq_true, Bool.true_eq_false, decide_eq_true_eq, decide_eq_false_iff_not, Bool.not_eq_true', Bool.not_eq_false', Bool.and_eq_true, Bool.or_eq_true, Bool.and_eq_false_iff, Bool.or_eq_false_iff, Bool.not_not, Classical.not_not] at *; omega) | fail)) only [RB0, RB1, RB2, RB3, RB4, RB5, RB6, RB7, RB8, RB9, RB10, RB11, RB12, RB13, RB14, RB15, RB16, RB17, RB18, RB19, RB20, RB21, MX, BF, TY0, TY1, TY2, TY3, TY4, TY5, TY6, TY7, TY8, gval, gslot, decide_true, decide_false, Option.isNone_some, Option.isNone_none, Option.isSome_some, Option.isSome_none, fillL, ovw, numb, catL, List.length_cons, List.length_nil, List.cons_append, List.nil_append, List.size_toArray, ldN, agL, okC, List.setIfInBounds_toArray, List.set_cons_zero, List.set_cons_succ, oneC, Option.map_some, Option.map_none, init, List.getElem?_toArray, List.getElem?_cons_zero, List.getElem?_cons_succ, Option.bind_some, Option.bind_none, List.map_cons, List.map_nil, Nat.reduceAdd, Nat.reduceMul, Nat.reduceSub, Nat.reduceEqDiff, Nat.reduceLT, ↓reduceIte, Int.reduceToNat, Int.reduceAdd, Int.reduceSub, Int.reduceMul, Int.reduceLT, Int.reduceLE, Int.reduceEq, Nat.reduceLeDiff]
  refine Raw_loop (fun σ w' => Below w.heap.size w w' ∧ w.heap.size < w'.heap.size ∧ σ 0 = .string s ∧ σ 1 = .func (.func f) #[] #[] ∧ σ 8 = .pointer (some ⟨w.heap.size, 0, none⟩) ∧ ∃ pos, pos ≤ s.size ∧ w'.heap[w.heap.size]? = some (.stringIter s pos) ∧ ∀ j, j < pos → q (bt s j) = true)
    (fun _ w' => s.size - iterPos w' w.heap.size) ?_ ?_
  · simp +contextual (maxSteps := 2000000) (disch := (first | omega | (simp only [World.size_alloc, World.size_setCell, World.size_drew]; done) | (simp only [World.size_alloc, World.size_setCell, World.size_drew]; omega) | (simp only [Bool.false_eq_true, false_or, or_false, true_and, and_true, not_false_eq_true, Bool.true_eq_false, decide_eq_true_eq, decide_eq_false_iff_not, Bool.not_eq_true', Bool.not_eq_false', Bool.and_eq_true, Bool.or_eq_true, Bool.and_eq_false_iff, Bool.or_eq_false_iff, Bool.not_not, Classical.not_not] at *; omega) | fail)) only [RB0, RB1, RB2, RB3, RB4, RB5, RB6, RB7, RB8, RB9, RB10, RB11, RB12, RB13, RB14, RB15, RB16, RB17, RB18, RB19, RB20, RB21, MX, BF, TY0, TY1, TY2, TY3, TY4, TY5, TY6, TY7, TY8, gval, gslot, decide_true, decide_false, Option.isNone_some, Option.isNone_none, Option.isSome_some, Option.isSome_none, fillL, ovw, numb, catL, List.length_cons, List.length_nil, List.cons_append, List.nil_append, List.size_toArray, ldN, agL, okC, List.setIfInBounds_toArray, List.set_cons_zero, List.set_cons_succ, oneC, Option.map_some, Option.map_none, init, List.getElem?_toArray, List.getElem?_cons_zero, List.getElem?_cons_succ, Option.bind_some, Option.bind_none, List.map_cons, List.map_nil, Nat.reduceAdd, Nat.reduceMul, Nat.reduceSub, Nat.reduceEqDiff, Nat.reduceLT, ↓reduceIte, Int.reduceToNat, Int.reduceAdd, Int.reduceSub, Int.reduceMul, Int.reduceLT, Int.reduceLE, Int.reduceEq, Nat.reduceLeDiff]
    exact ⟨below_alloc _ _, by simp, 0, Nat.zero_le _, heap_alloc_new _ _, fun j h => absurd h (Nat.not_lt_zero _)⟩
  rintro σ w' ⟨hB, hsz, e0, e1, e8, pos, hp, hit, hq⟩ K hK
  by_cases hps : pos < s.size
  · have hn := vNext_some (P := Try.prog) (ty := 0) hit hps
    have hdec : (Utf8.decode s pos).1 ≤ 1114111 ∧ 1 ≤ (Utf8.decode s pos).2 ∧ pos + (Utf8.decode s pos).2 ≤ s.size ∧ (p (Utf8.decode s pos).1 = q (bt s pos)) ∧ ∀ j, j < (Utf8.decode s pos).2 → q (bt s (pos + j)) = q (bt s pos) := by
      by_cases hlo : bt s pos < 128
      · rw [decode_lo hps hlo]
        refine ⟨by simp only; omega, Nat.le_refl _, hps, h1 _, fun j hj => ?_⟩
        obtain rfl : j = 0 := by simp only at hj; omega
        rfl
      · obtain ⟨d1, d2, d3, d4⟩ := decode_hi hps (by omega)
        refine ⟨decode_top s pos, d2, d3, ?_, fun j hj => ?_⟩
        · rw [h1, h2 _ d1, h2 _ (by omega)]
        · rw [h2 _ (d4 j hj), h2 _ (by omega)]
    obtain ⟨hd0, hd1, hd2, hd3, hd4⟩ := hdec
    generalize Utf8.decode s pos = cd at *
    have hb2 : Below w.heap.size w (setO w' w.heap.size (.stringIter s (pos + cd.2))) := setO_below hB (Nat.le_refl _) _
    have hi2 : (setO w' w.heap.size (.stringIter s (pos + cd.2))).heap[w.heap.size]? = some (.stringIter s (pos + cd.2)) := setO_at _ hsz
    have hs2 : w.heap.size < (setO w' w.heap.size (.stringIter s (pos + cd.2))).heap.size := by rw [setO_size]; exact hsz
    have hmu : iterPos w' w.heap.size = pos := by unfold iterPos; rw [hit]
    simp +contextual (maxSteps := 2000000) (disch := (first | omega | (simp only [World.size_alloc, World.size_setCell, World.size_drew]; done) | (simp only [World.size_alloc, World.size_setCell, World.size_drew]; omega) | (simp only [Bool.false_eq_true, false_or, or_false, true_and, and_true, not_false_eq_true, Bool.true_eq_false, decide_eq_true_eq, decide_eq_false_iff_not, Bool.not_eq_true', Bool.not_eq_false', Bool.and_eq_true, Bool.or_eq_true, Bool.and_eq_false_iff, Bool.or_eq_false_iff, Bool.not_not, Classical.not_not] at *; omega) | fail)) only [RB0, RB1, RB2, RB3, RB4, RB5, RB6, RB7, RB8, RB9, RB10, RB11, RB12, RB13, RB14, RB15, RB16, RB17, RB18, RB19, RB20, RB21, MX, BF, TY0, TY1, TY2, TY3, TY4, TY5, TY6, TY7, TY8, gval, gslot, decide_true, decide_false, Option.isNone_some, Option.isNone_none, Option.isSome_some, Option.isSome_none, fillL, ovw, numb, catL, List.length_cons, List.length_nil, List.cons_append, List.nil_append, List.size_toArray, ldN, agL, okC, List.setIfInBounds_toArray, List.set_cons_zero, List.set_cons_succ, oneC, Option.map_some, Option.map_none, init, List.getElem?_toArray, List.getElem?_cons_zero, List.getElem?_cons_succ, Option.bind_some, Option.bind_none, List.map_cons, List.map_nil, Nat.reduceAdd, Nat.reduceMul, Nat.reduceSub, Nat.reduceEqDiff, Nat.reduceLT, ↓reduceIte, Int.reduceToNat, Int.reduceAdd, Int.reduceSub, Int.reduceMul, Int.reduceLT, Int.reduceLE, Int.reduceEq, Nat.reduceLeDiff,  e0, e1, e8, hn]
    generalize setO w' w.heap.size (.stringIter s (pos + cd.2)) = w2 at *
    have hmu2 : iterPos w2 w.heap.size = pos + cd.2 := by unfold iterPos; rw [hi2]
    refine W_if_t rfl ?_
    simp +contextual (maxSteps := 2000000) (disch := (first | omega | (simp only [World.size_alloc, World.size_setCell, World.size_drew]; done) | (simp only [World.size_alloc, World.size_setCell, World.size_drew]; omega) | (simp only [Bool.false_eq_true, false_or, or_false, true_and, and_true, not_false_eq_true, Bool.true_eq_false, decide_eq_true_eq, decide_eq_false_iff_not, Bool.not_eq_true', Bool.not_eq_false', Bool.and_eq_true, Bool.or_eq_true, Bool.and_eq_false_iff, Bool.or_eq_false_iff, Bool.not_not, Classical.not_not] at *; omega) | fail)) only [RB0, RB1, RB2, RB3, RB4, RB5, RB6, RB7, RB8, RB9, RB10, RB11, RB12, RB13, RB14, RB15, RB16, RB17, RB18, RB19, RB20, RB21, MX, BF, TY0, TY1, TY2, TY3, TY4, TY5, TY6, TY7, TY8, gval, gslot, decide_true, decide_false, Option.isNone_some, Option.isNone_none, Option.isSome_some, Option.isSome_none, fillL, ovw, numb, catL, List.length_cons, List.length_nil, List.cons_append, List.nil_append, List.size_toArray, ldN, agL, okC, List.setIfInBounds_toArray, List.set_cons_zero, List.set_cons_succ, oneC, Option.map_some, Option.map_none, init, List.getElem?_toArray, List.getElem?_cons_zero, List.getElem?_cons_succ, Option.bind_some, Option.bind_none, List.map_cons, List.map_nil, Nat.reduceAdd, Nat.reduceMul, Nat.reduceSub, Nat.reduceEqDiff, Nat.reduceLT, ↓reduceIte, Int.reduceToNat, Int.reduceAdd, Int.reduceSub, Int.reduceMul, Int.reduceLT, Int.reduceLE, Int.reduceEq, Nat.reduceLeDiff,  e0, e1, e8, hb]
    refine (hf _ _).mono ?_
    rintro e w3 ⟨rfl, rfl⟩
    refine ⟨_, rfl, ?_⟩
    rw [hd3]
    simp +contextual (maxSteps := 2000000) (disch := (first | omega | (simp only [World.size_alloc, World.size_setCell, World.size_drew]; done) | (simp only [World.size_alloc, World.size_setCell, World.size_drew]; omega) | (simp only [Bool.false_eq_true, false_or, or_false, true_and, and_true, not_false_eq_true, Bool.true_eq_false, decide_eq_true_eq, decide_eq_false_iff_not, Bool.not_eq_true', Bool.not_eq_false', Bool.and_eq_true, Bool.or_eq_true, Bool.and_eq_false_iff, Bool.or_eq_false_iff, Bool.not_not, Classical.not_not] at *; omega) | fail)) only [RB0, RB1, RB2, RB3, RB4, RB5, RB6, RB7, RB8, RB9, RB10, RB11, RB12, RB13, RB14, RB15, RB16, RB17, RB18, RB19, RB20, RB21, MX, BF, TY0, TY1, TY2, TY3, TY4, TY5, TY6, TY7, TY8, gval, gslot, decide_true, decide_false, Option.isNone_some, Option.isNone_none, Option.isSome_some, Option.isSome_none, fillL, ovw, numb, catL, List.length_cons, List.length_nil, List.cons_append, List.nil_append, List.size_toArray, ldN, agL, okC, List.setIfInBounds_toArray, List.set_cons_zero, List.set_cons_succ, oneC, Option.map_some, Option.map_none, init, List.getElem?_toArray, List.getElem?_cons_zero, List.getElem?_cons_succ, Option.bind_some, Option.bind_none, List.map_cons, List.map_nil, Nat.reduceAdd, Nat.reduceMul, Nat.reduceSub, Nat.reduceEqDiff, Nat.reduceLT, ↓reduceIte, Int.reduceToNat, Int.reduceAdd, Int.reduceSub, Int.reduceMul, Int.reduceLT, Int.reduceLE, Int.reduceEq, Nat.reduceLeDiff,  e0, e1, e8]
    (refine W_if rfl (fun hc => ?_) (fun hc => ?_) <;> (try simp only [Bool.false_eq_true, false_or, or_false, true_and, and_true, not_false_eq_true, Bool.true_eq_false, decide_eq_true_eq, decide_eq_false_iff_not, Bool.not_eq_true', Bool.not_eq_false', Bool.and_eq_true, Bool.or_eq_true, Bool.and_eq_false_iff, Bool.or_eq_false_iff, Bool.not_not, Classical.not_not] at hc))
    · simp +contextual (maxSteps := 2000000) (disch := (first | omega | (simp only [World.size_alloc, World.size_setCell, World.size_drew]; done) | (simp only [World.size_alloc, World.size_setCell, World.size_drew]; omega) | (simp only [Bool.false_eq_true, false_or, or_false, true_and, and_true, not_false_eq_true, Bool.true_eq_false, decide_eq_true_eq, decide_eq_false_iff_not, Bool.not_eq_true', Bool.not_eq_false', Bool.and_eq_true, Bool.or_eq_true, Bool.and_eq_false_iff, Bool.or_eq_false_iff, Bool.not_not, Classical.not_not] at *; omega) | fail)) only [RB0, RB1, RB2, RB3, RB4, RB5, RB6, RB7, RB8, RB9, RB10, RB11, RB12, RB13, RB14, RB15, RB16, RB17, RB18, RB19, RB20, RB21, MX, BF, TY0, TY1, TY2, TY3, TY4, TY5, TY6, TY7, TY8, gval, gslot, decide_true, decide_false, Option.isNone_some, Option.isNone_none, Option.isSome_some, Option.isSome_none, fillL, ovw, numb, catL, List.length_cons, List.length_nil, List.cons_append, List.nil_append, List.size_toArray, ldN, agL, okC, List.setIfInBounds_toArray, List.set_cons_zero, List.set_cons_succ, oneC, Option.map_some, Option.map_none, init, List.getElem?_toArray, List.getElem?_cons_zero, List.getElem?_cons_succ, Option.bind_some, Option.bind_none, List.map_cons, List.map_nil, Nat.reduceAdd, Nat.reduceMul, Nat.reduceSub, Nat.reduceEqDiff, Nat.reduceLT, ↓reduceIte, Int.reduceToNat, Int.reduceAdd, Int.reduceSub, Int.reduceMul, Int.reduceLT, Int.reduceLE, Int.reduceEq, Nat.reduceLeDiff]
      refine ⟨?_, hb2⟩
      rw [show spn q (bs s) = pos from spn_is _ _ (fun j hj => ⟨_, bs_get (by omega), hq j hj⟩) (fun c hc' => by rw [bs_get hps] at hc'; injection hc' with hc'; rw [← hc']; exact hc)]
    · simp +contextual (maxSteps := 2000000) (disch := (first | omega | (simp only [World.size_alloc, World.size_setCell, World.size_drew]; done) | (simp only [World.size_alloc, World.size_setCell, World.size_drew]; omega) | (simp only [Bool.false_eq_true, false_or, or_false, true_and, and_true, not_false_eq_true, Bool.true_eq_false, decide_eq_true_eq, decide_eq_false_iff_not, Bool.not_eq_true', Bool.not_eq_false', Bool.and_eq_true, Bool.or_eq_true, Bool.and_eq_false_iff, Bool.or_eq_false_iff, Bool.not_not, Classical.not_not] at *; omega) | fail)) only [RB0, RB1, RB2, RB3, RB4, RB5, RB6, RB7, RB8, RB9, RB10, RB11, RB12, RB13, RB14, RB15, RB16, RB17, RB18, RB19, RB20, RB21, MX, BF, TY0, TY1, TY2, TY3, TY4, TY5, TY6, TY7, TY8, gval, gslot, decide_true, decide_false, Option.isNone_some, Option.isNone_none, Option.isSome_some, Option.isSome_none, fillL, ovw, numb, catL, List.length_cons, List.length_nil, List.cons_append, List.nil_append, List.size_toArray, ldN, agL, okC, List.setIfInBounds_toArray, List.set_cons_zero, List.set_cons_succ, oneC, Option.map_some, Option.map_none, init, List.getElem?_toArray, List.getElem?_cons_zero, List.getElem?_cons_succ, Option.bind_some, Option.bind_none, List.map_cons, List.map_nil, Nat.reduceAdd, Nat.reduceMul, Nat.reduceSub, Nat.reduceEqDiff, Nat.reduceLT, ↓reduceIte, Int.reduceToNat, Int.reduceAdd, Int.reduceSub, Int.reduceMul, Int.reduceLT, Int.reduceLE, Int.reduceEq, Nat.reduceLeDiff]
      refine hK _ _ ⟨hb2, hs2, e0, e1, e8, pos + cd.2, hd2, hi2, fun j hj => ?_⟩ ?_
      · by_cases hj2 : j < pos
        · exact hq j hj2
        · have := hd4 (j - pos) (by omega)
          rw [show pos + (j - pos) = j from by omega] at this
          rw [this]; exact hc
      · rw [hmu, hmu2]; omega
  · have hn := vNext_end (P := Try.prog) (ty := 0) hit hps
    simp +contextual (maxSteps := 2000000) (disch := (first | omega | (simp only [World.size_alloc, World.size_setCell, World.size_drew]; done) | (simp only [World.size_alloc, World.size_setCell, World.size_drew]; omega) | (simp only [Bool.false_eq_true, false_or, or_false, true_and, and_true, not_false_eq_true, Bool.true_eq_false, decide_eq_true_eq, decide_eq_false_iff_not, Bool.not_eq_true', Bool.not_eq_false', Bool.and_eq_true, Bool.or_eq_true, Bool.and_eq_false_iff, Bool.or_eq_false_iff, Bool.not_not, Classical.not_not] at *; omega) | fail)) only [RB0, RB1, RB2, RB3, RB4, RB5, RB6, RB7, RB8, RB9, RB10, RB11, RB12, RB13, RB14, RB15, RB16, RB17, RB18, RB19, RB20, RB21, MX, BF, TY0, TY1, TY2, TY3, TY4, TY5, TY6, TY7, TY8, gval, gslot, decide_true, decide_false, Option.isNone_some, Option.isNone_none, Option.isSome_some, Option.isSome_none, fillL, ovw, numb, catL, List.length_cons, List.length_nil, List.cons_append, List.nil_append, List.size_toArray, ldN, agL, okC, List.setIfInBounds_toArray, List.set_cons_zero, List.set_cons_succ, oneC, Option.map_some, Option.map_none, init, List.getElem?_toArray, List.getElem?_cons_zero, List.getElem?_cons_succ, Option.bind_some, Option.bind_none, List.map_cons, List.map_nil, Nat.reduceAdd, Nat.reduceMul, Nat.reduceSub, Nat.reduceEqDiff, Nat.reduceLT, ↓reduceIte, Int.reduceToNat, Int.reduceAdd, Int.reduceSub, Int.reduceMul, Int.reduceLT, Int.reduceLE, Int.reduceEq, Nat.reduceLeDiff,  e0, e1, e8, hn]
    refine W_if_f rfl ?_
    simp +contextual (maxSteps := 2000000) (disch := (first | omega | (simp only [World.size_alloc, World.size_setCell, World.size_drew]; done) | (simp only [World.size_alloc, World.size_setCell, World.size_drew]; omega) | (simp only [Bool.false_eq_true, false_or, or_false, true_and, and_true, not_false_eq_true, Bool.true_eq_false, decide_eq_true_eq, decide_eq_false_iff_not, Bool.not_eq_true', Bool.not_eq_false', Bool.and_eq_true, Bool.or_eq_true, Bool.and_eq_false_iff, Bool.or_eq_false_iff, Bool.not_not, Classical.not_not] at *; omega) | fail)) only [RB0, RB1, RB2, RB3, RB4, RB5, RB6, RB7, RB8, RB9, RB10, RB11, RB12, RB13, RB14, RB15, RB16, RB17, RB18, RB19, RB20, RB21, MX, BF, TY0, TY1, TY2, TY3, TY4, TY5, TY6, TY7, TY8, gval, gslot, decide_true, decide_false, Option.isNone_some, Option.isNone_none, Option.isSome_some, Option.isSome_none, fillL, ovw, numb, catL, List.length_cons, List.length_nil, List.cons_append, List.nil_append, List.size_toArray, ldN, agL, okC, List.setIfInBounds_toArray, List.set_cons_zero, List.set_cons_succ, oneC, Option.map_some, Option.map_none, init, List.getElem?_toArray, List.getElem?_cons_zero, List.getElem?_cons_succ, Option.bind_some, Option.bind_none, List.map_cons, List.map_nil, Nat.reduceAdd, Nat.reduceMul, Nat.reduceSub, Nat.reduceEqDiff, Nat.reduceLT, ↓reduceIte, Int.reduceToNat, Int.reduceAdd, Int.reduceSub, Int.reduceMul, Int.reduceLT, Int.reduceLE, Int.reduceEq, Nat.reduceLeDiff,  e0]
    refine ⟨?_, hB⟩
    rw [show spn q (bs s) = s.size from spn_is _ _ (fun j hj => ⟨_, bs_get (by omega), hq j (by omega)⟩) (fun c hc' => by rw [List.getElem?_eq_none (by rw [bs_len]; omega)] at hc'; cases hc')]
end Go.Proofs.Ythadhnmbddddbaa
