/- Walk: lex.Scan. -/
import Derived.Test.YthadhnmbddddbaaLexB
import Derived.Test.YthadhnmbddddbaaLexC
import Derived.Test.YthadhnmbddddbaaLexS
import Derived.Test.YthadhnmbddddbaaOwn
namespace Go.Proofs.Ythadhnmbddddbaa
open Go.RowKit
set_option maxRecDepth 100000
set_option linter.unusedSimpArgs false
def encTk (t : Tk) : List Value := [.int .i64 t.kind, .int .i64 t.line, .int .i64 t.col, .string t.text]
/-- A list of tokens in memory that is nobody else's. -/
def TokIn (base : Nat) (w : World) (v : Value) (L : List Tk) : Prop := ∃ A c, v = .slice A L.length c ∧ w.ownsRow base 32 4 (.slice A L.length c) L.length (L.flatMap encTk)
theorem step1_bd {p : Int × Int} {c : Nat} (h : 1 ≤ p.1 ∧ 1 ≤ p.2) : 1 ≤ (step1 p c).1 ∧ (step1 p c).1 ≤ p.1 + 1 ∧ 1 ≤ (step1 p c).2 ∧ (step1 p c).2 ≤ p.2 + 1 := by
  unfold step1
  split <;> simp only <;> omega
theorem fold_bd : ∀ (b : List Nat) (p : Int × Int), 1 ≤ p.1 ∧ 1 ≤ p.2 → 1 ≤ (b.foldl step1 p).1 ∧ (b.foldl step1 p).1 ≤ p.1 + b.length ∧ 1 ≤ (b.foldl step1 p).2 ∧ (b.foldl step1 p).2 ≤ p.2 + b.length
  | [], p, h => by simp; omega
  | c :: r, p, h => by
    have h1 := step1_bd (c := c) h
    have h2 := fold_bd r (step1 p c) ⟨h1.1, h1.2.2.1⟩
    rw [List.foldl_cons, List.length_cons]
    omega
theorem place_bd (l : List Nat) : 1 ≤ (place l).1 ∧ (place l).1 ≤ l.length + 1 ∧ 1 ≤ (place l).2 ∧ (place l).2 ≤ l.length + 1 := by
  have := fold_bd l (1, 1) ⟨by decide, by decide⟩
  unfold place
  simp only at this
  omega
theorem take_piece (l : List Nat) (a n : Nat) : l.take (a + n) = l.take a ++ (l.drop a).take n := List.take_add
theorem drop_piece (l : List Nat) (a n : Nat) : l.drop (a + n) = (l.drop a).drop n := by rw [List.drop_drop]
theorem count_bs (s : ByteArray) : Lib.countByte s.data.toList 10 = (bs s).count 10 := by
  unfold Lib.countByte bs
  induction s.data.toList with
  | nil => rfl
  | cons c r ih =>
    rw [List.map_cons, List.count_cons, List.count_cons, ih]
    congr 1
    by_cases h : c = 10
    · subst h; rfl
    · have h' : ¬ c.toNat = 10 := fun e => h (UInt8.toNat_inj.1 e)
      simp [h, h']
theorem data_bt {s : ByteArray} {j : Nat} (h : j < s.size) : (s.data[j]!).toNat = bt s j := get_bt h
theorem last_bs (s : ByteArray) : (Lib.lastIndexByte s 10 = -1 ∧ ∀ c ∈ bs s, c ≠ 10) ∨ (∃ i : Nat, i < s.size ∧ Lib.lastIndexByte s 10 = i ∧ (bs s)[i]? = some 10 ∧ ∀ j, i < j → (bs s)[j]? ≠ some 10) := by
  rcases Lib.lastIdx_spec s 10 s.size with ⟨h1, h2⟩ | ⟨i, hi, h1, h2, h3⟩
  · refine .inl ⟨h1, fun c hc e => ?_⟩
    subst e
    obtain ⟨j, hj⟩ := List.mem_iff_getElem?.1 hc
    have hjl := (List.getElem?_eq_some_iff.1 hj).1
    rw [bs_len] at hjl
    rw [bs_get hjl] at hj
    injection hj with hj
    exact h2 j hjl (by rw [data_bt hjl, hj]; rfl)
  · refine .inr ⟨i, hi, h1, ?_, fun j hij hj => ?_⟩
    · rw [bs_get hi]
      rw [data_bt hi] at h2
      congr 1
      omega
    · have hjl := (List.getElem?_eq_some_iff.1 hj).1
      rw [bs_len] at hjl
      rw [bs_get hjl] at hj
      injection hj with hj
      exact h3 j hij hjl (by rw [data_bt hjl, hj]; rfl)
theorem tok_len (D : List (Nat × Nat × Nat)) (s : ByteArray) : (D.map (tokOf s)).length = D.length := List.length_map ..
set_option maxHeartbeats 1000000 in
theorem scan_any (s : ByteArray) (w : World) (hs : s.size ≤ 1000000) :
    Calls Try.prog 11 #[.string s] w fun e w' => Below w.heap.size w w' ∧ ∃ v, e = .returned (.tuple #[v, .int .i64 (scanE s).1, .int .i64 (scanE s).2.1]) ∧ TokIn w.heap.size w' v (scanE s).2.2 := by
  refine calls_W (l := [_]) Try.func11 rfl _ Try.ntmps11 (by simp) ?_
  have hI : sliceI Try.prog 23 = some (32, 4, 40) := by kernel_rfl
  unfold scanE
  simp +contextual (maxSteps := 2000000) (disch := (first | omega | (simp only [World.size_alloc, World.size_setCell, World.size_drew]; done) | (simp only [World.size_alloc, World.size_setCell, World.size_drew]; omega) | (simp only [Bool.false_eq_true, false_or, or_false, true_and, and_true, not_false_eq_true, Bool.true_eq_false, decide_eq_true_eq, decide_eq_false_iff_not, Bool.not_eq_true', Bool.not_eq_false', Bool.and_eq_true, Bool.or_eq_true, Bool.and_eq_false_iff, Bool.or_eq_false_iff, Bool.not_not, Classical.not_not] at *; omega) | fail)) only [RB0, RB1, RB2, RB3, RB4, RB5, RB6, RB7, RB8, RB9, RB10, RB11, RB12, RB13, RB14, RB15, RB16, RB17, RB18, RB19, RB20, RB21, MX, BF, TY0, TY1, TY2, TY3, TY4, TY5, TY6, TY7, TY8, gval, gslot, decide_true, decide_false, Option.isNone_some, Option.isNone_none, Option.isSome_some, Option.isSome_none, fillL, ovw, numb, catL, List.length_cons, List.length_nil, List.cons_append, List.nil_append, List.size_toArray, ldN, agL, okC, List.setIfInBounds_toArray, List.set_cons_zero, List.set_cons_succ, oneC, Option.map_some, Option.map_none, init, List.getElem?_toArray, List.getElem?_cons_zero, List.getElem?_cons_succ, Option.bind_some, Option.bind_none, List.map_cons, List.map_nil, Nat.reduceAdd, Nat.reduceMul, Nat.reduceSub, Nat.reduceEqDiff, Nat.reduceLT, ↓reduceIte, Int.reduceToNat, Int.reduceAdd, Int.reduceSub, Int.reduceMul, Int.reduceLT, Int.reduceLE, Int.reduceEq, Nat.reduceLeDiff]
  (refine W_if rfl (fun hc => ?_) (fun hc => ?_) <;> (try simp only [Bool.false_eq_true, false_or, or_false, true_and, and_true, not_false_eq_true, Bool.true_eq_false, decide_eq_true_eq, decide_eq_false_iff_not, Bool.not_eq_true', Bool.not_eq_false', Bool.and_eq_true, Bool.or_eq_true, Bool.and_eq_false_iff, Bool.or_eq_false_iff, Bool.not_not, Classical.not_not] at hc))
  · rw [if_pos (by omega)]
    simp +contextual (maxSteps := 2000000) (disch := (first | omega | (simp only [World.size_alloc, World.size_setCell, World.size_drew]; done) | (simp only [World.size_alloc, World.size_setCell, World.size_drew]; omega) | (simp only [Bool.false_eq_true, false_or, or_false, true_and, and_true, not_false_eq_true, Bool.true_eq_false, decide_eq_true_eq, decide_eq_false_iff_not, Bool.not_eq_true', Bool.not_eq_false', Bool.and_eq_true, Bool.or_eq_true, Bool.and_eq_false_iff, Bool.or_eq_false_iff, Bool.not_not, Classical.not_not] at *; omega) | fail)) only [RB0, RB1, RB2, RB3, RB4, RB5, RB6, RB7, RB8, RB9, RB10, RB11, RB12, RB13, RB14, RB15, RB16, RB17, RB18, RB19, RB20, RB21, MX, BF, TY0, TY1, TY2, TY3, TY4, TY5, TY6, TY7, TY8, gval, gslot, decide_true, decide_false, Option.isNone_some, Option.isNone_none, Option.isSome_some, Option.isSome_none, fillL, ovw, numb, catL, List.length_cons, List.length_nil, List.cons_append, List.nil_append, List.size_toArray, ldN, agL, okC, List.setIfInBounds_toArray, List.set_cons_zero, List.set_cons_succ, oneC, Option.map_some, Option.map_none, init, List.getElem?_toArray, List.getElem?_cons_zero, List.getElem?_cons_succ, Option.bind_some, Option.bind_none, List.map_cons, List.map_nil, Nat.reduceAdd, Nat.reduceMul, Nat.reduceSub, Nat.reduceEqDiff, Nat.reduceLT, ↓reduceIte, Int.reduceToNat, Int.reduceAdd, Int.reduceSub, Int.reduceMul, Int.reduceLT, Int.reduceLE, Int.reduceEq, Nat.reduceLeDiff]
    exact ⟨Below.refl _ _, _, rfl, none, 0, rfl, owns_nil _ _ _ _⟩
  rw [if_neg (by omega)]
  clear hc
  simp +contextual (maxSteps := 2000000) (disch := (first | omega | (simp only [World.size_alloc, World.size_setCell, World.size_drew]; done) | (simp only [World.size_alloc, World.size_setCell, World.size_drew]; omega) | (simp only [Bool.false_eq_true, false_or, or_false, true_and, and_true, not_false_eq_true, Bool.true_eq_false, decide_eq_true_eq, decide_eq_false_iff_not, Bool.not_eq_true', Bool.not_eq_false', Bool.and_eq_true, Bool.or_eq_true, Bool.and_eq_false_iff, Bool.or_eq_false_iff, Bool.not_not, Classical.not_not] at *; omega) | fail)) only [RB0, RB1, RB2, RB3, RB4, RB5, RB6, RB7, RB8, RB9, RB10, RB11, RB12, RB13, RB14, RB15, RB16, RB17, RB18, RB19, RB20, RB21, MX, BF, TY0, TY1, TY2, TY3, TY4, TY5, TY6, TY7, TY8, gval, gslot, decide_true, decide_false, Option.isNone_some, Option.isNone_none, Option.isSome_some, Option.isSome_none, fillL, ovw, numb, catL, List.length_cons, List.length_nil, List.cons_append, List.nil_append, List.size_toArray, ldN, agL, okC, List.setIfInBounds_toArray, List.set_cons_zero, List.set_cons_succ, oneC, Option.map_some, Option.map_none, init, List.getElem?_toArray, List.getElem?_cons_zero, List.getElem?_cons_succ, Option.bind_some, Option.bind_none, List.map_cons, List.map_nil, Nat.reduceAdd, Nat.reduceMul, Nat.reduceSub, Nat.reduceEqDiff, Nat.reduceLT, ↓reduceIte, Int.reduceToNat, Int.reduceAdd, Int.reduceSub, Int.reduceMul, Int.reduceLT, Int.reduceLE, Int.reduceEq, Nat.reduceLeDiff]
  generalize hR : lexR 0 (bs s) = R
  refine Raw_loop (fun σ w' => Below w.heap.size w w' ∧ ∃ (at_ : Nat) (D : List (Nat × Nat × Nat)) (A : Option Addr) (c : Nat), at_ ≤ s.size ∧ D.length ≤ at_ ∧ joinR D (lexR at_ ((bs s).drop at_)) = R ∧
      w'.ownsRow w.heap.size 32 4 (.slice A D.length c) D.length ((D.map (tokOf s)).flatMap encTk) ∧
      σ 0 = .string s ∧ σ 5 = .slice A D.length c ∧ σ 6 = .int .i64 (place ((bs s).take at_)).1 ∧ σ 7 = .int .i64 (at_ + 1 - (place ((bs s).take at_)).2) ∧ σ 8 = .int .i64 at_) (fun σ _ => s.size - (intOf (σ 8)).toNat) ?_ ?_
  · simp +contextual (maxSteps := 2000000) (disch := (first | omega | (simp only [World.size_alloc, World.size_setCell, World.size_drew]; done) | (simp only [World.size_alloc, World.size_setCell, World.size_drew]; omega) | (simp only [Bool.false_eq_true, false_or, or_false, true_and, and_true, not_false_eq_true, Bool.true_eq_false, decide_eq_true_eq, decide_eq_false_iff_not, Bool.not_eq_true', Bool.not_eq_false', Bool.and_eq_true, Bool.or_eq_true, Bool.and_eq_false_iff, Bool.or_eq_false_iff, Bool.not_not, Classical.not_not] at *; omega) | fail)) only [RB0, RB1, RB2, RB3, RB4, RB5, RB6, RB7, RB8, RB9, RB10, RB11, RB12, RB13, RB14, RB15, RB16, RB17, RB18, RB19, RB20, RB21, MX, BF, TY0, TY1, TY2, TY3, TY4, TY5, TY6, TY7, TY8, gval, gslot, decide_true, decide_false, Option.isNone_some, Option.isNone_none, Option.isSome_some, Option.isSome_none, fillL, ovw, numb, catL, List.length_cons, List.length_nil, List.cons_append, List.nil_append, List.size_toArray, ldN, agL, okC, List.setIfInBounds_toArray, List.set_cons_zero, List.set_cons_succ, oneC, Option.map_some, Option.map_none, init, List.getElem?_toArray, List.getElem?_cons_zero, List.getElem?_cons_succ, Option.bind_some, Option.bind_none, List.map_cons, List.map_nil, Nat.reduceAdd, Nat.reduceMul, Nat.reduceSub, Nat.reduceEqDiff, Nat.reduceLT, ↓reduceIte, Int.reduceToNat, Int.reduceAdd, Int.reduceSub, Int.reduceMul, Int.reduceLT, Int.reduceLE, Int.reduceEq, Nat.reduceLeDiff]
    exact ⟨Below.refl _ _, 0, [], none, 0, Nat.zero_le _, Nat.le_refl _, by rw [List.drop_zero, hR]; cases R <;> rfl, owns_nil _ _ _ _, rfl, rfl, rfl, rfl⟩
  rintro σ w1 ⟨hB, at_, D, A, c, ha, hDa, hj, hown, e0, e5, e6, e7, e8⟩ K hK
  have hpb := place_bd ((bs s).take at_)
  rw [List.length_take, bs_len] at hpb
  simp +contextual (maxSteps := 2000000) (disch := (first | omega | (simp only [World.size_alloc, World.size_setCell, World.size_drew]; done) | (simp only [World.size_alloc, World.size_setCell, World.size_drew]; omega) | (simp only [Bool.false_eq_true, false_or, or_false, true_and, and_true, not_false_eq_true, Bool.true_eq_false, decide_eq_true_eq, decide_eq_false_iff_not, Bool.not_eq_true', Bool.not_eq_false', Bool.and_eq_true, Bool.or_eq_true, Bool.and_eq_false_iff, Bool.or_eq_false_iff, Bool.not_not, Classical.not_not] at *; omega) | fail)) only [RB0, RB1, RB2, RB3, RB4, RB5, RB6, RB7, RB8, RB9, RB10, RB11, RB12, RB13, RB14, RB15, RB16, RB17, RB18, RB19, RB20, RB21, MX, BF, TY0, TY1, TY2, TY3, TY4, TY5, TY6, TY7, TY8, gval, gslot, decide_true, decide_false, Option.isNone_some, Option.isNone_none, Option.isSome_some, Option.isSome_none, fillL, ovw, numb, catL, List.length_cons, List.length_nil, List.cons_append, List.nil_append, List.size_toArray, ldN, agL, okC, List.setIfInBounds_toArray, List.set_cons_zero, List.set_cons_succ, oneC, Option.map_some, Option.map_none, init, List.getElem?_toArray, List.getElem?_cons_zero, List.getElem?_cons_succ, Option.bind_some, Option.bind_none, List.map_cons, List.map_nil, Nat.reduceAdd, Nat.reduceMul, Nat.reduceSub, Nat.reduceEqDiff, Nat.reduceLT, ↓reduceIte, Int.reduceToNat, Int.reduceAdd, Int.reduceSub, Int.reduceMul, Int.reduceLT, Int.reduceLE, Int.reduceEq, Nat.reduceLeDiff,  e0, e5, e6, e7, e8]
  (refine W_if rfl (fun hc => ?_) (fun hc => ?_) <;> (try simp only [Bool.false_eq_true, false_or, or_false, true_and, and_true, not_false_eq_true, Bool.true_eq_false, decide_eq_true_eq, decide_eq_false_iff_not, Bool.not_eq_true', Bool.not_eq_false', Bool.and_eq_true, Bool.or_eq_true, Bool.and_eq_false_iff, Bool.or_eq_false_iff, Bool.not_not, Classical.not_not] at hc))
  · have hal : at_ < s.size := by omega
    clear hc
    simp +contextual (maxSteps := 2000000) (disch := (first | omega | (simp only [World.size_alloc, World.size_setCell, World.size_drew]; done) | (simp only [World.size_alloc, World.size_setCell, World.size_drew]; omega) | (simp only [Bool.false_eq_true, false_or, or_false, true_and, and_true, not_false_eq_true, Bool.true_eq_false, decide_eq_true_eq, decide_eq_false_iff_not, Bool.not_eq_true', Bool.not_eq_false', Bool.and_eq_true, Bool.or_eq_true, Bool.and_eq_false_iff, Bool.or_eq_false_iff, Bool.not_not, Classical.not_not] at *; omega) | fail)) only [RB0, RB1, RB2, RB3, RB4, RB5, RB6, RB7, RB8, RB9, RB10, RB11, RB12, RB13, RB14, RB15, RB16, RB17, RB18, RB19, RB20, RB21, MX, BF, TY0, TY1, TY2, TY3, TY4, TY5, TY6, TY7, TY8, gval, gslot, decide_true, decide_false, Option.isNone_some, Option.isNone_none, Option.isSome_some, Option.isSome_none, fillL, ovw, numb, catL, List.length_cons, List.length_nil, List.cons_append, List.nil_append, List.size_toArray, ldN, agL, okC, List.setIfInBounds_toArray, List.set_cons_zero, List.set_cons_succ, oneC, Option.map_some, Option.map_none, init, List.getElem?_toArray, List.getElem?_cons_zero, List.getElem?_cons_succ, Option.bind_some, Option.bind_none, List.map_cons, List.map_nil, Nat.reduceAdd, Nat.reduceMul, Nat.reduceSub, Nat.reduceEqDiff, Nat.reduceLT, ↓reduceIte, Int.reduceToNat, Int.reduceAdd, Int.reduceSub, Int.reduceMul, Int.reduceLT, Int.reduceLE, Int.reduceEq, Nat.reduceLeDiff,  e0, e5, e6, e7, e8]
    have hx : bs (s.extract at_ s.size) = (bs s).drop at_ := by rw [bs_extract, List.take_of_length_le]; rw [List.length_drop, bs_len]; omega
    have hxs : (s.extract at_ s.size).size = s.size - at_ := by rw [← bs_len, hx, List.length_drop, bs_len]
    have hll : ((bs s).drop at_).length = s.size - at_ := by rw [List.length_drop, bs_len]
    obtain ⟨c0, r0, hl⟩ : ∃ c r, (bs s).drop at_ = c :: r := by
      cases hd : (bs s).drop at_ with
      | nil => rw [hd] at hll; simp at hll; omega
      | cons c r => exact ⟨c, r, rfl⟩
    rw [hl, lexR_cons, ← hl] at hj
    have hpl := piece_le ((bs s).drop at_)
    have hpp := piece_plain ((bs s).drop at_)
    refine (piece_any _ w1 (by omega) (by omega)).mono ?_
    rintro e w2 ⟨rfl, hb2⟩
    refine ⟨_, rfl, ?_⟩
    rw [hx]
    generalize piece ((bs s).drop at_) = pc at *
    obtain ⟨k, n⟩ := pc
    simp only at *
    have hB2 := hB.trans (hb2.mono hB.size)
    have hown2 := owns_below hown hb2
    simp +contextual (maxSteps := 2000000) (disch := (first | omega | (simp only [World.size_alloc, World.size_setCell, World.size_drew]; done) | (simp only [World.size_alloc, World.size_setCell, World.size_drew]; omega) | (simp only [Bool.false_eq_true, false_or, or_false, true_and, and_true, not_false_eq_true, Bool.true_eq_false, decide_eq_true_eq, decide_eq_false_iff_not, Bool.not_eq_true', Bool.not_eq_false', Bool.and_eq_true, Bool.or_eq_true, Bool.and_eq_false_iff, Bool.or_eq_false_iff, Bool.not_not, Classical.not_not] at *; omega) | fail)) only [RB0, RB1, RB2, RB3, RB4, RB5, RB6, RB7, RB8, RB9, RB10, RB11, RB12, RB13, RB14, RB15, RB16, RB17, RB18, RB19, RB20, RB21, MX, BF, TY0, TY1, TY2, TY3, TY4, TY5, TY6, TY7, TY8, gval, gslot, decide_true, decide_false, Option.isNone_some, Option.isNone_none, Option.isSome_some, Option.isSome_none, fillL, ovw, numb, catL, List.length_cons, List.length_nil, List.cons_append, List.nil_append, List.size_toArray, ldN, agL, okC, List.setIfInBounds_toArray, List.set_cons_zero, List.set_cons_succ, oneC, Option.map_some, Option.map_none, init, List.getElem?_toArray, List.getElem?_cons_zero, List.getElem?_cons_succ, Option.bind_some, Option.bind_none, List.map_cons, List.map_nil, Nat.reduceAdd, Nat.reduceMul, Nat.reduceSub, Nat.reduceEqDiff, Nat.reduceLT, ↓reduceIte, Int.reduceToNat, Int.reduceAdd, Int.reduceSub, Int.reduceMul, Int.reduceLT, Int.reduceLE, Int.reduceEq, Nat.reduceLeDiff,  e0, e5, e6, e7, e8]
    (refine W_if rfl (fun hc => ?_) (fun hc => ?_) <;> (try simp only [Bool.false_eq_true, false_or, or_false, true_and, and_true, not_false_eq_true, Bool.true_eq_false, decide_eq_true_eq, decide_eq_false_iff_not, Bool.not_eq_true', Bool.not_eq_false', Bool.and_eq_true, Bool.or_eq_true, Bool.and_eq_false_iff, Bool.or_eq_false_iff, Bool.not_not, Classical.not_not] at hc))
    · rw [if_pos (by omega)] at hj
      have hR2 : R = .error at_ := hj.symm
      subst hR2
      simp +contextual (maxSteps := 2000000) (disch := (first | omega | (simp only [World.size_alloc, World.size_setCell, World.size_drew]; done) | (simp only [World.size_alloc, World.size_setCell, World.size_drew]; omega) | (simp only [Bool.false_eq_true, false_or, or_false, true_and, and_true, not_false_eq_true, Bool.true_eq_false, decide_eq_true_eq, decide_eq_false_iff_not, Bool.not_eq_true', Bool.not_eq_false', Bool.and_eq_true, Bool.or_eq_true, Bool.and_eq_false_iff, Bool.or_eq_false_iff, Bool.not_not, Classical.not_not] at *; omega) | fail)) only [RB0, RB1, RB2, RB3, RB4, RB5, RB6, RB7, RB8, RB9, RB10, RB11, RB12, RB13, RB14, RB15, RB16, RB17, RB18, RB19, RB20, RB21, MX, BF, TY0, TY1, TY2, TY3, TY4, TY5, TY6, TY7, TY8, gval, gslot, decide_true, decide_false, Option.isNone_some, Option.isNone_none, Option.isSome_some, Option.isSome_none, fillL, ovw, numb, catL, List.length_cons, List.length_nil, List.cons_append, List.nil_append, List.size_toArray, ldN, agL, okC, List.setIfInBounds_toArray, List.set_cons_zero, List.set_cons_succ, oneC, Option.map_some, Option.map_none, init, List.getElem?_toArray, List.getElem?_cons_zero, List.getElem?_cons_succ, Option.bind_some, Option.bind_none, List.map_cons, List.map_nil, Nat.reduceAdd, Nat.reduceMul, Nat.reduceSub, Nat.reduceEqDiff, Nat.reduceLT, ↓reduceIte, Int.reduceToNat, Int.reduceAdd, Int.reduceSub, Int.reduceMul, Int.reduceLT, Int.reduceLE, Int.reduceEq, Nat.reduceLeDiff,  e0, e5, e6, e7, e8]
      exact ⟨hB2, _, rfl, none, 0, rfl, owns_nil _ _ _ _⟩
    have hn0 : ¬ n = 0 := by omega
    clear hc
    rw [if_neg hn0] at hj
    have htn : ((at_ : Int) + n).toNat = at_ + n := by omega
    have hpt : place ((bs s).take (at_ + n)) = (((bs s).drop at_).take n).foldl step1 (place ((bs s).take at_)) := by rw [take_piece, place_append]
    have hxt : bs (s.extract at_ (at_ + n)) = ((bs s).drop at_).take n := by rw [bs_extract]; congr 1; omega
    have hxz : (s.extract at_ (at_ + n)).size = n := by rw [← bs_len, hxt, List.length_take, hll]; omega
    rw [List.drop_drop] at hj
    simp +contextual (maxSteps := 2000000) (disch := (first | omega | (simp only [World.size_alloc, World.size_setCell, World.size_drew]; done) | (simp only [World.size_alloc, World.size_setCell, World.size_drew]; omega) | (simp only [Bool.false_eq_true, false_or, or_false, true_and, and_true, not_false_eq_true, Bool.true_eq_false, decide_eq_true_eq, decide_eq_false_iff_not, Bool.not_eq_true', Bool.not_eq_false', Bool.and_eq_true, Bool.or_eq_true, Bool.and_eq_false_iff, Bool.or_eq_false_iff, Bool.not_not, Classical.not_not] at *; omega) | fail)) only [RB0, RB1, RB2, RB3, RB4, RB5, RB6, RB7, RB8, RB9, RB10, RB11, RB12, RB13, RB14, RB15, RB16, RB17, RB18, RB19, RB20, RB21, MX, BF, TY0, TY1, TY2, TY3, TY4, TY5, TY6, TY7, TY8, gval, gslot, decide_true, decide_false, Option.isNone_some, Option.isNone_none, Option.isSome_some, Option.isSome_none, fillL, ovw, numb, catL, List.length_cons, List.length_nil, List.cons_append, List.nil_append, List.size_toArray, ldN, agL, okC, List.setIfInBounds_toArray, List.set_cons_zero, List.set_cons_succ, oneC, Option.map_some, Option.map_none, init, List.getElem?_toArray, List.getElem?_cons_zero, List.getElem?_cons_succ, Option.bind_some, Option.bind_none, List.map_cons, List.map_nil, Nat.reduceAdd, Nat.reduceMul, Nat.reduceSub, Nat.reduceEqDiff, Nat.reduceLT, ↓reduceIte, Int.reduceToNat, Int.reduceAdd, Int.reduceSub, Int.reduceMul, Int.reduceLT, Int.reduceLE, Int.reduceEq, Nat.reduceLeDiff,  e0, e5, e6, e7, e8, htn]
    (refine W_if rfl (fun hc => ?_) (fun hc => ?_) <;> (try simp only [Bool.false_eq_true, false_or, or_false, true_and, and_true, not_false_eq_true, Bool.true_eq_false, decide_eq_true_eq, decide_eq_false_iff_not, Bool.not_eq_true', Bool.not_eq_false', Bool.and_eq_true, Bool.or_eq_true, Bool.and_eq_false_iff, Bool.or_eq_false_iff, Bool.not_not, Classical.not_not] at hc))
    · have hk0 : k ≠ 0 := by omega
      clear hc
      rw [if_neg hk0, joinR_cons] at hj
      rw [fold_plain _ _ (hpp hk0), List.length_take, hll, Nat.min_eq_left (by omega)] at hpt
      obtain ⟨A', c', w3, he, hown3, hb3, hs3⟩ := push1 (P := Try.prog) (T := 23) (ty := 23) (news := encTk (tokOf s (k, at_, n))) hown2 hB2.size hI rfl (fun u hu => by simp only [encTk, List.mem_cons, List.not_mem_nil, or_false] at hu; rcases hu with rfl | rfl | rfl | rfl <;> rfl) (by omega) (by omega)
      have hB3 := hB2.trans hb3
      have hown3' : w3.ownsRow w.heap.size 32 4 (.slice A' (D ++ [(k, at_, n)]).length c') (D ++ [(k, at_, n)]).length (((D ++ [(k, at_, n)]).map (tokOf s)).flatMap encTk) := by
        rw [List.length_append, List.map_append, List.flatMap_append]; simpa using hown3
      have ecol : (at_ : Int) - (at_ + 1 - (place ((bs s).take at_)).2) + 1 = (place ((bs s).take at_)).2 := by omega
      have he' := he
      simp only [encTk, tokOf] at he'
      simp +contextual (maxSteps := 2000000) (disch := (first | omega | (simp only [World.size_alloc, World.size_setCell, World.size_drew]; done) | (simp only [World.size_alloc, World.size_setCell, World.size_drew]; omega) | (simp only [Bool.false_eq_true, false_or, or_false, true_and, and_true, not_false_eq_true, Bool.true_eq_false, decide_eq_true_eq, decide_eq_false_iff_not, Bool.not_eq_true', Bool.not_eq_false', Bool.and_eq_true, Bool.or_eq_true, Bool.and_eq_false_iff, Bool.or_eq_false_iff, Bool.not_not, Classical.not_not] at *; omega) | fail)) only [RB0, RB1, RB2, RB3, RB4, RB5, RB6, RB7, RB8, RB9, RB10, RB11, RB12, RB13, RB14, RB15, RB16, RB17, RB18, RB19, RB20, RB21, MX, BF, TY0, TY1, TY2, TY3, TY4, TY5, TY6, TY7, TY8, gval, gslot, decide_true, decide_false, Option.isNone_some, Option.isNone_none, Option.isSome_some, Option.isSome_none, fillL, ovw, numb, catL, List.length_cons, List.length_nil, List.cons_append, List.nil_append, List.size_toArray, ldN, agL, okC, List.setIfInBounds_toArray, List.set_cons_zero, List.set_cons_succ, oneC, Option.map_some, Option.map_none, init, List.getElem?_toArray, List.getElem?_cons_zero, List.getElem?_cons_succ, Option.bind_some, Option.bind_none, List.map_cons, List.map_nil, Nat.reduceAdd, Nat.reduceMul, Nat.reduceSub, Nat.reduceEqDiff, Nat.reduceLT, ↓reduceIte, Int.reduceToNat, Int.reduceAdd, Int.reduceSub, Int.reduceMul, Int.reduceLT, Int.reduceLE, Int.reduceEq, Nat.reduceLeDiff,  e0, e5, e6, e7, e8, ecol, he']
      refine hK _ _ ⟨hB3, at_ + n, D ++ [(k, at_, n)], A', c', by omega, by simp; omega, hj, hown3', e0, ?_, ?_, ?_, ?_⟩ ?_
      · rw [List.length_append]; rfl
      · rw [hpt]; exact e6
      · rw [hpt]; show σ 7 = _; rw [e7]; simp only; congr 1; omega
      · simp only [upd_apply]; simp
      · show s.size - (intOf (.int .i64 ((at_ : Int) + n))).toNat < s.size - (intOf (σ 8)).toNat; rw [e8]; simp only [intOf]; omega
    · have hk0 : k = 0 := by omega
      clear hc
      rw [if_pos hk0] at hj
      have hcnt := count_bs (s.extract at_ (at_ + n))
      rw [hxt] at hcnt
      have hfl := fold_line (((bs s).drop at_).take n) (place ((bs s).take at_))
      rw [← hpt, ← hcnt] at hfl
      have hpb2 := place_bd ((bs s).take (at_ + n))
      rw [List.length_take, bs_len] at hpb2
      have hlast := last_bs (s.extract at_ (at_ + n))
      rw [hxt, hxz] at hlast
      simp +contextual (maxSteps := 2000000) (disch := (first | omega | (simp only [World.size_alloc, World.size_setCell, World.size_drew]; done) | (simp only [World.size_alloc, World.size_setCell, World.size_drew]; omega) | (simp only [Bool.false_eq_true, false_or, or_false, true_and, and_true, not_false_eq_true, Bool.true_eq_false, decide_eq_true_eq, decide_eq_false_iff_not, Bool.not_eq_true', Bool.not_eq_false', Bool.and_eq_true, Bool.or_eq_true, Bool.and_eq_false_iff, Bool.or_eq_false_iff, Bool.not_not, Classical.not_not] at *; omega) | fail)) only [RB0, RB1, RB2, RB3, RB4, RB5, RB6, RB7, RB8, RB9, RB10, RB11, RB12, RB13, RB14, RB15, RB16, RB17, RB18, RB19, RB20, RB21, MX, BF, TY0, TY1, TY2, TY3, TY4, TY5, TY6, TY7, TY8, gval, gslot, decide_true, decide_false, Option.isNone_some, Option.isNone_none, Option.isSome_some, Option.isSome_none, fillL, ovw, numb, catL, List.length_cons, List.length_nil, List.cons_append, List.nil_append, List.size_toArray, ldN, agL, okC, List.setIfInBounds_toArray, List.set_cons_zero, List.set_cons_succ, oneC, Option.map_some, Option.map_none, init, List.getElem?_toArray, List.getElem?_cons_zero, List.getElem?_cons_succ, Option.bind_some, Option.bind_none, List.map_cons, List.map_nil, Nat.reduceAdd, Nat.reduceMul, Nat.reduceSub, Nat.reduceEqDiff, Nat.reduceLT, ↓reduceIte, Int.reduceToNat, Int.reduceAdd, Int.reduceSub, Int.reduceMul, Int.reduceLT, Int.reduceLE, Int.reduceEq, Nat.reduceLeDiff,  e0, e5, e6, e7, e8]
      refine (Try.strings_LastIndexByte (s.extract at_ (at_ + n)) 10 (by omega) w2).mono ?_
      rintro e w3 ⟨rfl, rfl⟩
      refine ⟨_, rfl, ?_⟩
      generalize Lib.lastIndexByte (s.extract at_ (at_ + n)) 10 = li at *
      simp +contextual (maxSteps := 2000000) (disch := (first | omega | (simp only [World.size_alloc, World.size_setCell, World.size_drew]; done) | (simp only [World.size_alloc, World.size_setCell, World.size_drew]; omega) | (simp only [Bool.false_eq_true, false_or, or_false, true_and, and_true, not_false_eq_true, Bool.true_eq_false, decide_eq_true_eq, decide_eq_false_iff_not, Bool.not_eq_true', Bool.not_eq_false', Bool.and_eq_true, Bool.or_eq_true, Bool.and_eq_false_iff, Bool.or_eq_false_iff, Bool.not_not, Classical.not_not] at *; omega) | fail)) only [RB0, RB1, RB2, RB3, RB4, RB5, RB6, RB7, RB8, RB9, RB10, RB11, RB12, RB13, RB14, RB15, RB16, RB17, RB18, RB19, RB20, RB21, MX, BF, TY0, TY1, TY2, TY3, TY4, TY5, TY6, TY7, TY8, gval, gslot, decide_true, decide_false, Option.isNone_some, Option.isNone_none, Option.isSome_some, Option.isSome_none, fillL, ovw, numb, catL, List.length_cons, List.length_nil, List.cons_append, List.nil_append, List.size_toArray, ldN, agL, okC, List.setIfInBounds_toArray, List.set_cons_zero, List.set_cons_succ, oneC, Option.map_some, Option.map_none, init, List.getElem?_toArray, List.getElem?_cons_zero, List.getElem?_cons_succ, Option.bind_some, Option.bind_none, List.map_cons, List.map_nil, Nat.reduceAdd, Nat.reduceMul, Nat.reduceSub, Nat.reduceEqDiff, Nat.reduceLT, ↓reduceIte, Int.reduceToNat, Int.reduceAdd, Int.reduceSub, Int.reduceMul, Int.reduceLT, Int.reduceLE, Int.reduceEq, Nat.reduceLeDiff,  e0, e5, e6, e7, e8]
      (refine W_if rfl (fun hc => ?_) (fun hc => ?_) <;> (try simp only [Bool.false_eq_true, false_or, or_false, true_and, and_true, not_false_eq_true, Bool.true_eq_false, decide_eq_true_eq, decide_eq_false_iff_not, Bool.not_eq_true', Bool.not_eq_false', Bool.and_eq_true, Bool.or_eq_true, Bool.and_eq_false_iff, Bool.or_eq_false_iff, Bool.not_not, Classical.not_not] at hc))
      · obtain ⟨i, hi, rfl, h10, hlst⟩ : ∃ i : Nat, i < n ∧ li = i ∧ (((bs s).drop at_).take n)[i]? = some 10 ∧ ∀ j, i < j → (((bs s).drop at_).take n)[j]? ≠ some 10 := by
          rcases hlast with ⟨h, _⟩ | h
          · omega
          · exact h
        clear hc hlast
        have hfc := fold_col _ (place ((bs s).take at_)) i h10 hlst
        rw [← hpt, List.length_take, hll, Nat.min_eq_left (by omega)] at hfc
        simp +contextual (maxSteps := 2000000) (disch := (first | omega | (simp only [World.size_alloc, World.size_setCell, World.size_drew]; done) | (simp only [World.size_alloc, World.size_setCell, World.size_drew]; omega) | (simp only [Bool.false_eq_true, false_or, or_false, true_and, and_true, not_false_eq_true, Bool.true_eq_false, decide_eq_true_eq, decide_eq_false_iff_not, Bool.not_eq_true', Bool.not_eq_false', Bool.and_eq_true, Bool.or_eq_true, Bool.and_eq_false_iff, Bool.or_eq_false_iff, Bool.not_not, Classical.not_not] at *; omega) | fail)) only [RB0, RB1, RB2, RB3, RB4, RB5, RB6, RB7, RB8, RB9, RB10, RB11, RB12, RB13, RB14, RB15, RB16, RB17, RB18, RB19, RB20, RB21, MX, BF, TY0, TY1, TY2, TY3, TY4, TY5, TY6, TY7, TY8, gval, gslot, decide_true, decide_false, Option.isNone_some, Option.isNone_none, Option.isSome_some, Option.isSome_none, fillL, ovw, numb, catL, List.length_cons, List.length_nil, List.cons_append, List.nil_append, List.size_toArray, ldN, agL, okC, List.setIfInBounds_toArray, List.set_cons_zero, List.set_cons_succ, oneC, Option.map_some, Option.map_none, init, List.getElem?_toArray, List.getElem?_cons_zero, List.getElem?_cons_succ, Option.bind_some, Option.bind_none, List.map_cons, List.map_nil, Nat.reduceAdd, Nat.reduceMul, Nat.reduceSub, Nat.reduceEqDiff, Nat.reduceLT, ↓reduceIte, Int.reduceToNat, Int.reduceAdd, Int.reduceSub, Int.reduceMul, Int.reduceLT, Int.reduceLE, Int.reduceEq, Nat.reduceLeDiff,  e0, e5, e6, e7, e8]
        refine (Try.strings_Count_one (s.extract at_ (at_ + n)) 10 w3).mono ?_
        rintro e w4 ⟨rfl, rfl⟩
        refine ⟨_, rfl, ?_⟩
        generalize Lib.countByte (s.extract at_ (at_ + n)).data.toList 10 = cnt at *
        simp +contextual (maxSteps := 2000000) (disch := (first | omega | (simp only [World.size_alloc, World.size_setCell, World.size_drew]; done) | (simp only [World.size_alloc, World.size_setCell, World.size_drew]; omega) | (simp only [Bool.false_eq_true, false_or, or_false, true_and, and_true, not_false_eq_true, Bool.true_eq_false, decide_eq_true_eq, decide_eq_false_iff_not, Bool.not_eq_true', Bool.not_eq_false', Bool.and_eq_true, Bool.or_eq_true, Bool.and_eq_false_iff, Bool.or_eq_false_iff, Bool.not_not, Classical.not_not] at *; omega) | fail)) only [RB0, RB1, RB2, RB3, RB4, RB5, RB6, RB7, RB8, RB9, RB10, RB11, RB12, RB13, RB14, RB15, RB16, RB17, RB18, RB19, RB20, RB21, MX, BF, TY0, TY1, TY2, TY3, TY4, TY5, TY6, TY7, TY8, gval, gslot, decide_true, decide_false, Option.isNone_some, Option.isNone_none, Option.isSome_some, Option.isSome_none, fillL, ovw, numb, catL, List.length_cons, List.length_nil, List.cons_append, List.nil_append, List.size_toArray, ldN, agL, okC, List.setIfInBounds_toArray, List.set_cons_zero, List.set_cons_succ, oneC, Option.map_some, Option.map_none, init, List.getElem?_toArray, List.getElem?_cons_zero, List.getElem?_cons_succ, Option.bind_some, Option.bind_none, List.map_cons, List.map_nil, Nat.reduceAdd, Nat.reduceMul, Nat.reduceSub, Nat.reduceEqDiff, Nat.reduceLT, ↓reduceIte, Int.reduceToNat, Int.reduceAdd, Int.reduceSub, Int.reduceMul, Int.reduceLT, Int.reduceLE, Int.reduceEq, Nat.reduceLeDiff,  e0, e5, e6, e7, e8]
        refine hK _ _ ⟨hB2, at_ + n, D, A, c, by omega, by omega, hj, hown2, e0, e5, ?_, ?_, ?_⟩ ?_
        · rw [hfl]; rfl
        · rw [hfc]; simp only [upd_apply]; simp; omega
        · simp only [upd_apply]; simp
        · show s.size - (intOf (.int .i64 ((at_ : Int) + n))).toNat < s.size - (intOf (σ 8)).toNat; rw [e8]; simp only [intOf]; omega
      · have hno : ∀ c ∈ ((bs s).drop at_).take n, c ≠ 10 := by
          rcases hlast with ⟨_, h⟩ | ⟨i, _, h, _⟩
          · exact h
          · omega
        clear hc hlast
        rw [fold_plain _ _ hno, List.length_take, hll, Nat.min_eq_left (by omega)] at hpt
        simp +contextual (maxSteps := 2000000) (disch := (first | omega | (simp only [World.size_alloc, World.size_setCell, World.size_drew]; done) | (simp only [World.size_alloc, World.size_setCell, World.size_drew]; omega) | (simp only [Bool.false_eq_true, false_or, or_false, true_and, and_true, not_false_eq_true, Bool.true_eq_false, decide_eq_true_eq, decide_eq_false_iff_not, Bool.not_eq_true', Bool.not_eq_false', Bool.and_eq_true, Bool.or_eq_true, Bool.and_eq_false_iff, Bool.or_eq_false_iff, Bool.not_not, Classical.not_not] at *; omega) | fail)) only [RB0, RB1, RB2, RB3, RB4, RB5, RB6, RB7, RB8, RB9, RB10, RB11, RB12, RB13, RB14, RB15, RB16, RB17, RB18, RB19, RB20, RB21, MX, BF, TY0, TY1, TY2, TY3, TY4, TY5, TY6, TY7, TY8, gval, gslot, decide_true, decide_false, Option.isNone_some, Option.isNone_none, Option.isSome_some, Option.isSome_none, fillL, ovw, numb, catL, List.length_cons, List.length_nil, List.cons_append, List.nil_append, List.size_toArray, ldN, agL, okC, List.setIfInBounds_toArray, List.set_cons_zero, List.set_cons_succ, oneC, Option.map_some, Option.map_none, init, List.getElem?_toArray, List.getElem?_cons_zero, List.getElem?_cons_succ, Option.bind_some, Option.bind_none, List.map_cons, List.map_nil, Nat.reduceAdd, Nat.reduceMul, Nat.reduceSub, Nat.reduceEqDiff, Nat.reduceLT, ↓reduceIte, Int.reduceToNat, Int.reduceAdd, Int.reduceSub, Int.reduceMul, Int.reduceLT, Int.reduceLE, Int.reduceEq, Nat.reduceLeDiff,  e0, e5, e6, e7, e8]
        refine hK _ _ ⟨hB2, at_ + n, D, A, c, by omega, by omega, hj, hown2, e0, e5, ?_, ?_, ?_⟩ ?_
        · rw [hpt]; exact e6
        · rw [hpt]; show σ 7 = _; rw [e7]; simp only; congr 1; omega
        · simp only [upd_apply]; simp
        · show s.size - (intOf (.int .i64 ((at_ : Int) + n))).toNat < s.size - (intOf (σ 8)).toNat; rw [e8]; simp only [intOf]; omega
  have hae : at_ = s.size := by omega
  clear hc
  subst hae
  rw [List.drop_eq_nil_of_le (by rw [bs_len]; omega), lexR_nil] at hj
  simp only [joinR, List.append_nil] at hj
  subst hj
  simp only
  have htk : (bs s).take s.size = bs s := List.take_of_length_le (by rw [bs_len]; omega)
  rw [htk] at e6 e7 hpb
  obtain ⟨A', c', w3, he, hown3, hb3, hs3⟩ := push1 (P := Try.prog) (T := 23) (ty := 23) (news := encTk (endTok s)) hown hB.size hI rfl (fun u hu => by simp only [encTk, List.mem_cons, List.not_mem_nil, or_false] at hu; rcases hu with rfl | rfl | rfl | rfl <;> rfl) (by omega) (by omega)
  have ecol : (s.size : Int) - (s.size + 1 - (place (bs s)).2) + 1 = (place (bs s)).2 := by omega
  simp only [encTk, endTok] at he
  simp +contextual (maxSteps := 2000000) (disch := (first | omega | (simp only [World.size_alloc, World.size_setCell, World.size_drew]; done) | (simp only [World.size_alloc, World.size_setCell, World.size_drew]; omega) | (simp only [Bool.false_eq_true, false_or, or_false, true_and, and_true, not_false_eq_true, Bool.true_eq_false, decide_eq_true_eq, decide_eq_false_iff_not, Bool.not_eq_true', Bool.not_eq_false', Bool.and_eq_true, Bool.or_eq_true, Bool.and_eq_false_iff, Bool.or_eq_false_iff, Bool.not_not, Classical.not_not] at *; omega) | fail)) only [RB0, RB1, RB2, RB3, RB4, RB5, RB6, RB7, RB8, RB9, RB10, RB11, RB12, RB13, RB14, RB15, RB16, RB17, RB18, RB19, RB20, RB21, MX, BF, TY0, TY1, TY2, TY3, TY4, TY5, TY6, TY7, TY8, gval, gslot, decide_true, decide_false, Option.isNone_some, Option.isNone_none, Option.isSome_some, Option.isSome_none, fillL, ovw, numb, catL, List.length_cons, List.length_nil, List.cons_append, List.nil_append, List.size_toArray, ldN, agL, okC, List.setIfInBounds_toArray, List.set_cons_zero, List.set_cons_succ, oneC, Option.map_some, Option.map_none, init, List.getElem?_toArray, List.getElem?_cons_zero, List.getElem?_cons_succ, Option.bind_some, Option.bind_none, List.map_cons, List.map_nil, Nat.reduceAdd, Nat.reduceMul, Nat.reduceSub, Nat.reduceEqDiff, Nat.reduceLT, ↓reduceIte, Int.reduceToNat, Int.reduceAdd, Int.reduceSub, Int.reduceMul, Int.reduceLT, Int.reduceLE, Int.reduceEq, Nat.reduceLeDiff,  e0, e5, e6, e7, e8, ecol, he]
  refine ⟨hB.trans hb3, _, rfl, A', c', ?_, ?_⟩
  · rw [List.length_append, tok_len]; rfl
  · rw [List.length_append, tok_len, List.flatMap_append]; simpa using hown3
end Go.Proofs.Ythadhnmbddddbaa
