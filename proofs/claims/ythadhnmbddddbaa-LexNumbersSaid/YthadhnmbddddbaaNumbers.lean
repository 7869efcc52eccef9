/- LexNumbers: the walk. -/
import Derived.Test.YthadhnmbddddbaaRefuses
namespace Go.Proofs.Ythadhnmbddddbaa
open Go.RowKit
set_option maxRecDepth 100000
set_option linter.unusedSimpArgs false
def encB1 (n : Nat) : List Value := [.int .u8 n]
def dg (x : Nat) : Nat := 48 + x % 10
theorem dg_digit (x : Nat) : digitB (dg x) = true := by unfold digitB dg; simp only [Bool.and_eq_true, decide_eq_true_eq]; omega
/-- What the scanner says of a word, digits and a mark. -/
theorem digits_lex {t : ByteArray} {d : Nat} {D : List Nat} (hD : ∀ x ∈ d :: D, digitB x = true) (ht : bs t = [97] ++ 32 :: ((d :: D) ++ 59 :: [])) :
    lexR 0 (bs t) = if badN (D.length + 1) d then .error 2 else .ok [(1, 0, 1), (2, 2, D.length + 1), (3, 2 + (D.length + 1), 1)] := by
  have hw : good 1 [97] := .inl ⟨rfl, ⟨97, [], rfl, by decide⟩, fun c hc => by simp at hc; subst hc; decide⟩
  rw [ht, lexR_tok_blank hw (by decide)]
  have hs : spn digitB (d :: D) = D.length + 1 := by
    refine (spn_is (d :: D) (D.length + 1) (fun j hj => ?_) (fun c hc => ?_))
    · have : (d :: D)[j]? = some ((d :: D)[j]'(by simpa using hj)) := List.getElem?_eq_getElem (by simpa using hj)
      exact ⟨_, this, hD _ (List.mem_of_getElem? this)⟩
    · rw [List.getElem?_eq_none (by simp)] at hc; cases hc
  have hsp : spn digitB (d :: (D ++ [59])) = D.length + 1 := by rw [← hs]; exact spn_app (by decide) [] (d :: D)
  have hd := hD d (by simp)
  have h0 : blankB d = false ∧ d ≠ 35 ∧ letterB d = false := by
    unfold digitB at hd; unfold blankB letterB
    simp only [Bool.and_eq_true, decide_eq_true_eq, Bool.or_eq_false_iff, Bool.and_eq_false_iff, decide_eq_false_iff_not, beq_eq_false_iff_ne] at *
    omega
  rw [List.cons_append, lexR_cons]
  simp only [piece, h0.1, h0.2.1, h0.2.2, hd, Bool.false_eq_true, if_false, if_true, hsp]
  by_cases hb : badN (D.length + 1) d = true
  · simp [hb, consR]
  · have hm : good 3 [59] := .inr (.inr ⟨rfl, 59, rfl, by decide⟩)
    have hdr : (d :: (D ++ [59])).drop (D.length + 1) = [59] := by simp
    rw [if_neg hb, if_neg hb]
    simp only
    rw [if_neg (by omega), if_neg (by simp), hdr, lexR_tok_end hm]
    rfl
theorem numbers_any (A : Option Addr) (c : Nat) (L : List Nat) (w : World) (hL : Arr w A 1 (L.map encB1)) (hn : L.length ≤ 9223372036854775807) (hz : ∀ x ∈ L, x < 256) : Calls Try.prog 9 #[.slice A L.length c] w fun e w' => e = .returned (.bool true) ∧ Below w.heap.size w w' := by
  refine calls_W (l := [_]) Try.func9 rfl _ Try.ntmps9 (by simp) ?_
  simp +contextual (maxSteps := 2000000) (disch := (first | omega | (simp only [World.size_alloc, World.size_setCell, World.size_drew]; done) | (simp only [World.size_alloc, World.size_setCell, World.size_drew]; omega) | (simp only [Bool.false_eq_true, false_or, or_false, true_and, and_true, not_false_eq_true, Bool.true_eq_false, decide_eq_true_eq, decide_eq_false_iff_not, Bool.not_eq_true', Bool.not_eq_false', Bool.and_eq_true, Bool.or_eq_true, Bool.and_eq_false_iff, Bool.or_eq_false_iff, Bool.not_not, Classical.not_not] at *; omega) | fail)) only [RB0, RB1, RB2, RB3, RB4, RB5, RB6, RB7, RB8, RB9, RB10, RB11, RB12, RB13, RB14, RB15, RB16, RB17, RB18, RB19, RB20, RB21, MX, BF, TY0, TY1, TY2, TY3, TY4, TY5, TY6, TY7, TY8, gval, gslot, decide_true, decide_false, Option.isNone_some, Option.isNone_none, Option.isSome_some, Option.isSome_none, fillL, ovw, numb, catL, List.length_cons, List.length_nil, List.cons_append, List.nil_append, List.size_toArray, ldN, agL, okC, List.setIfInBounds_toArray, List.set_cons_zero, List.set_cons_succ, oneC, Option.map_some, Option.map_none, init, List.getElem?_toArray, List.getElem?_cons_zero, List.getElem?_cons_succ, Option.bind_some, Option.bind_none, List.map_cons, List.map_nil, Nat.reduceAdd, Nat.reduceMul, Nat.reduceSub, Nat.reduceEqDiff, Nat.reduceLT, ↓reduceIte, Int.reduceToNat, Int.reduceAdd, Int.reduceSub, Int.reduceMul, Int.reduceLT, Int.reduceLE, Int.reduceEq, Nat.reduceLeDiff]
  (refine W_if rfl (fun hc => ?_) (fun hc => ?_) <;> (try simp only [Bool.false_eq_true, false_or, or_false, true_and, and_true, not_false_eq_true, Bool.true_eq_false, decide_eq_true_eq, decide_eq_false_iff_not, Bool.not_eq_true', Bool.not_eq_false', Bool.and_eq_true, Bool.or_eq_true, Bool.and_eq_false_iff, Bool.or_eq_false_iff, Bool.not_not, Classical.not_not] at hc))
  · simp +contextual (maxSteps := 2000000) (disch := (first | omega | (simp only [World.size_alloc, World.size_setCell, World.size_drew]; done) | (simp only [World.size_alloc, World.size_setCell, World.size_drew]; omega) | (simp only [Bool.false_eq_true, false_or, or_false, true_and, and_true, not_false_eq_true, Bool.true_eq_false, decide_eq_true_eq, decide_eq_false_iff_not, Bool.not_eq_true', Bool.not_eq_false', Bool.and_eq_true, Bool.or_eq_true, Bool.and_eq_false_iff, Bool.or_eq_false_iff, Bool.not_not, Classical.not_not] at *; omega) | fail)) only [RB0, RB1, RB2, RB3, RB4, RB5, RB6, RB7, RB8, RB9, RB10, RB11, RB12, RB13, RB14, RB15, RB16, RB17, RB18, RB19, RB20, RB21, MX, BF, TY0, TY1, TY2, TY3, TY4, TY5, TY6, TY7, TY8, gval, gslot, decide_true, decide_false, Option.isNone_some, Option.isNone_none, Option.isSome_some, Option.isSome_none, fillL, ovw, numb, catL, List.length_cons, List.length_nil, List.cons_append, List.nil_append, List.size_toArray, ldN, agL, okC, List.setIfInBounds_toArray, List.set_cons_zero, List.set_cons_succ, oneC, Option.map_some, Option.map_none, init, List.getElem?_toArray, List.getElem?_cons_zero, List.getElem?_cons_succ, Option.bind_some, Option.bind_none, List.map_cons, List.map_nil, Nat.reduceAdd, Nat.reduceMul, Nat.reduceSub, Nat.reduceEqDiff, Nat.reduceLT, ↓reduceIte, Int.reduceToNat, Int.reduceAdd, Int.reduceSub, Int.reduceMul, Int.reduceLT, Int.reduceLE, Int.reduceEq, Nat.reduceLeDiff]
    refine (awake_any w).mono ?_
    rintro e w1 ⟨rfl, hb⟩
    refine ⟨_, rfl, ?_⟩
    simp +contextual (maxSteps := 2000000) (disch := (first | omega | (simp only [World.size_alloc, World.size_setCell, World.size_drew]; done) | (simp only [World.size_alloc, World.size_setCell, World.size_drew]; omega) | (simp only [Bool.false_eq_true, false_or, or_false, true_and, and_true, not_false_eq_true, Bool.true_eq_false, decide_eq_true_eq, decide_eq_false_iff_not, Bool.not_eq_true', Bool.not_eq_false', Bool.and_eq_true, Bool.or_eq_true, Bool.and_eq_false_iff, Bool.or_eq_false_iff, Bool.not_not, Classical.not_not] at *; omega) | fail)) only [RB0, RB1, RB2, RB3, RB4, RB5, RB6, RB7, RB8, RB9, RB10, RB11, RB12, RB13, RB14, RB15, RB16, RB17, RB18, RB19, RB20, RB21, MX, BF, TY0, TY1, TY2, TY3, TY4, TY5, TY6, TY7, TY8, gval, gslot, decide_true, decide_false, Option.isNone_some, Option.isNone_none, Option.isSome_some, Option.isSome_none, fillL, ovw, numb, catL, List.length_cons, List.length_nil, List.cons_append, List.nil_append, List.size_toArray, ldN, agL, okC, List.setIfInBounds_toArray, List.set_cons_zero, List.set_cons_succ, oneC, Option.map_some, Option.map_none, init, List.getElem?_toArray, List.getElem?_cons_zero, List.getElem?_cons_succ, Option.bind_some, Option.bind_none, List.map_cons, List.map_nil, Nat.reduceAdd, Nat.reduceMul, Nat.reduceSub, Nat.reduceEqDiff, Nat.reduceLT, ↓reduceIte, Int.reduceToNat, Int.reduceAdd, Int.reduceSub, Int.reduceMul, Int.reduceLT, Int.reduceLE, Int.reduceEq, Nat.reduceLeDiff]
    exact hb
  have hlen : 1 ≤ L.length ∧ L.length ≤ 40 := by omega
  clear hc
  simp +contextual (maxSteps := 2000000) (disch := (first | omega | (simp only [World.size_alloc, World.size_setCell, World.size_drew]; done) | (simp only [World.size_alloc, World.size_setCell, World.size_drew]; omega) | (simp only [Bool.false_eq_true, false_or, or_false, true_and, and_true, not_false_eq_true, Bool.true_eq_false, decide_eq_true_eq, decide_eq_false_iff_not, Bool.not_eq_true', Bool.not_eq_false', Bool.and_eq_true, Bool.or_eq_true, Bool.and_eq_false_iff, Bool.or_eq_false_iff, Bool.not_not, Classical.not_not] at *; omega) | fail)) only [RB0, RB1, RB2, RB3, RB4, RB5, RB6, RB7, RB8, RB9, RB10, RB11, RB12, RB13, RB14, RB15, RB16, RB17, RB18, RB19, RB20, RB21, MX, BF, TY0, TY1, TY2, TY3, TY4, TY5, TY6, TY7, TY8, gval, gslot, decide_true, decide_false, Option.isNone_some, Option.isNone_none, Option.isSome_some, Option.isSome_none, fillL, ovw, numb, catL, List.length_cons, List.length_nil, List.cons_append, List.nil_append, List.size_toArray, ldN, agL, okC, List.setIfInBounds_toArray, List.set_cons_zero, List.set_cons_succ, oneC, Option.map_some, Option.map_none, init, List.getElem?_toArray, List.getElem?_cons_zero, List.getElem?_cons_succ, Option.bind_some, Option.bind_none, List.map_cons, List.map_nil, Nat.reduceAdd, Nat.reduceMul, Nat.reduceSub, Nat.reduceEqDiff, Nat.reduceLT, ↓reduceIte, Int.reduceToNat, Int.reduceAdd, Int.reduceSub, Int.reduceMul, Int.reduceLT, Int.reduceLE, Int.reduceEq, Nat.reduceLeDiff]
  have hIu : sliceI Try.prog 36 = some (5, 1, 1) := by kernel_rfl
  refine Raw_loop (fun σ w' => Below w.heap.size w w' ∧ ∃ (k : Nat) (A' : Option Addr) (c' : Nat), k ≤ L.length ∧ w'.ownsRow w.heap.size 5 1 (.slice A' k c') k ((L.take k).map fun (x : Nat) => Value.int .u8 (48 + (x : Int) % 10)) ∧
      σ 0 = .slice A L.length c ∧ σ 3 = .slice A' k c' ∧ σ 4 = .int .i64 k) (fun σ _ => L.length - (intOf (σ 4)).toNat) ?_ ?_
  · simp +contextual (maxSteps := 2000000) (disch := (first | omega | (simp only [World.size_alloc, World.size_setCell, World.size_drew]; done) | (simp only [World.size_alloc, World.size_setCell, World.size_drew]; omega) | (simp only [Bool.false_eq_true, false_or, or_false, true_and, and_true, not_false_eq_true, Bool.true_eq_false, decide_eq_true_eq, decide_eq_false_iff_not, Bool.not_eq_true', Bool.not_eq_false', Bool.and_eq_true, Bool.or_eq_true, Bool.and_eq_false_iff, Bool.or_eq_false_iff, Bool.not_not, Classical.not_not] at *; omega) | fail)) only [RB0, RB1, RB2, RB3, RB4, RB5, RB6, RB7, RB8, RB9, RB10, RB11, RB12, RB13, RB14, RB15, RB16, RB17, RB18, RB19, RB20, RB21, MX, BF, TY0, TY1, TY2, TY3, TY4, TY5, TY6, TY7, TY8, gval, gslot, decide_true, decide_false, Option.isNone_some, Option.isNone_none, Option.isSome_some, Option.isSome_none, fillL, ovw, numb, catL, List.length_cons, List.length_nil, List.cons_append, List.nil_append, List.size_toArray, ldN, agL, okC, List.setIfInBounds_toArray, List.set_cons_zero, List.set_cons_succ, oneC, Option.map_some, Option.map_none, init, List.getElem?_toArray, List.getElem?_cons_zero, List.getElem?_cons_succ, Option.bind_some, Option.bind_none, List.map_cons, List.map_nil, Nat.reduceAdd, Nat.reduceMul, Nat.reduceSub, Nat.reduceEqDiff, Nat.reduceLT, ↓reduceIte, Int.reduceToNat, Int.reduceAdd, Int.reduceSub, Int.reduceMul, Int.reduceLT, Int.reduceLE, Int.reduceEq, Nat.reduceLeDiff]
    exact ⟨Below.refl _ _, 0, none, 0, Nat.zero_le _, owns_nil _ _ _ _, rfl, rfl⟩
  rintro σ w1 ⟨hB, k, A', c', hk, hown, e0, e3, e4⟩ K hK
  simp +contextual (maxSteps := 2000000) (disch := (first | omega | (simp only [World.size_alloc, World.size_setCell, World.size_drew]; done) | (simp only [World.size_alloc, World.size_setCell, World.size_drew]; omega) | (simp only [Bool.false_eq_true, false_or, or_false, true_and, and_true, not_false_eq_true, Bool.true_eq_false, decide_eq_true_eq, decide_eq_false_iff_not, Bool.not_eq_true', Bool.not_eq_false', Bool.and_eq_true, Bool.or_eq_true, Bool.and_eq_false_iff, Bool.or_eq_false_iff, Bool.not_not, Classical.not_not] at *; omega) | fail)) only [RB0, RB1, RB2, RB3, RB4, RB5, RB6, RB7, RB8, RB9, RB10, RB11, RB12, RB13, RB14, RB15, RB16, RB17, RB18, RB19, RB20, RB21, MX, BF, TY0, TY1, TY2, TY3, TY4, TY5, TY6, TY7, TY8, gval, gslot, decide_true, decide_false, Option.isNone_some, Option.isNone_none, Option.isSome_some, Option.isSome_none, fillL, ovw, numb, catL, List.length_cons, List.length_nil, List.cons_append, List.nil_append, List.size_toArray, ldN, agL, okC, List.setIfInBounds_toArray, List.set_cons_zero, List.set_cons_succ, oneC, Option.map_some, Option.map_none, init, List.getElem?_toArray, List.getElem?_cons_zero, List.getElem?_cons_succ, Option.bind_some, Option.bind_none, List.map_cons, List.map_nil, Nat.reduceAdd, Nat.reduceMul, Nat.reduceSub, Nat.reduceEqDiff, Nat.reduceLT, ↓reduceIte, Int.reduceToNat, Int.reduceAdd, Int.reduceSub, Int.reduceMul, Int.reduceLT, Int.reduceLE, Int.reduceEq, Nat.reduceLeDiff,  e0, e3, e4]
  (refine W_if rfl (fun hc => ?_) (fun hc => ?_) <;> (try simp only [Bool.false_eq_true, false_or, or_false, true_and, and_true, not_false_eq_true, Bool.true_eq_false, decide_eq_true_eq, decide_eq_false_iff_not, Bool.not_eq_true', Bool.not_eq_false', Bool.and_eq_true, Bool.or_eq_true, Bool.and_eq_false_iff, Bool.or_eq_false_iff, Bool.not_not, Classical.not_not] at hc))
  · have hkl : k < L.length := by omega
    obtain ⟨x, hx⟩ : ∃ x, L[k]? = some x := ⟨_, List.getElem?_eq_getElem hkl⟩
    have hxz := hz x (List.mem_of_getElem? hx)
    obtain ⟨b, o, rfl, hbs, hcell⟩ := (hL.below hB).at_ hx
    have c0 : w1.cell? ⟨b, o + k, none⟩ = some (.int .u8 x) := by have := hcell 0 _ rfl; simpa using this
    obtain ⟨A2, c2, w2, he, hown2, hb2, hs2⟩ := push1 (P := Try.prog) (T := 36) (ty := 36) (news := [.int .u8 (48 + (x : Int) % 10)]) hown hB.size hIu rfl (fun u hu => by simp at hu; subst hu; rfl) (by omega) (by omega)
    have hm : 0 ≤ (x : Int) % 10 ∧ (x : Int) % 10 < 10 := by omega
    clear hc
    simp +contextual (maxSteps := 2000000) (disch := (first | omega | (simp only [World.size_alloc, World.size_setCell, World.size_drew]; done) | (simp only [World.size_alloc, World.size_setCell, World.size_drew]; omega) | (simp only [Bool.false_eq_true, false_or, or_false, true_and, and_true, not_false_eq_true, Bool.true_eq_false, decide_eq_true_eq, decide_eq_false_iff_not, Bool.not_eq_true', Bool.not_eq_false', Bool.and_eq_true, Bool.or_eq_true, Bool.and_eq_false_iff, Bool.or_eq_false_iff, Bool.not_not, Classical.not_not] at *; omega) | fail)) only [RB0, RB1, RB2, RB3, RB4, RB5, RB6, RB7, RB8, RB9, RB10, RB11, RB12, RB13, RB14, RB15, RB16, RB17, RB18, RB19, RB20, RB21, MX, BF, TY0, TY1, TY2, TY3, TY4, TY5, TY6, TY7, TY8, gval, gslot, decide_true, decide_false, Option.isNone_some, Option.isNone_none, Option.isSome_some, Option.isSome_none, fillL, ovw, numb, catL, List.length_cons, List.length_nil, List.cons_append, List.nil_append, List.size_toArray, ldN, agL, okC, List.setIfInBounds_toArray, List.set_cons_zero, List.set_cons_succ, oneC, Option.map_some, Option.map_none, init, List.getElem?_toArray, List.getElem?_cons_zero, List.getElem?_cons_succ, Option.bind_some, Option.bind_none, List.map_cons, List.map_nil, Nat.reduceAdd, Nat.reduceMul, Nat.reduceSub, Nat.reduceEqDiff, Nat.reduceLT, ↓reduceIte, Int.reduceToNat, Int.reduceAdd, Int.reduceSub, Int.reduceMul, Int.reduceLT, Int.reduceLE, Int.reduceEq, Nat.reduceLeDiff,  e0, e3, e4, c0, he]
    refine hK _ _ ⟨hB.trans hb2, k + 1, A2, c2, hkl, ?_, e0, rfl, rfl⟩ ?_
    · obtain ⟨_, rfl⟩ := List.getElem?_eq_some_iff.1 hx
      rw [List.take_succ_eq_append_getElem hkl, List.map_append]
      exact hown2
    · show L.length - (intOf (.int .i64 ((k : Int) + 1))).toNat < L.length - (intOf (σ 4)).toNat; rw [e4]; simp only [intOf]; omega
  have hkl : k = L.length := by omega
  subst hkl
  clear hc
  rw [List.take_length] at hown
  obtain ⟨g, rfl, _, hrow, _⟩ := owns_row hown (by omega)
  have hmap : (L.map fun (x : Nat) => Value.int .u8 (48 + (x : Int) % 10)) = (L.map dg).map fun (n : Nat) => Value.int .u8 (n : Int) := by
    rw [List.map_map]
    refine List.map_congr_left fun x _ => ?_
    simp only [Function.comp, dg]
    congr 1
  obtain ⟨s, hs, hcv⟩ := bytes_str (w := w1) (a := ⟨g, 0, none⟩) (cap := c') (L.map dg) (fun n hn => by obtain ⟨x, _, rfl⟩ := List.mem_map.1 hn; unfold dg; omega) (fun j v hv => by rw [addr_add, Nat.zero_add]; exact hrow.cell (by rw [hmap]; exact hv))
  rw [List.length_map] at hcv
  have hsz : s.size = L.length := by rw [← bs_len, hs, List.length_map]
  have hz1 : (ByteArray.mk #[97, 32]).size = 2 := rfl
  have hz2 : (ByteArray.mk #[59]).size = 1 := rfl
  have hsz1 : ((⟨#[97, 32]⟩ : ByteArray) ++ s).size = L.length + 2 := by rw [ByteArray.size_append, hz1, hsz]; omega
  have hsz2 : ((⟨#[97, 32]⟩ : ByteArray) ++ s ++ ⟨#[59]⟩).size = L.length + 3 := by rw [ByteArray.size_append, hsz1, hz2]
  obtain ⟨d, D, hDD⟩ : ∃ d D, L.map dg = d :: D := by
    cases hl : L with
    | nil => rw [hl] at hlen; simp at hlen
    | cons x r => exact ⟨_, _, rfl⟩
  have hDl : D.length + 1 = L.length := by have := congrArg List.length hDD; simp at this; omega
  have hb0 : bt s 0 = d := by rw [bt_bs, hs, hDD]; rfl
  have ht : bs ((⟨#[97, 32]⟩ : ByteArray) ++ s ++ ⟨#[59]⟩) = [97] ++ 32 :: ((d :: D) ++ 59 :: []) := by rw [bs_append, bs_append, hs, hDD]; rfl
  have hlex := digits_lex (fun x hx => by rw [← hDD] at hx; obtain ⟨y, _, rfl⟩ := List.mem_map.1 hx; exact dg_digit y) ht
  simp +contextual (maxSteps := 2000000) (disch := (first | omega | (simp only [World.size_alloc, World.size_setCell, World.size_drew]; done) | (simp only [World.size_alloc, World.size_setCell, World.size_drew]; omega) | (simp only [Bool.false_eq_true, false_or, or_false, true_and, and_true, not_false_eq_true, Bool.true_eq_false, decide_eq_true_eq, decide_eq_false_iff_not, Bool.not_eq_true', Bool.not_eq_false', Bool.and_eq_true, Bool.or_eq_true, Bool.and_eq_false_iff, Bool.or_eq_false_iff, Bool.not_not, Classical.not_not] at *; omega) | fail)) only [RB0, RB1, RB2, RB3, RB4, RB5, RB6, RB7, RB8, RB9, RB10, RB11, RB12, RB13, RB14, RB15, RB16, RB17, RB18, RB19, RB20, RB21, MX, BF, TY0, TY1, TY2, TY3, TY4, TY5, TY6, TY7, TY8, gval, gslot, decide_true, decide_false, Option.isNone_some, Option.isNone_none, Option.isSome_some, Option.isSome_none, fillL, ovw, numb, catL, List.length_cons, List.length_nil, List.cons_append, List.nil_append, List.size_toArray, ldN, agL, okC, List.setIfInBounds_toArray, List.set_cons_zero, List.set_cons_succ, oneC, Option.map_some, Option.map_none, init, List.getElem?_toArray, List.getElem?_cons_zero, List.getElem?_cons_succ, Option.bind_some, Option.bind_none, List.map_cons, List.map_nil, Nat.reduceAdd, Nat.reduceMul, Nat.reduceSub, Nat.reduceEqDiff, Nat.reduceLT, ↓reduceIte, Int.reduceToNat, Int.reduceAdd, Int.reduceSub, Int.reduceMul, Int.reduceLT, Int.reduceLE, Int.reduceEq, Nat.reduceLeDiff,  e0, e3, e4, hcv]
  by_cases hbad : badN (D.length + 1) d = true
  · rw [if_pos hbad] at hlex
    refine (scan_err_any w1 (by omega) hlex).mono ?_
    rintro e w2 ⟨hb2, A2, c2, rfl, hv2⟩
    refine ⟨_, rfl, ?_⟩
    have hB2 := hB.trans (hb2.mono hB.size)
    unfold badN at hbad
    simp only [Bool.or_eq_true, Bool.and_eq_true, decide_eq_true_eq, beq_iff_eq] at hbad
    rw [hDl] at hbad
    simp +contextual (maxSteps := 2000000) (disch := (first | omega | (simp only [World.size_alloc, World.size_setCell, World.size_drew]; done) | (simp only [World.size_alloc, World.size_setCell, World.size_drew]; omega) | (simp only [Bool.false_eq_true, false_or, or_false, true_and, and_true, not_false_eq_true, Bool.true_eq_false, decide_eq_true_eq, decide_eq_false_iff_not, Bool.not_eq_true', Bool.not_eq_false', Bool.and_eq_true, Bool.or_eq_true, Bool.and_eq_false_iff, Bool.or_eq_false_iff, Bool.not_not, Classical.not_not] at *; omega) | fail)) only [RB0, RB1, RB2, RB3, RB4, RB5, RB6, RB7, RB8, RB9, RB10, RB11, RB12, RB13, RB14, RB15, RB16, RB17, RB18, RB19, RB20, RB21, MX, BF, TY0, TY1, TY2, TY3, TY4, TY5, TY6, TY7, TY8, gval, gslot, decide_true, decide_false, Option.isNone_some, Option.isNone_none, Option.isSome_some, Option.isSome_none, fillL, ovw, numb, catL, List.length_cons, List.length_nil, List.cons_append, List.nil_append, List.size_toArray, ldN, agL, okC, List.setIfInBounds_toArray, List.set_cons_zero, List.set_cons_succ, oneC, Option.map_some, Option.map_none, init, List.getElem?_toArray, List.getElem?_cons_zero, List.getElem?_cons_succ, Option.bind_some, Option.bind_none, List.map_cons, List.map_nil, Nat.reduceAdd, Nat.reduceMul, Nat.reduceSub, Nat.reduceEqDiff, Nat.reduceLT, ↓reduceIte, Int.reduceToNat, Int.reduceAdd, Int.reduceSub, Int.reduceMul, Int.reduceLT, Int.reduceLE, Int.reduceEq, Nat.reduceLeDiff,  hb0]
    (refine W_if rfl (fun hc => ?_) (fun hc => ?_) <;> (try simp only [Bool.false_eq_true, false_or, or_false, true_and, and_true, not_false_eq_true, Bool.true_eq_false, decide_eq_true_eq, decide_eq_false_iff_not, Bool.not_eq_true', Bool.not_eq_false', Bool.and_eq_true, Bool.or_eq_true, Bool.and_eq_false_iff, Bool.or_eq_false_iff, Bool.not_not, Classical.not_not] at hc))
    · simp +contextual (maxSteps := 2000000) (disch := (first | omega | (simp only [World.size_alloc, World.size_setCell, World.size_drew]; done) | (simp only [World.size_alloc, World.size_setCell, World.size_drew]; omega) | (simp only [Bool.false_eq_true, false_or, or_false, true_and, and_true, not_false_eq_true, Bool.true_eq_false, decide_eq_true_eq, decide_eq_false_iff_not, Bool.not_eq_true', Bool.not_eq_false', Bool.and_eq_true, Bool.or_eq_true, Bool.and_eq_false_iff, Bool.or_eq_false_iff, Bool.not_not, Classical.not_not] at *; omega) | fail)) only [RB0, RB1, RB2, RB3, RB4, RB5, RB6, RB7, RB8, RB9, RB10, RB11, RB12, RB13, RB14, RB15, RB16, RB17, RB18, RB19, RB20, RB21, MX, BF, TY0, TY1, TY2, TY3, TY4, TY5, TY6, TY7, TY8, gval, gslot, decide_true, decide_false, Option.isNone_some, Option.isNone_none, Option.isSome_some, Option.isSome_none, fillL, ovw, numb, catL, List.length_cons, List.length_nil, List.cons_append, List.nil_append, List.size_toArray, ldN, agL, okC, List.setIfInBounds_toArray, List.set_cons_zero, List.set_cons_succ, oneC, Option.map_some, Option.map_none, init, List.getElem?_toArray, List.getElem?_cons_zero, List.getElem?_cons_succ, Option.bind_some, Option.bind_none, List.map_cons, List.map_nil, Nat.reduceAdd, Nat.reduceMul, Nat.reduceSub, Nat.reduceEqDiff, Nat.reduceLT, ↓reduceIte, Int.reduceToNat, Int.reduceAdd, Int.reduceSub, Int.reduceMul, Int.reduceLT, Int.reduceLE, Int.reduceEq, Nat.reduceLeDiff,  eq_self]
      refine (awake_any w2).mono ?_
      rintro e w3 ⟨rfl, hb⟩
      refine ⟨_, rfl, ?_⟩
      simp +contextual (maxSteps := 2000000) (disch := (first | omega | (simp only [World.size_alloc, World.size_setCell, World.size_drew]; done) | (simp only [World.size_alloc, World.size_setCell, World.size_drew]; omega) | (simp only [Bool.false_eq_true, false_or, or_false, true_and, and_true, not_false_eq_true, Bool.true_eq_false, decide_eq_true_eq, decide_eq_false_iff_not, Bool.not_eq_true', Bool.not_eq_false', Bool.and_eq_true, Bool.or_eq_true, Bool.and_eq_false_iff, Bool.or_eq_false_iff, Bool.not_not, Classical.not_not] at *; omega) | fail)) only [RB0, RB1, RB2, RB3, RB4, RB5, RB6, RB7, RB8, RB9, RB10, RB11, RB12, RB13, RB14, RB15, RB16, RB17, RB18, RB19, RB20, RB21, MX, BF, TY0, TY1, TY2, TY3, TY4, TY5, TY6, TY7, TY8, gval, gslot, decide_true, decide_false, Option.isNone_some, Option.isNone_none, Option.isSome_some, Option.isSome_none, fillL, ovw, numb, catL, List.length_cons, List.length_nil, List.cons_append, List.nil_append, List.size_toArray, ldN, agL, okC, List.setIfInBounds_toArray, List.set_cons_zero, List.set_cons_succ, oneC, Option.map_some, Option.map_none, init, List.getElem?_toArray, List.getElem?_cons_zero, List.getElem?_cons_succ, Option.bind_some, Option.bind_none, List.map_cons, List.map_nil, Nat.reduceAdd, Nat.reduceMul, Nat.reduceSub, Nat.reduceEqDiff, Nat.reduceLT, ↓reduceIte, Int.reduceToNat, Int.reduceAdd, Int.reduceSub, Int.reduceMul, Int.reduceLT, Int.reduceLE, Int.reduceEq, Nat.reduceLeDiff]
      exact ⟨by simp, hB2.trans (hb.mono hB2.size)⟩
    · omega
  · rw [if_neg hbad] at hlex
    refine (scan_ok_any w1 (by omega) hlex).mono ?_
    rintro e w2 ⟨hb2, v, rfl, hv2⟩
    refine ⟨_, rfl, ?_⟩
    have hB2 := hB.trans (hb2.mono hB.size)
    unfold badN at hbad
    simp only [Bool.or_eq_true, Bool.and_eq_true, decide_eq_true_eq, beq_iff_eq] at hbad
    rw [hDl] at hbad
    simp +contextual (maxSteps := 2000000) (disch := (first | omega | (simp only [World.size_alloc, World.size_setCell, World.size_drew]; done) | (simp only [World.size_alloc, World.size_setCell, World.size_drew]; omega) | (simp only [Bool.false_eq_true, false_or, or_false, true_and, and_true, not_false_eq_true, Bool.true_eq_false, decide_eq_true_eq, decide_eq_false_iff_not, Bool.not_eq_true', Bool.not_eq_false', Bool.and_eq_true, Bool.or_eq_true, Bool.and_eq_false_iff, Bool.or_eq_false_iff, Bool.not_not, Classical.not_not] at *; omega) | fail)) only [RB0, RB1, RB2, RB3, RB4, RB5, RB6, RB7, RB8, RB9, RB10, RB11, RB12, RB13, RB14, RB15, RB16, RB17, RB18, RB19, RB20, RB21, MX, BF, TY0, TY1, TY2, TY3, TY4, TY5, TY6, TY7, TY8, gval, gslot, decide_true, decide_false, Option.isNone_some, Option.isNone_none, Option.isSome_some, Option.isSome_none, fillL, ovw, numb, catL, List.length_cons, List.length_nil, List.cons_append, List.nil_append, List.size_toArray, ldN, agL, okC, List.setIfInBounds_toArray, List.set_cons_zero, List.set_cons_succ, oneC, Option.map_some, Option.map_none, init, List.getElem?_toArray, List.getElem?_cons_zero, List.getElem?_cons_succ, Option.bind_some, Option.bind_none, List.map_cons, List.map_nil, Nat.reduceAdd, Nat.reduceMul, Nat.reduceSub, Nat.reduceEqDiff, Nat.reduceLT, ↓reduceIte, Int.reduceToNat, Int.reduceAdd, Int.reduceSub, Int.reduceMul, Int.reduceLT, Int.reduceLE, Int.reduceEq, Nat.reduceLeDiff,  hb0]
    (refine W_if rfl (fun hc => ?_) (fun hc => ?_) <;> (try simp only [Bool.false_eq_true, false_or, or_false, true_and, and_true, not_false_eq_true, Bool.true_eq_false, decide_eq_true_eq, decide_eq_false_iff_not, Bool.not_eq_true', Bool.not_eq_false', Bool.and_eq_true, Bool.or_eq_true, Bool.and_eq_false_iff, Bool.or_eq_false_iff, Bool.not_not, Classical.not_not] at hc))
    · omega
    clear hc
    have htok : tokOf ((⟨#[97, 32]⟩ : ByteArray) ++ s ++ ⟨#[59]⟩) (2, 2, D.length + 1) = ⟨2, 1, 3, s⟩ := by
      have e1 : (bs ((⟨#[97, 32]⟩ : ByteArray) ++ s ++ ⟨#[59]⟩)).take 2 = [97, 32] := by rw [ht]; rfl
      have e2 : ((⟨#[97, 32]⟩ : ByteArray) ++ s ++ ⟨#[59]⟩).extract 2 (2 + (D.length + 1)) = s := by
        apply bs_inj
        rw [bs_extract, ht, hs, hDD]
        simp
      simp only [tokOf, e1, e2]
      rfl
    obtain ⟨A2, c2, rfl, hcap, ha⟩ := hv2.arr
    have hx1 : (toks ((⟨#[97, 32]⟩ : ByteArray) ++ s ++ ⟨#[59]⟩) [(1, 0, 1), (2, 2, D.length + 1), (3, 2 + (D.length + 1), 1)])[1]? = some ⟨2, 1, 3, s⟩ := by
      simp only [toks, List.map_cons, htok]; rfl
    have hx4 : (toks ((⟨#[97, 32]⟩ : ByteArray) ++ s ++ ⟨#[59]⟩) [(1, 0, 1), (2, 2, D.length + 1), (3, 2 + (D.length + 1), 1)]).length = 4 := rfl
    obtain ⟨b, o, rfl, hbs, hcell⟩ := ha.at_ hx1
    have c0 : w2.cell? ⟨b, o + 4, none⟩ = some (.int .i64 2) := hcell 0 _ rfl
    have c1 : w2.cell? ⟨b, o + 4 + 1, none⟩ = some (.int .i64 1) := hcell 1 _ rfl
    have c2 : w2.cell? ⟨b, o + 4 + 2, none⟩ = some (.int .i64 3) := hcell 2 _ rfl
    have c3 : w2.cell? ⟨b, o + 4 + 3, none⟩ = some (.string s) := hcell 3 _ rfl
    have hT := fun x y => vBin_eqlT (x := x) (y := y) ⟨2, 1, 3, s⟩ ⟨2, 1, 3, s⟩ w2
    simp only [encTk, tkB_self] at hT
    rw [hx4]
    have h4 : decide (((0 : Nat) : Int) + 1 + 1 + 1 + 1 = 4) = true := by decide
    simp +contextual (maxSteps := 2000000) (disch := (first | omega | (simp only [World.size_alloc, World.size_setCell, World.size_drew]; done) | (simp only [World.size_alloc, World.size_setCell, World.size_drew]; omega) | (simp only [Bool.false_eq_true, false_or, or_false, true_and, and_true, not_false_eq_true, Bool.true_eq_false, decide_eq_true_eq, decide_eq_false_iff_not, Bool.not_eq_true', Bool.not_eq_false', Bool.and_eq_true, Bool.or_eq_true, Bool.and_eq_false_iff, Bool.or_eq_false_iff, Bool.not_not, Classical.not_not] at *; omega) | fail)) only [RB0, RB1, RB2, RB3, RB4, RB5, RB6, RB7, RB8, RB9, RB10, RB11, RB12, RB13, RB14, RB15, RB16, RB17, RB18, RB19, RB20, RB21, MX, BF, TY0, TY1, TY2, TY3, TY4, TY5, TY6, TY7, TY8, gval, gslot, decide_true, decide_false, Option.isNone_some, Option.isNone_none, Option.isSome_some, Option.isSome_none, fillL, ovw, numb, catL, List.length_cons, List.length_nil, List.cons_append, List.nil_append, List.size_toArray, ldN, agL, okC, List.setIfInBounds_toArray, List.set_cons_zero, List.set_cons_succ, oneC, Option.map_some, Option.map_none, init, List.getElem?_toArray, List.getElem?_cons_zero, List.getElem?_cons_succ, Option.bind_some, Option.bind_none, List.map_cons, List.map_nil, Nat.reduceAdd, Nat.reduceMul, Nat.reduceSub, Nat.reduceEqDiff, Nat.reduceLT, ↓reduceIte, Int.reduceToNat, Int.reduceAdd, Int.reduceSub, Int.reduceMul, Int.reduceLT, Int.reduceLE, Int.reduceEq, Nat.reduceLeDiff,  eq_self, c0, c1, c2, c3, hT, h4]
    refine (awake_any w2).mono ?_
    rintro e w3 ⟨rfl, hb⟩
    refine ⟨_, rfl, ?_⟩
    simp +contextual (maxSteps := 2000000) (disch := (first | omega | (simp only [World.size_alloc, World.size_setCell, World.size_drew]; done) | (simp only [World.size_alloc, World.size_setCell, World.size_drew]; omega) | (simp only [Bool.false_eq_true, false_or, or_false, true_and, and_true, not_false_eq_true, Bool.true_eq_false, decide_eq_true_eq, decide_eq_false_iff_not, Bool.not_eq_true', Bool.not_eq_false', Bool.and_eq_true, Bool.or_eq_true, Bool.and_eq_false_iff, Bool.or_eq_false_iff, Bool.not_not, Classical.not_not] at *; omega) | fail)) only [RB0, RB1, RB2, RB3, RB4, RB5, RB6, RB7, RB8, RB9, RB10, RB11, RB12, RB13, RB14, RB15, RB16, RB17, RB18, RB19, RB20, RB21, MX, BF, TY0, TY1, TY2, TY3, TY4, TY5, TY6, TY7, TY8, gval, gslot, decide_true, decide_false, Option.isNone_some, Option.isNone_none, Option.isSome_some, Option.isSome_none, fillL, ovw, numb, catL, List.length_cons, List.length_nil, List.cons_append, List.nil_append, List.size_toArray, ldN, agL, okC, List.setIfInBounds_toArray, List.set_cons_zero, List.set_cons_succ, oneC, Option.map_some, Option.map_none, init, List.getElem?_toArray, List.getElem?_cons_zero, List.getElem?_cons_succ, Option.bind_some, Option.bind_none, List.map_cons, List.map_nil, Nat.reduceAdd, Nat.reduceMul, Nat.reduceSub, Nat.reduceEqDiff, Nat.reduceLT, ↓reduceIte, Int.reduceToNat, Int.reduceAdd, Int.reduceSub, Int.reduceMul, Int.reduceLT, Int.reduceLE, Int.reduceEq, Nat.reduceLeDiff]
    exact hB2.trans (hb.mono hB2.size)
end Go.Proofs.Ythadhnmbddddbaa
