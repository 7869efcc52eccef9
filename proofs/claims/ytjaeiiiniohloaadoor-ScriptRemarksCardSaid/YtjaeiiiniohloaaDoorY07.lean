/- Texts laid one behind the other: ScrR, ScrC, ScrN, ScrO, ScrS. Each says at its head what it proves. -/
import Derived.Test.YtjaeiiiniohloaaDoorY06
set_option linter.unusedSimpArgs false
/- Plain: the reference's forms, checks and printing come to the same. No program in sight. -/
namespace Go.Proofs.YtjaeiiiniohloaaDoor
def upL (n : Int) (x : Nat) : Nat := if x = 108 then (if n = 5 then 53 else if n = 3 then 51 else 76) else x - 32
def upF (f : Fm) : List Nat := f.fields.map (upL f.nums)
/-- The word and the fields of a kind, as the reference has them. -/
def rf (k : Int) : List Nat × List Nat := match fmOf k with
  | none => ([], [])
  | some f => (f.word, upF f)
def rzeroB (fl : List Nat) (c : Cm) : Bool := (fl.contains 87 || c.who == 0) && (fl.contains 65 || c.a == 0) && (fl.contains 66 || c.b == 0) && (fl.contains 78 || decide (bs c.name = [])) && (fl.contains 84 || decide (bs c.text = [])) &&
  (fl.contains 75 || c.key == 0) && (fl.contains 79 || c.nonce == 0) &&
  (if fl.contains 76 then true else if fl.contains 53 then decide (c.nums.length = 5) else if fl.contains 51 then decide (c.nums.length = 3) else decide (c.nums.length = 0))
def rchkE (c : Cm) : Int :=
  if (rf c.kind).1 = [] then 7
  else if c.at_ < 0 ∨ 1073741824 < c.at_ then 2
  else if rzeroB (rf c.kind).2 c = false then 8
  else if (rf c.kind).2.contains 78 = true ∧ scNameB (bs c.name) = false then 4
  else if 32768 < c.text.size ∨ 256 < c.nums.length then 3
  else 0
theorem up_facts : ∀ f ∈ fmT, (upF f).contains 87 = f.fields.contains 119 ∧ (upF f).contains 65 = f.fields.contains 97 ∧ (upF f).contains 66 = f.fields.contains 98 ∧ (upF f).contains 78 = f.fields.contains 110 ∧
    (upF f).contains 84 = f.fields.contains 116 ∧ (upF f).contains 75 = f.fields.contains 107 ∧ (upF f).contains 79 = f.fields.contains 111 ∧ f.word ≠ [] ∧
    (if (upF f).contains 76 then f.nums = -1 else if (upF f).contains 53 then f.nums = 5 else if (upF f).contains 51 then f.nums = 3 else f.nums = 0) := by decide
theorem rchk_is (c : Cm) : rchkE c = chkE c := by
  unfold rchkE chkE rf
  cases hf : fmOf c.kind with
  | none => simp
  | some f =>
    obtain ⟨h1, h2, h3, h4, h5, h6, h7, h8, h9⟩ := up_facts f (fm_mem hf).1
    simp only
    rw [if_neg h8]
    split
    · rfl
    have e : rzeroB (upF f) c = false ↔ (idleB f.fields c = false ∨ (f.nums ≠ -1 ∧ (c.nums.length : Int) ≠ f.nums)) := by
      have e2 : rzeroB (upF f) c = (idleB f.fields c && (if (upF f).contains 76 then true else if (upF f).contains 53 then decide (c.nums.length = 5) else if (upF f).contains 51 then decide (c.nums.length = 3) else decide (c.nums.length = 0))) := by
        unfold rzeroB idleB
        rw [h1, h2, h3, h4, h5, h6, h7]
      rw [e2, Bool.and_eq_false_iff]
      refine or_congr Iff.rfl ?_
      split at h9
      · rename_i h; rw [if_pos h, h9]; simp
      rename_i h; rw [if_neg h]
      split at h9
      · rename_i h; rw [if_pos h, h9]; simp; omega
      rename_i h; rw [if_neg h]
      split at h9
      · rename_i h; rw [if_pos h, h9]; simp; omega
      · rename_i h; rw [if_neg h, h9]; simp
    rw [h4]
    by_cases hz : rzeroB (upF f) c = false
    · rw [if_pos hz, if_pos (e.1 hz)]
    · rw [if_neg hz, if_neg (fun h => hz (e.2 h))]
/-- A field's text by its great letter. -/
def rprF (c : Cm) (x : Nat) : List Nat :=
  if x = 87 then 32 :: fmtI c.who else if x = 65 then 32 :: fmtI c.a else if x = 66 then 32 :: fmtI c.b
  else if x = 78 then 32 :: bs c.name else if x = 84 then 32 :: quoteL (bs c.text)
  else if x = 75 then 32 :: hexT 16 c.key.toNat else if x = 79 then 32 :: hexT 16 c.nonce.toNat
  else spNums c.nums
theorem fm_letters : ∀ f ∈ fmT, ∀ x ∈ f.fields, x ∈ [119, 97, 98, 110, 116, 108, 107, 111] := by decide
theorem rprF_up (c : Cm) (n : Int) : ∀ x ∈ [119, 97, 98, 110, 116, 108, 107, 111], rprF c (upL n x) = prF c x := by
  intro x hx
  simp only [List.mem_cons, List.not_mem_nil, or_false] at hx
  rcases hx with rfl | rfl | rfl | rfl | rfl | rfl | rfl | rfl <;> simp [upL, rprF, prF]
  have h : (if n = 5 then 53 else if n = 3 then 51 else 76) = 53 ∨ (if n = 5 then 53 else if n = 3 then 51 else 76) = 51 ∨ (if n = 5 then 53 else if n = 3 then 51 else 76) = 76 := by
    by_cases h1 : n = 5
    · simp [h1]
    · by_cases h2 : n = 3 <;> simp [h1, h2]
  rcases h with h | h | h <;> rw [h] <;> simp [spNums]
theorem rprF_flat (c : Cm) (n : Int) : ∀ (fl : List Nat), (∀ x ∈ fl, x ∈ [119, 97, 98, 110, 116, 108, 107, 111]) → (fl.map (upL n)).flatMap (rprF c) = fl.flatMap (prF c)
  | [], _ => rfl
  | x :: fl, h => by
    rw [List.map_cons, List.flatMap_cons, List.flatMap_cons, rprF_up c n x (h x (by simp)), rprF_flat c n fl fun y hy => h y (by simp [hy])]
/-- The line of a command, as the reference has it. -/
def rprL (c : Cm) : List Nat := fmtI c.at_ ++ [32] ++ (rf c.kind).1 ++ (rf c.kind).2.flatMap (rprF c) ++ [10]
theorem rprL_is {c : Cm} (h : chkE c = 0) : rprL c = prL c := by
  obtain ⟨f, hf, _⟩ := chk_parts h
  unfold rprL prL rf
  rw [hf]
  simp only [upF]
  rw [rprF_flat c f.nums f.fields (fm_letters f (fm_mem hf).1)]
  simp
/-- What the reference prints of a list, or the error. -/
def rprE : List Cm → Except Int (List Nat)
  | [] => .ok []
  | c :: L => if chkE c ≠ 0 then .error (chkE c) else match rprE L with
    | .ok t => .ok (prL c ++ t)
    | .error e => .error e
theorem rprE_is : ∀ (L : List Cm), rprE L = if firstE L ≠ 0 then .error (firstE L) else .ok (L.flatMap prL)
  | [] => rfl
  | c :: L => by
    rw [rprE, firstE]
    by_cases h : chkE c ≠ 0
    · rw [if_pos h, if_pos h, if_pos h]
    · rw [if_neg h, if_neg h, rprE_is L]
      by_cases h2 : firstE L ≠ 0
      · rw [if_pos h2, if_pos h2]
      · rw [if_neg h2, if_neg h2]; rfl
/-- A command of a deck comes back, in plain letters. -/
def deckC (s : ByteArray) (key : Int) : Cm := { Cm.zero with kind := 16, at_ := 7, text := s, key := key }
theorem deck_ok {s : ByteArray} {key : Int} (hs : s.size ≤ 100) (h0 : 0 ≤ key) (h1 : key ≤ 18446744073709551615) : (deckC s key).ok ∧ chkE (deckC s key) = 0 := by
  have e : fmOf 16 = some ⟨16, asc "deck", asc "kt", 0⟩ := by decide
  refine ⟨⟨(show (-9223372036854775808 : Int) ≤ 16 ∧ (16 : Int) ≤ 9223372036854775807 by decide), (show (-9223372036854775808 : Int) ≤ 7 ∧ (7 : Int) ≤ 9223372036854775807 by decide), (show (-9223372036854775808 : Int) ≤ 0 ∧ (0 : Int) ≤ 9223372036854775807 by decide),
    (show (-9223372036854775808 : Int) ≤ 0 ∧ (0 : Int) ≤ 9223372036854775807 by decide), (show (-9223372036854775808 : Int) ≤ 0 ∧ (0 : Int) ≤ 9223372036854775807 by decide), by intro n hn; exact absurd hn (by simp [deckC, Cm.zero]), ⟨h0, h1⟩, (show (0 : Int) ≤ 0 ∧ (0 : Int) ≤ 18446744073709551615 by decide)⟩, ?_⟩
  unfold chkE
  rw [show (deckC s key).kind = 16 from rfl, e]
  simp only
  rw [if_neg (show ¬ ((deckC s key).at_ < 0 ∨ 1073741824 < (deckC s key).at_) from (show ¬ ((7 : Int) < 0 ∨ 1073741824 < (7 : Int)) by decide)), if_neg, if_neg (by simp [asc]), if_neg]
  · rintro (h | h)
    · have : (deckC s key).text.size = s.size := rfl
      omega
    · simp [deckC, Cm.zero] at h
  · rintro (h | h)
    · simp [idleB, asc, deckC, Cm.zero, bs_empty] at h
    · simp [deckC, Cm.zero] at h
theorem deck_text {s : ByteArray} {key : Int} : ∃ t, prL (deckC s key) = t ++ [10] ∧ (∀ d ∈ t, 32 ≤ d ∧ d ≤ 126) := by
  have e : fmOf 16 = some ⟨16, asc "deck", asc "kt", 0⟩ := by decide
  refine ⟨bodyL (deckC s key) ⟨16, asc "deck", asc "kt", 0⟩, prL_body e, fun d hd => ?_⟩
  unfold bodyL at hd
  have ew : ∀ x ∈ asc "deck", 32 ≤ x ∧ x ≤ 126 := by decide
  rw [List.mem_append, List.mem_cons, List.mem_append] at hd
  rcases hd with hd | rfl | hd | hd
  · have := fmtI_all _ d hd; omega
  · decide
  · exact ew d hd
  · have e2 : (asc "kt").flatMap (prF (deckC s key)) = (32 :: hexT 16 key.toNat) ++ (32 :: quoteL (bs s)) := by simp [asc, prF, deckC]
    rw [e2, List.mem_append, List.mem_cons, List.mem_cons] at hd
    rcases hd with (rfl | hd) | (rfl | hd)
    · decide
    · have := hexT_all _ _ d hd; omega
    · decide
    · exact quote_all (bs_lt s) d hd
end Go.Proofs.YtjaeiiiniohloaaDoor
/- Walks: script.Check. -/
namespace Go.Proofs.YtjaeiiiniohloaaDoor
open Go.RowKit
set_option maxRecDepth 100000
theorem idx_nonneg : ∀ (l : List UInt8) (c : UInt8), (0 ≤ Lib.indexByte l c) ↔ c ∈ l
  | [], c => by simp [Lib.indexByte]
  | d :: l, c => by
    have := idx_nonneg l c
    unfold Lib.indexByte
    by_cases hd : d = c
    · subst hd; simp
    · have hd' : (d == c) = false := by simpa using hd
      rw [hd']
      simp only [Bool.false_eq_true, if_false, List.mem_cons]
      by_cases h1 : Lib.indexByte l c = -1
      · rw [h1] at this ⊢
        simp at this ⊢
        exact ⟨fun e => hd e.symm, this⟩
      · have h2 := Lib.indexByte_ge l c
        have h1' : (Lib.indexByte l c == -1) = false := by simpa using h1
        rw [h1']
        simp only [Bool.false_eq_true, if_false]
        constructor
        · intro _; exact .inr (this.1 (by omega))
        · intro _; omega
theorem idx_used {f : Fm} (hf : f ∈ fmT) {c : Nat} (hc : c < 256) : decide (0 ≤ Lib.indexByte (toBA f.fields).data.toList ((c : Int).toNat.toUInt8)) = f.fields.contains c := by
  rw [Bool.eq_iff_iff, decide_eq_true_eq, idx_nonneg, List.contains_iff_mem]
  have hb := bs_toBA (fm_flds f hf)
  conv => rhs; rw [← hb]
  unfold bs
  rw [List.mem_map]
  rw [Int.toNat_natCast]
  constructor
  · exact fun h => ⟨_, h, by simp; omega⟩
  · rintro ⟨a, ha, rfl⟩
    simpa using ha
theorem used_any (g : Nat) (fl : ByteArray) (c : Int) (w : World) (h : w.cell? ⟨g, 2, none⟩ = some (.string fl)) : Calls Tryd.prog 21 #[.int .u8 c, .pointer (some ⟨g, 0, none⟩)] w fun e w' => e = .returned (.bool (decide (0 ≤ Lib.indexByte fl.data.toList c.toNat.toUInt8))) ∧ w = w' := by
  refine calls_W (l := [_, _]) Tryd.func21 rfl _ Tryd.ntmps21 (by simp) ?_
  simp +contextual (maxSteps := 2000000) (disch := (first | omega | (simp only [SZ]; done) | (simp only [SZ]; omega) | (simp only [TS] at *; omega))) only [RZ, gval, gslot, fillL, ovw, numb, catL, ldN, agL, okC, oneC, init, Nat.reduceAdd, Nat.reduceMul, Nat.reduceSub, Nat.reduceEqDiff, Nat.reduceLT, ↓reduceIte, Int.reduceToNat, Int.reduceAdd, Int.reduceSub, Int.reduceMul, Int.reduceLT, Int.reduceLE, Int.reduceEq, Nat.reduceLeDiff,  h]
  refine (Tryd.strings_IndexByte fl c w).mono ?_
  rintro e w1 ⟨rfl, rfl⟩
  refine ⟨_, rfl, ?_⟩
  simp +contextual (maxSteps := 2000000) (disch := (first | omega | (simp only [SZ]; done) | (simp only [SZ]; omega) | (simp only [TS] at *; omega))) only [RZ, gval, gslot, fillL, ovw, numb, catL, ldN, agL, okC, oneC, init, Nat.reduceAdd, Nat.reduceMul, Nat.reduceSub, Nat.reduceEqDiff, Nat.reduceLT, ↓reduceIte, Int.reduceToNat, Int.reduceAdd, Int.reduceSub, Int.reduceMul, Int.reduceLT, Int.reduceLE, Int.reduceEq, Nat.reduceLeDiff]
theorem no2 {b : Bool} {p : Prop} (h : b = true ∨ p) (h1 : b = false) (h2 : ¬ p) : False := by
  rcases h with h | h
  · rw [h] at h1; cases h1
  · exact h2 h
theorem bs_nil_iff {s : ByteArray} : bs s = [] ↔ s = ⟨#[]⟩ := ⟨fun h => bs_inj (h.trans bs_nil.symm), fun h => by rw [h]; rfl⟩
theorem idle_iff {fl : List Nat} {c : Cm} : idleB fl c = true ↔ ((((((fl.contains 119 = true ∨ c.who = 0) ∧ (fl.contains 97 = true ∨ c.a = 0)) ∧ (fl.contains 98 = true ∨ c.b = 0)) ∧ (fl.contains 110 = true ∨ c.name = ⟨#[]⟩)) ∧
    (fl.contains 116 = true ∨ c.text = ⟨#[]⟩)) ∧ (fl.contains 107 = true ∨ c.key = 0)) ∧ (fl.contains 111 = true ∨ c.nonce = 0) := by
  unfold idleB
  simp only [Bool.and_eq_true, Bool.or_eq_true, beq_iff_eq, decide_eq_true_eq, bs_nil_iff]
def cmV (c : Cm) (v : Value) : List Value := [.int .i64 c.kind, .int .i64 c.at_, .int .i64 c.who, .int .i64 c.a, .int .i64 c.b, .string c.name, .string c.text, v, .int .u64 c.key, .int .u64 c.nonce]
set_option maxHeartbeats 2000000 in
theorem check_any (c : Cm) (A : Option Addr) (cp : Nat) (w : World) (hL : Laid w) (h1 : c.name.size ≤ 1000000000) (h2 : c.text.size ≤ 1000000000) (h3 : c.nums.length ≤ 1000000000) :
    Calls Tryd.prog 11 #[.agg (cmV c (.slice A c.nums.length cp)).toArray] w fun e w' => e = .returned (.int .i64 (chkE c)) ∧ Below w.heap.size w w' := by
  refine calls_W (l := [_]) Tryd.func11 rfl _ Tryd.ntmps11 (by simp) ?_
  simp +contextual (maxSteps := 2000000) (disch := (first | omega | (simp only [SZ]; done) | (simp only [SZ]; omega) | (simp only [TS] at *; omega))) only [RZ, gval, gslot, fillL, ovw, numb, catL, ldN, agL, okC, oneC, init, Nat.reduceAdd, Nat.reduceMul, Nat.reduceSub, Nat.reduceEqDiff, Nat.reduceLT, ↓reduceIte, Int.reduceToNat, Int.reduceAdd, Int.reduceSub, Int.reduceMul, Int.reduceLT, Int.reduceLE, Int.reduceEq, Nat.reduceLeDiff,  cmV]
  have hb0 := below_alloc w (.cells (cmV c (.slice A c.nums.length cp)).toArray 25)
  unfold cmV at hb0
  refine (formOf_any c.kind _ (hL.below hb0 hL.size)).mono ?_
  rintro e w1 ⟨rfl, hb1⟩
  refine ⟨_, rfl, ?_⟩
  unfold chkE
  cases hf : fmOf c.kind with
  | none =>
    simp +contextual (maxSteps := 2000000) (disch := (first | omega | (simp only [SZ]; done) | (simp only [SZ]; omega) | (simp only [TS] at *; omega))) only [RZ, gval, gslot, fillL, ovw, numb, catL, ldN, agL, okC, oneC, init, Nat.reduceAdd, Nat.reduceMul, Nat.reduceSub, Nat.reduceEqDiff, Nat.reduceLT, ↓reduceIte, Int.reduceToNat, Int.reduceAdd, Int.reduceSub, Int.reduceMul, Int.reduceLT, Int.reduceLE, Int.reduceEq, Nat.reduceLeDiff,  fmV]
    refine W_if_t rfl ?_
    simp +contextual (maxSteps := 2000000) (disch := (first | omega | (simp only [SZ]; done) | (simp only [SZ]; omega) | (simp only [TS] at *; omega))) only [RZ, gval, gslot, fillL, ovw, numb, catL, ldN, agL, okC, oneC, init, Nat.reduceAdd, Nat.reduceMul, Nat.reduceSub, Nat.reduceEqDiff, Nat.reduceLT, ↓reduceIte, Int.reduceToNat, Int.reduceAdd, Int.reduceSub, Int.reduceMul, Int.reduceLT, Int.reduceLE, Int.reduceEq, Nat.reduceLeDiff]
    exact (hb0.trans (hb1.mono (by simp only [World.size_alloc]; omega))).alloc (by have := hb1.size; simp only [World.size_alloc] at this; omega) _
  | some f =>
    have hfm := (fm_mem hf).1
    simp +contextual (maxSteps := 2000000) (disch := (first | omega | (simp only [SZ]; done) | (simp only [SZ]; omega) | (simp only [TS] at *; omega))) only [RZ, gval, gslot, fillL, ovw, numb, catL, ldN, agL, okC, oneC, init, Nat.reduceAdd, Nat.reduceMul, Nat.reduceSub, Nat.reduceEqDiff, Nat.reduceLT, ↓reduceIte, Int.reduceToNat, Int.reduceAdd, Int.reduceSub, Int.reduceMul, Int.reduceLT, Int.reduceLE, Int.reduceEq, Nat.reduceLeDiff,  fmV, encFm]
    have hsz1 := hb1.size
    simp only [World.size_alloc] at hsz1
    have hB1 : Below w.heap.size w w1 := hb0.trans (hb1.mono (by simp only [World.size_alloc]; omega))
    have hB2 := below_alloc w1 (.cells #[.int .i64 f.kind, .string (toBA f.word), .string (toBA f.fields), .int .i64 f.nums] 45)
    have hg2 := heap_alloc_new w1 (.cells #[.int .i64 f.kind, .string (toBA f.word), .string (toBA f.fields), .int .i64 f.nums] 45)
    have hc2 := (hB2.block w.heap.size (by omega)).trans ((hb1.block w.heap.size (by simp only [World.size_alloc]; omega)).trans (heap_alloc_new w _))
    have hB3 : Below w.heap.size w _ := hB1.trans (hB2.mono (by omega))
    generalize w1.alloc (.cells #[.int .i64 f.kind, .string (toBA f.word), .string (toBA f.fields), .int .i64 f.nums] 45) = w2 at *
    have c0 := Lib.cell_of_heap hc2 0
    have c1 := Lib.cell_of_heap hc2 1
    have c2 := Lib.cell_of_heap hc2 2
    have c3 := Lib.cell_of_heap hc2 3
    have c4 := Lib.cell_of_heap hc2 4
    have c5 := Lib.cell_of_heap hc2 5
    have c6 := Lib.cell_of_heap hc2 6
    have c7 := Lib.cell_of_heap hc2 7
    have c8 := Lib.cell_of_heap hc2 8
    have c9 := Lib.cell_of_heap hc2 9
    have d2 : w2.cell? ⟨w1.heap.size, 2, none⟩ = some (.string (toBA f.fields)) := Lib.cell_of_heap hg2 2
    have d3 : w2.cell? ⟨w1.heap.size, 3, none⟩ = some (.int .i64 f.nums) := Lib.cell_of_heap hg2 3
    refine W_if_f rfl ?_
    simp +contextual (maxSteps := 2000000) (disch := (first | omega | (simp only [SZ]; done) | (simp only [SZ]; omega) | (simp only [TS] at *; omega))) only [RZ, gval, gslot, fillL, ovw, numb, catL, ldN, agL, okC, oneC, init, Nat.reduceAdd, Nat.reduceMul, Nat.reduceSub, Nat.reduceEqDiff, Nat.reduceLT, ↓reduceIte, Int.reduceToNat, Int.reduceAdd, Int.reduceSub, Int.reduceMul, Int.reduceLT, Int.reduceLE, Int.reduceEq, Nat.reduceLeDiff,  c0, c1]
    (refine W_if rfl (fun hc => ?_) (fun hc => ?_) <;> (try simp only [TS] at hc))
    · rw [if_pos (by omega)]
      simp +contextual (maxSteps := 2000000) (disch := (first | omega | (simp only [SZ]; done) | (simp only [SZ]; omega) | (simp only [TS] at *; omega))) only [RZ, gval, gslot, fillL, ovw, numb, catL, ldN, agL, okC, oneC, init, Nat.reduceAdd, Nat.reduceMul, Nat.reduceSub, Nat.reduceEqDiff, Nat.reduceLT, ↓reduceIte, Int.reduceToNat, Int.reduceAdd, Int.reduceSub, Int.reduceMul, Int.reduceLT, Int.reduceLE, Int.reduceEq, Nat.reduceLeDiff]
      exact hB3
    rw [if_neg (by omega)]
    clear hc
    have hu : ∀ c : Nat, c < 256 → Calls Tryd.prog 21 #[.int .u8 c, .pointer (some ⟨w1.heap.size, 0, none⟩)] w2 fun e w' => e = .returned (.bool (f.fields.contains c)) ∧ w2 = w' := fun c hc => by
      have := used_any w1.heap.size _ c w2 d2
      rw [idx_used hfm hc] at this
      exact this
    simp +contextual (maxSteps := 2000000) (disch := (first | omega | (simp only [SZ]; done) | (simp only [SZ]; omega) | (simp only [TS] at *; omega))) only [RZ, gval, gslot, fillL, ovw, numb, catL, ldN, agL, okC, oneC, init, Nat.reduceAdd, Nat.reduceMul, Nat.reduceSub, Nat.reduceEqDiff, Nat.reduceLT, ↓reduceIte, Int.reduceToNat, Int.reduceAdd, Int.reduceSub, Int.reduceMul, Int.reduceLT, Int.reduceLE, Int.reduceEq, Nat.reduceLeDiff,  c0, c1]
    refine (hu 119 (by decide)).mono ?_
    rintro e w3 ⟨rfl, rfl⟩
    refine ⟨_, rfl, ?_⟩
    simp +contextual (maxSteps := 2000000) (disch := (first | omega | (simp only [SZ]; done) | (simp only [SZ]; omega) | (simp only [TS] at *; omega))) only [RZ, gval, gslot, fillL, ovw, numb, catL, ldN, agL, okC, oneC, init, Nat.reduceAdd, Nat.reduceMul, Nat.reduceSub, Nat.reduceEqDiff, Nat.reduceLT, ↓reduceIte, Int.reduceToNat, Int.reduceAdd, Int.reduceSub, Int.reduceMul, Int.reduceLT, Int.reduceLE, Int.reduceEq, Nat.reduceLeDiff,  c2]
    refine GB_call (fun _ => hu 97 (by decide)) ?_
    simp +contextual (maxSteps := 2000000) (disch := (first | omega | (simp only [SZ]; done) | (simp only [SZ]; omega) | (simp only [TS] at *; omega))) only [RZ, gval, gslot, fillL, ovw, numb, catL, ldN, agL, okC, oneC, init, Nat.reduceAdd, Nat.reduceMul, Nat.reduceSub, Nat.reduceEqDiff, Nat.reduceLT, ↓reduceIte, Int.reduceToNat, Int.reduceAdd, Int.reduceSub, Int.reduceMul, Int.reduceLT, Int.reduceLE, Int.reduceEq, Nat.reduceLeDiff,  c3]
    refine GB_call (fun _ => hu 98 (by decide)) ?_
    simp +contextual (maxSteps := 2000000) (disch := (first | omega | (simp only [SZ]; done) | (simp only [SZ]; omega) | (simp only [TS] at *; omega))) only [RZ, gval, gslot, fillL, ovw, numb, catL, ldN, agL, okC, oneC, init, Nat.reduceAdd, Nat.reduceMul, Nat.reduceSub, Nat.reduceEqDiff, Nat.reduceLT, ↓reduceIte, Int.reduceToNat, Int.reduceAdd, Int.reduceSub, Int.reduceMul, Int.reduceLT, Int.reduceLE, Int.reduceEq, Nat.reduceLeDiff,  c4]
    refine GB_call (fun _ => hu 110 (by decide)) ?_
    simp +contextual (maxSteps := 2000000) (disch := (first | omega | (simp only [SZ]; done) | (simp only [SZ]; omega) | (simp only [TS] at *; omega))) only [RZ, gval, gslot, fillL, ovw, numb, catL, ldN, agL, okC, oneC, init, Nat.reduceAdd, Nat.reduceMul, Nat.reduceSub, Nat.reduceEqDiff, Nat.reduceLT, ↓reduceIte, Int.reduceToNat, Int.reduceAdd, Int.reduceSub, Int.reduceMul, Int.reduceLT, Int.reduceLE, Int.reduceEq, Nat.reduceLeDiff,  c5]
    refine GB_call (fun _ => hu 116 (by decide)) ?_
    simp +contextual (maxSteps := 2000000) (disch := (first | omega | (simp only [SZ]; done) | (simp only [SZ]; omega) | (simp only [TS] at *; omega))) only [RZ, gval, gslot, fillL, ovw, numb, catL, ldN, agL, okC, oneC, init, Nat.reduceAdd, Nat.reduceMul, Nat.reduceSub, Nat.reduceEqDiff, Nat.reduceLT, ↓reduceIte, Int.reduceToNat, Int.reduceAdd, Int.reduceSub, Int.reduceMul, Int.reduceLT, Int.reduceLE, Int.reduceEq, Nat.reduceLeDiff,  c6]
    refine GB_call (fun _ => hu 107 (by decide)) ?_
    simp +contextual (maxSteps := 2000000) (disch := (first | omega | (simp only [SZ]; done) | (simp only [SZ]; omega) | (simp only [TS] at *; omega))) only [RZ, gval, gslot, fillL, ovw, numb, catL, ldN, agL, okC, oneC, init, Nat.reduceAdd, Nat.reduceMul, Nat.reduceSub, Nat.reduceEqDiff, Nat.reduceLT, ↓reduceIte, Int.reduceToNat, Int.reduceAdd, Int.reduceSub, Int.reduceMul, Int.reduceLT, Int.reduceLE, Int.reduceEq, Nat.reduceLeDiff,  c8]
    refine GB_call (fun _ => hu 111 (by decide)) ?_
    simp +contextual (maxSteps := 2000000) (disch := (first | omega | (simp only [SZ]; done) | (simp only [SZ]; omega) | (simp only [TS] at *; omega))) only [RZ, gval, gslot, fillL, ovw, numb, catL, ldN, agL, okC, oneC, init, Nat.reduceAdd, Nat.reduceMul, Nat.reduceSub, Nat.reduceEqDiff, Nat.reduceLT, ↓reduceIte, Int.reduceToNat, Int.reduceAdd, Int.reduceSub, Int.reduceMul, Int.reduceLT, Int.reduceLE, Int.reduceEq, Nat.reduceLeDiff,  c9, c7, d3]
    clear c0 c1 c2 c3 c4 c8 c9 hB2 hg2 hc2
    (refine W_if rfl (fun hc => ?_) (fun hc => ?_) <;> (try simp only [TS] at hc))
    · have hbad : idleB f.fields c = false ∨ (f.nums ≠ -1 ∧ (c.nums.length : Int) ≠ f.nums) := by
        rcases hc with hc | hc
        · left
          cases hi : idleB f.fields c with
          | false => rfl
          | true =>
            obtain ⟨⟨⟨⟨⟨⟨a1, a2⟩, a3⟩, a4⟩, a5⟩, a6⟩, a7⟩ := idle_iff.1 hi
            exfalso
            rcases hc with (((((⟨x, y⟩ | ⟨x, y⟩) | ⟨x, y⟩) | ⟨x, y⟩) | ⟨x, y⟩) | ⟨x, y⟩) | ⟨x, y⟩
            · exact no2 a1 x y
            · exact no2 a2 x y
            · exact no2 a3 x y
            · exact no2 a4 x y
            · exact no2 a5 x y
            · exact no2 a6 x y
            · exact no2 a7 x y
        · exact .inr hc
      rw [if_pos hbad]
      simp +contextual (maxSteps := 2000000) (disch := (first | omega | (simp only [SZ]; done) | (simp only [SZ]; omega) | (simp only [TS] at *; omega))) only [RZ, gval, gslot, fillL, ovw, numb, catL, ldN, agL, okC, oneC, init, Nat.reduceAdd, Nat.reduceMul, Nat.reduceSub, Nat.reduceEqDiff, Nat.reduceLT, ↓reduceIte, Int.reduceToNat, Int.reduceAdd, Int.reduceSub, Int.reduceMul, Int.reduceLT, Int.reduceLE, Int.reduceEq, Nat.reduceLeDiff]
      exact hB3
    have hgood : ¬ (idleB f.fields c = false ∨ (f.nums ≠ -1 ∧ (c.nums.length : Int) ≠ f.nums)) := by
      rintro (h | h)
      · rw [idle_iff.2 hc.1] at h; cases h
      · rcases hc.2 with h3 | h3
        · exact h.1 h3
        · exact h.2 h3
    rw [if_neg hgood]
    clear hc hgood
    simp +contextual (maxSteps := 2000000) (disch := (first | omega | (simp only [SZ]; done) | (simp only [SZ]; omega) | (simp only [TS] at *; omega))) only [RZ, gval, gslot, fillL, ovw, numb, catL, ldN, agL, okC, oneC, init, Nat.reduceAdd, Nat.reduceMul, Nat.reduceSub, Nat.reduceEqDiff, Nat.reduceLT, ↓reduceIte, Int.reduceToNat, Int.reduceAdd, Int.reduceSub, Int.reduceMul, Int.reduceLT, Int.reduceLE, Int.reduceEq, Nat.reduceLeDiff]
    refine (hu 110 (by decide)).mono ?_
    rintro e w3 ⟨rfl, rfl⟩
    refine ⟨_, rfl, ?_⟩
    simp +contextual (maxSteps := 2000000) (disch := (first | omega | (simp only [SZ]; done) | (simp only [SZ]; omega) | (simp only [TS] at *; omega))) only [RZ, gval, gslot, fillL, ovw, numb, catL, ldN, agL, okC, oneC, init, Nat.reduceAdd, Nat.reduceMul, Nat.reduceSub, Nat.reduceEqDiff, Nat.reduceLT, ↓reduceIte, Int.reduceToNat, Int.reduceAdd, Int.reduceSub, Int.reduceMul, Int.reduceLT, Int.reduceLE, Int.reduceEq, Nat.reduceLeDiff,  c5]
    refine GB_call (fun _ => scName_any c.name w2 (by omega)) ?_
    simp +contextual (maxSteps := 2000000) (disch := (first | omega | (simp only [SZ]; done) | (simp only [SZ]; omega) | (simp only [TS] at *; omega))) only [RZ, gval, gslot, fillL, ovw, numb, catL, ldN, agL, okC, oneC, init, Nat.reduceAdd, Nat.reduceMul, Nat.reduceSub, Nat.reduceEqDiff, Nat.reduceLT, ↓reduceIte, Int.reduceToNat, Int.reduceAdd, Int.reduceSub, Int.reduceMul, Int.reduceLT, Int.reduceLE, Int.reduceEq, Nat.reduceLeDiff]
    (refine W_if rfl (fun hc => ?_) (fun hc => ?_) <;> (try simp only [TS] at hc))
    · rw [if_pos hc]
      simp +contextual (maxSteps := 2000000) (disch := (first | omega | (simp only [SZ]; done) | (simp only [SZ]; omega) | (simp only [TS] at *; omega))) only [RZ, gval, gslot, fillL, ovw, numb, catL, ldN, agL, okC, oneC, init, Nat.reduceAdd, Nat.reduceMul, Nat.reduceSub, Nat.reduceEqDiff, Nat.reduceLT, ↓reduceIte, Int.reduceToNat, Int.reduceAdd, Int.reduceSub, Int.reduceMul, Int.reduceLT, Int.reduceLE, Int.reduceEq, Nat.reduceLeDiff]
      exact hB3
    rw [if_neg (by rintro ⟨h4, h5⟩; rcases hc with h | h; · rw [h] at h4; cases h4
                   · rw [h] at h5; cases h5)]
    clear hc
    simp +contextual (maxSteps := 2000000) (disch := (first | omega | (simp only [SZ]; done) | (simp only [SZ]; omega) | (simp only [TS] at *; omega))) only [RZ, gval, gslot, fillL, ovw, numb, catL, ldN, agL, okC, oneC, init, Nat.reduceAdd, Nat.reduceMul, Nat.reduceSub, Nat.reduceEqDiff, Nat.reduceLT, ↓reduceIte, Int.reduceToNat, Int.reduceAdd, Int.reduceSub, Int.reduceMul, Int.reduceLT, Int.reduceLE, Int.reduceEq, Nat.reduceLeDiff,  c6, c7]
    (refine W_if rfl (fun hc => ?_) (fun hc => ?_) <;> (try simp only [TS] at hc))
    · rw [if_pos (by omega)]
      simp +contextual (maxSteps := 2000000) (disch := (first | omega | (simp only [SZ]; done) | (simp only [SZ]; omega) | (simp only [TS] at *; omega))) only [RZ, gval, gslot, fillL, ovw, numb, catL, ldN, agL, okC, oneC, init, Nat.reduceAdd, Nat.reduceMul, Nat.reduceSub, Nat.reduceEqDiff, Nat.reduceLT, ↓reduceIte, Int.reduceToNat, Int.reduceAdd, Int.reduceSub, Int.reduceMul, Int.reduceLT, Int.reduceLE, Int.reduceEq, Nat.reduceLeDiff]
      exact hB3
    · rw [if_neg (by omega)]
      simp +contextual (maxSteps := 2000000) (disch := (first | omega | (simp only [SZ]; done) | (simp only [SZ]; omega) | (simp only [TS] at *; omega))) only [RZ, gval, gslot, fillL, ovw, numb, catL, ldN, agL, okC, oneC, init, Nat.reduceAdd, Nat.reduceMul, Nat.reduceSub, Nat.reduceEqDiff, Nat.reduceLT, ↓reduceIte, Int.reduceToNat, Int.reduceAdd, Int.reduceSub, Int.reduceMul, Int.reduceLT, Int.reduceLE, Int.reduceEq, Nat.reduceLeDiff]
      exact hB3
end Go.Proofs.YtjaeiiiniohloaaDoor
/- Walks: script.parseField. -/
namespace Go.Proofs.YtjaeiiiniohloaaDoor
open Go.RowKit
set_option maxRecDepth 100000
theorem pfNum_any (g j h : Nat) (t : ByteArray) (cs : List Value) (u : Value) (w : World) (hR : Row w g 25 cs) (hj : cs[j]? = some u) (hq : w.cell? ⟨h, 0, none⟩ = some (.string t)) (ht : t.size ≤ 1000000) :
    Calls Tryd.prog 66 #[.pointer (some ⟨g, j, none⟩), .pointer (some ⟨h, 0, none⟩)] w fun e w' => e = .returned (.bool (decide ((numE (bs t)).2 = 0))) ∧ w' = w.setCell ⟨g, j, none⟩ (.int .i64 (numE (bs t)).1) := by
  refine calls_W (l := [_, _]) Tryd.func66 rfl _ Tryd.ntmps66 (by simp) ?_
  have c1 := hR.cell hj
  have z1 := hR.frozen j
  simp +contextual (maxSteps := 2000000) (disch := (first | omega | (simp only [SZ]; done) | (simp only [SZ]; omega) | (simp only [TS] at *; omega))) only [RZ, gval, gslot, fillL, ovw, numb, catL, ldN, agL, okC, oneC, init, Nat.reduceAdd, Nat.reduceMul, Nat.reduceSub, Nat.reduceEqDiff, Nat.reduceLT, ↓reduceIte, Int.reduceToNat, Int.reduceAdd, Int.reduceSub, Int.reduceMul, Int.reduceLT, Int.reduceLE, Int.reduceEq, Nat.reduceLeDiff,  hq]
  refine (numParse_any t w (by omega)).mono ?_
  rintro e w1 ⟨rfl, rfl⟩
  refine ⟨_, rfl, ?_⟩
  simp +contextual (maxSteps := 2000000) (disch := (first | omega | (simp only [SZ]; done) | (simp only [SZ]; omega) | (simp only [TS] at *; omega))) only [RZ, gval, gslot, fillL, ovw, numb, catL, ldN, agL, okC, oneC, init, Nat.reduceAdd, Nat.reduceMul, Nat.reduceSub, Nat.reduceEqDiff, Nat.reduceLT, ↓reduceIte, Int.reduceToNat, Int.reduceAdd, Int.reduceSub, Int.reduceMul, Int.reduceLT, Int.reduceLE, Int.reduceEq, Nat.reduceLeDiff,  hq, c1, z1]
theorem pfKey_any (g j h : Nat) (t : ByteArray) (cs : List Value) (u : Value) (w : World) (hR : Row w g 25 cs) (hj : cs[j]? = some u) (hq : w.cell? ⟨h, 0, none⟩ = some (.string t)) (ht : t.size ≤ 1000000) :
    Calls Tryd.prog 67 #[.pointer (some ⟨g, j, none⟩), .pointer (some ⟨h, 0, none⟩)] w fun e w' => e = .returned (.bool (hexE (bs t)).isSome) ∧ w' = w.setCell ⟨g, j, none⟩ (.int .u64 ((hexE (bs t)).getD 0 : Nat)) := by
  refine calls_W (l := [_, _]) Tryd.func67 rfl _ Tryd.ntmps67 (by simp) ?_
  have c1 := hR.cell hj
  have z1 := hR.frozen j
  simp +contextual (maxSteps := 2000000) (disch := (first | omega | (simp only [SZ]; done) | (simp only [SZ]; omega) | (simp only [TS] at *; omega))) only [RZ, gval, gslot, fillL, ovw, numb, catL, ldN, agL, okC, oneC, init, Nat.reduceAdd, Nat.reduceMul, Nat.reduceSub, Nat.reduceEqDiff, Nat.reduceLT, ↓reduceIte, Int.reduceToNat, Int.reduceAdd, Int.reduceSub, Int.reduceMul, Int.reduceLT, Int.reduceLE, Int.reduceEq, Nat.reduceLeDiff,  hq]
  refine (parseHex_any t w (by omega)).mono ?_
  rintro e w1 ⟨rfl, rfl⟩
  refine ⟨_, rfl, ?_⟩
  unfold hexR
  cases hexE (bs t) <;> (simp +contextual (maxSteps := 2000000) (disch := (first | omega | (simp only [SZ]; done) | (simp only [SZ]; omega) | (simp only [TS] at *; omega))) only [RZ, gval, gslot, fillL, ovw, numb, catL, ldN, agL, okC, oneC, init, Nat.reduceAdd, Nat.reduceMul, Nat.reduceSub, Nat.reduceEqDiff, Nat.reduceLT, ↓reduceIte, Int.reduceToNat, Int.reduceAdd, Int.reduceSub, Int.reduceMul, Int.reduceLT, Int.reduceLE, Int.reduceEq, Nat.reduceLeDiff,  hq, c1, z1]; exact rfl)
def fieldIs (g : Nat) (v : Value) (e : Ending) (w : World) : Option Cm → Prop
  | some c => e = .returned (.bool true) ∧ Row w g 25 (cmV c v)
  | none => e = .returned (.bool false)
theorem parseField_any (g x : Nat) (c : Cm) (v : Value) (t : ByteArray) (w : World) (hR : Row w g 25 (cmV c v)) (ht : t.size ≤ 1000000) :
    Calls Tryd.prog 60 #[.pointer (some ⟨g, 0, none⟩), .int .u8 x, .string t] w fun e w' => fieldIs g v e w' (fieldS c x (bs t)) ∧ Only g (g + 1) w w' := by
  refine calls_W (l := [_, _, _]) Tryd.func60 rfl _ Tryd.ntmps60 (by simp) ?_
  simp +contextual (maxSteps := 2000000) (disch := (first | omega | (simp only [SZ]; done) | (simp only [SZ]; omega) | (simp only [TS] at *; omega))) only [RZ, gval, gslot, fillL, ovw, numb, catL, ldN, agL, okC, oneC, init, Nat.reduceAdd, Nat.reduceMul, Nat.reduceSub, Nat.reduceEqDiff, Nat.reduceLT, ↓reduceIte, Int.reduceToNat, Int.reduceAdd, Int.reduceSub, Int.reduceMul, Int.reduceLT, Int.reduceLE, Int.reduceEq, Nat.reduceLeDiff]
  have hg := hR.lt
  generalize hw1 : w.alloc (.cells #[.string t] 9) = w1
  have hR1 : Row w1 g 25 (cmV c v) := by rw [← hw1]; exact hR.alloc _
  have hO1 : Only g (g + 1) w w1 := by rw [← hw1]; exact (Only.refl _ _ _).alloc _
  have hq1 : w1.cell? ⟨w.heap.size, 0, none⟩ = some (.string t) := by rw [← hw1]; exact (new_block w #[.string t] _).1 0
  have hO2 : ∀ (j : Nat) (u : Value), Only g (g + 1) w (w1.setCell ⟨g, j, none⟩ u) := fun j u => hO1.setCell (Nat.le_refl _) (Nat.lt_succ_self _) _
  clear hw1
  have num : ∀ (j : Nat) (u : Int) (x' : Nat), (cmV c v)[j]? = some (.int .i64 u) → (∀ c', fieldS c x (bs t) = some c' → (numE (bs t)).2 = 0 ∧ cmV c' v = (cmV c v).set j (.int .i64 (numE (bs t)).1)) → ((numE (bs t)).2 = 0 → (fieldS c x (bs t)).isSome = true) →
      fieldIs g v (.returned (.bool (decide ((numE (bs t)).2 = 0)))) (w1.setCell ⟨g, j, none⟩ (.int .i64 (numE (bs t)).1)) (fieldS c x (bs t)) := by
    intro j u x' hj h1 h2
    cases hf : fieldS c x (bs t) with
    | none =>
      rw [hf] at h2
      refine congrArg Ending.returned (congrArg Value.bool ?_)
      rw [decide_eq_false_iff_not]
      exact fun h => by cases h2 h
    | some c' =>
      obtain ⟨h3, h4⟩ := h1 c' hf
      refine ⟨by rw [decide_eq_true h3], ?_⟩
      rw [h4]
      exact hR1.set_ (List.getElem?_eq_some_iff.1 hj).1 _
  have key : ∀ (j : Nat) (u : Int), (cmV c v)[j]? = some (.int .u64 u) → (fieldS c x (bs t)).isSome = (hexE (bs t)).isSome → (∀ c', fieldS c x (bs t) = some c' → cmV c' v = (cmV c v).set j (.int .u64 ((hexE (bs t)).getD 0 : Nat))) →
      fieldIs g v (.returned (.bool (hexE (bs t)).isSome)) (w1.setCell ⟨g, j, none⟩ (.int .u64 ((hexE (bs t)).getD 0 : Nat))) (fieldS c x (bs t)) := by
    intro j u hj h0 h1
    cases hf : fieldS c x (bs t) with
    | none =>
      rw [hf] at h0
      rw [← h0]
      exact rfl
    | some c' =>
      rw [hf] at h0
      rw [← h0]
      refine ⟨rfl, ?_⟩
      rw [h1 c' hf]
      exact hR1.set_ (List.getElem?_eq_some_iff.1 hj).1 _
  (refine W_if rfl (fun hc => ?_) (fun hc => ?_) <;> (try simp only [TS] at hc))
  · have hx : x = 119 := by omega
    subst hx
    simp +contextual (maxSteps := 2000000) (disch := (first | omega | (simp only [SZ]; done) | (simp only [SZ]; omega) | (simp only [TS] at *; omega))) only [RZ, gval, gslot, fillL, ovw, numb, catL, ldN, agL, okC, oneC, init, Nat.reduceAdd, Nat.reduceMul, Nat.reduceSub, Nat.reduceEqDiff, Nat.reduceLT, ↓reduceIte, Int.reduceToNat, Int.reduceAdd, Int.reduceSub, Int.reduceMul, Int.reduceLT, Int.reduceLE, Int.reduceEq, Nat.reduceLeDiff]
    refine (pfNum_any g 2 w.heap.size t _ _ w1 hR1 rfl hq1 ht).mono ?_
    rintro e w2 ⟨rfl, rfl⟩
    refine ⟨_, rfl, ?_⟩
    simp +contextual (maxSteps := 2000000) (disch := (first | omega | (simp only [SZ]; done) | (simp only [SZ]; omega) | (simp only [TS] at *; omega))) only [RZ, gval, gslot, fillL, ovw, numb, catL, ldN, agL, okC, oneC, init, Nat.reduceAdd, Nat.reduceMul, Nat.reduceSub, Nat.reduceEqDiff, Nat.reduceLT, ↓reduceIte, Int.reduceToNat, Int.reduceAdd, Int.reduceSub, Int.reduceMul, Int.reduceLT, Int.reduceLE, Int.reduceEq, Nat.reduceLeDiff]
    refine ⟨num 2 _ 0 rfl (fun c' h => ?_) (fun h => ?_), hO2 _ _⟩
    · unfold fieldS at h
      rw [if_pos rfl] at h
      split at h
      · injection h with h; subst h; exact ⟨‹_›, rfl⟩
      · cases h
    · unfold fieldS
      rw [if_pos rfl, if_pos h]; rfl
  have n119 : ¬ x = 119 := by omega
  clear hc
  simp +contextual (maxSteps := 2000000) (disch := (first | omega | (simp only [SZ]; done) | (simp only [SZ]; omega) | (simp only [TS] at *; omega))) only [RZ, gval, gslot, fillL, ovw, numb, catL, ldN, agL, okC, oneC, init, Nat.reduceAdd, Nat.reduceMul, Nat.reduceSub, Nat.reduceEqDiff, Nat.reduceLT, ↓reduceIte, Int.reduceToNat, Int.reduceAdd, Int.reduceSub, Int.reduceMul, Int.reduceLT, Int.reduceLE, Int.reduceEq, Nat.reduceLeDiff]
  (refine W_if rfl (fun hc => ?_) (fun hc => ?_) <;> (try simp only [TS] at hc))
  · have hx : x = 97 := by omega
    subst hx
    simp +contextual (maxSteps := 2000000) (disch := (first | omega | (simp only [SZ]; done) | (simp only [SZ]; omega) | (simp only [TS] at *; omega))) only [RZ, gval, gslot, fillL, ovw, numb, catL, ldN, agL, okC, oneC, init, Nat.reduceAdd, Nat.reduceMul, Nat.reduceSub, Nat.reduceEqDiff, Nat.reduceLT, ↓reduceIte, Int.reduceToNat, Int.reduceAdd, Int.reduceSub, Int.reduceMul, Int.reduceLT, Int.reduceLE, Int.reduceEq, Nat.reduceLeDiff]
    refine (pfNum_any g 3 w.heap.size t _ _ w1 hR1 rfl hq1 ht).mono ?_
    rintro e w2 ⟨rfl, rfl⟩
    refine ⟨_, rfl, ?_⟩
    simp +contextual (maxSteps := 2000000) (disch := (first | omega | (simp only [SZ]; done) | (simp only [SZ]; omega) | (simp only [TS] at *; omega))) only [RZ, gval, gslot, fillL, ovw, numb, catL, ldN, agL, okC, oneC, init, Nat.reduceAdd, Nat.reduceMul, Nat.reduceSub, Nat.reduceEqDiff, Nat.reduceLT, ↓reduceIte, Int.reduceToNat, Int.reduceAdd, Int.reduceSub, Int.reduceMul, Int.reduceLT, Int.reduceLE, Int.reduceEq, Nat.reduceLeDiff]
    refine ⟨num 3 _ 0 rfl (fun c' h => ?_) (fun h => ?_), hO2 _ _⟩
    · unfold fieldS at h
      rw [if_neg (by decide), if_pos rfl] at h
      split at h
      · injection h with h; subst h; exact ⟨‹_›, rfl⟩
      · cases h
    · unfold fieldS
      rw [if_neg (by decide), if_pos rfl, if_pos h]; rfl
  have n97 : ¬ x = 97 := by omega
  clear hc
  simp +contextual (maxSteps := 2000000) (disch := (first | omega | (simp only [SZ]; done) | (simp only [SZ]; omega) | (simp only [TS] at *; omega))) only [RZ, gval, gslot, fillL, ovw, numb, catL, ldN, agL, okC, oneC, init, Nat.reduceAdd, Nat.reduceMul, Nat.reduceSub, Nat.reduceEqDiff, Nat.reduceLT, ↓reduceIte, Int.reduceToNat, Int.reduceAdd, Int.reduceSub, Int.reduceMul, Int.reduceLT, Int.reduceLE, Int.reduceEq, Nat.reduceLeDiff]
  (refine W_if rfl (fun hc => ?_) (fun hc => ?_) <;> (try simp only [TS] at hc))
  · have hx : x = 98 := by omega
    subst hx
    simp +contextual (maxSteps := 2000000) (disch := (first | omega | (simp only [SZ]; done) | (simp only [SZ]; omega) | (simp only [TS] at *; omega))) only [RZ, gval, gslot, fillL, ovw, numb, catL, ldN, agL, okC, oneC, init, Nat.reduceAdd, Nat.reduceMul, Nat.reduceSub, Nat.reduceEqDiff, Nat.reduceLT, ↓reduceIte, Int.reduceToNat, Int.reduceAdd, Int.reduceSub, Int.reduceMul, Int.reduceLT, Int.reduceLE, Int.reduceEq, Nat.reduceLeDiff]
    refine (pfNum_any g 4 w.heap.size t _ _ w1 hR1 rfl hq1 ht).mono ?_
    rintro e w2 ⟨rfl, rfl⟩
    refine ⟨_, rfl, ?_⟩
    simp +contextual (maxSteps := 2000000) (disch := (first | omega | (simp only [SZ]; done) | (simp only [SZ]; omega) | (simp only [TS] at *; omega))) only [RZ, gval, gslot, fillL, ovw, numb, catL, ldN, agL, okC, oneC, init, Nat.reduceAdd, Nat.reduceMul, Nat.reduceSub, Nat.reduceEqDiff, Nat.reduceLT, ↓reduceIte, Int.reduceToNat, Int.reduceAdd, Int.reduceSub, Int.reduceMul, Int.reduceLT, Int.reduceLE, Int.reduceEq, Nat.reduceLeDiff]
    refine ⟨num 4 _ 0 rfl (fun c' h => ?_) (fun h => ?_), hO2 _ _⟩
    · unfold fieldS at h
      rw [if_neg (by decide), if_neg (by decide), if_pos rfl] at h
      split at h
      · injection h with h; subst h; exact ⟨‹_›, rfl⟩
      · cases h
    · unfold fieldS
      rw [if_neg (by decide), if_neg (by decide), if_pos rfl, if_pos h]; rfl
  have n98 : ¬ x = 98 := by omega
  clear hc
  simp +contextual (maxSteps := 2000000) (disch := (first | omega | (simp only [SZ]; done) | (simp only [SZ]; omega) | (simp only [TS] at *; omega))) only [RZ, gval, gslot, fillL, ovw, numb, catL, ldN, agL, okC, oneC, init, Nat.reduceAdd, Nat.reduceMul, Nat.reduceSub, Nat.reduceEqDiff, Nat.reduceLT, ↓reduceIte, Int.reduceToNat, Int.reduceAdd, Int.reduceSub, Int.reduceMul, Int.reduceLT, Int.reduceLE, Int.reduceEq, Nat.reduceLeDiff]
  (refine W_if rfl (fun hc => ?_) (fun hc => ?_) <;> (try simp only [TS] at hc))
  · have hx : x = 110 := by omega
    subst hx
    have c1 := hR1.cell (i := 5) rfl
    have z1 := hR1.frozen 5
    have hq2 : (w1.setCell ⟨g, 5, none⟩ (.string t)).cell? ⟨w.heap.size, 0, none⟩ = some (.string t) := by rw [cS_other _ (.inl (by omega))]; exact hq1
    simp +contextual (maxSteps := 2000000) (disch := (first | omega | (simp only [SZ]; done) | (simp only [SZ]; omega) | (simp only [TS] at *; omega))) only [RZ, gval, gslot, fillL, ovw, numb, catL, ldN, agL, okC, oneC, init, Nat.reduceAdd, Nat.reduceMul, Nat.reduceSub, Nat.reduceEqDiff, Nat.reduceLT, ↓reduceIte, Int.reduceToNat, Int.reduceAdd, Int.reduceSub, Int.reduceMul, Int.reduceLT, Int.reduceLE, Int.reduceEq, Nat.reduceLeDiff,  hq1, c1, z1, hq2]
    refine (scName_any t _ (by omega)).mono ?_
    rintro e w2 ⟨rfl, rfl⟩
    refine ⟨_, rfl, ?_⟩
    simp +contextual (maxSteps := 2000000) (disch := (first | omega | (simp only [SZ]; done) | (simp only [SZ]; omega) | (simp only [TS] at *; omega))) only [RZ, gval, gslot, fillL, ovw, numb, catL, ldN, agL, okC, oneC, init, Nat.reduceAdd, Nat.reduceMul, Nat.reduceSub, Nat.reduceEqDiff, Nat.reduceLT, ↓reduceIte, Int.reduceToNat, Int.reduceAdd, Int.reduceSub, Int.reduceMul, Int.reduceLT, Int.reduceLE, Int.reduceEq, Nat.reduceLeDiff]
    refine ⟨?_, hO2 _ _⟩
    unfold fieldS
    rw [if_neg (by decide), if_neg (by decide), if_neg (by decide), if_pos rfl]
    cases hn : scNameB (bs t) with
    | false => exact rfl
    | true =>
      refine ⟨rfl, ?_⟩
      rw [toBA_bs]
      exact hR1.set_ (i := 5) (by simp [cmV]) _
  have n110 : ¬ x = 110 := by omega
  clear hc
  simp +contextual (maxSteps := 2000000) (disch := (first | omega | (simp only [SZ]; done) | (simp only [SZ]; omega) | (simp only [TS] at *; omega))) only [RZ, gval, gslot, fillL, ovw, numb, catL, ldN, agL, okC, oneC, init, Nat.reduceAdd, Nat.reduceMul, Nat.reduceSub, Nat.reduceEqDiff, Nat.reduceLT, ↓reduceIte, Int.reduceToNat, Int.reduceAdd, Int.reduceSub, Int.reduceMul, Int.reduceLT, Int.reduceLE, Int.reduceEq, Nat.reduceLeDiff]
  (refine W_if rfl (fun hc => ?_) (fun hc => ?_) <;> (try simp only [TS] at hc))
  · have hx : x = 107 := by omega
    subst hx
    simp +contextual (maxSteps := 2000000) (disch := (first | omega | (simp only [SZ]; done) | (simp only [SZ]; omega) | (simp only [TS] at *; omega))) only [RZ, gval, gslot, fillL, ovw, numb, catL, ldN, agL, okC, oneC, init, Nat.reduceAdd, Nat.reduceMul, Nat.reduceSub, Nat.reduceEqDiff, Nat.reduceLT, ↓reduceIte, Int.reduceToNat, Int.reduceAdd, Int.reduceSub, Int.reduceMul, Int.reduceLT, Int.reduceLE, Int.reduceEq, Nat.reduceLeDiff]
    refine (pfKey_any g 8 w.heap.size t _ _ w1 hR1 rfl hq1 ht).mono ?_
    rintro e w2 ⟨rfl, rfl⟩
    refine ⟨_, rfl, ?_⟩
    simp +contextual (maxSteps := 2000000) (disch := (first | omega | (simp only [SZ]; done) | (simp only [SZ]; omega) | (simp only [TS] at *; omega))) only [RZ, gval, gslot, fillL, ovw, numb, catL, ldN, agL, okC, oneC, init, Nat.reduceAdd, Nat.reduceMul, Nat.reduceSub, Nat.reduceEqDiff, Nat.reduceLT, ↓reduceIte, Int.reduceToNat, Int.reduceAdd, Int.reduceSub, Int.reduceMul, Int.reduceLT, Int.reduceLE, Int.reduceEq, Nat.reduceLeDiff]
    have e1 : fieldS c 107 (bs t) = (hexE (bs t)).map fun (v : Nat) => { c with key := (v : Int) } := by
      unfold fieldS
      rw [if_neg (by decide), if_neg (by decide), if_neg (by decide), if_neg (by decide), if_pos rfl]
    refine ⟨key 8 _ rfl (by rw [e1, Option.isSome_map]) (fun c' h => ?_), hO2 _ _⟩
    rw [e1] at h
    cases hh : hexE (bs t) with
    | none => rw [hh] at h; cases h
    | some k => rw [hh] at h; injection h with h; subst h; rfl
  have n107 : ¬ x = 107 := by omega
  clear hc
  simp +contextual (maxSteps := 2000000) (disch := (first | omega | (simp only [SZ]; done) | (simp only [SZ]; omega) | (simp only [TS] at *; omega))) only [RZ, gval, gslot, fillL, ovw, numb, catL, ldN, agL, okC, oneC, init, Nat.reduceAdd, Nat.reduceMul, Nat.reduceSub, Nat.reduceEqDiff, Nat.reduceLT, ↓reduceIte, Int.reduceToNat, Int.reduceAdd, Int.reduceSub, Int.reduceMul, Int.reduceLT, Int.reduceLE, Int.reduceEq, Nat.reduceLeDiff]
  (refine W_if rfl (fun hc => ?_) (fun hc => ?_) <;> (try simp only [TS] at hc))
  · have hx : x = 111 := by omega
    subst hx
    simp +contextual (maxSteps := 2000000) (disch := (first | omega | (simp only [SZ]; done) | (simp only [SZ]; omega) | (simp only [TS] at *; omega))) only [RZ, gval, gslot, fillL, ovw, numb, catL, ldN, agL, okC, oneC, init, Nat.reduceAdd, Nat.reduceMul, Nat.reduceSub, Nat.reduceEqDiff, Nat.reduceLT, ↓reduceIte, Int.reduceToNat, Int.reduceAdd, Int.reduceSub, Int.reduceMul, Int.reduceLT, Int.reduceLE, Int.reduceEq, Nat.reduceLeDiff]
    refine (pfKey_any g 9 w.heap.size t _ _ w1 hR1 rfl hq1 ht).mono ?_
    rintro e w2 ⟨rfl, rfl⟩
    refine ⟨_, rfl, ?_⟩
    simp +contextual (maxSteps := 2000000) (disch := (first | omega | (simp only [SZ]; done) | (simp only [SZ]; omega) | (simp only [TS] at *; omega))) only [RZ, gval, gslot, fillL, ovw, numb, catL, ldN, agL, okC, oneC, init, Nat.reduceAdd, Nat.reduceMul, Nat.reduceSub, Nat.reduceEqDiff, Nat.reduceLT, ↓reduceIte, Int.reduceToNat, Int.reduceAdd, Int.reduceSub, Int.reduceMul, Int.reduceLT, Int.reduceLE, Int.reduceEq, Nat.reduceLeDiff]
    have e1 : fieldS c 111 (bs t) = (hexE (bs t)).map fun (v : Nat) => { c with nonce := (v : Int) } := by
      unfold fieldS
      rw [if_neg (by decide), if_neg (by decide), if_neg (by decide), if_neg (by decide), if_neg (by decide), if_pos rfl]
    refine ⟨key 9 _ rfl (by rw [e1, Option.isSome_map]) (fun c' h => ?_), hO2 _ _⟩
    rw [e1] at h
    cases hh : hexE (bs t) with
    | none => rw [hh] at h; cases h
    | some k => rw [hh] at h; injection h with h; subst h; rfl
  have n111 : ¬ x = 111 := by omega
  clear hc
  simp +contextual (maxSteps := 2000000) (disch := (first | omega | (simp only [SZ]; done) | (simp only [SZ]; omega) | (simp only [TS] at *; omega))) only [RZ, gval, gslot, fillL, ovw, numb, catL, ldN, agL, okC, oneC, init, Nat.reduceAdd, Nat.reduceMul, Nat.reduceSub, Nat.reduceEqDiff, Nat.reduceLT, ↓reduceIte, Int.reduceToNat, Int.reduceAdd, Int.reduceSub, Int.reduceMul, Int.reduceLT, Int.reduceLE, Int.reduceEq, Nat.reduceLeDiff]
  unfold fieldS
  rw [if_neg n119, if_neg n97, if_neg n98, if_neg n110, if_neg n107, if_neg n111]
  exact ⟨rfl, hO1⟩
end Go.Proofs.YtjaeiiiniohloaaDoor
/- Walks: script.parseFields. -/
namespace Go.Proofs.YtjaeiiiniohloaaDoor
open Go.RowKit
set_option maxRecDepth 100000
theorem owns_mono {w : World} {base base' e sz n : Nat} {v : Value} {xs : List Value} (h : w.ownsRow base e sz v n xs) (hb : base' ≤ base) : w.ownsRow base' e sz v n xs := by
  refine ⟨h.1, ?_⟩
  rcases h.2 with h0 | ⟨g, cap, cur, h1, h2, h3⟩
  · exact .inl h0
  · exact .inr ⟨g, cap, cur, h1, Nat.le_trans hb h2, h3⟩
theorem NumIn.mono {base base' : Nat} {w : World} {v : Value} {L : List Int} (h : NumIn base w v L) (hb : base' ≤ base) : NumIn base' w v L := by
  obtain ⟨A, c, rfl, ho⟩ := h
  exact ⟨A, c, rfl, owns_mono ho hb⟩
theorem NumIn.only {lo hi base : Nat} {w w' : World} {v : Value} {L : List Int} (h : NumIn base w v L) (ho : Only lo hi w w') (hr : hi ≤ base) : NumIn base w' v L := by
  obtain ⟨A, c, rfl, hw⟩ := h
  exact ⟨A, c, rfl, owns_only hw ho hr⟩
def fieldsIs (g base : Nat) (e : Ending) (w : World) : Option Cm → Prop
  | some c => e = .returned (.bool true) ∧ ∃ v, Row w g 25 (cmV c v) ∧ NumIn base w v c.nums
  | none => e = .returned (.bool false)
theorem fm_nums : ∀ f ∈ fmT, -1 ≤ f.nums ∧ f.nums ≤ 1000000 := by decide
theorem numsF_lt : ∀ (f : Nat) (count : Int) (done : Nat) (l : List Nat) (ns : List Int) (r : List Nat), (∀ c ∈ l, c < 256) → numsF f count done l = some (ns, r) → ∀ c ∈ r, c < 256 := by
  intro f
  induction f with
  | zero =>
    intro count done l ns r hl h
    by_cases hs : count = done ∨ (count = -1 ∧ l = [])
    · rw [numsF_stop hs] at h; injection h with h; injection h with h1 h2; subst h2; exact hl
    · unfold numsF at h; rw [if_neg hs] at h; cases h
  | succ f ih =>
    intro count done l ns r hl h
    by_cases hs : count = done ∨ (count = -1 ∧ l = [])
    · rw [numsF_stop hs] at h; injection h with h; injection h with h1 h2; subst h2; exact hl
    · rw [numsF_go hs] at h
      cases hc : cutS l with
      | none => rw [hc] at h; cases h
      | some p =>
        obtain ⟨t, r2⟩ := p
        rw [hc] at h
        simp only at h
        split at h
        · cases h
        · cases h3 : numsF f count (done + 1) r2 with
          | none => rw [h3] at h; cases h
          | some q =>
            rw [h3] at h
            injection h with h; injection h with h1 h2; subst h2
            exact ih _ _ _ _ _ (cutS_lt hl hc).2 h3
theorem fieldS_nums {c c' : Cm} {x : Nat} {t : List Nat} (h : fieldS c x t = some c') : c'.nums = c.nums := by
  unfold fieldS at h
  split at h
  · split at h
    · injection h with h; subst h; rfl
    · cases h
  split at h
  · split at h
    · injection h with h; subst h; rfl
    · cases h
  split at h
  · split at h
    · injection h with h; subst h; rfl
    · cases h
  split at h
  · split at h
    · injection h with h; subst h; rfl
    · cases h
  split at h
  · cases hh : hexE t with
    | none => rw [hh] at h; cases h
    | some k => rw [hh] at h; injection h with h; subst h; rfl
  split at h
  · cases hh : hexE t with
    | none => rw [hh] at h; cases h
    | some k => rw [hh] at h; injection h with h; subst h; rfl
  · cases h
set_option maxHeartbeats 1000000 in
theorem parseFields_any (g : Nat) (f : Fm) (hf : f ∈ fmT) (c : Cm) (hc0 : c.nums = []) (s : ByteArray) (w : World) (hR : Row w g 25 (cmV c (.slice none 0 0))) (hs : s.size ≤ 1000000) :
    Calls Tryd.prog 50 #[.pointer (some ⟨g, 0, none⟩), .agg (encFm f).toArray, .string s] w fun e w' => fieldsIs g w.heap.size e w' (fieldsS f.nums c f.fields (bs s)) ∧ Only g (g + 1) w w' := by
  refine calls_W (l := [_, _, _]) Tryd.func50 rfl _ Tryd.ntmps50 (by simp) ?_
  unfold encFm
  have hg := hR.lt
  have hnr := fm_nums f hf
  have hfl := fm_flds f hf
  have hfz := toBA_size f.fields
  have hfb := bs_toBA hfl
  have hfle := (fm_facts f hf).2.2.2.2.1
  simp +contextual (maxSteps := 2000000) (disch := (first | omega | (simp only [SZ]; done) | (simp only [SZ]; omega) | (simp only [TS] at *; omega))) only [RZ, gval, gslot, fillL, ovw, numb, catL, ldN, agL, okC, oneC, init, Nat.reduceAdd, Nat.reduceMul, Nat.reduceSub, Nat.reduceEqDiff, Nat.reduceLT, ↓reduceIte, Int.reduceToNat, Int.reduceAdd, Int.reduceSub, Int.reduceMul, Int.reduceLT, Int.reduceLE, Int.reduceEq, Nat.reduceLeDiff]
  generalize hw1 : w.alloc (.cells #[.int .i64 f.kind, .string (toBA f.word), .string (toBA f.fields), .int .i64 f.nums] 45) = w1
  have hs1 : w1.heap.size = w.heap.size + 1 := by rw [← hw1]; simp
  have hR1 : Row w1 g 25 (cmV c (.slice none 0 0)) := by rw [← hw1]; exact hR.alloc _
  have hO1 : Only g (g + 1) w w1 := by rw [← hw1]; exact (Only.refl _ _ _).alloc _
  have hc2 : w1.cell? ⟨w.heap.size, 2, none⟩ = some (.string (toBA f.fields)) := by rw [← hw1]; exact (new_block w _ _).1 2
  have hc3 : w1.cell? ⟨w.heap.size, 3, none⟩ = some (.int .i64 f.nums) := by rw [← hw1]; exact (new_block w _ _).1 3
  clear hw1
  generalize toBA f.fields = fb at *
  have hbd : (s.size : Int) ≤ 1000000 := by omega
  generalize hR0 : fieldsS f.nums c f.fields (bs s) = R
  refine Raw_loop (fun σ w2 => Only g (g + 1) w1 w2 ∧ ∃ (i : Nat) (c' : Cm) (t : ByteArray) (v : Value), i ≤ f.fields.length ∧ t.size ≤ 1000000 ∧ Row w2 g 25 (cmV c' v) ∧ NumIn w.heap.size w2 v c'.nums ∧ fieldsS f.nums c' (f.fields.drop i) (bs t) = R ∧
      σ 0 = .pointer (some ⟨g, 0, none⟩) ∧ σ 2 = .string t ∧ σ 4 = .pointer (some ⟨w.heap.size, 0, none⟩) ∧ σ 15 = .int .i64 f.fields.length ∧ σ 16 = .int .i64 i) (fun σ _ => f.fields.length - (intOf (σ 16)).toNat) ?_ ?_
  · simp +contextual (maxSteps := 2000000) (disch := (first | omega | (simp only [SZ]; done) | (simp only [SZ]; omega) | (simp only [TS] at *; omega))) only [RZ, gval, gslot, fillL, ovw, numb, catL, ldN, agL, okC, oneC, init, Nat.reduceAdd, Nat.reduceMul, Nat.reduceSub, Nat.reduceEqDiff, Nat.reduceLT, ↓reduceIte, Int.reduceToNat, Int.reduceAdd, Int.reduceSub, Int.reduceMul, Int.reduceLT, Int.reduceLE, Int.reduceEq, Nat.reduceLeDiff]
    exact ⟨Only.refl _ _ _, 0, c, s, _, by omega, hs, hR1, by rw [hc0]; exact NumIn.nil _ _, by rw [List.drop_zero]; exact hR0, rfl, by rw [hfz], rfl⟩
  clear hR0 hR hR1 hc0 hs hbd
  rintro σ w2 ⟨hO, i, c', t, v, hi, ht, hR2, hN2, hj, e0, e2, e4, e15, e16⟩ K hK
  have hs2 := hO.size
  have d2 := (hO.cell (g := w.heap.size) (o := 2) (by omega) (.inr (by omega))).trans hc2
  have d3 := (hO.cell (g := w.heap.size) (o := 3) (by omega) (.inr (by omega))).trans hc3
  simp +contextual (maxSteps := 2000000) (disch := (first | omega | (simp only [SZ]; done) | (simp only [SZ]; omega) | (simp only [TS] at *; omega))) only [RZ, gval, gslot, fillL, ovw, numb, catL, ldN, agL, okC, oneC, init, Nat.reduceAdd, Nat.reduceMul, Nat.reduceSub, Nat.reduceEqDiff, Nat.reduceLT, ↓reduceIte, Int.reduceToNat, Int.reduceAdd, Int.reduceSub, Int.reduceMul, Int.reduceLT, Int.reduceLE, Int.reduceEq, Nat.reduceLeDiff,  e0, e2, e4, e15, e16, d2, d3]
  (refine W_if rfl (fun hc => ?_) (fun hc => ?_) <;> (try simp only [TS] at hc))
  · have hil : i < f.fields.length := by omega
    clear hc
    obtain ⟨x, hx⟩ : ∃ x, f.fields[i]? = some x := ⟨_, List.getElem?_eq_getElem hil⟩
    have hxl : x < 256 := hfl x (List.mem_of_getElem? hx)
    have hbx : bt fb i = x := by
      have := bs_get (s := fb) (i := i) (by omega)
      rw [hfb, hx] at this
      injection this with this
      exact this.symm
    have hdr : f.fields.drop i = x :: f.fields.drop (i + 1) := by
      rw [List.drop_eq_getElem_cons hil]
      rw [List.getElem?_eq_getElem hil] at hx
      injection hx with hx
      rw [hx]
    rw [hdr, fieldsS] at hj
    have fin : ∀ (w3 : World) (c3 : Cm) (t3 : ByteArray) (v3 : Value) (σ3 : Sl), Only g (g + 1) w1 w3 → t3.size ≤ 1000000 → Row w3 g 25 (cmV c3 v3) → NumIn w.heap.size w3 v3 c3.nums → fieldsS f.nums c3 (f.fields.drop (i + 1)) (bs t3) = R →
        σ3 0 = .pointer (some ⟨g, 0, none⟩) ∧ σ3 2 = .string t3 ∧ σ3 4 = .pointer (some ⟨w.heap.size, 0, none⟩) ∧ σ3 15 = .int .i64 f.fields.length ∧ σ3 16 = .int .i64 ((i : Int) + 1) → K σ3 w3 := fun w3 c3 t3 v3 σ3 h1 h2 h3 h4 h5 ⟨h6, h7, h8, h9, h10⟩ =>
      hK _ _ ⟨h1, i + 1, c3, t3, v3, by omega, h2, h3, h4, h5, h6, h7, h8, h9, h10⟩ (by rw [h10, e16]; simp only [intOf]; omega)
    clear hK
    have hg2 := hR2.lt
    simp +contextual (maxSteps := 2000000) (disch := (first | omega | (simp only [SZ]; done) | (simp only [SZ]; omega) | (simp only [TS] at *; omega))) only [RZ, gval, gslot, fillL, ovw, numb, catL, ldN, agL, okC, oneC, init, Nat.reduceAdd, Nat.reduceMul, Nat.reduceSub, Nat.reduceEqDiff, Nat.reduceLT, ↓reduceIte, Int.reduceToNat, Int.reduceAdd, Int.reduceSub, Int.reduceMul, Int.reduceLT, Int.reduceLE, Int.reduceEq, Nat.reduceLeDiff,  e0, e2, e4, e15, e16, d2, d3, hbx]
    (refine W_if rfl (fun hc => ?_) (fun hc => ?_) <;> (try simp only [TS] at hc))
    · have hx116 : x = 116 := by omega
      rw [if_pos hx116] at hj
      clear hc
      simp +contextual (maxSteps := 2000000) (disch := (first | omega | (simp only [SZ]; done) | (simp only [SZ]; omega) | (simp only [TS] at *; omega))) only [RZ, gval, gslot, fillL, ovw, numb, catL, ldN, agL, okC, oneC, init, Nat.reduceAdd, Nat.reduceMul, Nat.reduceSub, Nat.reduceEqDiff, Nat.reduceLT, ↓reduceIte, Int.reduceToNat, Int.reduceAdd, Int.reduceSub, Int.reduceMul, Int.reduceLT, Int.reduceLE, Int.reduceEq, Nat.reduceLeDiff,  e0, e2, e4, e15, e16, d2, d3]
      refine (parseText_any t w2 ht).mono ?_
      rintro e w3 ⟨hu, hb3⟩
      have hR3 := hR2.below hb3
      have c6 := hR3.cell (i := 6) rfl
      have z6 := hR3.frozen 6
      have hO3 := hO.then_below (hb3.mono hs2)
      have hN3 := hN2.below hb3
      cases ho : textS (bs t) with
      | none =>
        rw [ho] at hu hj
        obtain ⟨y, rfl⟩ := hu
        refine ⟨_, rfl, ?_⟩
        simp +contextual (maxSteps := 2000000) (disch := (first | omega | (simp only [SZ]; done) | (simp only [SZ]; omega) | (simp only [TS] at *; omega))) only [RZ, gval, gslot, fillL, ovw, numb, catL, ldN, agL, okC, oneC, init, Nat.reduceAdd, Nat.reduceMul, Nat.reduceSub, Nat.reduceEqDiff, Nat.reduceLT, ↓reduceIte, Int.reduceToNat, Int.reduceAdd, Int.reduceSub, Int.reduceMul, Int.reduceLT, Int.reduceLE, Int.reduceEq, Nat.reduceLeDiff,  e0, e2, e4, e15, e16, c6, z6]
        refine W_if_t rfl ?_
        simp +contextual (maxSteps := 2000000) (disch := (first | omega | (simp only [SZ]; done) | (simp only [SZ]; omega) | (simp only [TS] at *; omega))) only [RZ, gval, gslot, fillL, ovw, numb, catL, ldN, agL, okC, oneC, init, Nat.reduceAdd, Nat.reduceMul, Nat.reduceSub, Nat.reduceEqDiff, Nat.reduceLT, ↓reduceIte, Int.reduceToNat, Int.reduceAdd, Int.reduceSub, Int.reduceMul, Int.reduceLT, Int.reduceLE, Int.reduceEq, Nat.reduceLeDiff,  e0, e2, e4, e15, e16, c6, z6]
        rw [← hj]
        exact ⟨rfl, (hO1.trans (hO3.setCell (p := ⟨g, 6, none⟩) (Nat.le_refl _) (Nat.lt_succ_self _) _))⟩
      | some y =>
        rw [ho] at hu hj
        have hu' : e = _ := hu
        subst hu'
        refine ⟨_, rfl, ?_⟩
        simp +contextual (maxSteps := 2000000) (disch := (first | omega | (simp only [SZ]; done) | (simp only [SZ]; omega) | (simp only [TS] at *; omega))) only [RZ, gval, gslot, fillL, ovw, numb, catL, ldN, agL, okC, oneC, init, Nat.reduceAdd, Nat.reduceMul, Nat.reduceSub, Nat.reduceEqDiff, Nat.reduceLT, ↓reduceIte, Int.reduceToNat, Int.reduceAdd, Int.reduceSub, Int.reduceMul, Int.reduceLT, Int.reduceLE, Int.reduceEq, Nat.reduceLeDiff,  e0, e2, e4, e15, e16, c6, z6]
        refine W_if_f rfl ?_
        simp +contextual (maxSteps := 2000000) (disch := (first | omega | (simp only [SZ]; done) | (simp only [SZ]; omega) | (simp only [TS] at *; omega))) only [RZ, gval, gslot, fillL, ovw, numb, catL, ldN, agL, okC, oneC, init, Nat.reduceAdd, Nat.reduceMul, Nat.reduceSub, Nat.reduceEqDiff, Nat.reduceLT, ↓reduceIte, Int.reduceToNat, Int.reduceAdd, Int.reduceSub, Int.reduceMul, Int.reduceLT, Int.reduceLE, Int.reduceEq, Nat.reduceLeDiff,  e0, e2, e4, e15, e16, c6, z6]
        refine fin _ { c' with text := toBA y } ⟨#[]⟩ v _ (hO3.setCell (p := ⟨g, 6, none⟩) (Nat.le_refl _) (Nat.lt_succ_self _) _) (by decide) (hR3.set_ (i := 6) (by simp [cmV]) _) (hN3.only ((Only.refl g (g + 1) w3).setCell (p := ⟨g, 6, none⟩) (Nat.le_refl _) (Nat.lt_succ_self _) _) (by omega)) hj ?_
        simp +contextual (maxSteps := 2000000) (disch := (first | omega | (simp only [SZ]; done) | (simp only [SZ]; omega) | (simp only [TS] at *; omega))) only [RZ, gval, gslot, fillL, ovw, numb, catL, ldN, agL, okC, oneC, init, Nat.reduceAdd, Nat.reduceMul, Nat.reduceSub, Nat.reduceEqDiff, Nat.reduceLT, ↓reduceIte, Int.reduceToNat, Int.reduceAdd, Int.reduceSub, Int.reduceMul, Int.reduceLT, Int.reduceLE, Int.reduceEq, Nat.reduceLeDiff,  e0, e2, e4, e15, e16]
    have hx116 : ¬ x = 116 := by omega
    rw [if_neg hx116] at hj
    clear hc
    simp +contextual (maxSteps := 2000000) (disch := (first | omega | (simp only [SZ]; done) | (simp only [SZ]; omega) | (simp only [TS] at *; omega))) only [RZ, gval, gslot, fillL, ovw, numb, catL, ldN, agL, okC, oneC, init, Nat.reduceAdd, Nat.reduceMul, Nat.reduceSub, Nat.reduceEqDiff, Nat.reduceLT, ↓reduceIte, Int.reduceToNat, Int.reduceAdd, Int.reduceSub, Int.reduceMul, Int.reduceLT, Int.reduceLE, Int.reduceEq, Nat.reduceLeDiff,  e0, e2, e4, e15, e16, d2, d3, hbx]
    (refine W_if rfl (fun hc => ?_) (fun hc => ?_) <;> (try simp only [TS] at hc))
    · have hx108 : x = 108 := by omega
      rw [if_pos hx108] at hj
      clear hc
      simp +contextual (maxSteps := 2000000) (disch := (first | omega | (simp only [SZ]; done) | (simp only [SZ]; omega) | (simp only [TS] at *; omega))) only [RZ, gval, gslot, fillL, ovw, numb, catL, ldN, agL, okC, oneC, init, Nat.reduceAdd, Nat.reduceMul, Nat.reduceSub, Nat.reduceEqDiff, Nat.reduceLT, ↓reduceIte, Int.reduceToNat, Int.reduceAdd, Int.reduceSub, Int.reduceMul, Int.reduceLT, Int.reduceLE, Int.reduceEq, Nat.reduceLeDiff,  e0, e2, e4, e15, e16, d2, d3]
      refine (parseNums_any t f.nums w2 ht hnr ((bs t).length + 1) (by rw [bs_len]; omega)).mono ?_
      rintro e w3 ⟨hb3, hu⟩
      have hR3 := hR2.below hb3
      have c7 := hR3.cell (i := 7) rfl
      have z7 := hR3.frozen 7
      have hO3 := hO.then_below (hb3.mono hs2)
      cases ho : numsF ((bs t).length + 1) f.nums 0 (bs t) with
      | none =>
        rw [ho] at hu hj
        have hu' : e = _ := hu
        subst hu'
        refine ⟨_, rfl, ?_⟩
        simp +contextual (maxSteps := 2000000) (disch := (first | omega | (simp only [SZ]; done) | (simp only [SZ]; omega) | (simp only [TS] at *; omega))) only [RZ, gval, gslot, fillL, ovw, numb, catL, ldN, agL, okC, oneC, init, Nat.reduceAdd, Nat.reduceMul, Nat.reduceSub, Nat.reduceEqDiff, Nat.reduceLT, ↓reduceIte, Int.reduceToNat, Int.reduceAdd, Int.reduceSub, Int.reduceMul, Int.reduceLT, Int.reduceLE, Int.reduceEq, Nat.reduceLeDiff,  e0, e2, e4, e15, e16, c7, z7]
        refine W_if_t rfl ?_
        simp +contextual (maxSteps := 2000000) (disch := (first | omega | (simp only [SZ]; done) | (simp only [SZ]; omega) | (simp only [TS] at *; omega))) only [RZ, gval, gslot, fillL, ovw, numb, catL, ldN, agL, okC, oneC, init, Nat.reduceAdd, Nat.reduceMul, Nat.reduceSub, Nat.reduceEqDiff, Nat.reduceLT, ↓reduceIte, Int.reduceToNat, Int.reduceAdd, Int.reduceSub, Int.reduceMul, Int.reduceLT, Int.reduceLE, Int.reduceEq, Nat.reduceLeDiff,  e0, e2, e4, e15, e16, c7, z7]
        rw [← hj]
        exact ⟨rfl, (hO1.trans (hO3.setCell (p := ⟨g, 7, none⟩) (Nat.le_refl _) (Nat.lt_succ_self _) _))⟩
      | some p =>
        obtain ⟨ns, r⟩ := p
        rw [ho] at hu hj
        obtain ⟨v', rfl, hN3⟩ := hu
        have hN3 := hN3.mono (base' := w.heap.size) (by omega)
        obtain ⟨A, cc, rfl, how⟩ := hN3
        have hN3 : NumIn w.heap.size w3 (.slice A ns.length cc) ns := ⟨A, cc, rfl, how⟩
        have hrl : r.length ≤ t.size := by have := (numsF_ok _ _ _ _ _ _ ho).2; rw [bs_len] at this; omega
        have hrb : ∀ c ∈ r, c < 256 := numsF_lt _ _ _ _ _ _ (bs_lt t) ho
        refine ⟨_, rfl, ?_⟩
        simp +contextual (maxSteps := 2000000) (disch := (first | omega | (simp only [SZ]; done) | (simp only [SZ]; omega) | (simp only [TS] at *; omega))) only [RZ, gval, gslot, fillL, ovw, numb, catL, ldN, agL, okC, oneC, init, Nat.reduceAdd, Nat.reduceMul, Nat.reduceSub, Nat.reduceEqDiff, Nat.reduceLT, ↓reduceIte, Int.reduceToNat, Int.reduceAdd, Int.reduceSub, Int.reduceMul, Int.reduceLT, Int.reduceLE, Int.reduceEq, Nat.reduceLeDiff,  e0, e2, e4, e15, e16, c7, z7]
        refine W_if_f rfl ?_
        simp +contextual (maxSteps := 2000000) (disch := (first | omega | (simp only [SZ]; done) | (simp only [SZ]; omega) | (simp only [TS] at *; omega))) only [RZ, gval, gslot, fillL, ovw, numb, catL, ldN, agL, okC, oneC, init, Nat.reduceAdd, Nat.reduceMul, Nat.reduceSub, Nat.reduceEqDiff, Nat.reduceLT, ↓reduceIte, Int.reduceToNat, Int.reduceAdd, Int.reduceSub, Int.reduceMul, Int.reduceLT, Int.reduceLE, Int.reduceEq, Nat.reduceLeDiff,  e0, e2, e4, e15, e16, c7, z7]
        refine fin _ { c' with nums := ns } (toBA r) (.slice A ns.length cc) _ (hO3.setCell (p := ⟨g, 7, none⟩) (Nat.le_refl _) (Nat.lt_succ_self _) _) (by rw [toBA_size]; omega) (hR3.set_ (i := 7) (by simp [cmV]) _) (hN3.only ((Only.refl g (g + 1) w3).setCell (p := ⟨g, 7, none⟩) (Nat.le_refl _) (Nat.lt_succ_self _) _) (by omega)) (by rw [bs_toBA hrb]; exact hj) ?_
        simp +contextual (maxSteps := 2000000) (disch := (first | omega | (simp only [SZ]; done) | (simp only [SZ]; omega) | (simp only [TS] at *; omega))) only [RZ, gval, gslot, fillL, ovw, numb, catL, ldN, agL, okC, oneC, init, Nat.reduceAdd, Nat.reduceMul, Nat.reduceSub, Nat.reduceEqDiff, Nat.reduceLT, ↓reduceIte, Int.reduceToNat, Int.reduceAdd, Int.reduceSub, Int.reduceMul, Int.reduceLT, Int.reduceLE, Int.reduceEq, Nat.reduceLeDiff,  e0, e2, e4, e15, e16]
    have hx108 : ¬ x = 108 := by omega
    rw [if_neg hx108] at hj
    clear hc
    simp +contextual (maxSteps := 2000000) (disch := (first | omega | (simp only [SZ]; done) | (simp only [SZ]; omega) | (simp only [TS] at *; omega))) only [RZ, gval, gslot, fillL, ovw, numb, catL, ldN, agL, okC, oneC, init, Nat.reduceAdd, Nat.reduceMul, Nat.reduceSub, Nat.reduceEqDiff, Nat.reduceLT, ↓reduceIte, Int.reduceToNat, Int.reduceAdd, Int.reduceSub, Int.reduceMul, Int.reduceLT, Int.reduceLE, Int.reduceEq, Nat.reduceLeDiff,  e0, e2, e4, e15, e16, d2, d3, hbx]
    refine (cut_any t w2 (by omega)).mono ?_
    rintro e w3 ⟨rfl, hb3⟩
    refine ⟨_, rfl, ?_⟩
    have hR3 := hR2.below hb3
    have hN3 := hN2.below hb3
    have hO3 := hO.then_below (hb3.mono hs2)
    unfold cutV
    cases hcut : cutS (bs t) with
    | none =>
      rw [hcut] at hj
      simp +contextual (maxSteps := 2000000) (disch := (first | omega | (simp only [SZ]; done) | (simp only [SZ]; omega) | (simp only [TS] at *; omega))) only [RZ, gval, gslot, fillL, ovw, numb, catL, ldN, agL, okC, oneC, init, Nat.reduceAdd, Nat.reduceMul, Nat.reduceSub, Nat.reduceEqDiff, Nat.reduceLT, ↓reduceIte, Int.reduceToNat, Int.reduceAdd, Int.reduceSub, Int.reduceMul, Int.reduceLT, Int.reduceLE, Int.reduceEq, Nat.reduceLeDiff,  e0, e2, e4, e15, e16]
      refine W_if_t rfl ?_
      simp +contextual (maxSteps := 2000000) (disch := (first | omega | (simp only [SZ]; done) | (simp only [SZ]; omega) | (simp only [TS] at *; omega))) only [RZ, gval, gslot, fillL, ovw, numb, catL, ldN, agL, okC, oneC, init, Nat.reduceAdd, Nat.reduceMul, Nat.reduceSub, Nat.reduceEqDiff, Nat.reduceLT, ↓reduceIte, Int.reduceToNat, Int.reduceAdd, Int.reduceSub, Int.reduceMul, Int.reduceLT, Int.reduceLE, Int.reduceEq, Nat.reduceLeDiff,  e0, e2, e4, e15, e16]
      rw [← hj]
      exact ⟨rfl, hO1.trans hO3⟩
    | some p =>
      obtain ⟨tk, r⟩ := p
      obtain ⟨hl1, hl2⟩ := cutS_lt (bs_lt t) hcut
      have hlen := cutS_len hcut
      rw [bs_len] at hlen
      have z1 := toBA_size tk
      have z2 := toBA_size r
      have b1 := bs_toBA hl1
      have b2 := bs_toBA hl2
      rw [hcut] at hj
      simp only at hj
      rw [← b1, ← b2] at hj
      simp +contextual (maxSteps := 2000000) (disch := (first | omega | (simp only [SZ]; done) | (simp only [SZ]; omega) | (simp only [TS] at *; omega))) only [RZ, gval, gslot, fillL, ovw, numb, catL, ldN, agL, okC, oneC, init, Nat.reduceAdd, Nat.reduceMul, Nat.reduceSub, Nat.reduceEqDiff, Nat.reduceLT, ↓reduceIte, Int.reduceToNat, Int.reduceAdd, Int.reduceSub, Int.reduceMul, Int.reduceLT, Int.reduceLE, Int.reduceEq, Nat.reduceLeDiff,  e0, e2, e4, e15, e16]
      generalize toBA tk = tb at *
      generalize toBA r = rb at *
      refine (parseField_any g x c' v tb w3 hR3 (by omega)).mono ?_
      rintro e w4 ⟨hu, hO4⟩
      cases ho : fieldS c' x (bs tb) with
      | none =>
        rw [ho] at hu hj
        have hu' : e = _ := hu
        subst hu'
        refine ⟨_, rfl, ?_⟩
        simp +contextual (maxSteps := 2000000) (disch := (first | omega | (simp only [SZ]; done) | (simp only [SZ]; omega) | (simp only [TS] at *; omega))) only [RZ, gval, gslot, fillL, ovw, numb, catL, ldN, agL, okC, oneC, init, Nat.reduceAdd, Nat.reduceMul, Nat.reduceSub, Nat.reduceEqDiff, Nat.reduceLT, ↓reduceIte, Int.reduceToNat, Int.reduceAdd, Int.reduceSub, Int.reduceMul, Int.reduceLT, Int.reduceLE, Int.reduceEq, Nat.reduceLeDiff,  e0, e2, e4, e15, e16]
        refine W_if_t rfl ?_
        simp +contextual (maxSteps := 2000000) (disch := (first | omega | (simp only [SZ]; done) | (simp only [SZ]; omega) | (simp only [TS] at *; omega))) only [RZ, gval, gslot, fillL, ovw, numb, catL, ldN, agL, okC, oneC, init, Nat.reduceAdd, Nat.reduceMul, Nat.reduceSub, Nat.reduceEqDiff, Nat.reduceLT, ↓reduceIte, Int.reduceToNat, Int.reduceAdd, Int.reduceSub, Int.reduceMul, Int.reduceLT, Int.reduceLE, Int.reduceEq, Nat.reduceLeDiff,  e0, e2, e4, e15, e16]
        rw [← hj]
        exact ⟨rfl, (hO1.trans hO3).trans hO4⟩
      | some c4 =>
        rw [ho] at hu hj
        obtain ⟨rfl, hR4⟩ := hu
        refine ⟨_, rfl, ?_⟩
        simp +contextual (maxSteps := 2000000) (disch := (first | omega | (simp only [SZ]; done) | (simp only [SZ]; omega) | (simp only [TS] at *; omega))) only [RZ, gval, gslot, fillL, ovw, numb, catL, ldN, agL, okC, oneC, init, Nat.reduceAdd, Nat.reduceMul, Nat.reduceSub, Nat.reduceEqDiff, Nat.reduceLT, ↓reduceIte, Int.reduceToNat, Int.reduceAdd, Int.reduceSub, Int.reduceMul, Int.reduceLT, Int.reduceLE, Int.reduceEq, Nat.reduceLeDiff,  e0, e2, e4, e15, e16]
        refine W_if_f rfl ?_
        simp +contextual (maxSteps := 2000000) (disch := (first | omega | (simp only [SZ]; done) | (simp only [SZ]; omega) | (simp only [TS] at *; omega))) only [RZ, gval, gslot, fillL, ovw, numb, catL, ldN, agL, okC, oneC, init, Nat.reduceAdd, Nat.reduceMul, Nat.reduceSub, Nat.reduceEqDiff, Nat.reduceLT, ↓reduceIte, Int.reduceToNat, Int.reduceAdd, Int.reduceSub, Int.reduceMul, Int.reduceLT, Int.reduceLE, Int.reduceEq, Nat.reduceLeDiff,  e0, e2, e4, e15, e16]
        refine fin _ c4 rb v _ (hO3.trans hO4) (by omega) hR4 (by rw [fieldS_nums ho]; exact hN3.only hO4 (by omega)) hj ?_
        simp +contextual (maxSteps := 2000000) (disch := (first | omega | (simp only [SZ]; done) | (simp only [SZ]; omega) | (simp only [TS] at *; omega))) only [RZ, gval, gslot, fillL, ovw, numb, catL, ldN, agL, okC, oneC, init, Nat.reduceAdd, Nat.reduceMul, Nat.reduceSub, Nat.reduceEqDiff, Nat.reduceLT, ↓reduceIte, Int.reduceToNat, Int.reduceAdd, Int.reduceSub, Int.reduceMul, Int.reduceLT, Int.reduceLE, Int.reduceEq, Nat.reduceLeDiff,  e0, e2, e4, e15, e16]
  · have hie : i = f.fields.length := by omega
    subst hie
    rw [List.drop_length, fieldsS] at hj
    simp +contextual (maxSteps := 2000000) (disch := (first | omega | (simp only [SZ]; done) | (simp only [SZ]; omega) | (simp only [TS] at *; omega))) only [RZ, gval, gslot, fillL, ovw, numb, catL, ldN, agL, okC, oneC, init, Nat.reduceAdd, Nat.reduceMul, Nat.reduceSub, Nat.reduceEqDiff, Nat.reduceLT, ↓reduceIte, Int.reduceToNat, Int.reduceAdd, Int.reduceSub, Int.reduceMul, Int.reduceLT, Int.reduceLE, Int.reduceEq, Nat.reduceLeDiff,  e0, e2, e4, e15, e16]
    refine ⟨?_, hO1.trans hO⟩
    rw [← hj]
    by_cases hn : bs t = []
    · rw [if_pos hn]
      exact ⟨by rw [decide_eq_true (emp_bs.2 hn)], v, hR2, hN2⟩
    · rw [if_neg hn]
      rw [decide_eq_false (fun h => hn (emp_bs.1 h))]
      exact rfl
end Go.Proofs.YtjaeiiiniohloaaDoor
/- Walks: strings.Cut at one byte. -/
namespace Go.Proofs.YtjaeiiiniohloaaDoor
open Go.RowKit
set_option maxRecDepth 100000
def scV (q : Nat → Bool) (l : List Nat) : Value := .tuple #[.string (toBA (l.takeWhile q)), .string (toBA ((l.dropWhile q).drop 1)), .bool (decide (l.dropWhile q ≠ []))]
theorem lcut_any (u : UInt8) (q : Nat → Bool) (hq : ∀ x, q x = false ↔ x = u.toNat) (s : ByteArray) (w : World) (hs : s.size ≤ 1000000000) : Calls Tryd.prog 47 #[.string s, .string ⟨#[u]⟩] w fun e w' => e = .returned (scV q (bs s)) ∧ Below w.heap.size w w' := by
  refine calls_W (l := [_, _]) Tryd.func47 rfl _ Tryd.ntmps47 (by simp) ?_
  simp +contextual (maxSteps := 2000000) (disch := (first | omega | (simp only [SZ]; done) | (simp only [SZ]; omega) | (simp only [TS] at *; omega))) only [RZ, gval, gslot, fillL, ovw, numb, catL, ldN, agL, okC, oneC, init, Nat.reduceAdd, Nat.reduceMul, Nat.reduceSub, Nat.reduceEqDiff, Nat.reduceLT, ↓reduceIte, Int.reduceToNat, Int.reduceAdd, Int.reduceSub, Int.reduceMul, Int.reduceLT, Int.reduceLE, Int.reduceEq, Nat.reduceLeDiff]
  refine (Tryd.stringslite_Index_one s u w).mono ?_
  rintro e w1 ⟨rfl, rfl⟩
  refine ⟨_, rfl, ?_⟩
  have hu : ((u.toNat : Int).toNat.toUInt8) = u := by rw [Int.toNat_natCast]; simp
  have hx := idx_bs s u.toNat u.toNat_lt q hq
  rw [hu] at hx
  unfold scV
  have hz : (⟨#[u]⟩ : ByteArray).size = 1 := rfl
  rcases hx with ⟨g1, g2, g3⟩ | ⟨i, hi, _, g1, g2, g3⟩
  · rw [g2, g3, toBA_bs]
    simp +contextual (maxSteps := 2000000) (disch := (first | omega | (simp only [SZ]; done) | (simp only [SZ]; omega) | (simp only [TS] at *; omega))) only [RZ, gval, gslot, fillL, ovw, numb, catL, ldN, agL, okC, oneC, init, Nat.reduceAdd, Nat.reduceMul, Nat.reduceSub, Nat.reduceEqDiff, Nat.reduceLT, ↓reduceIte, Int.reduceToNat, Int.reduceAdd, Int.reduceSub, Int.reduceMul, Int.reduceLT, Int.reduceLE, Int.reduceEq, Nat.reduceLeDiff,  g1]
    refine W_if_f rfl ?_
    simp +contextual (maxSteps := 2000000) (disch := (first | omega | (simp only [SZ]; done) | (simp only [SZ]; omega) | (simp only [TS] at *; omega))) only [RZ, gval, gslot, fillL, ovw, numb, catL, ldN, agL, okC, oneC, init, Nat.reduceAdd, Nat.reduceMul, Nat.reduceSub, Nat.reduceEqDiff, Nat.reduceLT, ↓reduceIte, Int.reduceToNat, Int.reduceAdd, Int.reduceSub, Int.reduceMul, Int.reduceLT, Int.reduceLE, Int.reduceEq, Nat.reduceLeDiff]
    exact ⟨rfl, Below.refl _ _⟩
  · rw [g2, g3, toBA_bs]
    have hne : bs (s.extract i s.size) ≠ [] := fun e => by
      have := congrArg List.length e
      rw [bs_len, ByteArray.size_extract, List.length_nil] at this
      omega
    have hd : (bs (s.extract i s.size)).drop 1 = bs (s.extract (i + 1) s.size) := by
      rw [bs_extract, bs_extract, List.take_of_length_le (by rw [List.length_drop, bs_len]; omega), List.take_of_length_le (by rw [List.length_drop, bs_len]; omega), List.drop_drop]
    rw [hd, toBA_bs, decide_eq_true hne]
    have hti : ((i : Int) + (((0 : Nat) : Int) + 1)).toNat = i + 1 := by omega
    simp +contextual (maxSteps := 2000000) (disch := (first | omega | (simp only [SZ]; done) | (simp only [SZ]; omega) | (simp only [TS] at *; omega))) only [RZ, gval, gslot, fillL, ovw, numb, catL, ldN, agL, okC, oneC, init, Nat.reduceAdd, Nat.reduceMul, Nat.reduceSub, Nat.reduceEqDiff, Nat.reduceLT, ↓reduceIte, Int.reduceToNat, Int.reduceAdd, Int.reduceSub, Int.reduceMul, Int.reduceLT, Int.reduceLE, Int.reduceEq, Nat.reduceLeDiff,  g1]
    (refine W_if rfl (fun hc => ?_) (fun hc => ?_) <;> (try simp only [TS] at hc))
    · simp +contextual (maxSteps := 2000000) (disch := (first | omega | (simp only [SZ]; done) | (simp only [SZ]; omega) | (simp only [TS] at *; omega))) only [RZ, gval, gslot, fillL, ovw, numb, catL, ldN, agL, okC, oneC, init, Nat.reduceAdd, Nat.reduceMul, Nat.reduceSub, Nat.reduceEqDiff, Nat.reduceLT, ↓reduceIte, Int.reduceToNat, Int.reduceAdd, Int.reduceSub, Int.reduceMul, Int.reduceLT, Int.reduceLE, Int.reduceEq, Nat.reduceLeDiff]
      refine Raw_still MX (by kernel_rfl) ?_
      simp +contextual (maxSteps := 2000000) (disch := (first | omega | (simp only [SZ]; done) | (simp only [SZ]; omega) | (simp only [TS] at *; omega))) only [RZ, gval, gslot, fillL, ovw, numb, catL, ldN, agL, okC, oneC, init, Nat.reduceAdd, Nat.reduceMul, Nat.reduceSub, Nat.reduceEqDiff, Nat.reduceLT, ↓reduceIte, Int.reduceToNat, Int.reduceAdd, Int.reduceSub, Int.reduceMul, Int.reduceLT, Int.reduceLE, Int.reduceEq, Nat.reduceLeDiff,  hz, hti]
      exact (Below.refl _ _).drew
    · omega
theorem scut_any (u : UInt8) (q : Nat → Bool) (hq : ∀ x, q x = false ↔ x = u.toNat) (s : ByteArray) (w : World) (hs : s.size ≤ 1000000000) : Calls Tryd.prog 35 #[.string s, .string ⟨#[u]⟩] w fun e w' => e = .returned (scV q (bs s)) ∧ Below w.heap.size w w' := by
  refine calls_W (l := [_, _]) Tryd.func35 rfl _ Tryd.ntmps35 (by simp) ?_
  simp +contextual (maxSteps := 2000000) (disch := (first | omega | (simp only [SZ]; done) | (simp only [SZ]; omega) | (simp only [TS] at *; omega))) only [RZ, gval, gslot, fillL, ovw, numb, catL, ldN, agL, okC, oneC, init, Nat.reduceAdd, Nat.reduceMul, Nat.reduceSub, Nat.reduceEqDiff, Nat.reduceLT, ↓reduceIte, Int.reduceToNat, Int.reduceAdd, Int.reduceSub, Int.reduceMul, Int.reduceLT, Int.reduceLE, Int.reduceEq, Nat.reduceLeDiff]
  refine (lcut_any u q hq s w hs).mono ?_
  rintro e w1 ⟨rfl, hb⟩
  refine ⟨_, rfl, ?_⟩
  unfold scV
  simp +contextual (maxSteps := 2000000) (disch := (first | omega | (simp only [SZ]; done) | (simp only [SZ]; omega) | (simp only [TS] at *; omega))) only [RZ, gval, gslot, fillL, ovw, numb, catL, ldN, agL, okC, oneC, init, Nat.reduceAdd, Nat.reduceMul, Nat.reduceSub, Nat.reduceEqDiff, Nat.reduceLT, ↓reduceIte, Int.reduceToNat, Int.reduceAdd, Int.reduceSub, Int.reduceMul, Int.reduceLT, Int.reduceLE, Int.reduceEq, Nat.reduceLeDiff]
  exact hb
end Go.Proofs.YtjaeiiiniohloaaDoor
