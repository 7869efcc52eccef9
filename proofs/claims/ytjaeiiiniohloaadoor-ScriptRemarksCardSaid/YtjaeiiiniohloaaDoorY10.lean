/- Texts laid one behind the other: ScrE, PrC, PrD. Each says at its head what it proves. -/
import Derived.Test.YtjaeiiiniohloaaDoorY09
set_option linter.unusedSimpArgs false
/- Walks: the reference's zero and Check. -/
namespace Go.Proofs.YtjaeiiiniohloaaDoor
open Go.RowKit
set_option maxRecDepth 100000
theorem rz_bad {fl : List Nat} {c : Cm} (h : (fl.contains 87 = false ∧ ¬ c.who = 0) ∨ (fl.contains 65 = false ∧ ¬ c.a = 0) ∨ (fl.contains 66 = false ∧ ¬ c.b = 0) ∨ (fl.contains 78 = false ∧ ¬ c.name = ⟨#[]⟩) ∨ (fl.contains 84 = false ∧ ¬ c.text = ⟨#[]⟩) ∨
    (fl.contains 75 = false ∧ ¬ c.key = 0) ∨ (fl.contains 79 = false ∧ ¬ c.nonce = 0)) : rzeroB fl c = false := by
  cases hz : rzeroB fl c with
  | false => rfl
  | true =>
    unfold rzeroB at hz
    simp only [Bool.and_eq_true] at hz
    obtain ⟨⟨⟨⟨⟨⟨⟨a1, a2⟩, a3⟩, a4⟩, a5⟩, a6⟩, a7⟩, _⟩ := hz
    simp only [Bool.or_eq_true, beq_iff_eq, decide_eq_true_eq, bs_nil_iff] at a1 a2 a3 a4 a5 a6 a7
    exfalso
    rcases h with ⟨x, y⟩ | ⟨x, y⟩ | ⟨x, y⟩ | ⟨x, y⟩ | ⟨x, y⟩ | ⟨x, y⟩ | ⟨x, y⟩
    · exact no2 a1 x y
    · exact no2 a2 x y
    · exact no2 a3 x y
    · exact no2 a4 x y
    · exact no2 a5 x y
    · exact no2 a6 x y
    · exact no2 a7 x y
theorem rz_good {fl : List Nat} {c : Cm} (h1 : fl.contains 87 = true ∨ c.who = 0) (h2 : fl.contains 65 = true ∨ c.a = 0) (h3 : fl.contains 66 = true ∨ c.b = 0) (h4 : fl.contains 78 = true ∨ c.name = ⟨#[]⟩) (h5 : fl.contains 84 = true ∨ c.text = ⟨#[]⟩)
    (h6 : fl.contains 75 = true ∨ c.key = 0) (h7 : fl.contains 79 = true ∨ c.nonce = 0) : rzeroB fl c = if fl.contains 76 = true then true else if fl.contains 53 = true then decide (c.nums.length = 5) else if fl.contains 51 = true then decide (c.nums.length = 3) else decide (c.nums.length = 0) := by
  have t : ∀ {b : Bool} {p : Prop} [Decidable p], (b = true ∨ p) → (b || decide p) = true := fun {b p _} h => by simpa using h
  unfold rzeroB
  have e4 : (fl.contains 78 || decide (bs c.name = [])) = true := t (h4.imp id fun h => bs_nil_iff.2 h)
  have e5 : (fl.contains 84 || decide (bs c.text = [])) = true := t (h5.imp id fun h => bs_nil_iff.2 h)
  have u : ∀ {b : Bool} {x : Int}, (b = true ∨ x = 0) → (b || x == 0) = true := fun {b x} h => by simpa using h
  rw [u h1, u h2, u h3, e4, e5, u h6, u h7]
  rfl
set_option maxHeartbeats 2000000 in
theorem zero_any (s : ByteArray) (hs : s.size ≤ 100) (c : Cm) (A : Option Addr) (cp : Nat) (w : World) (_h1 : c.name.size ≤ 1000000000) (_h2 : c.text.size ≤ 1000000000) (_h3 : c.nums.length ≤ 1000000000) :
    Calls Tryd.prog 25 #[.string s, .agg (cmV c (.slice A c.nums.length cp)).toArray] w fun e w' => e = .returned (.bool (rzeroB (bs s) c)) ∧ Below w.heap.size w w' := by
  refine calls_W (l := [_, _]) Tryd.func25 rfl _ Tryd.ntmps25 (by simp) ?_
  simp +contextual (maxSteps := 2000000) (disch := (first | omega | (simp only [SZ]; done) | (simp only [SZ]; omega) | (simp only [TS] at *; omega))) only [RZ, gval, gslot, fillL, ovw, numb, catL, ldN, agL, okC, oneC, init, Nat.reduceAdd, Nat.reduceMul, Nat.reduceSub, Nat.reduceEqDiff, Nat.reduceLT, ↓reduceIte, Int.reduceToNat, Int.reduceAdd, Int.reduceSub, Int.reduceMul, Int.reduceLT, Int.reduceLE, Int.reduceEq, Nat.reduceLeDiff,  cmV]
  have hb := below_alloc w (.cells (cmV c (.slice A c.nums.length cp)).toArray 25)
  have hc0 := heap_alloc_new w (.cells (cmV c (.slice A c.nums.length cp)).toArray 25)
  unfold cmV at hb hc0
  generalize w.alloc _ = w2 at *
  have c2 := Lib.cell_of_heap hc0 2
  have c3 := Lib.cell_of_heap hc0 3
  have c4 := Lib.cell_of_heap hc0 4
  have c5 := Lib.cell_of_heap hc0 5
  have c6 := Lib.cell_of_heap hc0 6
  have c7 := Lib.cell_of_heap hc0 7
  have c8 := Lib.cell_of_heap hc0 8
  have c9 := Lib.cell_of_heap hc0 9
  clear hc0
  have hu : ∀ c : Nat, c < 256 → Calls Tryd.prog 26 #[.string s, .int .u8 c] w2 fun e w' => e = .returned (.bool ((bs s).contains c)) ∧ w2 = w' := fun c _ => uses_any s c w2 (by omega)
  refine (hu 87 (by decide)).mono ?_
  rintro e w3 ⟨rfl, rfl⟩
  refine ⟨_, rfl, ?_⟩
  simp +contextual (maxSteps := 2000000) (disch := (first | omega | (simp only [SZ]; done) | (simp only [SZ]; omega) | (simp only [TS] at *; omega))) only [RZ, gval, gslot, fillL, ovw, numb, catL, ldN, agL, okC, oneC, init, Nat.reduceAdd, Nat.reduceMul, Nat.reduceSub, Nat.reduceEqDiff, Nat.reduceLT, ↓reduceIte, Int.reduceToNat, Int.reduceAdd, Int.reduceSub, Int.reduceMul, Int.reduceLT, Int.reduceLE, Int.reduceEq, Nat.reduceLeDiff,  c2]
  refine GB_call (fun _ => hu 65 (by decide)) ?_
  simp +contextual (maxSteps := 2000000) (disch := (first | omega | (simp only [SZ]; done) | (simp only [SZ]; omega) | (simp only [TS] at *; omega))) only [RZ, gval, gslot, fillL, ovw, numb, catL, ldN, agL, okC, oneC, init, Nat.reduceAdd, Nat.reduceMul, Nat.reduceSub, Nat.reduceEqDiff, Nat.reduceLT, ↓reduceIte, Int.reduceToNat, Int.reduceAdd, Int.reduceSub, Int.reduceMul, Int.reduceLT, Int.reduceLE, Int.reduceEq, Nat.reduceLeDiff,  c3]
  refine GB_call (fun _ => hu 66 (by decide)) ?_
  simp +contextual (maxSteps := 2000000) (disch := (first | omega | (simp only [SZ]; done) | (simp only [SZ]; omega) | (simp only [TS] at *; omega))) only [RZ, gval, gslot, fillL, ovw, numb, catL, ldN, agL, okC, oneC, init, Nat.reduceAdd, Nat.reduceMul, Nat.reduceSub, Nat.reduceEqDiff, Nat.reduceLT, ↓reduceIte, Int.reduceToNat, Int.reduceAdd, Int.reduceSub, Int.reduceMul, Int.reduceLT, Int.reduceLE, Int.reduceEq, Nat.reduceLeDiff,  c4]
  (refine W_if rfl (fun hc => ?_) (fun hc => ?_) <;> (try simp only [TS] at hc))
  · rw [rz_bad (hc.elim (fun h => h.elim .inl (fun h => .inr (.inl h))) (fun h => .inr (.inr (.inl h))))]
    simp +contextual (maxSteps := 2000000) (disch := (first | omega | (simp only [SZ]; done) | (simp only [SZ]; omega) | (simp only [TS] at *; omega))) only [RZ, gval, gslot, fillL, ovw, numb, catL, ldN, agL, okC, oneC, init, Nat.reduceAdd, Nat.reduceMul, Nat.reduceSub, Nat.reduceEqDiff, Nat.reduceLT, ↓reduceIte, Int.reduceToNat, Int.reduceAdd, Int.reduceSub, Int.reduceMul, Int.reduceLT, Int.reduceLE, Int.reduceEq, Nat.reduceLeDiff]
    exact hb
  have g1 := hc
  clear hc
  simp +contextual (maxSteps := 2000000) (disch := (first | omega | (simp only [SZ]; done) | (simp only [SZ]; omega) | (simp only [TS] at *; omega))) only [RZ, gval, gslot, fillL, ovw, numb, catL, ldN, agL, okC, oneC, init, Nat.reduceAdd, Nat.reduceMul, Nat.reduceSub, Nat.reduceEqDiff, Nat.reduceLT, ↓reduceIte, Int.reduceToNat, Int.reduceAdd, Int.reduceSub, Int.reduceMul, Int.reduceLT, Int.reduceLE, Int.reduceEq, Nat.reduceLeDiff]
  refine (hu 78 (by decide)).mono ?_
  rintro e w3 ⟨rfl, rfl⟩
  refine ⟨_, rfl, ?_⟩
  simp +contextual (maxSteps := 2000000) (disch := (first | omega | (simp only [SZ]; done) | (simp only [SZ]; omega) | (simp only [TS] at *; omega))) only [RZ, gval, gslot, fillL, ovw, numb, catL, ldN, agL, okC, oneC, init, Nat.reduceAdd, Nat.reduceMul, Nat.reduceSub, Nat.reduceEqDiff, Nat.reduceLT, ↓reduceIte, Int.reduceToNat, Int.reduceAdd, Int.reduceSub, Int.reduceMul, Int.reduceLT, Int.reduceLE, Int.reduceEq, Nat.reduceLeDiff,  c5]
  refine GB_call (fun _ => hu 84 (by decide)) ?_
  simp +contextual (maxSteps := 2000000) (disch := (first | omega | (simp only [SZ]; done) | (simp only [SZ]; omega) | (simp only [TS] at *; omega))) only [RZ, gval, gslot, fillL, ovw, numb, catL, ldN, agL, okC, oneC, init, Nat.reduceAdd, Nat.reduceMul, Nat.reduceSub, Nat.reduceEqDiff, Nat.reduceLT, ↓reduceIte, Int.reduceToNat, Int.reduceAdd, Int.reduceSub, Int.reduceMul, Int.reduceLT, Int.reduceLE, Int.reduceEq, Nat.reduceLeDiff,  c6]
  refine GB_call (fun _ => hu 75 (by decide)) ?_
  simp +contextual (maxSteps := 2000000) (disch := (first | omega | (simp only [SZ]; done) | (simp only [SZ]; omega) | (simp only [TS] at *; omega))) only [RZ, gval, gslot, fillL, ovw, numb, catL, ldN, agL, okC, oneC, init, Nat.reduceAdd, Nat.reduceMul, Nat.reduceSub, Nat.reduceEqDiff, Nat.reduceLT, ↓reduceIte, Int.reduceToNat, Int.reduceAdd, Int.reduceSub, Int.reduceMul, Int.reduceLT, Int.reduceLE, Int.reduceEq, Nat.reduceLeDiff,  c8]
  refine GB_call (fun _ => hu 79 (by decide)) ?_
  simp +contextual (maxSteps := 2000000) (disch := (first | omega | (simp only [SZ]; done) | (simp only [SZ]; omega) | (simp only [TS] at *; omega))) only [RZ, gval, gslot, fillL, ovw, numb, catL, ldN, agL, okC, oneC, init, Nat.reduceAdd, Nat.reduceMul, Nat.reduceSub, Nat.reduceEqDiff, Nat.reduceLT, ↓reduceIte, Int.reduceToNat, Int.reduceAdd, Int.reduceSub, Int.reduceMul, Int.reduceLT, Int.reduceLE, Int.reduceEq, Nat.reduceLeDiff,  c9]
  (refine W_if rfl (fun hc => ?_) (fun hc => ?_) <;> (try simp only [TS] at hc))
  · rw [rz_bad (.inr (.inr (.inr (hc.elim (fun h => h.elim (fun h => h.elim .inl (fun h => .inr (.inl h))) (fun h => .inr (.inr (.inl h)))) (fun h => .inr (.inr (.inr h)))))))]
    simp +contextual (maxSteps := 2000000) (disch := (first | omega | (simp only [SZ]; done) | (simp only [SZ]; omega) | (simp only [TS] at *; omega))) only [RZ, gval, gslot, fillL, ovw, numb, catL, ldN, agL, okC, oneC, init, Nat.reduceAdd, Nat.reduceMul, Nat.reduceSub, Nat.reduceEqDiff, Nat.reduceLT, ↓reduceIte, Int.reduceToNat, Int.reduceAdd, Int.reduceSub, Int.reduceMul, Int.reduceLT, Int.reduceLE, Int.reduceEq, Nat.reduceLeDiff]
    exact hb
  have g2 := hc
  clear hc
  rw [rz_good g1.1.1 g1.1.2 g1.2 g2.1.1.1 g2.1.1.2 g2.1.2 g2.2]
  simp +contextual (maxSteps := 2000000) (disch := (first | omega | (simp only [SZ]; done) | (simp only [SZ]; omega) | (simp only [TS] at *; omega))) only [RZ, gval, gslot, fillL, ovw, numb, catL, ldN, agL, okC, oneC, init, Nat.reduceAdd, Nat.reduceMul, Nat.reduceSub, Nat.reduceEqDiff, Nat.reduceLT, ↓reduceIte, Int.reduceToNat, Int.reduceAdd, Int.reduceSub, Int.reduceMul, Int.reduceLT, Int.reduceLE, Int.reduceEq, Nat.reduceLeDiff]
  refine (hu 76 (by decide)).mono ?_
  rintro e w3 ⟨rfl, rfl⟩
  refine ⟨_, rfl, ?_⟩
  simp +contextual (maxSteps := 2000000) (disch := (first | omega | (simp only [SZ]; done) | (simp only [SZ]; omega) | (simp only [TS] at *; omega))) only [RZ, gval, gslot, fillL, ovw, numb, catL, ldN, agL, okC, oneC, init, Nat.reduceAdd, Nat.reduceMul, Nat.reduceSub, Nat.reduceEqDiff, Nat.reduceLT, ↓reduceIte, Int.reduceToNat, Int.reduceAdd, Int.reduceSub, Int.reduceMul, Int.reduceLT, Int.reduceLE, Int.reduceEq, Nat.reduceLeDiff]
  (refine W_if rfl (fun hc => ?_) (fun hc => ?_) <;> (try simp only [TS] at hc))
  · rw [if_pos hc]
    simp +contextual (maxSteps := 2000000) (disch := (first | omega | (simp only [SZ]; done) | (simp only [SZ]; omega) | (simp only [TS] at *; omega))) only [RZ, gval, gslot, fillL, ovw, numb, catL, ldN, agL, okC, oneC, init, Nat.reduceAdd, Nat.reduceMul, Nat.reduceSub, Nat.reduceEqDiff, Nat.reduceLT, ↓reduceIte, Int.reduceToNat, Int.reduceAdd, Int.reduceSub, Int.reduceMul, Int.reduceLT, Int.reduceLE, Int.reduceEq, Nat.reduceLeDiff]
    exact hb
  rw [if_neg (by rw [hc]; decide)]
  clear hc
  simp +contextual (maxSteps := 2000000) (disch := (first | omega | (simp only [SZ]; done) | (simp only [SZ]; omega) | (simp only [TS] at *; omega))) only [RZ, gval, gslot, fillL, ovw, numb, catL, ldN, agL, okC, oneC, init, Nat.reduceAdd, Nat.reduceMul, Nat.reduceSub, Nat.reduceEqDiff, Nat.reduceLT, ↓reduceIte, Int.reduceToNat, Int.reduceAdd, Int.reduceSub, Int.reduceMul, Int.reduceLT, Int.reduceLE, Int.reduceEq, Nat.reduceLeDiff]
  refine (hu 53 (by decide)).mono ?_
  rintro e w3 ⟨rfl, rfl⟩
  refine ⟨_, rfl, ?_⟩
  simp +contextual (maxSteps := 2000000) (disch := (first | omega | (simp only [SZ]; done) | (simp only [SZ]; omega) | (simp only [TS] at *; omega))) only [RZ, gval, gslot, fillL, ovw, numb, catL, ldN, agL, okC, oneC, init, Nat.reduceAdd, Nat.reduceMul, Nat.reduceSub, Nat.reduceEqDiff, Nat.reduceLT, ↓reduceIte, Int.reduceToNat, Int.reduceAdd, Int.reduceSub, Int.reduceMul, Int.reduceLT, Int.reduceLE, Int.reduceEq, Nat.reduceLeDiff]
  (refine W_if rfl (fun hc => ?_) (fun hc => ?_) <;> (try simp only [TS] at hc))
  · rw [if_pos hc]
    simp +contextual (maxSteps := 2000000) (disch := (first | omega | (simp only [SZ]; done) | (simp only [SZ]; omega) | (simp only [TS] at *; omega))) only [RZ, gval, gslot, fillL, ovw, numb, catL, ldN, agL, okC, oneC, init, Nat.reduceAdd, Nat.reduceMul, Nat.reduceSub, Nat.reduceEqDiff, Nat.reduceLT, ↓reduceIte, Int.reduceToNat, Int.reduceAdd, Int.reduceSub, Int.reduceMul, Int.reduceLT, Int.reduceLE, Int.reduceEq, Nat.reduceLeDiff,  c7]
    exact ⟨congrArg (fun b => Ending.returned (Value.bool b)) (decide_eq_decide.2 (by omega)), hb⟩
  rw [if_neg (by rw [hc]; decide)]
  clear hc
  simp +contextual (maxSteps := 2000000) (disch := (first | omega | (simp only [SZ]; done) | (simp only [SZ]; omega) | (simp only [TS] at *; omega))) only [RZ, gval, gslot, fillL, ovw, numb, catL, ldN, agL, okC, oneC, init, Nat.reduceAdd, Nat.reduceMul, Nat.reduceSub, Nat.reduceEqDiff, Nat.reduceLT, ↓reduceIte, Int.reduceToNat, Int.reduceAdd, Int.reduceSub, Int.reduceMul, Int.reduceLT, Int.reduceLE, Int.reduceEq, Nat.reduceLeDiff]
  refine (hu 51 (by decide)).mono ?_
  rintro e w3 ⟨rfl, rfl⟩
  refine ⟨_, rfl, ?_⟩
  simp +contextual (maxSteps := 2000000) (disch := (first | omega | (simp only [SZ]; done) | (simp only [SZ]; omega) | (simp only [TS] at *; omega))) only [RZ, gval, gslot, fillL, ovw, numb, catL, ldN, agL, okC, oneC, init, Nat.reduceAdd, Nat.reduceMul, Nat.reduceSub, Nat.reduceEqDiff, Nat.reduceLT, ↓reduceIte, Int.reduceToNat, Int.reduceAdd, Int.reduceSub, Int.reduceMul, Int.reduceLT, Int.reduceLE, Int.reduceEq, Nat.reduceLeDiff]
  (refine W_if rfl (fun hc => ?_) (fun hc => ?_) <;> (try simp only [TS] at hc))
  · rw [if_pos hc]
    simp +contextual (maxSteps := 2000000) (disch := (first | omega | (simp only [SZ]; done) | (simp only [SZ]; omega) | (simp only [TS] at *; omega))) only [RZ, gval, gslot, fillL, ovw, numb, catL, ldN, agL, okC, oneC, init, Nat.reduceAdd, Nat.reduceMul, Nat.reduceSub, Nat.reduceEqDiff, Nat.reduceLT, ↓reduceIte, Int.reduceToNat, Int.reduceAdd, Int.reduceSub, Int.reduceMul, Int.reduceLT, Int.reduceLE, Int.reduceEq, Nat.reduceLeDiff,  c7]
    exact ⟨congrArg (fun b => Ending.returned (Value.bool b)) (decide_eq_decide.2 (by omega)), hb⟩
  rw [if_neg (by rw [hc]; decide)]
  clear hc
  simp +contextual (maxSteps := 2000000) (disch := (first | omega | (simp only [SZ]; done) | (simp only [SZ]; omega) | (simp only [TS] at *; omega))) only [RZ, gval, gslot, fillL, ovw, numb, catL, ldN, agL, okC, oneC, init, Nat.reduceAdd, Nat.reduceMul, Nat.reduceSub, Nat.reduceEqDiff, Nat.reduceLT, ↓reduceIte, Int.reduceToNat, Int.reduceAdd, Int.reduceSub, Int.reduceMul, Int.reduceLT, Int.reduceLE, Int.reduceEq, Nat.reduceLeDiff,  c7]
  exact ⟨congrArg (fun b => Ending.returned (Value.bool b)) (decide_eq_decide.2 (by omega)), hb⟩
theorem rf_sz : ∀ f ∈ fmT, (toBA (upF f)).size ≤ 100 ∧ (∀ c ∈ upF f, c < 256) ∧ toBA f.word ≠ ⟨#[]⟩ := by
  intro f hf
  have h : ∀ f ∈ fmT, (upF f).length ≤ 100 ∧ (∀ c ∈ upF f, c < 256) ∧ f.word ≠ [] := by decide
  obtain ⟨h1, h2, h3⟩ := h f hf
  exact ⟨by rw [toBA_size]; exact h1, h2, fun e => h3 (by have := bs_toBA (fm_words f hf); rw [e] at this; exact this.symm)⟩
theorem rf_facts (k : Int) : (toBA (rf k).2).size ≤ 100 ∧ bs (toBA (rf k).2) = (rf k).2 ∧ ((rf k).1 = [] ↔ toBA (rf k).1 = ⟨#[]⟩) := by
  unfold rf
  cases h : fmOf k with
  | none => exact ⟨by decide, rfl, ⟨fun _ => rfl, fun _ => rfl⟩⟩
  | some f =>
    obtain ⟨h1, h2, h3⟩ := rf_sz f (fm_mem h).1
    exact ⟨h1, bs_toBA h2, ⟨fun e => absurd e (up_facts f (fm_mem h).1).2.2.2.2.2.2.2.1, fun e => absurd e h3⟩⟩
set_option maxHeartbeats 2000000 in
theorem rcheck_any (c : Cm) (A : Option Addr) (cp : Nat) (w : World) (h1 : c.name.size ≤ 1000000000) (h2 : c.text.size ≤ 1000000000) (h3 : c.nums.length ≤ 1000000000) :
    Calls Tryd.prog 12 #[.agg (cmV c (.slice A c.nums.length cp)).toArray] w fun e w' => e = .returned (.int .i64 (rchkE c)) ∧ Below w.heap.size w w' := by
  refine calls_W (l := [_]) Tryd.func12 rfl _ Tryd.ntmps12 (by simp) ?_
  simp +contextual (maxSteps := 2000000) (disch := (first | omega | (simp only [SZ]; done) | (simp only [SZ]; omega) | (simp only [TS] at *; omega))) only [RZ, gval, gslot, fillL, ovw, numb, catL, ldN, agL, okC, oneC, init, Nat.reduceAdd, Nat.reduceMul, Nat.reduceSub, Nat.reduceEqDiff, Nat.reduceLT, ↓reduceIte, Int.reduceToNat, Int.reduceAdd, Int.reduceSub, Int.reduceMul, Int.reduceLT, Int.reduceLE, Int.reduceEq, Nat.reduceLeDiff,  cmV]
  have hb := below_alloc w (.cells (cmV c (.slice A c.nums.length cp)).toArray 25)
  have hc0 := heap_alloc_new w (.cells (cmV c (.slice A c.nums.length cp)).toArray 25)
  unfold cmV at hb hc0
  generalize w.alloc _ = w2 at *
  have c0 := Lib.cell_of_heap hc0 0
  have c1 := Lib.cell_of_heap hc0 1
  have c2 := Lib.cell_of_heap hc0 2
  have c3 := Lib.cell_of_heap hc0 3
  have c4 := Lib.cell_of_heap hc0 4
  have c5 := Lib.cell_of_heap hc0 5
  have c6 := Lib.cell_of_heap hc0 6
  have c7 := Lib.cell_of_heap hc0 7
  have c8 := Lib.cell_of_heap hc0 8
  have c9 := Lib.cell_of_heap hc0 9
  clear hc0
  obtain ⟨r1, r2, r3⟩ := rf_facts c.kind
  unfold rchkE
  refine (form_any c.kind w2).mono ?_
  rintro e w3 ⟨rfl, rfl⟩
  refine ⟨_, rfl, ?_⟩
  simp +contextual (maxSteps := 2000000) (disch := (first | omega | (simp only [SZ]; done) | (simp only [SZ]; omega) | (simp only [TS] at *; omega))) only [RZ, gval, gslot, fillL, ovw, numb, catL, ldN, agL, okC, oneC, init, Nat.reduceAdd, Nat.reduceMul, Nat.reduceSub, Nat.reduceEqDiff, Nat.reduceLT, ↓reduceIte, Int.reduceToNat, Int.reduceAdd, Int.reduceSub, Int.reduceMul, Int.reduceLT, Int.reduceLE, Int.reduceEq, Nat.reduceLeDiff,  rfV]
  (refine W_if rfl (fun hc => ?_) (fun hc => ?_) <;> (try simp only [TS] at hc))
  · rw [if_pos (r3.2 hc)]
    simp +contextual (maxSteps := 2000000) (disch := (first | omega | (simp only [SZ]; done) | (simp only [SZ]; omega) | (simp only [TS] at *; omega))) only [RZ, gval, gslot, fillL, ovw, numb, catL, ldN, agL, okC, oneC, init, Nat.reduceAdd, Nat.reduceMul, Nat.reduceSub, Nat.reduceEqDiff, Nat.reduceLT, ↓reduceIte, Int.reduceToNat, Int.reduceAdd, Int.reduceSub, Int.reduceMul, Int.reduceLT, Int.reduceLE, Int.reduceEq, Nat.reduceLeDiff]
    exact hb
  rw [if_neg (fun h => hc (r3.1 h))]
  clear hc
  simp +contextual (maxSteps := 2000000) (disch := (first | omega | (simp only [SZ]; done) | (simp only [SZ]; omega) | (simp only [TS] at *; omega))) only [RZ, gval, gslot, fillL, ovw, numb, catL, ldN, agL, okC, oneC, init, Nat.reduceAdd, Nat.reduceMul, Nat.reduceSub, Nat.reduceEqDiff, Nat.reduceLT, ↓reduceIte, Int.reduceToNat, Int.reduceAdd, Int.reduceSub, Int.reduceMul, Int.reduceLT, Int.reduceLE, Int.reduceEq, Nat.reduceLeDiff,  c1]
  (refine W_if rfl (fun hc => ?_) (fun hc => ?_) <;> (try simp only [TS] at hc))
  · rw [if_pos (by omega)]
    simp +contextual (maxSteps := 2000000) (disch := (first | omega | (simp only [SZ]; done) | (simp only [SZ]; omega) | (simp only [TS] at *; omega))) only [RZ, gval, gslot, fillL, ovw, numb, catL, ldN, agL, okC, oneC, init, Nat.reduceAdd, Nat.reduceMul, Nat.reduceSub, Nat.reduceEqDiff, Nat.reduceLT, ↓reduceIte, Int.reduceToNat, Int.reduceAdd, Int.reduceSub, Int.reduceMul, Int.reduceLT, Int.reduceLE, Int.reduceEq, Nat.reduceLeDiff]
    exact hb
  rw [if_neg (by omega)]
  clear hc
  simp +contextual (maxSteps := 2000000) (disch := (first | omega | (simp only [SZ]; done) | (simp only [SZ]; omega) | (simp only [TS] at *; omega))) only [RZ, gval, gslot, fillL, ovw, numb, catL, ldN, agL, okC, oneC, init, Nat.reduceAdd, Nat.reduceMul, Nat.reduceSub, Nat.reduceEqDiff, Nat.reduceLT, ↓reduceIte, Int.reduceToNat, Int.reduceAdd, Int.reduceSub, Int.reduceMul, Int.reduceLT, Int.reduceLE, Int.reduceEq, Nat.reduceLeDiff,  c0, c1, c2, c3, c4, c5, c6, c7, c8, c9]
  refine (zero_any (toBA (rf c.kind).2) r1 c A cp w2 h1 h2 h3).mono ?_
  rintro e w3 ⟨rfl, hb3⟩
  rw [r2]
  refine ⟨_, rfl, ?_⟩
  have hb4 : Below w.heap.size w w3 := hb.trans (hb3.mono hb.size)
  have hlt : w.heap.size < w2.heap.size := by
    rcases Nat.lt_or_ge w.heap.size w2.heap.size with h | h
    · exact h
    · rw [World.cell?] at c0; simp [Array.getElem?_eq_none h] at c0
  have k : ∀ i v, w2.cell? ⟨w.heap.size, i, none⟩ = v → w3.cell? ⟨w.heap.size, i, none⟩ = v := fun i v h => (hb3.cell (p := ⟨w.heap.size, i, none⟩) hlt).trans h
  replace c5 := k _ _ c5
  replace c6 := k _ _ c6
  replace c7 := k _ _ c7
  clear c0 c1 c2 c3 c4 c8 c9
  simp +contextual (maxSteps := 2000000) (disch := (first | omega | (simp only [SZ]; done) | (simp only [SZ]; omega) | (simp only [TS] at *; omega))) only [RZ, gval, gslot, fillL, ovw, numb, catL, ldN, agL, okC, oneC, init, Nat.reduceAdd, Nat.reduceMul, Nat.reduceSub, Nat.reduceEqDiff, Nat.reduceLT, ↓reduceIte, Int.reduceToNat, Int.reduceAdd, Int.reduceSub, Int.reduceMul, Int.reduceLT, Int.reduceLE, Int.reduceEq, Nat.reduceLeDiff]
  (refine W_if rfl (fun hc => ?_) (fun hc => ?_) <;> (try simp only [TS] at hc))
  · rw [if_pos hc]
    simp +contextual (maxSteps := 2000000) (disch := (first | omega | (simp only [SZ]; done) | (simp only [SZ]; omega) | (simp only [TS] at *; omega))) only [RZ, gval, gslot, fillL, ovw, numb, catL, ldN, agL, okC, oneC, init, Nat.reduceAdd, Nat.reduceMul, Nat.reduceSub, Nat.reduceEqDiff, Nat.reduceLT, ↓reduceIte, Int.reduceToNat, Int.reduceAdd, Int.reduceSub, Int.reduceMul, Int.reduceLT, Int.reduceLE, Int.reduceEq, Nat.reduceLeDiff]
    exact hb4
  rw [if_neg (by rw [hc]; decide)]
  clear hc
  simp +contextual (maxSteps := 2000000) (disch := (first | omega | (simp only [SZ]; done) | (simp only [SZ]; omega) | (simp only [TS] at *; omega))) only [RZ, gval, gslot, fillL, ovw, numb, catL, ldN, agL, okC, oneC, init, Nat.reduceAdd, Nat.reduceMul, Nat.reduceSub, Nat.reduceEqDiff, Nat.reduceLT, ↓reduceIte, Int.reduceToNat, Int.reduceAdd, Int.reduceSub, Int.reduceMul, Int.reduceLT, Int.reduceLE, Int.reduceEq, Nat.reduceLeDiff]
  refine (uses_any (toBA (rf c.kind).2) 78 w3 (by omega)).mono ?_
  rintro e w4 ⟨rfl, rfl⟩
  rw [r2]
  refine ⟨_, rfl, ?_⟩
  simp +contextual (maxSteps := 2000000) (disch := (first | omega | (simp only [SZ]; done) | (simp only [SZ]; omega) | (simp only [TS] at *; omega))) only [RZ, gval, gslot, fillL, ovw, numb, catL, ldN, agL, okC, oneC, init, Nat.reduceAdd, Nat.reduceMul, Nat.reduceSub, Nat.reduceEqDiff, Nat.reduceLT, ↓reduceIte, Int.reduceToNat, Int.reduceAdd, Int.reduceSub, Int.reduceMul, Int.reduceLT, Int.reduceLE, Int.reduceEq, Nat.reduceLeDiff,  c5]
  refine GB_call (fun _ => rscName_any c.name w3 (by omega)) ?_
  simp +contextual (maxSteps := 2000000) (disch := (first | omega | (simp only [SZ]; done) | (simp only [SZ]; omega) | (simp only [TS] at *; omega))) only [RZ, gval, gslot, fillL, ovw, numb, catL, ldN, agL, okC, oneC, init, Nat.reduceAdd, Nat.reduceMul, Nat.reduceSub, Nat.reduceEqDiff, Nat.reduceLT, ↓reduceIte, Int.reduceToNat, Int.reduceAdd, Int.reduceSub, Int.reduceMul, Int.reduceLT, Int.reduceLE, Int.reduceEq, Nat.reduceLeDiff]
  (refine W_if rfl (fun hc => ?_) (fun hc => ?_) <;> (try simp only [TS] at hc))
  · rw [if_pos hc]
    simp +contextual (maxSteps := 2000000) (disch := (first | omega | (simp only [SZ]; done) | (simp only [SZ]; omega) | (simp only [TS] at *; omega))) only [RZ, gval, gslot, fillL, ovw, numb, catL, ldN, agL, okC, oneC, init, Nat.reduceAdd, Nat.reduceMul, Nat.reduceSub, Nat.reduceEqDiff, Nat.reduceLT, ↓reduceIte, Int.reduceToNat, Int.reduceAdd, Int.reduceSub, Int.reduceMul, Int.reduceLT, Int.reduceLE, Int.reduceEq, Nat.reduceLeDiff]
    exact hb4
  rw [if_neg (by rintro ⟨h4, h5⟩; rcases hc with h | h; · rw [h] at h4; cases h4
                 · rw [h] at h5; cases h5)]
  clear hc
  simp +contextual (maxSteps := 2000000) (disch := (first | omega | (simp only [SZ]; done) | (simp only [SZ]; omega) | (simp only [TS] at *; omega))) only [RZ, gval, gslot, fillL, ovw, numb, catL, ldN, agL, okC, oneC, init, Nat.reduceAdd, Nat.reduceMul, Nat.reduceSub, Nat.reduceEqDiff, Nat.reduceLT, ↓reduceIte, Int.reduceToNat, Int.reduceAdd, Int.reduceSub, Int.reduceMul, Int.reduceLT, Int.reduceLE, Int.reduceEq, Nat.reduceLeDiff,  c6, c7]
  (refine W_if rfl (fun hc => ?_) (fun hc => ?_) <;> (try simp only [TS] at hc))
  · rw [if_pos (by omega)]
    simp +contextual (maxSteps := 2000000) (disch := (first | omega | (simp only [SZ]; done) | (simp only [SZ]; omega) | (simp only [TS] at *; omega))) only [RZ, gval, gslot, fillL, ovw, numb, catL, ldN, agL, okC, oneC, init, Nat.reduceAdd, Nat.reduceMul, Nat.reduceSub, Nat.reduceEqDiff, Nat.reduceLT, ↓reduceIte, Int.reduceToNat, Int.reduceAdd, Int.reduceSub, Int.reduceMul, Int.reduceLT, Int.reduceLE, Int.reduceEq, Nat.reduceLeDiff]
    exact hb4
  · rw [if_neg (by omega)]
    simp +contextual (maxSteps := 2000000) (disch := (first | omega | (simp only [SZ]; done) | (simp only [SZ]; omega) | (simp only [TS] at *; omega))) only [RZ, gval, gslot, fillL, ovw, numb, catL, ldN, agL, okC, oneC, init, Nat.reduceAdd, Nat.reduceMul, Nat.reduceSub, Nat.reduceEqDiff, Nat.reduceLT, ↓reduceIte, Int.reduceToNat, Int.reduceAdd, Int.reduceSub, Int.reduceMul, Int.reduceLT, Int.reduceLE, Int.reduceEq, Nat.reduceLeDiff]
    exact hb4
end Go.Proofs.YtjaeiiiniohloaaDoor
/- Walks: the reference's Size, Format, Hex, list, field. -/
namespace Go.Proofs.YtjaeiiiniohloaaDoor
open Go.RowKit
set_option maxRecDepth 100000
theorem rsize_any (x : Int) (w : World) (hx : numR x) : Calls Tryd.prog 43 #[.int .i64 x] w fun e w' => e = .returned (.int .u64 (x.natAbs : Int)) ∧ w = w' := by
  refine calls_W (l := [_]) Tryd.func43 rfl _ Tryd.ntmps43 (by simp) ?_
  obtain ⟨h0, h1⟩ := hx
  simp +contextual (maxSteps := 2000000) (disch := (first | omega | (simp only [SZ]; done) | (simp only [SZ]; omega) | (simp only [TS] at *; omega))) only [RZ, gval, gslot, fillL, ovw, numb, catL, ldN, agL, okC, oneC, init, Nat.reduceAdd, Nat.reduceMul, Nat.reduceSub, Nat.reduceEqDiff, Nat.reduceLT, ↓reduceIte, Int.reduceToNat, Int.reduceAdd, Int.reduceSub, Int.reduceMul, Int.reduceLT, Int.reduceLE, Int.reduceEq, Nat.reduceLeDiff]
  (refine W_if rfl (fun hc => ?_) (fun hc => ?_) <;> (try simp only [TS] at hc))
  · simp +contextual (maxSteps := 2000000) (disch := (first | omega | (simp only [SZ]; done) | (simp only [SZ]; omega) | (simp only [TS] at *; omega))) only [RZ, gval, gslot, fillL, ovw, numb, catL, ldN, agL, okC, oneC, init, Nat.reduceAdd, Nat.reduceMul, Nat.reduceSub, Nat.reduceEqDiff, Nat.reduceLT, ↓reduceIte, Int.reduceToNat, Int.reduceAdd, Int.reduceSub, Int.reduceMul, Int.reduceLT, Int.reduceLE, Int.reduceEq, Nat.reduceLeDiff]
    exact ret_int (by omega)
  · simp +contextual (maxSteps := 2000000) (disch := (first | omega | (simp only [SZ]; done) | (simp only [SZ]; omega) | (simp only [TS] at *; omega))) only [RZ, gval, gslot, fillL, ovw, numb, catL, ldN, agL, okC, oneC, init, Nat.reduceAdd, Nat.reduceMul, Nat.reduceSub, Nat.reduceEqDiff, Nat.reduceLT, ↓reduceIte, Int.reduceToNat, Int.reduceAdd, Int.reduceSub, Int.reduceMul, Int.reduceLT, Int.reduceLE, Int.reduceEq, Nat.reduceLeDiff]
    exact ret_int (by omega)
theorem one_str (w : World) (x : Nat) (hx : x < 256) : vConvert Tryd.prog 40 9 (.slice (some ⟨w.heap.size, 0, none⟩) 1 1) (w.alloc (.cells #[.int .u8 (x : Int)] 5)) = .ok (.value (.string (toBA [x]))) (w.alloc (.cells #[.int .u8 (x : Int)] 5)) := by
  obtain ⟨s, h1, h2⟩ := bytes_str (w := w.alloc (.cells #[.int .u8 (x : Int)] 5)) (a := ⟨w.heap.size, 0, none⟩) (cap := 1) [x] (fun n hn => by simp at hn; omega) (fun j v hv => by
    rw [addr_add, Nat.zero_add, (new_block w _ _).1 j]
    simpa using hv)
  have e : s = toBA [x] := by rw [← toBA_bs s, h1]
  rw [← e]
  exact h2
theorem rformat_any (n : Int) (w : World) (hn : numR n) : Calls Tryd.prog 33 #[.int .i64 n] w fun e w' => e = .returned (.string (fmtB n)) ∧ Below w.heap.size w w' := by
  refine calls_W (l := [_]) Tryd.func33 rfl _ Tryd.ntmps33 (by simp) ?_
  simp +contextual (maxSteps := 2000000) (disch := (first | omega | (simp only [SZ]; done) | (simp only [SZ]; omega) | (simp only [TS] at *; omega))) only [RZ, gval, gslot, fillL, ovw, numb, catL, ldN, agL, okC, oneC, init, Nat.reduceAdd, Nat.reduceMul, Nat.reduceSub, Nat.reduceEqDiff, Nat.reduceLT, ↓reduceIte, Int.reduceToNat, Int.reduceAdd, Int.reduceSub, Int.reduceMul, Int.reduceLT, Int.reduceLE, Int.reduceEq, Nat.reduceLeDiff]
  refine (rsize_any n w hn).mono ?_
  rintro e w1 ⟨rfl, rfl⟩
  refine ⟨_, rfl, ?_⟩
  have hm0 : n.natAbs ≤ 9223372036854775808 := by have := hn.1; have := hn.2; omega
  have hdl : (dec n.natAbs).length ≤ 21 := by
    have h1 := fmtI_len hn
    by_cases h : n < 0
    · rw [fmtI_neg h] at h1; simp at h1; omega
    · rw [fmtI_nonneg (by omega)] at h1
      rwa [show n.toNat = n.natAbs by omega] at h1
  have hres : fmtI n = if n < 0 then 45 :: dec n.natAbs else dec n.natAbs := by
    by_cases h : n < 0
    · rw [if_pos h, fmtI_neg h]
    · rw [if_neg h, fmtI_nonneg (by omega), show n.toNat = n.natAbs by omega]
  generalize n.natAbs = m at *
  have e1 : (48 : Int) + (m : Int) % 10 = ((48 + m % 10 : Nat) : Int) := by omega
  have hst := one_str w (48 + m % 10) (by omega)
  simp +contextual (maxSteps := 2000000) (disch := (first | omega | (simp only [SZ]; done) | (simp only [SZ]; omega) | (simp only [TS] at *; omega))) only [RZ, gval, gslot, fillL, ovw, numb, catL, ldN, agL, okC, oneC, init, Nat.reduceAdd, Nat.reduceMul, Nat.reduceSub, Nat.reduceEqDiff, Nat.reduceLT, ↓reduceIte, Int.reduceToNat, Int.reduceAdd, Int.reduceSub, Int.reduceMul, Int.reduceLT, Int.reduceLE, Int.reduceEq, Nat.reduceLeDiff,  e1, hst]
  have hB1 := below_alloc w (.cells #[.int .u8 ((48 + m % 10 : Nat) : Int)] 5)
  have hs1 := hB1.size
  generalize w.alloc (.cells #[.int .u8 ((48 + m % 10 : Nat) : Int)] 5) = w1 at *
  clear hst e1
  refine Raw_loop (fun σ w2 => Below w.heap.size w w2 ∧ ∃ (i q : Nat) (Y : List Nat), i ≤ 20 ∧ q ≤ m ∧ q < 10 ^ (20 - i) ∧ (∀ d ∈ Y, d < 256) ∧ (if q < 10 then dec m = Y else dec m = dec (q / 10) ++ Y) ∧ σ 0 = .int .i64 n ∧ σ 3 = .int .u64 q ∧ σ 4 = .string (toBA Y) ∧ σ 5 = .int .i64 i) (fun σ _ => 20 - (intOf (σ 5)).toNat) ?_ ?_
  · simp +contextual (maxSteps := 2000000) (disch := (first | omega | (simp only [SZ]; done) | (simp only [SZ]; omega) | (simp only [TS] at *; omega))) only [RZ, gval, gslot, fillL, ovw, numb, catL, ldN, agL, okC, oneC, init, Nat.reduceAdd, Nat.reduceMul, Nat.reduceSub, Nat.reduceEqDiff, Nat.reduceLT, ↓reduceIte, Int.reduceToNat, Int.reduceAdd, Int.reduceSub, Int.reduceMul, Int.reduceLT, Int.reduceLE, Int.reduceEq, Nat.reduceLeDiff]
    refine ⟨hB1, 0, m, [48 + m % 10], by omega, by omega, by omega, by simp; omega, ?_, rfl, rfl, rfl⟩
    split
    · rw [dec_lt (by assumption), Nat.mod_eq_of_lt (by assumption)]
    · rw [dec_ge (by assumption)]
  clear hB1 hs1
  rintro σ w2 ⟨hB, i, q, Y, hi, hqm, hq, hY, hj, e0, e3, e4, e5⟩ K hK
  have hs2 := hB.size
  have hql : q ≤ 100000000000000000000 := by
    have h1 : 10 ^ (20 - i) ≤ 10 ^ 20 := Nat.pow_le_pow_right (by decide) (by omega)
    have h2 : 10 ^ 20 = 100000000000000000000 := by decide
    omega
  have hYl : Y.length ≤ 21 := by
    split at hj
    · rw [← hj]; exact hdl
    · have := congrArg List.length hj
      rw [List.length_append] at this
      omega
  have hz : (toBA Y).size = Y.length := toBA_size Y
  simp +contextual (maxSteps := 2000000) (disch := (first | omega | (simp only [SZ]; done) | (simp only [SZ]; omega) | (simp only [TS] at *; omega))) only [RZ, gval, gslot, fillL, ovw, numb, catL, ldN, agL, okC, oneC, init, Nat.reduceAdd, Nat.reduceMul, Nat.reduceSub, Nat.reduceEqDiff, Nat.reduceLT, ↓reduceIte, Int.reduceToNat, Int.reduceAdd, Int.reduceSub, Int.reduceMul, Int.reduceLT, Int.reduceLE, Int.reduceEq, Nat.reduceLeDiff,  e0, e3, e4, e5]
  (refine W_if rfl (fun hc => ?_) (fun hc => ?_) <;> (try simp only [TS] at hc))
  · have hq10 : ¬ q < 10 := by omega
    have hi20 : i < 20 := by omega
    clear hc
    rw [if_neg hq10] at hj
    have e6 : (48 : Int) + (q : Int) / 10 % 10 = ((48 + q / 10 % 10 : Nat) : Int) := by omega
    have hst := one_str w2 (48 + q / 10 % 10) (by omega)
    have e7 : (toBA [48 + q / 10 % 10] ++ toBA Y) = toBA ((48 + q / 10 % 10) :: Y) := by
      rw [app_toBA, bs_toBA hY, bs_toBA (by simp; omega)]; rfl
    have e8 : (toBA [48 + q / 10 % 10]).size = 1 := by rw [toBA_size]; rfl
    simp +contextual (maxSteps := 2000000) (disch := (first | omega | (simp only [SZ]; done) | (simp only [SZ]; omega) | (simp only [TS] at *; omega))) only [RZ, gval, gslot, fillL, ovw, numb, catL, ldN, agL, okC, oneC, init, Nat.reduceAdd, Nat.reduceMul, Nat.reduceSub, Nat.reduceEqDiff, Nat.reduceLT, ↓reduceIte, Int.reduceToNat, Int.reduceAdd, Int.reduceSub, Int.reduceMul, Int.reduceLT, Int.reduceLE, Int.reduceEq, Nat.reduceLeDiff,  e0, e3, e4, e5, e6, hst, e7]
    refine hK _ _ ⟨hB.trans ((below_alloc w2 _).mono hs2), i + 1, q / 10, (48 + q / 10 % 10) :: Y, by omega, by omega, ?_, ?_, ?_, ?_⟩ ?_
    · rw [show 20 - i = 20 - (i + 1) + 1 by omega, Nat.pow_succ] at hq
      omega
    · intro d hd
      rcases List.mem_cons.1 hd with rfl | hd
      · omega
      · exact hY d hd
    · split
      · rw [hj, dec_lt (by assumption), Nat.mod_eq_of_lt (by assumption)]; rfl
      · rw [hj, dec_ge (by assumption), List.append_assoc]; rfl
    · simp +contextual (maxSteps := 2000000) (disch := (first | omega | (simp only [SZ]; done) | (simp only [SZ]; omega) | (simp only [TS] at *; omega))) only [RZ, gval, gslot, fillL, ovw, numb, catL, ldN, agL, okC, oneC, init, Nat.reduceAdd, Nat.reduceMul, Nat.reduceSub, Nat.reduceEqDiff, Nat.reduceLT, ↓reduceIte, Int.reduceToNat, Int.reduceAdd, Int.reduceSub, Int.reduceMul, Int.reduceLT, Int.reduceLE, Int.reduceEq, Nat.reduceLeDiff,  e0, e3, e4, e5]
      exact congrArg (Value.int _) (by omega)
    · simp +contextual (maxSteps := 2000000) (disch := (first | omega | (simp only [SZ]; done) | (simp only [SZ]; omega) | (simp only [TS] at *; omega))) only [RZ, gval, gslot, fillL, ovw, numb, catL, ldN, agL, okC, oneC, init, Nat.reduceAdd, Nat.reduceMul, Nat.reduceSub, Nat.reduceEqDiff, Nat.reduceLT, ↓reduceIte, Int.reduceToNat, Int.reduceAdd, Int.reduceSub, Int.reduceMul, Int.reduceLT, Int.reduceLE, Int.reduceEq, Nat.reduceLeDiff,  intOf, e5]
      omega
  · have hq10 : q < 10 := by
      rcases Nat.lt_or_ge i 20 with h | h
      · omega
      · have h1 : 20 - i = 0 := by omega
        rw [h1] at hq
        omega
    rw [if_pos hq10] at hj
    clear hc
    simp +contextual (maxSteps := 2000000) (disch := (first | omega | (simp only [SZ]; done) | (simp only [SZ]; omega) | (simp only [TS] at *; omega))) only [RZ, gval, gslot, fillL, ovw, numb, catL, ldN, agL, okC, oneC, init, Nat.reduceAdd, Nat.reduceMul, Nat.reduceSub, Nat.reduceEqDiff, Nat.reduceLT, ↓reduceIte, Int.reduceToNat, Int.reduceAdd, Int.reduceSub, Int.reduceMul, Int.reduceLT, Int.reduceLE, Int.reduceEq, Nat.reduceLeDiff,  e0, e3, e4, e5]
    have e9 : (⟨#[45]⟩ : ByteArray) ++ toBA Y = toBA (45 :: Y) := by rw [app_toBA, bs_toBA hY]; rfl
    have e10 : (⟨#[45]⟩ : ByteArray).size = 1 := rfl
    have e11 : fmtB n = toBA (fmtI n) := by rw [← bs_fmtB, toBA_bs]
    (refine W_if rfl (fun hc => ?_) (fun hc => ?_) <;> (try simp only [TS] at hc))
    · rw [if_pos hc] at hres
      simp +contextual (maxSteps := 2000000) (disch := (first | omega | (simp only [SZ]; done) | (simp only [SZ]; omega) | (simp only [TS] at *; omega))) only [RZ, gval, gslot, fillL, ovw, numb, catL, ldN, agL, okC, oneC, init, Nat.reduceAdd, Nat.reduceMul, Nat.reduceSub, Nat.reduceEqDiff, Nat.reduceLT, ↓reduceIte, Int.reduceToNat, Int.reduceAdd, Int.reduceSub, Int.reduceMul, Int.reduceLT, Int.reduceLE, Int.reduceEq, Nat.reduceLeDiff,  e0, e3, e4, e5, e9]
      rw [e11, hres, hj]
      exact ⟨rfl, hB⟩
    · rw [if_neg (by omega)] at hres
      simp +contextual (maxSteps := 2000000) (disch := (first | omega | (simp only [SZ]; done) | (simp only [SZ]; omega) | (simp only [TS] at *; omega))) only [RZ, gval, gslot, fillL, ovw, numb, catL, ldN, agL, okC, oneC, init, Nat.reduceAdd, Nat.reduceMul, Nat.reduceSub, Nat.reduceEqDiff, Nat.reduceLT, ↓reduceIte, Int.reduceToNat, Int.reduceAdd, Int.reduceSub, Int.reduceMul, Int.reduceLT, Int.reduceLE, Int.reduceEq, Nat.reduceLeDiff,  e0, e3, e4, e5]
      rw [e11, hres, hj]
      exact ⟨rfl, hB⟩
theorem digS : ∀ q : Fin 16, (⟨#[48, 49, 50, 51, 52, 53, 54, 55, 56, 57, 97, 98, 99, 100, 101, 102]⟩ : ByteArray).extract q.1 (q.1 + 1) = toBA [hexd q.1] := by decide
theorem rhex_any (X : Nat) (w : World) (h1 : X ≤ 18446744073709551615) : Calls Tryd.prog 45 #[.int .u64 X] w fun e w' => e = .returned (.string (toBA (hexT 16 X))) ∧ Below w.heap.size w w' := by
  refine calls_W (l := [_]) Tryd.func45 rfl _ Tryd.ntmps45 (by simp) ?_
  simp +contextual (maxSteps := 2000000) (disch := (first | omega | (simp only [SZ]; done) | (simp only [SZ]; omega) | (simp only [TS] at *; omega))) only [RZ, gval, gslot, fillL, ovw, numb, catL, ldN, agL, okC, oneC, init, Nat.reduceAdd, Nat.reduceMul, Nat.reduceSub, Nat.reduceEqDiff, Nat.reduceLT, ↓reduceIte, Int.reduceToNat, Int.reduceAdd, Int.reduceSub, Int.reduceMul, Int.reduceLT, Int.reduceLE, Int.reduceEq, Nat.reduceLeDiff]
  refine Raw_loop (fun σ w2 => Below w.heap.size w w2 ∧ ∃ i : Nat, i ≤ 16 ∧ σ 0 = .int .u64 ((X / 16 ^ i : Nat) : Int) ∧ σ 3 = .string (toBA (hexT i X)) ∧ σ 4 = .int .i64 i) (fun σ _ => 16 - (intOf (σ 4)).toNat) ?_ ?_
  · simp +contextual (maxSteps := 2000000) (disch := (first | omega | (simp only [SZ]; done) | (simp only [SZ]; omega) | (simp only [TS] at *; omega))) only [RZ, gval, gslot, fillL, ovw, numb, catL, ldN, agL, okC, oneC, init, Nat.reduceAdd, Nat.reduceMul, Nat.reduceSub, Nat.reduceEqDiff, Nat.reduceLT, ↓reduceIte, Int.reduceToNat, Int.reduceAdd, Int.reduceSub, Int.reduceMul, Int.reduceLT, Int.reduceLE, Int.reduceEq, Nat.reduceLeDiff]
    refine ⟨Below.refl _ _, 0, by omega, ?_, rfl, rfl⟩
    rw [Nat.pow_zero, Nat.div_one]
  rintro σ w2 ⟨hB, i, hi, e0, e3, e4⟩ K hK
  have hY : ∀ d ∈ hexT i X, d < 256 := fun d hd => by have := hexT_all i X d hd; omega
  have hz : (toBA (hexT i X)).size = i := by rw [toBA_size, hexT_len]
  have hqle : X / 16 ^ i ≤ X := Nat.div_le_self _ _
  have hq2 : X / 16 ^ (i + 1) = X / 16 ^ i / 16 := by rw [Nat.pow_succ, Nat.div_div_eq_div_mul]
  have hT : hexT (i + 1) X = hexd (X / 16 ^ i % 16) :: hexT i X := rfl
  generalize X / 16 ^ i = q at *
  simp +contextual (maxSteps := 2000000) (disch := (first | omega | (simp only [SZ]; done) | (simp only [SZ]; omega) | (simp only [TS] at *; omega))) only [RZ, gval, gslot, fillL, ovw, numb, catL, ldN, agL, okC, oneC, init, Nat.reduceAdd, Nat.reduceMul, Nat.reduceSub, Nat.reduceEqDiff, Nat.reduceLT, ↓reduceIte, Int.reduceToNat, Int.reduceAdd, Int.reduceSub, Int.reduceMul, Int.reduceLT, Int.reduceLE, Int.reduceEq, Nat.reduceLeDiff,  e0, e3, e4]
  (refine W_if rfl (fun hc => ?_) (fun hc => ?_) <;> (try simp only [TS] at hc))
  · have hi16 : i < 16 := by omega
    clear hc
    have x2 : ((q : Nat) : Int) % 16 = ((q % 16 : Nat) : Int) := by omega
    have x3 : (((q % 16 : Nat) : Int) + 1).toNat = q % 16 + 1 := by omega
    have hsz : (⟨#[48, 49, 50, 51, 52, 53, 54, 55, 56, 57, 97, 98, 99, 100, 101, 102]⟩ : ByteArray).size = 16 := rfl
    have hd := digS ⟨q % 16, by omega⟩
    simp only at hd
    have e7 : toBA [hexd (q % 16)] ++ toBA (hexT i X) = toBA (hexT (i + 1) X) := by
      rw [app_toBA, bs_toBA hY, bs_toBA (by have := hexd_lt (q % 16) (by omega); simpa using this), hT]; rfl
    have e8 : (toBA [hexd (q % 16)]).size = 1 := by rw [toBA_size]; rfl
    simp +contextual (maxSteps := 2000000) (disch := (first | omega | (simp only [SZ]; done) | (simp only [SZ]; omega) | (simp only [TS] at *; omega))) only [RZ, gval, gslot, fillL, ovw, numb, catL, ldN, agL, okC, oneC, init, Nat.reduceAdd, Nat.reduceMul, Nat.reduceSub, Nat.reduceEqDiff, Nat.reduceLT, ↓reduceIte, Int.reduceToNat, Int.reduceAdd, Int.reduceSub, Int.reduceMul, Int.reduceLT, Int.reduceLE, Int.reduceEq, Nat.reduceLeDiff,  e0, e3, e4, x2, x3, hsz, hd, e7]
    refine hK _ _ ⟨hB, i + 1, by omega, ?_⟩ ?_
    · simp +contextual (maxSteps := 2000000) (disch := (first | omega | (simp only [SZ]; done) | (simp only [SZ]; omega) | (simp only [TS] at *; omega))) only [RZ, gval, gslot, fillL, ovw, numb, catL, ldN, agL, okC, oneC, init, Nat.reduceAdd, Nat.reduceMul, Nat.reduceSub, Nat.reduceEqDiff, Nat.reduceLT, ↓reduceIte, Int.reduceToNat, Int.reduceAdd, Int.reduceSub, Int.reduceMul, Int.reduceLT, Int.reduceLE, Int.reduceEq, Nat.reduceLeDiff,  e0, e3, e4]
      rw [hq2]
      exact congrArg (Value.int _) (by omega)
    · simp +contextual (maxSteps := 2000000) (disch := (first | omega | (simp only [SZ]; done) | (simp only [SZ]; omega) | (simp only [TS] at *; omega))) only [RZ, gval, gslot, fillL, ovw, numb, catL, ldN, agL, okC, oneC, init, Nat.reduceAdd, Nat.reduceMul, Nat.reduceSub, Nat.reduceEqDiff, Nat.reduceLT, ↓reduceIte, Int.reduceToNat, Int.reduceAdd, Int.reduceSub, Int.reduceMul, Int.reduceLT, Int.reduceLE, Int.reduceEq, Nat.reduceLeDiff,  intOf, e4]
      omega
  · obtain rfl : i = 16 := by omega
    simp +contextual (maxSteps := 2000000) (disch := (first | omega | (simp only [SZ]; done) | (simp only [SZ]; omega) | (simp only [TS] at *; omega))) only [RZ, gval, gslot, fillL, ovw, numb, catL, ldN, agL, okC, oneC, init, Nat.reduceAdd, Nat.reduceMul, Nat.reduceSub, Nat.reduceEqDiff, Nat.reduceLT, ↓reduceIte, Int.reduceToNat, Int.reduceAdd, Int.reduceSub, Int.reduceMul, Int.reduceLT, Int.reduceLE, Int.reduceEq, Nat.reduceLeDiff,  e0, e3, e4]
    exact hB
theorem rlist_any (v : Value) (L : List Int) (w : World) (hv : NumR w v L) (hn : ∀ n ∈ L, numR n) (hl : L.length ≤ 1000000) : Calls Tryd.prog 46 #[v] w fun e w' => e = .returned (.string (toBA (spNums L))) ∧ Below w.heap.size w w' := by
  refine calls_W (l := [_]) Tryd.func46 rfl _ Tryd.ntmps46 (by simp) ?_
  obtain ⟨A, cp, rfl, harr⟩ := hv
  simp +contextual (maxSteps := 2000000) (disch := (first | omega | (simp only [SZ]; done) | (simp only [SZ]; omega) | (simp only [TS] at *; omega))) only [RZ, gval, gslot, fillL, ovw, numb, catL, ldN, agL, okC, oneC, init, Nat.reduceAdd, Nat.reduceMul, Nat.reduceSub, Nat.reduceEqDiff, Nat.reduceLT, ↓reduceIte, Int.reduceToNat, Int.reduceAdd, Int.reduceSub, Int.reduceMul, Int.reduceLT, Int.reduceLE, Int.reduceEq, Nat.reduceLeDiff]
  refine Raw_loop (fun σ w2 => Below w.heap.size w w2 ∧ ∃ k : Nat, k ≤ L.length ∧ σ 0 = .slice A L.length cp ∧ σ 3 = .string (toBA (spNums (L.take k))) ∧ σ 4 = .int .i64 k) (fun σ _ => L.length - (intOf (σ 4)).toNat) ?_ ?_
  · simp +contextual (maxSteps := 2000000) (disch := (first | omega | (simp only [SZ]; done) | (simp only [SZ]; omega) | (simp only [TS] at *; omega))) only [RZ, gval, gslot, fillL, ovw, numb, catL, ldN, agL, okC, oneC, init, Nat.reduceAdd, Nat.reduceMul, Nat.reduceSub, Nat.reduceEqDiff, Nat.reduceLT, ↓reduceIte, Int.reduceToNat, Int.reduceAdd, Int.reduceSub, Int.reduceMul, Int.reduceLT, Int.reduceLE, Int.reduceEq, Nat.reduceLeDiff]
    exact ⟨Below.refl _ _, 0, by omega, rfl, rfl⟩
  rintro σ w2 ⟨hB, k, hk, e0, e3, e4⟩ K hK
  have hY : ∀ d ∈ spNums (L.take k), d < 256 := fun d hd => by
    obtain ⟨n, _, hd⟩ := List.mem_flatMap.1 hd
    exact sp_lt (fmtI_lt n) d hd
  have hYl : (spNums (L.take k)).length ≤ 22 * k := by
    have := flat_le (fun n : Int => 32 :: fmtI n) 22 (L.take k) (fun n hm => by have := fmtI_len (hn n (List.mem_of_mem_take hm)); simp only [List.length_cons]; omega)
    rw [List.length_take] at this
    unfold spNums
    omega
  have hz := toBA_size (spNums (L.take k))
  have hs2 := hB.size
  simp +contextual (maxSteps := 2000000) (disch := (first | omega | (simp only [SZ]; done) | (simp only [SZ]; omega) | (simp only [TS] at *; omega))) only [RZ, gval, gslot, fillL, ovw, numb, catL, ldN, agL, okC, oneC, init, Nat.reduceAdd, Nat.reduceMul, Nat.reduceSub, Nat.reduceEqDiff, Nat.reduceLT, ↓reduceIte, Int.reduceToNat, Int.reduceAdd, Int.reduceSub, Int.reduceMul, Int.reduceLT, Int.reduceLE, Int.reduceEq, Nat.reduceLeDiff,  e0, e3, e4]
  (refine W_if rfl (fun hc => ?_) (fun hc => ?_) <;> (try simp only [TS] at hc))
  · have hkk : k < L.length := by omega
    clear hc
    obtain ⟨n, hnk⟩ : ∃ n, L[k]? = some n := ⟨_, List.getElem?_eq_getElem hkk⟩
    have hnr := hn n (List.mem_of_getElem? hnk)
    obtain ⟨bb, o, rfl, hbb, hcell⟩ := (harr.below hB).at_ hnk
    have hc0 := hcell 0 _ rfl
    rw [Nat.add_zero, Nat.mul_one] at hc0
    have hf := fmtB_size hnr
    have hz1 : (⟨#[32]⟩ : ByteArray).size = 1 := rfl
    have hz2 : (toBA (spNums (L.take k)) ++ (⟨#[32]⟩ : ByteArray)).size ≤ 22 * k + 1 := by rw [ByteArray.size_append]; omega
    have e7 : toBA (spNums (L.take k)) ++ (⟨#[32]⟩ : ByteArray) ++ fmtB n = toBA (spNums (L.take (k + 1))) := by
      refine bs_inj ?_
      rw [bs_append, bs_append, bs_toBA hY, bs_fmtB, bs_toBA, List.take_add_one, hnk]
      · unfold spNums
        simp [bs]
      · intro d hd
        obtain ⟨m, _, hd⟩ := List.mem_flatMap.1 hd
        exact sp_lt (fmtI_lt m) d hd
    simp +contextual (maxSteps := 2000000) (disch := (first | omega | (simp only [SZ]; done) | (simp only [SZ]; omega) | (simp only [TS] at *; omega))) only [RZ, gval, gslot, fillL, ovw, numb, catL, ldN, agL, okC, oneC, init, Nat.reduceAdd, Nat.reduceMul, Nat.reduceSub, Nat.reduceEqDiff, Nat.reduceLT, ↓reduceIte, Int.reduceToNat, Int.reduceAdd, Int.reduceSub, Int.reduceMul, Int.reduceLT, Int.reduceLE, Int.reduceEq, Nat.reduceLeDiff,  e0, e3, e4, hc0]
    refine (rformat_any n w2 hnr).mono ?_
    rintro e w3 ⟨rfl, hb3⟩
    refine ⟨_, rfl, ?_⟩
    simp +contextual (maxSteps := 2000000) (disch := (first | omega | (simp only [SZ]; done) | (simp only [SZ]; omega) | (simp only [TS] at *; omega))) only [RZ, gval, gslot, fillL, ovw, numb, catL, ldN, agL, okC, oneC, init, Nat.reduceAdd, Nat.reduceMul, Nat.reduceSub, Nat.reduceEqDiff, Nat.reduceLT, ↓reduceIte, Int.reduceToNat, Int.reduceAdd, Int.reduceSub, Int.reduceMul, Int.reduceLT, Int.reduceLE, Int.reduceEq, Nat.reduceLeDiff,  e0, e3, e4, e7]
    refine hK _ _ ⟨hB.trans (hb3.mono hs2), k + 1, by omega, ?_⟩ ?_
    · simp +contextual (maxSteps := 2000000) (disch := (first | omega | (simp only [SZ]; done) | (simp only [SZ]; omega) | (simp only [TS] at *; omega))) only [RZ, gval, gslot, fillL, ovw, numb, catL, ldN, agL, okC, oneC, init, Nat.reduceAdd, Nat.reduceMul, Nat.reduceSub, Nat.reduceEqDiff, Nat.reduceLT, ↓reduceIte, Int.reduceToNat, Int.reduceAdd, Int.reduceSub, Int.reduceMul, Int.reduceLT, Int.reduceLE, Int.reduceEq, Nat.reduceLeDiff,  e0, e3, e4]
    · simp +contextual (maxSteps := 2000000) (disch := (first | omega | (simp only [SZ]; done) | (simp only [SZ]; omega) | (simp only [TS] at *; omega))) only [RZ, gval, gslot, fillL, ovw, numb, catL, ldN, agL, okC, oneC, init, Nat.reduceAdd, Nat.reduceMul, Nat.reduceSub, Nat.reduceEqDiff, Nat.reduceLT, ↓reduceIte, Int.reduceToNat, Int.reduceAdd, Int.reduceSub, Int.reduceMul, Int.reduceLT, Int.reduceLE, Int.reduceEq, Nat.reduceLeDiff,  intOf, e4]
      omega
  · have hke : k = L.length := by omega
    subst hke
    rw [List.take_length] at e3
    simp +contextual (maxSteps := 2000000) (disch := (first | omega | (simp only [SZ]; done) | (simp only [SZ]; omega) | (simp only [TS] at *; omega))) only [RZ, gval, gslot, fillL, ovw, numb, catL, ldN, agL, okC, oneC, init, Nat.reduceAdd, Nat.reduceMul, Nat.reduceSub, Nat.reduceEqDiff, Nat.reduceLT, ↓reduceIte, Int.reduceToNat, Int.reduceAdd, Int.reduceSub, Int.reduceMul, Int.reduceLT, Int.reduceLE, Int.reduceEq, Nat.reduceLeDiff,  e0, e3, e4]
    exact hB
theorem rfield_any (c : Cm) (v : Value) (x : Nat) (w : World) (hok : c.ok) (hv : NumR w v c.nums) (_hx : x < 256) (h1 : c.name.size ≤ 1000000) (h2 : c.text.size ≤ 1000000) (h3 : c.nums.length ≤ 1000000) :
    Calls Tryd.prog 34 #[.int .u8 x, .agg (cmV c v).toArray] w fun e w' => e = .returned (.string (toBA (rprF c x))) ∧ Below w.heap.size w w' := by
  refine calls_W (l := [_, _]) Tryd.func34 rfl _ Tryd.ntmps34 (by simp) ?_
  obtain ⟨hk, ha, hw, hca, hb, hns, hke, hno⟩ := hok
  obtain ⟨A, cp, rfl, harr⟩ := hv
  unfold cmV
  simp +contextual (maxSteps := 2000000) (disch := (first | omega | (simp only [SZ]; done) | (simp only [SZ]; omega) | (simp only [TS] at *; omega))) only [RZ, gval, gslot, fillL, ovw, numb, catL, ldN, agL, okC, oneC, init, Nat.reduceAdd, Nat.reduceMul, Nat.reduceSub, Nat.reduceEqDiff, Nat.reduceLT, ↓reduceIte, Int.reduceToNat, Int.reduceAdd, Int.reduceSub, Int.reduceMul, Int.reduceLT, Int.reduceLE, Int.reduceEq, Nat.reduceLeDiff]
  generalize hw1 : w.alloc _ = w1
  have hB1 : Below w.heap.size w w1 := by rw [← hw1]; exact below_alloc _ _
  have hr1 : Row w1 w.heap.size 25 (cmV c (.slice A c.nums.length cp)) := by rw [← hw1]; exact Row.new _ _ _
  have t1 := hr1.ten
  have hs1 := hB1.size
  clear hw1
  have num : ∀ (n : Int) (R : Value → World → Prop), numR n → (∀ w2, Below w.heap.size w w2 → R (.string (fmtB n)) w2) → Calls Tryd.prog 33 #[.int .i64 n] w1 fun e w'' => ∃ v, e = .returned v ∧ R v w'' := fun n R hn hR =>
    (rformat_any n w1 hn).mono fun e w2 ⟨he, hb⟩ => ⟨_, he, hR w2 (hB1.trans (hb.mono hs1))⟩
  have hz : (⟨#[32]⟩ : ByteArray).size = 1 := rfl
  unfold rprF
  (refine W_if rfl (fun hc => ?_) (fun hc => ?_) <;> (try simp only [TS] at hc))
  · rw [if_pos (by omega)]
    have hf := fmtB_size hw
    simp +contextual (maxSteps := 2000000) (disch := (first | omega | (simp only [SZ]; done) | (simp only [SZ]; omega) | (simp only [TS] at *; omega))) only [RZ, gval, gslot, fillL, ovw, numb, catL, ldN, agL, okC, oneC, init, Nat.reduceAdd, Nat.reduceMul, Nat.reduceSub, Nat.reduceEqDiff, Nat.reduceLT, ↓reduceIte, Int.reduceToNat, Int.reduceAdd, Int.reduceSub, Int.reduceMul, Int.reduceLT, Int.reduceLE, Int.reduceEq, Nat.reduceLeDiff,  t1]
    refine num c.who _ hw fun w2 hB2 => ?_
    simp +contextual (maxSteps := 2000000) (disch := (first | omega | (simp only [SZ]; done) | (simp only [SZ]; omega) | (simp only [TS] at *; omega))) only [RZ, gval, gslot, fillL, ovw, numb, catL, ldN, agL, okC, oneC, init, Nat.reduceAdd, Nat.reduceMul, Nat.reduceSub, Nat.reduceEqDiff, Nat.reduceLT, ↓reduceIte, Int.reduceToNat, Int.reduceAdd, Int.reduceSub, Int.reduceMul, Int.reduceLT, Int.reduceLE, Int.reduceEq, Nat.reduceLeDiff,  sp_fmt]
    exact hB2
  rw [if_neg (by omega)]
  clear hc
  simp +contextual (maxSteps := 2000000) (disch := (first | omega | (simp only [SZ]; done) | (simp only [SZ]; omega) | (simp only [TS] at *; omega))) only [RZ, gval, gslot, fillL, ovw, numb, catL, ldN, agL, okC, oneC, init, Nat.reduceAdd, Nat.reduceMul, Nat.reduceSub, Nat.reduceEqDiff, Nat.reduceLT, ↓reduceIte, Int.reduceToNat, Int.reduceAdd, Int.reduceSub, Int.reduceMul, Int.reduceLT, Int.reduceLE, Int.reduceEq, Nat.reduceLeDiff]
  (refine W_if rfl (fun hc => ?_) (fun hc => ?_) <;> (try simp only [TS] at hc))
  · rw [if_pos (by omega)]
    have hf := fmtB_size hca
    simp +contextual (maxSteps := 2000000) (disch := (first | omega | (simp only [SZ]; done) | (simp only [SZ]; omega) | (simp only [TS] at *; omega))) only [RZ, gval, gslot, fillL, ovw, numb, catL, ldN, agL, okC, oneC, init, Nat.reduceAdd, Nat.reduceMul, Nat.reduceSub, Nat.reduceEqDiff, Nat.reduceLT, ↓reduceIte, Int.reduceToNat, Int.reduceAdd, Int.reduceSub, Int.reduceMul, Int.reduceLT, Int.reduceLE, Int.reduceEq, Nat.reduceLeDiff,  t1]
    refine num c.a _ hca fun w2 hB2 => ?_
    simp +contextual (maxSteps := 2000000) (disch := (first | omega | (simp only [SZ]; done) | (simp only [SZ]; omega) | (simp only [TS] at *; omega))) only [RZ, gval, gslot, fillL, ovw, numb, catL, ldN, agL, okC, oneC, init, Nat.reduceAdd, Nat.reduceMul, Nat.reduceSub, Nat.reduceEqDiff, Nat.reduceLT, ↓reduceIte, Int.reduceToNat, Int.reduceAdd, Int.reduceSub, Int.reduceMul, Int.reduceLT, Int.reduceLE, Int.reduceEq, Nat.reduceLeDiff,  sp_fmt]
    exact hB2
  rw [if_neg (by omega)]
  clear hc
  simp +contextual (maxSteps := 2000000) (disch := (first | omega | (simp only [SZ]; done) | (simp only [SZ]; omega) | (simp only [TS] at *; omega))) only [RZ, gval, gslot, fillL, ovw, numb, catL, ldN, agL, okC, oneC, init, Nat.reduceAdd, Nat.reduceMul, Nat.reduceSub, Nat.reduceEqDiff, Nat.reduceLT, ↓reduceIte, Int.reduceToNat, Int.reduceAdd, Int.reduceSub, Int.reduceMul, Int.reduceLT, Int.reduceLE, Int.reduceEq, Nat.reduceLeDiff]
  (refine W_if rfl (fun hc => ?_) (fun hc => ?_) <;> (try simp only [TS] at hc))
  · rw [if_pos (by omega)]
    have hf := fmtB_size hb
    simp +contextual (maxSteps := 2000000) (disch := (first | omega | (simp only [SZ]; done) | (simp only [SZ]; omega) | (simp only [TS] at *; omega))) only [RZ, gval, gslot, fillL, ovw, numb, catL, ldN, agL, okC, oneC, init, Nat.reduceAdd, Nat.reduceMul, Nat.reduceSub, Nat.reduceEqDiff, Nat.reduceLT, ↓reduceIte, Int.reduceToNat, Int.reduceAdd, Int.reduceSub, Int.reduceMul, Int.reduceLT, Int.reduceLE, Int.reduceEq, Nat.reduceLeDiff,  t1]
    refine num c.b _ hb fun w2 hB2 => ?_
    simp +contextual (maxSteps := 2000000) (disch := (first | omega | (simp only [SZ]; done) | (simp only [SZ]; omega) | (simp only [TS] at *; omega))) only [RZ, gval, gslot, fillL, ovw, numb, catL, ldN, agL, okC, oneC, init, Nat.reduceAdd, Nat.reduceMul, Nat.reduceSub, Nat.reduceEqDiff, Nat.reduceLT, ↓reduceIte, Int.reduceToNat, Int.reduceAdd, Int.reduceSub, Int.reduceMul, Int.reduceLT, Int.reduceLE, Int.reduceEq, Nat.reduceLeDiff,  sp_fmt]
    exact hB2
  rw [if_neg (by omega)]
  clear hc
  simp +contextual (maxSteps := 2000000) (disch := (first | omega | (simp only [SZ]; done) | (simp only [SZ]; omega) | (simp only [TS] at *; omega))) only [RZ, gval, gslot, fillL, ovw, numb, catL, ldN, agL, okC, oneC, init, Nat.reduceAdd, Nat.reduceMul, Nat.reduceSub, Nat.reduceEqDiff, Nat.reduceLT, ↓reduceIte, Int.reduceToNat, Int.reduceAdd, Int.reduceSub, Int.reduceMul, Int.reduceLT, Int.reduceLE, Int.reduceEq, Nat.reduceLeDiff]
  (refine W_if rfl (fun hc => ?_) (fun hc => ?_) <;> (try simp only [TS] at hc))
  · rw [if_pos (by omega)]
    simp +contextual (maxSteps := 2000000) (disch := (first | omega | (simp only [SZ]; done) | (simp only [SZ]; omega) | (simp only [TS] at *; omega))) only [RZ, gval, gslot, fillL, ovw, numb, catL, ldN, agL, okC, oneC, init, Nat.reduceAdd, Nat.reduceMul, Nat.reduceSub, Nat.reduceEqDiff, Nat.reduceLT, ↓reduceIte, Int.reduceToNat, Int.reduceAdd, Int.reduceSub, Int.reduceMul, Int.reduceLT, Int.reduceLE, Int.reduceEq, Nat.reduceLeDiff,  t1, sp_app]
    exact hB1
  rw [if_neg (by omega)]
  clear hc
  simp +contextual (maxSteps := 2000000) (disch := (first | omega | (simp only [SZ]; done) | (simp only [SZ]; omega) | (simp only [TS] at *; omega))) only [RZ, gval, gslot, fillL, ovw, numb, catL, ldN, agL, okC, oneC, init, Nat.reduceAdd, Nat.reduceMul, Nat.reduceSub, Nat.reduceEqDiff, Nat.reduceLT, ↓reduceIte, Int.reduceToNat, Int.reduceAdd, Int.reduceSub, Int.reduceMul, Int.reduceLT, Int.reduceLE, Int.reduceEq, Nat.reduceLeDiff]
  (refine W_if rfl (fun hc => ?_) (fun hc => ?_) <;> (try simp only [TS] at hc))
  · rw [if_pos (by omega)]
    simp +contextual (maxSteps := 2000000) (disch := (first | omega | (simp only [SZ]; done) | (simp only [SZ]; omega) | (simp only [TS] at *; omega))) only [RZ, gval, gslot, fillL, ovw, numb, catL, ldN, agL, okC, oneC, init, Nat.reduceAdd, Nat.reduceMul, Nat.reduceSub, Nat.reduceEqDiff, Nat.reduceLT, ↓reduceIte, Int.reduceToNat, Int.reduceAdd, Int.reduceSub, Int.reduceMul, Int.reduceLT, Int.reduceLE, Int.reduceEq, Nat.reduceLeDiff,  t1]
    refine (rquote_any c.text w1 h2).mono ?_
    rintro e w2 ⟨rfl, hb2⟩
    refine ⟨_, rfl, ?_⟩
    have hqz := quote_size c.text h2
    have hqb := bs_toBA (l := quoteL (bs c.text)) (fun d hd => by have := quote_all (bs_lt c.text) d hd; omega)
    simp +contextual (maxSteps := 2000000) (disch := (first | omega | (simp only [SZ]; done) | (simp only [SZ]; omega) | (simp only [TS] at *; omega))) only [RZ, gval, gslot, fillL, ovw, numb, catL, ldN, agL, okC, oneC, init, Nat.reduceAdd, Nat.reduceMul, Nat.reduceSub, Nat.reduceEqDiff, Nat.reduceLT, ↓reduceIte, Int.reduceToNat, Int.reduceAdd, Int.reduceSub, Int.reduceMul, Int.reduceLT, Int.reduceLE, Int.reduceEq, Nat.reduceLeDiff,  sp_app, hqb]
    exact hB1.trans (hb2.mono hs1)
  rw [if_neg (by omega)]
  clear hc
  simp +contextual (maxSteps := 2000000) (disch := (first | omega | (simp only [SZ]; done) | (simp only [SZ]; omega) | (simp only [TS] at *; omega))) only [RZ, gval, gslot, fillL, ovw, numb, catL, ldN, agL, okC, oneC, init, Nat.reduceAdd, Nat.reduceMul, Nat.reduceSub, Nat.reduceEqDiff, Nat.reduceLT, ↓reduceIte, Int.reduceToNat, Int.reduceAdd, Int.reduceSub, Int.reduceMul, Int.reduceLT, Int.reduceLE, Int.reduceEq, Nat.reduceLeDiff]
  (refine W_if rfl (fun hc => ?_) (fun hc => ?_) <;> (try simp only [TS] at hc))
  · rw [if_pos (by omega)]
    obtain ⟨X, hX⟩ : ∃ X : Nat, c.key = X := ⟨c.key.toNat, by omega⟩
    rw [hX] at t1 hke ⊢
    simp +contextual (maxSteps := 2000000) (disch := (first | omega | (simp only [SZ]; done) | (simp only [SZ]; omega) | (simp only [TS] at *; omega))) only [RZ, gval, gslot, fillL, ovw, numb, catL, ldN, agL, okC, oneC, init, Nat.reduceAdd, Nat.reduceMul, Nat.reduceSub, Nat.reduceEqDiff, Nat.reduceLT, ↓reduceIte, Int.reduceToNat, Int.reduceAdd, Int.reduceSub, Int.reduceMul, Int.reduceLT, Int.reduceLE, Int.reduceEq, Nat.reduceLeDiff,  t1]
    refine (rhex_any X w1 (by omega)).mono ?_
    rintro e w2 ⟨rfl, hb2⟩
    refine ⟨_, rfl, ?_⟩
    have hqz : (toBA (hexT 16 X)).size = 16 := by rw [toBA_size, hexT_len]
    have hqb := bs_toBA (l := hexT 16 X) (fun d hd => by have := hexT_all 16 X d hd; omega)
    simp +contextual (maxSteps := 2000000) (disch := (first | omega | (simp only [SZ]; done) | (simp only [SZ]; omega) | (simp only [TS] at *; omega))) only [RZ, gval, gslot, fillL, ovw, numb, catL, ldN, agL, okC, oneC, init, Nat.reduceAdd, Nat.reduceMul, Nat.reduceSub, Nat.reduceEqDiff, Nat.reduceLT, ↓reduceIte, Int.reduceToNat, Int.reduceAdd, Int.reduceSub, Int.reduceMul, Int.reduceLT, Int.reduceLE, Int.reduceEq, Nat.reduceLeDiff,  sp_app, hqb]
    exact hB1.trans (hb2.mono hs1)
  rw [if_neg (by omega)]
  clear hc
  simp +contextual (maxSteps := 2000000) (disch := (first | omega | (simp only [SZ]; done) | (simp only [SZ]; omega) | (simp only [TS] at *; omega))) only [RZ, gval, gslot, fillL, ovw, numb, catL, ldN, agL, okC, oneC, init, Nat.reduceAdd, Nat.reduceMul, Nat.reduceSub, Nat.reduceEqDiff, Nat.reduceLT, ↓reduceIte, Int.reduceToNat, Int.reduceAdd, Int.reduceSub, Int.reduceMul, Int.reduceLT, Int.reduceLE, Int.reduceEq, Nat.reduceLeDiff]
  (refine W_if rfl (fun hc => ?_) (fun hc => ?_) <;> (try simp only [TS] at hc))
  · rw [if_pos (by omega)]
    obtain ⟨X, hX⟩ : ∃ X : Nat, c.nonce = X := ⟨c.nonce.toNat, by omega⟩
    rw [hX] at t1 hno ⊢
    simp +contextual (maxSteps := 2000000) (disch := (first | omega | (simp only [SZ]; done) | (simp only [SZ]; omega) | (simp only [TS] at *; omega))) only [RZ, gval, gslot, fillL, ovw, numb, catL, ldN, agL, okC, oneC, init, Nat.reduceAdd, Nat.reduceMul, Nat.reduceSub, Nat.reduceEqDiff, Nat.reduceLT, ↓reduceIte, Int.reduceToNat, Int.reduceAdd, Int.reduceSub, Int.reduceMul, Int.reduceLT, Int.reduceLE, Int.reduceEq, Nat.reduceLeDiff,  t1]
    refine (rhex_any X w1 (by omega)).mono ?_
    rintro e w2 ⟨rfl, hb2⟩
    refine ⟨_, rfl, ?_⟩
    have hqz : (toBA (hexT 16 X)).size = 16 := by rw [toBA_size, hexT_len]
    have hqb := bs_toBA (l := hexT 16 X) (fun d hd => by have := hexT_all 16 X d hd; omega)
    simp +contextual (maxSteps := 2000000) (disch := (first | omega | (simp only [SZ]; done) | (simp only [SZ]; omega) | (simp only [TS] at *; omega))) only [RZ, gval, gslot, fillL, ovw, numb, catL, ldN, agL, okC, oneC, init, Nat.reduceAdd, Nat.reduceMul, Nat.reduceSub, Nat.reduceEqDiff, Nat.reduceLT, ↓reduceIte, Int.reduceToNat, Int.reduceAdd, Int.reduceSub, Int.reduceMul, Int.reduceLT, Int.reduceLE, Int.reduceEq, Nat.reduceLeDiff,  sp_app, hqb]
    exact hB1.trans (hb2.mono hs1)
  rw [if_neg (by omega)]
  clear hc num
  simp +contextual (maxSteps := 2000000) (disch := (first | omega | (simp only [SZ]; done) | (simp only [SZ]; omega) | (simp only [TS] at *; omega))) only [RZ, gval, gslot, fillL, ovw, numb, catL, ldN, agL, okC, oneC, init, Nat.reduceAdd, Nat.reduceMul, Nat.reduceSub, Nat.reduceEqDiff, Nat.reduceLT, ↓reduceIte, Int.reduceToNat, Int.reduceAdd, Int.reduceSub, Int.reduceMul, Int.reduceLT, Int.reduceLE, Int.reduceEq, Nat.reduceLeDiff,  t1]
  refine (rlist_any _ c.nums w1 ⟨A, cp, rfl, harr.below (hB1.mono (Nat.le_refl _))⟩ hns h3).mono ?_
  rintro e w2 ⟨rfl, hb2⟩
  refine ⟨_, rfl, ?_⟩
  simp +contextual (maxSteps := 2000000) (disch := (first | omega | (simp only [SZ]; done) | (simp only [SZ]; omega) | (simp only [TS] at *; omega))) only [RZ, gval, gslot, fillL, ovw, numb, catL, ldN, agL, okC, oneC, init, Nat.reduceAdd, Nat.reduceMul, Nat.reduceSub, Nat.reduceEqDiff, Nat.reduceLT, ↓reduceIte, Int.reduceToNat, Int.reduceAdd, Int.reduceSub, Int.reduceMul, Int.reduceLT, Int.reduceLE, Int.reduceEq, Nat.reduceLeDiff]
  exact hB1.trans (hb2.mono hs1)
end Go.Proofs.YtjaeiiiniohloaaDoor
/- Walks: the reference's Print. -/
namespace Go.Proofs.YtjaeiiiniohloaaDoor
open Go.RowKit
set_option maxRecDepth 100000
theorem prL_lt (c : Cm) : ∀ d ∈ prL c, d < 256 := by
  unfold prL
  cases hf : fmOf c.kind with
  | none => intro d hd; cases hd
  | some f =>
    intro d hd
    have hw := fm_words f (fm_mem hf).1
    simp only [List.mem_append, List.mem_cons, List.not_mem_nil, or_false] at hd
    rcases hd with ((hd | rfl | hd) | hd) | rfl
    · exact fmtI_lt _ d hd
    · decide
    · exact hw d hd
    · obtain ⟨x, _, hd⟩ := List.mem_flatMap.1 hd
      exact prF_lt c x d hd
    · decide
theorem prs_lt (L : List Cm) : ∀ d ∈ L.flatMap prL, d < 256 := fun d hd => by
  obtain ⟨c, _, hd⟩ := List.mem_flatMap.1 hd
  exact prL_lt c d hd
theorem rf_up {c : Cm} {f : Fm} (h : fmOf c.kind = some f) : (rf c.kind).1 = f.word ∧ (rf c.kind).2 = upF f := by unfold rf; rw [h]; exact ⟨rfl, rfl⟩
theorem rprF_ex (c : Cm) (x : Nat) : ∃ y, rprF c x = prF c y := by
  unfold rprF
  split
  · exact ⟨119, rfl⟩
  split
  · exact ⟨97, rfl⟩
  split
  · exact ⟨98, rfl⟩
  split
  · exact ⟨110, rfl⟩
  split
  · exact ⟨116, rfl⟩
  split
  · exact ⟨107, rfl⟩
  split
  · exact ⟨111, rfl⟩
  · exact ⟨108, rfl⟩
set_option maxHeartbeats 2000000 in
theorem rprint_any (v : Value) (L : List Cm) (w : World) (hv : CmsR w v L) (hm : ∀ c ∈ L, c.mid) (hl : L.length ≤ 1000000) :
    Calls Tryd.prog 16 #[v] w fun e w' => e = .returned (.tuple #[.string (toBA (printE L).1), .int .i64 (printE L).2]) ∧ Below w.heap.size w w' := by
  refine calls_W (l := [_]) Tryd.func16 rfl _ Tryd.ntmps16 (by simp) ?_
  obtain ⟨A, cp, rfl⟩ : ∃ A cp, v = .slice A L.length cp := by obtain ⟨P, A, c, rfl, _⟩ := hv; exact ⟨A, c, rfl⟩
  generalize hR : printE L = R
  unfold printE at hR
  simp +contextual (maxSteps := 2000000) (disch := (first | omega | (simp only [SZ]; done) | (simp only [SZ]; omega) | (simp only [TS] at *; omega))) only [RZ, gval, gslot, fillL, ovw, numb, catL, ldN, agL, okC, oneC, init, Nat.reduceAdd, Nat.reduceMul, Nat.reduceSub, Nat.reduceEqDiff, Nat.reduceLT, ↓reduceIte, Int.reduceToNat, Int.reduceAdd, Int.reduceSub, Int.reduceMul, Int.reduceLT, Int.reduceLE, Int.reduceEq, Nat.reduceLeDiff]
  (refine W_if rfl (fun hc => ?_) (fun hc => ?_) <;> (try simp only [TS] at hc))
  · rw [if_pos (by omega)] at hR
    simp +contextual (maxSteps := 2000000) (disch := (first | omega | (simp only [SZ]; done) | (simp only [SZ]; omega) | (simp only [TS] at *; omega))) only [RZ, gval, gslot, fillL, ovw, numb, catL, ldN, agL, okC, oneC, init, Nat.reduceAdd, Nat.reduceMul, Nat.reduceSub, Nat.reduceEqDiff, Nat.reduceLT, ↓reduceIte, Int.reduceToNat, Int.reduceAdd, Int.reduceSub, Int.reduceMul, Int.reduceLT, Int.reduceLE, Int.reduceEq, Nat.reduceLeDiff]
    rw [← hR]
    exact ⟨rfl, Below.refl _ _⟩
  rw [if_neg (by omega)] at hR
  have hl5 : L.length ≤ 512 := by omega
  clear hc
  simp +contextual (maxSteps := 2000000) (disch := (first | omega | (simp only [SZ]; done) | (simp only [SZ]; omega) | (simp only [TS] at *; omega))) only [RZ, gval, gslot, fillL, ovw, numb, catL, ldN, agL, okC, oneC, init, Nat.reduceAdd, Nat.reduceMul, Nat.reduceSub, Nat.reduceEqDiff, Nat.reduceLT, ↓reduceIte, Int.reduceToNat, Int.reduceAdd, Int.reduceSub, Int.reduceMul, Int.reduceLT, Int.reduceLE, Int.reduceEq, Nat.reduceLeDiff]
  generalize hE : firstE L = E at hR
  refine Raw_loop (fun σ w2 => Below w.heap.size w w2 ∧ ∃ k : Nat, k ≤ L.length ∧ firstE (L.drop k) = E ∧ (∀ c ∈ L.take k, chkE c = 0) ∧ σ 0 = .slice A L.length cp ∧ σ 4 = .string (toBA ((L.take k).flatMap prL)) ∧ σ 5 = .int .i64 k) (fun σ _ => L.length - (intOf (σ 5)).toNat) ?_ ?_
  · simp +contextual (maxSteps := 2000000) (disch := (first | omega | (simp only [SZ]; done) | (simp only [SZ]; omega) | (simp only [TS] at *; omega))) only [RZ, gval, gslot, fillL, ovw, numb, catL, ldN, agL, okC, oneC, init, Nat.reduceAdd, Nat.reduceMul, Nat.reduceSub, Nat.reduceEqDiff, Nat.reduceLT, ↓reduceIte, Int.reduceToNat, Int.reduceAdd, Int.reduceSub, Int.reduceMul, Int.reduceLT, Int.reduceLE, Int.reduceEq, Nat.reduceLeDiff]
    exact ⟨Below.refl _ _, 0, by omega, hE, fun c h => by simp at h, rfl, rfl⟩
  clear hE
  rintro σ w2 ⟨hB, k, hk, hE, hno, e0, e4, e5⟩ K hK
  have hs2 := hB.size
  have hX : ((L.take k).flatMap prL).length ≤ 700000 * k := by
    have := flat_le prL 700000 (L.take k) (fun c hc => by
      have h1 := hno c hc
      have h2 := hm c (List.mem_of_mem_take hc)
      have h3 := prL_len h2.1 h1
      obtain ⟨f, _, _, _, _, _, _, h4, h5⟩ := chk_parts h1
      omega)
    rw [List.length_take] at this
    omega
  have hprs : ∀ c, L[k]? = some c → (L.take (k + 1)).flatMap prL = (L.take k).flatMap prL ++ prL c := fun c hc => by
    rw [List.take_add_one, hc, Option.toList_some, List.flatMap_append, List.flatMap_cons, List.flatMap_nil, List.append_nil]
  have hend : k = L.length → (L.take k).flatMap prL = L.flatMap prL := fun h => by rw [h, List.take_length]
  have hXlt := prs_lt (L.take k)
  generalize (L.take k).flatMap prL = X at *
  simp +contextual (maxSteps := 2000000) (disch := (first | omega | (simp only [SZ]; done) | (simp only [SZ]; omega) | (simp only [TS] at *; omega))) only [RZ, gval, gslot, fillL, ovw, numb, catL, ldN, agL, okC, oneC, init, Nat.reduceAdd, Nat.reduceMul, Nat.reduceSub, Nat.reduceEqDiff, Nat.reduceLT, ↓reduceIte, Int.reduceToNat, Int.reduceAdd, Int.reduceSub, Int.reduceMul, Int.reduceLT, Int.reduceLE, Int.reduceEq, Nat.reduceLeDiff,  e0, e4, e5]
  (refine W_if rfl (fun hc => ?_) (fun hc => ?_) <;> (try simp only [TS] at hc))
  · have hkl : k < L.length := by omega
    clear hc hend
    obtain ⟨b, o, cp2, c, u, hvv, hbb, hLk, hN, hcell0⟩ := hv.at_ hkl
    injection hvv with hA _ hcp
    subst hA hcp
    have hmc := hm c (List.mem_of_getElem? hLk)
    obtain ⟨An, cn, rfl, hNa⟩ := hN
    have hcell := fun (j : Nat) (x : Value) (hx : (cmV c (.slice An c.nums.length cn))[j]? = some x) => fun (w' : World) (hB' : Below w.heap.size w w') => ((bcell hB').1 b (o + k * 10 + j) hbb).trans (hcell0 j x hx)
    obtain ⟨hok, m1, m2, m3⟩ := hmc
    have hprs := hprs c hLk
    rw [firstE_drop hLk] at hE
    have q : ∀ w', Below w.heap.size w w' → w'.cell? ⟨b, o + k * 10, none⟩ = some (.int .i64 c.kind) ∧ w'.cell? ⟨b, o + k * 10 + 1, none⟩ = some (.int .i64 c.at_) ∧ w'.cell? ⟨b, o + k * 10 + 2, none⟩ = some (.int .i64 c.who) ∧ w'.cell? ⟨b, o + k * 10 + 3, none⟩ = some (.int .i64 c.a) ∧ w'.cell? ⟨b, o + k * 10 + 4, none⟩ = some (.int .i64 c.b) ∧
        w'.cell? ⟨b, o + k * 10 + 5, none⟩ = some (.string c.name) ∧ w'.cell? ⟨b, o + k * 10 + 6, none⟩ = some (.string c.text) ∧ w'.cell? ⟨b, o + k * 10 + 7, none⟩ = some (.slice An c.nums.length cn) ∧ w'.cell? ⟨b, o + k * 10 + 8, none⟩ = some (.int .u64 c.key) ∧ w'.cell? ⟨b, o + k * 10 + 9, none⟩ = some (.int .u64 c.nonce) := fun w' h =>
      ⟨hcell 0 _ rfl w' h, hcell 1 _ rfl w' h, hcell 2 _ rfl w' h, hcell 3 _ rfl w' h, hcell 4 _ rfl w' h, hcell 5 _ rfl w' h, hcell 6 _ rfl w' h, hcell 7 _ rfl w' h, hcell 8 _ rfl w' h, hcell 9 _ rfl w' h⟩
    clear hcell hcell0
    have q2 := q w2 hB
    simp +contextual (maxSteps := 2000000) (disch := (first | omega | (simp only [SZ]; done) | (simp only [SZ]; omega) | (simp only [TS] at *; omega))) only [RZ, gval, gslot, fillL, ovw, numb, catL, ldN, agL, okC, oneC, init, Nat.reduceAdd, Nat.reduceMul, Nat.reduceSub, Nat.reduceEqDiff, Nat.reduceLT, ↓reduceIte, Int.reduceToNat, Int.reduceAdd, Int.reduceSub, Int.reduceMul, Int.reduceLT, Int.reduceLE, Int.reduceEq, Nat.reduceLeDiff,  e0, e4, e5, q2]
    refine (rcheck_any c An cn w2 (by omega) (by omega) (by omega)).mono ?_
    rintro e w3 ⟨rfl, hb3⟩
    refine ⟨_, rfl, ?_⟩
    rw [rchk_is]
    have hB3 := hB.trans (hb3.mono hs2)
    have hs3 := hB3.size
    simp +contextual (maxSteps := 2000000) (disch := (first | omega | (simp only [SZ]; done) | (simp only [SZ]; omega) | (simp only [TS] at *; omega))) only [RZ, gval, gslot, fillL, ovw, numb, catL, ldN, agL, okC, oneC, init, Nat.reduceAdd, Nat.reduceMul, Nat.reduceSub, Nat.reduceEqDiff, Nat.reduceLT, ↓reduceIte, Int.reduceToNat, Int.reduceAdd, Int.reduceSub, Int.reduceMul, Int.reduceLT, Int.reduceLE, Int.reduceEq, Nat.reduceLeDiff,  e0, e4, e5]
    (refine W_if rfl (fun hc => ?_) (fun hc => ?_) <;> (try simp only [TS] at hc))
    · rw [if_pos hc] at hE
      subst hE
      rw [if_pos hc] at hR
      simp +contextual (maxSteps := 2000000) (disch := (first | omega | (simp only [SZ]; done) | (simp only [SZ]; omega) | (simp only [TS] at *; omega))) only [RZ, gval, gslot, fillL, ovw, numb, catL, ldN, agL, okC, oneC, init, Nat.reduceAdd, Nat.reduceMul, Nat.reduceSub, Nat.reduceEqDiff, Nat.reduceLT, ↓reduceIte, Int.reduceToNat, Int.reduceAdd, Int.reduceSub, Int.reduceMul, Int.reduceLT, Int.reduceLE, Int.reduceEq, Nat.reduceLeDiff,  e0, e4, e5]
      rw [← hR]
      exact ⟨rfl, hB3⟩
    have hchk : chkE c = 0 := by omega
    rw [if_neg (by omega)] at hE
    clear hc
    obtain ⟨f, hf, ha0, ha1, hidle, hnums, hname, htx, hnl⟩ := chk_parts hchk
    obtain ⟨hfm, hfk⟩ := fm_mem hf
    have hff := fm_facts f hfm
    obtain ⟨r1, r2⟩ := rf_up hf
    obtain ⟨hu1, hu2, _⟩ := rf_sz f hfm
    have hwb := bs_toBA (fm_words f hfm)
    have hwz := toBA_size f.word
    have hub := bs_toBA hu2
    have huz := toBA_size (upF f)
    have hul : (upF f).length = f.fields.length := by unfold upF; rw [List.length_map]
    have hplx : ∀ x, (rprF c x).length ≤ 140000 := fun x => by
      have h1 := cmName_len c f hname hidle
      obtain ⟨y, hy⟩ := rprF_ex c x
      have h2 := prF_len hok h1 y
      rw [hy]
      omega
    have hrlt : ∀ x, ∀ d ∈ rprF c x, d < 256 := fun x => by
      obtain ⟨y, hy⟩ := rprF_ex c x
      rw [hy]
      exact prF_lt c y
    have q3 := q w3 hB3
    simp +contextual (maxSteps := 2000000) (disch := (first | omega | (simp only [SZ]; done) | (simp only [SZ]; omega) | (simp only [TS] at *; omega))) only [RZ, gval, gslot, fillL, ovw, numb, catL, ldN, agL, okC, oneC, init, Nat.reduceAdd, Nat.reduceMul, Nat.reduceSub, Nat.reduceEqDiff, Nat.reduceLT, ↓reduceIte, Int.reduceToNat, Int.reduceAdd, Int.reduceSub, Int.reduceMul, Int.reduceLT, Int.reduceLE, Int.reduceEq, Nat.reduceLeDiff,  e0, e4, e5, q3]
    refine (form_any c.kind w3).mono ?_
    rintro e w4 ⟨rfl, rfl⟩
    refine ⟨_, rfl, ?_⟩
    unfold rfV
    rw [r1, r2]
    have hXz := toBA_size X
    have hfz := fmtB_size hok.2.1
    have hz1 : (⟨#[32]⟩ : ByteArray).size = 1 := rfl
    have hz2 : (⟨#[10]⟩ : ByteArray).size = 1 := rfl
    have hs5 : (toBA X ++ fmtB c.at_).size ≤ 700000 * k + 21 := by rw [ByteArray.size_append]; omega
    have hs6 : (toBA X ++ fmtB c.at_ ++ (⟨#[32]⟩ : ByteArray)).size ≤ 700000 * k + 22 := by rw [ByteArray.size_append]; omega
    have hs7 : (toBA X ++ fmtB c.at_ ++ (⟨#[32]⟩ : ByteArray) ++ toBA f.word).size ≤ 700000 * k + 30 := by rw [ByteArray.size_append]; omega
    have hbs7 : toBA X ++ fmtB c.at_ ++ (⟨#[32]⟩ : ByteArray) ++ toBA f.word = toBA (X ++ (fmtI c.at_ ++ [32] ++ f.word)) := by
      refine bs_inj ?_
      have h1 : ∀ d ∈ X ++ (fmtI c.at_ ++ [32] ++ f.word), d < 256 := fun d hd => by
        simp only [List.mem_append, List.mem_cons, List.not_mem_nil, or_false] at hd
        rcases hd with hd | (hd | rfl) | hd
        · exact hXlt d hd
        · exact fmtI_lt _ d hd
        · decide
        · exact fm_words f hfm d hd
      rw [bs_append, bs_append, bs_append, bs_toBA hXlt, bs_fmtB, hwb, bs_toBA h1]
      simp [bs]
    simp +contextual (maxSteps := 2000000) (disch := (first | omega | (simp only [SZ]; done) | (simp only [SZ]; omega) | (simp only [TS] at *; omega))) only [RZ, gval, gslot, fillL, ovw, numb, catL, ldN, agL, okC, oneC, init, Nat.reduceAdd, Nat.reduceMul, Nat.reduceSub, Nat.reduceEqDiff, Nat.reduceLT, ↓reduceIte, Int.reduceToNat, Int.reduceAdd, Int.reduceSub, Int.reduceMul, Int.reduceLT, Int.reduceLE, Int.reduceEq, Nat.reduceLeDiff,  e0, e4, e5, q3]
    refine (rformat_any c.at_ w3 hok.2.1).mono ?_
    rintro e w4 ⟨rfl, hb4⟩
    refine ⟨_, rfl, ?_⟩
    have hB4 := hB3.trans (hb4.mono hs3)
    have hs4 := hB4.size
    simp +contextual (maxSteps := 2000000) (disch := (first | omega | (simp only [SZ]; done) | (simp only [SZ]; omega) | (simp only [TS] at *; omega))) only [RZ, gval, gslot, fillL, ovw, numb, catL, ldN, agL, okC, oneC, init, Nat.reduceAdd, Nat.reduceMul, Nat.reduceSub, Nat.reduceEqDiff, Nat.reduceLT, ↓reduceIte, Int.reduceToNat, Int.reduceAdd, Int.reduceSub, Int.reduceMul, Int.reduceLT, Int.reduceLE, Int.reduceEq, Nat.reduceLeDiff,  e0, e4, e5, hbs7]
    have hend : ∀ Z, Z = X ++ (fmtI c.at_ ++ [32] ++ f.word) → Z ++ (upF f).flatMap (rprF c) ++ [10] = X ++ prL c := fun Z h => by
      rw [h, ← rprL_is hchk]
      unfold rprL
      rw [r1, r2]
      simp
    have hYlt : ∀ d ∈ X ++ (fmtI c.at_ ++ [32] ++ f.word), d < 256 := fun d hd => by
      simp only [List.mem_append, List.mem_cons, List.not_mem_nil, or_false] at hd
      rcases hd with hd | (hd | rfl) | hd
      · exact hXlt d hd
      · exact fmtI_lt _ d hd
      · decide
      · exact fm_words f hfm d hd
    rw [hbs7, toBA_size] at hs7
    have hend := hend _ rfl
    generalize X ++ (fmtI c.at_ ++ [32] ++ f.word) = Y at *
    have hul5 : (upF f).length ≤ 5 := by rw [hul]; exact hff.2.2.2.2.1
    clear hbs7 hs5 hs6
    generalize upF f = uf at *
    have htk : ∀ i, i ≤ uf.length → ((uf.take i).flatMap (rprF c)).length ≤ 140000 * i := fun i hi => by
      have := flat_le (rprF c) 140000 (uf.take i) (fun x _ => hplx x)
      rw [List.length_take] at this
      omega
    have hflt : ∀ (l : List Nat), ∀ d ∈ Y ++ l.flatMap (rprF c), d < 256 := fun l d hd => by
      rcases List.mem_append.1 hd with hd | hd
      · exact hYlt d hd
      · obtain ⟨x, _, hd⟩ := List.mem_flatMap.1 hd
        exact hrlt x d hd
    refine Raw_loop (fun σ w10 => Below w.heap.size w w10 ∧ ∃ i : Nat, i ≤ uf.length ∧ σ 0 = .slice (some ⟨b, o, none⟩) L.length cp ∧ σ 4 = .string (toBA (Y ++ (uf.take i).flatMap (rprF c))) ∧ σ 5 = .int .i64 k ∧ σ 8 = .string (toBA uf) ∧ σ 9 = .int .i64 i) (fun σ _ => uf.length - (intOf (σ 9)).toNat) ?_ ?_
    · simp +contextual (maxSteps := 2000000) (disch := (first | omega | (simp only [SZ]; done) | (simp only [SZ]; omega) | (simp only [TS] at *; omega))) only [RZ, gval, gslot, fillL, ovw, numb, catL, ldN, agL, okC, oneC, init, Nat.reduceAdd, Nat.reduceMul, Nat.reduceSub, Nat.reduceEqDiff, Nat.reduceLT, ↓reduceIte, Int.reduceToNat, Int.reduceAdd, Int.reduceSub, Int.reduceMul, Int.reduceLT, Int.reduceLE, Int.reduceEq, Nat.reduceLeDiff,  e0, e4, e5]
      exact ⟨hB4, 0, by omega, by simp, rfl⟩
    have e5' := e5
    clear e0 e4 e5
    rintro σ w10 ⟨hB10, i, hi, e0, e4, e5, e8, e9⟩ K2 hK2
    have htl := htk i hi
    have hs10 := hB10.size
    have hslt := hflt (uf.take i)
    have hsz4 : (toBA (Y ++ (uf.take i).flatMap (rprF c))).size ≤ 700000 * k + 30 + 140000 * i := by rw [toBA_size, List.length_append]; omega
    simp +contextual (maxSteps := 2000000) (disch := (first | omega | (simp only [SZ]; done) | (simp only [SZ]; omega) | (simp only [TS] at *; omega))) only [RZ, gval, gslot, fillL, ovw, numb, catL, ldN, agL, okC, oneC, init, Nat.reduceAdd, Nat.reduceMul, Nat.reduceSub, Nat.reduceEqDiff, Nat.reduceLT, ↓reduceIte, Int.reduceToNat, Int.reduceAdd, Int.reduceSub, Int.reduceMul, Int.reduceLT, Int.reduceLE, Int.reduceEq, Nat.reduceLeDiff,  e0, e4, e5, e8, e9]
    (refine W_if rfl (fun hc => ?_) (fun hc => ?_) <;> (try simp only [TS] at hc))
    · have hil : i < uf.length := by omega
      clear hc
      obtain ⟨x, hx⟩ : ∃ x, uf[i]? = some x := ⟨_, List.getElem?_eq_getElem hil⟩
      have hxl : x < 256 := hu2 x (List.mem_of_getElem? hx)
      have hbx : bt (toBA uf) i = x := by
        have := bs_get (s := toBA uf) (i := i) (by omega)
        rw [hub, hx] at this
        injection this with this
        exact this.symm
      refine Raw_rcS (fun w' => Below w.heap.size w w') (τ := ?ta) [0, 1, 2, 3, 4, 5, 6, 7] [8, 9, 10] MX rfl (by kernel_rfl) (by kernel_rfl) (by kernel_rfl) (fun _ _ _ h => h) hB10.drew (fun w' hw' => ?_) ?_; rotate_left
      · have qq := q w' hw'
        simp only [opsL_cons, opsL_nil, List.getElem?_toArray, List.getElem?_cons_zero, List.getElem?_cons_succ, optL_some]
        simp +contextual (maxSteps := 2000000) (disch := (first | omega | (simp only [SZ]; done) | (simp only [SZ]; omega) | (simp only [TS] at *; omega))) only [RZ, gval, gslot, fillL, ovw, numb, catL, ldN, agL, okC, oneC, init, Nat.reduceAdd, Nat.reduceMul, Nat.reduceSub, Nat.reduceEqDiff, Nat.reduceLT, ↓reduceIte, Int.reduceToNat, Int.reduceAdd, Int.reduceSub, Int.reduceMul, Int.reduceLT, Int.reduceLE, Int.reduceEq, Nat.reduceLeDiff,  qq, hbx, e0, e4, e5, e8, e9]
        exact rfl
      have hB10' := hB10.drew
      simp only [opsL_cons, opsL_nil, List.getElem?_toArray, List.getElem?_cons_zero, List.getElem?_cons_succ, optL_some]
      simp +contextual (maxSteps := 2000000) (disch := (first | omega | (simp only [SZ]; done) | (simp only [SZ]; omega) | (simp only [TS] at *; omega))) only [RZ, gval, gslot, fillL, ovw, numb, catL, ldN, agL, okC, oneC, init, Nat.reduceAdd, Nat.reduceMul, Nat.reduceSub, Nat.reduceEqDiff, Nat.reduceLT, ↓reduceIte, Int.reduceToNat, Int.reduceAdd, Int.reduceSub, Int.reduceMul, Int.reduceLT, Int.reduceLE, Int.reduceEq, Nat.reduceLeDiff,  EC_op, EC_nil, hB10', e0, e4, e5, e8, e9]
      have hNx : NumR w10.drew (.slice An c.nums.length cn) c.nums := ⟨An, cn, rfl, (hNa.below hB10).drew⟩
      refine (rfield_any c (.slice An c.nums.length cn) x w10.drew hok hNx hxl m1 m2 m3).mono ?_
      rintro e w11 ⟨rfl, hb11⟩
      have hB11 := hB10'.trans (hb11.mono hs10)
      refine ⟨_, rfl, hB11, ?_⟩
      have hpz := toBA_size (rprF c x)
      have hpx := hplx x
      have e7 : toBA (Y ++ (uf.take i).flatMap (rprF c)) ++ toBA (rprF c x) = toBA (Y ++ (uf.take (i + 1)).flatMap (rprF c)) := by
        rw [app_toBA, bs_toBA hslt, bs_toBA (hrlt x), List.take_add_one, hx, Option.toList_some, List.flatMap_append, List.flatMap_cons, List.flatMap_nil, List.append_nil, List.append_assoc]
      simp +contextual (maxSteps := 2000000) (disch := (first | omega | (simp only [SZ]; done) | (simp only [SZ]; omega) | (simp only [TS] at *; omega))) only [RZ, gval, gslot, fillL, ovw, numb, catL, ldN, agL, okC, oneC, init, Nat.reduceAdd, Nat.reduceMul, Nat.reduceSub, Nat.reduceEqDiff, Nat.reduceLT, ↓reduceIte, Int.reduceToNat, Int.reduceAdd, Int.reduceSub, Int.reduceMul, Int.reduceLT, Int.reduceLE, Int.reduceEq, Nat.reduceLeDiff,  EC_op, EC_nil, hB11, e7, e0, e4, e5, e8, e9]
      refine hK2 _ _ ⟨hB11, i + 1, by omega, ?_⟩ ?_
      · simp +contextual (maxSteps := 2000000) (disch := (first | omega | (simp only [SZ]; done) | (simp only [SZ]; omega) | (simp only [TS] at *; omega))) only [RZ, gval, gslot, fillL, ovw, numb, catL, ldN, agL, okC, oneC, init, Nat.reduceAdd, Nat.reduceMul, Nat.reduceSub, Nat.reduceEqDiff, Nat.reduceLT, ↓reduceIte, Int.reduceToNat, Int.reduceAdd, Int.reduceSub, Int.reduceMul, Int.reduceLT, Int.reduceLE, Int.reduceEq, Nat.reduceLeDiff,  e0, e4, e5, e8, e9]
      · simp +contextual (maxSteps := 2000000) (disch := (first | omega | (simp only [SZ]; done) | (simp only [SZ]; omega) | (simp only [TS] at *; omega))) only [RZ, gval, gslot, fillL, ovw, numb, catL, ldN, agL, okC, oneC, init, Nat.reduceAdd, Nat.reduceMul, Nat.reduceSub, Nat.reduceEqDiff, Nat.reduceLT, ↓reduceIte, Int.reduceToNat, Int.reduceAdd, Int.reduceSub, Int.reduceMul, Int.reduceLT, Int.reduceLE, Int.reduceEq, Nat.reduceLeDiff,  intOf, e9]
        omega
    · have hie : i = uf.length := by omega
      subst hie
      rw [List.take_length] at hslt hsz4 e4
      have e7 : toBA (Y ++ uf.flatMap (rprF c)) ++ (⟨#[10]⟩ : ByteArray) = toBA (X ++ prL c) := by
        rw [app_toBA, bs_toBA hslt, ← hend]; rfl
      simp +contextual (maxSteps := 2000000) (disch := (first | omega | (simp only [SZ]; done) | (simp only [SZ]; omega) | (simp only [TS] at *; omega))) only [RZ, gval, gslot, fillL, ovw, numb, catL, ldN, agL, okC, oneC, init, Nat.reduceAdd, Nat.reduceMul, Nat.reduceSub, Nat.reduceEqDiff, Nat.reduceLT, ↓reduceIte, Int.reduceToNat, Int.reduceAdd, Int.reduceSub, Int.reduceMul, Int.reduceLT, Int.reduceLE, Int.reduceEq, Nat.reduceLeDiff,  e0, e4, e5, e8, e9, e7]
      refine hK _ _ ⟨hB10, k + 1, by omega, hE, fun d hd => ?_, ?_⟩ ?_
      · rw [List.take_add_one, hLk] at hd
        rcases List.mem_append.1 hd with hd | hd
        · exact hno d hd
        · simp at hd; subst hd; exact hchk
      · simp +contextual (maxSteps := 2000000) (disch := (first | omega | (simp only [SZ]; done) | (simp only [SZ]; omega) | (simp only [TS] at *; omega))) only [RZ, gval, gslot, fillL, ovw, numb, catL, ldN, agL, okC, oneC, init, Nat.reduceAdd, Nat.reduceMul, Nat.reduceSub, Nat.reduceEqDiff, Nat.reduceLT, ↓reduceIte, Int.reduceToNat, Int.reduceAdd, Int.reduceSub, Int.reduceMul, Int.reduceLT, Int.reduceLE, Int.reduceEq, Nat.reduceLeDiff,  e0, e4, e5, e8, e9, hprs]
      · simp +contextual (maxSteps := 2000000) (disch := (first | omega | (simp only [SZ]; done) | (simp only [SZ]; omega) | (simp only [TS] at *; omega))) only [RZ, gval, gslot, fillL, ovw, numb, catL, ldN, agL, okC, oneC, init, Nat.reduceAdd, Nat.reduceMul, Nat.reduceSub, Nat.reduceEqDiff, Nat.reduceLT, ↓reduceIte, Int.reduceToNat, Int.reduceAdd, Int.reduceSub, Int.reduceMul, Int.reduceLT, Int.reduceLE, Int.reduceEq, Nat.reduceLeDiff,  intOf, e5']
        omega
  · have hkl : k = L.length := by omega
    rw [hend hkl] at e4
    subst hkl
    rw [List.drop_length, firstE] at hE
    subst hE
    rw [if_neg (by simp)] at hR
    simp +contextual (maxSteps := 2000000) (disch := (first | omega | (simp only [SZ]; done) | (simp only [SZ]; omega) | (simp only [TS] at *; omega))) only [RZ, gval, gslot, fillL, ovw, numb, catL, ldN, agL, okC, oneC, init, Nat.reduceAdd, Nat.reduceMul, Nat.reduceSub, Nat.reduceEqDiff, Nat.reduceLT, ↓reduceIte, Int.reduceToNat, Int.reduceAdd, Int.reduceSub, Int.reduceMul, Int.reduceLT, Int.reduceLE, Int.reduceEq, Nat.reduceLeDiff,  e0, e4, e5]
    rw [← hR]
    exact ⟨rfl, hB⟩
end Go.Proofs.YtjaeiiiniohloaaDoor
