/- Texts laid one behind the other: ScrT, ScrU, LexC, Bld, PrA. Each says at its head what it proves. -/
import Derived.Test.YtjaeiiiniohloaaDoorY07
import Derived.Lib.AppendIntMem
set_option linter.unusedSimpArgs false
/- Walks: script.parseLine. -/
namespace Go.Proofs.YtjaeiiiniohloaaDoor
open Go.RowKit
set_option maxRecDepth 100000
theorem Row.ten {w : World} {g : Nat} {T : TypeId} {a0 a1 a2 a3 a4 a5 a6 a7 a8 a9 : Value} {r : List Value} (h : Row w g T (a0 :: a1 :: a2 :: a3 :: a4 :: a5 :: a6 :: a7 :: a8 :: a9 :: r)) :
    (w.cell? ⟨g, 0, none⟩ = some a0 ∧ w.cell? ⟨g, 1, none⟩ = some a1 ∧ w.cell? ⟨g, 2, none⟩ = some a2 ∧ w.cell? ⟨g, 3, none⟩ = some a3 ∧ w.cell? ⟨g, 4, none⟩ = some a4 ∧ w.cell? ⟨g, 5, none⟩ = some a5 ∧ w.cell? ⟨g, 6, none⟩ = some a6 ∧ w.cell? ⟨g, 7, none⟩ = some a7 ∧ w.cell? ⟨g, 8, none⟩ = some a8 ∧ w.cell? ⟨g, 9, none⟩ = some a9) ∧
    (w.frozen? ⟨g, 0, none⟩ = false ∧ w.frozen? ⟨g, 1, none⟩ = false ∧ w.frozen? ⟨g, 2, none⟩ = false ∧ w.frozen? ⟨g, 3, none⟩ = false ∧ w.frozen? ⟨g, 4, none⟩ = false ∧ w.frozen? ⟨g, 5, none⟩ = false ∧ w.frozen? ⟨g, 6, none⟩ = false ∧ w.frozen? ⟨g, 7, none⟩ = false ∧ w.frozen? ⟨g, 8, none⟩ = false ∧ w.frozen? ⟨g, 9, none⟩ = false) :=
  ⟨⟨h.cell rfl, h.cell rfl, h.cell rfl, h.cell rfl, h.cell rfl, h.cell rfl, h.cell rfl, h.cell rfl, h.cell rfl, h.cell rfl⟩, ⟨h.frozen _, h.frozen _, h.frozen _, h.frozen _, h.frozen _, h.frozen _, h.frozen _, h.frozen _, h.frozen _, h.frozen _⟩⟩
def zeroC : List Value := [.int .i64 0, .int .i64 0, .int .i64 0, .int .i64 0, .int .i64 0, .string ByteArray.empty, .string ByteArray.empty, .slice none 0 0, .int .u64 0, .int .u64 0]
def lineIs (base : Nat) (e : Ending) (w : World) : Except Int Cm → Prop
  | .ok c => ∃ v, e = .returned (.tuple #[.agg (cmV c v).toArray, .int .i64 0]) ∧ NumIn base w v c.nums
  | .error x => e = .returned (.tuple #[.agg zeroC.toArray, .int .i64 x])
theorem only_ten {lo hi g : Nat} {a w : World} (h : Only lo hi a w) (h1 : lo ≤ g) (h2 : g < hi) (l : List Value) : ∀ o, Only lo hi a (w.setCells g o l) := by
  induction l generalizing w with
  | nil => intro o; exact h
  | cons v r ih => intro o; rw [setCells_cons]; exact ih (h.setCell (p := ⟨g, o, none⟩) h1 h2 v) (o + 1)
theorem fieldS_name {c c' : Cm} {x : Nat} {t : List Nat} (h0 : c.name.size ≤ 24) (h : fieldS c x t = some c') : c'.name.size ≤ 24 := by
  unfold fieldS at h
  split at h
  · split at h
    · injection h with h; subst h; exact h0
    · cases h
  split at h
  · split at h
    · injection h with h; subst h; exact h0
    · cases h
  split at h
  · split at h
    · injection h with h; subst h; exact h0
    · cases h
  split at h
  · split at h
    · rename_i hn
      injection h with h; subst h
      show (toBA t).size ≤ 24
      rw [toBA_size]
      unfold scNameB at hn
      simp only [Bool.and_eq_true, decide_eq_true_eq] at hn
      exact hn.1.2
    · cases h
  split at h
  · cases hh : hexE t with
    | none => rw [hh] at h; cases h
    | some k => rw [hh] at h; injection h with h; subst h; exact h0
  split at h
  · cases hh : hexE t with
    | none => rw [hh] at h; cases h
    | some k => rw [hh] at h; injection h with h; subst h; exact h0
  · cases h
theorem fieldsS_name (nums : Int) : ∀ (fl : List Nat) (c c' : Cm) (l : List Nat), c.name.size ≤ 24 → fieldsS nums c fl l = some c' → c'.name.size ≤ 24
  | [], c, c', l, h1, h => by
    unfold fieldsS at h
    split at h
    · injection h with h; subst h; exact h1
    · cases h
  | x :: fl, c, c', l, h1, h => by
    unfold fieldsS at h
    split at h
    · cases ht : textS l with
      | none => rw [ht] at h; cases h
      | some t => rw [ht] at h; exact fieldsS_name nums fl { c with text := toBA t } _ _ h1 h
    split at h
    · cases hn : numsF (l.length + 1) nums 0 l with
      | none => rw [hn] at h; cases h
      | some p => rw [hn] at h; exact fieldsS_name nums fl { c with nums := p.1 } _ _ h1 h
    · cases hc : cutS l with
      | none => rw [hc] at h; cases h
      | some p =>
        obtain ⟨t, r⟩ := p
        rw [hc] at h
        simp only at h
        cases hf : fieldS c x t with
        | none => rw [hf] at h; cases h
        | some c2 => rw [hf] at h; exact fieldsS_name nums fl _ _ _ (fieldS_name h1 hf) h
theorem fm_kind : ∀ f ∈ fmT, 1 ≤ f.kind ∧ f.kind ≤ 20 := by decide
theorem below_ten {B g : Nat} {w0 w : World} (h : Below B w0 w) (hg : B ≤ g) (l : List Value) : ∀ o, Below B w0 (w.setCells g o l) := by
  induction l generalizing w with
  | nil => intro o; exact h
  | cons v r ih => intro o; rw [setCells_cons]; exact ih (h.setCell (p := ⟨g, o, none⟩) hg v) (o + 1)
set_option maxHeartbeats 2000000 in
theorem parseLine_any (s : ByteArray) (w : World) (hL : Laid w) (hs : s.size ≤ 1000000) : Calls Tryd.prog 36 #[.string s] w fun e w' => lineIs w.heap.size e w' (lineS (bs s)) ∧ Below w.heap.size w w' := by
  refine calls_W (l := [_]) Tryd.func36 rfl _ Tryd.ntmps36 (by simp) ?_
  have hres := Tryd.results36
  have hsz := hL.size
  simp +contextual (maxSteps := 2000000) (disch := (first | omega | (simp only [SZ]; done) | (simp only [SZ]; omega) | (simp only [TS] at *; omega))) only [RZ, gval, gslot, fillL, ovw, numb, catL, ldN, agL, okC, oneC, init, Nat.reduceAdd, Nat.reduceMul, Nat.reduceSub, Nat.reduceEqDiff, Nat.reduceLT, ↓reduceIte, Int.reduceToNat, Int.reduceAdd, Int.reduceSub, Int.reduceMul, Int.reduceLT, Int.reduceLE, Int.reduceEq, Nat.reduceLeDiff]
  generalize hw1 : w.alloc (.cells #[.int .i64 0, .int .i64 0, .int .i64 0, .int .i64 0, .int .i64 0, .string ByteArray.empty, .string ByteArray.empty, .slice none 0 0, .int .u64 0, .int .u64 0] 25) = w1
  have hB1 : Below w.heap.size w w1 := by rw [← hw1]; exact below_alloc _ _
  have hs1 : w1.heap.size = w.heap.size + 1 := by rw [← hw1]; simp
  have hZ1 : Row w1 w.heap.size 25 zeroC := by rw [← hw1]; exact Row.new _ _ _
  clear hw1
  refine (scut_any 32 notSp (fun x => by simp [notSp]) s w1 (by omega)).mono ?_
  rintro e w2 ⟨rfl, hb2⟩
  refine ⟨_, rfl, ?_⟩
  have hZ2 := hZ1.below hb2
  have hB2 := hB1.trans (hb2.mono (by omega))
  have hs2 := hb2.size
  generalize hR : lineS (bs s) = R
  unfold lineS at hR
  unfold scV
  have hal := (tw_sub (q := notSp) (bs s)).1
  have hrl := (tw_sub (q := notSp) (bs s)).2
  have hlens := congrArg List.length (List.takeWhile_append_dropWhile (p := notSp) (l := bs s))
  rw [List.length_append, bs_len] at hlens
  have err : ∀ (x : Int) (w7 : World), R = .error x → Below w.heap.size w w7 → lineIs w.heap.size (.returned (.tuple #[.agg zeroC.toArray, .int .i64 x])) (w7.setCells w.heap.size 0 zeroC) R ∧ Below w.heap.size w (w7.setCells w.heap.size 0 zeroC) := fun x w7 h hb => by
    rw [h]
    exact ⟨rfl, below_ten hb (Nat.le_refl _) zeroC 0⟩
  generalize (bs s).takeWhile notSp = al at *
  generalize (bs s).dropWhile notSp = dl at *
  cases dl with
  | nil =>
    have t2 := hZ2.ten
    simp +contextual (maxSteps := 2000000) (disch := (first | omega | (simp only [SZ]; done) | (simp only [SZ]; omega) | (simp only [TS] at *; omega))) only [RZ, gval, gslot, fillL, ovw, numb, catL, ldN, agL, okC, oneC, init, Nat.reduceAdd, Nat.reduceMul, Nat.reduceSub, Nat.reduceEqDiff, Nat.reduceLT, ↓reduceIte, Int.reduceToNat, Int.reduceAdd, Int.reduceSub, Int.reduceMul, Int.reduceLT, Int.reduceLE, Int.reduceEq, Nat.reduceLeDiff,  t2, ne_eq, not_true_eq_false]
    refine W_if_t rfl ?_
    simp +contextual (maxSteps := 2000000) (disch := (first | omega | (simp only [SZ]; done) | (simp only [SZ]; omega) | (simp only [TS] at *; omega))) only [RZ, gval, gslot, fillL, ovw, numb, catL, ldN, agL, okC, oneC, init, Nat.reduceAdd, Nat.reduceMul, Nat.reduceSub, Nat.reduceEqDiff, Nat.reduceLT, ↓reduceIte, Int.reduceToNat, Int.reduceAdd, Int.reduceSub, Int.reduceMul, Int.reduceLT, Int.reduceLE, Int.reduceEq, Nat.reduceLeDiff,  t2]
    exact err 1 w2 hR.symm hB2
  | cons d rl =>
    rw [List.length_cons] at hlens
    simp +contextual (maxSteps := 2000000) (disch := (first | omega | (simp only [SZ]; done) | (simp only [SZ]; omega) | (simp only [TS] at *; omega))) only [RZ, gval, gslot, fillL, ovw, numb, catL, ldN, agL, okC, oneC, init, Nat.reduceAdd, Nat.reduceMul, Nat.reduceSub, Nat.reduceEqDiff, Nat.reduceLT, ↓reduceIte, Int.reduceToNat, Int.reduceAdd, Int.reduceSub, Int.reduceMul, Int.reduceLT, Int.reduceLE, Int.reduceEq, Nat.reduceLeDiff,  ne_eq, reduceCtorEq, not_false_eq_true, List.drop_succ_cons, List.drop_zero]
    refine W_if_f rfl ?_
    have hab := bs_toBA (l := al) (fun c h => bs_lt s c (hal c h))
    have hrb := bs_toBA (l := rl) (fun c h => bs_lt s c (hrl c (by simp [h])))
    have haz := toBA_size al
    have hrz := toBA_size rl
    simp +contextual (maxSteps := 2000000) (disch := (first | omega | (simp only [SZ]; done) | (simp only [SZ]; omega) | (simp only [TS] at *; omega))) only [RZ, gval, gslot, fillL, ovw, numb, catL, ldN, agL, okC, oneC, init, Nat.reduceAdd, Nat.reduceMul, Nat.reduceSub, Nat.reduceEqDiff, Nat.reduceLT, ↓reduceIte, Int.reduceToNat, Int.reduceAdd, Int.reduceSub, Int.reduceMul, Int.reduceLT, Int.reduceLE, Int.reduceEq, Nat.reduceLeDiff,  ne_eq]
    generalize toBA al = ab at *
    generalize toBA rl = rb at *
    subst hab hrb
    simp only at hR
    refine (scut_any 32 notSp (fun x => by simp [notSp]) rb w2 (by omega)).mono ?_
    rintro e w3 ⟨rfl, hb3⟩
    refine ⟨_, rfl, ?_⟩
    have hZ3 := hZ2.below hb3
    have hB3 := hB2.trans (hb3.mono (by omega))
    have hs3 := hb3.size
    unfold scV
    have hwl := (tw_sub (q := notSp) (bs rb)).1
    have hwb := bs_toBA (l := (bs rb).takeWhile notSp) (fun c h => bs_lt rb c (hwl c h))
    have hwz := toBA_size ((bs rb).takeWhile notSp)
    have hapd := List.takeWhile_append_dropWhile (p := notSp) (l := bs rb)
    have hwlen := congrArg List.length hapd
    rw [List.length_append, bs_len] at hwlen
    simp +contextual (maxSteps := 2000000) (disch := (first | omega | (simp only [SZ]; done) | (simp only [SZ]; omega) | (simp only [TS] at *; omega))) only [RZ, gval, gslot, fillL, ovw, numb, catL, ldN, agL, okC, oneC, init, Nat.reduceAdd, Nat.reduceMul, Nat.reduceSub, Nat.reduceEqDiff, Nat.reduceLT, ↓reduceIte, Int.reduceToNat, Int.reduceAdd, Int.reduceSub, Int.reduceMul, Int.reduceLT, Int.reduceLE, Int.reduceEq, Nat.reduceLeDiff,  ne_eq]
    have hdw : bs (rb.extract (toBA ((bs rb).takeWhile notSp)).size rb.size) = (bs rb).dropWhile notSp := by
      rw [hwz, bs_extract, List.take_of_length_le (by rw [List.length_drop, bs_len]; omega)]
      have h := List.drop_left (l₁ := (bs rb).takeWhile notSp) (l₂ := (bs rb).dropWhile notSp)
      rw [hapd] at h
      exact h
    generalize toBA ((bs rb).takeWhile notSp) = wb at *
    rw [← hwb] at hR
    refine (formNamed_any wb w3 (hL.below hB3 hsz)).mono ?_
    rintro e w4 ⟨rfl, hb4⟩
    refine ⟨_, rfl, ?_⟩
    have hZ4 := hZ3.below hb4
    have hB4 := hB3.trans (hb4.mono (by omega))
    have hs4 := hb4.size
    cases hfm : fmNamed (bs wb) with
    | none =>
      rw [hfm] at hR
      unfold fmV
      simp +contextual (maxSteps := 2000000) (disch := (first | omega | (simp only [SZ]; done) | (simp only [SZ]; omega) | (simp only [TS] at *; omega))) only [RZ, gval, gslot, fillL, ovw, numb, catL, ldN, agL, okC, oneC, init, Nat.reduceAdd, Nat.reduceMul, Nat.reduceSub, Nat.reduceEqDiff, Nat.reduceLT, ↓reduceIte, Int.reduceToNat, Int.reduceAdd, Int.reduceSub, Int.reduceMul, Int.reduceLT, Int.reduceLE, Int.reduceEq, Nat.reduceLeDiff]
      generalize hw5 : w4.alloc _ = w5
      have hZ5 : Row w5 w.heap.size 25 zeroC := by rw [← hw5]; exact hZ4.alloc _
      have hB5 : Below w.heap.size w w5 := by rw [← hw5]; exact below_alloc_of hB4 _ (by omega)
      clear hw5
      refine W_if_t rfl ?_
      have t5 := hZ5.ten
      simp +contextual (maxSteps := 2000000) (disch := (first | omega | (simp only [SZ]; done) | (simp only [SZ]; omega) | (simp only [TS] at *; omega))) only [RZ, gval, gslot, fillL, ovw, numb, catL, ldN, agL, okC, oneC, init, Nat.reduceAdd, Nat.reduceMul, Nat.reduceSub, Nat.reduceEqDiff, Nat.reduceLT, ↓reduceIte, Int.reduceToNat, Int.reduceAdd, Int.reduceSub, Int.reduceMul, Int.reduceLT, Int.reduceLE, Int.reduceEq, Nat.reduceLeDiff,  t5]
      exact err 7 _ hR.symm hB5
    | some f =>
      rw [hfm] at hR
      simp only at hR
      have hf : f ∈ fmT := List.mem_of_find?_eq_some hfm
      have hfz := fm_facts f hf
      have hkd := fm_kind f hf
      unfold fmV encFm
      simp +contextual (maxSteps := 2000000) (disch := (first | omega | (simp only [SZ]; done) | (simp only [SZ]; omega) | (simp only [TS] at *; omega))) only [RZ, gval, gslot, fillL, ovw, numb, catL, ldN, agL, okC, oneC, init, Nat.reduceAdd, Nat.reduceMul, Nat.reduceSub, Nat.reduceEqDiff, Nat.reduceLT, ↓reduceIte, Int.reduceToNat, Int.reduceAdd, Int.reduceSub, Int.reduceMul, Int.reduceLT, Int.reduceLE, Int.reduceEq, Nat.reduceLeDiff]
      generalize hw5 : w4.alloc _ = w5
      have hZ5 : Row w5 w.heap.size 25 zeroC := by rw [← hw5]; exact hZ4.alloc _
      have hB5 : Below w.heap.size w w5 := by rw [← hw5]; exact below_alloc_of hB4 _ (by omega)
      have hs5 : w5.heap.size = w4.heap.size + 1 := by rw [← hw5]; simp
      have hF5 : Row w5 w4.heap.size 45 (encFm f) := by rw [← hw5]; exact Row.new _ _ _
      clear hw5
      refine W_if_f rfl ?_
      have f0 := hF5.cell (i := 0) rfl
      simp +contextual (maxSteps := 2000000) (disch := (first | omega | (simp only [SZ]; done) | (simp only [SZ]; omega) | (simp only [TS] at *; omega))) only [RZ, gval, gslot, fillL, ovw, numb, catL, ldN, agL, okC, oneC, init, Nat.reduceAdd, Nat.reduceMul, Nat.reduceSub, Nat.reduceEqDiff, Nat.reduceLT, ↓reduceIte, Int.reduceToNat, Int.reduceAdd, Int.reduceSub, Int.reduceMul, Int.reduceLT, Int.reduceLE, Int.reduceEq, Nat.reduceLeDiff,  f0]
      generalize hw6 : w5.alloc _ = w6
      have hZ6 : Row w6 w.heap.size 25 zeroC := by rw [← hw6]; exact hZ5.alloc _
      have hB6 : Below w.heap.size w w6 := by rw [← hw6]; exact below_alloc_of hB5 _ (by omega)
      have hs6 : w6.heap.size = w5.heap.size + 1 := by rw [← hw6]; simp
      have hF6 : Row w6 w4.heap.size 45 (encFm f) := by rw [← hw6]; exact hF5.alloc _
      have hC6 : Row w6 w5.heap.size 25 (cmV { Cm.zero with kind := f.kind } (.slice none 0 0)) := by rw [← hw6]; exact Row.new _ _ _
      clear hw6
      refine (numParse_any ab w6 (by omega)).mono ?_
      rintro e w7 ⟨rfl, rfl⟩
      refine ⟨_, rfl, ?_⟩
      simp +contextual (maxSteps := 2000000) (disch := (first | omega | (simp only [SZ]; done) | (simp only [SZ]; omega) | (simp only [TS] at *; omega))) only [RZ, gval, gslot, fillL, ovw, numb, catL, ldN, agL, okC, oneC, init, Nat.reduceAdd, Nat.reduceMul, Nat.reduceSub, Nat.reduceEqDiff, Nat.reduceLT, ↓reduceIte, Int.reduceToNat, Int.reduceAdd, Int.reduceSub, Int.reduceMul, Int.reduceLT, Int.reduceLE, Int.reduceEq, Nat.reduceLeDiff]
      (refine W_if rfl (fun hc => ?_) (fun hc => ?_) <;> (try simp only [TS] at hc))
      · rw [if_pos hc] at hR
        have t6 := hZ6.ten
        simp +contextual (maxSteps := 2000000) (disch := (first | omega | (simp only [SZ]; done) | (simp only [SZ]; omega) | (simp only [TS] at *; omega))) only [RZ, gval, gslot, fillL, ovw, numb, catL, ldN, agL, okC, oneC, init, Nat.reduceAdd, Nat.reduceMul, Nat.reduceSub, Nat.reduceEqDiff, Nat.reduceLT, ↓reduceIte, Int.reduceToNat, Int.reduceAdd, Int.reduceSub, Int.reduceMul, Int.reduceLT, Int.reduceLE, Int.reduceEq, Nat.reduceLeDiff,  t6]
        exact err 1 _ hR.symm hB6
      rw [if_neg (by omega)] at hR
      clear hc
      have c1 := hC6.cell (i := 1) rfl
      have z1 := hC6.frozen 1
      simp +contextual (maxSteps := 2000000) (disch := (first | omega | (simp only [SZ]; done) | (simp only [SZ]; omega) | (simp only [TS] at *; omega))) only [RZ, gval, gslot, fillL, ovw, numb, catL, ldN, agL, okC, oneC, init, Nat.reduceAdd, Nat.reduceMul, Nat.reduceSub, Nat.reduceEqDiff, Nat.reduceLT, ↓reduceIte, Int.reduceToNat, Int.reduceAdd, Int.reduceSub, Int.reduceMul, Int.reduceLT, Int.reduceLE, Int.reduceEq, Nat.reduceLeDiff,  c1, z1]
      have hnr := numE_R (bs ab)
      generalize hc0 : ({ Cm.zero with kind := f.kind, at_ := (numE (bs ab)).1 } : Cm) = c0 at *
      have hC7 : Row (w6.setCell ⟨w5.heap.size, 1, none⟩ (.int .i64 (numE (bs ab)).1)) w5.heap.size 25 (cmV c0 (.slice none 0 0)) := by rw [← hc0]; exact hC6.set_ (i := 1) (by simp [cmV]) _
      have hZ7 := hZ6.far (p := ⟨w5.heap.size, 1, none⟩) (by show w.heap.size ≠ w5.heap.size; omega) (.int .i64 (numE (bs ab)).1)
      have hF7 := hF6.far (p := ⟨w5.heap.size, 1, none⟩) (by show w4.heap.size ≠ w5.heap.size; omega) (.int .i64 (numE (bs ab)).1)
      have hB7 := hB6.setCell (p := ⟨w5.heap.size, 1, none⟩) (by show w.heap.size ≤ w5.heap.size; omega) (.int .i64 (numE (bs ab)).1)
      have hs7 : (w6.setCell ⟨w5.heap.size, 1, none⟩ (.int .i64 (numE (bs ab)).1)).heap.size = w6.heap.size := by simp
      generalize w6.setCell ⟨w5.heap.size, 1, none⟩ (.int .i64 (numE (bs ab)).1) = w7 at *
      have hwbz : wb.size ≤ rb.size := by omega
      have hexz : (rb.extract wb.size rb.size).size ≤ 1000000 := by rw [ByteArray.size_extract]; omega
      have g0 := hF7.cell (i := 0) rfl
      have g1 := hF7.cell (i := 1) rfl
      have g2 := hF7.cell (i := 2) rfl
      have g3 := hF7.cell (i := 3) rfl
      refine Raw_tail 5 MX (by kernel_rfl) ?_
      dsimp only [List.take, List.drop]
      simp +contextual (maxSteps := 2000000) (disch := (first | omega | (simp only [SZ]; done) | (simp only [SZ]; omega) | (simp only [TS] at *; omega))) only [RZ, gval, gslot, fillL, ovw, numb, catL, ldN, agL, okC, oneC, init, Nat.reduceAdd, Nat.reduceMul, Nat.reduceSub, Nat.reduceEqDiff, Nat.reduceLT, ↓reduceIte, Int.reduceToNat, Int.reduceAdd, Int.reduceSub, Int.reduceMul, Int.reduceLT, Int.reduceLE, Int.reduceEq, Nat.reduceLeDiff,  g0, g1, g2, g3]
      refine (parseFields_any w5.heap.size f hf c0 (by rw [← hc0]; rfl) (rb.extract wb.size rb.size) w7.drew hC7.drew hexz).mono ?_
      rintro e w8 ⟨hu, hO⟩
      have hs8 := hO.size
      have hs8' : w7.heap.size ≤ w8.heap.size := hs8
      have hB8 : Below w.heap.size w w8 := hB7.drew.trans ((hO.low (by show w5.heap.size ≤ w7.heap.size; omega)).mono (by omega))
      have hZ8 : Row w8 w.heap.size 25 zeroC := hZ7.drew.only hO (.inl (by omega))
      rw [hdw] at hu
      cases hfs : fieldsS f.nums c0 f.fields ((bs rb).dropWhile notSp) with
      | none =>
        rw [hfs] at hu hR
        have hu' : e = _ := hu
        subst hu'
        refine ⟨_, rfl, ?_⟩
        have t8 := hZ8.ten
        simp +contextual (maxSteps := 2000000) (disch := (first | omega | (simp only [SZ]; done) | (simp only [SZ]; omega) | (simp only [TS] at *; omega))) only [RZ, gval, gslot, fillL, ovw, numb, catL, ldN, agL, okC, oneC, init, Nat.reduceAdd, Nat.reduceMul, Nat.reduceSub, Nat.reduceEqDiff, Nat.reduceLT, ↓reduceIte, Int.reduceToNat, Int.reduceAdd, Int.reduceSub, Int.reduceMul, Int.reduceLT, Int.reduceLE, Int.reduceEq, Nat.reduceLeDiff,  t8]
        refine W_if_t rfl ?_
        simp +contextual (maxSteps := 2000000) (disch := (first | omega | (simp only [SZ]; done) | (simp only [SZ]; omega) | (simp only [TS] at *; omega))) only [RZ, gval, gslot, fillL, ovw, numb, catL, ldN, agL, okC, oneC, init, Nat.reduceAdd, Nat.reduceMul, Nat.reduceSub, Nat.reduceEqDiff, Nat.reduceLT, ↓reduceIte, Int.reduceToNat, Int.reduceAdd, Int.reduceSub, Int.reduceMul, Int.reduceLT, Int.reduceLE, Int.reduceEq, Nat.reduceLeDiff,  t8]
        exact err 1 _ hR.symm hB8
      | some c =>
        rw [hfs] at hu hR
        obtain ⟨rfl, v, hC8, hN8⟩ := hu
        simp only at hR
        refine ⟨_, rfl, ?_⟩
        obtain ⟨A, cp, rfl, hown⟩ := hN8
        have hN8 : NumIn w7.heap.size w8 (.slice A c.nums.length cp) c.nums := ⟨A, cp, rfl, hown⟩
        have hok0 : c0.ok := by
          rw [← hc0]
          refine ⟨?_, hnr, ?_, ?_, ?_, ?_, ?_, ?_⟩ <;> first | (simp [Cm.zero]; done) | (simp only; omega)
        obtain ⟨hok, ht8, hn8⟩ := fieldsS_ok 1000000 f.nums f.fields c0 c _ hok0 (by rw [← hc0]; exact (show ByteArray.empty.size ≤ 1000000 by decide)) (by rw [← hc0]; exact (show ([] : List Int).length ≤ 1000000 by decide)) (by omega) hfs
        have hm8 := fieldsS_name f.nums f.fields c0 c _ (by rw [← hc0]; exact (show ByteArray.empty.size ≤ 24 by decide)) hfs
        have u8 := hC8.ten
        simp +contextual (maxSteps := 2000000) (disch := (first | omega | (simp only [SZ]; done) | (simp only [SZ]; omega) | (simp only [TS] at *; omega))) only [RZ, gval, gslot, fillL, ovw, numb, catL, ldN, agL, okC, oneC, init, Nat.reduceAdd, Nat.reduceMul, Nat.reduceSub, Nat.reduceEqDiff, Nat.reduceLT, ↓reduceIte, Int.reduceToNat, Int.reduceAdd, Int.reduceSub, Int.reduceMul, Int.reduceLT, Int.reduceLE, Int.reduceEq, Nat.reduceLeDiff,  u8]
        refine W_if_f rfl ?_
        simp +contextual (maxSteps := 2000000) (disch := (first | omega | (simp only [SZ]; done) | (simp only [SZ]; omega) | (simp only [TS] at *; omega))) only [RZ, gval, gslot, fillL, ovw, numb, catL, ldN, agL, okC, oneC, init, Nat.reduceAdd, Nat.reduceMul, Nat.reduceSub, Nat.reduceEqDiff, Nat.reduceLT, ↓reduceIte, Int.reduceToNat, Int.reduceAdd, Int.reduceSub, Int.reduceMul, Int.reduceLT, Int.reduceLE, Int.reduceEq, Nat.reduceLeDiff,  u8]
        refine (check_any c A cp w8 (hL.below hB8 hsz) (by omega) (by omega) (by omega)).mono ?_
        rintro e w9 ⟨rfl, hb9⟩
        refine ⟨_, rfl, ?_⟩
        have hZ9 := hZ8.below hb9
        have hC9 := hC8.below hb9
        have hB9 := hB8.trans (hb9.mono (by omega))
        have hN9 := hN8.below hb9
        have t9 := hZ9.ten
        have u9 := hC9.ten
        simp +contextual (maxSteps := 2000000) (disch := (first | omega | (simp only [SZ]; done) | (simp only [SZ]; omega) | (simp only [TS] at *; omega))) only [RZ, gval, gslot, fillL, ovw, numb, catL, ldN, agL, okC, oneC, init, Nat.reduceAdd, Nat.reduceMul, Nat.reduceSub, Nat.reduceEqDiff, Nat.reduceLT, ↓reduceIte, Int.reduceToNat, Int.reduceAdd, Int.reduceSub, Int.reduceMul, Int.reduceLT, Int.reduceLE, Int.reduceEq, Nat.reduceLeDiff]
        (refine W_if rfl (fun hc => ?_) (fun hc => ?_) <;> (try simp only [TS] at hc))
        · rw [if_pos hc] at hR
          simp +contextual (maxSteps := 2000000) (disch := (first | omega | (simp only [SZ]; done) | (simp only [SZ]; omega) | (simp only [TS] at *; omega))) only [RZ, gval, gslot, fillL, ovw, numb, catL, ldN, agL, okC, oneC, init, Nat.reduceAdd, Nat.reduceMul, Nat.reduceSub, Nat.reduceEqDiff, Nat.reduceLT, ↓reduceIte, Int.reduceToNat, Int.reduceAdd, Int.reduceSub, Int.reduceMul, Int.reduceLT, Int.reduceLE, Int.reduceEq, Nat.reduceLeDiff,  t9]
          exact err _ _ hR.symm hB9
        · rw [if_neg (by omega)] at hR
          simp +contextual (maxSteps := 2000000) (disch := (first | omega | (simp only [SZ]; done) | (simp only [SZ]; omega) | (simp only [TS] at *; omega))) only [RZ, gval, gslot, fillL, ovw, numb, catL, ldN, agL, okC, oneC, init, Nat.reduceAdd, Nat.reduceMul, Nat.reduceSub, Nat.reduceEqDiff, Nat.reduceLT, ↓reduceIte, Int.reduceToNat, Int.reduceAdd, Int.reduceSub, Int.reduceMul, Int.reduceLT, Int.reduceLE, Int.reduceEq, Nat.reduceLeDiff,  t9, u9]
          rw [← hR]
          exact ⟨⟨_, rfl, (hN9.only (only_ten (Only.refl w.heap.size (w.heap.size + 1) w9) (Nat.le_refl _) (Nat.lt_succ_self _) (cmV c (.slice A c.nums.length cp)) 0) (by omega)).mono (by omega)⟩, below_ten hB9 (Nat.le_refl _) (cmV c (.slice A c.nums.length cp)) 0⟩
end Go.Proofs.YtjaeiiiniohloaaDoor
/- Walks: script.Parse. -/
namespace Go.Proofs.YtjaeiiiniohloaaDoor
open Go.RowKit
set_option maxRecDepth 100000
def encP (p : Cm × Value) : List Value := cmV p.1 p.2
theorem encP_len (p : Cm × Value) : (encP p).length = 10 := rfl
/-- A row of commands that is nobody else's, and their numbers. -/
def CmsIn (base : Nat) (w : World) (v : Value) (L : List Cm) : Prop := ∃ (P : List (Cm × Value)) (A : Option Addr) (c : Nat), v = .slice A L.length c ∧ P.map (·.1) = L ∧ w.ownsRow base 25 10 v L.length (P.flatMap encP) ∧ ∀ p ∈ P, NumIn base w p.2 p.1.nums
theorem CmsIn.nil (base : Nat) (w : World) : CmsIn base w (.slice none 0 0) [] := ⟨[], none, 0, rfl, rfl, owns_nil _ _ _ _, fun p h => by cases h⟩
theorem CmsIn.below {base : Nat} {w w' : World} {v : Value} {L : List Cm} (h : CmsIn base w v L) (hb : Below w.heap.size w w') : CmsIn base w' v L := by
  obtain ⟨P, A, c, rfl, hP, ho, hn⟩ := h
  exact ⟨P, A, c, rfl, hP, owns_below ho hb, fun p hp => (hn p hp).below hb⟩
theorem NumIn.grown {base base2 n : Nat} {w w' : World} {u v : Value} {N : List Int} {xs : List Value} (hn : NumIn base w u N) (ho : w.ownsRow base2 25 10 v n xs) (hg : w.grownBy w' v.ownBlock) : NumIn base w' u N := by
  obtain ⟨A, c, rfl, h⟩ := hn
  refine ⟨A, c, rfl, owns_keep h fun k hk => ?_⟩
  rcases h.2 with ⟨h0, _⟩ | ⟨g, cap, cur, h0, _, hc, _⟩
  · rw [h0] at hk; cases hk
  · rw [h0] at hk
    simp only [Value.ownBlock, Option.some.injEq] at hk
    subst hk
    refine hg.block g (Array.getElem?_eq_some_iff.1 hc).1 (fun e => ?_)
    rcases ho.2 with ⟨rfl, _⟩ | ⟨g2, cap2, cur2, rfl, _, hh, _⟩
    · cases e
    · simp only [Value.ownBlock, Option.some.injEq] at e
      subst e
      rw [hc] at hh
      injection hh with hh
      injection hh with _ hh
      exact absurd hh (by decide)
theorem CmsIn.push {base : Nat} {w : World} {v u : Value} {L : List Cm} {c : Cm} (h : CmsIn base w v L) (hu : NumIn base w u c.nums) (hb : base ≤ w.heap.size) (hl : L.length + 1 ≤ 100000000) :
    ∃ v' w2, vAppend Tryd.prog 31 31 31 v (.slice (some ⟨w.heap.size, 0, none⟩) 1 1) (w.alloc (.cells (cmV c u).toArray 25)) = .ok (.value v') w2 ∧ CmsIn base w2 v' (L ++ [c]) ∧ Below base w w2 ∧ w.heap.size ≤ w2.heap.size := by
  obtain ⟨P, A, cp, rfl, hP, ho, hn⟩ := h
  obtain ⟨A0, c0, rfl, hu0⟩ := hu
  have hI : sliceI Tryd.prog 31 = some (25, 10, 112) := by kernel_rfl
  have hba := below_alloc w (.cells (cmV c (.slice A0 c.nums.length c0)).toArray 25)
  have ho1 := owns_below ho hba
  obtain ⟨A', c', w2, he, ho2, hg', _⟩ := vAppend_own (P := Tryd.prog) (T := 31) (ty := 31) (m := 1) (c := 1) (b := w.heap.size) (o := 0) (news := cmV c (.slice A0 c.nums.length c0)) hI ho1 rfl
    (fun j u hu => by rw [Nat.zero_add, (new_block w (cmV c (.slice A0 c.nums.length c0)).toArray 25).1 j]; simpa using hu) (fun u hu => by simp only [cmV, List.mem_cons, List.not_mem_nil, or_false] at hu; rcases hu with rfl | rfl | rfl | rfl | rfl | rfl | rfl | rfl | rfl | rfl <;> rfl) (by omega) (by omega) (by rw [World.size_alloc]; omega)
  have hgrow : Below base (w.alloc (.cells (cmV c (.slice A0 c.nums.length c0)).toArray 25)) w2 := grown_below hg' (fun g hg => (owns_ge ho hg).1) (by rw [World.size_alloc]; omega)
  have hB := (hba.mono hb).trans hgrow
  refine ⟨_, w2, he, ⟨P ++ [(c, .slice A0 c.nums.length c0)], A', c', by simp, by simp [hP], ?_, fun p hp => ?_⟩, hB, hB.size⟩
  · rw [List.length_append, List.flatMap_append]
    simpa [encP] using ho2
  · rcases List.mem_append.1 hp with h | h
    · exact ((hn p h).below hba).grown ho1 hg'
    · simp only [List.mem_cons, List.not_mem_nil, or_false] at h
      subst h
      exact NumIn.grown (NumIn.below ⟨A0, c0, rfl, hu0⟩ hba) ho1 hg'
theorem scrS_go {cnt num : Nat} {l : List Nat} (h : l ≠ []) : scrS cnt num l = if l.takeWhile notNl = [] ∨ (l.takeWhile notNl).head? = some 35 then scrS cnt (num + 1) ((l.dropWhile notNl).drop 1)
    else if 512 ≤ cnt then .error (3, num + 1) else match lineS (l.takeWhile notNl) with
      | .error e => .error (e, num + 1)
      | .ok c => consS c (scrS (cnt + 1) (num + 1) ((l.dropWhile notNl).drop 1)) := by
  rw [scrS, dif_neg h]
  cases lineS (l.takeWhile notNl) <;> rfl
theorem lineS_err {l : List Nat} {x : Int} (h : lineS l = .error x) : x ≠ 0 := by
  unfold lineS at h
  split at h
  · injection h with h; omega
  · split at h
    · injection h with h; omega
    · split at h
      · injection h with h; omega
      · split at h
        · injection h with h; omega
        · split at h
          · injection h with h; omega
          · cases h
def joinL (L : List Cm) : Except (Int × Nat) (List Cm) → Except (Int × Nat) (List Cm)
  | .ok M => .ok (L ++ M)
  | .error e => .error e
theorem joinL_cons (L : List Cm) (c : Cm) (x : Except (Int × Nat) (List Cm)) : joinL L (consS c x) = joinL (L ++ [c]) x := by cases x <;> simp [joinL, consS]
def parsIs (base : Nat) (e : Ending) (w : World) : Except (Int × Nat) (List Cm) → Prop
  | .ok L => ∃ v, e = .returned (.tuple #[v, .int .i64 0, .int .i64 0]) ∧ CmsIn base w v L
  | .error (x, n) => e = .returned (.tuple #[.slice none 0 0, .int .i64 x, .int .i64 n])
set_option maxHeartbeats 2000000 in
theorem parse_any (s : ByteArray) (w : World) (hL : Laid w) (hs : s.size ≤ 1000000) : Calls Tryd.prog 17 #[.string s] w fun e w' => parsIs w.heap.size e w' (parseS (bs s)) ∧ Below w.heap.size w w' := by
  refine calls_W (l := [_]) Tryd.func17 rfl _ Tryd.ntmps17 (by simp) ?_
  have hsz := hL.size
  unfold parseS
  rw [if_neg (by rw [bs_len]; omega)]
  simp +contextual (maxSteps := 2000000) (disch := (first | omega | (simp only [SZ]; done) | (simp only [SZ]; omega) | (simp only [TS] at *; omega))) only [RZ, gval, gslot, fillL, ovw, numb, catL, ldN, agL, okC, oneC, init, Nat.reduceAdd, Nat.reduceMul, Nat.reduceSub, Nat.reduceEqDiff, Nat.reduceLT, ↓reduceIte, Int.reduceToNat, Int.reduceAdd, Int.reduceSub, Int.reduceMul, Int.reduceLT, Int.reduceLE, Int.reduceEq, Nat.reduceLeDiff]
  generalize hR : scrS 0 0 (bs s) = R
  refine Raw_scope3 0 (fun σ w2 => Below w.heap.size w w2 ∧ ∃ (L : List Cm) (num : Nat) (t : ByteArray) (v : Value), num + t.size ≤ s.size ∧ L.length ≤ num ∧ CmsIn w.heap.size w2 v L ∧ joinL L (scrS L.length num (bs t)) = R ∧ σ 5 = v ∧ σ 6 = .int .i64 num ∧ σ 7 = .string t) (fun σ _ => match σ 7 with | .string t => t.size | _ => 0) rfl (fun _ _ _ h => h) ?_ ?_
  · simp +contextual (maxSteps := 2000000) (disch := (first | omega | (simp only [SZ]; done) | (simp only [SZ]; omega) | (simp only [TS] at *; omega))) only [RZ, gval, gslot, fillL, ovw, numb, catL, ldN, agL, okC, oneC, init, Nat.reduceAdd, Nat.reduceMul, Nat.reduceSub, Nat.reduceEqDiff, Nat.reduceLT, ↓reduceIte, Int.reduceToNat, Int.reduceAdd, Int.reduceSub, Int.reduceMul, Int.reduceLT, Int.reduceLE, Int.reduceEq, Nat.reduceLeDiff]
    (refine W_if rfl (fun hc => ?_) (fun hc => ?_) <;> (try simp only [TS] at hc))
    · omega
    clear hc
    simp +contextual (maxSteps := 2000000) (disch := (first | omega | (simp only [SZ]; done) | (simp only [SZ]; omega) | (simp only [TS] at *; omega))) only [RZ, gval, gslot, fillL, ovw, numb, catL, ldN, agL, okC, oneC, init, Nat.reduceAdd, Nat.reduceMul, Nat.reduceSub, Nat.reduceEqDiff, Nat.reduceLT, ↓reduceIte, Int.reduceToNat, Int.reduceAdd, Int.reduceSub, Int.reduceMul, Int.reduceLT, Int.reduceLE, Int.reduceEq, Nat.reduceLeDiff]
    exact ⟨Below.refl _ _, [], 0, s, _, by omega, by simp, CmsIn.nil _ _, by show joinL [] (scrS 0 0 (bs s)) = R; rw [hR]; cases R <;> simp [joinL], rfl, rfl, rfl⟩
  rintro σ w2 ⟨hB, L, num, t, v, hnt, hLn, hC, hj, e5, e6, e7⟩ K hK
  have hs2 := hB.size
  obtain ⟨P, A, cp, rfl, hP, hown, hnums⟩ := hC
  have hC : CmsIn w.heap.size w2 (.slice A L.length cp) L := ⟨P, A, cp, rfl, hP, hown, hnums⟩
  clear hown hnums hP
  by_cases h0 : t = ⟨#[]⟩
  · subst h0
    rw [show bs ⟨#[]⟩ = [] from rfl, scrS_nil] at hj
    simp +contextual (maxSteps := 2000000) (disch := (first | omega | (simp only [SZ]; done) | (simp only [SZ]; omega) | (simp only [TS] at *; omega))) only [RZ, gval, gslot, fillL, ovw, numb, catL, ldN, agL, okC, oneC, init, Nat.reduceAdd, Nat.reduceMul, Nat.reduceSub, Nat.reduceEqDiff, Nat.reduceLT, ↓reduceIte, Int.reduceToNat, Int.reduceAdd, Int.reduceSub, Int.reduceMul, Int.reduceLT, Int.reduceLE, Int.reduceEq, Nat.reduceLeDiff,  e5, e6, e7]
    refine W_if_t rfl ?_
    simp +contextual (maxSteps := 2000000) (disch := (first | omega | (simp only [SZ]; done) | (simp only [SZ]; omega) | (simp only [TS] at *; omega))) only [RZ, gval, gslot, fillL, ovw, numb, catL, ldN, agL, okC, oneC, init, Nat.reduceAdd, Nat.reduceMul, Nat.reduceSub, Nat.reduceEqDiff, Nat.reduceLT, ↓reduceIte, Int.reduceToNat, Int.reduceAdd, Int.reduceSub, Int.reduceMul, Int.reduceLT, Int.reduceLE, Int.reduceEq, Nat.reduceLeDiff,  e5, e6, e7]
    rw [← hj]
    exact ⟨⟨_, rfl, by rw [List.append_nil]; exact hC⟩, hB⟩
  have hp := sz_pos h0
  have e0 : (t = ⟨#[]⟩) = False := eq_false h0
  rw [scrS_go (bs_ne hp)] at hj
  simp +contextual (maxSteps := 2000000) (disch := (first | omega | (simp only [SZ]; done) | (simp only [SZ]; omega) | (simp only [TS] at *; omega))) only [RZ, gval, gslot, fillL, ovw, numb, catL, ldN, agL, okC, oneC, init, Nat.reduceAdd, Nat.reduceMul, Nat.reduceSub, Nat.reduceEqDiff, Nat.reduceLT, ↓reduceIte, Int.reduceToNat, Int.reduceAdd, Int.reduceSub, Int.reduceMul, Int.reduceLT, Int.reduceLE, Int.reduceEq, Nat.reduceLeDiff,  e5, e6, e7, e0]
  refine W_if_f rfl ?_
  simp +contextual (maxSteps := 2000000) (disch := (first | omega | (simp only [SZ]; done) | (simp only [SZ]; omega) | (simp only [TS] at *; omega))) only [RZ, gval, gslot, fillL, ovw, numb, catL, ldN, agL, okC, oneC, init, Nat.reduceAdd, Nat.reduceMul, Nat.reduceSub, Nat.reduceEqDiff, Nat.reduceLT, ↓reduceIte, Int.reduceToNat, Int.reduceAdd, Int.reduceSub, Int.reduceMul, Int.reduceLT, Int.reduceLE, Int.reduceEq, Nat.reduceLeDiff,  e5, e6, e7]
  refine (scut_any 10 notNl (fun x => by simp [notNl]) t w2 (by omega)).mono ?_
  rintro e w3 ⟨rfl, hb3⟩
  refine ⟨_, rfl, ?_⟩
  have hB3 := hB.trans (hb3.mono hs2)
  have hs3 := hb3.size
  have hC3 := hC.below hb3
  unfold scV
  have hll := (tw_sub (q := notNl) (bs t)).1
  have hrl := (tw_sub (q := notNl) (bs t)).2
  have hlens := congrArg List.length (List.takeWhile_append_dropWhile (p := notNl) (l := bs t))
  rw [List.length_append, bs_len] at hlens
  have hlb := bs_toBA (l := (bs t).takeWhile notNl) (fun c h => bs_lt t c (hll c h))
  have hrb := bs_toBA (l := ((bs t).dropWhile notNl).drop 1) (fun c h => bs_lt t c (hrl c (List.mem_of_mem_drop h)))
  have hlz := toBA_size ((bs t).takeWhile notNl)
  have hrz := toBA_size (((bs t).dropWhile notNl).drop 1)
  rw [List.length_drop] at hrz
  have hdz : 0 < ((bs t).takeWhile notNl).length ∨ 0 < ((bs t).dropWhile notNl).length := by omega
  simp +contextual (maxSteps := 2000000) (disch := (first | omega | (simp only [SZ]; done) | (simp only [SZ]; omega) | (simp only [TS] at *; omega))) only [RZ, gval, gslot, fillL, ovw, numb, catL, ldN, agL, okC, oneC, init, Nat.reduceAdd, Nat.reduceMul, Nat.reduceSub, Nat.reduceEqDiff, Nat.reduceLT, ↓reduceIte, Int.reduceToNat, Int.reduceAdd, Int.reduceSub, Int.reduceMul, Int.reduceLT, Int.reduceLE, Int.reduceEq, Nat.reduceLeDiff,  e5, e6, e7]
  rw [← hlb, ← hrb] at hj
  generalize toBA ((bs t).takeWhile notNl) = lb at *
  generalize toBA (((bs t).dropWhile notNl).drop 1) = rb at *
  have again : ∀ (σ' : Sl) (w' : World) (L' : List Cm) (v : Value), Below w.heap.size w w' → L'.length ≤ num + 1 → CmsIn w.heap.size w' v L' → joinL L' (scrS L'.length (num + 1) (bs rb)) = R → σ' 5 = v ∧ σ' 6 = .int .i64 ((num : Int) + 1) ∧ σ' 7 = .string rb → K σ' w' := fun σ' w' L' v h1 h2 h3 h4 ⟨h5, h6, h7⟩ =>
    hK _ _ ⟨h1, L', num + 1, rb, v, by omega, h2, h3, h4, h5, h6, h7⟩ (by rw [h7, e7]; show rb.size < t.size; omega)
  clear hK
  by_cases l0 : lb = ⟨#[]⟩
  · subst l0
    rw [if_pos (.inl rfl)] at hj
    simp +contextual (maxSteps := 2000000) (disch := (first | omega | (simp only [SZ]; done) | (simp only [SZ]; omega) | (simp only [TS] at *; omega))) only [RZ, gval, gslot, fillL, ovw, numb, catL, ldN, agL, okC, oneC, init, Nat.reduceAdd, Nat.reduceMul, Nat.reduceSub, Nat.reduceEqDiff, Nat.reduceLT, ↓reduceIte, Int.reduceToNat, Int.reduceAdd, Int.reduceSub, Int.reduceMul, Int.reduceLT, Int.reduceLE, Int.reduceEq, Nat.reduceLeDiff,  e5, e6, e7]
    refine W_if_t rfl ?_
    simp +contextual (maxSteps := 2000000) (disch := (first | omega | (simp only [SZ]; done) | (simp only [SZ]; omega) | (simp only [TS] at *; omega))) only [RZ, gval, gslot, fillL, ovw, numb, catL, ldN, agL, okC, oneC, init, Nat.reduceAdd, Nat.reduceMul, Nat.reduceSub, Nat.reduceEqDiff, Nat.reduceLT, ↓reduceIte, Int.reduceToNat, Int.reduceAdd, Int.reduceSub, Int.reduceMul, Int.reduceLT, Int.reduceLE, Int.reduceEq, Nat.reduceLeDiff,  e5, e6, e7]
    exact again _ _ L _ hB3 (by omega) hC3 hj (by simp +contextual (maxSteps := 2000000) (disch := (first | omega | (simp only [SZ]; done) | (simp only [SZ]; omega) | (simp only [TS] at *; omega))) only [RZ, gval, gslot, fillL, ovw, numb, catL, ldN, agL, okC, oneC, init, Nat.reduceAdd, Nat.reduceMul, Nat.reduceSub, Nat.reduceEqDiff, Nat.reduceLT, ↓reduceIte, Int.reduceToNat, Int.reduceAdd, Int.reduceSub, Int.reduceMul, Int.reduceLT, Int.reduceLE, Int.reduceEq, Nat.reduceLeDiff,  e5, e6, e7])
  have hlp := sz_pos l0
  have l0' : (lb = ⟨#[]⟩) = False := eq_false l0
  have hhd : (bs lb).head? = some (bt lb 0) := by rw [bs_cons1 hlp]; rfl
  rw [hhd] at hj
  simp +contextual (maxSteps := 2000000) (disch := (first | omega | (simp only [SZ]; done) | (simp only [SZ]; omega) | (simp only [TS] at *; omega))) only [RZ, gval, gslot, fillL, ovw, numb, catL, ldN, agL, okC, oneC, init, Nat.reduceAdd, Nat.reduceMul, Nat.reduceSub, Nat.reduceEqDiff, Nat.reduceLT, ↓reduceIte, Int.reduceToNat, Int.reduceAdd, Int.reduceSub, Int.reduceMul, Int.reduceLT, Int.reduceLE, Int.reduceEq, Nat.reduceLeDiff,  e5, e6, e7, l0']
  (refine W_if rfl (fun hc => ?_) (fun hc => ?_) <;> (try simp only [TS] at hc))
  · rw [if_pos (.inr (by congr 1; omega))] at hj
    simp +contextual (maxSteps := 2000000) (disch := (first | omega | (simp only [SZ]; done) | (simp only [SZ]; omega) | (simp only [TS] at *; omega))) only [RZ, gval, gslot, fillL, ovw, numb, catL, ldN, agL, okC, oneC, init, Nat.reduceAdd, Nat.reduceMul, Nat.reduceSub, Nat.reduceEqDiff, Nat.reduceLT, ↓reduceIte, Int.reduceToNat, Int.reduceAdd, Int.reduceSub, Int.reduceMul, Int.reduceLT, Int.reduceLE, Int.reduceEq, Nat.reduceLeDiff,  e5, e6, e7]
    exact again _ _ L _ hB3 (by omega) hC3 hj (by simp +contextual (maxSteps := 2000000) (disch := (first | omega | (simp only [SZ]; done) | (simp only [SZ]; omega) | (simp only [TS] at *; omega))) only [RZ, gval, gslot, fillL, ovw, numb, catL, ldN, agL, okC, oneC, init, Nat.reduceAdd, Nat.reduceMul, Nat.reduceSub, Nat.reduceEqDiff, Nat.reduceLT, ↓reduceIte, Int.reduceToNat, Int.reduceAdd, Int.reduceSub, Int.reduceMul, Int.reduceLT, Int.reduceLE, Int.reduceEq, Nat.reduceLeDiff,  e5, e6, e7])
  rw [if_neg (by rintro (h | h); · exact bs_ne hlp h
                 · injection h with h; omega)] at hj
  clear hc
  simp +contextual (maxSteps := 2000000) (disch := (first | omega | (simp only [SZ]; done) | (simp only [SZ]; omega) | (simp only [TS] at *; omega))) only [RZ, gval, gslot, fillL, ovw, numb, catL, ldN, agL, okC, oneC, init, Nat.reduceAdd, Nat.reduceMul, Nat.reduceSub, Nat.reduceEqDiff, Nat.reduceLT, ↓reduceIte, Int.reduceToNat, Int.reduceAdd, Int.reduceSub, Int.reduceMul, Int.reduceLT, Int.reduceLE, Int.reduceEq, Nat.reduceLeDiff,  e5, e6, e7, l0']
  (refine W_if rfl (fun hc => ?_) (fun hc => ?_) <;> (try simp only [TS] at hc))
  · rw [if_pos (by omega)] at hj
    simp +contextual (maxSteps := 2000000) (disch := (first | omega | (simp only [SZ]; done) | (simp only [SZ]; omega) | (simp only [TS] at *; omega))) only [RZ, gval, gslot, fillL, ovw, numb, catL, ldN, agL, okC, oneC, init, Nat.reduceAdd, Nat.reduceMul, Nat.reduceSub, Nat.reduceEqDiff, Nat.reduceLT, ↓reduceIte, Int.reduceToNat, Int.reduceAdd, Int.reduceSub, Int.reduceMul, Int.reduceLT, Int.reduceLE, Int.reduceEq, Nat.reduceLeDiff,  e5, e6, e7]
    rw [← hj]
    exact ⟨rfl, hB3⟩
  rw [if_neg (by omega)] at hj
  simp +contextual (maxSteps := 2000000) (disch := (first | omega | (simp only [SZ]; done) | (simp only [SZ]; omega) | (simp only [TS] at *; omega))) only [RZ, gval, gslot, fillL, ovw, numb, catL, ldN, agL, okC, oneC, init, Nat.reduceAdd, Nat.reduceMul, Nat.reduceSub, Nat.reduceEqDiff, Nat.reduceLT, ↓reduceIte, Int.reduceToNat, Int.reduceAdd, Int.reduceSub, Int.reduceMul, Int.reduceLT, Int.reduceLE, Int.reduceEq, Nat.reduceLeDiff,  e5, e6, e7, l0']
  refine (parseLine_any lb w3 (hL.below hB3 hsz) (by omega)).mono ?_
  rintro e w4 ⟨hu, hb4⟩
  have hB4 := hB3.trans (hb4.mono (by omega))
  have hs4 := hb4.size
  have hC4 := hC3.below hb4
  cases hl : lineS (bs lb) with
  | error x =>
    rw [hl] at hu hj
    have hu' : e = _ := hu
    subst hu'
    refine ⟨_, rfl, ?_⟩
    have hx := lineS_err hl
    unfold zeroC
    simp +contextual (maxSteps := 2000000) (disch := (first | omega | (simp only [SZ]; done) | (simp only [SZ]; omega) | (simp only [TS] at *; omega))) only [RZ, gval, gslot, fillL, ovw, numb, catL, ldN, agL, okC, oneC, init, Nat.reduceAdd, Nat.reduceMul, Nat.reduceSub, Nat.reduceEqDiff, Nat.reduceLT, ↓reduceIte, Int.reduceToNat, Int.reduceAdd, Int.reduceSub, Int.reduceMul, Int.reduceLT, Int.reduceLE, Int.reduceEq, Nat.reduceLeDiff,  e5, e6, e7]
    (refine W_if rfl (fun hc => ?_) (fun hc => ?_) <;> (try simp only [TS] at hc))
    · simp +contextual (maxSteps := 2000000) (disch := (first | omega | (simp only [SZ]; done) | (simp only [SZ]; omega) | (simp only [TS] at *; omega))) only [RZ, gval, gslot, fillL, ovw, numb, catL, ldN, agL, okC, oneC, init, Nat.reduceAdd, Nat.reduceMul, Nat.reduceSub, Nat.reduceEqDiff, Nat.reduceLT, ↓reduceIte, Int.reduceToNat, Int.reduceAdd, Int.reduceSub, Int.reduceMul, Int.reduceLT, Int.reduceLE, Int.reduceEq, Nat.reduceLeDiff,  e5, e6, e7]
      rw [← hj]
      exact ⟨rfl, below_alloc_of hB4 _ (by omega)⟩
    · omega
  | ok c =>
    rw [hl] at hu hj
    obtain ⟨v, rfl, hN⟩ := hu
    have hN := hN.mono (base' := w.heap.size) (by omega)
    obtain ⟨Av, cv, rfl, hownN⟩ := hN
    have hN : NumIn w.heap.size w4 (.slice Av c.nums.length cv) c.nums := ⟨Av, cv, rfl, hownN⟩
    simp only at hj
    rw [joinL_cons] at hj
    refine ⟨_, rfl, ?_⟩
    unfold cmV
    simp +contextual (maxSteps := 2000000) (disch := (first | omega | (simp only [SZ]; done) | (simp only [SZ]; omega) | (simp only [TS] at *; omega))) only [RZ, gval, gslot, fillL, ovw, numb, catL, ldN, agL, okC, oneC, init, Nat.reduceAdd, Nat.reduceMul, Nat.reduceSub, Nat.reduceEqDiff, Nat.reduceLT, ↓reduceIte, Int.reduceToNat, Int.reduceAdd, Int.reduceSub, Int.reduceMul, Int.reduceLT, Int.reduceLE, Int.reduceEq, Nat.reduceLeDiff,  e5, e6, e7]
    generalize hw5 : w4.alloc _ = w5
    have hb5 : Below w4.heap.size w4 w5 := by rw [← hw5]; exact below_alloc _ _
    have hs5 := hb5.size
    have hr5 : Row w5 w4.heap.size 25 (cmV c (.slice Av c.nums.length cv)) := by rw [← hw5]; exact Row.new _ _ _
    have t5 := hr5.ten
    clear hw5
    have hB5 := hB4.trans (hb5.mono (by omega))
    obtain ⟨v', w6, he, hC6, hb6, hs6⟩ := (hC4.below hb5).push (hN.below hb5) (by omega) (by omega)
    refine W_if_f rfl ?_
    simp +contextual (maxSteps := 2000000) (disch := (first | omega | (simp only [SZ]; done) | (simp only [SZ]; omega) | (simp only [TS] at *; omega))) only [RZ, gval, gslot, fillL, ovw, numb, catL, ldN, agL, okC, oneC, init, Nat.reduceAdd, Nat.reduceMul, Nat.reduceSub, Nat.reduceEqDiff, Nat.reduceLT, ↓reduceIte, Int.reduceToNat, Int.reduceAdd, Int.reduceSub, Int.reduceMul, Int.reduceLT, Int.reduceLE, Int.reduceEq, Nat.reduceLeDiff,  e5, e6, e7, t5]
    refine Okv_of he ?_
    exact again _ _ (L ++ [c]) _ (hB5.trans hb6) (by simp; omega) hC6 (by rw [List.length_append]; exact hj) ⟨rfl, rfl, rfl⟩
end Go.Proofs.YtjaeiiiniohloaaDoor
/- Walks: strings.Builder: copyCheck, WriteByte, WriteString. -/
namespace Go.Proofs.YtjaeiiiniohloaaDoor
open Go.RowKit
set_option maxRecDepth 100000
/-- What is neither the builder's block nor a row of bytes stays. -/
def Keeps (b : Nat) (w w' : World) : Prop := ∀ (k : Nat) (o : Obj), k ≠ b → w.heap[k]? = some o → (∀ cs f, o ≠ .cells cs 5 f) → w'.heap[k]? = some o
theorem Keeps.refl (b : Nat) (w : World) : Keeps b w w := fun _ _ _ h _ => h
theorem Keeps.trans {b : Nat} {x y z : World} (h : Keeps b x y) (k : Keeps b y z) : Keeps b x z := fun i o hi ho hn => k i o hi (h i o hi ho hn) hn
theorem Keeps.setCell (b o : Nat) (v : Value) (w : World) : Keeps b w (w.setCell ⟨b, o, none⟩ v) := fun k _ hk ho _ => (Below.heap_setCell w ⟨b, o, none⟩ v k hk).trans ho
theorem Keeps.alloc (b : Nat) (w : World) (ob : Obj) : Keeps b w (w.alloc ob) := fun k _ _ ho _ => ((below_alloc w ob).block k (Array.getElem?_eq_some_iff.1 ho).1).trans ho
theorem Keeps.grown {b B n : Nat} {v : Value} {xs : List Value} {w w' : World} (ho : w.ownsRow B 5 1 v n xs) (hg : w.grownBy w' v.ownBlock) : Keeps b w w' := fun k o _ hk hn => by
  refine (hg.block k (Array.getElem?_eq_some_iff.1 hk).1 (fun e => ?_)).trans hk
  rcases ho.2 with ⟨rfl, _⟩ | ⟨g, cap, cur, rfl, _, hh, _⟩
  · cases e
  · simp only [Value.ownBlock, Option.some.injEq] at e
    subst e
    rw [hk] at hh
    injection hh with hh
    exact hn _ _ hh
theorem copyCheck_any (B b : Nat) (l : List Value) (w : World) (h : Lib.IsBuilder 56 5 B b l w) :
    Calls Tryd.prog 39 #[.pointer (some ⟨b, 0, none⟩)] w fun e w' => e = .returned (.tuple #[]) ∧ Lib.BuilderAt 56 5 B b (.pointer (some ⟨b, 0, none⟩)) l w' ∧ Below B w w' ∧ Keeps b w w' := by
  refine calls_W (l := [_]) Tryd.func39 rfl _ Tryd.ntmps39 (by simp) ?_
  obtain ⟨j, hj, hjs⟩ := Option.map_eq_some_iff.1 (show (Tryd.prog.info? 56).map (·.size) = some 2 by kernel_rfl)
  have ne : ∀ (x y : Operand) (w : World), vBin Tryd.prog .neq 54 x y (.pointer (some ⟨b, 0, none⟩)) (.pointer (some ⟨b, 0, none⟩)) w = .ok (.value (.bool false)) w := fun x y w => by
    simp only [vBin, eqGuard]
    simp [Lib.run_neq_ptr_same w _ Tryd.underlying54 hj]
  rcases h with h | h
  · have c0 := h.cell0
    have z0 := h.frozen0
    have cs : (w.setCell ⟨b, 0, none⟩ (.pointer (some ⟨b, 0, none⟩))).cell? ⟨b, 0, none⟩ = some (.pointer (some ⟨b, 0, none⟩)) := by rw [cS_same, c0]; rfl
    have cv1 : vConvert Tryd.prog 54 81 (.pointer (some ⟨b, 0, none⟩)) w = .ok (.value (.pointer (some ⟨b, 0, none⟩))) w := by
      simp [vConvert, Lib.run_to_unsafe w ⟨b, 0, none⟩ Tryd.underlying54 Tryd.underlying81 hj (by rw [hjs]; decide) h.shape (Nat.zero_lt_succ 1)]
    have cv2 : vConvert Tryd.prog 81 54 (.pointer (some ⟨b, 0, none⟩)) w = .ok (.value (.pointer (some ⟨b, 0, none⟩))) w := by
      simp [vConvert, Lib.run_from_unsafe w ⟨b, 0, none⟩ Tryd.underlying81 Tryd.underlying54 hj h.shape (by kernel_rfl)]
    have cl : vCall Tryd.prog 52 #[.pointer (some ⟨b, 0, none⟩)] w = .ok (.value (.pointer (some ⟨b, 0, none⟩))) w := by
      unfold vCall
      rw [run_callFunc_extern Tryd.func52 (by kernel_rfl) (by kernel_rfl) (by kernel_rfl) (e := Extern.AbiNoEscape.same) (by kernel_rfl), Lib.run_noEscape]
      rfl
    rw [vCall_at] at cl
    simp +contextual (maxSteps := 2000000) (disch := (first | omega | (simp only [SZ]; done) | (simp only [SZ]; omega) | (simp only [TS] at *; omega))) only [RZ, gval, gslot, fillL, ovw, numb, catL, ldN, agL, okC, oneC, init, Nat.reduceAdd, Nat.reduceMul, Nat.reduceSub, Nat.reduceEqDiff, Nat.reduceLT, ↓reduceIte, Int.reduceToNat, Int.reduceAdd, Int.reduceSub, Int.reduceMul, Int.reduceLT, Int.reduceLE, Int.reduceEq, Nat.reduceLeDiff,  c0]
    refine W_if_t rfl ?_
    simp +contextual (maxSteps := 2000000) (disch := (first | omega | (simp only [SZ]; done) | (simp only [SZ]; omega) | (simp only [TS] at *; omega))) only [RZ, gval, gslot, fillL, ovw, numb, catL, ldN, agL, okC, oneC, init, Nat.reduceAdd, Nat.reduceMul, Nat.reduceSub, Nat.reduceEqDiff, Nat.reduceLT, ↓reduceIte, Int.reduceToNat, Int.reduceAdd, Int.reduceSub, Int.reduceMul, Int.reduceLT, Int.reduceLE, Int.reduceEq, Nat.reduceLeDiff,  c0, z0, cv1, cv2, cl, cs, ne]
    exact ⟨h.used _, (Below.refl B w).setCell (p := ⟨b, 0, none⟩) h.1 _, Keeps.setCell _ _ _ _⟩
  · have c0 := h.cell0
    simp +contextual (maxSteps := 2000000) (disch := (first | omega | (simp only [SZ]; done) | (simp only [SZ]; omega) | (simp only [TS] at *; omega))) only [RZ, gval, gslot, fillL, ovw, numb, catL, ldN, agL, okC, oneC, init, Nat.reduceAdd, Nat.reduceMul, Nat.reduceSub, Nat.reduceEqDiff, Nat.reduceLT, ↓reduceIte, Int.reduceToNat, Int.reduceAdd, Int.reduceSub, Int.reduceMul, Int.reduceLT, Int.reduceLE, Int.reduceEq, Nat.reduceLeDiff,  c0]
    refine W_if_f rfl ?_
    simp +contextual (maxSteps := 2000000) (disch := (first | omega | (simp only [SZ]; done) | (simp only [SZ]; omega) | (simp only [TS] at *; omega))) only [RZ, gval, gslot, fillL, ovw, numb, catL, ldN, agL, okC, oneC, init, Nat.reduceAdd, Nat.reduceMul, Nat.reduceSub, Nat.reduceEqDiff, Nat.reduceLT, ↓reduceIte, Int.reduceToNat, Int.reduceAdd, Int.reduceSub, Int.reduceMul, Int.reduceLT, Int.reduceLE, Int.reduceEq, Nat.reduceLeDiff,  c0, ne]
    refine W_if_f rfl ?_
    simp +contextual (maxSteps := 2000000) (disch := (first | omega | (simp only [SZ]; done) | (simp only [SZ]; omega) | (simp only [TS] at *; omega))) only [RZ, gval, gslot, fillL, ovw, numb, catL, ldN, agL, okC, oneC, init, Nat.reduceAdd, Nat.reduceMul, Nat.reduceSub, Nat.reduceEqDiff, Nat.reduceLT, ↓reduceIte, Int.reduceToNat, Int.reduceAdd, Int.reduceSub, Int.reduceMul, Int.reduceLT, Int.reduceLE, Int.reduceEq, Nat.reduceLeDiff]
    exact ⟨h, Below.refl B _, Keeps.refl _ _⟩
theorem writeByte_any (B b : Nat) (l : List Value) (c : Int) (w : World) (h : Lib.IsBuilder 56 5 B b l w) (hlen : l.length + 1 ≤ 1000000000) (hBw : B ≤ w.heap.size) :
    Calls Tryd.prog 31 #[.pointer (some ⟨b, 0, none⟩), .int .u8 c] w fun e w' => e = .returned .nilIface ∧ Lib.IsBuilder 56 5 B b (l ++ [.int .u8 c]) w' ∧ Below B w w' ∧ Keeps b w w' := by
  refine calls_W (l := [_, _]) Tryd.func31 rfl _ Tryd.ntmps31 (by simp) ?_
  simp +contextual (maxSteps := 2000000) (disch := (first | omega | (simp only [SZ]; done) | (simp only [SZ]; omega) | (simp only [TS] at *; omega))) only [RZ, gval, gslot, fillL, ovw, numb, catL, ldN, agL, okC, oneC, init, Nat.reduceAdd, Nat.reduceMul, Nat.reduceSub, Nat.reduceEqDiff, Nat.reduceLT, ↓reduceIte, Int.reduceToNat, Int.reduceAdd, Int.reduceSub, Int.reduceMul, Int.reduceLT, Int.reduceLE, Int.reduceEq, Nat.reduceLeDiff]
  refine (copyCheck_any B b l w h).mono ?_
  rintro e w1 ⟨rfl, ⟨hB, v, hbk, hown, hne⟩, hb1, hkp⟩
  refine ⟨_, rfl, ?_⟩
  have hI : sliceI Tryd.prog 40 = some (5, 1, 1) := by kernel_rfl
  obtain ⟨A, n, cp, rfl, rfl⟩ : ∃ A n cp, v = .slice A n cp ∧ n = l.length := by
    rcases hown.2 with ⟨hv, h0⟩ | ⟨g, cap, cur, hv, _⟩
    · exact ⟨none, 0, 0, hv, h0.symm⟩
    · exact ⟨_, _, _, hv, rfl⟩
  have c1 : w1.cell? ⟨b, 1, none⟩ = some (.slice A l.length cp) := by rw [Lib.cell_of_heap hbk]; rfl
  have hsz := hb1.size
  obtain ⟨A', c', w2, he, hown2, hg2, _⟩ := vAppend_own (P := Tryd.prog) (T := 40) (ty := 40) (m := 1) (c := 1) (b := w1.heap.size) (o := 0) (news := [.int .u8 c]) hI (hown.alloc (.cells #[.int .u8 c] 5)) rfl
    (fun j u hu => by rw [Nat.zero_add, (new_block w1 #[.int .u8 c] 5).1 j]; simpa using hu) (fun u hu => by simp at hu; subst hu; rfl) (by omega) (by omega) (by rw [World.size_alloc]; omega)
  have hlt : b < w1.heap.size := by
    rcases Nat.lt_or_ge b w1.heap.size with h' | h'
    · exact h'
    · simp [Array.getElem?_eq_none h'] at hbk
  have hb2 : w2.heap[b]? = some (.cells #[.pointer (some ⟨b, 0, none⟩), .slice A l.length cp] 56 (0, 0)) := by
    rw [hg2.block b (by simp; omega) (fun e => hne e.symm), Lib.alloc_old w1 _ b hlt]
    exact hbk
  have d1 : w2.cell? ⟨b, 1, none⟩ = some (.slice A l.length cp) := by rw [Lib.cell_of_heap hb2]; rfl
  have f1 : w2.frozen? ⟨b, 1, none⟩ = false := Lib.frozen_of_heap hb2 1
  simp +contextual (maxSteps := 2000000) (disch := (first | omega | (simp only [SZ]; done) | (simp only [SZ]; omega) | (simp only [TS] at *; omega))) only [RZ, gval, gslot, fillL, ovw, numb, catL, ldN, agL, okC, oneC, init, Nat.reduceAdd, Nat.reduceMul, Nat.reduceSub, Nat.reduceEqDiff, Nat.reduceLT, ↓reduceIte, Int.reduceToNat, Int.reduceAdd, Int.reduceSub, Int.reduceMul, Int.reduceLT, Int.reduceLE, Int.reduceEq, Nat.reduceLeDiff,  c1, he, d1, f1]
  exact ⟨.inr (Lib.BuilderAt.put (T := 56) (e := 5) hB hb2 (bs' := l ++ [.int .u8 c]) (by simpa using hown2) (by decide)),
    ((hb1.alloc (by omega) _).grown hg2 (by simp; omega) (fun k hk => (hown.lt k hk).1)).setCell (p := ⟨b, 1, none⟩) hB _,
    ((hkp.trans (Keeps.alloc _ _ _)).trans (Keeps.grown (hown.alloc _) hg2)).trans (Keeps.setCell _ _ _ _)⟩
theorem writeString_any (B b : Nat) (l : List Value) (s : ByteArray) (w : World) (h : Lib.IsBuilder 56 5 B b l w) (hlen : l.length + s.size ≤ 1000000000) (hBw : B ≤ w.heap.size) :
    Calls Tryd.prog 28 #[.pointer (some ⟨b, 0, none⟩), .string s] w fun e w' => e = .returned (.tuple #[.int .i64 s.size, .nilIface]) ∧ Lib.IsBuilder 56 5 B b (l ++ Lib.strCells s) w' ∧ Below B w w' ∧ Keeps b w w' := by
  refine calls_W (l := [_, _]) Tryd.func28 rfl _ Tryd.ntmps28 (by simp) ?_
  simp +contextual (maxSteps := 2000000) (disch := (first | omega | (simp only [SZ]; done) | (simp only [SZ]; omega) | (simp only [TS] at *; omega))) only [RZ, gval, gslot, fillL, ovw, numb, catL, ldN, agL, okC, oneC, init, Nat.reduceAdd, Nat.reduceMul, Nat.reduceSub, Nat.reduceEqDiff, Nat.reduceLT, ↓reduceIte, Int.reduceToNat, Int.reduceAdd, Int.reduceSub, Int.reduceMul, Int.reduceLT, Int.reduceLE, Int.reduceEq, Nat.reduceLeDiff]
  refine (copyCheck_any B b l w h).mono ?_
  rintro e w1 ⟨rfl, ⟨hB, v, hbk, hown, hne⟩, hb1, hkp⟩
  refine ⟨_, rfl, ?_⟩
  obtain ⟨i0, hi, hz0, hz1, hz2⟩ := info_parts (show (Tryd.prog.info? 5).map (fun i => (i.zero, i.size, i.bytes)) = some (some (.int .u8 0), 1, 1) by kernel_rfl)
  obtain ⟨A, n, cp, rfl, rfl⟩ : ∃ A n cp, v = .slice A n cp ∧ n = l.length := by
    rcases hown.2 with ⟨hv, h0⟩ | ⟨g, cap, cur, hv, _⟩
    · exact ⟨none, 0, 0, hv, h0.symm⟩
    · exact ⟨_, _, _, hv, rfl⟩
  have c1 : w1.cell? ⟨b, 1, none⟩ = some (.slice A l.length cp) := by rw [Lib.cell_of_heap hbk]; rfl
  have hsz := hb1.size
  obtain ⟨v', w2, he0, hown2, hg2, _⟩ := Lib.run_append_own_string (P := Tryd.prog) (w := w1) B 40 9 40 5 i0 Tryd.underlying40 Tryd.underlying9 hi hz0 hz1 hz2 (.slice A l.length cp) l.length l hown s (by unfold maxLen; omega) (by omega) (by omega)
  have he : vAppend Tryd.prog 40 9 40 (.slice A l.length cp) (.string s) w1 = .ok (.value v') w2 := by simp [vAppend, he0]
  obtain ⟨A', n', c', rfl⟩ : ∃ A n cp, v' = .slice A n cp := by
    rcases hown2.2 with ⟨hv, _⟩ | ⟨g, cap, cur, hv, _⟩
    · exact ⟨_, _, _, hv⟩
    · exact ⟨_, _, _, hv⟩
  have hlt : b < w1.heap.size := by
    rcases Nat.lt_or_ge b w1.heap.size with h' | h'
    · exact h'
    · simp [Array.getElem?_eq_none h'] at hbk
  have hb2 : w2.heap[b]? = some (.cells #[.pointer (some ⟨b, 0, none⟩), .slice A l.length cp] 56 (0, 0)) := by
    rw [hg2.block b hlt (fun e => hne e.symm)]
    exact hbk
  have d1 : w2.cell? ⟨b, 1, none⟩ = some (.slice A l.length cp) := by rw [Lib.cell_of_heap hb2]; rfl
  have f1 : w2.frozen? ⟨b, 1, none⟩ = false := Lib.frozen_of_heap hb2 1
  simp +contextual (maxSteps := 2000000) (disch := (first | omega | (simp only [SZ]; done) | (simp only [SZ]; omega) | (simp only [TS] at *; omega))) only [RZ, gval, gslot, fillL, ovw, numb, catL, ldN, agL, okC, oneC, init, Nat.reduceAdd, Nat.reduceMul, Nat.reduceSub, Nat.reduceEqDiff, Nat.reduceLT, ↓reduceIte, Int.reduceToNat, Int.reduceAdd, Int.reduceSub, Int.reduceMul, Int.reduceLT, Int.reduceLE, Int.reduceEq, Nat.reduceLeDiff,  c1, he, d1, f1]
  exact ⟨.inr (Lib.BuilderAt.put (T := 56) (e := 5) hB hb2 (bs' := l ++ Lib.strCells s) (by simpa [Lib.strCells_length] using hown2) (by decide)),
    (hb1.grown hg2 (by omega) (fun k hk => (hown.lt k hk).1)).setCell (p := ⟨b, 1, none⟩) hB _,
    (hkp.trans (Keeps.grown hown hg2)).trans (Keeps.setCell _ _ _ _)⟩
theorem isB_below {B b : Nat} {l : List Value} {w w' : World} (h : Lib.IsBuilder 56 5 B b l w) (hb : Below w.heap.size w w') : Lib.IsBuilder 56 5 B b l w' := by
  have key : ∀ p, Lib.BuilderAt 56 5 B b p l w → Lib.BuilderAt 56 5 B b p l w' := by
    rintro p ⟨hB, v, hbk, hown, hne⟩
    have hlt : b < w.heap.size := (Array.getElem?_eq_some_iff.1 hbk).1
    exact ⟨hB, v, (hb.block b hlt).trans hbk, owns_below hown hb, hne⟩
  exact h.elim (fun h => .inl (key _ h)) (fun h => .inr (key _ h))
end Go.Proofs.YtjaeiiiniohloaaDoor
/- strings.Builder in short: what is written so far, as numbers. -/
namespace Go.Proofs.YtjaeiiiniohloaaDoor
open Go.RowKit
set_option maxRecDepth 100000
def BldIn (b : Nat) (w : World) (X : List Nat) : Prop := Lib.IsBuilder 56 5 b b (byV X) w ∧ (∀ n ∈ X, n < 256)
theorem strCells_bs (s : ByteArray) : Lib.strCells s = byV (bs s) := by
  unfold Lib.strCells byV bs
  rw [List.map_map]
  rfl
theorem byV_len (X : List Nat) : (byV X).length = X.length := List.length_map ..
theorem byV_app (X Y : List Nat) : byV (X ++ Y) = byV X ++ byV Y := List.map_append
theorem BldIn.fresh (w : World) : BldIn w.heap.size (w.alloc (.cells #[.pointer none, .slice none 0 0] 56)) [] := ⟨Lib.fresh_isBuilder _ _ _, fun n h => by cases h⟩
theorem BldIn.below {b : Nat} {w w' : World} {X : List Nat} (h : BldIn b w X) (hb : Below w.heap.size w w') : BldIn b w' X := ⟨isB_below h.1 hb, h.2⟩
theorem BldIn.drew {b : Nat} {w : World} {X : List Nat} (h : BldIn b w X) : BldIn b w.drew X := h
theorem BldIn.lt {b : Nat} {w : World} {X : List Nat} (h : BldIn b w X) : b < w.heap.size := by
  rcases h.1 with ⟨_, v, hb, _⟩ | ⟨_, v, hb, _⟩ <;> exact (Array.getElem?_eq_some_iff.1 hb).1
theorem BldIn.write {b : Nat} {w : World} {X : List Nat} (h : BldIn b w X) (s : ByteArray) (hl : X.length + s.size ≤ 1000000000) :
    Calls Tryd.prog 28 #[.pointer (some ⟨b, 0, none⟩), .string s] w fun e w' => e = .returned (.tuple #[.int .i64 s.size, .nilIface]) ∧ BldIn b w' (X ++ bs s) ∧ Below b w w' ∧ Keeps b w w' := by
  refine (writeString_any b b (byV X) s w h.1 (by rw [byV_len]; exact hl) (Nat.le_of_lt h.lt)).mono ?_
  rintro e w' ⟨h1, h2, h3, h4⟩
  refine ⟨h1, ⟨by rw [byV_app, ← strCells_bs]; exact h2, fun n hn => ?_⟩, h3, h4⟩
  rcases List.mem_append.1 hn with hn | hn
  · exact h.2 n hn
  · exact bs_lt s n hn
theorem BldIn.byte {b : Nat} {w : World} {X : List Nat} (h : BldIn b w X) (c : Nat) (hc : c < 256) (hl : X.length + 1 ≤ 1000000000) :
    Calls Tryd.prog 31 #[.pointer (some ⟨b, 0, none⟩), .int .u8 c] w fun e w' => e = .returned .nilIface ∧ BldIn b w' (X ++ [c]) ∧ Below b w w' ∧ Keeps b w w' := by
  refine (writeByte_any b b (byV X) c w h.1 (by rw [byV_len]; exact hl) (Nat.le_of_lt h.lt)).mono ?_
  rintro e w' ⟨h1, h2, h3, h4⟩
  refine ⟨h1, ⟨by rw [byV_app]; exact h2, fun n hn => ?_⟩, h3, h4⟩
  rcases List.mem_append.1 hn with hn | hn
  · exact h.2 n hn
  · simp at hn; omega
theorem BldIn.str {b : Nat} {w : World} {X : List Nat} (h : BldIn b w X) :
    Calls Tryd.prog 32 #[.pointer (some ⟨b, 0, none⟩)] w fun e w' => e = .returned (.string (toBA X)) ∧ Below b w w' := by
  have e1 : byV X = Lib.byteCells (toBA X).data.toList := by
    have h1 : Lib.strCells (toBA X) = byV X := by rw [strCells_bs, bs_toBA h.2]
    rw [← h1]
    rfl
  have h1 := h.1
  rw [e1] at h1
  refine (Tryd.Builder_String_any b b _ w h1 (Nat.le_of_lt h.lt)).mono ?_
  rintro e w' ⟨he, hb⟩
  exact ⟨he, hb⟩
/-- Texts side by side. -/
theorem app_toBA (s t : ByteArray) : s ++ t = toBA (bs s ++ bs t) := by
  have h : ∀ c ∈ bs s ++ bs t, c < 256 := fun c hc => by
    rcases List.mem_append.1 hc with h | h
    · exact bs_lt s c h
    · exact bs_lt t c h
  exact bs_inj (by rw [bs_toBA h, bs_append])
end Go.Proofs.YtjaeiiiniohloaaDoor
/- Walks: script.printField. -/
namespace Go.Proofs.YtjaeiiiniohloaaDoor
open Go.RowKit
set_option maxRecDepth 100000
/-- Numbers that lie in memory. -/
def NumR (w : World) (v : Value) (L : List Int) : Prop := ∃ A c, v = .slice A L.length c ∧ Arr w A 1 (L.map fun n => [Value.int .i64 n])
theorem NumR.below {w w' : World} {v : Value} {L : List Int} (h : NumR w v L) (hb : Below w.heap.size w w') : NumR w' v L := by
  obtain ⟨A, c, rfl, ha⟩ := h
  exact ⟨A, c, rfl, ha.below hb⟩
theorem inV_flat : ∀ L : List Int, inV L = L.flatMap fun n => [Value.int .i64 n]
  | [] => rfl
  | x :: r => by
    have := inV_flat r
    unfold inV at *
    rw [List.map_cons, this]
    rfl
theorem NumIn.reads {base : Nat} {w : World} {v : Value} {L : List Int} (h : NumIn base w v L) : NumR w v L := by
  obtain ⟨A, c, rfl, ho⟩ := h
  refine ⟨A, c, rfl, fun hn => ?_⟩
  rw [List.length_map] at hn
  obtain ⟨g, rfl, _, hr, _⟩ := owns_row ho hn
  rw [inV_flat] at hr
  exact hr.arr (α := Int) (enc := fun n => [Value.int .i64 n]) (sz := 1) (fun _ => rfl) (by rw [List.length_map]; exact hn)
theorem sp_app (s : ByteArray) : (⟨#[32]⟩ : ByteArray) ++ s = toBA (32 :: bs s) := app_toBA ⟨#[32]⟩ s
theorem sp_fmt (n : Int) : (⟨#[32]⟩ : ByteArray) ++ fmtB n = toBA (32 :: fmtI n) := sp_app _
theorem fmtB_size {n : Int} (h : numR n) : (fmtB n).size ≤ 21 := by rw [← bs_len]; exact fmtI_len h
theorem sp_len {n : Int} (h : numR n) : ((⟨#[32]⟩ : ByteArray) ++ fmtB n).size ≤ 22 := by
  rw [← bs_len, bs_append, List.length_append, bs_len (fmtB n)]
  have := fmtB_size h
  show 1 + _ ≤ 22
  omega
theorem quote_size (s : ByteArray) (h : s.size ≤ 1000000) : (toBA (quoteL (bs s))).size ≤ 4000002 := by
  rw [toBA_size]
  unfold quoteL
  have := qB_le (bs s)
  rw [bs_len] at this
  simp only [List.length_cons, List.length_append, List.length_nil]
  omega
theorem printField_any (c : Cm) (v : Value) (x : Nat) (w : World) (hL : Laid w) (hok : c.ok) (hv : NumR w v c.nums) (_hx : x < 256) (h1 : c.name.size ≤ 1000000) (h2 : c.text.size ≤ 1000000) (h3 : c.nums.length ≤ 1000000) :
    Calls Tryd.prog 30 #[.agg (cmV c v).toArray, .int .u8 x] w fun e w' => e = .returned (.string (toBA (prF c x))) ∧ Below w.heap.size w w' := by
  refine calls_W (l := [_, _]) Tryd.func30 rfl _ Tryd.ntmps30 (by simp) ?_
  have hsz := hL.size
  obtain ⟨A, cp, rfl, harr⟩ := hv
  obtain ⟨hk, ha, hw, hca, hb, hns, hke, hno⟩ := hok
  unfold cmV
  simp +contextual (maxSteps := 2000000) (disch := (first | omega | (simp only [SZ]; done) | (simp only [SZ]; omega) | (simp only [TS] at *; omega))) only [RZ, gval, gslot, fillL, ovw, numb, catL, ldN, agL, okC, oneC, init, Nat.reduceAdd, Nat.reduceMul, Nat.reduceSub, Nat.reduceEqDiff, Nat.reduceLT, ↓reduceIte, Int.reduceToNat, Int.reduceAdd, Int.reduceSub, Int.reduceMul, Int.reduceLT, Int.reduceLE, Int.reduceEq, Nat.reduceLeDiff]
  generalize hw1 : w.alloc _ = w1
  have hB1 : Below w.heap.size w w1 := by rw [← hw1]; exact below_alloc _ _
  have hr1 : Row w1 w.heap.size 25 (cmV c (.slice A c.nums.length cp)) := by rw [← hw1]; exact Row.new _ _ _
  have t1 := hr1.ten
  have hL1 := hL.below hB1 hsz
  have hs1 := hB1.size
  clear hw1
  have num : ∀ (n : Int) (R : Value → World → Prop), numR n → (∀ w2, Below w.heap.size w w2 → R (.string (fmtB n)) w2) → Calls Tryd.prog 29 #[.int .i64 n] w1 fun e w'' => ∃ v, e = .returned v ∧ R v w'' := fun n R hn hR =>
    (format_any n w1 hL1 hn).mono fun e w2 ⟨he, hb⟩ => ⟨_, he, hR w2 (hB1.trans (hb.mono hs1))⟩
  have hz : (⟨#[32]⟩ : ByteArray).size = 1 := rfl
  unfold prF
  (refine W_if rfl (fun hc => ?_) (fun hc => ?_) <;> (try simp only [TS] at hc))
  · rw [if_pos (by omega)]
    have hf := fmtB_size hw
    simp +contextual (maxSteps := 2000000) (disch := (first | omega | (simp only [SZ]; done) | (simp only [SZ]; omega) | (simp only [TS] at *; omega))) only [RZ, gval, gslot, fillL, ovw, numb, catL, ldN, agL, okC, oneC, init, Nat.reduceAdd, Nat.reduceMul, Nat.reduceSub, Nat.reduceEqDiff, Nat.reduceLT, ↓reduceIte, Int.reduceToNat, Int.reduceAdd, Int.reduceSub, Int.reduceMul, Int.reduceLT, Int.reduceLE, Int.reduceEq, Nat.reduceLeDiff,  t1]
    refine num c.who _ hw fun w2 hB2 => ?_
    simp +contextual (maxSteps := 2000000) (disch := (first | omega | (simp only [SZ]; done) | (simp only [SZ]; omega) | (simp only [TS] at *; omega))) only [RZ, gval, gslot, fillL, ovw, numb, catL, ldN, agL, okC, oneC, init, Nat.reduceAdd, Nat.reduceMul, Nat.reduceSub, Nat.reduceEqDiff, Nat.reduceLT, ↓reduceIte, Int.reduceToNat, Int.reduceAdd, Int.reduceSub, Int.reduceMul, Int.reduceLT, Int.reduceLE, Int.reduceEq, Nat.reduceLeDiff,  sp_fmt]
    exact hB2
  rw [if_neg (by omega)]
  clear hc
  simp +contextual (maxSteps := 2000000) (disch := (first | omega | (simp only [SZ]; done) | (simp only [SZ]; omega) | (simp only [TS] at *; omega))) only [RZ, gval, gslot, fillL, ovw, numb, catL, ldN, agL, okC, oneC, init, Nat.reduceAdd, Nat.reduceMul, Nat.reduceSub, Nat.reduceEqDiff, Nat.reduceLT, ↓reduceIte, Int.reduceToNat, Int.reduceAdd, Int.reduceSub, Int.reduceMul, Int.reduceLT, Int.reduceLE, Int.reduceEq, Nat.reduceLeDiff]
  (refine W_if rfl (fun hc => ?_) (fun hc => ?_) <;> (try simp only [TS] at hc))
  · rw [if_pos (by omega)]
    have hf := fmtB_size hca
    simp +contextual (maxSteps := 2000000) (disch := (first | omega | (simp only [SZ]; done) | (simp only [SZ]; omega) | (simp only [TS] at *; omega))) only [RZ, gval, gslot, fillL, ovw, numb, catL, ldN, agL, okC, oneC, init, Nat.reduceAdd, Nat.reduceMul, Nat.reduceSub, Nat.reduceEqDiff, Nat.reduceLT, ↓reduceIte, Int.reduceToNat, Int.reduceAdd, Int.reduceSub, Int.reduceMul, Int.reduceLT, Int.reduceLE, Int.reduceEq, Nat.reduceLeDiff,  t1]
    refine num c.a _ hca fun w2 hB2 => ?_
    simp +contextual (maxSteps := 2000000) (disch := (first | omega | (simp only [SZ]; done) | (simp only [SZ]; omega) | (simp only [TS] at *; omega))) only [RZ, gval, gslot, fillL, ovw, numb, catL, ldN, agL, okC, oneC, init, Nat.reduceAdd, Nat.reduceMul, Nat.reduceSub, Nat.reduceEqDiff, Nat.reduceLT, ↓reduceIte, Int.reduceToNat, Int.reduceAdd, Int.reduceSub, Int.reduceMul, Int.reduceLT, Int.reduceLE, Int.reduceEq, Nat.reduceLeDiff,  sp_fmt]
    exact hB2
  rw [if_neg (by omega)]
  clear hc
  simp +contextual (maxSteps := 2000000) (disch := (first | omega | (simp only [SZ]; done) | (simp only [SZ]; omega) | (simp only [TS] at *; omega))) only [RZ, gval, gslot, fillL, ovw, numb, catL, ldN, agL, okC, oneC, init, Nat.reduceAdd, Nat.reduceMul, Nat.reduceSub, Nat.reduceEqDiff, Nat.reduceLT, ↓reduceIte, Int.reduceToNat, Int.reduceAdd, Int.reduceSub, Int.reduceMul, Int.reduceLT, Int.reduceLE, Int.reduceEq, Nat.reduceLeDiff]
  (refine W_if rfl (fun hc => ?_) (fun hc => ?_) <;> (try simp only [TS] at hc))
  · rw [if_pos (by omega)]
    have hf := fmtB_size hb
    simp +contextual (maxSteps := 2000000) (disch := (first | omega | (simp only [SZ]; done) | (simp only [SZ]; omega) | (simp only [TS] at *; omega))) only [RZ, gval, gslot, fillL, ovw, numb, catL, ldN, agL, okC, oneC, init, Nat.reduceAdd, Nat.reduceMul, Nat.reduceSub, Nat.reduceEqDiff, Nat.reduceLT, ↓reduceIte, Int.reduceToNat, Int.reduceAdd, Int.reduceSub, Int.reduceMul, Int.reduceLT, Int.reduceLE, Int.reduceEq, Nat.reduceLeDiff,  t1]
    refine num c.b _ hb fun w2 hB2 => ?_
    simp +contextual (maxSteps := 2000000) (disch := (first | omega | (simp only [SZ]; done) | (simp only [SZ]; omega) | (simp only [TS] at *; omega))) only [RZ, gval, gslot, fillL, ovw, numb, catL, ldN, agL, okC, oneC, init, Nat.reduceAdd, Nat.reduceMul, Nat.reduceSub, Nat.reduceEqDiff, Nat.reduceLT, ↓reduceIte, Int.reduceToNat, Int.reduceAdd, Int.reduceSub, Int.reduceMul, Int.reduceLT, Int.reduceLE, Int.reduceEq, Nat.reduceLeDiff,  sp_fmt]
    exact hB2
  rw [if_neg (by omega)]
  clear hc
  simp +contextual (maxSteps := 2000000) (disch := (first | omega | (simp only [SZ]; done) | (simp only [SZ]; omega) | (simp only [TS] at *; omega))) only [RZ, gval, gslot, fillL, ovw, numb, catL, ldN, agL, okC, oneC, init, Nat.reduceAdd, Nat.reduceMul, Nat.reduceSub, Nat.reduceEqDiff, Nat.reduceLT, ↓reduceIte, Int.reduceToNat, Int.reduceAdd, Int.reduceSub, Int.reduceMul, Int.reduceLT, Int.reduceLE, Int.reduceEq, Nat.reduceLeDiff]
  (refine W_if rfl (fun hc => ?_) (fun hc => ?_) <;> (try simp only [TS] at hc))
  · rw [if_pos (by omega)]
    simp +contextual (maxSteps := 2000000) (disch := (first | omega | (simp only [SZ]; done) | (simp only [SZ]; omega) | (simp only [TS] at *; omega))) only [RZ, gval, gslot, fillL, ovw, numb, catL, ldN, agL, okC, oneC, init, Nat.reduceAdd, Nat.reduceMul, Nat.reduceSub, Nat.reduceEqDiff, Nat.reduceLT, ↓reduceIte, Int.reduceToNat, Int.reduceAdd, Int.reduceSub, Int.reduceMul, Int.reduceLT, Int.reduceLE, Int.reduceEq, Nat.reduceLeDiff,  t1, sp_app]
    exact hB1
  rw [if_neg (by omega)]
  clear hc
  simp +contextual (maxSteps := 2000000) (disch := (first | omega | (simp only [SZ]; done) | (simp only [SZ]; omega) | (simp only [TS] at *; omega))) only [RZ, gval, gslot, fillL, ovw, numb, catL, ldN, agL, okC, oneC, init, Nat.reduceAdd, Nat.reduceMul, Nat.reduceSub, Nat.reduceEqDiff, Nat.reduceLT, ↓reduceIte, Int.reduceToNat, Int.reduceAdd, Int.reduceSub, Int.reduceMul, Int.reduceLT, Int.reduceLE, Int.reduceEq, Nat.reduceLeDiff]
  (refine W_if rfl (fun hc => ?_) (fun hc => ?_) <;> (try simp only [TS] at hc))
  · rw [if_pos (by omega)]
    simp +contextual (maxSteps := 2000000) (disch := (first | omega | (simp only [SZ]; done) | (simp only [SZ]; omega) | (simp only [TS] at *; omega))) only [RZ, gval, gslot, fillL, ovw, numb, catL, ldN, agL, okC, oneC, init, Nat.reduceAdd, Nat.reduceMul, Nat.reduceSub, Nat.reduceEqDiff, Nat.reduceLT, ↓reduceIte, Int.reduceToNat, Int.reduceAdd, Int.reduceSub, Int.reduceMul, Int.reduceLT, Int.reduceLE, Int.reduceEq, Nat.reduceLeDiff,  t1]
    refine (quote_any c.text w1 h2).mono ?_
    rintro e w2 ⟨rfl, hb2⟩
    refine ⟨_, rfl, ?_⟩
    have hqz := quote_size c.text h2
    have hqb := bs_toBA (l := quoteL (bs c.text)) (fun d hd => by have := quote_all (bs_lt c.text) d hd; omega)
    simp +contextual (maxSteps := 2000000) (disch := (first | omega | (simp only [SZ]; done) | (simp only [SZ]; omega) | (simp only [TS] at *; omega))) only [RZ, gval, gslot, fillL, ovw, numb, catL, ldN, agL, okC, oneC, init, Nat.reduceAdd, Nat.reduceMul, Nat.reduceSub, Nat.reduceEqDiff, Nat.reduceLT, ↓reduceIte, Int.reduceToNat, Int.reduceAdd, Int.reduceSub, Int.reduceMul, Int.reduceLT, Int.reduceLE, Int.reduceEq, Nat.reduceLeDiff,  sp_app, hqb]
    exact hB1.trans (hb2.mono hs1)
  rw [if_neg (by omega)]
  clear hc
  simp +contextual (maxSteps := 2000000) (disch := (first | omega | (simp only [SZ]; done) | (simp only [SZ]; omega) | (simp only [TS] at *; omega))) only [RZ, gval, gslot, fillL, ovw, numb, catL, ldN, agL, okC, oneC, init, Nat.reduceAdd, Nat.reduceMul, Nat.reduceSub, Nat.reduceEqDiff, Nat.reduceLT, ↓reduceIte, Int.reduceToNat, Int.reduceAdd, Int.reduceSub, Int.reduceMul, Int.reduceLT, Int.reduceLE, Int.reduceEq, Nat.reduceLeDiff]
  (refine W_if rfl (fun hc => ?_) (fun hc => ?_) <;> (try simp only [TS] at hc))
  · rw [if_pos (by omega)]
    obtain ⟨X, hX⟩ : ∃ X : Nat, c.key = X := ⟨c.key.toNat, by omega⟩
    rw [hX] at t1 hke ⊢
    simp +contextual (maxSteps := 2000000) (disch := (first | omega | (simp only [SZ]; done) | (simp only [SZ]; omega) | (simp only [TS] at *; omega))) only [RZ, gval, gslot, fillL, ovw, numb, catL, ldN, agL, okC, oneC, init, Nat.reduceAdd, Nat.reduceMul, Nat.reduceSub, Nat.reduceEqDiff, Nat.reduceLT, ↓reduceIte, Int.reduceToNat, Int.reduceAdd, Int.reduceSub, Int.reduceMul, Int.reduceLT, Int.reduceLE, Int.reduceEq, Nat.reduceLeDiff,  t1]
    refine (hex_any X w1 hL1 (by omega)).mono ?_
    rintro e w2 ⟨rfl, hb2⟩
    refine ⟨_, rfl, ?_⟩
    have hqz : (toBA (hexT 16 X)).size = 16 := by rw [toBA_size, hexT_len]
    have hqb := bs_toBA (l := hexT 16 X) (fun d hd => by have := hexT_all 16 X d hd; omega)
    simp +contextual (maxSteps := 2000000) (disch := (first | omega | (simp only [SZ]; done) | (simp only [SZ]; omega) | (simp only [TS] at *; omega))) only [RZ, gval, gslot, fillL, ovw, numb, catL, ldN, agL, okC, oneC, init, Nat.reduceAdd, Nat.reduceMul, Nat.reduceSub, Nat.reduceEqDiff, Nat.reduceLT, ↓reduceIte, Int.reduceToNat, Int.reduceAdd, Int.reduceSub, Int.reduceMul, Int.reduceLT, Int.reduceLE, Int.reduceEq, Nat.reduceLeDiff,  sp_app, hqb]
    exact hB1.trans (hb2.mono hs1)
  rw [if_neg (by omega)]
  clear hc
  simp +contextual (maxSteps := 2000000) (disch := (first | omega | (simp only [SZ]; done) | (simp only [SZ]; omega) | (simp only [TS] at *; omega))) only [RZ, gval, gslot, fillL, ovw, numb, catL, ldN, agL, okC, oneC, init, Nat.reduceAdd, Nat.reduceMul, Nat.reduceSub, Nat.reduceEqDiff, Nat.reduceLT, ↓reduceIte, Int.reduceToNat, Int.reduceAdd, Int.reduceSub, Int.reduceMul, Int.reduceLT, Int.reduceLE, Int.reduceEq, Nat.reduceLeDiff]
  (refine W_if rfl (fun hc => ?_) (fun hc => ?_) <;> (try simp only [TS] at hc))
  · rw [if_pos (by omega)]
    obtain ⟨X, hX⟩ : ∃ X : Nat, c.nonce = X := ⟨c.nonce.toNat, by omega⟩
    rw [hX] at t1 hno ⊢
    simp +contextual (maxSteps := 2000000) (disch := (first | omega | (simp only [SZ]; done) | (simp only [SZ]; omega) | (simp only [TS] at *; omega))) only [RZ, gval, gslot, fillL, ovw, numb, catL, ldN, agL, okC, oneC, init, Nat.reduceAdd, Nat.reduceMul, Nat.reduceSub, Nat.reduceEqDiff, Nat.reduceLT, ↓reduceIte, Int.reduceToNat, Int.reduceAdd, Int.reduceSub, Int.reduceMul, Int.reduceLT, Int.reduceLE, Int.reduceEq, Nat.reduceLeDiff,  t1]
    refine (hex_any X w1 hL1 (by omega)).mono ?_
    rintro e w2 ⟨rfl, hb2⟩
    refine ⟨_, rfl, ?_⟩
    have hqz : (toBA (hexT 16 X)).size = 16 := by rw [toBA_size, hexT_len]
    have hqb := bs_toBA (l := hexT 16 X) (fun d hd => by have := hexT_all 16 X d hd; omega)
    simp +contextual (maxSteps := 2000000) (disch := (first | omega | (simp only [SZ]; done) | (simp only [SZ]; omega) | (simp only [TS] at *; omega))) only [RZ, gval, gslot, fillL, ovw, numb, catL, ldN, agL, okC, oneC, init, Nat.reduceAdd, Nat.reduceMul, Nat.reduceSub, Nat.reduceEqDiff, Nat.reduceLT, ↓reduceIte, Int.reduceToNat, Int.reduceAdd, Int.reduceSub, Int.reduceMul, Int.reduceLT, Int.reduceLE, Int.reduceEq, Nat.reduceLeDiff,  sp_app, hqb]
    exact hB1.trans (hb2.mono hs1)
  rw [if_neg (by omega)]
  clear hc num
  simp +contextual (maxSteps := 2000000) (disch := (first | omega | (simp only [SZ]; done) | (simp only [SZ]; omega) | (simp only [TS] at *; omega))) only [RZ, gval, gslot, fillL, ovw, numb, catL, ldN, agL, okC, oneC, init, Nat.reduceAdd, Nat.reduceMul, Nat.reduceSub, Nat.reduceEqDiff, Nat.reduceLT, ↓reduceIte, Int.reduceToNat, Int.reduceAdd, Int.reduceSub, Int.reduceMul, Int.reduceLT, Int.reduceLE, Int.reduceEq, Nat.reduceLeDiff,  t1]
  generalize hw2 : w1.alloc _ = w2
  have hB2 : Below w.heap.size w w2 := by rw [← hw2]; exact hB1.trans ((below_alloc _ _).mono hs1)
  have hb2 : Below w1.heap.size w1 w2 := by rw [← hw2]; exact below_alloc _ _
  have hD2 : BldIn w1.heap.size w2 [] := by rw [← hw2]; exact BldIn.fresh _
  clear hw2
  have t2 := (hr1.below hb2).ten
  simp +contextual (maxSteps := 2000000) (disch := (first | omega | (simp only [SZ]; done) | (simp only [SZ]; omega) | (simp only [TS] at *; omega))) only [RZ, gval, gslot, fillL, ovw, numb, catL, ldN, agL, okC, oneC, init, Nat.reduceAdd, Nat.reduceMul, Nat.reduceSub, Nat.reduceEqDiff, Nat.reduceLT, ↓reduceIte, Int.reduceToNat, Int.reduceAdd, Int.reduceSub, Int.reduceMul, Int.reduceLT, Int.reduceLE, Int.reduceEq, Nat.reduceLeDiff,  t2]
  have htk : ∀ k, k ≤ c.nums.length → ((c.nums.take k).flatMap fun n => 32 :: fmtI n).length ≤ 22 * k := fun k hk => by
    have := flat_le (fun n : Int => 32 :: fmtI n) 22 (c.nums.take k) (fun n hn => by have := fmtI_len (hns n (List.mem_of_mem_take hn)); simp only [List.length_cons]; omega)
    rw [List.length_take] at this
    omega
  refine Raw_loop (fun σ w3 => Below w.heap.size w w3 ∧ Below w1.heap.size w1 w3 ∧ ∃ k : Nat, k ≤ c.nums.length ∧ BldIn w1.heap.size w3 ((c.nums.take k).flatMap fun n => 32 :: fmtI n) ∧ σ 5 = .pointer (some ⟨w1.heap.size, 0, none⟩) ∧ σ 51 = .slice A c.nums.length cp ∧ σ 52 = .int .i64 c.nums.length ∧ σ 53 = .int .i64 k) (fun σ _ => c.nums.length - (intOf (σ 53)).toNat) ?_ ?_
  · simp +contextual (maxSteps := 2000000) (disch := (first | omega | (simp only [SZ]; done) | (simp only [SZ]; omega) | (simp only [TS] at *; omega))) only [RZ, gval, gslot, fillL, ovw, numb, catL, ldN, agL, okC, oneC, init, Nat.reduceAdd, Nat.reduceMul, Nat.reduceSub, Nat.reduceEqDiff, Nat.reduceLT, ↓reduceIte, Int.reduceToNat, Int.reduceAdd, Int.reduceSub, Int.reduceMul, Int.reduceLT, Int.reduceLE, Int.reduceEq, Nat.reduceLeDiff]
    exact ⟨hB2, hb2, 0, by omega, hD2, rfl⟩
  rintro σ w3 ⟨hB3, hb3, k, hkl, hD, e5, e51, e52, e53⟩ K hK
  have hs3 := hB3.size
  have hs3' := hb3.size
  simp +contextual (maxSteps := 2000000) (disch := (first | omega | (simp only [SZ]; done) | (simp only [SZ]; omega) | (simp only [TS] at *; omega))) only [RZ, gval, gslot, fillL, ovw, numb, catL, ldN, agL, okC, oneC, init, Nat.reduceAdd, Nat.reduceMul, Nat.reduceSub, Nat.reduceEqDiff, Nat.reduceLT, ↓reduceIte, Int.reduceToNat, Int.reduceAdd, Int.reduceSub, Int.reduceMul, Int.reduceLT, Int.reduceLE, Int.reduceEq, Nat.reduceLeDiff,  e5, e51, e52, e53]
  (refine W_if rfl (fun hc => ?_) (fun hc => ?_) <;> (try simp only [TS] at hc))
  · have hkk : k < c.nums.length := by omega
    clear hc
    obtain ⟨n, hn⟩ : ∃ n, c.nums[k]? = some n := ⟨_, List.getElem?_eq_getElem hkk⟩
    have hnr := hns n (List.mem_of_getElem? hn)
    obtain ⟨bb, o, rfl, hbb, hcell⟩ := (harr.below (hB3.mono (Nat.le_refl _))).at_ hn
    have hc0 := hcell 0 _ rfl
    rw [Nat.add_zero, Nat.mul_one] at hc0
    have hf := fmtB_size hnr
    have hl1 := htk k hkl
    simp +contextual (maxSteps := 2000000) (disch := (first | omega | (simp only [SZ]; done) | (simp only [SZ]; omega) | (simp only [TS] at *; omega))) only [RZ, gval, gslot, fillL, ovw, numb, catL, ldN, agL, okC, oneC, init, Nat.reduceAdd, Nat.reduceMul, Nat.reduceSub, Nat.reduceEqDiff, Nat.reduceLT, ↓reduceIte, Int.reduceToNat, Int.reduceAdd, Int.reduceSub, Int.reduceMul, Int.reduceLT, Int.reduceLE, Int.reduceEq, Nat.reduceLeDiff,  e5, e51, e52, e53, hc0]
    refine (format_any n w3 (hL.below hB3 hsz) hnr).mono ?_
    rintro e w4 ⟨rfl, hb4⟩
    refine ⟨_, rfl, ?_⟩
    have hl2 := sp_len hnr
    simp +contextual (maxSteps := 2000000) (disch := (first | omega | (simp only [SZ]; done) | (simp only [SZ]; omega) | (simp only [TS] at *; omega))) only [RZ, gval, gslot, fillL, ovw, numb, catL, ldN, agL, okC, oneC, init, Nat.reduceAdd, Nat.reduceMul, Nat.reduceSub, Nat.reduceEqDiff, Nat.reduceLT, ↓reduceIte, Int.reduceToNat, Int.reduceAdd, Int.reduceSub, Int.reduceMul, Int.reduceLT, Int.reduceLE, Int.reduceEq, Nat.reduceLeDiff,  e5, e51, e52, e53]
    refine ((hD.below hb4).write ((⟨#[32]⟩ : ByteArray) ++ fmtB n) (by omega)).mono ?_
    rintro e w5 ⟨rfl, hD5, hb5, _⟩
    refine ⟨_, rfl, ?_⟩
    have hB4 := hB3.trans (hb4.mono hs3)
    have hs4 := hb4.size
    simp +contextual (maxSteps := 2000000) (disch := (first | omega | (simp only [SZ]; done) | (simp only [SZ]; omega) | (simp only [TS] at *; omega))) only [RZ, gval, gslot, fillL, ovw, numb, catL, ldN, agL, okC, oneC, init, Nat.reduceAdd, Nat.reduceMul, Nat.reduceSub, Nat.reduceEqDiff, Nat.reduceLT, ↓reduceIte, Int.reduceToNat, Int.reduceAdd, Int.reduceSub, Int.reduceMul, Int.reduceLT, Int.reduceLE, Int.reduceEq, Nat.reduceLeDiff,  e5, e51, e52, e53]
    refine hK _ _ ⟨hB4.trans (hb5.mono hs1), (hb3.trans (hb4.mono hs3')).trans hb5, k + 1, by omega, ?_, ?_⟩ ?_
    · rw [List.take_add_one, hn, Option.toList_some, List.flatMap_append]
      have e : bs ((⟨#[32]⟩ : ByteArray) ++ fmtB n) = 32 :: fmtI n := by rw [bs_append]; rfl
      rw [e] at hD5
      simpa using hD5
    · simp +contextual (maxSteps := 2000000) (disch := (first | omega | (simp only [SZ]; done) | (simp only [SZ]; omega) | (simp only [TS] at *; omega))) only [RZ, gval, gslot, fillL, ovw, numb, catL, ldN, agL, okC, oneC, init, Nat.reduceAdd, Nat.reduceMul, Nat.reduceSub, Nat.reduceEqDiff, Nat.reduceLT, ↓reduceIte, Int.reduceToNat, Int.reduceAdd, Int.reduceSub, Int.reduceMul, Int.reduceLT, Int.reduceLE, Int.reduceEq, Nat.reduceLeDiff,  e5, e51, e52, e53]
    · simp +contextual (maxSteps := 2000000) (disch := (first | omega | (simp only [SZ]; done) | (simp only [SZ]; omega) | (simp only [TS] at *; omega))) only [RZ, gval, gslot, fillL, ovw, numb, catL, ldN, agL, okC, oneC, init, Nat.reduceAdd, Nat.reduceMul, Nat.reduceSub, Nat.reduceEqDiff, Nat.reduceLT, ↓reduceIte, Int.reduceToNat, Int.reduceAdd, Int.reduceSub, Int.reduceMul, Int.reduceLT, Int.reduceLE, Int.reduceEq, Nat.reduceLeDiff,  intOf, e53]
      omega
  · have hke : k = c.nums.length := by omega
    subst hke
    rw [List.take_length] at hD
    simp +contextual (maxSteps := 2000000) (disch := (first | omega | (simp only [SZ]; done) | (simp only [SZ]; omega) | (simp only [TS] at *; omega))) only [RZ, gval, gslot, fillL, ovw, numb, catL, ldN, agL, okC, oneC, init, Nat.reduceAdd, Nat.reduceMul, Nat.reduceSub, Nat.reduceEqDiff, Nat.reduceLT, ↓reduceIte, Int.reduceToNat, Int.reduceAdd, Int.reduceSub, Int.reduceMul, Int.reduceLT, Int.reduceLE, Int.reduceEq, Nat.reduceLeDiff,  e5, e51, e52, e53]
    refine hD.str.mono ?_
    rintro e w4 ⟨rfl, hb4⟩
    refine ⟨_, rfl, ?_⟩
    simp +contextual (maxSteps := 2000000) (disch := (first | omega | (simp only [SZ]; done) | (simp only [SZ]; omega) | (simp only [TS] at *; omega))) only [RZ, gval, gslot, fillL, ovw, numb, catL, ldN, agL, okC, oneC, init, Nat.reduceAdd, Nat.reduceMul, Nat.reduceSub, Nat.reduceEqDiff, Nat.reduceLT, ↓reduceIte, Int.reduceToNat, Int.reduceAdd, Int.reduceSub, Int.reduceMul, Int.reduceLT, Int.reduceLE, Int.reduceEq, Nat.reduceLeDiff]
    exact hB3.trans (hb4.mono hs1)
end Go.Proofs.YtjaeiiiniohloaaDoor
