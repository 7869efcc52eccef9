/- Texts laid one behind the other: DhJ, DwA, DhD, DhE. Each says at its head what it proves. -/
import Derived.Test.YtcnlopjjejdahaaDoorY11
import Derived.ChangeKeysEq
set_option linter.unusedSimpArgs false
/- Walks: deck.Parse. -/
namespace Go.Proofs.YtcnlopjjejdahaaDoor
open Go.RowKit
set_option maxRecDepth 100000
theorem sum_ge : ∀ (T : List (Nat × Nat × Nat)), (∀ t ∈ T, 1 ≤ t.2.2) → T.length ≤ (T.map (·.2.2)).sum
  | [], _ => Nat.le_refl _
  | t :: T, h => by
    have := sum_ge T fun x hx => h x (by simp [hx])
    have := h t (by simp)
    rw [List.map_cons, List.sum_cons, List.length_cons]
    omega
theorem scan_toks {s : ByteArray} (h : (scanE s).1 = 0) : 0 < (scanE s).2.2.length ∧ (scanE s).2.2.length ≤ 32769 ∧ ∀ t ∈ (scanE s).2.2, t.text.size ≤ 32768 := by
  unfold scanE at h ⊢
  split at h
  · cases h
  · rename_i hs
    rw [if_neg hs]
    cases hl : lexR 0 (bs s) with
    | error e => rw [hl] at h; cases h
    | ok T =>
      have hg := lexR_good _ _ 0 T (Nat.le_refl _) hl
      have hsum := lexR_sum _ _ 0 T (Nat.le_refl _) hl
      have hge := sum_ge T fun t ht => (hg t ht).2.1
      rw [bs_len] at hsum
      refine ⟨by simp, by simp; omega, fun t ht => ?_⟩
      rcases List.mem_append.1 ht with ht | ht
      · obtain ⟨x, hx, rfl⟩ := List.mem_map.1 ht
        have := (hg x hx).2.2.1
        rw [bs_len] at this
        unfold tokOf
        rw [ByteArray.size_extract]
        omega
      · rw [List.mem_singleton.1 ht]
        show ByteArray.size ByteArray.empty ≤ _
        rw [ByteArray.size_empty]
        omega
theorem scan_off {s : ByteArray} (h : (scanE s).1 ≠ 0) : 0 ≤ (scanE s).2.1 ∧ (scanE s).2.1 ≤ s.size := by
  unfold scanE at h ⊢
  split
  · exact ⟨Int.le_refl _, Int.natCast_nonneg _⟩
  · rename_i hs
    rw [if_neg hs] at h
    cases hl : lexR 0 (bs s) with
    | error e =>
      have := lexR_err _ _ 0 e (Nat.le_refl _) hl
      rw [bs_len] at this
      dsimp only
      omega
    | ok T => rw [hl] at h; exact absurd rfl h
set_option maxHeartbeats 1000000 in
theorem parse_any (s : ByteArray) (w : World) (hs : s.size ≤ 1000000) : Calls Tryd.prog 17 #[.string s] w fun e w' => Below w.heap.size w w' ∧
    ∃ A c, e = .returned (.tuple #[planV (parseP s).1 A c, .int .i64 (parseP s).2.1, .int .i64 (parseP s).2.2]) ∧ Arr w' A 3 ((parseP s).1.levels.map encLvl) ∧ ∀ b o, A = some ⟨b, o, none⟩ → w.heap.size ≤ b := by
  refine calls_W (l := [_]) Tryd.func17 rfl _ Tryd.ntmps17 (by simp) ?_
  generalize hR : parseP s = R
  unfold parseP at hR
  simp +contextual (maxSteps := 2000000) (disch := (first | omega | (simp only [SZ]; done) | (simp only [SZ]; omega) | (simp only [TS] at *; omega))) only [RZ, gval, gslot, fillL, ovw, numb, catL, ldN, agL, okC, oneC, init, Nat.reduceAdd, Nat.reduceMul, Nat.reduceSub, Nat.reduceEqDiff, Nat.reduceLT, ↓reduceIte, Int.reduceToNat, Int.reduceAdd, Int.reduceSub, Int.reduceMul, Int.reduceLT, Int.reduceLE, Int.reduceEq, Nat.reduceLeDiff]
  have r0 := Row.new w 24 [.string ByteArray.empty, .int .i64 0, .int .i64 0, .int .i64 0, .slice none 0 0]
  replace r0 : Row (w.alloc (.cells #[.string ByteArray.empty, .int .i64 0, .int .i64 0, .int .i64 0, .slice none 0 0] 24)) _ _ _ := r0
  have hB0 := below_alloc w (.cells #[.string ByteArray.empty, .int .i64 0, .int .i64 0, .int .i64 0, .slice none 0 0] 24)
  have hz0 : (w.alloc (.cells #[.string ByteArray.empty, .int .i64 0, .int .i64 0, .int .i64 0, .slice none 0 0] 24)).heap.size = w.heap.size + 1 := World.size_alloc _ _
  generalize w.alloc (.cells #[.string ByteArray.empty, .int .i64 0, .int .i64 0, .int .i64 0, .slice none 0 0] 24) = w0 at *
  refine (scan_any s w0 hs).mono ?_
  rintro e w1 ⟨hB1, v, rfl, A, c, rfl, hown⟩
  refine ⟨_, rfl, ?_⟩
  have hf1 := hB0.trans (hB1.mono (by omega))
  have r1 := r0.below hB1
  have htk := scan_toks (s := s)
  have hof := scan_off (s := s)
  generalize hSC : scanE s = SC at *
  have hz1 := hB1.size
  simp +contextual (maxSteps := 2000000) (disch := (first | omega | (simp only [SZ]; done) | (simp only [SZ]; omega) | (simp only [TS] at *; omega))) only [RZ, gval, gslot, fillL, ovw, numb, catL, ldN, agL, okC, oneC, init, Nat.reduceAdd, Nat.reduceMul, Nat.reduceSub, Nat.reduceEqDiff, Nat.reduceLT, ↓reduceIte, Int.reduceToNat, Int.reduceAdd, Int.reduceSub, Int.reduceMul, Int.reduceLT, Int.reduceLE, Int.reduceEq, Nat.reduceLeDiff]
  (refine W_if rfl (fun hc => ?_) (fun hc => ?_) <;> (try simp only [TS] at hc))
  · rw [if_pos hc] at hR
    subst hR
    have rc0 := r1.cell (i := 0) rfl
    have rz0 := r1.frozen 0
    have rc1 := r1.cell (i := 1) rfl
    have rz1 := r1.frozen 1
    have rc2 := r1.cell (i := 2) rfl
    have rz2 := r1.frozen 2
    have rc3 := r1.cell (i := 3) rfl
    have rz3 := r1.frozen 3
    have rc4 := r1.cell (i := 4) rfl
    have rz4 := r1.frozen 4
    simp +contextual (maxSteps := 2000000) (disch := (first | omega | (simp only [SZ]; done) | (simp only [SZ]; omega) | (simp only [TS] at *; omega))) only [RZ, gval, gslot, fillL, ovw, numb, catL, ldN, agL, okC, oneC, init, Nat.reduceAdd, Nat.reduceMul, Nat.reduceSub, Nat.reduceEqDiff, Nat.reduceLT, ↓reduceIte, Int.reduceToNat, Int.reduceAdd, Int.reduceSub, Int.reduceMul, Int.reduceLT, Int.reduceLE, Int.reduceEq, Nat.reduceLeDiff,  rc0, rc1, rc2, rc3, rc4, rz0, rz1, rz2, rz3, rz4]
    refine ⟨(((((hf1.setCell (p := ⟨w.heap.size, 0, none⟩) (Nat.le_refl _) (.string ByteArray.empty)).setCell (p := ⟨w.heap.size, 1, none⟩) (Nat.le_refl _) (.int .i64 0)).setCell (p := ⟨w.heap.size, 2, none⟩) (Nat.le_refl _) (.int .i64 0)).setCell (p := ⟨w.heap.size, 3, none⟩) (Nat.le_refl _) (.int .i64 0)).setCell (p := ⟨w.heap.size, 4, none⟩) (Nat.le_refl _) (.slice none 0 0)), none, 0, ?_, fun h => absurd h (by simp [noPl]), fun b o h => by cases h⟩
    rw [hc]
    rfl
  rw [if_neg hc] at hR
  clear hc
  simp +contextual (maxSteps := 2000000) (disch := (first | omega | (simp only [SZ]; done) | (simp only [SZ]; omega) | (simp only [TS] at *; omega))) only [RZ, gval, gslot, fillL, ovw, numb, catL, ldN, agL, okC, oneC, init, Nat.reduceAdd, Nat.reduceMul, Nat.reduceSub, Nat.reduceEqDiff, Nat.reduceLT, ↓reduceIte, Int.reduceToNat, Int.reduceAdd, Int.reduceSub, Int.reduceMul, Int.reduceLT, Int.reduceLE, Int.reduceEq, Nat.reduceLeDiff]
  (refine W_if rfl (fun hc => ?_) (fun hc => ?_) <;> (try simp only [TS] at hc))
  · rw [if_pos hc] at hR
    subst hR
    obtain ⟨h0, h1⟩ := hof hc
    simp +contextual (maxSteps := 2000000) (disch := (first | omega | (simp only [SZ]; done) | (simp only [SZ]; omega) | (simp only [TS] at *; omega))) only [RZ, gval, gslot, fillL, ovw, numb, catL, ldN, agL, okC, oneC, init, Nat.reduceAdd, Nat.reduceMul, Nat.reduceSub, Nat.reduceEqDiff, Nat.reduceLT, ↓reduceIte, Int.reduceToNat, Int.reduceAdd, Int.reduceSub, Int.reduceMul, Int.reduceLT, Int.reduceLE, Int.reduceEq, Nat.reduceLeDiff]
    refine (Tryd.strings_Count_one (s.extract 0 SC.2.1.toNat) 10 w1).mono ?_
    rintro e w2 ⟨rfl, rfl⟩
    refine ⟨_, rfl, ?_⟩
    have hcn : Lib.countByte (s.extract 0 SC.2.1.toNat).data.toList 10 = ((bs s).take SC.2.1.toNat).count 10 := by
      rw [count_bs, bs_extract, Nat.sub_zero, List.drop_zero]
    have hcl : ((bs s).take SC.2.1.toNat).count 10 ≤ s.size := by
      have h1 := List.count_le_length (a := 10) (l := (bs s).take SC.2.1.toNat)
      have h2 := List.length_take_le SC.2.1.toNat (bs s)
      have h3 := bs_len s
      rw [List.length_take] at h1
      omega
    rw [hcn]
    generalize ((bs s).take SC.2.1.toNat).count 10 = cn at *
    have rc0 := r1.cell (i := 0) rfl
    have rz0 := r1.frozen 0
    have rc1 := r1.cell (i := 1) rfl
    have rz1 := r1.frozen 1
    have rc2 := r1.cell (i := 2) rfl
    have rz2 := r1.frozen 2
    have rc3 := r1.cell (i := 3) rfl
    have rz3 := r1.frozen 3
    have rc4 := r1.cell (i := 4) rfl
    have rz4 := r1.frozen 4
    simp +contextual (maxSteps := 2000000) (disch := (first | omega | (simp only [SZ]; done) | (simp only [SZ]; omega) | (simp only [TS] at *; omega))) only [RZ, gval, gslot, fillL, ovw, numb, catL, ldN, agL, okC, oneC, init, Nat.reduceAdd, Nat.reduceMul, Nat.reduceSub, Nat.reduceEqDiff, Nat.reduceLT, ↓reduceIte, Int.reduceToNat, Int.reduceAdd, Int.reduceSub, Int.reduceMul, Int.reduceLT, Int.reduceLE, Int.reduceEq, Nat.reduceLeDiff,  rc0, rc1, rc2, rc3, rc4, rz0, rz1, rz2, rz3, rz4]
    exact ⟨(((((hf1.setCell (p := ⟨w.heap.size, 0, none⟩) (Nat.le_refl _) (.string ByteArray.empty)).setCell (p := ⟨w.heap.size, 1, none⟩) (Nat.le_refl _) (.int .i64 0)).setCell (p := ⟨w.heap.size, 2, none⟩) (Nat.le_refl _) (.int .i64 0)).setCell (p := ⟨w.heap.size, 3, none⟩) (Nat.le_refl _) (.int .i64 0)).setCell (p := ⟨w.heap.size, 4, none⟩) (Nat.le_refl _) (.slice none 0 0)), none, 0, rfl, fun h => absurd h (by simp [noPl]), fun b o h => by cases h⟩
  have hc0 : SC.1 = 0 := by omega
  rw [if_neg (fun h => h hc0)] at hR
  obtain ⟨t1, t2, t3⟩ := htk hc0
  clear hc
  simp +contextual (maxSteps := 2000000) (disch := (first | omega | (simp only [SZ]; done) | (simp only [SZ]; omega) | (simp only [TS] at *; omega))) only [RZ, gval, gslot, fillL, ovw, numb, catL, ldN, agL, okC, oneC, init, Nat.reduceAdd, Nat.reduceMul, Nat.reduceSub, Nat.reduceEqDiff, Nat.reduceLT, ↓reduceIte, Int.reduceToNat, Int.reduceAdd, Int.reduceSub, Int.reduceMul, Int.reduceLT, Int.reduceLE, Int.reduceEq, Nat.reduceLeDiff]
  obtain ⟨gt, rfl, hgt1, hrt, _, _⟩ := owns_row hown t1
  have hrtl := hrt.lt
  have hbr := below_alloc w1 (.cells #[.slice (some ⟨gt, 0, none⟩) SC.2.2.length c, .int .i64 0] 59)
  have rr := Row.new w1 59 [.slice (some ⟨gt, 0, none⟩) SC.2.2.length c, .int .i64 0]
  replace rr : Row (w1.alloc (.cells #[.slice (some ⟨gt, 0, none⟩) SC.2.2.length c, .int .i64 0] 59)) _ _ _ := rr
  have hz2 : (w1.alloc (.cells #[.slice (some ⟨gt, 0, none⟩) SC.2.2.length c, .int .i64 0] 59)).heap.size = w1.heap.size + 1 := World.size_alloc _ _
  have hrt2 := hrt.below hbr
  have r2 := r1.below hbr
  have hf2 := hf1.trans (hbr.mono (by omega))
  generalize w1.alloc (.cells #[.slice (some ⟨gt, 0, none⟩) SC.2.2.length c, .int .i64 0] 59) = w2 at *
  have hbp := below_alloc w2 (.cells #[.string ByteArray.empty, .int .i64 0, .int .i64 0, .int .i64 0, .slice none 0 0] 24)
  have rp := Row.new w2 24 [.string ByteArray.empty, .int .i64 0, .int .i64 0, .int .i64 0, .slice none 0 0]
  replace rp : Row (w2.alloc (.cells #[.string ByteArray.empty, .int .i64 0, .int .i64 0, .int .i64 0, .slice none 0 0] 24)) _ _ _ := rp
  have hz3 : (w2.alloc (.cells #[.string ByteArray.empty, .int .i64 0, .int .i64 0, .int .i64 0, .slice none 0 0] 24)).heap.size = w2.heap.size + 1 := World.size_alloc _ _
  have hrt3 := hrt2.below hbp
  have r3 := r2.below hbp
  have rr3 := rr.below hbp
  have hf3 := hf2.trans (hbp.mono (by omega))
  generalize w2.alloc (.cells #[.string ByteArray.empty, .int .i64 0, .int .i64 0, .int .i64 0, .slice none 0 0] 24) = w3 at *
  rw [hz2] at rp
  have hRd : RdIn w3 w1.heap.size (some ⟨gt, 0, none⟩) c SC.2.2 0 :=
    ⟨t1, by omega, hrt3.arr (fun _ => rfl), fun b o h => by injection h with h; injection h with h; omega, rr3, fun t ht => by have := t3 t ht; omega⟩
  have hPl : PlIn w3 (w1.heap.size + 1) (w1.heap.size + 2) noPl := ⟨none, 0, rp, owns_nil _ _ _ _⟩
  refine (rdPlan_any hRd hPl (by omega) (fun b o h => by injection h with h; injection h with h; omega) (by omega) (by omega) (by omega) (fun b o h => by injection h with h; injection h with h; omega)).mono ?_
  rintro e w4 ⟨kb4, a', g4, he⟩
  rw [List.drop_zero] at he
  have r4 := r3.keptB kb4 (by omega) (by simp; omega)
  have hf4 : Below w.heap.size w w4 := hf3.trans ⟨kb4.os, kb4.tape, kb4.output, kb4.size, fun k hk => kb4.block k (by omega) (by simp; omega)⟩
  cases hpl : planT SC.2.2 with
  | error er =>
    obtain ⟨er, L'⟩ := er
    rw [hpl] at he hR
    obtain ⟨rfl, hne, rfl⟩ := he
    dsimp only at hR
    subst hR
    refine ⟨_, rfl, ?_⟩
    have e0 : (er = 0) = False := eq_false hne
    simp +contextual (maxSteps := 2000000) (disch := (first | omega | (simp only [SZ]; done) | (simp only [SZ]; omega) | (simp only [TS] at *; omega))) only [RZ, gval, gslot, fillL, ovw, numb, catL, ldN, agL, okC, oneC, init, Nat.reduceAdd, Nat.reduceMul, Nat.reduceSub, Nat.reduceEqDiff, Nat.reduceLT, ↓reduceIte, Int.reduceToNat, Int.reduceAdd, Int.reduceSub, Int.reduceMul, Int.reduceLT, Int.reduceLE, Int.reduceEq, Nat.reduceLeDiff,  e0]
    refine W_if_t rfl ?_
    simp +contextual (maxSteps := 2000000) (disch := (first | omega | (simp only [SZ]; done) | (simp only [SZ]; omega) | (simp only [TS] at *; omega))) only [RZ, gval, gslot, fillL, ovw, numb, catL, ldN, agL, okC, oneC, init, Nat.reduceAdd, Nat.reduceMul, Nat.reduceSub, Nat.reduceEqDiff, Nat.reduceLT, ↓reduceIte, Int.reduceToNat, Int.reduceAdd, Int.reduceSub, Int.reduceMul, Int.reduceLT, Int.reduceLE, Int.reduceEq, Nat.reduceLeDiff]
    refine (rdNext_any g4).mono ?_
    rintro e w5 ⟨rfl, hB5⟩
    refine ⟨_, rfl, ?_⟩
    have r5 := r4.below hB5
    have hf5 := hf4.trans (hB5.mono (by have := hf4.size; omega))
    generalize hdT (SC.2.2.drop a') = t at *
    rw [show (encTk t).toArray = #[.int .i64 t.kind, .int .i64 t.line, .int .i64 t.col, .string t.text] from rfl]
    have rc0 := r5.cell (i := 0) rfl
    have rz0 := r5.frozen 0
    have rc1 := r5.cell (i := 1) rfl
    have rz1 := r5.frozen 1
    have rc2 := r5.cell (i := 2) rfl
    have rz2 := r5.frozen 2
    have rc3 := r5.cell (i := 3) rfl
    have rz3 := r5.frozen 3
    have rc4 := r5.cell (i := 4) rfl
    have rz4 := r5.frozen 4
    simp +contextual (maxSteps := 2000000) (disch := (first | omega | (simp only [SZ]; done) | (simp only [SZ]; omega) | (simp only [TS] at *; omega))) only [RZ, gval, gslot, fillL, ovw, numb, catL, ldN, agL, okC, oneC, init, Nat.reduceAdd, Nat.reduceMul, Nat.reduceSub, Nat.reduceEqDiff, Nat.reduceLT, ↓reduceIte, Int.reduceToNat, Int.reduceAdd, Int.reduceSub, Int.reduceMul, Int.reduceLT, Int.reduceLE, Int.reduceEq, Nat.reduceLeDiff,  tkLine, rc0, rc1, rc2, rc3, rc4, rz0, rz1, rz2, rz3, rz4]
    exact ⟨(((((hf5.setCell (p := ⟨w.heap.size, 0, none⟩) (Nat.le_refl _) (.string ByteArray.empty)).setCell (p := ⟨w.heap.size, 1, none⟩) (Nat.le_refl _) (.int .i64 0)).setCell (p := ⟨w.heap.size, 2, none⟩) (Nat.le_refl _) (.int .i64 0)).setCell (p := ⟨w.heap.size, 3, none⟩) (Nat.le_refl _) (.int .i64 0)).setCell (p := ⟨w.heap.size, 4, none⟩) (Nat.le_refl _) (.slice none 0 0)), none, 0, rfl, fun h => absurd h (by simp [noPl]), fun b o h => by cases h⟩
  | ok q =>
    rw [hpl] at he hR
    obtain ⟨rfl, AL, cL, q1, q2⟩ := he
    dsimp only at hR
    subst hR
    refine ⟨_, rfl, ?_⟩
    have p0 := q1.cell (i := 0) rfl
    have p1 := q1.cell (i := 1) rfl
    have p2 := q1.cell (i := 2) rfl
    have p3 := q1.cell (i := 3) rfl
    have p4 := q1.cell (i := 4) rfl
    have hgt4 := q1.lt
    have rc0 := r4.cell (i := 0) rfl
    have rz0 := r4.frozen 0
    have rc1 := r4.cell (i := 1) rfl
    have rz1 := r4.frozen 1
    have rc2 := r4.cell (i := 2) rfl
    have rz2 := r4.frozen 2
    have rc3 := r4.cell (i := 3) rfl
    have rz3 := r4.frozen 3
    have rc4 := r4.cell (i := 4) rfl
    have rz4 := r4.frozen 4
    simp +contextual (maxSteps := 2000000) (disch := (first | omega | (simp only [SZ]; done) | (simp only [SZ]; omega) | (simp only [TS] at *; omega))) only [RZ, gval, gslot, fillL, ovw, numb, catL, ldN, agL, okC, oneC, init, Nat.reduceAdd, Nat.reduceMul, Nat.reduceSub, Nat.reduceEqDiff, Nat.reduceLT, ↓reduceIte, Int.reduceToNat, Int.reduceAdd, Int.reduceSub, Int.reduceMul, Int.reduceLT, Int.reduceLE, Int.reduceEq, Nat.reduceLeDiff]
    refine W_if_f rfl ?_
    simp +contextual (maxSteps := 2000000) (disch := (first | omega | (simp only [SZ]; done) | (simp only [SZ]; omega) | (simp only [TS] at *; omega))) only [RZ, gval, gslot, fillL, ovw, numb, catL, ldN, agL, okC, oneC, init, Nat.reduceAdd, Nat.reduceMul, Nat.reduceSub, Nat.reduceEqDiff, Nat.reduceLT, ↓reduceIte, Int.reduceToNat, Int.reduceAdd, Int.reduceSub, Int.reduceMul, Int.reduceLT, Int.reduceLE, Int.reduceEq, Nat.reduceLeDiff,  p0, p1, p2, p3, p4, rc0, rc1, rc2, rc3, rc4, rz0, rz1, rz2, rz3, rz4]
    have hbf := (((((hf4.setCell (p := ⟨w.heap.size, 0, none⟩) (Nat.le_refl _) (.string q.name)).setCell (p := ⟨w.heap.size, 1, none⟩) (Nat.le_refl _) (.int .i64 q.price)).setCell (p := ⟨w.heap.size, 2, none⟩) (Nat.le_refl _) (.int .i64 q.packs)).setCell (p := ⟨w.heap.size, 3, none⟩) (Nat.le_refl _) (.int .i64 q.size)).setCell (p := ⟨w.heap.size, 4, none⟩) (Nat.le_refl _) (.slice AL q.levels.length cL))
    have hkf := ((((((Kept.refl [w.heap.size] w4).setCell (p := ⟨w.heap.size, 0, none⟩) (by simp) (.string q.name)).setCell (p := ⟨w.heap.size, 1, none⟩) (by simp) (.int .i64 q.price)).setCell (p := ⟨w.heap.size, 2, none⟩) (by simp) (.int .i64 q.packs)).setCell (p := ⟨w.heap.size, 3, none⟩) (by simp) (.int .i64 q.size)).setCell (p := ⟨w.heap.size, 4, none⟩) (by simp) (.slice AL q.levels.length cL))
    refine ⟨hbf, AL, cL, rfl, ?_, fun b o h => ?_⟩
    · by_cases hn : 0 < q.levels.length
      · obtain ⟨g, rfl, h2, h3, _, _⟩ := owns_row q2 hn
        exact (h3.kept hkf (by simp; omega)).arr (fun _ => rfl)
      · exact fun h => absurd h (by rw [List.length_map]; exact hn)
    · by_cases hn : 0 < q.levels.length
      · obtain ⟨g, e1, h2, _, _, _⟩ := owns_row q2 hn
        rw [h] at e1
        injection e1 with e1
        injection e1 with e1
        omega
      · rcases q2.2 with ⟨hv, _⟩ | ⟨g, cap, cur, hv, hbg, _⟩
        · rw [h] at hv
          cases hv
        · rw [h] at hv
          injection hv with hv
          injection hv with hv
          injection hv with hv
          omega
end Go.Proofs.YtcnlopjjejdahaaDoor
/- Walks: the reference's Same. -/
namespace Go.Proofs.YtcnlopjjejdahaaDoor
open Go.RowKit
set_option maxRecDepth 100000
def lvlEqB (v u : Lvl) : Bool := decide (v.prize = u.prize) && decide (v.count = u.count) && decide (v.pack = u.pack)
theorem lvlEqB_self (v : Lvl) : lvlEqB v v = true := by simp [lvlEqB]
theorem part_int {P : Program} {t : TypeId} {k : IntKind} (ht : P.underlying t = some (.int k)) {xs : Array Value} {o : Nat} {v : Value} (hx : xs[o]? = some v) (w : World) : (part t xs o).run P w = .ok v w := by
  simp [part, Sem.run_bind, isAgg_int ht, hx]
theorem part_str {P : Program} {t : TypeId} (ht : P.underlying t = some .string) {xs : Array Value} {o : Nat} {v : Value} (hx : xs[o]? = some v) (w : World) : (part t xs o).run P w = .ok v w := by
  simp [part, Sem.run_bind, isAgg_str ht, hx]
theorem eqF_int {P : Program} (w : World) (d : Nat) (xs ys : Array Value) (f : Field) (fs : List Field) {k : IntKind} {a b : Int} (hn : f.name ≠ "_") (ht : P.underlying f.type = some (.int k)) (hx : xs[f.offset]? = some (.int k a)) (hy : ys[f.offset]? = some (.int k b)) :
    (Op.eqFields (d + 1) xs ys (f :: fs)).run P w = if a = b then (Op.eqFields (d + 1) xs ys fs).run P w else .ok false w := by
  rw [Op.eqFields, if_pos hn]
  simp only [Sem.run_bind, part_int ht hx, part_int ht hy, Result.andThen_ok, run_equalIn_int w d f.type k k a b ht]
  by_cases h : a = b
  · simp [h]
  · simp [h]
theorem eqF_str {P : Program} (w : World) (d : Nat) (xs ys : Array Value) (f : Field) (fs : List Field) {a b : ByteArray} (hn : f.name ≠ "_") (ht : P.underlying f.type = some .string) (hx : xs[f.offset]? = some (.string a)) (hy : ys[f.offset]? = some (.string b)) :
    (Op.eqFields (d + 1) xs ys (f :: fs)).run P w = if a = b then (Op.eqFields (d + 1) xs ys fs).run P w else .ok false w := by
  rw [Op.eqFields, if_pos hn]
  simp only [Sem.run_bind, part_str ht hx, part_str ht hy, Result.andThen_ok, run_equalIn_string w d f.type a b ht]
  have e : (a.toList == b.toList) = decide (a = b) := by
    rw [Bool.eq_iff_iff]; simp only [beq_iff_eq, decide_eq_true_eq]; exact ⟨fun h => ByteArray.ext (Array.ext' (by simpa [ByteArray.toList_eq] using h)), fun h => by rw [h]⟩
  rw [e]
  by_cases h : a = b
  · simp [h]
  · simp [h]
theorem eqF_nil {P : Program} (w : World) (d : Nat) (xs ys : Array Value) : (Op.eqFields d xs ys []).run P w = .ok true w := by simp [Op.eqFields]
theorem lvl_neq (v u : Lvl) (x y : Operand) (w : World) : vBin Tryd.prog .neq 43 x y (.agg #[.int .i64 v.prize, .int .i64 v.count, .int .i64 v.pack]) (.agg #[.int .i64 u.prize, .int .i64 u.count, .int .i64 u.pack]) w = .ok (.value (.bool (!lvlEqB v u))) w := by
  have hg : Tryd.prog.eqGuardType Tryd.prog.depth 43 = false := by kernel_rfl
  have hf : (Tryd.prog.fieldsOf 43).toList = [⟨"Prize", 3, 0, false, "", "", 0⟩, ⟨"Count", 3, 1, false, "", "", 8⟩, ⟨"Pack", 3, 2, false, "", "", 16⟩] := by
    unfold Program.fieldsOf
    rw [Tryd.underlying43]
  have he : (Op.equalIn 10000 43 (.agg #[.int .i64 v.prize, .int .i64 v.count, .int .i64 v.pack]) (.agg #[.int .i64 u.prize, .int .i64 u.count, .int .i64 u.pack])).run Tryd.prog w = .ok (lvlEqB v u) w := by
    rw [show (10000 : Nat) = 9999 + 1 from rfl, run_equalIn_struct w 9999 43 _ _ (by unfold Program.fieldsOf; rw [Tryd.underlying43]) (by kernel_rfl), hf, show (9999 : Nat) = 9998 + 1 from rfl]
    rw [eqF_int (k := .i64) (a := v.prize) (b := u.prize) w _ _ _ _ _ (by decide) Tryd.underlying3 (by simp) (by simp), eqF_int (k := .i64) (a := v.count) (b := u.count) w _ _ _ _ _ (by decide) Tryd.underlying3 (by simp) (by simp), eqF_int (k := .i64) (a := v.pack) (b := u.pack) w _ _ _ _ _ (by decide) Tryd.underlying3 (by simp) (by simp), eqF_nil]
    unfold lvlEqB
    by_cases h1 : v.prize = u.prize <;> by_cases h2 : v.count = u.count <;> by_cases h3 : v.pack = u.pack <;> simp [h1, h2, h3]
  unfold vBin
  simp [Sem.run_bind, eqGuard, hg, binOp, Op.equal, Op.maxDepth, he]
theorem same_any (p : Pl) (A B : Option Addr) (c d : Nat) (w : World) (hl : p.levels.length ≤ 1000000) (hA : Arr w A 3 (p.levels.map encLvl)) (hB : Arr w B 3 (p.levels.map encLvl)) :
    Calls Tryd.prog 19 #[planV p A c, planV p B d] w fun e w' => e = .returned (.bool true) ∧ Below w.heap.size w w' := by
  unfold planV
  refine calls_W (l := [_, _]) Tryd.func19 rfl _ Tryd.ntmps19 (by simp) ?_
  simp +contextual (maxSteps := 2000000) (disch := (first | omega | (simp only [SZ]; done) | (simp only [SZ]; omega) | (simp only [TS] at *; omega))) only [RZ, gval, gslot, fillL, ovw, numb, catL, ldN, agL, okC, oneC, init, Nat.reduceAdd, Nat.reduceMul, Nat.reduceSub, Nat.reduceEqDiff, Nat.reduceLT, ↓reduceIte, Int.reduceToNat, Int.reduceAdd, Int.reduceSub, Int.reduceMul, Int.reduceLT, Int.reduceLE, Int.reduceEq, Nat.reduceLeDiff]
  have r0 := Row.new w 24 [.string p.name, .int .i64 p.price, .int .i64 p.packs, .int .i64 p.size, .slice A p.levels.length c]
  have z0 : (w.alloc (.cells #[.string p.name, .int .i64 p.price, .int .i64 p.packs, .int .i64 p.size, .slice A p.levels.length c] 24)).heap.size = w.heap.size + 1 := World.size_alloc _ _
  have b0 := below_alloc w (.cells #[.string p.name, .int .i64 p.price, .int .i64 p.packs, .int .i64 p.size, .slice A p.levels.length c] 24)
  replace r0 : Row (w.alloc (.cells #[.string p.name, .int .i64 p.price, .int .i64 p.packs, .int .i64 p.size, .slice A p.levels.length c] 24)) _ _ _ := r0
  generalize w.alloc (.cells #[.string p.name, .int .i64 p.price, .int .i64 p.packs, .int .i64 p.size, .slice A p.levels.length c] 24) = w0 at *
  have r1 := Row.new w0 24 [.string p.name, .int .i64 p.price, .int .i64 p.packs, .int .i64 p.size, .slice B p.levels.length d]
  have b1 := b0.trans ((below_alloc w0 (.cells #[.string p.name, .int .i64 p.price, .int .i64 p.packs, .int .i64 p.size, .slice B p.levels.length d] 24)).mono (by omega))
  replace r0 := r0.alloc (.cells #[.string p.name, .int .i64 p.price, .int .i64 p.packs, .int .i64 p.size, .slice B p.levels.length d] 24)
  replace r1 : Row (w0.alloc (.cells #[.string p.name, .int .i64 p.price, .int .i64 p.packs, .int .i64 p.size, .slice B p.levels.length d] 24)) _ _ _ := r1
  replace r0 : Row (w0.alloc (.cells #[.string p.name, .int .i64 p.price, .int .i64 p.packs, .int .i64 p.size, .slice B p.levels.length d] 24)) _ _ _ := r0
  generalize w0.alloc (.cells #[.string p.name, .int .i64 p.price, .int .i64 p.packs, .int .i64 p.size, .slice B p.levels.length d] 24) = w1 at *
  rw [z0] at r1
  refine W_if_f rfl ?_
  have hA1 := hA.below b1
  have hB1 := hB.below b1
  have p4 := r0.cell (i := 4) rfl
  have q4 := r1.cell (i := 4) rfl
  simp +contextual (maxSteps := 2000000) (disch := (first | omega | (simp only [SZ]; done) | (simp only [SZ]; omega) | (simp only [TS] at *; omega))) only [RZ, gval, gslot, fillL, ovw, numb, catL, ldN, agL, okC, oneC, init, Nat.reduceAdd, Nat.reduceMul, Nat.reduceSub, Nat.reduceEqDiff, Nat.reduceLT, ↓reduceIte, Int.reduceToNat, Int.reduceAdd, Int.reduceSub, Int.reduceMul, Int.reduceLT, Int.reduceLE, Int.reduceEq, Nat.reduceLeDiff,  p4, q4]
  refine Raw_loop (fun σ w2 => Below w.heap.size w w2 ∧ Below w1.heap.size w1 w2 ∧ ∃ k : Nat, k ≤ p.levels.length ∧ σ 2 = .pointer (some ⟨w.heap.size, 0, none⟩) ∧ σ 3 = .pointer (some ⟨w.heap.size + 1, 0, none⟩) ∧ σ 5 = .int .i64 k) (fun σ _ => p.levels.length - (intOf (σ 5)).toNat) ?_ ?_
  · simp +contextual (maxSteps := 2000000) (disch := (first | omega | (simp only [SZ]; done) | (simp only [SZ]; omega) | (simp only [TS] at *; omega))) only [RZ, gval, gslot, fillL, ovw, numb, catL, ldN, agL, okC, oneC, init, Nat.reduceAdd, Nat.reduceMul, Nat.reduceSub, Nat.reduceEqDiff, Nat.reduceLT, ↓reduceIte, Int.reduceToNat, Int.reduceAdd, Int.reduceSub, Int.reduceMul, Int.reduceLT, Int.reduceLE, Int.reduceEq, Nat.reduceLeDiff]
    exact ⟨b1, Below.refl _ _, 0, Nat.zero_le _, rfl⟩
  rintro σ w2 ⟨hb2, hb12, k, hk, f2, f3, f5⟩ K hK
  have p4 := (r0.below hb12).cell (i := 4) rfl
  have q4 := (r1.below hb12).cell (i := 4) rfl
  simp +contextual (maxSteps := 2000000) (disch := (first | omega | (simp only [SZ]; done) | (simp only [SZ]; omega) | (simp only [TS] at *; omega))) only [RZ, gval, gslot, fillL, ovw, numb, catL, ldN, agL, okC, oneC, init, Nat.reduceAdd, Nat.reduceMul, Nat.reduceSub, Nat.reduceEqDiff, Nat.reduceLT, ↓reduceIte, Int.reduceToNat, Int.reduceAdd, Int.reduceSub, Int.reduceMul, Int.reduceLT, Int.reduceLE, Int.reduceEq, Nat.reduceLeDiff,  f2, f3, f5, p4, q4]
  (refine W_if rfl (fun hc => ?_) (fun hc => ?_) <;> (try simp only [TS] at hc))
  · obtain ⟨v, hv⟩ : ∃ v, p.levels[k]? = some v := ⟨_, List.getElem?_eq_getElem (by omega)⟩
    obtain ⟨ba, oa, rfl, hba, hca⟩ := (hA1.below hb12).at_ hv
    obtain ⟨bb, ob, rfl, hbb, hcb⟩ := (hB1.below hb12).at_ hv
    have l0 : w2.drew.cell? _ = _ := hca 0 _ rfl
    rw [Nat.add_zero] at l0
    have l1 : w2.drew.cell? _ = _ := hca 1 _ rfl
    have l2 : w2.drew.cell? _ = _ := hca 2 _ rfl
    have m0 : w2.drew.cell? _ = _ := hcb 0 _ rfl
    rw [Nat.add_zero] at m0
    have m1 : w2.drew.cell? _ = _ := hcb 1 _ rfl
    have m2 : w2.drew.cell? _ = _ := hcb 2 _ rfl
    have p4 : w2.drew.cell? _ = _ := p4
    have q4 : w2.drew.cell? _ = _ := q4
    simp +contextual (maxSteps := 2000000) (disch := (first | omega | (simp only [SZ]; done) | (simp only [SZ]; omega) | (simp only [TS] at *; omega))) only [RZ, gval, gslot, fillL, ovw, numb, catL, ldN, agL, okC, oneC, init, Nat.reduceAdd, Nat.reduceMul, Nat.reduceSub, Nat.reduceEqDiff, Nat.reduceLT, ↓reduceIte, Int.reduceToNat, Int.reduceAdd, Int.reduceSub, Int.reduceMul, Int.reduceLT, Int.reduceLE, Int.reduceEq, Nat.reduceLeDiff,  f2, f3, f5]
    refine Raw_still MX (by kernel_rfl) ?_
    simp +contextual (maxSteps := 2000000) (disch := (first | omega | (simp only [SZ]; done) | (simp only [SZ]; omega) | (simp only [TS] at *; omega))) only [RZ, gval, gslot, fillL, ovw, numb, catL, ldN, agL, okC, oneC, init, Nat.reduceAdd, Nat.reduceMul, Nat.reduceSub, Nat.reduceEqDiff, Nat.reduceLT, ↓reduceIte, Int.reduceToNat, Int.reduceAdd, Int.reduceSub, Int.reduceMul, Int.reduceLT, Int.reduceLE, Int.reduceEq, Nat.reduceLeDiff,  f2, f3, f5, p4, q4, l0, l1, l2, m0, m1, m2, lvl_neq, lvlEqB_self]
    refine W_if_f rfl ?_
    simp +contextual (maxSteps := 2000000) (disch := (first | omega | (simp only [SZ]; done) | (simp only [SZ]; omega) | (simp only [TS] at *; omega))) only [RZ, gval, gslot, fillL, ovw, numb, catL, ldN, agL, okC, oneC, init, Nat.reduceAdd, Nat.reduceMul, Nat.reduceSub, Nat.reduceEqDiff, Nat.reduceLT, ↓reduceIte, Int.reduceToNat, Int.reduceAdd, Int.reduceSub, Int.reduceMul, Int.reduceLT, Int.reduceLE, Int.reduceEq, Nat.reduceLeDiff,  f2, f3, f5]
    refine hK _ _ ⟨⟨hb2.os, hb2.tape, hb2.output, hb2.size, hb2.block⟩, ⟨hb12.os, hb12.tape, hb12.output, hb12.size, hb12.block⟩, k + 1, by omega, ?_⟩ ?_
    · simp +contextual (maxSteps := 2000000) (disch := (first | omega | (simp only [SZ]; done) | (simp only [SZ]; omega) | (simp only [TS] at *; omega))) only [RZ, gval, gslot, fillL, ovw, numb, catL, ldN, agL, okC, oneC, init, Nat.reduceAdd, Nat.reduceMul, Nat.reduceSub, Nat.reduceEqDiff, Nat.reduceLT, ↓reduceIte, Int.reduceToNat, Int.reduceAdd, Int.reduceSub, Int.reduceMul, Int.reduceLT, Int.reduceLE, Int.reduceEq, Nat.reduceLeDiff,  f2, f3, f5]
    · simp +contextual (maxSteps := 2000000) (disch := (first | omega | (simp only [SZ]; done) | (simp only [SZ]; omega) | (simp only [TS] at *; omega))) only [RZ, gval, gslot, fillL, ovw, numb, catL, ldN, agL, okC, oneC, init, Nat.reduceAdd, Nat.reduceMul, Nat.reduceSub, Nat.reduceEqDiff, Nat.reduceLT, ↓reduceIte, Int.reduceToNat, Int.reduceAdd, Int.reduceSub, Int.reduceMul, Int.reduceLT, Int.reduceLE, Int.reduceEq, Nat.reduceLeDiff,  intOf, f5]
      omega
  · simp +contextual (maxSteps := 2000000) (disch := (first | omega | (simp only [SZ]; done) | (simp only [SZ]; omega) | (simp only [TS] at *; omega))) only [RZ, gval, gslot, fillL, ovw, numb, catL, ldN, agL, okC, oneC, init, Nat.reduceAdd, Nat.reduceMul, Nat.reduceSub, Nat.reduceEqDiff, Nat.reduceLT, ↓reduceIte, Int.reduceToNat, Int.reduceAdd, Int.reduceSub, Int.reduceMul, Int.reduceLT, Int.reduceLE, Int.reduceEq, Nat.reduceLeDiff,  f2, f3, f5]
    exact hb2
end Go.Proofs.YtcnlopjjejdahaaDoor
/- Walks: what deck.scatter gives with. -/
namespace Go.Proofs.YtcnlopjjejdahaaDoor
open Go.RowKit
set_option maxRecDepth 100000
/-- What stands while prizes are given: the stream, the free places, the deck, the captured variables. -/
structure Giv (gs gf gd b0 b1 b2 b3 b4 nf cf nz cd S : Nat) (A : Option Addr) (seed : Int) (w : World) (free Z : List Int) (i : Nat) (st e0 : Int) : Prop where
  s : StrIn w gs st
  f : 0 < nf → A = some ⟨gf, 0, none⟩ ∧ Row w gf 3 (iV free)
  d : Row w gd 46 (deckV S seed Z)
  c0 : Row w b0 86 [.pointer (some ⟨gs, 0, none⟩)]
  c1 : Row w b1 74 [.slice A nf cf]
  c2 : Row w b2 3 [.int .i64 i]
  c3 : Row w b3 27 [.int .i64 e0]
  c4 : Row w b4 37 [.slice (some ⟨gd, 0, none⟩) nz cd]
  lf : free.length = nf
  lz : Z.length = nz
set_option maxHeartbeats 1000000 in
theorem give_any (gs gf gd b0 b1 b2 b3 b4 nf cf nz cd S i : Nat) (A : Option Addr) (seed st z e0 : Int) (free Z : List Int) (w : World) (h : Giv gs gf gd b0 b1 b2 b3 b4 nf cf nz cd S A seed w free Z i st e0) (hcf : nf ≤ cf) (hcd : nz ≤ cd) (hlen : nf ≤ 8192) (hZl : nz ≤ 8192)
    (hr0 : ∀ j, j < free.length → 0 ≤ free.getD j 0 ∧ (free.getD j 0).toNat < nz) (hi : i < nf) (o1 : gs < b4) (o2 : gd < b4) (o3 : gs ≠ gd) (o4 : b4 < b0) (o5 : b0 < b1) (o6 : b1 < gf) (o7 : gf < b3) (o8 : b3 < b2) :
    Calls Tryd.prog 82 #[.int .i64 z, .pointer (some ⟨b0, 0, none⟩), .pointer (some ⟨b1, 0, none⟩), .pointer (some ⟨b2, 0, none⟩), .pointer (some ⟨b3, 0, none⟩), .pointer (some ⟨b4, 0, none⟩)] w fun e w' =>
      Kept [gs, gf, gd, b2, b3] w w' ∧ if (belE ((nf : Int) - i) st).2.1 = 0 then e = .returned (.bool true) ∧
          Giv gs gf gd b0 b1 b2 b3 b4 nf cf nz cd S A seed w' (swp free i (i + (belE ((nf : Int) - i) st).1.toNat)) (Z.set ((swp free i (i + (belE ((nf : Int) - i) st).1.toNat)).getD i 0).toNat z) (i + 1) (belE ((nf : Int) - i) st).2.2 e0
        else e = .returned (.bool false) ∧ Giv gs gf gd b0 b1 b2 b3 b4 nf cf nz cd S A seed w' free Z i (belE ((nf : Int) - i) st).2.2 (belE ((nf : Int) - i) st).2.1 := by
  refine calls_W (l := [_, _, _, _, _, _]) Tryd.func82 rfl _ Tryd.ntmps82 (by simp) ?_
  have hlf := h.lf
  have hlz := h.lz
  obtain ⟨rfl, hf⟩ := h.f (by omega)
  have d0 := h.c0.cell (i := 0) rfl
  have d1 := h.c1.cell (i := 0) rfl
  have d2 := h.c2.cell (i := 0) rfl
  simp +contextual (maxSteps := 2000000) (disch := (first | omega | (simp only [SZ]; done) | (simp only [SZ]; omega) | (simp only [TS] at *; omega))) only [RZ, gval, gslot, fillL, ovw, numb, catL, ldN, agL, okC, oneC, init, Nat.reduceAdd, Nat.reduceMul, Nat.reduceSub, Nat.reduceEqDiff, Nat.reduceLT, ↓reduceIte, Int.reduceToNat, Int.reduceAdd, Int.reduceSub, Int.reduceMul, Int.reduceLT, Int.reduceLE, Int.reduceEq, Nat.reduceLeDiff,  d0, d1, d2]
  refine (below_any gs ((nf : Int) - i) st w h.s (by omega)).mono ?_
  rintro e w1 ⟨rfl, hs1, ho1⟩
  refine ⟨_, rfl, ?_⟩
  have hb1 := fun h => (belE_lt (n := (nf : Int) - i) (st := st) h)
  generalize belE ((nf : Int) - i) st = B at *
  have hk1 : Kept [gs, gf, gd, b2, b3] w w1 := Kept.of_only ho1 (by simp)
  have hf1 := hf.only ho1 (by omega)
  have hd1 := h.d.only ho1 (by omega)
  have h01 := h.c0.only ho1 (by omega)
  have h11 := h.c1.only ho1 (by omega)
  have h21 := h.c2.only ho1 (by omega)
  have h31 := h.c3.only ho1 (by omega)
  have h41 := h.c4.only ho1 (by omega)
  have d1 := h11.cell (i := 0) rfl
  have d2 := h21.cell (i := 0) rfl
  have d3 := h31.cell (i := 0) rfl
  have z3 := h31.frozen 0
  have d4 := h41.cell (i := 0) rfl
  simp +contextual (maxSteps := 2000000) (disch := (first | omega | (simp only [SZ]; done) | (simp only [SZ]; omega) | (simp only [TS] at *; omega))) only [RZ, gval, gslot, fillL, ovw, numb, catL, ldN, agL, okC, oneC, init, Nat.reduceAdd, Nat.reduceMul, Nat.reduceSub, Nat.reduceEqDiff, Nat.reduceLT, ↓reduceIte, Int.reduceToNat, Int.reduceAdd, Int.reduceSub, Int.reduceMul, Int.reduceLT, Int.reduceLE, Int.reduceEq, Nat.reduceLeDiff]
  (refine W_if rfl (fun hc => ?_) (fun hc => ?_) <;> (try simp only [TS] at hc))
  · have hc' : ¬ B.2.1 = 0 := hc
    simp +contextual (maxSteps := 2000000) (disch := (first | omega | (simp only [SZ]; done) | (simp only [SZ]; omega) | (simp only [TS] at *; omega))) only [RZ, gval, gslot, fillL, ovw, numb, catL, ldN, agL, okC, oneC, init, Nat.reduceAdd, Nat.reduceMul, Nat.reduceSub, Nat.reduceEqDiff, Nat.reduceLT, ↓reduceIte, Int.reduceToNat, Int.reduceAdd, Int.reduceSub, Int.reduceMul, Int.reduceLT, Int.reduceLE, Int.reduceEq, Nat.reduceLeDiff,  d3, z3]
    rw [if_neg hc']
    refine ⟨hk1.setCell (p := ⟨b3, 0, none⟩) (by simp) _, ?_⟩
    exact ⟨hs1.far (p := ⟨b3, 0, none⟩) (by show gs ≠ b3; omega) _, fun _ => ⟨rfl, hf1.far (p := ⟨b3, 0, none⟩) (by show gf ≠ b3; omega) _⟩, hd1.far (p := ⟨b3, 0, none⟩) (by show gd ≠ b3; omega) _, h01.far (p := ⟨b3, 0, none⟩) (by show b0 ≠ b3; omega) _, h11.far (p := ⟨b3, 0, none⟩) (by show b1 ≠ b3; omega) _, h21.far (p := ⟨b3, 0, none⟩) (by show b2 ≠ b3; omega) _, h31.set_ (i := 0) (by simp) _, h41.far (p := ⟨b3, 0, none⟩) (by show b4 ≠ b3; omega) _, h.lf, h.lz⟩
  · have hc' : B.2.1 = 0 := by omega
    have hbl := hb1 hc'
    obtain ⟨nb, hnb⟩ : ∃ nb : Nat, B.1 = nb := ⟨B.1.toNat, by omega⟩
    have hnt : B.1.toNat = nb := by omega
    rw [hnb] at hbl
    have hij : i + nb < free.length := by omega
    have hil : i < free.length := by omega
    have ci := hf1.cell (iV_get hil)
    have cj := hf1.cell (iV_get hij)
    have zi := hf1.frozen i
    have zj := hf1.frozen (i + nb)
    have htn : ((i : Int) + nb).toNat = i + nb := by omega
    simp +contextual (maxSteps := 2000000) (disch := (first | omega | (simp only [SZ]; done) | (simp only [SZ]; omega) | (simp only [TS] at *; omega))) only [RZ, gval, gslot, fillL, ovw, numb, catL, ldN, agL, okC, oneC, init, Nat.reduceAdd, Nat.reduceMul, Nat.reduceSub, Nat.reduceEqDiff, Nat.reduceLT, ↓reduceIte, Int.reduceToNat, Int.reduceAdd, Int.reduceSub, Int.reduceMul, Int.reduceLT, Int.reduceLE, Int.reduceEq, Nat.reduceLeDiff,  d2, hnb]
    refine Raw_gen fun τ hτ => ?_
    have t0 : τ 0 = .int .i64 z := (hτ 0).trans rfl
    have t2 : τ 2 = .pointer (some ⟨b1, 0, none⟩) := (hτ 2).trans rfl
    have t3 : τ 3 = .pointer (some ⟨b2, 0, none⟩) := (hτ 3).trans rfl
    have t5 : τ 5 = .pointer (some ⟨b4, 0, none⟩) := (hτ 5).trans rfl
    have t10 : τ 10 = .int .i64 ((i : Int) + nb) := (hτ 10).trans rfl
    clear hτ
    have d1' : w1.drew.cell? _ = _ := d1
    have d2' : w1.drew.cell? _ = _ := d2
    have ci2 : w1.drew.cell? _ = _ := ci
    have cj2 : w1.drew.cell? _ = _ := cj
    refine Raw_ord (fun w' => w'.cell? ⟨b1, 0, none⟩ = some (.slice (some ⟨gf, 0, none⟩) nf cf) ∧ w'.cell? ⟨b2, 0, none⟩ = some (.int .i64 i)) 16 rfl MX ?_
    refine Ord_reads (τ := ?ta) [0, 1, 2, 3, 4, 5, 8, 9, 6, 10] 6 rfl (by kernel_rfl) (by kernel_rfl) (fun _ _ _ h => h) ⟨d1', d2'⟩ (fun w7 h7 => ?_) ?_; rotate_left
    · obtain ⟨h71, h72⟩ := h7
      simp only [opsL_cons, opsL_nil, List.getElem?_toArray, List.getElem?_cons_zero, List.getElem?_cons_succ, optL_some]
      simp +contextual (maxSteps := 2000000) (disch := (first | omega | (simp only [SZ]; done) | (simp only [SZ]; omega) | (simp only [TS] at *; omega))) only [RZ, gval, gslot, fillL, ovw, numb, catL, ldN, agL, okC, oneC, init, Nat.reduceAdd, Nat.reduceMul, Nat.reduceSub, Nat.reduceEqDiff, Nat.reduceLT, ↓reduceIte, Int.reduceToNat, Int.reduceAdd, Int.reduceSub, Int.reduceMul, Int.reduceLT, Int.reduceLE, Int.reduceEq, Nat.reduceLeDiff,  t0, t2, t3, t5, t10, h71, h72, htn]
      exact rfl
    refine Ord_two (fun (_ _ : Option Unit) w' => w' = w1.drew) (fun _ => .int .i64 (free.getD (i + nb) 0)) (fun _ => .int .i64 (free.getD i 0)) 7 11 33 37 rfl rfl (by decide) (by decide) (by decide) (by decide) (by kernel_rfl) (by kernel_rfl) (by kernel_rfl) rfl ?_ ?_ ?_
    · rintro y w3 σ' hσ rfl
      have h22 : σ' 32 = .pointer (some ⟨gf, i + nb, none⟩) := (hσ 32 (by decide) (by decide)).trans rfl
      simp +contextual (maxSteps := 2000000) (disch := (first | omega | (simp only [SZ]; done) | (simp only [SZ]; omega) | (simp only [TS] at *; omega))) only [RZ, gval, gslot, fillL, ovw, numb, catL, ldN, agL, okC, oneC, init, Nat.reduceAdd, Nat.reduceMul, Nat.reduceSub, Nat.reduceEqDiff, Nat.reduceLT, ↓reduceIte, Int.reduceToNat, Int.reduceAdd, Int.reduceSub, Int.reduceMul, Int.reduceLT, Int.reduceLE, Int.reduceEq, Nat.reduceLeDiff,  h22, cj2]
      exact ⟨(), d1', d2'⟩
    · rintro y w3 σ' hσ rfl
      have h26 : σ' 36 = .pointer (some ⟨gf, i, none⟩) := (hσ 36 (by decide) (by decide)).trans rfl
      simp +contextual (maxSteps := 2000000) (disch := (first | omega | (simp only [SZ]; done) | (simp only [SZ]; omega) | (simp only [TS] at *; omega))) only [RZ, gval, gslot, fillL, ovw, numb, catL, ldN, agL, okC, oneC, init, Nat.reduceAdd, Nat.reduceMul, Nat.reduceSub, Nat.reduceEqDiff, Nat.reduceLT, ↓reduceIte, Int.reduceToNat, Int.reduceAdd, Int.reduceSub, Int.reduceMul, Int.reduceLT, Int.reduceLE, Int.reduceEq, Nat.reduceLeDiff,  h26, ci2]
      exact ⟨(), d1', d2'⟩
    rintro _ _ w3 rfl
    refine Ord_chainS _ [12, 13, 14, 15] _ _ _ (by kernel_rfl) ?_
    simp only [opsL_cons, opsL_nil, List.getElem?_toArray, List.getElem?_cons_zero, List.getElem?_cons_succ, optL_some]
    have hl2 := hf1.set_ (i := i) (by rw [iV_len]; exact hil) (.int .i64 (free.getD (i + nb) 0))
    rw [iV_set] at hl2
    have hj2 : i + nb < (free.set i (free.getD (i + nb) 0)).length := by rw [List.length_set]; exact hij
    have c3 := hl2.cell (iV_get hj2)
    have hl3 := hl2.set_ (i := i + nb) (by rw [iV_len]; exact hj2) (.int .i64 (free.getD i 0))
    rw [iV_set] at hl3
    simp +contextual (maxSteps := 2000000) (disch := (first | omega | (simp only [SZ]; done) | (simp only [SZ]; omega) | (simp only [TS] at *; omega))) only [RZ, gval, gslot, fillL, ovw, numb, catL, ldN, agL, okC, oneC, init, Nat.reduceAdd, Nat.reduceMul, Nat.reduceSub, Nat.reduceEqDiff, Nat.reduceLT, ↓reduceIte, Int.reduceToNat, Int.reduceAdd, Int.reduceSub, Int.reduceMul, Int.reduceLT, Int.reduceLE, Int.reduceEq, Nat.reduceLeDiff,  EC_op, EC_nil, zi, zj, ci2, cj2, c3, t0, t2, t3, t5, t10, d1, d2, htn]
    have hsw : (free.set i (free.getD (i + nb) 0)).set (i + nb) (free.getD i 0) = swp free i (i + nb) := rfl
    rw [hsw] at hl3
    have hk8 := ((hk1.setCell (p := ⟨gf, i, none⟩) (by simp) (.int .i64 (free.getD (i + nb) 0))).setCell (p := ⟨gf, i + nb, none⟩) (by simp) (.int .i64 (free.getD i 0))).drew
    have hs8 := (hs1.far (p := ⟨gf, i, none⟩) (by show gs ≠ gf; omega) (.int .i64 (free.getD (i + nb) 0))).far (p := ⟨gf, i + nb, none⟩) (by show gs ≠ gf; omega) (.int .i64 (free.getD i 0))
    have far2 : ∀ {b : Nat} {T : TypeId} {cs : List Value}, Row w1 b T cs → b ≠ gf → Row ((w1.setCell ⟨gf, i, none⟩ (.int .i64 (free.getD (i + nb) 0))).setCell ⟨gf, i + nb, none⟩ (.int .i64 (free.getD i 0))).drew b T cs := fun h hb => (h.far (p := ⟨gf, i, none⟩) hb _).far (p := ⟨gf, i + nb, none⟩) hb _
    have hd8 := far2 hd1 (by omega)
    have h08 := far2 h01 (by omega)
    have h18 := far2 h11 (by omega)
    have h28 := far2 h21 (by omega)
    have h38 := far2 h31 (by omega)
    have h48 := far2 h41 (by omega)
    replace hs8 : StrIn ((w1.setCell ⟨gf, i, none⟩ (.int .i64 (free.getD (i + nb) 0))).setCell ⟨gf, i + nb, none⟩ (.int .i64 (free.getD i 0))).drew gs B.2.2 := hs8
    have hf8 : Row ((w1.setCell ⟨gf, i, none⟩ (.int .i64 (free.getD (i + nb) 0))).setCell ⟨gf, i + nb, none⟩ (.int .i64 (free.getD i 0))).drew gf 3 (iV (swp free i (i + nb))) := hl3
    clear far2 hl2 hl3 c3
    generalize ((w1.setCell ⟨gf, i, none⟩ (.int .i64 (free.getD (i + nb) 0))).setCell ⟨gf, i + nb, none⟩ (.int .i64 (free.getD i 0))).drew = w8 at *
    have hsl : (swp free i (i + nb)).length = nf := by rw [swp_len]; exact hlf
    have hsg : (swp free i (i + nb)).getD i 0 = free.getD (i + nb) 0 := by
      rw [swp_getD hil hij]
      split
      · rename_i e; rw [← e]
      · rw [if_pos rfl]
    have hr := hr0 (i + nb) hij
    rw [← hsg] at hr
    generalize swp free i (i + nb) = F at *
    have a1 := h18.cell (i := 0) rfl
    have a2 := h28.cell (i := 0) rfl
    have y2 := h28.frozen 0
    have a4 := h48.cell (i := 0) rfl
    have af := hf8.cell (iV_get (show i < F.length by omega))
    obtain ⟨u, hu⟩ : ∃ u, Z[(F.getD i 0).toNat]? = some u := ⟨_, List.getElem?_eq_getElem (by omega)⟩
    have cz := hd8.cell (deckV_cell (S := S) (seed := seed) hu).2.2.1
    have zz := hd8.frozen ((F.getD i 0).toNat * 4 + 2)
    have hR9 := hd8.set_ (i := (F.getD i 0).toNat * 4 + 2) (by rw [deckV_len]; omega) (.int .i64 z)
    rw [deckV_set hu] at hR9
    refine Raw_gen fun υ hυ => ?_
    have r0 : υ 0 = .int .i64 z := (hυ 0).trans t0
    have r2 : υ 2 = .pointer (some ⟨b1, 0, none⟩) := (hυ 2).trans t2
    have r3 : υ 3 = .pointer (some ⟨b2, 0, none⟩) := (hυ 3).trans t3
    have r5 : υ 5 = .pointer (some ⟨b4, 0, none⟩) := (hυ 5).trans t5
    clear hυ t0 t2 t3 t5 t10
    refine Raw_rcS (τ := ?tc) (fun w' => w'.cell? ⟨b1, 0, none⟩ = some (.slice (some ⟨gf, 0, none⟩) nf cf) ∧ w'.cell? ⟨b2, 0, none⟩ = some (.int .i64 i) ∧ w'.cell? ⟨b4, 0, none⟩ = some (.slice (some ⟨gd, 0, none⟩) nz cd) ∧ w'.cell? ⟨gf, i, none⟩ = some (.int .i64 (F.getD i 0))) [0, 1, 2, 5, 3, 4, 6, 7] [8] MX rfl (by kernel_rfl) (by kernel_rfl) (by kernel_rfl) (fun _ _ _ h => h) ⟨a1, a2, a4, af⟩ (fun w7 h7 => ?_) ?_; rotate_left
    · obtain ⟨h71, h72, h73, h74⟩ := h7
      simp only [opsL_cons, opsL_nil, List.getElem?_toArray, List.getElem?_cons_zero, List.getElem?_cons_succ, optL_some]
      simp +contextual (maxSteps := 2000000) (disch := (first | omega | (simp only [SZ]; done) | (simp only [SZ]; omega) | (simp only [TS] at *; omega))) only [RZ, gval, gslot, fillL, ovw, numb, catL, ldN, agL, okC, oneC, init, Nat.reduceAdd, Nat.reduceMul, Nat.reduceSub, Nat.reduceEqDiff, Nat.reduceLT, ↓reduceIte, Int.reduceToNat, Int.reduceAdd, Int.reduceSub, Int.reduceMul, Int.reduceLT, Int.reduceLE, Int.reduceEq, Nat.reduceLeDiff,  r0, r2, r3, r5, h71, h72, h73, h74]
      exact rfl
    simp only [opsL_cons, opsL_nil, List.getElem?_toArray, List.getElem?_cons_zero, List.getElem?_cons_succ, optL_some]
    simp +contextual (maxSteps := 2000000) (disch := (first | omega | (simp only [SZ]; done) | (simp only [SZ]; omega) | (simp only [TS] at *; omega))) only [RZ, gval, gslot, fillL, ovw, numb, catL, ldN, agL, okC, oneC, init, Nat.reduceAdd, Nat.reduceMul, Nat.reduceSub, Nat.reduceEqDiff, Nat.reduceLT, ↓reduceIte, Int.reduceToNat, Int.reduceAdd, Int.reduceSub, Int.reduceMul, Int.reduceLT, Int.reduceLE, Int.reduceEq, Nat.reduceLeDiff,  EC_op, EC_nil, r0, r2, r3, r5, cz, zz, a1, a2, a4, af, y2]
    rw [if_pos hc']
    refine ⟨((hk8.setCell (p := ⟨gd, _, none⟩) (by simp) _).setCell (p := ⟨b2, 0, none⟩) (by simp) _).drew, ?_⟩
    have h29 := (h28.far (p := ⟨gd, (F.getD i 0).toNat * 4 + 2, none⟩) (by show b2 ≠ gd; omega) (.int .i64 z)).set_ (i := 0) (by simp) (.int .i64 ((i : Int) + 1))
    exact ⟨(hs8.far (p := ⟨gd, _, none⟩) (by show gs ≠ gd; omega) _).far (p := ⟨b2, 0, none⟩) (by show gs ≠ b2; omega) _, fun _ => ⟨rfl, (hf8.far (p := ⟨gd, _, none⟩) (by show gf ≠ gd; omega) _).far (p := ⟨b2, 0, none⟩) (by show gf ≠ b2; omega) _⟩, hR9.far (p := ⟨b2, 0, none⟩) (by show gd ≠ b2; omega) _, (h08.far (p := ⟨gd, _, none⟩) (by show b0 ≠ gd; omega) _).far (p := ⟨b2, 0, none⟩) (by show b0 ≠ b2; omega) _, (h18.far (p := ⟨gd, _, none⟩) (by show b1 ≠ gd; omega) _).far (p := ⟨b2, 0, none⟩) (by show b1 ≠ b2; omega) _, by rw [Int.natCast_add]; exact h29, (h38.far (p := ⟨gd, _, none⟩) (by show b3 ≠ gd; omega) _).far (p := ⟨b2, 0, none⟩) (by show b3 ≠ b2; omega) _, (h48.far (p := ⟨gd, _, none⟩) (by show b4 ≠ gd; omega) _).far (p := ⟨b2, 0, none⟩) (by show b4 ≠ b2; omega) _, hsl, by rw [List.length_set]; exact hlz⟩
end Go.Proofs.YtcnlopjjejdahaaDoor
/- Walks: deck.scatter. -/
namespace Go.Proofs.YtcnlopjjejdahaaDoor
open Go.RowKit
set_option maxRecDepth 100000
theorem Giv.below {gs gf gd b0 b1 b2 b3 b4 nf cf nz cd S : Nat} {A : Option Addr} {seed : Int} {w w' : World} {free Z : List Int} {i : Nat} {st e0 : Int} (h : Giv gs gf gd b0 b1 b2 b3 b4 nf cf nz cd S A seed w free Z i st e0) (hB : Below w.heap.size w w') :
    Giv gs gf gd b0 b1 b2 b3 b4 nf cf nz cd S A seed w' free Z i st e0 :=
  ⟨h.s.below hB, fun hn => ⟨(h.f hn).1, (h.f hn).2.below hB⟩, h.d.below hB, h.c0.below hB, h.c1.below hB, h.c2.below hB, h.c3.below hB, h.c4.below hB, h.lf, h.lz⟩
def freeP (Z : List Int) (k : Nat) : List Int := ((List.range k).filter fun i => Z.getD i 1 = 0).map fun (i : Nat) => (i : Int)
theorem freeP_succ {Z : List Int} {k : Nat} {z : Int} (h : Z[k]? = some z) : freeP Z (k + 1) = if z = 0 then freeP Z k ++ [(k : Int)] else freeP Z k := by
  have hz : Z.getD k 1 = z := by rw [List.getD_eq_getElem?_getD, h]; rfl
  unfold freeP
  rw [List.range_succ, List.filter_append, List.map_append]
  by_cases e : z = 0
  · have hd : decide (Z.getD k 1 = 0) = true := by rw [hz]; simpa using e
    rw [if_pos e, List.filter_cons, if_pos hd]
    rfl
  · have hd : ¬ decide (Z.getD k 1 = 0) = true := by rw [hz]; simpa using e
    rw [if_neg e, List.filter_cons, if_neg hd]
    simp
theorem freeP_len (Z : List Int) (k : Nat) : (freeP Z k).length ≤ k := by
  unfold freeP
  rw [List.length_map]
  exact Nat.le_trans (List.length_filter_le _ _) (by rw [List.length_range]; exact Nat.le_refl _)
set_option maxHeartbeats 1000000 in
theorem scatter_any (p : Pl) (A : Option Addr) (c gd cd gs : Nat) (seed st : Int) (Z : List Int) (w : World) (hk : p.chk = 0) (hL : Arr w A 3 (p.levels.map encLvl)) (hA : ∀ b o, A = some ⟨b, o, none⟩ → b ∉ [gs, gd]) (hgd : gs ≠ gd)
    (hZ : (Z.length : Int) = p.packs * p.size) (hfr : (restL p.packs p.levels).length ≤ (freeL Z).length) (hR : Row w gd 46 (deckV p.size.toNat seed Z)) (hs : StrIn w gs st) (hcd : Z.length ≤ cd) :
    Calls Tryd.prog 54 #[planV p A c, .slice (some ⟨gd, 0, none⟩) Z.length cd, .pointer (some ⟨gs, 0, none⟩)] w fun e w' => e = .returned (.int .i64 (scaE (restL p.packs p.levels) (freeL Z) 0 Z st).2.1) ∧
      Row w' gd 46 (deckV p.size.toNat seed (scaE (restL p.packs p.levels) (freeL Z) 0 Z st).1) ∧ Kept [gs, gd] w w' := by
  unfold planV
  refine calls_W (l := [_, _, _]) Tryd.func54 rfl _ Tryd.ntmps54 (by simp) ?_
  obtain ⟨q1, q2, q3, q4, q5, q6⟩ := chk_ok hk
  have hv := chkL_ok q3 q4 _ _ _ _ (Int.le_refl _) q6
  have hgsl := hs.lt
  have hgdl := hR.lt
  obtain ⟨S, hSi⟩ : ∃ S : Nat, p.size = S := ⟨p.size.toNat, by omega⟩
  obtain ⟨P, hPi⟩ : ∃ P : Nat, p.packs = P := ⟨p.packs.toNat, by omega⟩
  have hSt : p.size.toNat = S := by omega
  rw [hSt] at hR
  rw [hSi] at q4 hZ
  rw [hPi] at q3 hZ
  have hPb : P * S ≤ 32 * 256 := Nat.mul_le_mul (by omega) (by omega)
  have hPS : (P : Int) * S = ((P * S : Nat) : Int) := (Int.natCast_mul P S).symm
  have hZn : Z.length = P * S := by omega
  rw [hSt]
  simp +contextual (maxSteps := 2000000) (disch := (first | omega | (simp only [SZ]; done) | (simp only [SZ]; omega) | (simp only [TS] at *; omega))) only [RZ, gval, gslot, fillL, ovw, numb, catL, ldN, agL, okC, oneC, init, Nat.reduceAdd, Nat.reduceMul, Nat.reduceSub, Nat.reduceEqDiff, Nat.reduceLT, ↓reduceIte, Int.reduceToNat, Int.reduceAdd, Int.reduceSub, Int.reduceMul, Int.reduceLT, Int.reduceLE, Int.reduceEq, Nat.reduceLeDiff]
  have r0 := Row.new w 24 [Value.string p.name, .int .i64 p.price, .int .i64 p.packs, .int .i64 p.size, .slice A p.levels.length c]
  have z0 : (w.alloc (.cells [Value.string p.name, .int .i64 p.price, .int .i64 p.packs, .int .i64 p.size, .slice A p.levels.length c].toArray 24)).heap.size = w.heap.size + 1 := World.size_alloc _ _
  have b0 := below_alloc w (.cells [Value.string p.name, .int .i64 p.price, .int .i64 p.packs, .int .i64 p.size, .slice A p.levels.length c].toArray 24)
  generalize w.alloc (.cells [Value.string p.name, .int .i64 p.price, .int .i64 p.packs, .int .i64 p.size, .slice A p.levels.length c].toArray 24) = w0 at *
  have r1 := Row.new w0 37 [.slice (some ⟨gd, 0, none⟩) Z.length cd]
  have z1 : (w0.alloc (.cells [Value.slice (some ⟨gd, 0, none⟩) Z.length cd].toArray 37)).heap.size = w0.heap.size + 1 := World.size_alloc _ _
  have b1 := b0.trans ((below_alloc w0 (.cells [Value.slice (some ⟨gd, 0, none⟩) Z.length cd].toArray 37)).mono (by omega))
  replace r0 := r0.alloc (.cells [Value.slice (some ⟨gd, 0, none⟩) Z.length cd].toArray 37)
  generalize w0.alloc (.cells [Value.slice (some ⟨gd, 0, none⟩) Z.length cd].toArray 37) = w1 at *
  have r2 := Row.new w1 86 [.pointer (some ⟨gs, 0, none⟩)]
  have z2 : (w1.alloc (.cells [Value.pointer (some ⟨gs, 0, none⟩)].toArray 86)).heap.size = w1.heap.size + 1 := World.size_alloc _ _
  have b2 := b1.trans ((below_alloc w1 (.cells [Value.pointer (some ⟨gs, 0, none⟩)].toArray 86)).mono (by omega))
  replace r0 := r0.alloc (.cells [Value.pointer (some ⟨gs, 0, none⟩)].toArray 86)
  replace r1 := r1.alloc (.cells [Value.pointer (some ⟨gs, 0, none⟩)].toArray 86)
  generalize w1.alloc (.cells [Value.pointer (some ⟨gs, 0, none⟩)].toArray 86) = w2 at *
  refine Raw_scope 0 (fun _ _ => False) (fun _ _ => 0) rfl ?_ (fun _ _ h => h.elim)
  have r3 := Row.new w2 74 [.slice none 0 0]
  have z3 : (w2.alloc (.cells [Value.slice none 0 0].toArray 74)).heap.size = w2.heap.size + 1 := World.size_alloc _ _
  have b3 := b2.trans ((below_alloc w2 (.cells [Value.slice none 0 0].toArray 74)).mono (by omega))
  replace r0 := r0.alloc (.cells [Value.slice none 0 0].toArray 74)
  replace r1 := r1.alloc (.cells [Value.slice none 0 0].toArray 74)
  replace r2 := r2.alloc (.cells [Value.slice none 0 0].toArray 74)
  have c1 := r1.cell (i := 0) rfl
  have hz0 : w0.heap.size = w.heap.size + 1 := by omega
  have hz1 : w1.heap.size = w.heap.size + 2 := by omega
  have hz2 : w2.heap.size = w.heap.size + 3 := by omega
  rw [hz0] at c1 r1
  rw [hz1] at r2
  rw [hz2] at r3 z3
  simp +contextual (maxSteps := 2000000) (disch := (first | omega | (simp only [SZ]; done) | (simp only [SZ]; omega) | (simp only [TS] at *; omega))) only [RZ, gval, gslot, fillL, ovw, numb, catL, ldN, agL, okC, oneC, init, Nat.reduceAdd, Nat.reduceMul, Nat.reduceSub, Nat.reduceEqDiff, Nat.reduceLT, ↓reduceIte, Int.reduceToNat, Int.reduceAdd, Int.reduceSub, Int.reduceMul, Int.reduceLT, Int.reduceLE, Int.reduceEq, Nat.reduceLeDiff,  c1, hz2]
  replace r0 : Row (w2.alloc (.cells #[Value.slice none 0 0] 74)) _ _ _ := r0
  replace r1 : Row (w2.alloc (.cells #[Value.slice none 0 0] 74)) _ _ _ := r1
  replace r2 : Row (w2.alloc (.cells #[Value.slice none 0 0] 74)) _ _ _ := r2
  generalize w2.alloc (.cells #[Value.slice none 0 0] 74) = w3 at *
  have hs3 := hs.below b3
  have hR3 := hR.below b3
  have hI : sliceI Tryd.prog 74 = some (3, 1, 8) := by kernel_rfl
  clear c1
  refine Raw_loop (fun σ w4 => ∃ (k : Nat) (A1 : Option Addr) (c1 : Nat), k ≤ Z.length ∧ w4.ownsRow (w.heap.size + 4) 3 1 (.slice A1 (freeP Z k).length c1) (freeP Z k).length (iV (freeP Z k)) ∧ Row w4 (w.heap.size + 3) 74 [.slice A1 (freeP Z k).length c1] ∧ Kept [w.heap.size + 3] w3 w4 ∧
    σ 3 = .pointer (some ⟨w.heap.size, 0, none⟩) ∧ σ 4 = .pointer (some ⟨w.heap.size + 1, 0, none⟩) ∧ σ 5 = .pointer (some ⟨w.heap.size + 2, 0, none⟩) ∧ σ 7 = .pointer (some ⟨w.heap.size + 3, 0, none⟩) ∧ σ 15 = .slice (some ⟨gd, 0, none⟩) Z.length cd ∧ σ 16 = .int .i64 Z.length ∧ σ 17 = .int .i64 k) (fun σ _ => Z.length - (intOf (σ 17)).toNat) ?_ ?_
  · simp +contextual (maxSteps := 2000000) (disch := (first | omega | (simp only [SZ]; done) | (simp only [SZ]; omega) | (simp only [TS] at *; omega))) only [RZ, gval, gslot, fillL, ovw, numb, catL, ldN, agL, okC, oneC, init, Nat.reduceAdd, Nat.reduceMul, Nat.reduceSub, Nat.reduceEqDiff, Nat.reduceLT, ↓reduceIte, Int.reduceToNat, Int.reduceAdd, Int.reduceSub, Int.reduceMul, Int.reduceLT, Int.reduceLE, Int.reduceEq, Nat.reduceLeDiff]
    exact ⟨0, none, 0, Nat.zero_le _, owns_nil _ _ _ _, r3, Kept.refl _ _, rfl⟩
  rintro σ w4 ⟨k, A1, c1, hkl, hown, hr3, hk4, f3, f4, f5, f7, f15, f16, f17⟩ K hK
  have hz4 := hk4.size
  have hR4 := hR3.kept hk4 (by simp; omega)
  have hfl := freeP_len Z k
  simp +contextual (maxSteps := 2000000) (disch := (first | omega | (simp only [SZ]; done) | (simp only [SZ]; omega) | (simp only [TS] at *; omega))) only [RZ, gval, gslot, fillL, ovw, numb, catL, ldN, agL, okC, oneC, init, Nat.reduceAdd, Nat.reduceMul, Nat.reduceSub, Nat.reduceEqDiff, Nat.reduceLT, ↓reduceIte, Int.reduceToNat, Int.reduceAdd, Int.reduceSub, Int.reduceMul, Int.reduceLT, Int.reduceLE, Int.reduceEq, Nat.reduceLeDiff,  f3, f4, f5, f7, f15, f16, f17]
  (refine W_if rfl (fun hc => ?_) (fun hc => ?_) <;> (try simp only [TS] at hc))
  · obtain ⟨z, hz⟩ : ∃ z, Z[k]? = some z := ⟨_, List.getElem?_eq_getElem (by omega)⟩
    obtain ⟨v0, v1, v2, v3⟩ := deckV_cell (S := S) (seed := seed) hz
    have l0 := hR4.cell v0
    have l1 := hR4.cell v1
    have l2 := hR4.cell v2
    have l3 := hR4.cell v3
    simp +contextual (maxSteps := 2000000) (disch := (first | omega | (simp only [SZ]; done) | (simp only [SZ]; omega) | (simp only [TS] at *; omega))) only [RZ, gval, gslot, fillL, ovw, numb, catL, ldN, agL, okC, oneC, init, Nat.reduceAdd, Nat.reduceMul, Nat.reduceSub, Nat.reduceEqDiff, Nat.reduceLT, ↓reduceIte, Int.reduceToNat, Int.reduceAdd, Int.reduceSub, Int.reduceMul, Int.reduceLT, Int.reduceLE, Int.reduceEq, Nat.reduceLeDiff,  f3, f4, f5, f7, f15, f16, f17, l0, l1, l2, l3]
    generalize hob : Obj.cells #[Value.int .i64 ((k / S : Nat) + 1 : Int), .int .i64 ((k % S : Nat) + 1 : Int), .int .i64 z, .string (codeB seed k)] 46 = ob
    have hown5 := owns_below hown (below_alloc w4 ob)
    have hr5 := hr3.alloc ob
    have hk5 := hk4.alloc ob
    have hz5 : (w4.alloc ob).heap.size = w4.heap.size + 1 := World.size_alloc _ _
    generalize w4.alloc ob = w5 at *
    (refine W_if rfl (fun hc => ?_) (fun hc => ?_) <;> (try simp only [TS] at hc))
    · have d3 := hr5.cell (i := 0) rfl
      have y3 := hr5.frozen 0
      have hfp := freeP_succ hz
      rw [if_pos hc] at hfp
      obtain ⟨A', c', w7, he, hown7, hb7, hs7⟩ := push1 (P := Tryd.prog) (T := 74) (ty := 74) (news := [.int .i64 (k : Int)]) hown5 (by omega) hI rfl (fun u hu => by simp at hu; subst hu; rfl) (by omega) (by decide)
      have d7 := (hb7.cell (p := ⟨w.heap.size + 3, 0, none⟩) (by show w.heap.size + 3 < _; omega)).trans d3
      have y7 := ((bcell hb7).2 (w.heap.size + 3) 0 (by omega)).trans y3
      have hr7 : Row w7 (w.heap.size + 3) 74 [.slice A1 (freeP Z k).length c1] := hr5.of_block (hb7.block _ (by omega))
      have hk7 : Kept [w.heap.size + 3] w3 w7 := ⟨hb7.os.trans hk5.os, hb7.tape.trans hk5.tape, hb7.output.trans hk5.output, Nat.le_trans hk5.size hb7.size, fun g hg hx => (hb7.block g (by omega)).trans (hk5.block g hg hx)⟩
      simp +contextual (maxSteps := 2000000) (disch := (first | omega | (simp only [SZ]; done) | (simp only [SZ]; omega) | (simp only [TS] at *; omega))) only [RZ, gval, gslot, fillL, ovw, numb, catL, ldN, agL, okC, oneC, init, Nat.reduceAdd, Nat.reduceMul, Nat.reduceSub, Nat.reduceEqDiff, Nat.reduceLT, ↓reduceIte, Int.reduceToNat, Int.reduceAdd, Int.reduceSub, Int.reduceMul, Int.reduceLT, Int.reduceLE, Int.reduceEq, Nat.reduceLeDiff,  f3, f4, f5, f7, f15, f16, f17, d3, he, d7, y7]
      refine hK _ _ ⟨k + 1, A', c', by omega, ?_, ?_, hk7.setCell (p := ⟨w.heap.size + 3, 0, none⟩) (by simp) _, ?_⟩ ?_
      · rw [hfp, List.length_append]
        have := owns_keep (w' := w7.setCell ⟨w.heap.size + 3, 0, none⟩ (.slice A' ((freeP Z k).length + 1) c')) hown7 (fun g hg => Below.heap_setCell _ _ _ _ (by have := (owns_ge hown7 hg).1; show g ≠ w.heap.size + 3; omega))
        unfold iV
        rw [List.map_append]
        exact this
      · rw [hfp, List.length_append]
        exact hr7.set_ (i := 0) (by simp) _
      · simp +contextual (maxSteps := 2000000) (disch := (first | omega | (simp only [SZ]; done) | (simp only [SZ]; omega) | (simp only [TS] at *; omega))) only [RZ, gval, gslot, fillL, ovw, numb, catL, ldN, agL, okC, oneC, init, Nat.reduceAdd, Nat.reduceMul, Nat.reduceSub, Nat.reduceEqDiff, Nat.reduceLT, ↓reduceIte, Int.reduceToNat, Int.reduceAdd, Int.reduceSub, Int.reduceMul, Int.reduceLT, Int.reduceLE, Int.reduceEq, Nat.reduceLeDiff,  f3, f4, f5, f7, f15, f16, f17]
      · simp +contextual (maxSteps := 2000000) (disch := (first | omega | (simp only [SZ]; done) | (simp only [SZ]; omega) | (simp only [TS] at *; omega))) only [RZ, gval, gslot, fillL, ovw, numb, catL, ldN, agL, okC, oneC, init, Nat.reduceAdd, Nat.reduceMul, Nat.reduceSub, Nat.reduceEqDiff, Nat.reduceLT, ↓reduceIte, Int.reduceToNat, Int.reduceAdd, Int.reduceSub, Int.reduceMul, Int.reduceLT, Int.reduceLE, Int.reduceEq, Nat.reduceLeDiff,  intOf, f17]
        omega
    · have hfp := freeP_succ hz
      rw [if_neg hc] at hfp
      simp +contextual (maxSteps := 2000000) (disch := (first | omega | (simp only [SZ]; done) | (simp only [SZ]; omega) | (simp only [TS] at *; omega))) only [RZ, gval, gslot, fillL, ovw, numb, catL, ldN, agL, okC, oneC, init, Nat.reduceAdd, Nat.reduceMul, Nat.reduceSub, Nat.reduceEqDiff, Nat.reduceLT, ↓reduceIte, Int.reduceToNat, Int.reduceAdd, Int.reduceSub, Int.reduceMul, Int.reduceLT, Int.reduceLE, Int.reduceEq, Nat.reduceLeDiff,  f3, f4, f5, f7, f15, f16, f17]
      refine hK _ _ ⟨k + 1, A1, c1, by omega, by rw [hfp]; exact hown5, by rw [hfp]; exact hr5, hk5, ?_⟩ ?_
      · simp +contextual (maxSteps := 2000000) (disch := (first | omega | (simp only [SZ]; done) | (simp only [SZ]; omega) | (simp only [TS] at *; omega))) only [RZ, gval, gslot, fillL, ovw, numb, catL, ldN, agL, okC, oneC, init, Nat.reduceAdd, Nat.reduceMul, Nat.reduceSub, Nat.reduceEqDiff, Nat.reduceLT, ↓reduceIte, Int.reduceToNat, Int.reduceAdd, Int.reduceSub, Int.reduceMul, Int.reduceLT, Int.reduceLE, Int.reduceEq, Nat.reduceLeDiff,  f3, f4, f5, f7, f15, f16, f17]
      · simp +contextual (maxSteps := 2000000) (disch := (first | omega | (simp only [SZ]; done) | (simp only [SZ]; omega) | (simp only [TS] at *; omega))) only [RZ, gval, gslot, fillL, ovw, numb, catL, ldN, agL, okC, oneC, init, Nat.reduceAdd, Nat.reduceMul, Nat.reduceSub, Nat.reduceEqDiff, Nat.reduceLT, ↓reduceIte, Int.reduceToNat, Int.reduceAdd, Int.reduceSub, Int.reduceMul, Int.reduceLT, Int.reduceLE, Int.reduceEq, Nat.reduceLeDiff,  intOf, f17]
        omega
  · have hkz : k = Z.length := by omega
    subst hkz
    have p4 := (r0.kept hk4 (by simp)).cell (i := 4) rfl
    simp +contextual (maxSteps := 2000000) (disch := (first | omega | (simp only [SZ]; done) | (simp only [SZ]; omega) | (simp only [TS] at *; omega))) only [RZ, gval, gslot, fillL, ovw, numb, catL, ldN, agL, okC, oneC, init, Nat.reduceAdd, Nat.reduceMul, Nat.reduceSub, Nat.reduceEqDiff, Nat.reduceLT, ↓reduceIte, Int.reduceToNat, Int.reduceAdd, Int.reduceSub, Int.reduceMul, Int.reduceLT, Int.reduceLE, Int.reduceEq, Nat.reduceLeDiff,  f3, f4, f5, f7, f15, f16, f17, p4]
    obtain ⟨gf, hgf1, hgf3, hgf5, hgf2⟩ : ∃ gf, (0 < (freeP Z Z.length).length → A1 = some ⟨gf, 0, none⟩ ∧ Row w4 gf 3 (iV (freeP Z Z.length)) ∧ (freeP Z Z.length).length ≤ c1) ∧ w.heap.size + 3 < gf ∧ gf ≤ w4.heap.size ∧ (0 < (freeP Z Z.length).length → gf < w4.heap.size) := by
      by_cases hn : 0 < (freeP Z Z.length).length
      · obtain ⟨g, e1, e2, e3, e4, _⟩ := owns_row hown hn
        exact ⟨g, fun _ => ⟨e1, e3, e4⟩, by omega, Nat.le_of_lt e3.lt, fun _ => e3.lt⟩
      · exact ⟨w.heap.size + 4, fun h => absurd h hn, by omega, by omega, fun h => absurd h hn⟩
    have hc1 : (freeP Z Z.length).length ≤ c1 := by
      by_cases hn : 0 < (freeP Z Z.length).length
      · exact (hgf1 hn).2.2
      · omega
    have hfL : freeP Z Z.length = freeL Z := rfl
    rw [hfL] at hgf1 hgf2 hc1 hfl hr3
    have s4 : StrIn w4 gs st := hs3.kept hk4 (by simp; omega)
    have g4 : Giv gs gf gd (w.heap.size + 2) (w.heap.size + 3) (w4.heap.size + 1) w4.heap.size (w.heap.size + 1) (freeL Z).length c1 Z.length cd S A1 seed ((w4.alloc (.cells #[.int .i64 0] 27)).alloc (.cells #[.int .i64 0] 3)) (freeL Z) Z 0 st 0 := by
      have hB := (below_alloc w4 (.cells #[.int .i64 0] 27)).trans ((below_alloc (w4.alloc (.cells #[.int .i64 0] 27)) (.cells #[.int .i64 0] 3)).mono (by rw [World.size_alloc]; omega))
      have n3 := Row.new w4 27 [.int .i64 0]
      have n2 := Row.new (w4.alloc (.cells #[.int .i64 0] 27)) 3 [.int .i64 0]
      rw [World.size_alloc] at n2
      exact ⟨s4.below hB, fun hn => ⟨(hgf1 hn).1, (hgf1 hn).2.1.below hB⟩, hR4.below hB, (r2.kept hk4 (by simp)).below hB, hr3.below hB, n2, n3.alloc _, (r1.kept hk4 (by simp)).below hB, rfl, rfl⟩
    have hkw : Kept [gs, gd] w ((w4.alloc (.cells #[.int .i64 0] 27)).alloc (.cells #[.int .i64 0] 3)) := by
      have h3 : Kept [w.heap.size + 3] w w3 := Kept.of_below b3
      exact (((h3.trans hk4).alloc _).alloc _).less fun x hx hlt => by simp at hx; omega
    have r05 := ((r0.kept hk4 (by simp)).alloc (.cells #[.int .i64 0] 27)).alloc (.cells #[.int .i64 0] 3)
    have hz5 : ((w4.alloc (.cells #[.int .i64 0] 27)).alloc (.cells #[.int .i64 0] 3)).heap.size = w4.heap.size + 2 := by rw [World.size_alloc, World.size_alloc]
    generalize (w4.alloc (.cells #[.int .i64 0] 27)).alloc (.cells #[.int .i64 0] 3) = w5 at *
    have hrr : ∀ j, j < (freeL Z).length → 0 ≤ (freeL Z).getD j 0 ∧ ((freeL Z).getD j 0).toNat < Z.length := fun j hj => by
      obtain ⟨h1, h2⟩ := freeL_zero j hj
      exact ⟨h1, (List.getElem?_eq_some_iff.1 h2).1⟩
    rw [hPi] at hfr ⊢
    generalize hRR : scaE (restL P p.levels) (freeL Z) 0 Z st = RR
    generalize hnf : (freeL Z).length = nf at *
    refine Raw_loop (fun σ w6 => ∃ (m i : Nat) (F Z6 : List Int) (st6 : Int), m ≤ p.levels.length ∧ scaE (restL P (p.levels.drop m)) F i Z6 st6 = RR ∧ i + (restL P (p.levels.drop m)).length ≤ nf ∧ (∀ j, j < F.length → 0 ≤ F.getD j 0 ∧ (F.getD j 0).toNat < Z.length) ∧
      Giv gs gf gd (w.heap.size + 2) (w.heap.size + 3) (w4.heap.size + 1) w4.heap.size (w.heap.size + 1) nf c1 Z.length cd S A1 seed w6 F Z6 i st6 0 ∧ Kept [gs, gd] w w6 ∧ Kept [gs, gf, gd, w4.heap.size + 1, w4.heap.size] w5 w6 ∧
      σ 3 = .pointer (some ⟨w.heap.size, 0, none⟩) ∧ σ 10 = .pointer (some ⟨w4.heap.size, 0, none⟩) ∧ σ 12 = .func (.func 82) #[] #[.pointer (some ⟨w.heap.size + 2, 0, none⟩), .pointer (some ⟨w.heap.size + 3, 0, none⟩), .pointer (some ⟨w4.heap.size + 1, 0, none⟩), .pointer (some ⟨w4.heap.size, 0, none⟩), .pointer (some ⟨w.heap.size + 1, 0, none⟩)] ∧
      σ 32 = .slice A p.levels.length c ∧ σ 33 = .int .i64 p.levels.length ∧ σ 34 = .int .i64 m) (fun σ _ => p.levels.length - (intOf (σ 34)).toNat) ?_ ?_
    · simp +contextual (maxSteps := 2000000) (disch := (first | omega | (simp only [SZ]; done) | (simp only [SZ]; omega) | (simp only [TS] at *; omega))) only [RZ, gval, gslot, fillL, ovw, numb, catL, ldN, agL, okC, oneC, init, Nat.reduceAdd, Nat.reduceMul, Nat.reduceSub, Nat.reduceEqDiff, Nat.reduceLT, ↓reduceIte, Int.reduceToNat, Int.reduceAdd, Int.reduceSub, Int.reduceMul, Int.reduceLT, Int.reduceLE, Int.reduceEq, Nat.reduceLeDiff,  f3]
      exact ⟨0, 0, freeL Z, Z, st, Nat.zero_le _, by rw [List.drop_zero]; exact hRR, by rw [List.drop_zero]; omega, by rw [hnf]; exact hrr, g4, hkw, Kept.refl _ _, rfl⟩
    clear f3 f4 f5 f7 f15 f16 f17 g4 hkw hRR
    rintro σ6 w6 ⟨m, i, F, Z6, st6, hm, hsc, hin, hrF, g6, hkw6, hk6, i3, i10, i12, i32, i33, i34⟩ K6 hK6
    have hL6 := hL.kept hkw6 hA
    have r06 := r05.kept hk6 (by simp; omega)
    have p2 := r06.cell (i := 2) rfl
    have h06 := r06.lt
    have d10 := g6.c3.cell (i := 0) rfl
    simp +contextual (maxSteps := 2000000) (disch := (first | omega | (simp only [SZ]; done) | (simp only [SZ]; omega) | (simp only [TS] at *; omega))) only [RZ, gval, gslot, fillL, ovw, numb, catL, ldN, agL, okC, oneC, init, Nat.reduceAdd, Nat.reduceMul, Nat.reduceSub, Nat.reduceEqDiff, Nat.reduceLT, ↓reduceIte, Int.reduceToNat, Int.reduceAdd, Int.reduceSub, Int.reduceMul, Int.reduceLT, Int.reduceLE, Int.reduceEq, Nat.reduceLeDiff,  i3, i10, i12, i32, i33, i34]
    (refine W_if rfl (fun hc => ?_) (fun hc => ?_) <;> (try simp only [TS] at hc))
    · obtain ⟨v, hvm⟩ : ∃ v, p.levels[m]? = some v := ⟨_, List.getElem?_eq_getElem (by omega)⟩
      have hvv := hv v (List.mem_of_getElem? hvm)
      obtain ⟨ba, oa, rfl, hba, hcell⟩ := hL6.at_ hvm
      have l0 := hcell 0 _ rfl
      rw [Nat.add_zero] at l0
      have l1 := hcell 1 _ rfl
      have l2 := hcell 2 _ rfl
      have hdr : restL P (p.levels.drop m) = List.replicate (v.count - v.pack * P).toNat v.prize ++ restL P (p.levels.drop (m + 1)) := by
        obtain ⟨hml, rfl⟩ := List.getElem?_eq_some_iff.1 hvm
        rw [List.drop_eq_getElem_cons hml, restL_flat, restL_flat, flatG_cons]
      rw [hdr] at hsc hin
      rw [List.length_append, List.length_replicate] at hin
      rw [hPi] at hvv p2
      obtain ⟨hvP0, hvP1⟩ : 0 ≤ v.pack * P ∧ v.pack * P ≤ 256 * 32 := mul_bd (by omega) (by omega) (by omega) (by omega)
      simp +contextual (maxSteps := 2000000) (disch := (first | omega | (simp only [SZ]; done) | (simp only [SZ]; omega) | (simp only [TS] at *; omega))) only [RZ, gval, gslot, fillL, ovw, numb, catL, ldN, agL, okC, oneC, init, Nat.reduceAdd, Nat.reduceMul, Nat.reduceSub, Nat.reduceEqDiff, Nat.reduceLT, ↓reduceIte, Int.reduceToNat, Int.reduceAdd, Int.reduceSub, Int.reduceMul, Int.reduceLT, Int.reduceLE, Int.reduceEq, Nat.reduceLeDiff,  i3, i10, i12, i32, i33, i34, l0, l1, l2, p2]
      have hro := Row.new w6 43 (encLvl v)
      have g7 := g6.below (below_alloc w6 (.cells (encLvl v).toArray 43))
      have hkw7 := hkw6.alloc (.cells (encLvl v).toArray 43)
      have hk7 := hk6.alloc (.cells (encLvl v).toArray 43)
      have hz7 : (w6.alloc (.cells (encLvl v).toArray 43)).heap.size = w6.heap.size + 1 := World.size_alloc _ _
      rw [show (encLvl v).toArray = #[.int .i64 v.prize, .int .i64 v.count, .int .i64 v.pack] from rfl] at hro g7 hkw7 hk7 hz7
      generalize w6.alloc (.cells #[.int .i64 v.prize, .int .i64 v.count, .int .i64 v.pack] 43) = w7 at *
      have hz65 := hk6.size
      refine Raw_loop (fun σ8 w8 => ∃ (j i8 : Nat) (F8 Z8 : List Int) (st8 : Int), j ≤ (v.count - v.pack * P).toNat ∧ scaE (List.replicate ((v.count - v.pack * P).toNat - j) v.prize ++ restL P (p.levels.drop (m + 1))) F8 i8 Z8 st8 = RR ∧ i8 + ((v.count - v.pack * P).toNat - j) + (restL P (p.levels.drop (m + 1))).length ≤ nf ∧ (∀ j, j < F8.length → 0 ≤ F8.getD j 0 ∧ (F8.getD j 0).toNat < Z.length) ∧
        Giv gs gf gd (w.heap.size + 2) (w.heap.size + 3) (w4.heap.size + 1) w4.heap.size (w.heap.size + 1) nf c1 Z.length cd S A1 seed w8 F8 Z8 i8 st8 0 ∧ Kept [gs, gd] w w8 ∧ Kept [gs, gf, gd, w4.heap.size + 1, w4.heap.size] w5 w8 ∧ Kept [gs, gf, gd, w4.heap.size + 1, w4.heap.size] w7 w8 ∧
        σ8 3 = .pointer (some ⟨w.heap.size, 0, none⟩) ∧ σ8 10 = .pointer (some ⟨w4.heap.size, 0, none⟩) ∧ σ8 12 = .func (.func 82) #[] #[.pointer (some ⟨w.heap.size + 2, 0, none⟩), .pointer (some ⟨w.heap.size + 3, 0, none⟩), .pointer (some ⟨w4.heap.size + 1, 0, none⟩), .pointer (some ⟨w4.heap.size, 0, none⟩), .pointer (some ⟨w.heap.size + 1, 0, none⟩)] ∧
        σ8 14 = .pointer (some ⟨w6.heap.size, 0, none⟩) ∧ σ8 32 = .slice (some ⟨ba, oa, none⟩) p.levels.length c ∧ σ8 33 = .int .i64 p.levels.length ∧ σ8 34 = .int .i64 m ∧ σ8 45 = .int .i64 (v.count - v.pack * P) ∧ σ8 46 = .int .i64 j) (fun σ8 _ => (v.count - v.pack * P).toNat - (intOf (σ8 46)).toNat) ?_ ?_
      · simp +contextual (maxSteps := 2000000) (disch := (first | omega | (simp only [SZ]; done) | (simp only [SZ]; omega) | (simp only [TS] at *; omega))) only [RZ, gval, gslot, fillL, ovw, numb, catL, ldN, agL, okC, oneC, init, Nat.reduceAdd, Nat.reduceMul, Nat.reduceSub, Nat.reduceEqDiff, Nat.reduceLT, ↓reduceIte, Int.reduceToNat, Int.reduceAdd, Int.reduceSub, Int.reduceMul, Int.reduceLT, Int.reduceLE, Int.reduceEq, Nat.reduceLeDiff,  i3, i10, i12, i32, i33, i34]
        exact ⟨0, i, F, Z6, st6, Nat.zero_le _, hsc, by omega, hrF, g7, hkw7, hk7, Kept.refl _ _, rfl⟩
      clear g7 hsc
      rintro σ8 w8 ⟨j, i8, F8, Z8, st8, hj, hsc, hin8, hrF8, g8, hkw8, hk8, hk78, j3, j10, j12, j14, j32, j33, j34, j45, j46⟩ K8 hK8
      have hro8 := hro.kept hk78 (by simp; omega)
      have cp := hro8.cell (i := 0) rfl
      simp +contextual (maxSteps := 2000000) (disch := (first | omega | (simp only [SZ]; done) | (simp only [SZ]; omega) | (simp only [TS] at *; omega))) only [RZ, gval, gslot, fillL, ovw, numb, catL, ldN, agL, okC, oneC, init, Nat.reduceAdd, Nat.reduceMul, Nat.reduceSub, Nat.reduceEqDiff, Nat.reduceLT, ↓reduceIte, Int.reduceToNat, Int.reduceAdd, Int.reduceSub, Int.reduceMul, Int.reduceLT, Int.reduceLE, Int.reduceEq, Nat.reduceLeDiff,  j3, j10, j12, j14, j32, j33, j34, j45, j46, cp]
      (refine W_if rfl (fun hc => ?_) (fun hc => ?_) <;> (try simp only [TS] at hc))
      · obtain ⟨r, hr⟩ : ∃ r, (v.count - v.pack * P).toNat - j = r + 1 := ⟨(v.count - v.pack * P).toNat - j - 1, by omega⟩
        rw [hr, List.replicate_succ, List.cons_append, scaE] at hsc
        have hnp : 0 < nf := by omega
        have hgf4 := hgf2 hnp
        have hlF := g8.lf
        rw [hlF] at hsc
        simp +contextual (maxSteps := 2000000) (disch := (first | omega | (simp only [SZ]; done) | (simp only [SZ]; omega) | (simp only [TS] at *; omega))) only [RZ, gval, gslot, fillL, ovw, numb, catL, ldN, agL, okC, oneC, init, Nat.reduceAdd, Nat.reduceMul, Nat.reduceSub, Nat.reduceEqDiff, Nat.reduceLT, ↓reduceIte, Int.reduceToNat, Int.reduceAdd, Int.reduceSub, Int.reduceMul, Int.reduceLT, Int.reduceLE, Int.reduceEq, Nat.reduceLeDiff,  j3, j10, j12, j14, j32, j33, j34, j45, j46, cp]
        refine (give_any gs gf gd (w.heap.size + 2) (w.heap.size + 3) (w4.heap.size + 1) w4.heap.size (w.heap.size + 1) nf c1 Z.length cd S i8 A1 seed st8 v.prize 0 F8 Z8 w8 g8 hc1 hcd (by omega) (by omega) hrF8 (by omega) (by omega) (by omega) hgd (by omega) (by omega) (by omega) (by omega) (by omega)).mono ?_
        rintro e w9 ⟨hk9, he⟩
        have hlt := fun h => belE_lt (n := (nf : Int) - i8) (st := st8) h
        generalize belE ((nf : Int) - i8) st8 = B at *
        have hkw9 : Kept [gs, gd] w w9 := ((hkw8.less (Y := [gs, gf, gd, w4.heap.size + 1, w4.heap.size]) fun x hx _ => by simp at hx ⊢; omega).trans hk9).less fun x hx hlx => by simp at hx ⊢; omega
        by_cases hbz : B.2.1 = 0
        · rw [if_pos hbz] at he
          obtain ⟨rfl, g9⟩ := he
          rw [if_pos hbz] at hsc
          have hb := hlt hbz
          refine ⟨_, rfl, ?_⟩
          simp +contextual (maxSteps := 2000000) (disch := (first | omega | (simp only [SZ]; done) | (simp only [SZ]; omega) | (simp only [TS] at *; omega))) only [RZ, gval, gslot, fillL, ovw, numb, catL, ldN, agL, okC, oneC, init, Nat.reduceAdd, Nat.reduceMul, Nat.reduceSub, Nat.reduceEqDiff, Nat.reduceLT, ↓reduceIte, Int.reduceToNat, Int.reduceAdd, Int.reduceSub, Int.reduceMul, Int.reduceLT, Int.reduceLE, Int.reduceEq, Nat.reduceLeDiff,  j3, j10, j12, j14, j32, j33, j34, j45, j46]
          refine W_if_f rfl ?_
          simp +contextual (maxSteps := 2000000) (disch := (first | omega | (simp only [SZ]; done) | (simp only [SZ]; omega) | (simp only [TS] at *; omega))) only [RZ, gval, gslot, fillL, ovw, numb, catL, ldN, agL, okC, oneC, init, Nat.reduceAdd, Nat.reduceMul, Nat.reduceSub, Nat.reduceEqDiff, Nat.reduceLT, ↓reduceIte, Int.reduceToNat, Int.reduceAdd, Int.reduceSub, Int.reduceMul, Int.reduceLT, Int.reduceLE, Int.reduceEq, Nat.reduceLeDiff,  j3, j10, j12, j14, j32, j33, j34, j45, j46]
          rw [show r = (v.count - v.pack * P).toNat - (j + 1) by omega] at hsc
          refine hK8 _ _ ⟨j + 1, i8 + 1, _, _, B.2.2, by omega, hsc, by omega, fun q hq => ?_, g9, hkw9, hk8.trans hk9, hk78.trans hk9, ?_⟩ ?_
          · rw [swp_len] at hq
            rw [swp_getD (by omega) (by omega)]
            split
            · exact hrF8 _ (by omega)
            · split
              · exact hrF8 _ (by omega)
              · exact hrF8 _ hq
          · simp +contextual (maxSteps := 2000000) (disch := (first | omega | (simp only [SZ]; done) | (simp only [SZ]; omega) | (simp only [TS] at *; omega))) only [RZ, gval, gslot, fillL, ovw, numb, catL, ldN, agL, okC, oneC, init, Nat.reduceAdd, Nat.reduceMul, Nat.reduceSub, Nat.reduceEqDiff, Nat.reduceLT, ↓reduceIte, Int.reduceToNat, Int.reduceAdd, Int.reduceSub, Int.reduceMul, Int.reduceLT, Int.reduceLE, Int.reduceEq, Nat.reduceLeDiff,  j3, j10, j12, j14, j32, j33, j34, j45, j46]
          · simp +contextual (maxSteps := 2000000) (disch := (first | omega | (simp only [SZ]; done) | (simp only [SZ]; omega) | (simp only [TS] at *; omega))) only [RZ, gval, gslot, fillL, ovw, numb, catL, ldN, agL, okC, oneC, init, Nat.reduceAdd, Nat.reduceMul, Nat.reduceSub, Nat.reduceEqDiff, Nat.reduceLT, ↓reduceIte, Int.reduceToNat, Int.reduceAdd, Int.reduceSub, Int.reduceMul, Int.reduceLT, Int.reduceLE, Int.reduceEq, Nat.reduceLeDiff,  intOf, j46]
            omega
        · rw [if_neg hbz] at he
          obtain ⟨rfl, g9⟩ := he
          rw [if_neg hbz] at hsc
          have d9 := g9.c3.cell (i := 0) rfl
          refine ⟨_, rfl, ?_⟩
          simp +contextual (maxSteps := 2000000) (disch := (first | omega | (simp only [SZ]; done) | (simp only [SZ]; omega) | (simp only [TS] at *; omega))) only [RZ, gval, gslot, fillL, ovw, numb, catL, ldN, agL, okC, oneC, init, Nat.reduceAdd, Nat.reduceMul, Nat.reduceSub, Nat.reduceEqDiff, Nat.reduceLT, ↓reduceIte, Int.reduceToNat, Int.reduceAdd, Int.reduceSub, Int.reduceMul, Int.reduceLT, Int.reduceLE, Int.reduceEq, Nat.reduceLeDiff,  j3, j10, j12, j14, j32, j33, j34, j45, j46]
          refine W_if_t rfl ?_
          simp +contextual (maxSteps := 2000000) (disch := (first | omega | (simp only [SZ]; done) | (simp only [SZ]; omega) | (simp only [TS] at *; omega))) only [RZ, gval, gslot, fillL, ovw, numb, catL, ldN, agL, okC, oneC, init, Nat.reduceAdd, Nat.reduceMul, Nat.reduceSub, Nat.reduceEqDiff, Nat.reduceLT, ↓reduceIte, Int.reduceToNat, Int.reduceAdd, Int.reduceSub, Int.reduceMul, Int.reduceLT, Int.reduceLE, Int.reduceEq, Nat.reduceLeDiff,  j10, d9]
          rw [← hsc]
          exact ⟨rfl, g9.d, hkw9⟩
      · have hj2 : (v.count - v.pack * P).toNat - j = 0 := by omega
        rw [hj2, List.replicate_zero, List.nil_append] at hsc
        simp +contextual (maxSteps := 2000000) (disch := (first | omega | (simp only [SZ]; done) | (simp only [SZ]; omega) | (simp only [TS] at *; omega))) only [RZ, gval, gslot, fillL, ovw, numb, catL, ldN, agL, okC, oneC, init, Nat.reduceAdd, Nat.reduceMul, Nat.reduceSub, Nat.reduceEqDiff, Nat.reduceLT, ↓reduceIte, Int.reduceToNat, Int.reduceAdd, Int.reduceSub, Int.reduceMul, Int.reduceLT, Int.reduceLE, Int.reduceEq, Nat.reduceLeDiff,  j3, j10, j12, j14, j32, j33, j34, j45, j46]
        refine hK6 _ _ ⟨m + 1, i8, F8, Z8, st8, by omega, hsc, by omega, hrF8, g8, hkw8, hk8, ?_⟩ ?_
        · simp +contextual (maxSteps := 2000000) (disch := (first | omega | (simp only [SZ]; done) | (simp only [SZ]; omega) | (simp only [TS] at *; omega))) only [RZ, gval, gslot, fillL, ovw, numb, catL, ldN, agL, okC, oneC, init, Nat.reduceAdd, Nat.reduceMul, Nat.reduceSub, Nat.reduceEqDiff, Nat.reduceLT, ↓reduceIte, Int.reduceToNat, Int.reduceAdd, Int.reduceSub, Int.reduceMul, Int.reduceLT, Int.reduceLE, Int.reduceEq, Nat.reduceLeDiff,  j3, j10, j12, j14, j32, j33, j34, j45, j46]
        · simp +contextual (maxSteps := 2000000) (disch := (first | omega | (simp only [SZ]; done) | (simp only [SZ]; omega) | (simp only [TS] at *; omega))) only [RZ, gval, gslot, fillL, ovw, numb, catL, ldN, agL, okC, oneC, init, Nat.reduceAdd, Nat.reduceMul, Nat.reduceSub, Nat.reduceEqDiff, Nat.reduceLT, ↓reduceIte, Int.reduceToNat, Int.reduceAdd, Int.reduceSub, Int.reduceMul, Int.reduceLT, Int.reduceLE, Int.reduceEq, Nat.reduceLeDiff,  intOf, i34, j34]
          omega
    · simp +contextual (maxSteps := 2000000) (disch := (first | omega | (simp only [SZ]; done) | (simp only [SZ]; omega) | (simp only [TS] at *; omega))) only [RZ, gval, gslot, fillL, ovw, numb, catL, ldN, agL, okC, oneC, init, Nat.reduceAdd, Nat.reduceMul, Nat.reduceSub, Nat.reduceEqDiff, Nat.reduceLT, ↓reduceIte, Int.reduceToNat, Int.reduceAdd, Int.reduceSub, Int.reduceMul, Int.reduceLT, Int.reduceLE, Int.reduceEq, Nat.reduceLeDiff,  i3, i10, i12, i32, i33, i34, d10]
      have hm2 : p.levels.drop m = [] := List.drop_eq_nil_of_le (by omega)
      rw [hm2] at hsc
      rw [← hsc]
      exact ⟨rfl, g6.d, hkw6⟩
end Go.Proofs.YtcnlopjjejdahaaDoor
