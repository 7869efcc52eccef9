/- Texts laid one behind the other: RfF, DwI, Laid. Each says at its head what it proves. -/
import Derived.Test.YtcnlopjjejdahaaDoorDeckPsZ16
import Derived.ChangeMaps5
import Derived.LaidMore
import Derived.OpenShut
import Derived.Stop.Joined
import Derived.Lib.LaidTab
import Derived.MakeChecks
set_option linter.unusedSimpArgs false
/- Walks: the reference's Parse (chapter 41). -/
namespace Go.Proofs.YtcnlopjjejdahaaDoor
open Go.RowKit
set_option maxRecDepth 100000
theorem PlIn.put {w : World} {gP base : Nat} {p q : Pl} {o : Nat} {v : Value} (h : PlIn w gP base p) (hg : gP < base) (hl : q.levels = p.levels) (ho : o < 4)
    (hq : ∀ x : Value, ([.string p.name, .int .i64 p.price, .int .i64 p.packs, .int .i64 p.size, x].set o v : List Value) = [.string q.name, .int .i64 q.price, .int .i64 q.packs, .int .i64 q.size, x]) : PlIn (w.setCell ⟨gP, o, none⟩ v) gP base q := by
  obtain ⟨AL, cL, h1, h2⟩ := h
  have k := (Kept.refl [gP] w).setCell (p := ⟨gP, o, none⟩) (by simp) v
  refine ⟨AL, cL, ?_, ?_⟩
  · have := h1.set_ (i := o) (by simp; omega) v
    rw [hq, ← hl] at this
    exact this
  · rw [hl]
    exact owns_keep h2 fun g hg' => k.block g (owns_ge h2 hg').2 (by have := (owns_ge h2 hg').1; simp; omega)
theorem PlIn.cells {w : World} {gP base : Nat} {p : Pl} (h : PlIn w gP base p) : (w.cell? ⟨gP, 1, none⟩ = some (.int .i64 p.price) ∧ w.cell? ⟨gP, 2, none⟩ = some (.int .i64 p.packs) ∧ w.cell? ⟨gP, 3, none⟩ = some (.int .i64 p.size)) ∧
    w.frozen? ⟨gP, 1, none⟩ = false ∧ w.frozen? ⟨gP, 2, none⟩ = false ∧ w.frozen? ⟨gP, 3, none⟩ = false := by
  obtain ⟨AL, cL, h1, h2⟩ := h
  exact ⟨⟨h1.cell (i := 1) rfl, h1.cell (i := 2) rfl, h1.cell (i := 3) rfl⟩, h1.frozen 1, h1.frozen 2, h1.frozen 3⟩
set_option maxHeartbeats 2000000 in
theorem rparse_any (s : ByteArray) (w : World) (hs : s.size ≤ 1000000) : Calls Tryd.prog 18 #[.string s] w fun e w' => Below w.heap.size w w' ∧
    ∃ A c, e = .returned (.tuple #[planV (rparseP s).1 A c, .int .i64 (rparseP s).2.1, .int .i64 (rparseP s).2.2]) ∧ Arr w' A 3 ((rparseP s).1.levels.map encLvl) ∧ ∀ b o, A = some ⟨b, o, none⟩ → w.heap.size ≤ b := by
  refine calls_W (l := [_]) Tryd.func18 rfl _ Tryd.ntmps18 (by simp) ?_
  generalize hR : rparseP s = R
  unfold rparseP at hR
  simp +contextual (maxSteps := 2000000) (disch := (first | omega | (simp only [SZ]; done) | (simp only [SZ]; omega) | (simp only [TS] at *; omega))) only [RZ, gval, gslot, fillL, ovw, numb, catL, ldN, agL, okC, oneC, init, Nat.reduceAdd, Nat.reduceMul, Nat.reduceSub, Nat.reduceEqDiff, Nat.reduceLT, ↓reduceIte, Int.reduceToNat, Int.reduceAdd, Int.reduceSub, Int.reduceMul, Int.reduceLT, Int.reduceLE, Int.reduceEq, Nat.reduceLeDiff]
  have r0 := Row.new w 24 [.string ByteArray.empty, .int .i64 0, .int .i64 0, .int .i64 0, .slice none 0 0]
  replace r0 : Row (w.alloc (.cells #[.string ByteArray.empty, .int .i64 0, .int .i64 0, .int .i64 0, .slice none 0 0] 24)) _ _ _ := r0
  have hB0 := below_alloc w (.cells #[.string ByteArray.empty, .int .i64 0, .int .i64 0, .int .i64 0, .slice none 0 0] 24)
  have hz0 : (w.alloc (.cells #[.string ByteArray.empty, .int .i64 0, .int .i64 0, .int .i64 0, .slice none 0 0] 24)).heap.size = w.heap.size + 1 := World.size_alloc _ _
  generalize w.alloc (.cells #[.string ByteArray.empty, .int .i64 0, .int .i64 0, .int .i64 0, .slice none 0 0] 24) = w0 at *
  refine (rscan_any s w0 hs).mono ?_
  rintro e w1 ⟨hB1, v, rfl, A, c, rfl, hown⟩
  refine ⟨_, rfl, ?_⟩
  have hf1 := hB0.trans (hB1.mono (by omega))
  have r1 := r0.below hB1
  have htk := scan_toks (s := s)
  have hof := scan_off (s := s)
  generalize hSC : scanE s = SC at *
  have hz1 := hB1.size
  simp +contextual (maxSteps := 2000000) (disch := (first | omega | (simp only [SZ]; done) | (simp only [SZ]; omega) | (simp only [TS] at *; omega))) only [RZ, gval, gslot, fillL, ovw, numb, catL, ldN, agL, okC, oneC, init, Nat.reduceAdd, Nat.reduceMul, Nat.reduceSub, Nat.reduceEqDiff, Nat.reduceLT, ↓reduceIte, Int.reduceToNat, Int.reduceAdd, Int.reduceSub, Int.reduceMul, Int.reduceLT, Int.reduceLE, Int.reduceEq, Nat.reduceLeDiff]
  (refine W_if rfl (fun hc => ?_) (fun hc => ?_) <;> (try simp only [TS] at hc))
  · rw [if_pos hc] at hR
    subst hR
    have rc0 := r1.cell (i := 0) rfl
    have rz0 := r1.frozen 0
    have rc1 := r1.cell (i := 1) rfl
    have rz1 := r1.frozen 1
    have rc2 := r1.cell (i := 2) rfl
    have rz2 := r1.frozen 2
    have rc3 := r1.cell (i := 3) rfl
    have rz3 := r1.frozen 3
    have rc4 := r1.cell (i := 4) rfl
    have rz4 := r1.frozen 4
    simp +contextual (maxSteps := 2000000) (disch := (first | omega | (simp only [SZ]; done) | (simp only [SZ]; omega) | (simp only [TS] at *; omega))) only [RZ, gval, gslot, fillL, ovw, numb, catL, ldN, agL, okC, oneC, init, Nat.reduceAdd, Nat.reduceMul, Nat.reduceSub, Nat.reduceEqDiff, Nat.reduceLT, ↓reduceIte, Int.reduceToNat, Int.reduceAdd, Int.reduceSub, Int.reduceMul, Int.reduceLT, Int.reduceLE, Int.reduceEq, Nat.reduceLeDiff,  rc0, rc1, rc2, rc3, rc4, rz0, rz1, rz2, rz3, rz4]
    refine ⟨(((((hf1.setCell (p := ⟨w.heap.size, 0, none⟩) (Nat.le_refl _) (.string ByteArray.empty)).setCell (p := ⟨w.heap.size, 1, none⟩) (Nat.le_refl _) (.int .i64 0)).setCell (p := ⟨w.heap.size, 2, none⟩) (Nat.le_refl _) (.int .i64 0)).setCell (p := ⟨w.heap.size, 3, none⟩) (Nat.le_refl _) (.int .i64 0)).setCell (p := ⟨w.heap.size, 4, none⟩) (Nat.le_refl _) (.slice none 0 0)), none, 0, ?_, fun h => absurd h (by simp [noPl]), fun b o h => by cases h⟩
    rw [hc]
    rfl
  rw [if_neg hc] at hR
  clear hc
  simp +contextual (maxSteps := 2000000) (disch := (first | omega | (simp only [SZ]; done) | (simp only [SZ]; omega) | (simp only [TS] at *; omega))) only [RZ, gval, gslot, fillL, ovw, numb, catL, ldN, agL, okC, oneC, init, Nat.reduceAdd, Nat.reduceMul, Nat.reduceSub, Nat.reduceEqDiff, Nat.reduceLT, ↓reduceIte, Int.reduceToNat, Int.reduceAdd, Int.reduceSub, Int.reduceMul, Int.reduceLT, Int.reduceLE, Int.reduceEq, Nat.reduceLeDiff]
  (refine W_if rfl (fun hc => ?_) (fun hc => ?_) <;> (try simp only [TS] at hc))
  · rw [if_pos hc] at hR
    subst hR
    obtain ⟨h0, h1⟩ := hof hc
    simp +contextual (maxSteps := 2000000) (disch := (first | omega | (simp only [SZ]; done) | (simp only [SZ]; omega) | (simp only [TS] at *; omega))) only [RZ, gval, gslot, fillL, ovw, numb, catL, ldN, agL, okC, oneC, init, Nat.reduceAdd, Nat.reduceMul, Nat.reduceSub, Nat.reduceEqDiff, Nat.reduceLT, ↓reduceIte, Int.reduceToNat, Int.reduceAdd, Int.reduceSub, Int.reduceMul, Int.reduceLT, Int.reduceLE, Int.reduceEq, Nat.reduceLeDiff]
    obtain ⟨m, hm⟩ : ∃ m : Nat, SC.2.1 = m := ⟨SC.2.1.toNat, (Int.toNat_of_nonneg h0).symm⟩
    rw [hm] at h0 h1 ⊢
    rw [Int.toNat_natCast]
    refine (rplace_any s m w1 hs (by omega)).mono ?_
    rintro e w2 ⟨rfl, rfl⟩
    refine ⟨_, rfl, ?_⟩
    have rc0 := r1.cell (i := 0) rfl
    have rz0 := r1.frozen 0
    have rc1 := r1.cell (i := 1) rfl
    have rz1 := r1.frozen 1
    have rc2 := r1.cell (i := 2) rfl
    have rz2 := r1.frozen 2
    have rc3 := r1.cell (i := 3) rfl
    have rz3 := r1.frozen 3
    have rc4 := r1.cell (i := 4) rfl
    have rz4 := r1.frozen 4
    simp +contextual (maxSteps := 2000000) (disch := (first | omega | (simp only [SZ]; done) | (simp only [SZ]; omega) | (simp only [TS] at *; omega))) only [RZ, gval, gslot, fillL, ovw, numb, catL, ldN, agL, okC, oneC, init, Nat.reduceAdd, Nat.reduceMul, Nat.reduceSub, Nat.reduceEqDiff, Nat.reduceLT, ↓reduceIte, Int.reduceToNat, Int.reduceAdd, Int.reduceSub, Int.reduceMul, Int.reduceLT, Int.reduceLE, Int.reduceEq, Nat.reduceLeDiff,  rc0, rc1, rc2, rc3, rc4, rz0, rz1, rz2, rz3, rz4]
    exact ⟨(((((hf1.setCell (p := ⟨w.heap.size, 0, none⟩) (Nat.le_refl _) (.string ByteArray.empty)).setCell (p := ⟨w.heap.size, 1, none⟩) (Nat.le_refl _) (.int .i64 0)).setCell (p := ⟨w.heap.size, 2, none⟩) (Nat.le_refl _) (.int .i64 0)).setCell (p := ⟨w.heap.size, 3, none⟩) (Nat.le_refl _) (.int .i64 0)).setCell (p := ⟨w.heap.size, 4, none⟩) (Nat.le_refl _) (.slice none 0 0)), none, 0, rfl, fun h => absurd h (by simp [noPl]), fun b o h => by cases h⟩
  have hc0 : SC.1 = 0 := by omega
  rw [if_neg (fun h => h hc0)] at hR
  obtain ⟨t1, t2, t3⟩ := htk hc0
  clear hc
  simp +contextual (maxSteps := 2000000) (disch := (first | omega | (simp only [SZ]; done) | (simp only [SZ]; omega) | (simp only [TS] at *; omega))) only [RZ, gval, gslot, fillL, ovw, numb, catL, ldN, agL, okC, oneC, init, Nat.reduceAdd, Nat.reduceMul, Nat.reduceSub, Nat.reduceEqDiff, Nat.reduceLT, ↓reduceIte, Int.reduceToNat, Int.reduceAdd, Int.reduceSub, Int.reduceMul, Int.reduceLT, Int.reduceLE, Int.reduceEq, Nat.reduceLeDiff]
  obtain ⟨gt, rfl, hgt1, hrt, _, _⟩ := owns_row hown t1
  have hrtl := hrt.lt
  have hbr := below_alloc w1 (.cells #[.slice (some ⟨gt, 0, none⟩) SC.2.2.length c, .int .i64 0, .int .i64 0, .int .i64 0] 69)
  have rr := Row.new w1 69 [.slice (some ⟨gt, 0, none⟩) SC.2.2.length c, .int .i64 0, .int .i64 0, .int .i64 0]
  replace rr : Row (w1.alloc (.cells #[.slice (some ⟨gt, 0, none⟩) SC.2.2.length c, .int .i64 0, .int .i64 0, .int .i64 0] 69)) _ _ _ := rr
  have hz2 : (w1.alloc (.cells #[.slice (some ⟨gt, 0, none⟩) SC.2.2.length c, .int .i64 0, .int .i64 0, .int .i64 0] 69)).heap.size = w1.heap.size + 1 := World.size_alloc _ _
  have hrt2 := hrt.below hbr
  have r2 := r1.below hbr
  have hf2 := hf1.trans (hbr.mono (by omega))
  generalize w1.alloc (.cells #[.slice (some ⟨gt, 0, none⟩) SC.2.2.length c, .int .i64 0, .int .i64 0, .int .i64 0] 69) = w2 at *
  have hbp := below_alloc w2 (.cells #[.string ByteArray.empty, .int .i64 0, .int .i64 0, .int .i64 0, .slice none 0 0] 24)
  have rp := Row.new w2 24 [.string ByteArray.empty, .int .i64 0, .int .i64 0, .int .i64 0, .slice none 0 0]
  replace rp : Row (w2.alloc (.cells #[.string ByteArray.empty, .int .i64 0, .int .i64 0, .int .i64 0, .slice none 0 0] 24)) _ _ _ := rp
  have hz3 : (w2.alloc (.cells #[.string ByteArray.empty, .int .i64 0, .int .i64 0, .int .i64 0, .slice none 0 0] 24)).heap.size = w2.heap.size + 1 := World.size_alloc _ _
  have hrt3 := hrt2.below hbp
  have r3 := r2.below hbp
  have rr3 := rr.below hbp
  have hf3 := hf2.trans (hbp.mono (by omega))
  generalize w2.alloc (.cells #[.string ByteArray.empty, .int .i64 0, .int .i64 0, .int .i64 0, .slice none 0 0] 24) = w3 at *
  rw [hz2] at rp
  generalize hT : SC.2.2 = T at *
  have hRd : RrIn w3 w1.heap.size (some ⟨gt, 0, none⟩) c T ⟨T, 0, 0⟩ :=
    ⟨0, rfl, t1, by omega, hrt3.arr (fun _ => rfl), fun b o h => by injection h with h; injection h with h; omega, rr3, fun t ht => by have := t3 t ht; omega⟩
  have hgt3 : gt ≠ w1.heap.size := by omega
  refine (rnext_any 1 ⟨#[100, 101, 99, 107]⟩ hRd).mono ?_
  rintro e w4 ⟨rfl, g4, k4⟩
  refine ⟨_, rfl, ?_⟩
  rw [show bs ⟨#[100, 101, 99, 107]⟩ = asc "deck" by kernel_rfl] at g4
  have rp4 := rp.kept k4 (by simp)
  try simp +contextual (maxSteps := 2000000) (disch := (first | omega | (simp only [SZ]; done) | (simp only [SZ]; omega) | (simp only [TS] at *; omega))) only [RZ, gval, gslot, fillL, ovw, numb, catL, ldN, agL, okC, oneC, init, Nat.reduceAdd, Nat.reduceMul, Nat.reduceSub, Nat.reduceEqDiff, Nat.reduceLT, ↓reduceIte, Int.reduceToNat, Int.reduceAdd, Int.reduceSub, Int.reduceMul, Int.reduceLT, Int.reduceLE, Int.reduceEq, Nat.reduceLeDiff]
  refine (rnext_any 1 ⟨#[]⟩ g4).mono ?_
  rintro e w5 ⟨rfl, g5, k5⟩
  refine ⟨_, rfl, ?_⟩
  rw [bs_nil] at g5 ⊢
  have rp5 := rp4.kept k5 (by simp)
  have p0 := rp5.cell (i := 0) rfl
  have z0 := rp5.frozen 0
  simp +contextual (maxSteps := 2000000) (disch := (first | omega | (simp only [SZ]; done) | (simp only [SZ]; omega) | (simp only [TS] at *; omega))) only [RZ, gval, gslot, fillL, ovw, numb, catL, ldN, agL, okC, oneC, init, Nat.reduceAdd, Nat.reduceMul, Nat.reduceSub, Nat.reduceEqDiff, Nat.reduceLT, ↓reduceIte, Int.reduceToNat, Int.reduceAdd, Int.reduceSub, Int.reduceMul, Int.reduceLT, Int.reduceLE, Int.reduceEq, Nat.reduceLeDiff,  p0, z0]
  have hx0 := rp5.set_ (i := 0) (by simp) (.string (((Rd.next 1 (asc "deck") ⟨T, 0, 0⟩).2.next 1 []).1))
  have kx0 := (Kept.refl [w1.heap.size + 1] w5).setCell (p := ⟨w1.heap.size + 1, 0, none⟩) (by simp) (.string (((Rd.next 1 (asc "deck") ⟨T, 0, 0⟩).2.next 1 []).1))
  have g6 := g5.kept kx0 (by simp) (fun b o h => by injection h with h; injection h with h; simp; omega)
  have kB6 : KeptB (w1.heap.size + 2) [w1.heap.size, w1.heap.size + 1] w3 (w5.setCell ⟨w1.heap.size + 1, 0, none⟩ (.string (((Rd.next 1 (asc "deck") ⟨T, 0, 0⟩).2.next 1 []).1))) :=
    (KeptB.of_kept (k4.trans k5) (by omega) fun x hx _ => by simp at hx ⊢; omega).trans (KeptB.of_kept kx0 (by have := k4.size; have := k5.size; omega) fun x hx _ => by simp at hx ⊢; omega)
  generalize w5.setCell ⟨w1.heap.size + 1, 0, none⟩ (.string (((Rd.next 1 (asc "deck") ⟨T, 0, 0⟩).2.next 1 []).1)) = w6 at *
  replace hx0 : Row w6 (w1.heap.size + 1) 24 [.string (((Rd.next 1 (asc "deck") ⟨T, 0, 0⟩).2.next 1 []).1), .int .i64 0, .int .i64 0, .int .i64 0, .slice none 0 0] := hx0
  refine (rnext_any 3 ⟨#[123]⟩ g6).mono ?_
  rintro e w7 ⟨rfl, g7, k7⟩
  refine ⟨_, rfl, ?_⟩
  rw [show bs ⟨#[123]⟩ = asc "{" by kernel_rfl] at g7
  have rp7 := hx0.kept k7 (by simp)
  have kB7 := kB6.trans (KeptB.of_kept k7 (by have := kB6.size; omega) fun x hx _ => by simp at hx ⊢; omega)
  have hRP : rparseT T = ((Rd.items T.length { noPl with name := ((Rd.next 1 (asc "deck") ⟨T, 0, 0⟩).2.next 1 []).1 } false false (((Rd.next 1 (asc "deck") ⟨T, 0, 0⟩).2.next 1 []).2.next 3 (asc "{")).2).1,
    (((Rd.items T.length { noPl with name := ((Rd.next 1 (asc "deck") ⟨T, 0, 0⟩).2.next 1 []).1 } false false (((Rd.next 1 (asc "deck") ⟨T, 0, 0⟩).2.next 1 []).2.next 3 (asc "{")).2).2.next 3 (asc "}")).2.next 0 []).2) := rfl
  generalize (((Rd.next 1 (asc "deck") ⟨T, 0, 0⟩).2.next 1 []).2.next 3 (asc "{")).2 = r7 at *
  generalize hn0 : ({ noPl with name := ((Rd.next 1 (asc "deck") ⟨T, 0, 0⟩).2.next 1 []).1 } : Pl) = p7 at *
  have hPl : PlIn w7 (w1.heap.size + 1) (w1.heap.size + 2) p7 := ⟨none, 0, by rw [← hn0]; exact rp7, by rw [← hn0]; exact owns_nil _ _ _ _⟩
  have hl7 : p7.levels.length = 0 := by rw [← hn0]; rfl
  generalize hFN : Rd.items T.length p7 false false r7 = FN at *
  rw [hRP] at hR
  have hz7 := kB7.size
  clear g4 g5 g6 kB6 hx0 rp4 rp5 rp7 p0 z0 k4 k5 kx0 hRP hn0
  generalize hgg : w1.heap.size = g at *
  try simp +contextual (maxSteps := 2000000) (disch := (first | omega | (simp only [SZ]; done) | (simp only [SZ]; omega) | (simp only [TS] at *; omega))) only [RZ, gval, gslot, fillL, ovw, numb, catL, ldN, agL, okC, oneC, init, Nat.reduceAdd, Nat.reduceMul, Nat.reduceSub, Nat.reduceEqDiff, Nat.reduceLT, ↓reduceIte, Int.reduceToNat, Int.reduceAdd, Int.reduceSub, Int.reduceMul, Int.reduceLT, Int.reduceLE, Int.reduceEq, Nat.reduceLeDiff]
  refine Raw_mono (Q := fun e σ w' => e = .exit 0 ∧ RrIn w' g (some ⟨gt, 0, none⟩) c T FN.2 ∧ PlIn w' (g + 1) (g + 2) FN.1 ∧ FN.1.levels.length ≤ T.length ∧ KeptB (g + 2) [g, g + 1] w3 w' ∧ σ 2 = .pointer (some ⟨w.heap.size, 0, none⟩) ∧ σ 10 = .pointer (some ⟨g, 0, none⟩) ∧ σ 11 = .pointer (some ⟨g + 1, 0, none⟩)) ?_ ?_
  · rintro _ σ w8 ⟨rfl, hr8, hp8, hlv, kB8, f2, f10, f11⟩
    try simp +contextual (maxSteps := 2000000) (disch := (first | omega | (simp only [SZ]; done) | (simp only [SZ]; omega) | (simp only [TS] at *; omega))) only [RZ, gval, gslot, fillL, ovw, numb, catL, ldN, agL, okC, oneC, init, Nat.reduceAdd, Nat.reduceMul, Nat.reduceSub, Nat.reduceEqDiff, Nat.reduceLT, ↓reduceIte, Int.reduceToNat, Int.reduceAdd, Int.reduceSub, Int.reduceMul, Int.reduceLT, Int.reduceLE, Int.reduceEq, Nat.reduceLeDiff,  f2, f10, f11]
    refine (rnext_any 3 ⟨#[125]⟩ hr8).mono ?_
    rintro e w9 ⟨rfl, g9, k9⟩
    refine ⟨_, rfl, ?_⟩
    rw [show bs ⟨#[125]⟩ = asc "}" by kernel_rfl] at g9
    have p9 := hp8.kept k9 (by simp) (fun x hx _ => by simp at hx; omega)
    have kB9 := kB8.trans (KeptB.of_kept k9 (by have := kB8.size; omega) fun x hx _ => by simp at hx ⊢; omega)
    try simp +contextual (maxSteps := 2000000) (disch := (first | omega | (simp only [SZ]; done) | (simp only [SZ]; omega) | (simp only [TS] at *; omega))) only [RZ, gval, gslot, fillL, ovw, numb, catL, ldN, agL, okC, oneC, init, Nat.reduceAdd, Nat.reduceMul, Nat.reduceSub, Nat.reduceEqDiff, Nat.reduceLT, ↓reduceIte, Int.reduceToNat, Int.reduceAdd, Int.reduceSub, Int.reduceMul, Int.reduceLT, Int.reduceLE, Int.reduceEq, Nat.reduceLeDiff,  f2, f10, f11]
    refine (rnext_any 0 ⟨#[]⟩ g9).mono ?_
    rintro e wA ⟨rfl, gA, kA⟩
    refine ⟨_, rfl, ?_⟩
    rw [bs_nil] at gA
    have pA := p9.kept kA (by simp) (fun x hx _ => by simp at hx; omega)
    have kBA := kB9.trans (KeptB.of_kept kA (by have := kB9.size; omega) fun x hx _ => by simp at hx ⊢; omega)
    dsimp only at hR
    generalize ((FN.2.next 3 (asc "}")).2.next 0 []).2 = rF at *
    obtain ⟨a, i1, i2, i3, i4, i5, i6, i7⟩ := id gA
    have c2 := i6.cell (i := 2) rfl
    have c3 := i6.cell (i := 3) rfl
    have hzA := kBA.size
    have r4 := r3.keptB kBA (by omega) (by simp; omega)
    have hf4 : Below w.heap.size w wA := hf3.trans ⟨kBA.os, kBA.tape, kBA.output, kBA.size, fun k hk => kBA.block k (by omega) (by simp; omega)⟩
    have rc0 := r4.cell (i := 0) rfl
    have rz0 := r4.frozen 0
    have rc1 := r4.cell (i := 1) rfl
    have rz1 := r4.frozen 1
    have rc2 := r4.cell (i := 2) rfl
    have rz2 := r4.frozen 2
    have rc3 := r4.cell (i := 3) rfl
    have rz3 := r4.frozen 3
    have rc4 := r4.cell (i := 4) rfl
    have rz4 := r4.frozen 4
    by_cases he : rF.err = 0
    · have e1 : (rF.err = 0) = True := eq_true he
      rw [if_neg (fun h => h he)] at hR
      subst hR
      obtain ⟨AL, cL, q1, q2⟩ := id pA
      have p0 := q1.cell (i := 0) rfl
      have p1 := q1.cell (i := 1) rfl
      have p2 := q1.cell (i := 2) rfl
      have p3 := q1.cell (i := 3) rfl
      have p4 := q1.cell (i := 4) rfl
      generalize FN.1 = q at *
      simp +contextual (maxSteps := 2000000) (disch := (first | omega | (simp only [SZ]; done) | (simp only [SZ]; omega) | (simp only [TS] at *; omega))) only [RZ, gval, gslot, fillL, ovw, numb, catL, ldN, agL, okC, oneC, init, Nat.reduceAdd, Nat.reduceMul, Nat.reduceSub, Nat.reduceEqDiff, Nat.reduceLT, ↓reduceIte, Int.reduceToNat, Int.reduceAdd, Int.reduceSub, Int.reduceMul, Int.reduceLT, Int.reduceLE, Int.reduceEq, Nat.reduceLeDiff,  f2, f10, f11, c2, e1]
      refine W_if_f rfl ?_
      simp +contextual (maxSteps := 2000000) (disch := (first | omega | (simp only [SZ]; done) | (simp only [SZ]; omega) | (simp only [TS] at *; omega))) only [RZ, gval, gslot, fillL, ovw, numb, catL, ldN, agL, okC, oneC, init, Nat.reduceAdd, Nat.reduceMul, Nat.reduceSub, Nat.reduceEqDiff, Nat.reduceLT, ↓reduceIte, Int.reduceToNat, Int.reduceAdd, Int.reduceSub, Int.reduceMul, Int.reduceLT, Int.reduceLE, Int.reduceEq, Nat.reduceLeDiff,  f2, f10, f11, p0, p1, p2, p3, p4, rc0, rc1, rc2, rc3, rc4, rz0, rz1, rz2, rz3, rz4]
      have hbf := (((((hf4.setCell (p := ⟨w.heap.size, 0, none⟩) (Nat.le_refl _) (.string q.name)).setCell (p := ⟨w.heap.size, 1, none⟩) (Nat.le_refl _) (.int .i64 q.price)).setCell (p := ⟨w.heap.size, 2, none⟩) (Nat.le_refl _) (.int .i64 q.packs)).setCell (p := ⟨w.heap.size, 3, none⟩) (Nat.le_refl _) (.int .i64 q.size)).setCell (p := ⟨w.heap.size, 4, none⟩) (Nat.le_refl _) (.slice AL q.levels.length cL))
      have hkf := ((((((Kept.refl [w.heap.size] wA).setCell (p := ⟨w.heap.size, 0, none⟩) (by simp) (.string q.name)).setCell (p := ⟨w.heap.size, 1, none⟩) (by simp) (.int .i64 q.price)).setCell (p := ⟨w.heap.size, 2, none⟩) (by simp) (.int .i64 q.packs)).setCell (p := ⟨w.heap.size, 3, none⟩) (by simp) (.int .i64 q.size)).setCell (p := ⟨w.heap.size, 4, none⟩) (by simp) (.slice AL q.levels.length cL))
      refine ⟨hbf, AL, cL, rfl, ?_, fun b o h => ?_⟩
      · by_cases hn : 0 < q.levels.length
        · obtain ⟨g, rfl, h2, h3, _, _⟩ := owns_row q2 hn
          exact (h3.kept hkf (by simp; omega)).arr (fun _ => rfl)
        · exact fun h => absurd h (by rw [List.length_map]; exact hn)
      · by_cases hn : 0 < q.levels.length
        · obtain ⟨g, e1, h2, _, _, _⟩ := owns_row q2 hn
          rw [h] at e1
          injection e1 with e1
          injection e1 with e1
          omega
        · rcases q2.2 with ⟨hv, _⟩ | ⟨g, cap, cur, hv, hbg, _⟩
          · rw [h] at hv
            cases hv
          · rw [h] at hv
            injection hv with hv
            injection hv with hv
            injection hv with hv
            omega
    · have e1 : (rF.err = 0) = False := eq_false he
      rw [if_pos he] at hR
      subst hR
      simp +contextual (maxSteps := 2000000) (disch := (first | omega | (simp only [SZ]; done) | (simp only [SZ]; omega) | (simp only [TS] at *; omega))) only [RZ, gval, gslot, fillL, ovw, numb, catL, ldN, agL, okC, oneC, init, Nat.reduceAdd, Nat.reduceMul, Nat.reduceSub, Nat.reduceEqDiff, Nat.reduceLT, ↓reduceIte, Int.reduceToNat, Int.reduceAdd, Int.reduceSub, Int.reduceMul, Int.reduceLT, Int.reduceLE, Int.reduceEq, Nat.reduceLeDiff,  f2, f10, f11, c2, e1]
      refine W_if_t rfl ?_
      simp +contextual (maxSteps := 2000000) (disch := (first | omega | (simp only [SZ]; done) | (simp only [SZ]; omega) | (simp only [TS] at *; omega))) only [RZ, gval, gslot, fillL, ovw, numb, catL, ldN, agL, okC, oneC, init, Nat.reduceAdd, Nat.reduceMul, Nat.reduceSub, Nat.reduceEqDiff, Nat.reduceLT, ↓reduceIte, Int.reduceToNat, Int.reduceAdd, Int.reduceSub, Int.reduceMul, Int.reduceLT, Int.reduceLE, Int.reduceEq, Nat.reduceLeDiff,  f2, f10, f11]
      have hne : g ≠ w.heap.size := by omega
      refine Raw_rcS (τ := ?te) (fun w' => w'.cell? ⟨g, 2, none⟩ = some (.int .i64 rF.err) ∧ w'.cell? ⟨g, 3, none⟩ = some (.int .i64 rF.line)) [0, 1, 2, 3, 4, 5, 6, 7, 8] [9, 10, 11] MX rfl (by kernel_rfl) (by kernel_rfl) (by kernel_rfl) (fun _ _ _ h => h) ⟨c2, c3⟩ (fun w8 h8 => ?_) ?_; rotate_left
      · simp only [opsL_cons, opsL_nil, List.getElem?_toArray, List.getElem?_cons_zero, List.getElem?_cons_succ, optL_some]
        simp +contextual (maxSteps := 2000000) (disch := (first | omega | (simp only [SZ]; done) | (simp only [SZ]; omega) | (simp only [TS] at *; omega))) only [RZ, gval, gslot, fillL, ovw, numb, catL, ldN, agL, okC, oneC, init, Nat.reduceAdd, Nat.reduceMul, Nat.reduceSub, Nat.reduceEqDiff, Nat.reduceLT, ↓reduceIte, Int.reduceToNat, Int.reduceAdd, Int.reduceSub, Int.reduceMul, Int.reduceLT, Int.reduceLE, Int.reduceEq, Nat.reduceLeDiff,  f2, f10, f11, h8.1, h8.2]
        exact rfl
      simp only [opsL_cons, opsL_nil, List.getElem?_toArray, List.getElem?_cons_zero, List.getElem?_cons_succ, optL_some]
      replace hf4 : Below w.heap.size w wA.drew := hf4.trans ⟨rfl, rfl, rfl, Nat.le_refl _, fun _ _ => rfl⟩
      replace rc0 : wA.drew.cell? _ = _ := rc0
      replace rc1 : wA.drew.cell? _ = _ := rc1
      replace rc2 : wA.drew.cell? _ = _ := rc2
      replace rc3 : wA.drew.cell? _ = _ := rc3
      replace rc4 : wA.drew.cell? _ = _ := rc4
      replace rz0 : wA.drew.frozen? _ = _ := rz0
      replace rz1 : wA.drew.frozen? _ = _ := rz1
      replace rz2 : wA.drew.frozen? _ = _ := rz2
      replace rz3 : wA.drew.frozen? _ = _ := rz3
      replace rz4 : wA.drew.frozen? _ = _ := rz4
      replace c2 : wA.drew.cell? _ = _ := c2
      replace c3 : wA.drew.cell? _ = _ := c3
      generalize wA.drew = wB at *
      simp +contextual (maxSteps := 2000000) (disch := (first | omega | (simp only [SZ]; done) | (simp only [SZ]; omega) | (simp only [TS] at *; omega))) only [RZ, gval, gslot, fillL, ovw, numb, catL, ldN, agL, okC, oneC, init, Nat.reduceAdd, Nat.reduceMul, Nat.reduceSub, Nat.reduceEqDiff, Nat.reduceLT, ↓reduceIte, Int.reduceToNat, Int.reduceAdd, Int.reduceSub, Int.reduceMul, Int.reduceLT, Int.reduceLE, Int.reduceEq, Nat.reduceLeDiff,  EC_op, EC_nil, f2, f10, f11, rc0, rc1, rc2, rc3, rc4, rz0, rz1, rz2, rz3, rz4, c2, c3]
      exact ⟨(((((hf4.setCell (p := ⟨w.heap.size, 0, none⟩) (Nat.le_refl _) (.string ByteArray.empty)).setCell (p := ⟨w.heap.size, 1, none⟩) (Nat.le_refl _) (.int .i64 0)).setCell (p := ⟨w.heap.size, 2, none⟩) (Nat.le_refl _) (.int .i64 0)).setCell (p := ⟨w.heap.size, 3, none⟩) (Nat.le_refl _) (.int .i64 0)).setCell (p := ⟨w.heap.size, 4, none⟩) (Nat.le_refl _) (.slice none 0 0)), none, 0, rfl, fun h => absurd h (by simp [noPl]), fun b o h => by cases h⟩
  refine Raw_loop (fun σ w' => ∃ (i : Nat) (p : Pl) (pr pa : Bool) (r : Rd), i ≤ T.length ∧ Rd.items (T.length - i) p pr pa r = FN ∧ RrIn w' g (some ⟨gt, 0, none⟩) c T r ∧ PlIn w' (g + 1) (g + 2) p ∧ p.levels.length ≤ i ∧ KeptB (g + 2) [g, g + 1] w3 w' ∧
    σ 2 = .pointer (some ⟨w.heap.size, 0, none⟩) ∧ σ 5 = .slice (some ⟨gt, 0, none⟩) T.length c ∧ σ 10 = .pointer (some ⟨g, 0, none⟩) ∧ σ 11 = .pointer (some ⟨g + 1, 0, none⟩) ∧ σ 12 = .bool pr ∧ σ 13 = .bool pa ∧ σ 14 = .int .i64 i) (fun σ _ => T.length - (intOf (σ 14)).toNat) ?_ ?_
  · simp +contextual (maxSteps := 2000000) (disch := (first | omega | (simp only [SZ]; done) | (simp only [SZ]; omega) | (simp only [TS] at *; omega))) only [RZ, gval, gslot, fillL, ovw, numb, catL, ldN, agL, okC, oneC, init, Nat.reduceAdd, Nat.reduceMul, Nat.reduceSub, Nat.reduceEqDiff, Nat.reduceLT, ↓reduceIte, Int.reduceToNat, Int.reduceAdd, Int.reduceSub, Int.reduceMul, Int.reduceLT, Int.reduceLE, Int.reduceEq, Nat.reduceLeDiff]
    exact ⟨0, p7, false, false, r7, Nat.zero_le _, hFN, g7, hPl, by omega, kB7, rfl, rfl, rfl⟩
  rintro σ w8 ⟨i, p, pr, pa, r, hi, hit, hr8, hp8, hlv, kB8, f2, f5, f10, f11, f12, f13, f14⟩ K hK
  simp +contextual (maxSteps := 2000000) (disch := (first | omega | (simp only [SZ]; done) | (simp only [SZ]; omega) | (simp only [TS] at *; omega))) only [RZ, gval, gslot, fillL, ovw, numb, catL, ldN, agL, okC, oneC, init, Nat.reduceAdd, Nat.reduceMul, Nat.reduceSub, Nat.reduceEqDiff, Nat.reduceLT, ↓reduceIte, Int.reduceToNat, Int.reduceAdd, Int.reduceSub, Int.reduceMul, Int.reduceLT, Int.reduceLE, Int.reduceEq, Nat.reduceLeDiff,  f2, f5, f10, f11, f12, f13, f14]
  have hgt8 : gt < g := by omega
  have hAg : ∀ b o, (some ⟨gt, 0, none⟩ : Option Addr) = some ⟨b, o, none⟩ → b ∉ [g + 1] := fun b o h => by injection h with h; injection h with h; simp; omega
  obtain ⟨a, i1, i2, i3, i4, i5, i6, i7⟩ := id hr8
  obtain ⟨t, ht⟩ : ∃ t, T[a]? = some t := ⟨_, List.getElem?_eq_getElem i2⟩
  have hd := drop_hd ht
  have hcell : ∀ (j : Nat) (u : Value), (encTk t)[j]? = some u → w8.cell? ⟨gt, 0 + a * 4 + j, none⟩ = some u := by
    obtain ⟨b', o', he', hb', hc'⟩ := i4.at_ ht
    cases he'
    exact hc'
  have l0 : w8.drew.cell? _ = _ := hcell 0 _ rfl
  rw [Nat.add_zero, Nat.zero_add] at l0
  have l3 : w8.drew.cell? _ = _ := hcell 3 _ rfl
  rw [Nat.zero_add] at l3
  have c0 : w8.drew.cell? _ = _ := i6.cell (i := 0) rfl
  have c1 : w8.drew.cell? _ = _ := i6.cell (i := 1) rfl
  have c2 : w8.drew.cell? _ = _ := i6.cell (i := 2) rfl
  have hbd : Below w8.heap.size w8 w8.drew := ⟨rfl, rfl, rfl, Nat.le_refl _, fun _ _ => rfl⟩
  have hkd : Kept [] w8 w8.drew := (Kept.refl _ _).drew
  have hr8 := hr8.below hbd
  have hp8 := hp8.kept hkd (by simp) (by simp)
  have kB8 := kB8.trans (KeptB.of_below (X := [g, g + 1]) (B := g + 2) (hbd.mono (by have := kB8.size; omega)))
  refine Raw_still MX (by kernel_rfl) ?_
  generalize w8.drew = w9 at *
  by_cases hil : i < T.length
  · have e1 : decide ((i : Int) < T.length) = true := decide_eq_true (by omega)
    obtain ⟨n, hn⟩ : ∃ n, T.length - i = n + 1 := ⟨T.length - i - 1, by omega⟩
    rw [hn] at hit
    unfold Rd.items at hit
    by_cases he : r.err = 0
    · have e2 : decide (r.err = 0) = true := decide_eq_true he
      by_cases hcl : t.kind = 3 ∧ bs t.text = asc "}"
      · rw [if_pos (.inr (by rw [i1, hd]; exact hcl))] at hit
        have e3 : decide (t.kind = 3) = true := decide_eq_true hcl.1
        have e4 : decide (t.text = (⟨#[125]⟩ : ByteArray)) = true := decide_eq_true (bs_inj (by rw [hcl.2]; kernel_rfl))
        simp +contextual (maxSteps := 2000000) (disch := (first | omega | (simp only [SZ]; done) | (simp only [SZ]; omega) | (simp only [TS] at *; omega))) only [RZ, gval, gslot, fillL, ovw, numb, catL, ldN, agL, okC, oneC, init, Nat.reduceAdd, Nat.reduceMul, Nat.reduceSub, Nat.reduceEqDiff, Nat.reduceLT, ↓reduceIte, Int.reduceToNat, Int.reduceAdd, Int.reduceSub, Int.reduceMul, Int.reduceLT, Int.reduceLE, Int.reduceEq, Nat.reduceLeDiff,  f2, f5, f10, f11, f12, f13, f14, c0, c1, c2, l0, l3, e1, e2, e3, e4]
        refine W_if_f rfl ?_
        simp +contextual (maxSteps := 2000000) (disch := (first | omega | (simp only [SZ]; done) | (simp only [SZ]; omega) | (simp only [TS] at *; omega))) only [RZ, gval, gslot, fillL, ovw, numb, catL, ldN, agL, okC, oneC, init, Nat.reduceAdd, Nat.reduceMul, Nat.reduceSub, Nat.reduceEqDiff, Nat.reduceLT, ↓reduceIte, Int.reduceToNat, Int.reduceAdd, Int.reduceSub, Int.reduceMul, Int.reduceLT, Int.reduceLE, Int.reduceEq, Nat.reduceLeDiff,  f2, f5, f10, f11, f12, f13, f14]
        subst hit
        exact ⟨hr8, hp8, Nat.le_trans hlv hi, kB8⟩
      · rw [if_neg (by rw [i1, hd]; exact fun h => h.elim (fun h => h he) hcl)] at hit
        have e34 : (decide (t.kind = 3) && decide (t.text = (⟨#[125]⟩ : ByteArray))) = false := by
          rw [Bool.and_eq_false_iff]
          by_cases h3 : t.kind = 3
          · exact .inr (decide_eq_false fun h => hcl ⟨h3, by rw [h]; kernel_rfl⟩)
          · exact .inl (decide_eq_false h3)
        simp +contextual (maxSteps := 2000000) (disch := (first | omega | (simp only [SZ]; done) | (simp only [SZ]; omega) | (simp only [TS] at *; omega))) only [RZ, gval, gslot, fillL, ovw, numb, catL, ldN, agL, okC, oneC, init, Nat.reduceAdd, Nat.reduceMul, Nat.reduceSub, Nat.reduceEqDiff, Nat.reduceLT, ↓reduceIte, Int.reduceToNat, Int.reduceAdd, Int.reduceSub, Int.reduceMul, Int.reduceLT, Int.reduceLE, Int.reduceEq, Nat.reduceLeDiff,  f2, f5, f10, f11, f12, f13, f14, c0, c1, c2, l0, l3, e1, e2]
        simp +contextual (maxSteps := 2000000) (disch := (first | omega | (simp only [SZ]; done) | (simp only [SZ]; omega) | (simp only [TS] at *; omega))) only [RZ, gval, gslot, fillL, ovw, numb, catL, ldN, agL, okC, oneC, init, Nat.reduceAdd, Nat.reduceMul, Nat.reduceSub, Nat.reduceEqDiff, Nat.reduceLT, ↓reduceIte, Int.reduceToNat, Int.reduceAdd, Int.reduceSub, Int.reduceMul, Int.reduceLT, Int.reduceLE, Int.reduceEq, Nat.reduceLeDiff,  e34]
        refine W_if_t rfl ?_
        simp +contextual (maxSteps := 2000000) (disch := (first | omega | (simp only [SZ]; done) | (simp only [SZ]; omega) | (simp only [TS] at *; omega))) only [RZ, gval, gslot, fillL, ovw, numb, catL, ldN, agL, okC, oneC, init, Nat.reduceAdd, Nat.reduceMul, Nat.reduceSub, Nat.reduceEqDiff, Nat.reduceLT, ↓reduceIte, Int.reduceToNat, Int.reduceAdd, Int.reduceSub, Int.reduceMul, Int.reduceLT, Int.reduceLE, Int.reduceEq, Nat.reduceLeDiff,  f2, f5, f10, f11, f12, f13, f14]
        obtain rfl : n = T.length - (i + 1) := by omega
        refine (ris_any ⟨#[112, 114, 105, 99, 101]⟩ hr8).mono ?_
        rintro e wA ⟨rfl, bA⟩
        refine ⟨_, rfl, ?_⟩
        rw [show bs ⟨#[112, 114, 105, 99, 101]⟩ = asc "price" by kernel_rfl]
        have gA := hr8.below bA
        have kA : Kept [] w9 wA := Kept.of_below bA
        have pA := hp8.kept kA (by simp) (by simp)
        have kBA := kB8.trans (KeptB.of_kept kA (by have := kB8.size; omega) fun x hx _ => by simp at hx)
        unfold Rd.item at hit
        cases h1 : r.is (asc "price") with
        | true =>
          rw [if_pos h1] at hit
          dsimp only at hit
          try simp +contextual (maxSteps := 2000000) (disch := (first | omega | (simp only [SZ]; done) | (simp only [SZ]; omega) | (simp only [TS] at *; omega))) only [RZ, gval, gslot, fillL, ovw, numb, catL, ldN, agL, okC, oneC, init, Nat.reduceAdd, Nat.reduceMul, Nat.reduceSub, Nat.reduceEqDiff, Nat.reduceLT, ↓reduceIte, Int.reduceToNat, Int.reduceAdd, Int.reduceSub, Int.reduceMul, Int.reduceLT, Int.reduceLE, Int.reduceEq, Nat.reduceLeDiff]
          refine W_if_t rfl ?_
          simp +contextual (maxSteps := 2000000) (disch := (first | omega | (simp only [SZ]; done) | (simp only [SZ]; omega) | (simp only [TS] at *; omega))) only [RZ, gval, gslot, fillL, ovw, numb, catL, ldN, agL, okC, oneC, init, Nat.reduceAdd, Nat.reduceMul, Nat.reduceSub, Nat.reduceEqDiff, Nat.reduceLT, ↓reduceIte, Int.reduceToNat, Int.reduceAdd, Int.reduceSub, Int.reduceMul, Int.reduceLT, Int.reduceLE, Int.reduceEq, Nat.reduceLeDiff,  f2, f5, f10, f11, f12, f13, f14]
          refine (ronce_any ⟨#[112, 114, 105, 99, 101]⟩ pr gA).mono ?_
          rintro e wB ⟨⟨v, rfl⟩, gB, kB⟩
          refine ⟨_, rfl, ?_⟩
          rw [show bs ⟨#[112, 114, 105, 99, 101]⟩ = asc "price" by kernel_rfl] at gB
          have pB := pA.kept kB (by simp) (fun x hx _ => by simp at hx; omega)
          have kBB := kBA.trans (KeptB.of_kept kB (by have := kBA.size; omega) fun x hx _ => by simp at hx ⊢; omega)
          try simp +contextual (maxSteps := 2000000) (disch := (first | omega | (simp only [SZ]; done) | (simp only [SZ]; omega) | (simp only [TS] at *; omega))) only [RZ, gval, gslot, fillL, ovw, numb, catL, ldN, agL, okC, oneC, init, Nat.reduceAdd, Nat.reduceMul, Nat.reduceSub, Nat.reduceEqDiff, Nat.reduceLT, ↓reduceIte, Int.reduceToNat, Int.reduceAdd, Int.reduceSub, Int.reduceMul, Int.reduceLT, Int.reduceLE, Int.reduceEq, Nat.reduceLeDiff,  f2, f5, f10, f11, f12, f13, f14]
          refine (rnumber_any gB).mono ?_
          rintro e wC ⟨rfl, gC, kC⟩
          refine ⟨_, rfl, ?_⟩
          have pC := pB.kept kC (by simp) (fun x hx _ => by simp at hx; omega)
          have kBC := kBB.trans (KeptB.of_kept kC (by have := kBB.size; omega) fun x hx _ => by simp at hx ⊢; omega)
          generalize (r.once (asc "price") pr).num = N at *
          obtain ⟨⟨q1, q2, q3⟩, y1, y2, y3⟩ := pC.cells
          simp +contextual (maxSteps := 2000000) (disch := (first | omega | (simp only [SZ]; done) | (simp only [SZ]; omega) | (simp only [TS] at *; omega))) only [RZ, gval, gslot, fillL, ovw, numb, catL, ldN, agL, okC, oneC, init, Nat.reduceAdd, Nat.reduceMul, Nat.reduceSub, Nat.reduceEqDiff, Nat.reduceLT, ↓reduceIte, Int.reduceToNat, Int.reduceAdd, Int.reduceSub, Int.reduceMul, Int.reduceLT, Int.reduceLE, Int.reduceEq, Nat.reduceLeDiff,  f2, f5, f10, f11, f12, f13, f14, q1, y1]
          have pD := pC.put (q := { p with price := N.1 }) (o := 1) (v := .int .i64 N.1) (by omega) rfl (by omega) (fun _ => rfl)
          have kD := (Kept.refl [g + 1] wC).setCell (p := ⟨g + 1, 1, none⟩) (by simp) (.int .i64 N.1)
          have gD := gC.kept kD (by simp) hAg
          have kBD := kBC.trans (KeptB.of_kept kD (by have := kBC.size; omega) fun x hx _ => by simp at hx ⊢; omega)
          generalize wC.setCell ⟨g + 1, 1, none⟩ (.int .i64 N.1) = wD at *
          try simp +contextual (maxSteps := 2000000) (disch := (first | omega | (simp only [SZ]; done) | (simp only [SZ]; omega) | (simp only [TS] at *; omega))) only [RZ, gval, gslot, fillL, ovw, numb, catL, ldN, agL, okC, oneC, init, Nat.reduceAdd, Nat.reduceMul, Nat.reduceSub, Nat.reduceEqDiff, Nat.reduceLT, ↓reduceIte, Int.reduceToNat, Int.reduceAdd, Int.reduceSub, Int.reduceMul, Int.reduceLT, Int.reduceLE, Int.reduceEq, Nat.reduceLeDiff]
          refine (rnext_any 3 ⟨#[59]⟩ gD).mono ?_
          rintro e wE ⟨rfl, gE, kE⟩
          refine ⟨_, rfl, ?_⟩
          rw [show bs ⟨#[59]⟩ = asc ";" by kernel_rfl] at gE
          have pE := pD.kept kE (by simp) (fun x hx _ => by simp at hx; omega)
          have kBE := kBD.trans (KeptB.of_kept kE (by have := (kBD).size; omega) fun x hx _ => by simp at hx ⊢; omega)
          try simp +contextual (maxSteps := 2000000) (disch := (first | omega | (simp only [SZ]; done) | (simp only [SZ]; omega) | (simp only [TS] at *; omega))) only [RZ, gval, gslot, fillL, ovw, numb, catL, ldN, agL, okC, oneC, init, Nat.reduceAdd, Nat.reduceMul, Nat.reduceSub, Nat.reduceEqDiff, Nat.reduceLT, ↓reduceIte, Int.reduceToNat, Int.reduceAdd, Int.reduceSub, Int.reduceMul, Int.reduceLT, Int.reduceLE, Int.reduceEq, Nat.reduceLeDiff,  f2, f5, f10, f11, f12, f13, f14]
          refine hK _ _ ⟨i + 1, _, _, _, _, by omega, hit, gE, pE, (by show p.levels.length ≤ _; omega), kBE, ?_⟩ ?_
          · simp +contextual (maxSteps := 2000000) (disch := (first | omega | (simp only [SZ]; done) | (simp only [SZ]; omega) | (simp only [TS] at *; omega))) only [RZ, gval, gslot, fillL, ovw, numb, catL, ldN, agL, okC, oneC, init, Nat.reduceAdd, Nat.reduceMul, Nat.reduceSub, Nat.reduceEqDiff, Nat.reduceLT, ↓reduceIte, Int.reduceToNat, Int.reduceAdd, Int.reduceSub, Int.reduceMul, Int.reduceLT, Int.reduceLE, Int.reduceEq, Nat.reduceLeDiff,  f2, f5, f10, f11, f12, f13, f14]
          · simp +contextual (maxSteps := 2000000) (disch := (first | omega | (simp only [SZ]; done) | (simp only [SZ]; omega) | (simp only [TS] at *; omega))) only [RZ, gval, gslot, fillL, ovw, numb, catL, ldN, agL, okC, oneC, init, Nat.reduceAdd, Nat.reduceMul, Nat.reduceSub, Nat.reduceEqDiff, Nat.reduceLT, ↓reduceIte, Int.reduceToNat, Int.reduceAdd, Int.reduceSub, Int.reduceMul, Int.reduceLT, Int.reduceLE, Int.reduceEq, Nat.reduceLeDiff,  intOf, f14]
            omega
        | false =>
          rw [if_neg (by rw [h1]; simp)] at hit
          try simp +contextual (maxSteps := 2000000) (disch := (first | omega | (simp only [SZ]; done) | (simp only [SZ]; omega) | (simp only [TS] at *; omega))) only [RZ, gval, gslot, fillL, ovw, numb, catL, ldN, agL, okC, oneC, init, Nat.reduceAdd, Nat.reduceMul, Nat.reduceSub, Nat.reduceEqDiff, Nat.reduceLT, ↓reduceIte, Int.reduceToNat, Int.reduceAdd, Int.reduceSub, Int.reduceMul, Int.reduceLT, Int.reduceLE, Int.reduceEq, Nat.reduceLeDiff]
          refine W_if_f rfl ?_
          simp +contextual (maxSteps := 2000000) (disch := (first | omega | (simp only [SZ]; done) | (simp only [SZ]; omega) | (simp only [TS] at *; omega))) only [RZ, gval, gslot, fillL, ovw, numb, catL, ldN, agL, okC, oneC, init, Nat.reduceAdd, Nat.reduceMul, Nat.reduceSub, Nat.reduceEqDiff, Nat.reduceLT, ↓reduceIte, Int.reduceToNat, Int.reduceAdd, Int.reduceSub, Int.reduceMul, Int.reduceLT, Int.reduceLE, Int.reduceEq, Nat.reduceLeDiff,  f2, f5, f10, f11, f12, f13, f14]
          refine (ris_any ⟨#[112, 97, 99, 107, 115]⟩ gA).mono ?_
          rintro e wB ⟨rfl, bB⟩
          refine ⟨_, rfl, ?_⟩
          rw [show bs ⟨#[112, 97, 99, 107, 115]⟩ = asc "packs" by kernel_rfl]
          have gB := gA.below bB
          have kB : Kept [] wA wB := Kept.of_below bB
          have pB := pA.kept kB (by simp) (by simp)
          have kBB := kBA.trans (KeptB.of_kept kB (by have := kBA.size; omega) fun x hx _ => by simp at hx)
          cases h2 : r.is (asc "packs") with
          | true =>
            rw [if_pos h2] at hit
            dsimp only at hit
            try simp +contextual (maxSteps := 2000000) (disch := (first | omega | (simp only [SZ]; done) | (simp only [SZ]; omega) | (simp only [TS] at *; omega))) only [RZ, gval, gslot, fillL, ovw, numb, catL, ldN, agL, okC, oneC, init, Nat.reduceAdd, Nat.reduceMul, Nat.reduceSub, Nat.reduceEqDiff, Nat.reduceLT, ↓reduceIte, Int.reduceToNat, Int.reduceAdd, Int.reduceSub, Int.reduceMul, Int.reduceLT, Int.reduceLE, Int.reduceEq, Nat.reduceLeDiff]
            refine W_if_t rfl ?_
            simp +contextual (maxSteps := 2000000) (disch := (first | omega | (simp only [SZ]; done) | (simp only [SZ]; omega) | (simp only [TS] at *; omega))) only [RZ, gval, gslot, fillL, ovw, numb, catL, ldN, agL, okC, oneC, init, Nat.reduceAdd, Nat.reduceMul, Nat.reduceSub, Nat.reduceEqDiff, Nat.reduceLT, ↓reduceIte, Int.reduceToNat, Int.reduceAdd, Int.reduceSub, Int.reduceMul, Int.reduceLT, Int.reduceLE, Int.reduceEq, Nat.reduceLeDiff,  f2, f5, f10, f11, f12, f13, f14]
            refine (ronce_any ⟨#[112, 97, 99, 107, 115]⟩ pa gB).mono ?_
            rintro e wC ⟨⟨v, rfl⟩, gC, kC⟩
            refine ⟨_, rfl, ?_⟩
            rw [show bs ⟨#[112, 97, 99, 107, 115]⟩ = asc "packs" by kernel_rfl] at gC
            have pC := pB.kept kC (by simp) (fun x hx _ => by simp at hx; omega)
            have kBC := kBB.trans (KeptB.of_kept kC (by have := kBB.size; omega) fun x hx _ => by simp at hx ⊢; omega)
            try simp +contextual (maxSteps := 2000000) (disch := (first | omega | (simp only [SZ]; done) | (simp only [SZ]; omega) | (simp only [TS] at *; omega))) only [RZ, gval, gslot, fillL, ovw, numb, catL, ldN, agL, okC, oneC, init, Nat.reduceAdd, Nat.reduceMul, Nat.reduceSub, Nat.reduceEqDiff, Nat.reduceLT, ↓reduceIte, Int.reduceToNat, Int.reduceAdd, Int.reduceSub, Int.reduceMul, Int.reduceLT, Int.reduceLE, Int.reduceEq, Nat.reduceLeDiff,  f2, f5, f10, f11, f12, f13, f14]
            refine (rnumber_any gC).mono ?_
            rintro e wD ⟨rfl, gD, kD⟩
            refine ⟨_, rfl, ?_⟩
            have pD := pC.kept kD (by simp) (fun x hx _ => by simp at hx; omega)
            have kBD := kBC.trans (KeptB.of_kept kD (by have := kBC.size; omega) fun x hx _ => by simp at hx ⊢; omega)
            generalize (r.once (asc "packs") pa).num = N at *
            obtain ⟨⟨q1, q2, q3⟩, y1, y2, y3⟩ := pD.cells
            simp +contextual (maxSteps := 2000000) (disch := (first | omega | (simp only [SZ]; done) | (simp only [SZ]; omega) | (simp only [TS] at *; omega))) only [RZ, gval, gslot, fillL, ovw, numb, catL, ldN, agL, okC, oneC, init, Nat.reduceAdd, Nat.reduceMul, Nat.reduceSub, Nat.reduceEqDiff, Nat.reduceLT, ↓reduceIte, Int.reduceToNat, Int.reduceAdd, Int.reduceSub, Int.reduceMul, Int.reduceLT, Int.reduceLE, Int.reduceEq, Nat.reduceLeDiff,  f2, f5, f10, f11, f12, f13, f14, q2, y2]
            have pE := pD.put (q := { p with packs := N.1 }) (o := 2) (v := .int .i64 N.1) (by omega) rfl (by omega) (fun _ => rfl)
            have kE := (Kept.refl [g + 1] wD).setCell (p := ⟨g + 1, 2, none⟩) (by simp) (.int .i64 N.1)
            have gE := gD.kept kE (by simp) hAg
            have kBE := kBD.trans (KeptB.of_kept kE (by have := kBD.size; omega) fun x hx _ => by simp at hx ⊢; omega)
            generalize wD.setCell ⟨g + 1, 2, none⟩ (.int .i64 N.1) = wE at *
            try simp +contextual (maxSteps := 2000000) (disch := (first | omega | (simp only [SZ]; done) | (simp only [SZ]; omega) | (simp only [TS] at *; omega))) only [RZ, gval, gslot, fillL, ovw, numb, catL, ldN, agL, okC, oneC, init, Nat.reduceAdd, Nat.reduceMul, Nat.reduceSub, Nat.reduceEqDiff, Nat.reduceLT, ↓reduceIte, Int.reduceToNat, Int.reduceAdd, Int.reduceSub, Int.reduceMul, Int.reduceLT, Int.reduceLE, Int.reduceEq, Nat.reduceLeDiff]
            refine (rnext_any 1 ⟨#[111, 102]⟩ gE).mono ?_
            rintro e wF ⟨rfl, gF, kF⟩
            refine ⟨_, rfl, ?_⟩
            rw [show bs ⟨#[111, 102]⟩ = asc "of" by kernel_rfl] at gF
            have pF := pE.kept kF (by simp) (fun x hx _ => by simp at hx; omega)
            have kBF := kBE.trans (KeptB.of_kept kF (by have := kBE.size; omega) fun x hx _ => by simp at hx ⊢; omega)
            try simp +contextual (maxSteps := 2000000) (disch := (first | omega | (simp only [SZ]; done) | (simp only [SZ]; omega) | (simp only [TS] at *; omega))) only [RZ, gval, gslot, fillL, ovw, numb, catL, ldN, agL, okC, oneC, init, Nat.reduceAdd, Nat.reduceMul, Nat.reduceSub, Nat.reduceEqDiff, Nat.reduceLT, ↓reduceIte, Int.reduceToNat, Int.reduceAdd, Int.reduceSub, Int.reduceMul, Int.reduceLT, Int.reduceLE, Int.reduceEq, Nat.reduceLeDiff,  f2, f5, f10, f11, f12, f13, f14]
            refine (rnumber_any gF).mono ?_
            rintro e wG ⟨rfl, gG, kG⟩
            refine ⟨_, rfl, ?_⟩
            have pG := pF.kept kG (by simp) (fun x hx _ => by simp at hx; omega)
            have kBG := kBF.trans (KeptB.of_kept kG (by have := kBF.size; omega) fun x hx _ => by simp at hx ⊢; omega)
            generalize (N.2.next 1 (asc "of")).2.num = M at *
            obtain ⟨⟨q1, q2, q3⟩, y1, y2, y3⟩ := pG.cells
            simp +contextual (maxSteps := 2000000) (disch := (first | omega | (simp only [SZ]; done) | (simp only [SZ]; omega) | (simp only [TS] at *; omega))) only [RZ, gval, gslot, fillL, ovw, numb, catL, ldN, agL, okC, oneC, init, Nat.reduceAdd, Nat.reduceMul, Nat.reduceSub, Nat.reduceEqDiff, Nat.reduceLT, ↓reduceIte, Int.reduceToNat, Int.reduceAdd, Int.reduceSub, Int.reduceMul, Int.reduceLT, Int.reduceLE, Int.reduceEq, Nat.reduceLeDiff,  f2, f5, f10, f11, f12, f13, f14, q3, y3]
            have pH := pG.put (q := { p with packs := N.1, size := M.1 }) (o := 3) (v := .int .i64 M.1) (by omega) rfl (by omega) (fun _ => rfl)
            have kH := (Kept.refl [g + 1] wG).setCell (p := ⟨g + 1, 3, none⟩) (by simp) (.int .i64 M.1)
            have gH := gG.kept kH (by simp) hAg
            have kBH := kBG.trans (KeptB.of_kept kH (by have := kBG.size; omega) fun x hx _ => by simp at hx ⊢; omega)
            generalize wG.setCell ⟨g + 1, 3, none⟩ (.int .i64 M.1) = wH at *
            try simp +contextual (maxSteps := 2000000) (disch := (first | omega | (simp only [SZ]; done) | (simp only [SZ]; omega) | (simp only [TS] at *; omega))) only [RZ, gval, gslot, fillL, ovw, numb, catL, ldN, agL, okC, oneC, init, Nat.reduceAdd, Nat.reduceMul, Nat.reduceSub, Nat.reduceEqDiff, Nat.reduceLT, ↓reduceIte, Int.reduceToNat, Int.reduceAdd, Int.reduceSub, Int.reduceMul, Int.reduceLT, Int.reduceLE, Int.reduceEq, Nat.reduceLeDiff]
            refine (rnext_any 3 ⟨#[59]⟩ gH).mono ?_
            rintro e wZ ⟨rfl, gZ, kZ⟩
            refine ⟨_, rfl, ?_⟩
            rw [show bs ⟨#[59]⟩ = asc ";" by kernel_rfl] at gZ
            have pZ := pH.kept kZ (by simp) (fun x hx _ => by simp at hx; omega)
            have kBZ := kBH.trans (KeptB.of_kept kZ (by have := (kBH).size; omega) fun x hx _ => by simp at hx ⊢; omega)
            try simp +contextual (maxSteps := 2000000) (disch := (first | omega | (simp only [SZ]; done) | (simp only [SZ]; omega) | (simp only [TS] at *; omega))) only [RZ, gval, gslot, fillL, ovw, numb, catL, ldN, agL, okC, oneC, init, Nat.reduceAdd, Nat.reduceMul, Nat.reduceSub, Nat.reduceEqDiff, Nat.reduceLT, ↓reduceIte, Int.reduceToNat, Int.reduceAdd, Int.reduceSub, Int.reduceMul, Int.reduceLT, Int.reduceLE, Int.reduceEq, Nat.reduceLeDiff,  f2, f5, f10, f11, f12, f13, f14]
            refine hK _ _ ⟨i + 1, _, _, _, _, by omega, hit, gZ, pZ, (by show p.levels.length ≤ _; omega), kBZ, ?_⟩ ?_
            · simp +contextual (maxSteps := 2000000) (disch := (first | omega | (simp only [SZ]; done) | (simp only [SZ]; omega) | (simp only [TS] at *; omega))) only [RZ, gval, gslot, fillL, ovw, numb, catL, ldN, agL, okC, oneC, init, Nat.reduceAdd, Nat.reduceMul, Nat.reduceSub, Nat.reduceEqDiff, Nat.reduceLT, ↓reduceIte, Int.reduceToNat, Int.reduceAdd, Int.reduceSub, Int.reduceMul, Int.reduceLT, Int.reduceLE, Int.reduceEq, Nat.reduceLeDiff,  f2, f5, f10, f11, f12, f13, f14]
            · simp +contextual (maxSteps := 2000000) (disch := (first | omega | (simp only [SZ]; done) | (simp only [SZ]; omega) | (simp only [TS] at *; omega))) only [RZ, gval, gslot, fillL, ovw, numb, catL, ldN, agL, okC, oneC, init, Nat.reduceAdd, Nat.reduceMul, Nat.reduceSub, Nat.reduceEqDiff, Nat.reduceLT, ↓reduceIte, Int.reduceToNat, Int.reduceAdd, Int.reduceSub, Int.reduceMul, Int.reduceLT, Int.reduceLE, Int.reduceEq, Nat.reduceLeDiff,  intOf, f14]
              omega
          | false =>
            rw [if_neg (by rw [h2]; simp)] at hit
            dsimp only at hit
            try simp +contextual (maxSteps := 2000000) (disch := (first | omega | (simp only [SZ]; done) | (simp only [SZ]; omega) | (simp only [TS] at *; omega))) only [RZ, gval, gslot, fillL, ovw, numb, catL, ldN, agL, okC, oneC, init, Nat.reduceAdd, Nat.reduceMul, Nat.reduceSub, Nat.reduceEqDiff, Nat.reduceLT, ↓reduceIte, Int.reduceToNat, Int.reduceAdd, Int.reduceSub, Int.reduceMul, Int.reduceLT, Int.reduceLE, Int.reduceEq, Nat.reduceLeDiff]
            refine W_if_f rfl ?_
            simp +contextual (maxSteps := 2000000) (disch := (first | omega | (simp only [SZ]; done) | (simp only [SZ]; omega) | (simp only [TS] at *; omega))) only [RZ, gval, gslot, fillL, ovw, numb, catL, ldN, agL, okC, oneC, init, Nat.reduceAdd, Nat.reduceMul, Nat.reduceSub, Nat.reduceEqDiff, Nat.reduceLT, ↓reduceIte, Int.reduceToNat, Int.reduceAdd, Int.reduceSub, Int.reduceMul, Int.reduceLT, Int.reduceLE, Int.reduceEq, Nat.reduceLeDiff,  f2, f5, f10, f11, f12, f13, f14]
            have kC := (Kept.refl [] wB).drew
            have gC := gB.kept kC (by simp) (fun b o h => by simp)
            have pC := pB.kept kC (by simp) (by simp)
            have kBC := kBB.trans (KeptB.of_kept kC (by have := kBB.size; omega) fun x hx _ => by simp at hx)
            obtain ⟨AL, cL, q1, q2⟩ := id pC
            refine Raw_ordX [0, 1, 2, 3, 4] (fun w' => w'.cell? ⟨g + 1, 4, none⟩ = some (.slice AL p.levels.length cL)) 8 rfl MX ?_
            generalize wB.drew = wC at *
            have d4 := q1.cell (i := 4) rfl
            refine OrdX_reads (τ := ?ta) [0, 1, 2] 5 rfl (by kernel_rfl) (by kernel_rfl) (fun c σ w (h : Exit.panic c = .exit 0 ∧ _) => Exit.noConfusion h.1) d4 (fun w8 h8 => ?_) ?_; rotate_left
            · simp only [opsL_cons, opsL_nil, List.getElem?_toArray, List.getElem?_cons_zero, List.getElem?_cons_succ, optL_some]
              simp +contextual (maxSteps := 2000000) (disch := (first | omega | (simp only [SZ]; done) | (simp only [SZ]; omega) | (simp only [TS] at *; omega))) only [RZ, gval, gslot, fillL, ovw, numb, catL, ldN, agL, okC, oneC, init, Nat.reduceAdd, Nat.reduceMul, Nat.reduceSub, Nat.reduceEqDiff, Nat.reduceLT, ↓reduceIte, Int.reduceToNat, Int.reduceAdd, Int.reduceSub, Int.reduceMul, Int.reduceLT, Int.reduceLE, Int.reduceEq, Nat.reduceLeDiff,  f2, f5, f10, f11, f12, f13, f14, h8]
              exact rfl
            refine OrdX_one 3 (by kernel_rfl) rfl ?_
            have hzC := kBC.size
            simp +contextual (maxSteps := 2000000) (disch := (first | omega | (simp only [SZ]; done) | (simp only [SZ]; omega) | (simp only [TS] at *; omega))) only [RZ, gval, gslot, fillL, ovw, numb, catL, ldN, agL, okC, oneC, init, Nat.reduceAdd, Nat.reduceMul, Nat.reduceSub, Nat.reduceEqDiff, Nat.reduceLT, ↓reduceIte, Int.reduceToNat, Int.reduceAdd, Int.reduceSub, Int.reduceMul, Int.reduceLT, Int.reduceLE, Int.reduceEq, Nat.reduceLeDiff]
            refine (rprize_any gC (fun b o h => by injection h with h; injection h with h; omega)).mono ?_
            rintro e wD ⟨rfl, gD, kD⟩
            refine ⟨_, rfl, ?_⟩
            have pD := pC.kept kD (by simp) (fun x hx _ => by simp at hx; omega)
            have kBD := kBC.trans (KeptB.of_kept kD (by omega) fun x hx _ => by simp at hx ⊢; omega)
            have hzD := kBD.size
            have q1 := q1.kept kD (by simp)
            have q2 : wD.ownsRow (g + 2) 43 3 (.slice AL p.levels.length cL) p.levels.length (p.levels.flatMap encLvl) := owns_keep q2 fun g' hg' => kD.block g' (owns_ge q2 hg').2 (by have := (owns_ge q2 hg').1; simp; omega)
            have d4 := q1.cell (i := 4) rfl
            have y4 := q1.frozen 4
            refine ⟨d4, ?_⟩
            generalize r.prize = PZ at *
            obtain ⟨v, rP⟩ := PZ
            have hI : sliceI Tryd.prog 22 = some (43, 3, 24) := by kernel_rfl
            obtain ⟨A', c', w7', hap, hown7, hb7, hs7⟩ := push1 (P := Tryd.prog) (T := 22) (ty := 22) (news := encLvl v) q2 (by omega) hI rfl (fun u hu => by simp only [encLvl, List.mem_cons, List.not_mem_nil, or_false] at hu; rcases hu with rfl | rfl | rfl <;> rfl) (by omega) (by decide)
            rw [show (encLvl v).toArray = #[.int .i64 v.prize, .int .i64 v.count, .int .i64 v.pack] from rfl] at hap
            refine OrdX_one 4 (by kernel_rfl) rfl ?_
            have hgP6 := q1.lt
            simp +contextual (maxSteps := 2000000) (disch := (first | omega | (simp only [SZ]; done) | (simp only [SZ]; omega) | (simp only [TS] at *; omega))) only [RZ, gval, gslot, fillL, ovw, numb, catL, ldN, agL, okC, oneC, init, Nat.reduceAdd, Nat.reduceMul, Nat.reduceSub, Nat.reduceEqDiff, Nat.reduceLT, ↓reduceIte, Int.reduceToNat, Int.reduceAdd, Int.reduceSub, Int.reduceMul, Int.reduceLT, Int.reduceLE, Int.reduceEq, Nat.reduceLeDiff]
            refine ⟨d4, ?_⟩
            refine OrdX_chain [5, 6, 7] _ _ _ (by kernel_rfl) (by kernel_rfl) ?_
            simp only [opsL_cons, opsL_nil, List.getElem?_toArray, List.getElem?_cons_zero, List.getElem?_cons_succ, optL_some]
            have d7 := (hb7.cell (p := ⟨g + 1, 4, none⟩) (by show g + 1 < g + 2; omega)).trans d4
            have y7 := ((bcell hb7).2 (g + 1) 4 (by omega)).trans y4
            simp +contextual (maxSteps := 2000000) (disch := (first | omega | (simp only [SZ]; done) | (simp only [SZ]; omega) | (simp only [TS] at *; omega))) only [RZ, gval, gslot, fillL, ovw, numb, catL, ldN, agL, okC, oneC, init, Nat.reduceAdd, Nat.reduceMul, Nat.reduceSub, Nat.reduceEqDiff, Nat.reduceLT, ↓reduceIte, Int.reduceToNat, Int.reduceAdd, Int.reduceSub, Int.reduceMul, Int.reduceLT, Int.reduceLE, Int.reduceEq, Nat.reduceLeDiff,  f2, f5, f10, f11, f12, f13, f14, hap, d7, y7]
            have kBE := kBD.trans (KeptB.of_below hb7)
            have hq7 : Row w7' (g + 1) 24 _ := q1.of_block (hb7.block _ (by omega))
            have gE : RrIn w7' g (some ⟨gt, 0, none⟩) c T rP := by
              obtain ⟨a', j1, j2, j3, j4, j5, j6, j7⟩ := gD
              exact ⟨a', j1, j2, j3, Arr.keptB j4 (KeptB.of_below (X := []) hb7) (fun b o e => by injection e with e; injection e with e; exact ⟨by omega, by simp⟩), j5, j6.of_block (hb7.block _ (by omega)), j7⟩
            have kF := (Kept.refl [g + 1] w7').setCell (p := ⟨g + 1, 4, none⟩) (by simp) (.slice A' (p.levels.length + 1) c')
            have gF := gE.kept kF (by simp) hAg
            have kBF := kBE.trans (KeptB.of_kept kF (by omega) fun x hx _ => by simp at hx ⊢; omega)
            have pF : PlIn (w7'.setCell ⟨g + 1, 4, none⟩ (.slice A' (p.levels.length + 1) c')) (g + 1) (g + 2) { p with levels := p.levels ++ [v] } := by
              refine ⟨A', c', ?_, ?_⟩
              · rw [List.length_append]
                exact hq7.set_ (i := 4) (by simp) (.slice A' (p.levels.length + 1) c')
              · rw [List.length_append, List.flatMap_append, List.flatMap_cons, List.flatMap_nil, List.append_nil]
                exact owns_keep hown7 fun g' hg' => kF.block g' (owns_ge hown7 hg').2 (by have := (owns_ge hown7 hg').1; simp; omega)
            generalize w7'.setCell ⟨g + 1, 4, none⟩ (.slice A' (p.levels.length + 1) c') = wF at *
            try simp +contextual (maxSteps := 2000000) (disch := (first | omega | (simp only [SZ]; done) | (simp only [SZ]; omega) | (simp only [TS] at *; omega))) only [RZ, gval, gslot, fillL, ovw, numb, catL, ldN, agL, okC, oneC, init, Nat.reduceAdd, Nat.reduceMul, Nat.reduceSub, Nat.reduceEqDiff, Nat.reduceLT, ↓reduceIte, Int.reduceToNat, Int.reduceAdd, Int.reduceSub, Int.reduceMul, Int.reduceLT, Int.reduceLE, Int.reduceEq, Nat.reduceLeDiff]
            refine (rnext_any 3 ⟨#[59]⟩ gF).mono ?_
            rintro e wZ ⟨rfl, gZ, kZ⟩
            refine ⟨_, rfl, ?_⟩
            rw [show bs ⟨#[59]⟩ = asc ";" by kernel_rfl] at gZ
            have pZ := pF.kept kZ (by simp) (fun x hx _ => by simp at hx; omega)
            have kBZ := kBF.trans (KeptB.of_kept kZ (by have := kBF.size; omega) fun x hx _ => by simp at hx ⊢; omega)
            try simp +contextual (maxSteps := 2000000) (disch := (first | omega | (simp only [SZ]; done) | (simp only [SZ]; omega) | (simp only [TS] at *; omega))) only [RZ, gval, gslot, fillL, ovw, numb, catL, ldN, agL, okC, oneC, init, Nat.reduceAdd, Nat.reduceMul, Nat.reduceSub, Nat.reduceEqDiff, Nat.reduceLT, ↓reduceIte, Int.reduceToNat, Int.reduceAdd, Int.reduceSub, Int.reduceMul, Int.reduceLT, Int.reduceLE, Int.reduceEq, Nat.reduceLeDiff,  f2, f5, f10, f11, f12, f13, f14]
            refine hK _ _ ⟨i + 1, _, _, _, _, by omega, hit, gZ, pZ, (by show (p.levels ++ [v]).length ≤ _; rw [List.length_append, List.length_singleton]; omega), kBZ, ?_⟩ ?_
            · simp +contextual (maxSteps := 2000000) (disch := (first | omega | (simp only [SZ]; done) | (simp only [SZ]; omega) | (simp only [TS] at *; omega))) only [RZ, gval, gslot, fillL, ovw, numb, catL, ldN, agL, okC, oneC, init, Nat.reduceAdd, Nat.reduceMul, Nat.reduceSub, Nat.reduceEqDiff, Nat.reduceLT, ↓reduceIte, Int.reduceToNat, Int.reduceAdd, Int.reduceSub, Int.reduceMul, Int.reduceLT, Int.reduceLE, Int.reduceEq, Nat.reduceLeDiff,  f2, f5, f10, f11, f12, f13, f14]
            · simp +contextual (maxSteps := 2000000) (disch := (first | omega | (simp only [SZ]; done) | (simp only [SZ]; omega) | (simp only [TS] at *; omega))) only [RZ, gval, gslot, fillL, ovw, numb, catL, ldN, agL, okC, oneC, init, Nat.reduceAdd, Nat.reduceMul, Nat.reduceSub, Nat.reduceEqDiff, Nat.reduceLT, ↓reduceIte, Int.reduceToNat, Int.reduceAdd, Int.reduceSub, Int.reduceMul, Int.reduceLT, Int.reduceLE, Int.reduceEq, Nat.reduceLeDiff,  intOf, f14]
              omega
    · rw [if_pos (.inl he)] at hit
      have e2 : decide (r.err = 0) = false := decide_eq_false he
      simp +contextual (maxSteps := 2000000) (disch := (first | omega | (simp only [SZ]; done) | (simp only [SZ]; omega) | (simp only [TS] at *; omega))) only [RZ, gval, gslot, fillL, ovw, numb, catL, ldN, agL, okC, oneC, init, Nat.reduceAdd, Nat.reduceMul, Nat.reduceSub, Nat.reduceEqDiff, Nat.reduceLT, ↓reduceIte, Int.reduceToNat, Int.reduceAdd, Int.reduceSub, Int.reduceMul, Int.reduceLT, Int.reduceLE, Int.reduceEq, Nat.reduceLeDiff,  f2, f5, f10, f11, f12, f13, f14, c0, c1, c2, e1, e2]
      refine W_if_f rfl ?_
      simp +contextual (maxSteps := 2000000) (disch := (first | omega | (simp only [SZ]; done) | (simp only [SZ]; omega) | (simp only [TS] at *; omega))) only [RZ, gval, gslot, fillL, ovw, numb, catL, ldN, agL, okC, oneC, init, Nat.reduceAdd, Nat.reduceMul, Nat.reduceSub, Nat.reduceEqDiff, Nat.reduceLT, ↓reduceIte, Int.reduceToNat, Int.reduceAdd, Int.reduceSub, Int.reduceMul, Int.reduceLT, Int.reduceLE, Int.reduceEq, Nat.reduceLeDiff,  f2, f5, f10, f11, f12, f13, f14]
      subst hit
      exact ⟨hr8, hp8, Nat.le_trans hlv hi, kB8⟩
  · have e1 : decide ((i : Int) < T.length) = false := decide_eq_false (by omega)
    have hn : T.length - i = 0 := by omega
    rw [hn] at hit
    unfold Rd.items at hit
    simp +contextual (maxSteps := 2000000) (disch := (first | omega | (simp only [SZ]; done) | (simp only [SZ]; omega) | (simp only [TS] at *; omega))) only [RZ, gval, gslot, fillL, ovw, numb, catL, ldN, agL, okC, oneC, init, Nat.reduceAdd, Nat.reduceMul, Nat.reduceSub, Nat.reduceEqDiff, Nat.reduceLT, ↓reduceIte, Int.reduceToNat, Int.reduceAdd, Int.reduceSub, Int.reduceMul, Int.reduceLT, Int.reduceLE, Int.reduceEq, Nat.reduceLeDiff,  f2, f5, f10, f11, f12, f13, f14, e1]
    refine W_if_f rfl ?_
    simp +contextual (maxSteps := 2000000) (disch := (first | omega | (simp only [SZ]; done) | (simp only [SZ]; omega) | (simp only [TS] at *; omega))) only [RZ, gval, gslot, fillL, ovw, numb, catL, ldN, agL, okC, oneC, init, Nat.reduceAdd, Nat.reduceMul, Nat.reduceSub, Nat.reduceEqDiff, Nat.reduceLT, ↓reduceIte, Int.reduceToNat, Int.reduceAdd, Int.reduceSub, Int.reduceMul, Int.reduceLT, Int.reduceLE, Int.reduceEq, Nat.reduceLeDiff,  f2, f5, f10, f11, f12, f13, f14]
    subst hit
    exact ⟨hr8, hp8, Nat.le_trans hlv hi, kB8⟩
end Go.Proofs.YtcnlopjjejdahaaDoor
/- Walks: the law DeckParses. -/
namespace Go.Proofs.YtcnlopjjejdahaaDoor
open Go.RowKit
set_option maxRecDepth 100000
theorem item_lv (p : Pl) (pr pa : Bool) (r : Rd) : (Rd.item p pr pa r).1.1.levels.length ≤ p.levels.length + 1 := by
  unfold Rd.item
  split
  · exact Nat.le_succ _
  · split
    · exact Nat.le_succ _
    · simp
theorem items_lv : ∀ (g : Nat) (p : Pl) (pr pa : Bool) (r : Rd), (Rd.items g p pr pa r).1.levels.length ≤ p.levels.length + g
  | 0, p, _, _, _ => Nat.le_refl _
  | g + 1, p, pr, pa, r => by
    unfold Rd.items
    split
    · exact Nat.le_add_right _ _
    · have h1 := items_lv g (r.item p pr pa).1.1 (r.item p pr pa).1.2.1 (r.item p pr pa).1.2.2 (r.item p pr pa).2
      have h2 := item_lv p pr pa r
      omega
theorem rparse_lv (s : ByteArray) : (rparseP s).1.levels.length ≤ 1000000 := by
  unfold rparseP
  split
  · exact Nat.zero_le _
  · split
    · exact Nat.zero_le _
    · rename_i h
      have h0 : (scanE s).1 = 0 := Classical.not_not.1 h
      obtain ⟨_, h1, _⟩ := scan_toks h0
      split
      · exact Nat.zero_le _
      · have := items_lv (scanE s).2.2.length { noPl with name := ((Rd.next 1 (asc "deck") ⟨(scanE s).2.2, 0, 0⟩).2.next 1 []).1 } false false (((Rd.next 1 (asc "deck") ⟨(scanE s).2.2, 0, 0⟩).2.next 1 []).2.next 3 (asc "{")).2
        have h2 : ({ noPl with name := ((Rd.next 1 (asc "deck") ⟨(scanE s).2.2, 0, 0⟩).2.next 1 []).1 } : Pl).levels.length = 0 := rfl
        show (Rd.items (scanE s).2.2.length { noPl with name := ((Rd.next 1 (asc "deck") ⟨(scanE s).2.2, 0, 0⟩).2.next 1 []).1 } false false (((Rd.next 1 (asc "deck") ⟨(scanE s).2.2, 0, 0⟩).2.next 1 []).2.next 3 (asc "{")).2).1.levels.length ≤ 1000000
        omega
theorem deckParses_any (s : ByteArray) (w : World) (hW : Laid w) (hs : s.size ≤ 9223372036854775807) : Calls Tryd.prog 4 #[.string s] w fun e w' => e = .returned (.bool true) ∧ Below w.heap.size w w' := by
  refine calls_W (l := [_]) Tryd.func4 rfl _ Tryd.ntmps4 (by simp) ?_
  have hw5 := hW.size
  simp +contextual (maxSteps := 2000000) (disch := (first | omega | (simp only [SZ]; done) | (simp only [SZ]; omega) | (simp only [TS] at *; omega))) only [RZ, gval, gslot, fillL, ovw, numb, catL, ldN, agL, okC, oneC, init, Nat.reduceAdd, Nat.reduceMul, Nat.reduceSub, Nat.reduceEqDiff, Nat.reduceLT, ↓reduceIte, Int.reduceToNat, Int.reduceAdd, Int.reduceSub, Int.reduceMul, Int.reduceLT, Int.reduceLE, Int.reduceEq, Nat.reduceLeDiff]
  (refine W_if rfl (fun hc => ?_) (fun hc => ?_) <;> (try simp only [TS] at hc))
  · simp +contextual (maxSteps := 2000000) (disch := (first | omega | (simp only [SZ]; done) | (simp only [SZ]; omega) | (simp only [TS] at *; omega))) only [RZ, gval, gslot, fillL, ovw, numb, catL, ldN, agL, okC, oneC, init, Nat.reduceAdd, Nat.reduceMul, Nat.reduceSub, Nat.reduceEqDiff, Nat.reduceLT, ↓reduceIte, Int.reduceToNat, Int.reduceAdd, Int.reduceSub, Int.reduceMul, Int.reduceLT, Int.reduceLE, Int.reduceEq, Nat.reduceLeDiff]
    refine (awake_any w hW).mono ?_
    rintro e wz ⟨rfl, hBz⟩
    refine ⟨_, rfl, ?_⟩
    simp +contextual (maxSteps := 2000000) (disch := (first | omega | (simp only [SZ]; done) | (simp only [SZ]; omega) | (simp only [TS] at *; omega))) only [RZ, gval, gslot, fillL, ovw, numb, catL, ldN, agL, okC, oneC, init, Nat.reduceAdd, Nat.reduceMul, Nat.reduceSub, Nat.reduceEqDiff, Nat.reduceLT, ↓reduceIte, Int.reduceToNat, Int.reduceAdd, Int.reduceSub, Int.reduceMul, Int.reduceLT, Int.reduceLE, Int.reduceEq, Nat.reduceLeDiff]
    exact hBz
  simp +contextual (maxSteps := 2000000) (disch := (first | omega | (simp only [SZ]; done) | (simp only [SZ]; omega) | (simp only [TS] at *; omega))) only [RZ, gval, gslot, fillL, ovw, numb, catL, ldN, agL, okC, oneC, init, Nat.reduceAdd, Nat.reduceMul, Nat.reduceSub, Nat.reduceEqDiff, Nat.reduceLT, ↓reduceIte, Int.reduceToNat, Int.reduceAdd, Int.reduceSub, Int.reduceMul, Int.reduceLT, Int.reduceLE, Int.reduceEq, Nat.reduceLeDiff]
  obtain ⟨p, er, ln, hP⟩ : ∃ p er ln, parseP s = (p, er, ln) := ⟨_, _, _, rfl⟩
  refine (parse_ex (by omega) hP w).mono ?_
  rintro e w1 ⟨hB1, A, c, rfl, hA1, _⟩
  refine ⟨_, rfl, ?_⟩
  have hz1 := hB1.size
  have hpl := rparse_lv s
  rw [parse_ref, hP] at hpl
  dsimp only at hpl
  rw [show planV p A c = .agg #[.string p.name, .int .i64 p.price, .int .i64 p.packs, .int .i64 p.size, .slice A p.levels.length c] from rfl]
  simp +contextual (maxSteps := 2000000) (disch := (first | omega | (simp only [SZ]; done) | (simp only [SZ]; omega) | (simp only [TS] at *; omega))) only [RZ, gval, gslot, fillL, ovw, numb, catL, ldN, agL, okC, oneC, init, Nat.reduceAdd, Nat.reduceMul, Nat.reduceSub, Nat.reduceEqDiff, Nat.reduceLT, ↓reduceIte, Int.reduceToNat, Int.reduceAdd, Int.reduceSub, Int.reduceMul, Int.reduceLT, Int.reduceLE, Int.reduceEq, Nat.reduceLeDiff]
  have r4 := Row.new w1 24 [.string p.name, .int .i64 p.price, .int .i64 p.packs, .int .i64 p.size, .slice A p.levels.length c]
  replace r4 : Row (w1.alloc (.cells #[.string p.name, .int .i64 p.price, .int .i64 p.packs, .int .i64 p.size, .slice A p.levels.length c] 24)) _ _ _ := r4
  have hb2 := below_alloc w1 (.cells #[.string p.name, .int .i64 p.price, .int .i64 p.packs, .int .i64 p.size, .slice A p.levels.length c] 24)
  have hA2 := hA1.below hb2
  have hF2 := hB1.trans (hb2.mono hz1)
  generalize w1.alloc (.cells #[.string p.name, .int .i64 p.price, .int .i64 p.packs, .int .i64 p.size, .slice A p.levels.length c] 24) = w2 at *
  have hz2 := hF2.size
  have hQ := rparse_any s w2 (by omega)
  rw [parse_ref, hP] at hQ
  dsimp only at hQ
  refine hQ.mono ?_
  rintro e w3 ⟨hB3, B, d, rfl, hD3, _⟩
  refine ⟨_, rfl, ?_⟩
  have r4 := r4.below hB3
  have hA3 := hA2.below hB3
  have hF3 := hF2.trans (hB3.mono hz2)
  have hz3 := hF3.size
  rw [show planV p B d = .agg #[.string p.name, .int .i64 p.price, .int .i64 p.packs, .int .i64 p.size, .slice B p.levels.length d] from rfl]
  simp +contextual (maxSteps := 2000000) (disch := (first | omega | (simp only [SZ]; done) | (simp only [SZ]; omega) | (simp only [TS] at *; omega))) only [RZ, gval, gslot, fillL, ovw, numb, catL, ldN, agL, okC, oneC, init, Nat.reduceAdd, Nat.reduceMul, Nat.reduceSub, Nat.reduceEqDiff, Nat.reduceLT, ↓reduceIte, Int.reduceToNat, Int.reduceAdd, Int.reduceSub, Int.reduceMul, Int.reduceLT, Int.reduceLE, Int.reduceEq, Nat.reduceLeDiff]
  have r5 := Row.new w3 24 [.string p.name, .int .i64 p.price, .int .i64 p.packs, .int .i64 p.size, .slice B p.levels.length d]
  replace r5 : Row (w3.alloc (.cells #[.string p.name, .int .i64 p.price, .int .i64 p.packs, .int .i64 p.size, .slice B p.levels.length d] 24)) _ _ _ := r5
  have hb4 := below_alloc w3 (.cells #[.string p.name, .int .i64 p.price, .int .i64 p.packs, .int .i64 p.size, .slice B p.levels.length d] 24)
  have r4 := r4.below hb4
  have hA4 := hA3.below hb4
  have hD4 := hD3.below hb4
  have hF4 := hF3.trans (hb4.mono hz3)
  generalize w3.alloc (.cells #[.string p.name, .int .i64 p.price, .int .i64 p.packs, .int .i64 p.size, .slice B p.levels.length d] 24) = w4 at *
  have hz4 := hF4.size
  have a0 := r4.cell (i := 0) rfl
  have a1 := r4.cell (i := 1) rfl
  have a2 := r4.cell (i := 2) rfl
  have a3 := r4.cell (i := 3) rfl
  have a4 := r4.cell (i := 4) rfl
  have b0 := r5.cell (i := 0) rfl
  have b1 := r5.cell (i := 1) rfl
  have b2 := r5.cell (i := 2) rfl
  have b3 := r5.cell (i := 3) rfl
  have b4 := r5.cell (i := 4) rfl
  simp +contextual (maxSteps := 2000000) (disch := (first | omega | (simp only [SZ]; done) | (simp only [SZ]; omega) | (simp only [TS] at *; omega))) only [RZ, gval, gslot, fillL, ovw, numb, catL, ldN, agL, okC, oneC, init, Nat.reduceAdd, Nat.reduceMul, Nat.reduceSub, Nat.reduceEqDiff, Nat.reduceLT, ↓reduceIte, Int.reduceToNat, Int.reduceAdd, Int.reduceSub, Int.reduceMul, Int.reduceLT, Int.reduceLE, Int.reduceEq, Nat.reduceLeDiff,  a0, a1, a2, a3, a4, b0, b1, b2, b3, b4]
  refine (same_any p A B c d w4 (by omega) hA4 hD4).mono ?_
  rintro e w5 ⟨rfl, hB5⟩
  refine ⟨_, rfl, ?_⟩
  have hF5 := hF4.trans (hB5.mono hz4)
  have hz5 := hF5.size
  simp +contextual (maxSteps := 2000000) (disch := (first | omega | (simp only [SZ]; done) | (simp only [SZ]; omega) | (simp only [TS] at *; omega))) only [RZ, gval, gslot, fillL, ovw, numb, catL, ldN, agL, okC, oneC, init, Nat.reduceAdd, Nat.reduceMul, Nat.reduceSub, Nat.reduceEqDiff, Nat.reduceLT, ↓reduceIte, Int.reduceToNat, Int.reduceAdd, Int.reduceSub, Int.reduceMul, Int.reduceLT, Int.reduceLE, Int.reduceEq, Nat.reduceLeDiff]
  refine (awake_any w5 (hW.below hF5 hw5)).mono ?_
  rintro e wz ⟨rfl, hBz⟩
  refine ⟨_, rfl, ?_⟩
  simp +contextual (maxSteps := 2000000) (disch := (first | omega | (simp only [SZ]; done) | (simp only [SZ]; omega) | (simp only [TS] at *; omega))) only [RZ, gval, gslot, fillL, ovw, numb, catL, ldN, agL, okC, oneC, init, Nat.reduceAdd, Nat.reduceMul, Nat.reduceSub, Nat.reduceEqDiff, Nat.reduceLT, ↓reduceIte, Int.reduceToNat, Int.reduceAdd, Int.reduceSub, Int.reduceMul, Int.reduceLT, Int.reduceLE, Int.reduceEq, Nat.reduceLeDiff]
  exact hF5.trans (hBz.mono hz5)
end Go.Proofs.YtcnlopjjejdahaaDoor
/- What the row says of the listed variables, as the walks ask it; the witness's world. -/
namespace Go.Proofs.YtcnlopjjejdahaaDoor
open Go.ChangeShapes Go.WideShapes Go.ChangeAt Go.WideMaps Go.WideElems Go.RowKit Go.Joins Go.Deep
set_option maxRecDepth 100000
def laidL : List (String × DataW Unit) := Rows.deckChecksRow.laid
theorem laid_of {W : World} (h : laidMetH Tryd.prog laidL W) : Laid W := by
  rw [MakeChecks.laidMetH_plain _ _ _ (by kernel_rfl)] at h
  obtain ⟨ps, hv, _⟩ := h
  obtain ⟨g0, t0, cs0, f0, p0, q0, hg0, ht0, hv0, hd0, hr0, _⟩ := hv
  obtain ⟨g1, t1, cs1, f1, p1, q1, hg1, ht1, hv1, hd1, hr1, _⟩ := hr0
  obtain ⟨g2, t2, cs2, f2, p2, q2, hg2, ht2, hv2, hd2, hr2, _⟩ := hr1
  obtain ⟨g3, t3, cs3, f3, p3, q3, hg3, ht3, hv3, hd3, hr3, _⟩ := hr2
  obtain rfl := Option.some.inj ((show Tryd.prog.globalNamed "lottery/digest.hexDigits" = some 0 by kernel_rfl).symm.trans hg0)
  obtain rfl := Option.some.inj ((show Tryd.prog.globalNamed "math/bits.deBruijn64tab" = some 4 by kernel_rfl).symm.trans hg2)
  obtain rfl := Option.some.inj ((show Tryd.prog.globalNamed "internal/strconv.uint64pow10" = some 2 by kernel_rfl).symm.trans hg3)
  obtain rfl := Option.some.inj ((show (Tryd.prog.globals[0]?).map (·.type) = some 95 by kernel_rfl).symm.trans ht0)
  obtain rfl := Option.some.inj ((show (Tryd.prog.globals[2]?).map (·.type) = some 135 by kernel_rfl).symm.trans ht3)
  refine ⟨?_, fun i hi => ?_, ?_⟩
  · have : W.heap[4]?.isSome = true := by
      unfold World.var? at hv2
      rw [hg2] at hv2
      simp only [Option.bind_some] at hv2
      cases hh : W.heap[4]? with
      | none => rw [hh] at hv2; simp at hv2
      | some o => rfl
    obtain ⟨o, ho⟩ := Option.isSome_iff_exists.1 this
    exact (Array.getElem?_eq_some_iff.1 ho).1
  · have hc := Lib.cells_of_tab (k := .u8) (zs := (List.range 16).map fun i => (hexd i : Int)) Tryd.underlying95 Tryd.underlying5 (by kernel_rfl) (by kernel_rfl) (show DataW.trod _ _ _ _ _ _ _ _ _ = some (Lib.tabData .u8 ((List.range 16).map fun i => (hexd i : Int)), p0) from hd0)
    rw [World.var?_cell hg0 hv0 i, ← Array.getElem?_toList, hc, List.getElem?_map, List.getElem?_map, List.getElem?_range hi]
    rfl
  · have hc := Lib.cells_of_tab (k := .u64) (zs := Lib.pow10Tab) Tryd.underlying135 Tryd.underlying36 (by kernel_rfl) (by kernel_rfl) (show DataW.trod _ _ _ _ _ _ _ _ _ = some (Lib.tabData .u64 Lib.pow10Tab, p3) from hd3)
    unfold Lib.TabIs
    rw [hv3, ← hc]
/-- The door's own heap meets the condition. -/
theorem door_met (os : Os) (args : Array Value) : laidMetH Tryd.prog laidL ((World.doorLaid Tryd.prog 4000 os).forCall (fun _ _ => 0) ⟨#[], args, []⟩).memory :=
  laidMetH_of_parts3 (fuel := 8) (laidMet_of_run' 8 (by kernel_rfl) (by kernel_rfl)) (by kernel_rfl) (by kernel_rfl)
end Go.Proofs.YtcnlopjjejdahaaDoor
