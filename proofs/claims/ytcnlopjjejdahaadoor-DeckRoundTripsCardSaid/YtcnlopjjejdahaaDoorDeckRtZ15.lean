/- Texts laid one behind the other: DwD, Laid. Each says at its head what it proves. -/
import Derived.Test.YtcnlopjjejdahaaDoorY14
import Derived.ChangeMaps5
import Derived.LaidMore
import Derived.OpenShut
import Derived.Stop.Joined
import Derived.Lib.LaidTab
import Derived.MakeChecks
set_option linter.unusedSimpArgs false
/- Walks: the law DeckRoundTrips. -/
namespace Go.Proofs.YtcnlopjjejdahaaDoor
open Go.RowKit
set_option maxRecDepth 100000
theorem fmtI_lt (n : Int) : ∀ c ∈ fmtI n, c < 256 := by rw [← bs_fmtB]; exact bs_lt _
theorem lvlT_lt (v : Lvl) : ∀ c ∈ lvlT v, c < 256 := by
  unfold lvlT
  simp only [List.forall_mem_append]
  exact ⟨⟨⟨⟨⟨⟨by decide +kernel, fmtI_lt _⟩, by decide +kernel⟩, fmtI_lt _⟩, by decide +kernel⟩, fmtI_lt _⟩, by decide +kernel⟩
theorem printP_lt (p : Pl) : ∀ c ∈ printP p, c < 256 := by
  unfold printP
  split
  · simp only [List.forall_mem_append]
    refine ⟨⟨?_, fun c hc => ?_⟩, by decide +kernel⟩
    · unfold headT
      simp only [List.forall_mem_append]
      exact ⟨⟨⟨⟨by decide +kernel, bs_lt _⟩, by decide +kernel⟩, ⟨by decide +kernel, fmtI_lt _⟩, by decide +kernel⟩, ⟨⟨⟨by decide +kernel, fmtI_lt _⟩, by decide +kernel⟩, fmtI_lt _⟩, by decide +kernel⟩
    · obtain ⟨v, _, hv⟩ := List.mem_flatMap.1 hc
      exact lvlT_lt v c hv
  · intro c hc
    cases hc
set_option maxHeartbeats 1000000 in
theorem deckRoundTrips_any (p : Pl) (A : Option Addr) (c : Nat) (w : World) (hW : Laid w) (hL : Arr w A 3 (p.levels.map encLvl)) (hq : planWf p) :
    Calls Tryd.prog 6 #[planV p A c] w fun e w' => e = .returned (.bool true) ∧ Below w.heap.size w w' := by
  obtain ⟨hs, hl, hr, hrv⟩ := hq
  refine calls_W (l := [_]) Tryd.func6 rfl _ Tryd.ntmps6 (by simp) ?_
  have hpv : planV p A c = .agg #[.string p.name, .int .i64 p.price, .int .i64 p.packs, .int .i64 p.size, .slice A p.levels.length c] := rfl
  rw [hpv]
  have hw5 := hW.size
  simp +contextual (maxSteps := 2000000) (disch := (first | omega | (simp only [SZ]; done) | (simp only [SZ]; omega) | (simp only [TS] at *; omega))) only [RZ, gval, gslot, fillL, ovw, numb, catL, ldN, agL, okC, oneC, init, Nat.reduceAdd, Nat.reduceMul, Nat.reduceSub, Nat.reduceEqDiff, Nat.reduceLT, ↓reduceIte, Int.reduceToNat, Int.reduceAdd, Int.reduceSub, Int.reduceMul, Int.reduceLT, Int.reduceLE, Int.reduceEq, Nat.reduceLeDiff]
  have r0 := Row.new w 24 [.string p.name, .int .i64 p.price, .int .i64 p.packs, .int .i64 p.size, .slice A p.levels.length c]
  replace r0 : Row (w.alloc (.cells #[.string p.name, .int .i64 p.price, .int .i64 p.packs, .int .i64 p.size, .slice A p.levels.length c] 24)) _ _ _ := r0
  have hB := below_alloc w (.cells #[.string p.name, .int .i64 p.price, .int .i64 p.packs, .int .i64 p.size, .slice A p.levels.length c] 24)
  generalize w.alloc (.cells #[.string p.name, .int .i64 p.price, .int .i64 p.packs, .int .i64 p.size, .slice A p.levels.length c] 24) = w1 at *
  have hL1 := hL.below hB
  have hz1 := hB.size
  refine (few_any p A c w1).mono ?_
  rintro e w2 ⟨rfl, hB2⟩
  refine ⟨_, rfl, ?_⟩
  have r0 := r0.below hB2
  have hL2 := hL1.below hB2
  have hF2 := hB.trans (hB2.mono hz1)
  have hz2 := hF2.size
  cases hfew : fewB p with
  | false =>
    simp +contextual (maxSteps := 2000000) (disch := (first | omega | (simp only [SZ]; done) | (simp only [SZ]; omega) | (simp only [TS] at *; omega))) only [RZ, gval, gslot, fillL, ovw, numb, catL, ldN, agL, okC, oneC, init, Nat.reduceAdd, Nat.reduceMul, Nat.reduceSub, Nat.reduceEqDiff, Nat.reduceLT, ↓reduceIte, Int.reduceToNat, Int.reduceAdd, Int.reduceSub, Int.reduceMul, Int.reduceLT, Int.reduceLE, Int.reduceEq, Nat.reduceLeDiff]
    refine W_if_t rfl ?_
    simp +contextual (maxSteps := 2000000) (disch := (first | omega | (simp only [SZ]; done) | (simp only [SZ]; omega) | (simp only [TS] at *; omega))) only [RZ, gval, gslot, fillL, ovw, numb, catL, ldN, agL, okC, oneC, init, Nat.reduceAdd, Nat.reduceMul, Nat.reduceSub, Nat.reduceEqDiff, Nat.reduceLT, ↓reduceIte, Int.reduceToNat, Int.reduceAdd, Int.reduceSub, Int.reduceMul, Int.reduceLT, Int.reduceLE, Int.reduceEq, Nat.reduceLeDiff]
    refine (awake_any w2 (hW.below hF2 hw5)).mono ?_
    rintro e wz ⟨rfl, hBz⟩
    refine ⟨_, rfl, ?_⟩
    simp +contextual (maxSteps := 2000000) (disch := (first | omega | (simp only [SZ]; done) | (simp only [SZ]; omega) | (simp only [TS] at *; omega))) only [RZ, gval, gslot, fillL, ovw, numb, catL, ldN, agL, okC, oneC, init, Nat.reduceAdd, Nat.reduceMul, Nat.reduceSub, Nat.reduceEqDiff, Nat.reduceLT, ↓reduceIte, Int.reduceToNat, Int.reduceAdd, Int.reduceSub, Int.reduceMul, Int.reduceLT, Int.reduceLE, Int.reduceEq, Nat.reduceLeDiff]
    exact hF2.trans (hBz.mono hz2)
  | true =>
  unfold fewB at hfew
  simp only [Bool.and_eq_true, decide_eq_true_eq] at hfew
  simp +contextual (maxSteps := 2000000) (disch := (first | omega | (simp only [SZ]; done) | (simp only [SZ]; omega) | (simp only [TS] at *; omega))) only [RZ, gval, gslot, fillL, ovw, numb, catL, ldN, agL, okC, oneC, init, Nat.reduceAdd, Nat.reduceMul, Nat.reduceSub, Nat.reduceEqDiff, Nat.reduceLT, ↓reduceIte, Int.reduceToNat, Int.reduceAdd, Int.reduceSub, Int.reduceMul, Int.reduceLT, Int.reduceLE, Int.reduceEq, Nat.reduceLeDiff]
  refine W_if_f rfl ?_
  have a0 := r0.cell (i := 0) rfl
  have a1 := r0.cell (i := 1) rfl
  have a2 := r0.cell (i := 2) rfl
  have a3 := r0.cell (i := 3) rfl
  have a4 := r0.cell (i := 4) rfl
  simp +contextual (maxSteps := 2000000) (disch := (first | omega | (simp only [SZ]; done) | (simp only [SZ]; omega) | (simp only [TS] at *; omega))) only [RZ, gval, gslot, fillL, ovw, numb, catL, ldN, agL, okC, oneC, init, Nat.reduceAdd, Nat.reduceMul, Nat.reduceSub, Nat.reduceEqDiff, Nat.reduceLT, ↓reduceIte, Int.reduceToNat, Int.reduceAdd, Int.reduceSub, Int.reduceMul, Int.reduceLT, Int.reduceLE, Int.reduceEq, Nat.reduceLeDiff,  a0, a1, a2, a3, a4]
  refine (print_any p A c w2 (hW.below hF2 hw5) hfew.2 hfew.1 hL2 ⟨hr, hrv⟩).mono ?_
  rintro e w3 ⟨rfl, hB3⟩
  refine ⟨_, rfl, ?_⟩
  have r0 := r0.below hB3
  have hL3 := hL2.below hB3
  have hF3 := hF2.trans (hB3.mono hz2)
  have hz3 := hF3.size
  clear a0 a1 a2 a3 a4
  have a0 := r0.cell (i := 0) rfl
  have a1 := r0.cell (i := 1) rfl
  have a2 := r0.cell (i := 2) rfl
  have a3 := r0.cell (i := 3) rfl
  have a4 := r0.cell (i := 4) rfl
  by_cases hp : printP p = []
  · have hck : p.chk ≠ 0 := fun h => print_ok h hp
    have e1 : (toBA (printP p) = (⟨#[]⟩ : ByteArray)) = True := eq_true (by rw [hp]; rfl)
    simp +contextual (maxSteps := 2000000) (disch := (first | omega | (simp only [SZ]; done) | (simp only [SZ]; omega) | (simp only [TS] at *; omega))) only [RZ, gval, gslot, fillL, ovw, numb, catL, ldN, agL, okC, oneC, init, Nat.reduceAdd, Nat.reduceMul, Nat.reduceSub, Nat.reduceEqDiff, Nat.reduceLT, ↓reduceIte, Int.reduceToNat, Int.reduceAdd, Int.reduceSub, Int.reduceMul, Int.reduceLT, Int.reduceLE, Int.reduceEq, Nat.reduceLeDiff,  e1]
    refine W_if_t rfl ?_
    simp +contextual (maxSteps := 2000000) (disch := (first | omega | (simp only [SZ]; done) | (simp only [SZ]; omega) | (simp only [TS] at *; omega))) only [RZ, gval, gslot, fillL, ovw, numb, catL, ldN, agL, okC, oneC, init, Nat.reduceAdd, Nat.reduceMul, Nat.reduceSub, Nat.reduceEqDiff, Nat.reduceLT, ↓reduceIte, Int.reduceToNat, Int.reduceAdd, Int.reduceSub, Int.reduceMul, Int.reduceLT, Int.reduceLE, Int.reduceEq, Nat.reduceLeDiff,  a0, a1, a2, a3, a4]
    refine (check_any p.name p.price p.packs p.size A c p.levels w3 hs hL3).mono ?_
    rintro e w4 ⟨rfl, hB4⟩
    refine ⟨_, rfl, ?_⟩
    rw [show chk p.name p.price p.packs p.size p.levels = p.chk from rfl]
    have e2 : (p.chk = 0) = False := eq_false hck
    have hF4 := hF3.trans (hB4.mono hz3)
    have hz4 := hF4.size
    simp +contextual (maxSteps := 2000000) (disch := (first | omega | (simp only [SZ]; done) | (simp only [SZ]; omega) | (simp only [TS] at *; omega))) only [RZ, gval, gslot, fillL, ovw, numb, catL, ldN, agL, okC, oneC, init, Nat.reduceAdd, Nat.reduceMul, Nat.reduceSub, Nat.reduceEqDiff, Nat.reduceLT, ↓reduceIte, Int.reduceToNat, Int.reduceAdd, Int.reduceSub, Int.reduceMul, Int.reduceLT, Int.reduceLE, Int.reduceEq, Nat.reduceLeDiff,  e2]
    refine (awake_any w4 (hW.below hF4 hw5)).mono ?_
    rintro e wz ⟨rfl, hBz⟩
    refine ⟨_, rfl, ?_⟩
    simp +contextual (maxSteps := 2000000) (disch := (first | omega | (simp only [SZ]; done) | (simp only [SZ]; omega) | (simp only [TS] at *; omega))) only [RZ, gval, gslot, fillL, ovw, numb, catL, ldN, agL, okC, oneC, init, Nat.reduceAdd, Nat.reduceMul, Nat.reduceSub, Nat.reduceEqDiff, Nat.reduceLT, ↓reduceIte, Int.reduceToNat, Int.reduceAdd, Int.reduceSub, Int.reduceMul, Int.reduceLT, Int.reduceLE, Int.reduceEq, Nat.reduceLeDiff]
    exact hF4.trans (hBz.mono hz4)
  · have e1 : (toBA (printP p) = (⟨#[]⟩ : ByteArray)) = False := eq_false fun h => hp (by
      have := congrArg bs h
      rw [bs_toBA (printP_lt p)] at this
      exact this)
    have hbs := bs_toBA (printP_lt p)
    have hlen := print_len p
    have hsz : (toBA (printP p)).size ≤ 32768 := by
      rw [← bs_len, hbs]
      omega
    have hrt := round_trip hp hbs hsz
    simp +contextual (maxSteps := 2000000) (disch := (first | omega | (simp only [SZ]; done) | (simp only [SZ]; omega) | (simp only [TS] at *; omega))) only [RZ, gval, gslot, fillL, ovw, numb, catL, ldN, agL, okC, oneC, init, Nat.reduceAdd, Nat.reduceMul, Nat.reduceSub, Nat.reduceEqDiff, Nat.reduceLT, ↓reduceIte, Int.reduceToNat, Int.reduceAdd, Int.reduceSub, Int.reduceMul, Int.reduceLT, Int.reduceLE, Int.reduceEq, Nat.reduceLeDiff,  e1]
    refine W_if_f rfl ?_
    simp +contextual (maxSteps := 2000000) (disch := (first | omega | (simp only [SZ]; done) | (simp only [SZ]; omega) | (simp only [TS] at *; omega))) only [RZ, gval, gslot, fillL, ovw, numb, catL, ldN, agL, okC, oneC, init, Nat.reduceAdd, Nat.reduceMul, Nat.reduceSub, Nat.reduceEqDiff, Nat.reduceLT, ↓reduceIte, Int.reduceToNat, Int.reduceAdd, Int.reduceSub, Int.reduceMul, Int.reduceLT, Int.reduceLE, Int.reduceEq, Nat.reduceLeDiff]
    refine (parse_ex (by omega) hrt w3).mono ?_
    rintro e w4 ⟨hB4, A2, c2, rfl, hA4, _⟩
    refine ⟨_, rfl, ?_⟩
    have r0 := r0.below hB4
    have hL4 := hL3.below hB4
    have hF4 := hF3.trans (hB4.mono hz3)
    have hz4 := hF4.size
    rw [show planV p A2 c2 = .agg #[.string p.name, .int .i64 p.price, .int .i64 p.packs, .int .i64 p.size, .slice A2 p.levels.length c2] from rfl]
    simp +contextual (maxSteps := 2000000) (disch := (first | omega | (simp only [SZ]; done) | (simp only [SZ]; omega) | (simp only [TS] at *; omega))) only [RZ, gval, gslot, fillL, ovw, numb, catL, ldN, agL, okC, oneC, init, Nat.reduceAdd, Nat.reduceMul, Nat.reduceSub, Nat.reduceEqDiff, Nat.reduceLT, ↓reduceIte, Int.reduceToNat, Int.reduceAdd, Int.reduceSub, Int.reduceMul, Int.reduceLT, Int.reduceLE, Int.reduceEq, Nat.reduceLeDiff]
    have r4 := Row.new w4 24 [.string p.name, .int .i64 p.price, .int .i64 p.packs, .int .i64 p.size, .slice A2 p.levels.length c2]
    replace r4 : Row (w4.alloc (.cells #[.string p.name, .int .i64 p.price, .int .i64 p.packs, .int .i64 p.size, .slice A2 p.levels.length c2] 24)) _ _ _ := r4
    have hb5 := below_alloc w4 (.cells #[.string p.name, .int .i64 p.price, .int .i64 p.packs, .int .i64 p.size, .slice A2 p.levels.length c2] 24)
    have r0 := r0.below hb5
    have hL5 := hL4.below hb5
    have hA5 := hA4.below hb5
    have hF5 := hF4.trans (hb5.mono hz4)
    generalize w4.alloc (.cells #[.string p.name, .int .i64 p.price, .int .i64 p.packs, .int .i64 p.size, .slice A2 p.levels.length c2] 24) = w5 at *
    have hz5 := hF5.size
    clear a0 a1 a2 a3 a4
    have a0 := r0.cell (i := 0) rfl
    have a1 := r0.cell (i := 1) rfl
    have a2 := r0.cell (i := 2) rfl
    have a3 := r0.cell (i := 3) rfl
    have a4 := r0.cell (i := 4) rfl
    have b0 := r4.cell (i := 0) rfl
    have b1 := r4.cell (i := 1) rfl
    have b2 := r4.cell (i := 2) rfl
    have b3 := r4.cell (i := 3) rfl
    have b4 := r4.cell (i := 4) rfl
    simp +contextual (maxSteps := 2000000) (disch := (first | omega | (simp only [SZ]; done) | (simp only [SZ]; omega) | (simp only [TS] at *; omega))) only [RZ, gval, gslot, fillL, ovw, numb, catL, ldN, agL, okC, oneC, init, Nat.reduceAdd, Nat.reduceMul, Nat.reduceSub, Nat.reduceEqDiff, Nat.reduceLT, ↓reduceIte, Int.reduceToNat, Int.reduceAdd, Int.reduceSub, Int.reduceMul, Int.reduceLT, Int.reduceLE, Int.reduceEq, Nat.reduceLeDiff,  a0, a1, a2, a3, a4, b0, b1, b2, b3, b4]
    refine (same_any p A A2 c c2 w5 (by omega) hL5 hA5).mono ?_
    rintro e w6 ⟨rfl, hB6⟩
    refine ⟨_, rfl, ?_⟩
    have r4 := r4.below hB6
    have hA6 := hA5.below hB6
    have hF6 := hF5.trans (hB6.mono hz5)
    have hz6 := hF6.size
    clear b0 b1 b2 b3 b4
    have b0 := r4.cell (i := 0) rfl
    have b1 := r4.cell (i := 1) rfl
    have b2 := r4.cell (i := 2) rfl
    have b3 := r4.cell (i := 3) rfl
    have b4 := r4.cell (i := 4) rfl
    simp +contextual (maxSteps := 2000000) (disch := (first | omega | (simp only [SZ]; done) | (simp only [SZ]; omega) | (simp only [TS] at *; omega))) only [RZ, gval, gslot, fillL, ovw, numb, catL, ldN, agL, okC, oneC, init, Nat.reduceAdd, Nat.reduceMul, Nat.reduceSub, Nat.reduceEqDiff, Nat.reduceLT, ↓reduceIte, Int.reduceToNat, Int.reduceAdd, Int.reduceSub, Int.reduceMul, Int.reduceLT, Int.reduceLE, Int.reduceEq, Nat.reduceLeDiff,  b0, b1, b2, b3, b4]
    refine (print_any p A2 c2 w6 (hW.below hF6 hw5) hfew.2 hfew.1 hA6 ⟨hr, hrv⟩).mono ?_
    rintro e w7 ⟨rfl, hB7⟩
    refine ⟨_, rfl, ?_⟩
    have hF7 := hF6.trans (hB7.mono hz6)
    have hz7 := hF7.size
    simp +contextual (maxSteps := 2000000) (disch := (first | omega | (simp only [SZ]; done) | (simp only [SZ]; omega) | (simp only [TS] at *; omega))) only [RZ, gval, gslot, fillL, ovw, numb, catL, ldN, agL, okC, oneC, init, Nat.reduceAdd, Nat.reduceMul, Nat.reduceSub, Nat.reduceEqDiff, Nat.reduceLT, ↓reduceIte, Int.reduceToNat, Int.reduceAdd, Int.reduceSub, Int.reduceMul, Int.reduceLT, Int.reduceLE, Int.reduceEq, Nat.reduceLeDiff]
    refine (awake_any w7 (hW.below hF7 hw5)).mono ?_
    rintro e wz ⟨rfl, hBz⟩
    refine ⟨_, rfl, ?_⟩
    simp +contextual (maxSteps := 2000000) (disch := (first | omega | (simp only [SZ]; done) | (simp only [SZ]; omega) | (simp only [TS] at *; omega))) only [RZ, gval, gslot, fillL, ovw, numb, catL, ldN, agL, okC, oneC, init, Nat.reduceAdd, Nat.reduceMul, Nat.reduceSub, Nat.reduceEqDiff, Nat.reduceLT, ↓reduceIte, Int.reduceToNat, Int.reduceAdd, Int.reduceSub, Int.reduceMul, Int.reduceLT, Int.reduceLE, Int.reduceEq, Nat.reduceLeDiff]
    exact hF7.trans (hBz.mono hz7)
end Go.Proofs.YtcnlopjjejdahaaDoor
/- What the row says of the listed variables, as the walks ask it; the witness's world. -/
namespace Go.Proofs.YtcnlopjjejdahaaDoor
open Go.ChangeShapes Go.WideShapes Go.ChangeAt Go.WideMaps Go.WideElems Go.RowKit Go.Joins Go.Deep
set_option maxRecDepth 100000
def laidL : List (String × DataW Unit) := Rows.deckChecksRow.laid
theorem laid_of {W : World} (h : laidMetH Tryd.prog laidL W) : Laid W := by
  rw [MakeChecks.laidMetH_plain _ _ _ (by kernel_rfl)] at h
  obtain ⟨ps, hv, _⟩ := h
  obtain ⟨g0, t0, cs0, f0, p0, q0, hg0, ht0, hv0, hd0, hr0, _⟩ := hv
  obtain ⟨g1, t1, cs1, f1, p1, q1, hg1, ht1, hv1, hd1, hr1, _⟩ := hr0
  obtain ⟨g2, t2, cs2, f2, p2, q2, hg2, ht2, hv2, hd2, hr2, _⟩ := hr1
  obtain ⟨g3, t3, cs3, f3, p3, q3, hg3, ht3, hv3, hd3, hr3, _⟩ := hr2
  obtain rfl := Option.some.inj ((show Tryd.prog.globalNamed "lottery/digest.hexDigits" = some 0 by kernel_rfl).symm.trans hg0)
  obtain rfl := Option.some.inj ((show Tryd.prog.globalNamed "math/bits.deBruijn64tab" = some 4 by kernel_rfl).symm.trans hg2)
  obtain rfl := Option.some.inj ((show Tryd.prog.globalNamed "internal/strconv.uint64pow10" = some 2 by kernel_rfl).symm.trans hg3)
  obtain rfl := Option.some.inj ((show (Tryd.prog.globals[0]?).map (·.type) = some 95 by kernel_rfl).symm.trans ht0)
  obtain rfl := Option.some.inj ((show (Tryd.prog.globals[2]?).map (·.type) = some 135 by kernel_rfl).symm.trans ht3)
  refine ⟨?_, fun i hi => ?_, ?_⟩
  · have : W.heap[4]?.isSome = true := by
      unfold World.var? at hv2
      rw [hg2] at hv2
      simp only [Option.bind_some] at hv2
      cases hh : W.heap[4]? with
      | none => rw [hh] at hv2; simp at hv2
      | some o => rfl
    obtain ⟨o, ho⟩ := Option.isSome_iff_exists.1 this
    exact (Array.getElem?_eq_some_iff.1 ho).1
  · have hc := Lib.cells_of_tab (k := .u8) (zs := (List.range 16).map fun i => (hexd i : Int)) Tryd.underlying95 Tryd.underlying5 (by kernel_rfl) (by kernel_rfl) (show DataW.trod _ _ _ _ _ _ _ _ _ = some (Lib.tabData .u8 ((List.range 16).map fun i => (hexd i : Int)), p0) from hd0)
    rw [World.var?_cell hg0 hv0 i, ← Array.getElem?_toList, hc, List.getElem?_map, List.getElem?_map, List.getElem?_range hi]
    rfl
  · have hc := Lib.cells_of_tab (k := .u64) (zs := Lib.pow10Tab) Tryd.underlying135 Tryd.underlying36 (by kernel_rfl) (by kernel_rfl) (show DataW.trod _ _ _ _ _ _ _ _ _ = some (Lib.tabData .u64 Lib.pow10Tab, p3) from hd3)
    unfold Lib.TabIs
    rw [hv3, ← hc]
/-- The door's own heap meets the condition. -/
theorem door_met (os : Os) (args : Array Value) : laidMetH Tryd.prog laidL ((World.doorLaid Tryd.prog 4000 os).forCall (fun _ _ => 0) ⟨#[], args, []⟩).memory :=
  laidMetH_of_parts3 (fuel := 8) (laidMet_of_run' 8 (by kernel_rfl) (by kernel_rfl)) (by kernel_rfl) (by kernel_rfl)
end Go.Proofs.YtcnlopjjejdahaaDoor
