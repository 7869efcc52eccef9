/- Texts laid one behind the other: RtU, RwE, Laid. Each says at its head what it proves. -/
import Derived.Test.YtbdkggnajipdhaaDoorY19
import Derived.ChangeMaps5
import Derived.LaidMore
import Derived.OpenShut
import Derived.Stop.Joined
import Derived.Lib.LaidTab
import Derived.MakeChecks
set_option linter.unusedSimpArgs false
/- Plain: chapter 11, a printed text's bytes and length. No program in sight. -/
namespace Go.Proofs.YtbdkggnajipdhaaDoor
theorem good_lt {k : Nat} {t : List Nat} (h : good k t) : ∀ c ∈ t, c < 256 := by
  intro c hc
  rcases h with ⟨_, _, h⟩ | ⟨_, _, h⟩ | ⟨_, d, rfl, h⟩
  · have := h c hc
    unfold wordB letterB digitB at this
    simp only [Bool.or_eq_true, Bool.and_eq_true, decide_eq_true_eq, beq_iff_eq] at this
    omega
  · have := h c hc
    unfold digitB at this
    simp only [Bool.and_eq_true, decide_eq_true_eq] at this
    omega
  · rw [List.mem_singleton] at hc
    subst hc
    unfold markB at h
    simp only [Bool.or_eq_true, beq_iff_eq] at h
    omega
theorem lineG_lt {i : It} (hf : i.fine = true) (hw : i.wok = true) : ∀ c ∈ lineG i, c < 256 := by
  obtain ⟨h1, h2⟩ := item_words hf hw
  intro c hc
  unfold lineG at hc
  rw [← h1] at hc
  rcases List.mem_cons.1 hc with rfl | hc
  · decide
  · rcases List.mem_append.1 hc with hc | hc
    · obtain ⟨w, hwm, hc⟩ := List.mem_flatMap.1 hc
      obtain ⟨x, hx, rfl⟩ := List.mem_map.1 hwm
      rcases List.mem_cons.1 hc with rfl | hc
      · decide
      · exact good_lt (h2 x hx) c hc
    · have : ∀ c ∈ asc ";\n", c < 256 := by decide +kernel
      exact this c hc
theorem textG_lt {G : Gm} (h : fineG G = true) : ∀ c ∈ textG G, c < 256 := by
  unfold fineG at h
  simp only [Bool.and_eq_true] at h
  have hi := h.2
  have hw := items_wok G
  rw [List.all_eq_true] at hi hw
  intro c hc
  unfold textG at hc
  simp only [List.mem_append, List.mem_cons] at hc
  have a1 : ∀ c ∈ asc "game", c < 256 := by decide +kernel
  have a2 : ∀ c ∈ asc " {\n", c < 256 := by decide +kernel
  have a3 : ∀ c ∈ asc "}\n", c < 256 := by decide +kernel
  rcases hc with (((hc | hc | hc) | hc) | hc) | hc
  · exact a1 c hc
  · omega
  · exact bs_lt _ c hc
  · exact a2 c hc
  · obtain ⟨i, him, hc⟩ := List.mem_flatMap.1 hc
    exact lineG_lt (hi i him) (hw i him) c hc
  · exact a3 c hc
theorem printG_lt (G : Gm) : ∀ c ∈ printG G, c < 256 := by
  rw [printG_is]
  by_cases h : fineG G = true ∧ (textG G).length ≤ 32768
  · rw [if_pos h]; exact textG_lt h.1
  · rw [if_neg h]; intro c hc; cases hc
theorem print_size (G : Gm) : (toBA (printG G)).size ≤ 32768 := by
  rw [← bs_len, bs_toBA (printG_lt G), printG_is]
  by_cases h : fineG G = true ∧ (textG G).length ≤ 32768
  · rw [if_pos h]; exact h.2
  · rw [if_neg h]; exact Nat.zero_le _
theorem print_back {G : Gm} (hne : printG G ≠ []) : (gmC (parseG (toBA (printG G))).1, (parseG (toBA (printG G))).2) = (gmC G, 0, 0) := by
  have hs := print_size G
  have hb := bs_toBA (printG_lt G)
  have hp := printG_is G
  by_cases h : fineG G = true ∧ (textG G).length ≤ 32768
  · rw [if_pos h] at hp
    exact game_back h.1 (by rw [hb, hp]) hs
  · rw [if_neg h] at hp
    exact absurd hp hne
theorem print_none {G : Gm} : toBA (printG G) = ⟨#[]⟩ ↔ printG G = [] := by
  constructor
  · intro h
    have := congrArg bs h
    rw [bs_toBA (printG_lt G)] at this
    exact this
  · intro h
    rw [h]; rfl
end Go.Proofs.YtbdkggnajipdhaaDoor
/- Walk: the law RuletextRoundTrips. -/
namespace Go.Proofs.YtbdkggnajipdhaaDoor
open Go.RowKit
set_option maxRecDepth 100000
/-- A game boxed in memory. -/
theorem load_game {w : World} {b : Nat} {G : Gm} {Va Vt : Value} (h : Row w b 25 (gmV G Va Vt)) : vLoad Tryd.prog 25 (.pointer (some ⟨b, 0, none⟩)) w = .ok (.value (.agg (gmV G Va Vt).toArray)) w :=
  vLoad_all (by kernel_rfl) (by rw [gmV_len]; kernel_rfl) (fun i v hv => by rw [Nat.zero_add]; exact h.cell hv)
set_option maxHeartbeats 4000000 in
theorem ruletextRoundTrips_any (G : Gm) (Va Vt : Value) (w : World) (hW : Laid w) (hG : GmIn w Va Vt G) :
    Calls Tryd.prog 3 #[.agg (gmV G Va Vt).toArray] w fun e w' => e = .returned (.bool true) ∧ Below w.heap.size w w' := by
  refine calls_W (l := [_]) Tryd.func3 rfl _ Tryd.ntmps3 (by simp) ?_
  have hw5 := hW.size
  have r0 := Row.new w 25 (gmV G Va Vt)
  have b0 := below_alloc w (.cells (gmV G Va Vt).toArray 25)
  refine W_piece fun K hK hX => ?_
  simp +contextual (maxSteps := 2000000) (disch := (first | omega | (simp only [SZ]; done) | (simp only [SZ]; omega) | (simp only [TS] at *; omega))) only [RZ, gval, gslot, fillL, ovw, numb, catL, ldN, agL, okC, oneC, init, Nat.reduceAdd, Nat.reduceMul, Nat.reduceSub, Nat.reduceEqDiff, Nat.reduceLT, ↓reduceIte, Int.reduceToNat, Int.reduceAdd, Int.reduceSub, Int.reduceMul, Int.reduceLT, Int.reduceLE, Int.reduceEq, Nat.reduceLeDiff]
  refine hK _ _ ?_
  clear hK hX K
  generalize w.alloc (.cells (gmV G Va Vt).toArray 25) = w1 at r0 b0 ⊢
  have hz1 := b0.size
  have l1 := load_game r0
  refine W_piece fun K hK hX => ?_
  refine W_piece fun K2 hK2 hX2 => ?_
  simp +contextual (maxSteps := 2000000) (disch := (first | omega | (simp only [SZ]; done) | (simp only [SZ]; omega) | (simp only [TS] at *; omega))) only [RZ, gval, gslot, fillL, ovw, numb, catL, ldN, agL, okC, oneC, init, Nat.reduceAdd, Nat.reduceMul, Nat.reduceSub, Nat.reduceEqDiff, Nat.reduceLT, ↓reduceIte, Int.reduceToNat, Int.reduceAdd, Int.reduceSub, Int.reduceMul, Int.reduceLT, Int.reduceLE, Int.reduceEq, Nat.reduceLeDiff,  l1]
  refine (few_any G Va Vt w1 (hG.below b0)).mono ?_
  rintro e w2 ⟨rfl, hB2⟩
  refine ⟨_, rfl, ?_⟩
  try simp +contextual (maxSteps := 2000000) (disch := (first | omega | (simp only [SZ]; done) | (simp only [SZ]; omega) | (simp only [TS] at *; omega))) only [RZ, gval, gslot, fillL, ovw, numb, catL, ldN, agL, okC, oneC, init, Nat.reduceAdd, Nat.reduceMul, Nat.reduceSub, Nat.reduceEqDiff, Nat.reduceLT, ↓reduceIte, Int.reduceToNat, Int.reduceAdd, Int.reduceSub, Int.reduceMul, Int.reduceLT, Int.reduceLE, Int.reduceEq, Nat.reduceLeDiff,  l1]
  refine hK2 _ _ ?_
  clear hK2 hX2 K2 l1
  have hF2 := b0.trans (hB2.mono hz1)
  have hz2 := hF2.size
  have r2 := r0.below hB2
  have l2 := load_game r2
  cases hfew : fewB G with
  | false =>
    refine W_if_t rfl ?_
    refine W_piece fun K2 hK2 hX2 => ?_
    simp +contextual (maxSteps := 2000000) (disch := (first | omega | (simp only [SZ]; done) | (simp only [SZ]; omega) | (simp only [TS] at *; omega))) only [RZ, gval, gslot, fillL, ovw, numb, catL, ldN, agL, okC, oneC, init, Nat.reduceAdd, Nat.reduceMul, Nat.reduceSub, Nat.reduceEqDiff, Nat.reduceLT, ↓reduceIte, Int.reduceToNat, Int.reduceAdd, Int.reduceSub, Int.reduceMul, Int.reduceLT, Int.reduceLE, Int.reduceEq, Nat.reduceLeDiff]
    refine (awake_any w2 (hW.below hF2 hw5) (by omega)).mono ?_
    rintro e wz ⟨rfl, hBz⟩
    refine ⟨_, rfl, ?_⟩
    try simp +contextual (maxSteps := 2000000) (disch := (first | omega | (simp only [SZ]; done) | (simp only [SZ]; omega) | (simp only [TS] at *; omega))) only [RZ, gval, gslot, fillL, ovw, numb, catL, ldN, agL, okC, oneC, init, Nat.reduceAdd, Nat.reduceMul, Nat.reduceSub, Nat.reduceEqDiff, Nat.reduceLT, ↓reduceIte, Int.reduceToNat, Int.reduceAdd, Int.reduceSub, Int.reduceMul, Int.reduceLT, Int.reduceLE, Int.reduceEq, Nat.reduceLeDiff]
    refine hK2 _ _ ?_
    clear hK2 hX2 K2
    rw [W_ret]
    refine hX _ _ _ (fun h => by cases h) ?_
    simp +contextual (maxSteps := 2000000) (disch := (first | omega | (simp only [SZ]; done) | (simp only [SZ]; omega) | (simp only [TS] at *; omega))) only [RZ, gval, gslot, fillL, ovw, numb, catL, ldN, agL, okC, oneC, init, Nat.reduceAdd, Nat.reduceMul, Nat.reduceSub, Nat.reduceEqDiff, Nat.reduceLT, ↓reduceIte, Int.reduceToNat, Int.reduceAdd, Int.reduceSub, Int.reduceMul, Int.reduceLT, Int.reduceLE, Int.reduceEq, Nat.reduceLeDiff]
    exact hF2.trans (hBz.mono hz2)
  | true =>
  refine W_if_f rfl ?_
  rw [W_skip]
  refine hK _ _ ?_
  clear hK hX K
  refine W_piece fun K hK hX => ?_
  simp +contextual (maxSteps := 2000000) (disch := (first | omega | (simp only [SZ]; done) | (simp only [SZ]; omega) | (simp only [TS] at *; omega))) only [RZ, gval, gslot, fillL, ovw, numb, catL, ldN, agL, okC, oneC, init, Nat.reduceAdd, Nat.reduceMul, Nat.reduceSub, Nat.reduceEqDiff, Nat.reduceLT, ↓reduceIte, Int.reduceToNat, Int.reduceAdd, Int.reduceSub, Int.reduceMul, Int.reduceLT, Int.reduceLE, Int.reduceEq, Nat.reduceLeDiff,  l2]
  refine (print_any G Va Vt w2 (hW.below hF2 hw5) (by omega) (hG.below hF2) (few_little hfew)).mono ?_
  rintro e w3 ⟨rfl, hB3⟩
  refine ⟨_, rfl, ?_⟩
  try simp +contextual (maxSteps := 2000000) (disch := (first | omega | (simp only [SZ]; done) | (simp only [SZ]; omega) | (simp only [TS] at *; omega))) only [RZ, gval, gslot, fillL, ovw, numb, catL, ldN, agL, okC, oneC, init, Nat.reduceAdd, Nat.reduceMul, Nat.reduceSub, Nat.reduceEqDiff, Nat.reduceLT, ↓reduceIte, Int.reduceToNat, Int.reduceAdd, Int.reduceSub, Int.reduceMul, Int.reduceLT, Int.reduceLE, Int.reduceEq, Nat.reduceLeDiff,  l2]
  refine hK _ _ ?_
  clear hK hX K l2
  have hF3 := hF2.trans (hB3.mono hz2)
  have hz3 := hF3.size
  have r3 := r2.below hB3
  by_cases hp : printG G = []
  · have e1 : (toBA (printG G) = (⟨#[]⟩ : ByteArray)) = True := eq_true (print_none.2 hp)
    refine W_piece fun K hK hX => ?_
    refine W_piece fun K2 hK2 hX2 => ?_
    simp +contextual (maxSteps := 2000000) (disch := (first | omega | (simp only [SZ]; done) | (simp only [SZ]; omega) | (simp only [TS] at *; omega))) only [RZ, gval, gslot, fillL, ovw, numb, catL, ldN, agL, okC, oneC, init, Nat.reduceAdd, Nat.reduceMul, Nat.reduceSub, Nat.reduceEqDiff, Nat.reduceLT, ↓reduceIte, Int.reduceToNat, Int.reduceAdd, Int.reduceSub, Int.reduceMul, Int.reduceLT, Int.reduceLE, Int.reduceEq, Nat.reduceLeDiff,  e1]
    refine hK2 _ _ ?_
    clear hK2 hX2 K2
    refine W_if_t rfl ?_
    refine W_piece fun K2 hK2 hX2 => ?_
    simp +contextual (maxSteps := 2000000) (disch := (first | omega | (simp only [SZ]; done) | (simp only [SZ]; omega) | (simp only [TS] at *; omega))) only [RZ, gval, gslot, fillL, ovw, numb, catL, ldN, agL, okC, oneC, init, Nat.reduceAdd, Nat.reduceMul, Nat.reduceSub, Nat.reduceEqDiff, Nat.reduceLT, ↓reduceIte, Int.reduceToNat, Int.reduceAdd, Int.reduceSub, Int.reduceMul, Int.reduceLT, Int.reduceLE, Int.reduceEq, Nat.reduceLeDiff]
    refine (awake_any w3 (hW.below hF3 hw5) (by omega)).mono ?_
    rintro e wz ⟨rfl, hBz⟩
    refine ⟨_, rfl, ?_⟩
    try simp +contextual (maxSteps := 2000000) (disch := (first | omega | (simp only [SZ]; done) | (simp only [SZ]; omega) | (simp only [TS] at *; omega))) only [RZ, gval, gslot, fillL, ovw, numb, catL, ldN, agL, okC, oneC, init, Nat.reduceAdd, Nat.reduceMul, Nat.reduceSub, Nat.reduceEqDiff, Nat.reduceLT, ↓reduceIte, Int.reduceToNat, Int.reduceAdd, Int.reduceSub, Int.reduceMul, Int.reduceLT, Int.reduceLE, Int.reduceEq, Nat.reduceLeDiff]
    refine hK2 _ _ ?_
    clear hK2 hX2 K2
    rw [W_ret]
    refine hX _ _ _ (fun h => by cases h) ?_
    simp +contextual (maxSteps := 2000000) (disch := (first | omega | (simp only [SZ]; done) | (simp only [SZ]; omega) | (simp only [TS] at *; omega))) only [RZ, gval, gslot, fillL, ovw, numb, catL, ldN, agL, okC, oneC, init, Nat.reduceAdd, Nat.reduceMul, Nat.reduceSub, Nat.reduceEqDiff, Nat.reduceLT, ↓reduceIte, Int.reduceToNat, Int.reduceAdd, Int.reduceSub, Int.reduceMul, Int.reduceLT, Int.reduceLE, Int.reduceEq, Nat.reduceLeDiff]
    exact hF3.trans (hBz.mono hz3)
  · have e1 : (toBA (printG G) = (⟨#[]⟩ : ByteArray)) = False := eq_false (fun h => hp (print_none.1 h))
    refine W_piece fun K hK hX => ?_
    refine W_piece fun K2 hK2 hX2 => ?_
    simp +contextual (maxSteps := 2000000) (disch := (first | omega | (simp only [SZ]; done) | (simp only [SZ]; omega) | (simp only [TS] at *; omega))) only [RZ, gval, gslot, fillL, ovw, numb, catL, ldN, agL, okC, oneC, init, Nat.reduceAdd, Nat.reduceMul, Nat.reduceSub, Nat.reduceEqDiff, Nat.reduceLT, ↓reduceIte, Int.reduceToNat, Int.reduceAdd, Int.reduceSub, Int.reduceMul, Int.reduceLT, Int.reduceLE, Int.reduceEq, Nat.reduceLeDiff,  e1]
    refine hK2 _ _ ?_
    clear hK2 hX2 K2
    refine W_if_f rfl ?_
    rw [W_skip]
    refine hK _ _ ?_
    clear hK hX K
    have hps := print_size G
    refine W_piece fun K hK hX => ?_
    simp +contextual (maxSteps := 2000000) (disch := (first | omega | (simp only [SZ]; done) | (simp only [SZ]; omega) | (simp only [TS] at *; omega))) only [RZ, gval, gslot, fillL, ovw, numb, catL, ldN, agL, okC, oneC, init, Nat.reduceAdd, Nat.reduceMul, Nat.reduceSub, Nat.reduceEqDiff, Nat.reduceLT, ↓reduceIte, Int.reduceToNat, Int.reduceAdd, Int.reduceSub, Int.reduceMul, Int.reduceLT, Int.reduceLE, Int.reduceEq, Nat.reduceLeDiff]
    refine (parse_ex (q := G) (er := 0) (ln := 0) (by omega) (hW.below hF3 hw5) (by omega) (print_back hp)).mono ?_
    rintro e w4 ⟨hB4, Va4, Vt4, rfl, hG4⟩
    refine ⟨_, rfl, ?_⟩
    have r4 := r3.below hB4
    have hF4 := hF3.trans (hB4.mono hz3)
    have hz4 := hF4.size
    obtain ⟨⟨Aa4, ca4, Vs4, rfl, _⟩, At4, ct4, rfl, _⟩ := id hG4
    rw [show gmV G (.slice Aa4 G.addons.length ca4) (.slice At4 G.tiers.length ct4) = .string G.name :: (gmV G (.slice Aa4 G.addons.length ca4) (.slice At4 G.tiers.length ct4)).tail from rfl]
    simp only [gmV, List.tail_cons]
    simp +contextual (maxSteps := 2000000) (disch := (first | omega | (simp only [SZ]; done) | (simp only [SZ]; omega) | (simp only [TS] at *; omega))) only [RZ, gval, gslot, fillL, ovw, numb, catL, ldN, agL, okC, oneC, init, Nat.reduceAdd, Nat.reduceMul, Nat.reduceSub, Nat.reduceEqDiff, Nat.reduceLT, ↓reduceIte, Int.reduceToNat, Int.reduceAdd, Int.reduceSub, Int.reduceMul, Int.reduceLT, Int.reduceLE, Int.reduceEq, Nat.reduceLeDiff]
    refine hK _ _ ?_
    clear hK hX K
    refine W_gen fun w5 hw5' => ?_
    have hB5 : Below w4.heap.size w4 w5 := by rw [hw5']; exact below_alloc w4 _
    have q5 : Row w5 w4.heap.size 25 (gmV G (.slice Aa4 G.addons.length ca4) (.slice At4 G.tiers.length ct4)) := by rw [hw5']; exact Row.new w4 _ _
    clear hw5'
    have r5 := r4.below hB5
    have hF5 := hF4.trans (hB5.mono hz4)
    have hz5 := hF5.size
    have lA := load_game r5
    have lB := load_game q5
    refine W_piece fun K hK hX => ?_
    simp +contextual (maxSteps := 2000000) (disch := (first | omega | (simp only [SZ]; done) | (simp only [SZ]; omega) | (simp only [TS] at *; omega))) only [RZ, gval, gslot, fillL, ovw, numb, catL, ldN, agL, okC, oneC, init, Nat.reduceAdd, Nat.reduceMul, Nat.reduceSub, Nat.reduceEqDiff, Nat.reduceLT, ↓reduceIte, Int.reduceToNat, Int.reduceAdd, Int.reduceSub, Int.reduceMul, Int.reduceLT, Int.reduceLE, Int.reduceEq, Nat.reduceLeDiff,  lA, lB]
    refine (same_any G Va Vt (.slice Aa4 G.addons.length ca4) (.slice At4 G.tiers.length ct4) w5 (hG.below hF5) (hG4.below hB5) (few_little hfew)).mono ?_
    rintro e w6 ⟨rfl, hB6⟩
    refine ⟨_, rfl, ?_⟩
    have hF6 := hF5.trans (hB6.mono hz5)
    have hz6 := hF6.size
    try simp +contextual (maxSteps := 2000000) (disch := (first | omega | (simp only [SZ]; done) | (simp only [SZ]; omega) | (simp only [TS] at *; omega))) only [RZ, gval, gslot, fillL, ovw, numb, catL, ldN, agL, okC, oneC, init, Nat.reduceAdd, Nat.reduceMul, Nat.reduceSub, Nat.reduceEqDiff, Nat.reduceLT, ↓reduceIte, Int.reduceToNat, Int.reduceAdd, Int.reduceSub, Int.reduceMul, Int.reduceLT, Int.reduceLE, Int.reduceEq, Nat.reduceLeDiff]
    refine (awake_any w6 (hW.below hF6 hw5) (by omega)).mono ?_
    rintro e wz ⟨rfl, hBz⟩
    refine ⟨_, rfl, ?_⟩
    try simp +contextual (maxSteps := 2000000) (disch := (first | omega | (simp only [SZ]; done) | (simp only [SZ]; omega) | (simp only [TS] at *; omega))) only [RZ, gval, gslot, fillL, ovw, numb, catL, ldN, agL, okC, oneC, init, Nat.reduceAdd, Nat.reduceMul, Nat.reduceSub, Nat.reduceEqDiff, Nat.reduceLT, ↓reduceIte, Int.reduceToNat, Int.reduceAdd, Int.reduceSub, Int.reduceMul, Int.reduceLT, Int.reduceLE, Int.reduceEq, Nat.reduceLeDiff]
    refine hK _ _ ?_
    clear hK hX K
    simp +contextual (maxSteps := 2000000) (disch := (first | omega | (simp only [SZ]; done) | (simp only [SZ]; omega) | (simp only [TS] at *; omega))) only [RZ, gval, gslot, fillL, ovw, numb, catL, ldN, agL, okC, oneC, init, Nat.reduceAdd, Nat.reduceMul, Nat.reduceSub, Nat.reduceEqDiff, Nat.reduceLT, ↓reduceIte, Int.reduceToNat, Int.reduceAdd, Int.reduceSub, Int.reduceMul, Int.reduceLT, Int.reduceLE, Int.reduceEq, Nat.reduceLeDiff]
    exact hF6.trans (hBz.mono hz6)
end Go.Proofs.YtbdkggnajipdhaaDoor
/- What the row says of the listed variables, as the walks ask it; the witness's world. -/
namespace Go.Proofs.YtbdkggnajipdhaaDoor
open Go.ChangeShapes Go.WideShapes Go.ChangeAt Go.WideMaps Go.WideElems Go.RowKit Go.Joins Go.Deep
set_option maxRecDepth 100000
def laidL : List (String × DataW Unit) := Rows.ruletextRoundTripsRow.laid
theorem days_data : (Rows.laid_lottery_ruletext_dayNames : DataW Unit) = .agg (dayW.map fun d => .lit (.string (d.map UInt8.ofNat))) := by kernel_rfl
theorem days_cells {W : World} {fuel : Nat} {cs : List Value} {p : List MemPlace} (h : DataW.trod (fun _ => ()) Tryd.prog W 0 (fun _ => true) false fuel 79 cs = some (Rows.laid_lottery_ruletext_dayNames, p)) :
    ∀ (i : Nat) (v : Value), dayC[i]? = some v → cs[i]? = some v := by
  rw [days_data] at h
  obtain ⟨xs, m, rfl, hx, hlen, hn, hel⟩ := DataW.trod_array Tryd.underlying79 h
  have hC : Tryd.prog.cellsOf 9 = 1 := by kernel_rfl
  rw [hC] at hel
  simp only [Prod.mk.injEq, DataW.agg.injEq] at hx
  intro i v hv
  unfold dayC at hv
  rw [List.getElem?_map] at hv
  obtain ⟨d, hd, rfl⟩ := Option.map_eq_some_iff.1 hv
  have hi : i < 7 := (List.getElem?_eq_some_iff.1 hd).1
  have h1 := hel i hi
  have h2 : (xs.map (·.1))[i]? = some (.lit (.string (d.map UInt8.ofNat))) := by rw [← hx.1, List.getElem?_map, hd]; rfl
  rw [List.getElem?_map] at h2
  obtain ⟨x, hxi, hx2⟩ := Option.map_eq_some_iff.1 h2
  rw [hxi] at h1
  obtain ⟨s1, e1, d1, _⟩ := DataW.trod_string Tryd.underlying9 h1
  subst d1
  simp only [DataW.lit.injEq, Lit.string.injEq] at hx2
  have t1 : s1 = toBA d := by
    apply ByteArray.ext; apply Array.ext'; rw [hx2]; rfl
  subst t1
  have := congrArg (·[0]?) e1
  simp only [List.getElem?_cons_zero] at this
  rw [List.getElem?_take_of_lt (by decide), List.getElem?_drop] at this
  simpa using this
theorem laid_of {W : World} (h : laidMetH Tryd.prog laidL W) : Laid W := by
  rw [MakeChecks.laidMetH_plain _ _ _ (by kernel_rfl)] at h
  obtain ⟨ps, hv, _⟩ := h
  obtain ⟨g0, t0, cs0, f0, p0, q0, hg0, ht0, hv0, hd0, hr0, _⟩ := hv
  obtain ⟨g1, t1, cs1, f1, p1, q1, hg1, ht1, hv1, hd1, hr1, _⟩ := hr0
  obtain ⟨g2, t2, cs2, f2, p2, q2, hg2, ht2, hv2, hd2, hr2, _⟩ := hr1
  obtain ⟨g3, t3, cs3, f3, p3, q3, hg3, ht3, hv3, hd3, hr3, _⟩ := hr2
  obtain rfl := Option.some.inj ((show Tryd.prog.globalNamed "math/bits.deBruijn64tab" = some 4 by kernel_rfl).symm.trans hg1)
  obtain rfl := Option.some.inj ((show Tryd.prog.globalNamed "internal/strconv.uint64pow10" = some 2 by kernel_rfl).symm.trans hg2)
  obtain rfl := Option.some.inj ((show Tryd.prog.globalNamed "lottery/ruletext.dayNames" = some 0 by kernel_rfl).symm.trans hg3)
  obtain rfl := Option.some.inj ((show (Tryd.prog.globals[2]?).map (·.type) = some 119 by kernel_rfl).symm.trans ht2)
  obtain rfl := Option.some.inj ((show (Tryd.prog.globals[0]?).map (·.type) = some 79 by kernel_rfl).symm.trans ht3)
  refine ⟨?_, fun i v hi => ?_, ?_⟩
  · have : W.heap[4]?.isSome = true := by
      unfold World.var? at hv1
      rw [hg1] at hv1
      simp only [Option.bind_some] at hv1
      cases hh : W.heap[4]? with
      | none => rw [hh] at hv1; simp at hv1
      | some o => rfl
    obtain ⟨o, ho⟩ := Option.isSome_iff_exists.1 this
    exact (Array.getElem?_eq_some_iff.1 ho).1
  · rw [World.var?_cell hg3 hv3 i]
    have := days_cells hd3 i v hi
    simpa using this
  · have hc := Lib.cells_of_tab (k := .u64) (zs := Lib.pow10Tab) Tryd.underlying119 Tryd.underlying112 (by kernel_rfl) (by kernel_rfl) (show DataW.trod _ _ _ _ _ _ _ _ _ = some (Lib.tabData .u64 Lib.pow10Tab, p2) from hd2)
    unfold Lib.TabIs
    rw [hv2, ← hc]
/-- The door's own heap meets the condition. -/
theorem door_met (os : Os) (args : Array Value) : laidMetH Tryd.prog laidL ((World.doorLaid Tryd.prog 4000 os).forCall (fun _ _ => 0) ⟨#[], args, []⟩).memory :=
  laidMetH_of_parts3 (fuel := 8) (laidMet_of_run' 8 (by kernel_rfl) (by kernel_rfl)) (by kernel_rfl) (by kernel_rfl)
end Go.Proofs.YtbdkggnajipdhaaDoor
