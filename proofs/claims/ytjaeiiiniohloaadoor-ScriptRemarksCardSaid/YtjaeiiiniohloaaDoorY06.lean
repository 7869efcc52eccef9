/- Texts laid one behind the other: ScrL, ScrM, ScrB, ScrA. Each says at its head what it proves. -/
import Derived.Test.YtjaeiiiniohloaaDoorY05
set_option linter.unusedSimpArgs false
/- Walks: script.quote, the reference's quote. -/
namespace Go.Proofs.YtjaeiiiniohloaaDoor
open Go.RowKit
set_option maxRecDepth 100000
theorem Okv_of {P : Program} {R : Value → World → Prop} {r : Result Next} {v : Value} {w : World} (he : r = .ok (.value v) w) (h : R v w) : Okv P R r := by rw [he, Okv_value]; exact h
theorem BytIn.pushN {base : Nat} {w : World} {v : Value} {X : List Nat} (h : BytIn base w v X) (hb : base ≤ w.heap.size) (ns : List Nat) (hn : ∀ n ∈ ns, n < 256) (hl : X.length + ns.length ≤ 100000000) :
    ∃ v' w2, vAppend Tryd.prog 40 40 40 v (.slice (some ⟨w.heap.size, 0, none⟩) ns.length ns.length) (w.alloc (.cells (byV ns).toArray 5)) = .ok (.value v') w2 ∧ BytIn base w2 v' (X ++ ns) ∧ Below base w w2 ∧ w.heap.size ≤ w2.heap.size := by
  obtain ⟨g, c, rfl, ho, hx, _⟩ := h
  have hI : sliceI Tryd.prog 40 = some (5, 1, 1) := by kernel_rfl
  have hba := below_alloc w (.cells (byV ns).toArray 5)
  obtain ⟨A', c', w2, he, ho2, hg', hbk⟩ := vAppend_own (P := Tryd.prog) (T := 40) (ty := 40) (m := ns.length) (c := ns.length) (b := w.heap.size) (o := 0) (news := byV ns) hI (owns_below ho hba) (by simp [byV])
    (fun j u hu => by rw [Nat.zero_add, (new_block w (byV ns).toArray 5).1 j]; simpa using hu) (fun u hu => by obtain ⟨n, _, rfl⟩ := List.mem_map.1 hu; rfl) (by omega) (by omega) (by rw [World.size_alloc]; omega)
  have hgrow : Below base (w.alloc (.cells (byV ns).toArray 5)) w2 := grown_below hg' (fun g hg => (owns_ge ho hg).1) (by rw [World.size_alloc]; omega)
  have hB := (hba.mono hb).trans hgrow
  have hne : (Value.slice A' (X.length + ns.length) c').ownBlock ≠ none := by rcases hbk with h | h <;> rw [h] <;> simp [Value.ownBlock]
  have hg2 : ∃ g2, A' = some ⟨g2, 0, none⟩ := by
    rcases ho2.2 with ⟨he2, _⟩ | ⟨g2, cap, cur, he2, _⟩
    · rw [he2] at hne; exact absurd rfl hne
    · injection he2 with e1
      exact ⟨g2, e1⟩
  obtain ⟨g2, rfl⟩ := hg2
  refine ⟨_, w2, he, ⟨g2, c', by rw [List.length_append], ?_, fun m hm => ?_, by rw [List.length_append]; exact hl⟩, hB, hB.size⟩
  · rw [List.length_append]
    unfold byV at *
    rw [List.map_append]
    exact ho2
  · rcases List.mem_append.1 hm with h | h
    · exact hx m h
    · exact hn m h
theorem BytIn.lit (w : World) (base : Nat) (X : List Nat) (hb : base ≤ w.heap.size) (hx : ∀ n ∈ X, n < 256) (hl : X.length ≤ 100000000) : BytIn base (w.alloc (.cells (byV X).toArray 5)) (.slice (some ⟨w.heap.size, 0, none⟩) X.length X.length) X :=
  ⟨_, _, rfl, ⟨by simp [byV], .inr ⟨w.heap.size, X.length, _, rfl, hb, heap_alloc_new w _, Nat.le_refl _, by unfold maxLen; omega, by simp [byV], by simp only [Nat.mul_one]; exact List.take_of_length_le (by simp [byV])⟩⟩, hx, hl⟩
theorem hexC {q : Nat} (h : q < 16) : bt ⟨#[48, 49, 50, 51, 52, 53, 54, 55, 56, 57, 97, 98, 99, 100, 101, 102]⟩ q = hexd q := by
  have : ∀ q : Fin 16, bt ⟨#[48, 49, 50, 51, 52, 53, 54, 55, 56, 57, 97, 98, 99, 100, 101, 102]⟩ q.1 = hexd q.1 := by decide
  exact this ⟨q, h⟩
theorem qB_le (l : List Nat) : (l.flatMap qB).length ≤ 4 * l.length := flat_le qB 4 l fun x _ => qB_len x
theorem take_bt {s : ByteArray} {k : Nat} (h : k < s.size) : (bs s).take (k + 1) = (bs s).take k ++ [bt s k] := by
  rw [List.take_add_one, bs_get h]; rfl
theorem hexd_lt (q : Nat) (h : q < 16) : hexd q < 256 := by have := hexd_bd h; omega
set_option maxHeartbeats 1000000 in
theorem quote_any (s : ByteArray) (w : World) (hs : s.size ≤ 1000000) : Calls Tryd.prog 41 #[.string s] w fun e w' => e = .returned (.string (toBA (quoteL (bs s)))) ∧ Below w.heap.size w w' := by
  refine calls_W (l := [_]) Tryd.func41 rfl _ Tryd.ntmps41 (by simp) ?_
  simp +contextual (maxSteps := 2000000) (disch := (first | omega | (simp only [SZ]; done) | (simp only [SZ]; omega) | (simp only [TS] at *; omega))) only [RZ, gval, gslot, fillL, ovw, numb, catL, ldN, agL, okC, oneC, init, Nat.reduceAdd, Nat.reduceMul, Nat.reduceSub, Nat.reduceEqDiff, Nat.reduceLT, ↓reduceIte, Int.reduceToNat, Int.reduceAdd, Int.reduceSub, Int.reduceMul, Int.reduceLT, Int.reduceLE, Int.reduceEq, Nat.reduceLeDiff]
  rw [vMakeSlice_lc (e := 5) (size := 1) (bytes := 1) (z := .int .u8 0) (by kernel_rfl) (by kernel_rfl) (by omega) (by omega) (by omega) (by omega)]
  have hB1 := BytIn.make w w.heap.size ((s.size : Int) + 2).toNat (Nat.le_refl _) (by omega)
  have hb1 := below_alloc w (.cells (madeCells #[.int .u8 0] (((s.size : Int) + 2).toNat * 1)) 5)
  have hs1 : (w.alloc (.cells (madeCells #[.int .u8 0] (((s.size : Int) + 2).toNat * 1)) 5)).heap.size = w.heap.size + 1 := by simp
  simp +contextual (maxSteps := 2000000) (disch := (first | omega | (simp only [SZ]; done) | (simp only [SZ]; omega) | (simp only [TS] at *; omega))) only [RZ, gval, gslot, fillL, ovw, numb, catL, ldN, agL, okC, oneC, init, Nat.reduceAdd, Nat.reduceMul, Nat.reduceSub, Nat.reduceEqDiff, Nat.reduceLT, ↓reduceIte, Int.reduceToNat, Int.reduceAdd, Int.reduceSub, Int.reduceMul, Int.reduceLT, Int.reduceLE, Int.reduceEq, Nat.reduceLeDiff]
  rw [Nat.mul_one] at hB1 hb1 hs1
  generalize w.alloc (.cells (madeCells #[.int .u8 0] (((s.size : Int) + 2).toNat)) 5) = w1 at *
  obtain ⟨v1, w2, he1, hX1, hbb, hs2⟩ := hB1.push (by omega) 34 (by decide) (by simp)
  rw [hs1] at he1
  have hbw2 := hb1.trans hbb
  refine Okv_of he1 ?_
  clear he1 hB1 hb1 hbb
  refine Raw_loop (fun σ w3 => Below w.heap.size w w3 ∧ w.heap.size ≤ w3.heap.size ∧ ∃ (k : Nat) (v : Value), k ≤ s.size ∧ BytIn w.heap.size w3 v (34 :: ((bs s).take k).flatMap qB) ∧ σ 0 = .string s ∧ σ 3 = v ∧ σ 14 = .int .i64 s.size ∧ σ 15 = .int .i64 k) (fun σ _ => s.size - (intOf (σ 15)).toNat) ?_ ?_
  · simp +contextual (maxSteps := 2000000) (disch := (first | omega | (simp only [SZ]; done) | (simp only [SZ]; omega) | (simp only [TS] at *; omega))) only [RZ, gval, gslot, fillL, ovw, numb, catL, ldN, agL, okC, oneC, init, Nat.reduceAdd, Nat.reduceMul, Nat.reduceSub, Nat.reduceEqDiff, Nat.reduceLT, ↓reduceIte, Int.reduceToNat, Int.reduceAdd, Int.reduceSub, Int.reduceMul, Int.reduceLT, Int.reduceLE, Int.reduceEq, Nat.reduceLeDiff]
    exact ⟨hbw2, by omega, 0, _, by omega, hX1, rfl, rfl⟩
  clear hX1 hs2 hbw2
  rintro σ w3 ⟨hB, hs3, k, v, hk, hX, f0, f3, f14, f15⟩ K hK
  have hltk := bt_lt s k
  have hql := qB_le ((bs s).take k)
  have htl : ((bs s).take k).length ≤ k := by rw [List.length_take]; omega
  have hfin : k < s.size → ∀ v' w4, BytIn w.heap.size w4 v' ((34 :: ((bs s).take k).flatMap qB) ++ qB (bt s k)) → BytIn w.heap.size w4 v' (34 :: ((bs s).take (k + 1)).flatMap qB) := fun hkl v' w4 h => by
    rw [take_bt hkl, List.flatMap_append, List.flatMap_cons, List.flatMap_nil, List.append_nil]
    exact h
  have hend : k = s.size → 34 :: ((bs s).take k).flatMap qB = 34 :: (bs s).flatMap qB := fun h => by rw [List.take_of_length_le (by rw [bs_len]; omega)]
  have hXl : (34 :: ((bs s).take k).flatMap qB).length ≤ 1 + 4 * k := by rw [List.length_cons]; omega
  generalize 34 :: ((bs s).take k).flatMap qB = X at *
  simp +contextual (maxSteps := 2000000) (disch := (first | omega | (simp only [SZ]; done) | (simp only [SZ]; omega) | (simp only [TS] at *; omega))) only [RZ, gval, gslot, fillL, ovw, numb, catL, ldN, agL, okC, oneC, init, Nat.reduceAdd, Nat.reduceMul, Nat.reduceSub, Nat.reduceEqDiff, Nat.reduceLT, ↓reduceIte, Int.reduceToNat, Int.reduceAdd, Int.reduceSub, Int.reduceMul, Int.reduceLT, Int.reduceLE, Int.reduceEq, Nat.reduceLeDiff,  f0, f3, f14, f15]
  (refine W_if rfl (fun hc => ?_) (fun hc => ?_) <;> (try simp only [TS] at hc))
  · have hkl : k < s.size := by omega
    have fin := hfin hkl
    clear hc
    simp +contextual (maxSteps := 2000000) (disch := (first | omega | (simp only [SZ]; done) | (simp only [SZ]; omega) | (simp only [TS] at *; omega))) only [RZ, gval, gslot, fillL, ovw, numb, catL, ldN, agL, okC, oneC, init, Nat.reduceAdd, Nat.reduceMul, Nat.reduceSub, Nat.reduceEqDiff, Nat.reduceLT, ↓reduceIte, Int.reduceToNat, Int.reduceAdd, Int.reduceSub, Int.reduceMul, Int.reduceLT, Int.reduceLE, Int.reduceEq, Nat.reduceLeDiff,  f0, f3, f14, f15]
    refine (plain_any (bt s k) w3 hltk).mono ?_
    rintro e w4 ⟨rfl, rfl⟩
    refine ⟨_, rfl, ?_⟩
    unfold qB at fin
    simp +contextual (maxSteps := 2000000) (disch := (first | omega | (simp only [SZ]; done) | (simp only [SZ]; omega) | (simp only [TS] at *; omega))) only [RZ, gval, gslot, fillL, ovw, numb, catL, ldN, agL, okC, oneC, init, Nat.reduceAdd, Nat.reduceMul, Nat.reduceSub, Nat.reduceEqDiff, Nat.reduceLT, ↓reduceIte, Int.reduceToNat, Int.reduceAdd, Int.reduceSub, Int.reduceMul, Int.reduceLT, Int.reduceLE, Int.reduceEq, Nat.reduceLeDiff,  f0, f3, f14, f15]
    (refine W_if rfl (fun hc => ?_) (fun hc => ?_) <;> (try simp only [TS] at hc))
    · obtain ⟨v', w4, he, hX4, hb4, hs4⟩ := hX.push hs3 (bt s k) hltk (by omega)
      rw [if_pos hc] at fin
      simp +contextual (maxSteps := 2000000) (disch := (first | omega | (simp only [SZ]; done) | (simp only [SZ]; omega) | (simp only [TS] at *; omega))) only [RZ, gval, gslot, fillL, ovw, numb, catL, ldN, agL, okC, oneC, init, Nat.reduceAdd, Nat.reduceMul, Nat.reduceSub, Nat.reduceEqDiff, Nat.reduceLT, ↓reduceIte, Int.reduceToNat, Int.reduceAdd, Int.reduceSub, Int.reduceMul, Int.reduceLT, Int.reduceLE, Int.reduceEq, Nat.reduceLeDiff,  f0, f3, f14, f15, he]
      refine hK _ _ ⟨hB.trans hb4, by omega, k + 1, v', by omega, fin _ _ hX4, ?_⟩ ?_
      · simp +contextual (maxSteps := 2000000) (disch := (first | omega | (simp only [SZ]; done) | (simp only [SZ]; omega) | (simp only [TS] at *; omega))) only [RZ, gval, gslot, fillL, ovw, numb, catL, ldN, agL, okC, oneC, init, Nat.reduceAdd, Nat.reduceMul, Nat.reduceSub, Nat.reduceEqDiff, Nat.reduceLT, ↓reduceIte, Int.reduceToNat, Int.reduceAdd, Int.reduceSub, Int.reduceMul, Int.reduceLT, Int.reduceLE, Int.reduceEq, Nat.reduceLeDiff,  f0, f3, f14, f15]
      · simp +contextual (maxSteps := 2000000) (disch := (first | omega | (simp only [SZ]; done) | (simp only [SZ]; omega) | (simp only [TS] at *; omega))) only [RZ, gval, gslot, fillL, ovw, numb, catL, ldN, agL, okC, oneC, init, Nat.reduceAdd, Nat.reduceMul, Nat.reduceSub, Nat.reduceEqDiff, Nat.reduceLT, ↓reduceIte, Int.reduceToNat, Int.reduceAdd, Int.reduceSub, Int.reduceMul, Int.reduceLT, Int.reduceLE, Int.reduceEq, Nat.reduceLeDiff,  intOf, f15]
        omega
    rw [if_neg (by rw [hc]; decide)] at fin
    clear hc
    simp +contextual (maxSteps := 2000000) (disch := (first | omega | (simp only [SZ]; done) | (simp only [SZ]; omega) | (simp only [TS] at *; omega))) only [RZ, gval, gslot, fillL, ovw, numb, catL, ldN, agL, okC, oneC, init, Nat.reduceAdd, Nat.reduceMul, Nat.reduceSub, Nat.reduceEqDiff, Nat.reduceLT, ↓reduceIte, Int.reduceToNat, Int.reduceAdd, Int.reduceSub, Int.reduceMul, Int.reduceLT, Int.reduceLE, Int.reduceEq, Nat.reduceLeDiff,  f0, f3, f14, f15]
    (refine W_if rfl (fun hc => ?_) (fun hc => ?_) <;> (try simp only [TS] at hc))
    · obtain ⟨v', w4, he, hX4, hb4, hs4⟩ := hX.pushN hs3 [92, bt s k] (by simp; omega) (by simp only [List.length_cons, List.length_nil]; omega)
      rw [if_pos (by omega)] at fin
      simp +contextual (maxSteps := 2000000) (disch := (first | omega | (simp only [SZ]; done) | (simp only [SZ]; omega) | (simp only [TS] at *; omega))) only [RZ, gval, gslot, fillL, ovw, numb, catL, ldN, agL, okC, oneC, init, Nat.reduceAdd, Nat.reduceMul, Nat.reduceSub, Nat.reduceEqDiff, Nat.reduceLT, ↓reduceIte, Int.reduceToNat, Int.reduceAdd, Int.reduceSub, Int.reduceMul, Int.reduceLT, Int.reduceLE, Int.reduceEq, Nat.reduceLeDiff,  f0, f3, f14, f15]
      refine Okv_of he (hK _ _ ⟨hB.trans hb4, by omega, k + 1, v', by omega, fin _ _ hX4, ?_⟩ ?_)
      · simp +contextual (maxSteps := 2000000) (disch := (first | omega | (simp only [SZ]; done) | (simp only [SZ]; omega) | (simp only [TS] at *; omega))) only [RZ, gval, gslot, fillL, ovw, numb, catL, ldN, agL, okC, oneC, init, Nat.reduceAdd, Nat.reduceMul, Nat.reduceSub, Nat.reduceEqDiff, Nat.reduceLT, ↓reduceIte, Int.reduceToNat, Int.reduceAdd, Int.reduceSub, Int.reduceMul, Int.reduceLT, Int.reduceLE, Int.reduceEq, Nat.reduceLeDiff,  f0, f3, f14, f15]
      · simp +contextual (maxSteps := 2000000) (disch := (first | omega | (simp only [SZ]; done) | (simp only [SZ]; omega) | (simp only [TS] at *; omega))) only [RZ, gval, gslot, fillL, ovw, numb, catL, ldN, agL, okC, oneC, init, Nat.reduceAdd, Nat.reduceMul, Nat.reduceSub, Nat.reduceEqDiff, Nat.reduceLT, ↓reduceIte, Int.reduceToNat, Int.reduceAdd, Int.reduceSub, Int.reduceMul, Int.reduceLT, Int.reduceLE, Int.reduceEq, Nat.reduceLeDiff,  intOf, f15]
        omega
    rw [if_neg (by omega)] at fin
    clear hc
    simp +contextual (maxSteps := 2000000) (disch := (first | omega | (simp only [SZ]; done) | (simp only [SZ]; omega) | (simp only [TS] at *; omega))) only [RZ, gval, gslot, fillL, ovw, numb, catL, ldN, agL, okC, oneC, init, Nat.reduceAdd, Nat.reduceMul, Nat.reduceSub, Nat.reduceEqDiff, Nat.reduceLT, ↓reduceIte, Int.reduceToNat, Int.reduceAdd, Int.reduceSub, Int.reduceMul, Int.reduceLT, Int.reduceLE, Int.reduceEq, Nat.reduceLeDiff,  f0, f3, f14, f15]
    (refine W_if rfl (fun hc => ?_) (fun hc => ?_) <;> (try simp only [TS] at hc))
    · obtain ⟨v', w4, he, hX4, hb4, hs4⟩ := hX.pushN hs3 [92, 110] (by simp) (by simp only [List.length_cons, List.length_nil]; omega)
      rw [if_pos (by omega)] at fin
      simp +contextual (maxSteps := 2000000) (disch := (first | omega | (simp only [SZ]; done) | (simp only [SZ]; omega) | (simp only [TS] at *; omega))) only [RZ, gval, gslot, fillL, ovw, numb, catL, ldN, agL, okC, oneC, init, Nat.reduceAdd, Nat.reduceMul, Nat.reduceSub, Nat.reduceEqDiff, Nat.reduceLT, ↓reduceIte, Int.reduceToNat, Int.reduceAdd, Int.reduceSub, Int.reduceMul, Int.reduceLT, Int.reduceLE, Int.reduceEq, Nat.reduceLeDiff,  f0, f3, f14, f15]
      refine Okv_of he (hK _ _ ⟨hB.trans hb4, by omega, k + 1, v', by omega, fin _ _ hX4, ?_⟩ ?_)
      · simp +contextual (maxSteps := 2000000) (disch := (first | omega | (simp only [SZ]; done) | (simp only [SZ]; omega) | (simp only [TS] at *; omega))) only [RZ, gval, gslot, fillL, ovw, numb, catL, ldN, agL, okC, oneC, init, Nat.reduceAdd, Nat.reduceMul, Nat.reduceSub, Nat.reduceEqDiff, Nat.reduceLT, ↓reduceIte, Int.reduceToNat, Int.reduceAdd, Int.reduceSub, Int.reduceMul, Int.reduceLT, Int.reduceLE, Int.reduceEq, Nat.reduceLeDiff,  f0, f3, f14, f15]
      · simp +contextual (maxSteps := 2000000) (disch := (first | omega | (simp only [SZ]; done) | (simp only [SZ]; omega) | (simp only [TS] at *; omega))) only [RZ, gval, gslot, fillL, ovw, numb, catL, ldN, agL, okC, oneC, init, Nat.reduceAdd, Nat.reduceMul, Nat.reduceSub, Nat.reduceEqDiff, Nat.reduceLT, ↓reduceIte, Int.reduceToNat, Int.reduceAdd, Int.reduceSub, Int.reduceMul, Int.reduceLT, Int.reduceLE, Int.reduceEq, Nat.reduceLeDiff,  intOf, f15]
        omega
    rw [if_neg (by omega)] at fin
    clear hc
    have hsz : (⟨#[48, 49, 50, 51, 52, 53, 54, 55, 56, 57, 97, 98, 99, 100, 101, 102]⟩ : ByteArray).size = 16 := rfl
    have x1 : ((bt s k : Nat) : Int) / 16 = ((bt s k / 16 : Nat) : Int) := by omega
    have x2 : ((bt s k : Nat) : Int) % 16 = ((bt s k % 16 : Nat) : Int) := by omega
    have y1 := hexC (q := bt s k / 16) (by omega)
    have y2 := hexC (q := bt s k % 16) (by omega)
    have z1 := hexd_lt (bt s k / 16) (by omega)
    have z2 := hexd_lt (bt s k % 16) (by omega)
    obtain ⟨v', w4, he, hX4, hb4, hs4⟩ := BytIn.pushN (w := w3.drew) hX hs3 [92, 120, hexd (bt s k / 16), hexd (bt s k % 16)] (by simp; omega) (by simp only [List.length_cons, List.length_nil]; omega)
    refine Raw_rc (τ := ?ta) [0, 1, 2, 3, 4, 5, 6] [7, 8, 9] MX rfl (by kernel_rfl) (by kernel_rfl) (by kernel_rfl) (fun _ _ _ h => h) (fun w7 => ?_) ?_; rotate_left
    · simp only [opsL_cons, opsL_nil, List.getElem?_toArray, List.getElem?_cons_zero, List.getElem?_cons_succ, optL_some]
      simp +contextual (maxSteps := 2000000) (disch := (first | omega | (simp only [SZ]; done) | (simp only [SZ]; omega) | (simp only [TS] at *; omega))) only [RZ, gval, gslot, fillL, ovw, numb, catL, ldN, agL, okC, oneC, init, Nat.reduceAdd, Nat.reduceMul, Nat.reduceSub, Nat.reduceEqDiff, Nat.reduceLT, ↓reduceIte, Int.reduceToNat, Int.reduceAdd, Int.reduceSub, Int.reduceMul, Int.reduceLT, Int.reduceLE, Int.reduceEq, Nat.reduceLeDiff,  f0, f3, f14, f15, x1, x2, hsz, y1, y2, Int.toNat_natCast]
      exact rfl
    simp only [opsL_cons, opsL_nil, List.getElem?_toArray, List.getElem?_cons_zero, List.getElem?_cons_succ, optL_some]
    simp +contextual (maxSteps := 2000000) (disch := (first | omega | (simp only [SZ]; done) | (simp only [SZ]; omega) | (simp only [TS] at *; omega))) only [RZ, gval, gslot, fillL, ovw, numb, catL, ldN, agL, okC, oneC, init, Nat.reduceAdd, Nat.reduceMul, Nat.reduceSub, Nat.reduceEqDiff, Nat.reduceLT, ↓reduceIte, Int.reduceToNat, Int.reduceAdd, Int.reduceSub, Int.reduceMul, Int.reduceLT, Int.reduceLE, Int.reduceEq, Nat.reduceLeDiff,  f0, f3, f14, f15]
    refine Okv_of he (hK _ _ ⟨hB.drew.trans hb4, Nat.le_trans hs3 hs4, k + 1, v', by omega, fin _ _ hX4, ?_⟩ ?_)
    · simp +contextual (maxSteps := 2000000) (disch := (first | omega | (simp only [SZ]; done) | (simp only [SZ]; omega) | (simp only [TS] at *; omega))) only [RZ, gval, gslot, fillL, ovw, numb, catL, ldN, agL, okC, oneC, init, Nat.reduceAdd, Nat.reduceMul, Nat.reduceSub, Nat.reduceEqDiff, Nat.reduceLT, ↓reduceIte, Int.reduceToNat, Int.reduceAdd, Int.reduceSub, Int.reduceMul, Int.reduceLT, Int.reduceLE, Int.reduceEq, Nat.reduceLeDiff,  f0, f3, f14, f15]
    · simp +contextual (maxSteps := 2000000) (disch := (first | omega | (simp only [SZ]; done) | (simp only [SZ]; omega) | (simp only [TS] at *; omega))) only [RZ, gval, gslot, fillL, ovw, numb, catL, ldN, agL, okC, oneC, init, Nat.reduceAdd, Nat.reduceMul, Nat.reduceSub, Nat.reduceEqDiff, Nat.reduceLT, ↓reduceIte, Int.reduceToNat, Int.reduceAdd, Int.reduceSub, Int.reduceMul, Int.reduceLT, Int.reduceLE, Int.reduceEq, Nat.reduceLeDiff,  intOf, f15]
      omega
  · have hkl : k = s.size := by omega
    rw [hend hkl] at hX
    have hfl := qB_le (bs s)
    rw [bs_len] at hfl
    obtain ⟨v', w4, he, hX4, hb4, hs4⟩ := hX.push hs3 34 (by decide) (by rw [List.length_cons]; omega)
    obtain ⟨y, hy1, hy2⟩ := hX4.str
    simp +contextual (maxSteps := 2000000) (disch := (first | omega | (simp only [SZ]; done) | (simp only [SZ]; omega) | (simp only [TS] at *; omega))) only [RZ, gval, gslot, fillL, ovw, numb, catL, ldN, agL, okC, oneC, init, Nat.reduceAdd, Nat.reduceMul, Nat.reduceSub, Nat.reduceEqDiff, Nat.reduceLT, ↓reduceIte, Int.reduceToNat, Int.reduceAdd, Int.reduceSub, Int.reduceMul, Int.reduceLT, Int.reduceLE, Int.reduceEq, Nat.reduceLeDiff,  f0, f3, f14, f15]
    refine Okv_of he ?_
    simp +contextual (maxSteps := 2000000) (disch := (first | omega | (simp only [SZ]; done) | (simp only [SZ]; omega) | (simp only [TS] at *; omega))) only [RZ, gval, gslot, fillL, ovw, numb, catL, ldN, agL, okC, oneC, init, Nat.reduceAdd, Nat.reduceMul, Nat.reduceSub, Nat.reduceEqDiff, Nat.reduceLT, ↓reduceIte, Int.reduceToNat, Int.reduceAdd, Int.reduceSub, Int.reduceMul, Int.reduceLT, Int.reduceLE, Int.reduceEq, Nat.reduceLeDiff,  hy2]
    refine ⟨?_, hB.trans hb4⟩
    rw [show quoteL (bs s) = bs y from hy1.symm, toBA_bs]
set_option maxHeartbeats 1000000 in
theorem rquote_any (s : ByteArray) (w : World) (hs : s.size ≤ 1000000) : Calls Tryd.prog 44 #[.string s] w fun e w' => e = .returned (.string (toBA (quoteL (bs s)))) ∧ Below w.heap.size w w' := by
  refine calls_W (l := [_]) Tryd.func44 rfl _ Tryd.ntmps44 (by simp) ?_
  simp +contextual (maxSteps := 2000000) (disch := (first | omega | (simp only [SZ]; done) | (simp only [SZ]; omega) | (simp only [TS] at *; omega))) only [RZ, gval, gslot, fillL, ovw, numb, catL, ldN, agL, okC, oneC, init, Nat.reduceAdd, Nat.reduceMul, Nat.reduceSub, Nat.reduceEqDiff, Nat.reduceLT, ↓reduceIte, Int.reduceToNat, Int.reduceAdd, Int.reduceSub, Int.reduceMul, Int.reduceLT, Int.reduceLE, Int.reduceEq, Nat.reduceLeDiff]
  have hX1 := BytIn.lit w w.heap.size [34] (Nat.le_refl _) (by simp) (by simp)
  have hbw1 := below_alloc w (.cells (byV [34]).toArray 5)
  refine Raw_loop (fun σ w3 => Below w.heap.size w w3 ∧ w.heap.size ≤ w3.heap.size ∧ ∃ (k : Nat) (v : Value), k ≤ s.size ∧ BytIn w.heap.size w3 v (34 :: ((bs s).take k).flatMap qB) ∧ σ 0 = .string s ∧ σ 3 = v ∧ σ 4 = .int .i64 k) (fun σ _ => s.size - (intOf (σ 4)).toNat) ?_ ?_
  · simp +contextual (maxSteps := 2000000) (disch := (first | omega | (simp only [SZ]; done) | (simp only [SZ]; omega) | (simp only [TS] at *; omega))) only [RZ, gval, gslot, fillL, ovw, numb, catL, ldN, agL, okC, oneC, init, Nat.reduceAdd, Nat.reduceMul, Nat.reduceSub, Nat.reduceEqDiff, Nat.reduceLT, ↓reduceIte, Int.reduceToNat, Int.reduceAdd, Int.reduceSub, Int.reduceMul, Int.reduceLT, Int.reduceLE, Int.reduceEq, Nat.reduceLeDiff]
    exact ⟨hbw1, by omega, 0, _, by omega, hX1, rfl, rfl⟩
  clear hX1 hbw1
  rintro σ w3 ⟨hB, hs3, k, v, hk, hX, f0, f3, f4⟩ K hK
  have hltk := bt_lt s k
  have hql := qB_le ((bs s).take k)
  have htl : ((bs s).take k).length ≤ k := by rw [List.length_take]; omega
  have hfin : k < s.size → ∀ v' w4, BytIn w.heap.size w4 v' ((34 :: ((bs s).take k).flatMap qB) ++ qB (bt s k)) → BytIn w.heap.size w4 v' (34 :: ((bs s).take (k + 1)).flatMap qB) := fun hkl v' w4 h => by
    rw [take_bt hkl, List.flatMap_append, List.flatMap_cons, List.flatMap_nil, List.append_nil]
    exact h
  have hend : k = s.size → 34 :: ((bs s).take k).flatMap qB = 34 :: (bs s).flatMap qB := fun h => by rw [List.take_of_length_le (by rw [bs_len]; omega)]
  have hXl : (34 :: ((bs s).take k).flatMap qB).length ≤ 1 + 4 * k := by rw [List.length_cons]; omega
  generalize 34 :: ((bs s).take k).flatMap qB = X at *
  simp +contextual (maxSteps := 2000000) (disch := (first | omega | (simp only [SZ]; done) | (simp only [SZ]; omega) | (simp only [TS] at *; omega))) only [RZ, gval, gslot, fillL, ovw, numb, catL, ldN, agL, okC, oneC, init, Nat.reduceAdd, Nat.reduceMul, Nat.reduceSub, Nat.reduceEqDiff, Nat.reduceLT, ↓reduceIte, Int.reduceToNat, Int.reduceAdd, Int.reduceSub, Int.reduceMul, Int.reduceLT, Int.reduceLE, Int.reduceEq, Nat.reduceLeDiff,  f0, f3, f4]
  (refine W_if rfl (fun hc => ?_) (fun hc => ?_) <;> (try simp only [TS] at hc))
  · have hkl : k < s.size := by omega
    have fin := hfin hkl
    clear hc
    simp +contextual (maxSteps := 2000000) (disch := (first | omega | (simp only [SZ]; done) | (simp only [SZ]; omega) | (simp only [TS] at *; omega))) only [RZ, gval, gslot, fillL, ovw, numb, catL, ldN, agL, okC, oneC, init, Nat.reduceAdd, Nat.reduceMul, Nat.reduceSub, Nat.reduceEqDiff, Nat.reduceLT, ↓reduceIte, Int.reduceToNat, Int.reduceAdd, Int.reduceSub, Int.reduceMul, Int.reduceLT, Int.reduceLE, Int.reduceEq, Nat.reduceLeDiff,  f0, f3, f4]
    unfold qB plainB at fin
    (refine W_if rfl (fun hc => ?_) (fun hc => ?_) <;> (try simp only [TS] at hc))
    · obtain ⟨v', w4, he, hX4, hb4, hs4⟩ := hX.pushN hs3 [92, bt s k] (by simp; omega) (by simp only [List.length_cons, List.length_nil]; omega)
      rw [if_neg (by simp; omega), if_pos (by omega)] at fin
      simp +contextual (maxSteps := 2000000) (disch := (first | omega | (simp only [SZ]; done) | (simp only [SZ]; omega) | (simp only [TS] at *; omega))) only [RZ, gval, gslot, fillL, ovw, numb, catL, ldN, agL, okC, oneC, init, Nat.reduceAdd, Nat.reduceMul, Nat.reduceSub, Nat.reduceEqDiff, Nat.reduceLT, ↓reduceIte, Int.reduceToNat, Int.reduceAdd, Int.reduceSub, Int.reduceMul, Int.reduceLT, Int.reduceLE, Int.reduceEq, Nat.reduceLeDiff,  f0, f3, f4]
      refine Okv_of he ?_
      refine hK _ _ ⟨hB.trans hb4, by omega, k + 1, v', by omega, fin _ _ hX4, ?_⟩ ?_
      · simp +contextual (maxSteps := 2000000) (disch := (first | omega | (simp only [SZ]; done) | (simp only [SZ]; omega) | (simp only [TS] at *; omega))) only [RZ, gval, gslot, fillL, ovw, numb, catL, ldN, agL, okC, oneC, init, Nat.reduceAdd, Nat.reduceMul, Nat.reduceSub, Nat.reduceEqDiff, Nat.reduceLT, ↓reduceIte, Int.reduceToNat, Int.reduceAdd, Int.reduceSub, Int.reduceMul, Int.reduceLT, Int.reduceLE, Int.reduceEq, Nat.reduceLeDiff,  f0, f3, f4]
      · simp +contextual (maxSteps := 2000000) (disch := (first | omega | (simp only [SZ]; done) | (simp only [SZ]; omega) | (simp only [TS] at *; omega))) only [RZ, gval, gslot, fillL, ovw, numb, catL, ldN, agL, okC, oneC, init, Nat.reduceAdd, Nat.reduceMul, Nat.reduceSub, Nat.reduceEqDiff, Nat.reduceLT, ↓reduceIte, Int.reduceToNat, Int.reduceAdd, Int.reduceSub, Int.reduceMul, Int.reduceLT, Int.reduceLE, Int.reduceEq, Nat.reduceLeDiff,  intOf, f4]
        omega
    have h1 := hc
    clear hc
    simp +contextual (maxSteps := 2000000) (disch := (first | omega | (simp only [SZ]; done) | (simp only [SZ]; omega) | (simp only [TS] at *; omega))) only [RZ, gval, gslot, fillL, ovw, numb, catL, ldN, agL, okC, oneC, init, Nat.reduceAdd, Nat.reduceMul, Nat.reduceSub, Nat.reduceEqDiff, Nat.reduceLT, ↓reduceIte, Int.reduceToNat, Int.reduceAdd, Int.reduceSub, Int.reduceMul, Int.reduceLT, Int.reduceLE, Int.reduceEq, Nat.reduceLeDiff,  f0, f3, f4]
    (refine W_if rfl (fun hc => ?_) (fun hc => ?_) <;> (try simp only [TS] at hc))
    · obtain ⟨v', w4, he, hX4, hb4, hs4⟩ := hX.push hs3 (bt s k) hltk (by omega)
      rw [if_pos (by simp; omega)] at fin
      simp +contextual (maxSteps := 2000000) (disch := (first | omega | (simp only [SZ]; done) | (simp only [SZ]; omega) | (simp only [TS] at *; omega))) only [RZ, gval, gslot, fillL, ovw, numb, catL, ldN, agL, okC, oneC, init, Nat.reduceAdd, Nat.reduceMul, Nat.reduceSub, Nat.reduceEqDiff, Nat.reduceLT, ↓reduceIte, Int.reduceToNat, Int.reduceAdd, Int.reduceSub, Int.reduceMul, Int.reduceLT, Int.reduceLE, Int.reduceEq, Nat.reduceLeDiff,  f0, f3, f4, he]
      refine hK _ _ ⟨hB.trans hb4, by omega, k + 1, v', by omega, fin _ _ hX4, ?_⟩ ?_
      · simp +contextual (maxSteps := 2000000) (disch := (first | omega | (simp only [SZ]; done) | (simp only [SZ]; omega) | (simp only [TS] at *; omega))) only [RZ, gval, gslot, fillL, ovw, numb, catL, ldN, agL, okC, oneC, init, Nat.reduceAdd, Nat.reduceMul, Nat.reduceSub, Nat.reduceEqDiff, Nat.reduceLT, ↓reduceIte, Int.reduceToNat, Int.reduceAdd, Int.reduceSub, Int.reduceMul, Int.reduceLT, Int.reduceLE, Int.reduceEq, Nat.reduceLeDiff,  f0, f3, f4]
      · simp +contextual (maxSteps := 2000000) (disch := (first | omega | (simp only [SZ]; done) | (simp only [SZ]; omega) | (simp only [TS] at *; omega))) only [RZ, gval, gslot, fillL, ovw, numb, catL, ldN, agL, okC, oneC, init, Nat.reduceAdd, Nat.reduceMul, Nat.reduceSub, Nat.reduceEqDiff, Nat.reduceLT, ↓reduceIte, Int.reduceToNat, Int.reduceAdd, Int.reduceSub, Int.reduceMul, Int.reduceLT, Int.reduceLE, Int.reduceEq, Nat.reduceLeDiff,  intOf, f4]
        omega
    rw [if_neg (by simp; omega), if_neg (by omega)] at fin
    have h2 := hc
    clear hc
    simp +contextual (maxSteps := 2000000) (disch := (first | omega | (simp only [SZ]; done) | (simp only [SZ]; omega) | (simp only [TS] at *; omega))) only [RZ, gval, gslot, fillL, ovw, numb, catL, ldN, agL, okC, oneC, init, Nat.reduceAdd, Nat.reduceMul, Nat.reduceSub, Nat.reduceEqDiff, Nat.reduceLT, ↓reduceIte, Int.reduceToNat, Int.reduceAdd, Int.reduceSub, Int.reduceMul, Int.reduceLT, Int.reduceLE, Int.reduceEq, Nat.reduceLeDiff,  f0, f3, f4]
    (refine W_if rfl (fun hc => ?_) (fun hc => ?_) <;> (try simp only [TS] at hc))
    · obtain ⟨v', w4, he, hX4, hb4, hs4⟩ := hX.pushN hs3 [92, 110] (by simp) (by simp only [List.length_cons, List.length_nil]; omega)
      rw [if_pos (by omega)] at fin
      simp +contextual (maxSteps := 2000000) (disch := (first | omega | (simp only [SZ]; done) | (simp only [SZ]; omega) | (simp only [TS] at *; omega))) only [RZ, gval, gslot, fillL, ovw, numb, catL, ldN, agL, okC, oneC, init, Nat.reduceAdd, Nat.reduceMul, Nat.reduceSub, Nat.reduceEqDiff, Nat.reduceLT, ↓reduceIte, Int.reduceToNat, Int.reduceAdd, Int.reduceSub, Int.reduceMul, Int.reduceLT, Int.reduceLE, Int.reduceEq, Nat.reduceLeDiff,  f0, f3, f4]
      refine Okv_of he ?_
      refine hK _ _ ⟨hB.trans hb4, by omega, k + 1, v', by omega, fin _ _ hX4, ?_⟩ ?_
      · simp +contextual (maxSteps := 2000000) (disch := (first | omega | (simp only [SZ]; done) | (simp only [SZ]; omega) | (simp only [TS] at *; omega))) only [RZ, gval, gslot, fillL, ovw, numb, catL, ldN, agL, okC, oneC, init, Nat.reduceAdd, Nat.reduceMul, Nat.reduceSub, Nat.reduceEqDiff, Nat.reduceLT, ↓reduceIte, Int.reduceToNat, Int.reduceAdd, Int.reduceSub, Int.reduceMul, Int.reduceLT, Int.reduceLE, Int.reduceEq, Nat.reduceLeDiff,  f0, f3, f4]
      · simp +contextual (maxSteps := 2000000) (disch := (first | omega | (simp only [SZ]; done) | (simp only [SZ]; omega) | (simp only [TS] at *; omega))) only [RZ, gval, gslot, fillL, ovw, numb, catL, ldN, agL, okC, oneC, init, Nat.reduceAdd, Nat.reduceMul, Nat.reduceSub, Nat.reduceEqDiff, Nat.reduceLT, ↓reduceIte, Int.reduceToNat, Int.reduceAdd, Int.reduceSub, Int.reduceMul, Int.reduceLT, Int.reduceLE, Int.reduceEq, Nat.reduceLeDiff,  intOf, f4]
        omega
    rw [if_neg (by omega)] at fin
    clear hc
    have hsz : (⟨#[48, 49, 50, 51, 52, 53, 54, 55, 56, 57, 97, 98, 99, 100, 101, 102]⟩ : ByteArray).size = 16 := rfl
    have x1 : ((bt s k : Nat) : Int) / 16 = ((bt s k / 16 : Nat) : Int) := by omega
    have x2 : ((bt s k : Nat) : Int) % 16 = ((bt s k % 16 : Nat) : Int) := by omega
    have y1 := hexC (q := bt s k / 16) (by omega)
    have y2 := hexC (q := bt s k % 16) (by omega)
    have z1 := hexd_lt (bt s k / 16) (by omega)
    have z2 := hexd_lt (bt s k % 16) (by omega)
    obtain ⟨v', w4, he, hX4, hb4, hs4⟩ := BytIn.pushN (w := w3.drew) hX hs3 [92, 120, hexd (bt s k / 16), hexd (bt s k % 16)] (by simp; omega) (by simp only [List.length_cons, List.length_nil]; omega)
    refine Raw_rc (τ := ?ta) [0, 1, 2, 3, 4, 5, 6] [7, 8, 9] MX rfl (by kernel_rfl) (by kernel_rfl) (by kernel_rfl) (fun _ _ _ h => h) (fun w7 => ?_) ?_; rotate_left
    · simp only [opsL_cons, opsL_nil, List.getElem?_toArray, List.getElem?_cons_zero, List.getElem?_cons_succ, optL_some]
      simp +contextual (maxSteps := 2000000) (disch := (first | omega | (simp only [SZ]; done) | (simp only [SZ]; omega) | (simp only [TS] at *; omega))) only [RZ, gval, gslot, fillL, ovw, numb, catL, ldN, agL, okC, oneC, init, Nat.reduceAdd, Nat.reduceMul, Nat.reduceSub, Nat.reduceEqDiff, Nat.reduceLT, ↓reduceIte, Int.reduceToNat, Int.reduceAdd, Int.reduceSub, Int.reduceMul, Int.reduceLT, Int.reduceLE, Int.reduceEq, Nat.reduceLeDiff,  f0, f3, f4, x1, x2, hsz, y1, y2, Int.toNat_natCast]
      exact rfl
    simp only [opsL_cons, opsL_nil, List.getElem?_toArray, List.getElem?_cons_zero, List.getElem?_cons_succ, optL_some]
    simp +contextual (maxSteps := 2000000) (disch := (first | omega | (simp only [SZ]; done) | (simp only [SZ]; omega) | (simp only [TS] at *; omega))) only [RZ, gval, gslot, fillL, ovw, numb, catL, ldN, agL, okC, oneC, init, Nat.reduceAdd, Nat.reduceMul, Nat.reduceSub, Nat.reduceEqDiff, Nat.reduceLT, ↓reduceIte, Int.reduceToNat, Int.reduceAdd, Int.reduceSub, Int.reduceMul, Int.reduceLT, Int.reduceLE, Int.reduceEq, Nat.reduceLeDiff,  f0, f3, f4]
    refine Okv_of he ?_
    refine hK _ _ ⟨hB.drew.trans hb4, Nat.le_trans hs3 hs4, k + 1, v', by omega, fin _ _ hX4, ?_⟩ ?_
    · simp +contextual (maxSteps := 2000000) (disch := (first | omega | (simp only [SZ]; done) | (simp only [SZ]; omega) | (simp only [TS] at *; omega))) only [RZ, gval, gslot, fillL, ovw, numb, catL, ldN, agL, okC, oneC, init, Nat.reduceAdd, Nat.reduceMul, Nat.reduceSub, Nat.reduceEqDiff, Nat.reduceLT, ↓reduceIte, Int.reduceToNat, Int.reduceAdd, Int.reduceSub, Int.reduceMul, Int.reduceLT, Int.reduceLE, Int.reduceEq, Nat.reduceLeDiff,  f0, f3, f4]
    · simp +contextual (maxSteps := 2000000) (disch := (first | omega | (simp only [SZ]; done) | (simp only [SZ]; omega) | (simp only [TS] at *; omega))) only [RZ, gval, gslot, fillL, ovw, numb, catL, ldN, agL, okC, oneC, init, Nat.reduceAdd, Nat.reduceMul, Nat.reduceSub, Nat.reduceEqDiff, Nat.reduceLT, ↓reduceIte, Int.reduceToNat, Int.reduceAdd, Int.reduceSub, Int.reduceMul, Int.reduceLT, Int.reduceLE, Int.reduceEq, Nat.reduceLeDiff,  intOf, f4]
      omega
  · have hkl : k = s.size := by omega
    rw [hend hkl] at hX
    have hfl := qB_le (bs s)
    rw [bs_len] at hfl
    obtain ⟨v', w4, he, hX4, hb4, hs4⟩ := hX.push hs3 34 (by decide) (by rw [List.length_cons]; omega)
    obtain ⟨y, hy1, hy2⟩ := hX4.str
    simp +contextual (maxSteps := 2000000) (disch := (first | omega | (simp only [SZ]; done) | (simp only [SZ]; omega) | (simp only [TS] at *; omega))) only [RZ, gval, gslot, fillL, ovw, numb, catL, ldN, agL, okC, oneC, init, Nat.reduceAdd, Nat.reduceMul, Nat.reduceSub, Nat.reduceEqDiff, Nat.reduceLT, ↓reduceIte, Int.reduceToNat, Int.reduceAdd, Int.reduceSub, Int.reduceMul, Int.reduceLT, Int.reduceLE, Int.reduceEq, Nat.reduceLeDiff,  f0, f3, f4]
    refine Okv_of he ?_
    simp +contextual (maxSteps := 2000000) (disch := (first | omega | (simp only [SZ]; done) | (simp only [SZ]; omega) | (simp only [TS] at *; omega))) only [RZ, gval, gslot, fillL, ovw, numb, catL, ldN, agL, okC, oneC, init, Nat.reduceAdd, Nat.reduceMul, Nat.reduceSub, Nat.reduceEqDiff, Nat.reduceLT, ↓reduceIte, Int.reduceToNat, Int.reduceAdd, Int.reduceSub, Int.reduceMul, Int.reduceLT, Int.reduceLE, Int.reduceEq, Nat.reduceLeDiff,  hy2]
    refine ⟨?_, hB.trans hb4⟩
    rw [show quoteL (bs s) = bs y from hy1.symm, toBA_bs]
end Go.Proofs.YtjaeiiiniohloaaDoor
/- Walks: script.parseNums. -/
namespace Go.Proofs.YtjaeiiiniohloaaDoor
open Go.RowKit
set_option maxRecDepth 100000
def inV (L : List Int) : List Value := L.map fun n => .int .i64 n
/-- A row of numbers that is nobody else's. -/
def NumIn (base : Nat) (w : World) (v : Value) (L : List Int) : Prop := ∃ A c, v = .slice A L.length c ∧ w.ownsRow base 3 1 v L.length (inV L)
theorem NumIn.nil (base : Nat) (w : World) : NumIn base w (.slice none 0 0) [] := ⟨none, 0, rfl, owns_nil _ _ _ _⟩
theorem NumIn.below {base : Nat} {w w' : World} {v : Value} {L : List Int} (h : NumIn base w v L) (hb : Below w.heap.size w w') : NumIn base w' v L := by
  obtain ⟨A, c, rfl, ho⟩ := h
  exact ⟨A, c, rfl, owns_below ho hb⟩
theorem NumIn.push {base : Nat} {w : World} {v : Value} {L : List Int} (h : NumIn base w v L) (hb : base ≤ w.heap.size) (n : Int) (hl : L.length + 1 ≤ 100000000) :
    ∃ v' w2, vAppend Tryd.prog 22 22 22 v (.slice (some ⟨w.heap.size, 0, none⟩) 1 1) (w.alloc (.cells #[.int .i64 n] 3)) = .ok (.value v') w2 ∧ NumIn base w2 v' (L ++ [n]) ∧ Below base w w2 ∧ w.heap.size ≤ w2.heap.size := by
  obtain ⟨A, c, rfl, ho⟩ := h
  have hI : sliceI Tryd.prog 22 = some (3, 1, 8) := by kernel_rfl
  obtain ⟨A2, c2, w2, he, hown2, hb2, hs2⟩ := push1 (P := Tryd.prog) (T := 22) (ty := 22) (news := [.int .i64 n]) ho hb hI rfl (fun u hu => by simp at hu; subst hu; rfl) (by omega) (by omega)
  refine ⟨_, w2, he, ⟨A2, c2, by simp, ?_⟩, hb2, hs2⟩
  rw [List.length_append]
  unfold inV at *
  rw [List.map_append]
  exact hown2
theorem tw_sub {q : Nat → Bool} : ∀ (l : List Nat), (∀ c ∈ l.takeWhile q, c ∈ l) ∧ ∀ c ∈ l.dropWhile q, c ∈ l :=
  fun _ => ⟨fun _ hc => (List.takeWhile_sublist q).subset hc, fun _ hc => (List.dropWhile_sublist q).subset hc⟩
theorem cutS_lt {l t r : List Nat} (hl : ∀ c ∈ l, c < 256) (h : cutS l = some (t, r)) : (∀ c ∈ t, c < 256) ∧ ∀ c ∈ r, c < 256 := by
  cases l with
  | nil => cases h
  | cons c l =>
    unfold cutS at h
    simp only at h
    split at h
    · injection h with h; injection h with h1 h2; subst h1; subst h2
      exact ⟨fun d hd => hl d (by simp [(tw_sub l).1 d hd]), fun d hd => hl d (by simp [(tw_sub l).2 d hd])⟩
    · cases h
theorem numsF_stop {f : Nat} {count : Int} {done : Nat} {l : List Nat} (h : count = done ∨ (count = -1 ∧ l = [])) : numsF f count done l = some ([], l) := by
  cases f <;> (unfold numsF; rw [if_pos h])
theorem numsF_go {f : Nat} {count : Int} {done : Nat} {l : List Nat} (h : ¬ (count = done ∨ (count = -1 ∧ l = []))) : numsF (f + 1) count done l = match cutS l with
    | none => none
    | some (t, r) => if (numE t).2 ≠ 0 then none else (numsF f count (done + 1) r).map fun p => ((numE t).1 :: p.1, p.2) := by
  rw [numsF, if_neg h]
  cases cutS l <;> rfl
def joinN (N : List Int) (o : Option (List Int × List Nat)) : Option (List Int × List Nat) := o.map fun p => (N ++ p.1, p.2)
def numsIs (base : Nat) (e : Ending) (w : World) : Option (List Int × List Nat) → Prop
  | some (ns, r) => ∃ v, e = .returned (.tuple #[v, .string (toBA r), .bool true]) ∧ NumIn base w v ns
  | none => e = .returned (.tuple #[.slice none 0 0, .string ⟨#[]⟩, .bool false])
theorem joinN_cons (N : List Int) (x : Int) (o : Option (List Int × List Nat)) : joinN N (o.map fun p => (x :: p.1, p.2)) = joinN (N ++ [x]) o := by
  cases o <;> simp [joinN]
theorem emp_bs {s : ByteArray} : (s = ⟨#[]⟩) ↔ bs s = [] := by
  constructor
  · rintro rfl; rfl
  · intro h
    rw [← toBA_bs s, h]
    rfl
theorem parseNums_any (s : ByteArray) (n : Int) (w : World) (hs : s.size ≤ 1000000) (_hn : -1 ≤ n ∧ n ≤ 1000000) (f0 : Nat) (hf0 : s.size < f0) : Calls Tryd.prog 58 #[.string s, .int .i64 n] w fun e w' => Below w.heap.size w w' ∧ numsIs w.heap.size e w' (numsF f0 n 0 (bs s)) := by
  refine calls_W (l := [_, _]) Tryd.func58 rfl _ Tryd.ntmps58 (by simp) ?_
  simp +contextual (maxSteps := 2000000) (disch := (first | omega | (simp only [SZ]; done) | (simp only [SZ]; omega) | (simp only [TS] at *; omega))) only [RZ, gval, gslot, fillL, ovw, numb, catL, ldN, agL, okC, oneC, init, Nat.reduceAdd, Nat.reduceMul, Nat.reduceSub, Nat.reduceEqDiff, Nat.reduceLT, ↓reduceIte, Int.reduceToNat, Int.reduceAdd, Int.reduceSub, Int.reduceMul, Int.reduceLT, Int.reduceLE, Int.reduceEq, Nat.reduceLeDiff]
  generalize hR : numsF f0 n 0 (bs s) = R
  refine Raw_loop (fun σ w2 => Below w.heap.size w w2 ∧ w.heap.size ≤ w2.heap.size ∧ ∃ (f : Nat) (N : List Int) (t : ByteArray) (v : Value), t.size < f ∧ N.length + t.size ≤ s.size ∧ NumIn w.heap.size w2 v N ∧ joinN N (numsF f n N.length (bs t)) = R ∧ σ 0 = .string t ∧ σ 1 = .int .i64 n ∧ σ 7 = v) (fun σ _ => match σ 0 with | .string t => t.size | _ => 0) ?_ ?_
  · simp +contextual (maxSteps := 2000000) (disch := (first | omega | (simp only [SZ]; done) | (simp only [SZ]; omega) | (simp only [TS] at *; omega))) only [RZ, gval, gslot, fillL, ovw, numb, catL, ldN, agL, okC, oneC, init, Nat.reduceAdd, Nat.reduceMul, Nat.reduceSub, Nat.reduceEqDiff, Nat.reduceLT, ↓reduceIte, Int.reduceToNat, Int.reduceAdd, Int.reduceSub, Int.reduceMul, Int.reduceLT, Int.reduceLE, Int.reduceEq, Nat.reduceLeDiff]
    exact ⟨Below.refl _ _, by omega, f0, [], s, _, hf0, by simp, NumIn.nil _ _, by show joinN [] (numsF f0 n 0 (bs s)) = R; rw [hR]; cases R <;> rfl, rfl, rfl⟩
  clear hR hf0
  rintro σ w2 ⟨hB, hs2, f, N, t, v, hf, hNt, hN, hj, e0, e1, e7⟩ K hK
  obtain ⟨A, c, rfl, hown⟩ := hN
  have hN : NumIn w.heap.size w2 (.slice A N.length c) N := ⟨A, c, rfl, hown⟩
  simp +contextual (maxSteps := 2000000) (disch := (first | omega | (simp only [SZ]; done) | (simp only [SZ]; omega) | (simp only [TS] at *; omega))) only [RZ, gval, gslot, fillL, ovw, numb, catL, ldN, agL, okC, oneC, init, Nat.reduceAdd, Nat.reduceMul, Nat.reduceSub, Nat.reduceEqDiff, Nat.reduceLT, ↓reduceIte, Int.reduceToNat, Int.reduceAdd, Int.reduceSub, Int.reduceMul, Int.reduceLT, Int.reduceLE, Int.reduceEq, Nat.reduceLeDiff,  e0, e1, e7]
  (refine W_if rfl (fun hc => ?_) (fun hc => ?_) <;> (try simp only [TS] at hc))
  · rw [emp_bs] at hc
    have hgo : ¬ (n = (N.length : Int) ∨ (n = -1 ∧ bs t = [])) := by
      rintro (h | ⟨h1, h2⟩)
      · exact hc.1 h
      · rcases hc.2 with h3 | h3
        · exact h3 h1
        · exact h3 h2
    obtain ⟨f, rfl⟩ : ∃ g, f = g + 1 := ⟨f - 1, by omega⟩
    rw [numsF_go hgo] at hj
    clear hc
    simp +contextual (maxSteps := 2000000) (disch := (first | omega | (simp only [SZ]; done) | (simp only [SZ]; omega) | (simp only [TS] at *; omega))) only [RZ, gval, gslot, fillL, ovw, numb, catL, ldN, agL, okC, oneC, init, Nat.reduceAdd, Nat.reduceMul, Nat.reduceSub, Nat.reduceEqDiff, Nat.reduceLT, ↓reduceIte, Int.reduceToNat, Int.reduceAdd, Int.reduceSub, Int.reduceMul, Int.reduceLT, Int.reduceLE, Int.reduceEq, Nat.reduceLeDiff,  e0, e1, e7]
    refine (cut_any t w2 (by omega)).mono ?_
    rintro e w3 ⟨rfl, hb3⟩
    refine ⟨_, rfl, ?_⟩
    have hB3 := hB.trans (hb3.mono hB.size)
    have hs3 := hb3.size
    have hN3 := hN.below hb3
    unfold cutV
    cases hcut : cutS (bs t) with
    | none =>
      rw [hcut] at hj
      simp +contextual (maxSteps := 2000000) (disch := (first | omega | (simp only [SZ]; done) | (simp only [SZ]; omega) | (simp only [TS] at *; omega))) only [RZ, gval, gslot, fillL, ovw, numb, catL, ldN, agL, okC, oneC, init, Nat.reduceAdd, Nat.reduceMul, Nat.reduceSub, Nat.reduceEqDiff, Nat.reduceLT, ↓reduceIte, Int.reduceToNat, Int.reduceAdd, Int.reduceSub, Int.reduceMul, Int.reduceLT, Int.reduceLE, Int.reduceEq, Nat.reduceLeDiff,  e0, e1, e7]
      refine W_if_t rfl ?_
      simp +contextual (maxSteps := 2000000) (disch := (first | omega | (simp only [SZ]; done) | (simp only [SZ]; omega) | (simp only [TS] at *; omega))) only [RZ, gval, gslot, fillL, ovw, numb, catL, ldN, agL, okC, oneC, init, Nat.reduceAdd, Nat.reduceMul, Nat.reduceSub, Nat.reduceEqDiff, Nat.reduceLT, ↓reduceIte, Int.reduceToNat, Int.reduceAdd, Int.reduceSub, Int.reduceMul, Int.reduceLT, Int.reduceLE, Int.reduceEq, Nat.reduceLeDiff,  e0, e1, e7]
      refine ⟨hB3, ?_⟩
      rw [← hj]
      exact rfl
    | some p =>
      obtain ⟨tk, r⟩ := p
      obtain ⟨hl1, hl2⟩ := cutS_lt (bs_lt t) hcut
      have hlen := cutS_len hcut
      rw [bs_len] at hlen
      have z1 := toBA_size tk
      have z2 := toBA_size r
      have b1 := bs_toBA hl1
      have b2 := bs_toBA hl2
      rw [hcut] at hj
      simp only at hj
      rw [← b1, ← b2] at hj
      simp +contextual (maxSteps := 2000000) (disch := (first | omega | (simp only [SZ]; done) | (simp only [SZ]; omega) | (simp only [TS] at *; omega))) only [RZ, gval, gslot, fillL, ovw, numb, catL, ldN, agL, okC, oneC, init, Nat.reduceAdd, Nat.reduceMul, Nat.reduceSub, Nat.reduceEqDiff, Nat.reduceLT, ↓reduceIte, Int.reduceToNat, Int.reduceAdd, Int.reduceSub, Int.reduceMul, Int.reduceLT, Int.reduceLE, Int.reduceEq, Nat.reduceLeDiff,  e0, e1, e7]
      refine W_if_f rfl ?_
      simp +contextual (maxSteps := 2000000) (disch := (first | omega | (simp only [SZ]; done) | (simp only [SZ]; omega) | (simp only [TS] at *; omega))) only [RZ, gval, gslot, fillL, ovw, numb, catL, ldN, agL, okC, oneC, init, Nat.reduceAdd, Nat.reduceMul, Nat.reduceSub, Nat.reduceEqDiff, Nat.reduceLT, ↓reduceIte, Int.reduceToNat, Int.reduceAdd, Int.reduceSub, Int.reduceMul, Int.reduceLT, Int.reduceLE, Int.reduceEq, Nat.reduceLeDiff,  e0, e1, e7]
      generalize toBA tk = tb at *
      generalize toBA r = rb at *
      refine (numParse_any tb w3 (by omega)).mono ?_
      rintro e w4 ⟨rfl, rfl⟩
      refine ⟨_, rfl, ?_⟩
      simp +contextual (maxSteps := 2000000) (disch := (first | omega | (simp only [SZ]; done) | (simp only [SZ]; omega) | (simp only [TS] at *; omega))) only [RZ, gval, gslot, fillL, ovw, numb, catL, ldN, agL, okC, oneC, init, Nat.reduceAdd, Nat.reduceMul, Nat.reduceSub, Nat.reduceEqDiff, Nat.reduceLT, ↓reduceIte, Int.reduceToNat, Int.reduceAdd, Int.reduceSub, Int.reduceMul, Int.reduceLT, Int.reduceLE, Int.reduceEq, Nat.reduceLeDiff,  e0, e1, e7]
      (refine W_if rfl (fun hc => ?_) (fun hc => ?_) <;> (try simp only [TS] at hc))
      · rw [if_pos (by omega)] at hj
        simp +contextual (maxSteps := 2000000) (disch := (first | omega | (simp only [SZ]; done) | (simp only [SZ]; omega) | (simp only [TS] at *; omega))) only [RZ, gval, gslot, fillL, ovw, numb, catL, ldN, agL, okC, oneC, init, Nat.reduceAdd, Nat.reduceMul, Nat.reduceSub, Nat.reduceEqDiff, Nat.reduceLT, ↓reduceIte, Int.reduceToNat, Int.reduceAdd, Int.reduceSub, Int.reduceMul, Int.reduceLT, Int.reduceLE, Int.reduceEq, Nat.reduceLeDiff,  e0, e1, e7]
        refine ⟨hB3, ?_⟩
        rw [← hj]
        exact rfl
      · rw [if_neg (by omega), joinN_cons] at hj
        obtain ⟨v', w5, he, hN5, hb5, hs5⟩ := hN3.push (by omega) (numE (bs tb)).1 (by omega)
        simp +contextual (maxSteps := 2000000) (disch := (first | omega | (simp only [SZ]; done) | (simp only [SZ]; omega) | (simp only [TS] at *; omega))) only [RZ, gval, gslot, fillL, ovw, numb, catL, ldN, agL, okC, oneC, init, Nat.reduceAdd, Nat.reduceMul, Nat.reduceSub, Nat.reduceEqDiff, Nat.reduceLT, ↓reduceIte, Int.reduceToNat, Int.reduceAdd, Int.reduceSub, Int.reduceMul, Int.reduceLT, Int.reduceLE, Int.reduceEq, Nat.reduceLeDiff,  e0, e1, e7, he]
        refine hK _ _ ⟨hB3.trans hb5, by omega, f, N ++ [(numE (bs tb)).1], rb, v', by omega, by simp; omega, hN5, by rw [List.length_append]; exact hj, ?_⟩ ?_
        · simp +contextual (maxSteps := 2000000) (disch := (first | omega | (simp only [SZ]; done) | (simp only [SZ]; omega) | (simp only [TS] at *; omega))) only [RZ, gval, gslot, fillL, ovw, numb, catL, ldN, agL, okC, oneC, init, Nat.reduceAdd, Nat.reduceMul, Nat.reduceSub, Nat.reduceEqDiff, Nat.reduceLT, ↓reduceIte, Int.reduceToNat, Int.reduceAdd, Int.reduceSub, Int.reduceMul, Int.reduceLT, Int.reduceLE, Int.reduceEq, Nat.reduceLeDiff,  e0, e1, e7]
        · simp +contextual (maxSteps := 2000000) (disch := (first | omega | (simp only [SZ]; done) | (simp only [SZ]; omega) | (simp only [TS] at *; omega))) only [RZ, gval, gslot, fillL, ovw, numb, catL, ldN, agL, okC, oneC, init, Nat.reduceAdd, Nat.reduceMul, Nat.reduceSub, Nat.reduceEqDiff, Nat.reduceLT, ↓reduceIte, Int.reduceToNat, Int.reduceAdd, Int.reduceSub, Int.reduceMul, Int.reduceLT, Int.reduceLE, Int.reduceEq, Nat.reduceLeDiff,  e0, e1, e7]
          omega
  · rw [emp_bs] at hc
    rw [numsF_stop (by
      by_cases h1 : n = (N.length : Int)
      · exact .inl h1
      · rcases hc with h | h
        · exact absurd h h1
        · exact .inr h)] at hj
    simp +contextual (maxSteps := 2000000) (disch := (first | omega | (simp only [SZ]; done) | (simp only [SZ]; omega) | (simp only [TS] at *; omega))) only [RZ, gval, gslot, fillL, ovw, numb, catL, ldN, agL, okC, oneC, init, Nat.reduceAdd, Nat.reduceMul, Nat.reduceSub, Nat.reduceEqDiff, Nat.reduceLT, ↓reduceIte, Int.reduceToNat, Int.reduceAdd, Int.reduceSub, Int.reduceMul, Int.reduceLT, Int.reduceLE, Int.reduceEq, Nat.reduceLeDiff,  e0, e1, e7]
    refine ⟨hB, ?_⟩
    rw [← hj]
    exact ⟨_, by rw [toBA_bs], by rw [List.append_nil]; exact hN⟩
end Go.Proofs.YtjaeiiiniohloaaDoor
/- Walks: script.formOf, script.formNamed. -/
namespace Go.Proofs.YtjaeiiiniohloaaDoor
open Go.RowKit
set_option maxRecDepth 100000
theorem fm_none {k : Int} (h : ∀ (i : Nat) f, fmT[i]? = some f → f.kind ≠ k) : fmOf k = none := by
  unfold fmOf
  rw [List.find?_eq_none]
  intro f hf
  obtain ⟨i, hi⟩ := List.mem_iff_getElem?.1 hf
  simpa using h i f hi
theorem fm_some {k : Int} {i : Nat} {f : Fm} (h : ∀ (j : Nat) g, j < i → fmT[j]? = some g → g.kind ≠ k) (hf : fmT[i]? = some f) (hk : f.kind = k) : fmOf k = some f := by
  unfold fmOf
  rw [List.find?_eq_some_iff_getElem]
  have hi := (List.getElem?_eq_some_iff.1 hf).1
  refine ⟨by simpa using hk, i, hi, by rw [List.getElem?_eq_getElem hi] at hf; injection hf, fun j hj => ?_⟩
  simpa using h j _ hj (List.getElem?_eq_getElem (by omega))
def fmV : Option Fm → Value
  | some f => .agg (encFm f).toArray
  | none => .agg #[.int .i64 0, .string .empty, .string .empty, .int .i64 0]
theorem formOf_any (k : Int) (w : World) (hL : Laid w) : Calls Tryd.prog 20 #[.int .i64 k] w fun e w' => e = .returned (.tuple #[fmV (fmOf k), .bool (fmOf k).isSome]) ∧ Below w.heap.size w w' := by
  refine calls_W (l := [_]) Tryd.func20 rfl _ Tryd.ntmps20 (by simp) ?_
  have hsz := hL.size
  have hb0 := below_alloc w (.cells #[.int .i64 0, .string .empty, .string .empty, .int .i64 0] 45)
  have hv := (hL.below hb0 hL.size).load
  simp +contextual (maxSteps := 2000000) (disch := (first | omega | (simp only [SZ]; done) | (simp only [SZ]; omega) | (simp only [TS] at *; omega))) only [RZ, gval, gslot, fillL, ovw, numb, catL, ldN, agL, okC, oneC, init, Nat.reduceAdd, Nat.reduceMul, Nat.reduceSub, Nat.reduceEqDiff, Nat.reduceLT, ↓reduceIte, Int.reduceToNat, Int.reduceAdd, Int.reduceSub, Int.reduceMul, Int.reduceLT, Int.reduceLE, Int.reduceEq, Nat.reduceLeDiff]
  rw [← vLoad_at, hv]
  simp +contextual (maxSteps := 2000000) (disch := (first | omega | (simp only [SZ]; done) | (simp only [SZ]; omega) | (simp only [TS] at *; omega))) only [RZ, gval, gslot, fillL, ovw, numb, catL, ldN, agL, okC, oneC, init, Nat.reduceAdd, Nat.reduceMul, Nat.reduceSub, Nat.reduceEqDiff, Nat.reduceLT, ↓reduceIte, Int.reduceToNat, Int.reduceAdd, Int.reduceSub, Int.reduceMul, Int.reduceLT, Int.reduceLE, Int.reduceEq, Nat.reduceLeDiff]
  generalize hw1 : w.alloc (.cells #[.int .i64 0, .string .empty, .string .empty, .int .i64 0] 45) = w1 at *
  have hs1 : w1.heap.size = w.heap.size + 1 := by rw [← hw1, World.size_alloc]
  have hb1 : w1.heap[w.heap.size]? = some (.cells #[.int .i64 0, .string .empty, .string .empty, .int .i64 0] 45 (0, 0)) := by rw [← hw1]; exact heap_alloc_new _ _
  clear hw1
  refine Raw_loop (fun σ w2 => Below w1.heap.size w1 w2 ∧ ∃ i : Nat, i ≤ 20 ∧ (∀ (j : Nat) g, j < i → fmT[j]? = some g → g.kind ≠ k) ∧ σ 0 = .int .i64 k ∧ σ 2 = .pointer (some ⟨w.heap.size, 0, none⟩) ∧ σ 6 = .agg fmCells.toArray ∧ σ 7 = .int .i64 i) (fun σ _ => 20 - (intOf (σ 7)).toNat) ?_ ?_
  · simp +contextual (maxSteps := 2000000) (disch := (first | omega | (simp only [SZ]; done) | (simp only [SZ]; omega) | (simp only [TS] at *; omega))) only [RZ, gval, gslot, fillL, ovw, numb, catL, ldN, agL, okC, oneC, init, Nat.reduceAdd, Nat.reduceMul, Nat.reduceSub, Nat.reduceEqDiff, Nat.reduceLT, ↓reduceIte, Int.reduceToNat, Int.reduceAdd, Int.reduceSub, Int.reduceMul, Int.reduceLT, Int.reduceLE, Int.reduceEq, Nat.reduceLeDiff]
    exact ⟨Below.refl _ _, 0, by omega, fun j g hj => absurd hj (Nat.not_lt_zero _), rfl⟩
  rintro σ w2 ⟨hB, i, hi, hno, f0, f2, f6, f7⟩ K hK
  have hs2 := hB.size
  have hbw : Below w.heap.size w w2 := hb0.trans (hB.mono (by omega))
  have hb2 : w2.heap[w.heap.size]? = _ := (hB.block w.heap.size (by omega)).trans hb1
  simp +contextual (maxSteps := 2000000) (disch := (first | omega | (simp only [SZ]; done) | (simp only [SZ]; omega) | (simp only [TS] at *; omega))) only [RZ, gval, gslot, fillL, ovw, numb, catL, ldN, agL, okC, oneC, init, Nat.reduceAdd, Nat.reduceMul, Nat.reduceSub, Nat.reduceEqDiff, Nat.reduceLT, ↓reduceIte, Int.reduceToNat, Int.reduceAdd, Int.reduceSub, Int.reduceMul, Int.reduceLT, Int.reduceLE, Int.reduceEq, Nat.reduceLeDiff,  f0, f2, f6, f7]
  (refine W_if rfl (fun hc => ?_) (fun hc => ?_) <;> (try simp only [TS] at hc))
  · have hil : i < 20 := by omega
    obtain ⟨f, hf⟩ : ∃ f, fmT[i]? = some f := ⟨_, List.getElem?_eq_getElem (show i < fmT.length from hil)⟩
    have hx := fm_index hf w2
    simp +contextual (maxSteps := 2000000) (disch := (first | omega | (simp only [SZ]; done) | (simp only [SZ]; omega) | (simp only [TS] at *; omega))) only [RZ, gval, gslot, fillL, ovw, numb, catL, ldN, agL, okC, oneC, init, Nat.reduceAdd, Nat.reduceMul, Nat.reduceSub, Nat.reduceEqDiff, Nat.reduceLT, ↓reduceIte, Int.reduceToNat, Int.reduceAdd, Int.reduceSub, Int.reduceMul, Int.reduceLT, Int.reduceLE, Int.reduceEq, Nat.reduceLeDiff,  f0, f2, f6, f7, hx, encFm]
    have c0 := Lib.cell_of_heap hb2 0
    have c1 := Lib.cell_of_heap hb2 1
    have c2 := Lib.cell_of_heap hb2 2
    have c3 := Lib.cell_of_heap hb2 3
    have z0 := Lib.frozen_of_heap hb2 0
    have z1 := Lib.frozen_of_heap hb2 1
    have z2 := Lib.frozen_of_heap hb2 2
    have z3 := Lib.frozen_of_heap hb2 3
    (refine W_if rfl (fun hc => ?_) (fun hc => ?_) <;> (try simp only [TS] at hc))
    · have e := fm_some hno hf hc
      rw [e]
      simp +contextual (maxSteps := 2000000) (disch := (first | omega | (simp only [SZ]; done) | (simp only [SZ]; omega) | (simp only [TS] at *; omega))) only [RZ, gval, gslot, fillL, ovw, numb, catL, ldN, agL, okC, oneC, init, Nat.reduceAdd, Nat.reduceMul, Nat.reduceSub, Nat.reduceEqDiff, Nat.reduceLT, ↓reduceIte, Int.reduceToNat, Int.reduceAdd, Int.reduceSub, Int.reduceMul, Int.reduceLT, Int.reduceLE, Int.reduceEq, Nat.reduceLeDiff,  f0, f2, f6, f7, c0, c1, c2, c3, z0, z1, z2, z3]
      exact ⟨rfl, ((((hbw.setCell (p := ⟨w.heap.size, 0, none⟩) (Nat.le_refl _) _).setCell (p := ⟨w.heap.size, 1, none⟩) (Nat.le_refl _) _).setCell (p := ⟨w.heap.size, 2, none⟩) (Nat.le_refl _) _).setCell (p := ⟨w.heap.size, 3, none⟩) (Nat.le_refl _) _).alloc (by simp only [World.size_setCell]; omega) _⟩
    · simp +contextual (maxSteps := 2000000) (disch := (first | omega | (simp only [SZ]; done) | (simp only [SZ]; omega) | (simp only [TS] at *; omega))) only [RZ, gval, gslot, fillL, ovw, numb, catL, ldN, agL, okC, oneC, init, Nat.reduceAdd, Nat.reduceMul, Nat.reduceSub, Nat.reduceEqDiff, Nat.reduceLT, ↓reduceIte, Int.reduceToNat, Int.reduceAdd, Int.reduceSub, Int.reduceMul, Int.reduceLT, Int.reduceLE, Int.reduceEq, Nat.reduceLeDiff,  f0, f2, f6, f7]
      refine hK _ _ ⟨?_, i + 1, by omega, fun j g hj hg => ?_, ?_⟩ ?_
      · exact hB.trans (below_alloc_of (Below.refl _ _) _ hs2)
      · rcases Nat.lt_or_eq_of_le (Nat.lt_succ_iff.1 hj) with h | rfl
        · exact hno j g h hg
        · rw [hf] at hg; injection hg with hg; subst hg; assumption
      · simp +contextual (maxSteps := 2000000) (disch := (first | omega | (simp only [SZ]; done) | (simp only [SZ]; omega) | (simp only [TS] at *; omega))) only [RZ, gval, gslot, fillL, ovw, numb, catL, ldN, agL, okC, oneC, init, Nat.reduceAdd, Nat.reduceMul, Nat.reduceSub, Nat.reduceEqDiff, Nat.reduceLT, ↓reduceIte, Int.reduceToNat, Int.reduceAdd, Int.reduceSub, Int.reduceMul, Int.reduceLT, Int.reduceLE, Int.reduceEq, Nat.reduceLeDiff,  f0, f2, f6, f7]
      · simp +contextual (maxSteps := 2000000) (disch := (first | omega | (simp only [SZ]; done) | (simp only [SZ]; omega) | (simp only [TS] at *; omega))) only [RZ, gval, gslot, fillL, ovw, numb, catL, ldN, agL, okC, oneC, init, Nat.reduceAdd, Nat.reduceMul, Nat.reduceSub, Nat.reduceEqDiff, Nat.reduceLT, ↓reduceIte, Int.reduceToNat, Int.reduceAdd, Int.reduceSub, Int.reduceMul, Int.reduceLT, Int.reduceLE, Int.reduceEq, Nat.reduceLeDiff,  intOf, f7]
        omega
  · have e : fmOf k = none := fm_none fun j g hg => hno j g (by have := (List.getElem?_eq_some_iff.1 hg).1; have h20 : fmT.length = 20 := rfl; omega) hg
    rw [e]
    have c0 := Lib.cell_of_heap hb2 0
    have c1 := Lib.cell_of_heap hb2 1
    have c2 := Lib.cell_of_heap hb2 2
    have c3 := Lib.cell_of_heap hb2 3
    have z0 := Lib.frozen_of_heap hb2 0
    have z1 := Lib.frozen_of_heap hb2 1
    have z2 := Lib.frozen_of_heap hb2 2
    have z3 := Lib.frozen_of_heap hb2 3
    simp +contextual (maxSteps := 2000000) (disch := (first | omega | (simp only [SZ]; done) | (simp only [SZ]; omega) | (simp only [TS] at *; omega))) only [RZ, gval, gslot, fillL, ovw, numb, catL, ldN, agL, okC, oneC, init, Nat.reduceAdd, Nat.reduceMul, Nat.reduceSub, Nat.reduceEqDiff, Nat.reduceLT, ↓reduceIte, Int.reduceToNat, Int.reduceAdd, Int.reduceSub, Int.reduceMul, Int.reduceLT, Int.reduceLE, Int.reduceEq, Nat.reduceLeDiff,  f0, f2, f6, f7, c0, c1, c2, c3, z0, z1, z2, z3]
    exact ⟨rfl, ((((hbw.setCell (p := ⟨w.heap.size, 0, none⟩) (Nat.le_refl _) _).setCell (p := ⟨w.heap.size, 1, none⟩) (Nat.le_refl _) _).setCell (p := ⟨w.heap.size, 2, none⟩) (Nat.le_refl _) _).setCell (p := ⟨w.heap.size, 3, none⟩) (Nat.le_refl _) _)⟩
theorem fm_words : ∀ f ∈ fmT, ∀ c ∈ f.word, c < 256 := by decide
theorem fm_flds : ∀ f ∈ fmT, ∀ c ∈ f.fields, c < 256 := by decide
theorem word_is {f : Fm} (hf : f ∈ fmT) (s : ByteArray) : toBA f.word = s ↔ f.word = bs s :=
  ⟨fun h => by rw [← h, bs_toBA (fm_words f hf)], fun h => by rw [h, toBA_bs]⟩
theorem fmN_none {s : ByteArray} (h : ∀ (i : Nat) f, fmT[i]? = some f → toBA f.word ≠ s) : fmNamed (bs s) = none := by
  unfold fmNamed
  rw [List.find?_eq_none]
  intro f hf
  obtain ⟨i, hi⟩ := List.mem_iff_getElem?.1 hf
  have := h i f hi
  rw [ne_eq, word_is hf] at this
  simpa using this
theorem fmN_some {s : ByteArray} {i : Nat} {f : Fm} (h : ∀ (j : Nat) g, j < i → fmT[j]? = some g → toBA g.word ≠ s) (hf : fmT[i]? = some f) (hk : toBA f.word = s) : fmNamed (bs s) = some f := by
  unfold fmNamed
  rw [List.find?_eq_some_iff_getElem]
  have hi := (List.getElem?_eq_some_iff.1 hf).1
  refine ⟨by rw [word_is (List.mem_of_getElem? hf)] at hk; simpa using hk, i, hi, by rw [List.getElem?_eq_getElem hi] at hf; injection hf, fun j hj => ?_⟩
  have hg := List.getElem?_eq_getElem (l := fmT) (i := j) (by omega)
  have := h j _ hj hg
  rw [ne_eq, word_is (List.mem_of_getElem? hg)] at this
  simpa using this
theorem formNamed_any (s : ByteArray) (w : World) (hL : Laid w) : Calls Tryd.prog 48 #[.string s] w fun e w' => e = .returned (.tuple #[fmV (fmNamed (bs s)), .bool (fmNamed (bs s)).isSome]) ∧ Below w.heap.size w w' := by
  refine calls_W (l := [_]) Tryd.func48 rfl _ Tryd.ntmps48 (by simp) ?_
  have hsz := hL.size
  have hb0 := below_alloc w (.cells #[.int .i64 0, .string .empty, .string .empty, .int .i64 0] 45)
  have hv := (hL.below hb0 hL.size).load
  simp +contextual (maxSteps := 2000000) (disch := (first | omega | (simp only [SZ]; done) | (simp only [SZ]; omega) | (simp only [TS] at *; omega))) only [RZ, gval, gslot, fillL, ovw, numb, catL, ldN, agL, okC, oneC, init, Nat.reduceAdd, Nat.reduceMul, Nat.reduceSub, Nat.reduceEqDiff, Nat.reduceLT, ↓reduceIte, Int.reduceToNat, Int.reduceAdd, Int.reduceSub, Int.reduceMul, Int.reduceLT, Int.reduceLE, Int.reduceEq, Nat.reduceLeDiff]
  rw [← vLoad_at, hv]
  simp +contextual (maxSteps := 2000000) (disch := (first | omega | (simp only [SZ]; done) | (simp only [SZ]; omega) | (simp only [TS] at *; omega))) only [RZ, gval, gslot, fillL, ovw, numb, catL, ldN, agL, okC, oneC, init, Nat.reduceAdd, Nat.reduceMul, Nat.reduceSub, Nat.reduceEqDiff, Nat.reduceLT, ↓reduceIte, Int.reduceToNat, Int.reduceAdd, Int.reduceSub, Int.reduceMul, Int.reduceLT, Int.reduceLE, Int.reduceEq, Nat.reduceLeDiff]
  generalize hw1 : w.alloc (.cells #[.int .i64 0, .string .empty, .string .empty, .int .i64 0] 45) = w1 at *
  have hs1 : w1.heap.size = w.heap.size + 1 := by rw [← hw1, World.size_alloc]
  have hb1 : w1.heap[w.heap.size]? = some (.cells #[.int .i64 0, .string .empty, .string .empty, .int .i64 0] 45 (0, 0)) := by rw [← hw1]; exact heap_alloc_new _ _
  clear hw1
  refine Raw_loop (fun σ w2 => Below w1.heap.size w1 w2 ∧ ∃ i : Nat, i ≤ 20 ∧ (∀ (j : Nat) g, j < i → fmT[j]? = some g → toBA g.word ≠ s) ∧ σ 0 = .string s ∧ σ 2 = .pointer (some ⟨w.heap.size, 0, none⟩) ∧ σ 6 = .agg fmCells.toArray ∧ σ 7 = .int .i64 i) (fun σ _ => 20 - (intOf (σ 7)).toNat) ?_ ?_
  · simp +contextual (maxSteps := 2000000) (disch := (first | omega | (simp only [SZ]; done) | (simp only [SZ]; omega) | (simp only [TS] at *; omega))) only [RZ, gval, gslot, fillL, ovw, numb, catL, ldN, agL, okC, oneC, init, Nat.reduceAdd, Nat.reduceMul, Nat.reduceSub, Nat.reduceEqDiff, Nat.reduceLT, ↓reduceIte, Int.reduceToNat, Int.reduceAdd, Int.reduceSub, Int.reduceMul, Int.reduceLT, Int.reduceLE, Int.reduceEq, Nat.reduceLeDiff]
    exact ⟨Below.refl _ _, 0, by omega, fun j g hj => absurd hj (Nat.not_lt_zero _), rfl⟩
  rintro σ w2 ⟨hB, i, hi, hno, f0, f2, f6, f7⟩ K hK
  have hs2 := hB.size
  have hbw : Below w.heap.size w w2 := hb0.trans (hB.mono (by omega))
  have hb2 : w2.heap[w.heap.size]? = _ := (hB.block w.heap.size (by omega)).trans hb1
  simp +contextual (maxSteps := 2000000) (disch := (first | omega | (simp only [SZ]; done) | (simp only [SZ]; omega) | (simp only [TS] at *; omega))) only [RZ, gval, gslot, fillL, ovw, numb, catL, ldN, agL, okC, oneC, init, Nat.reduceAdd, Nat.reduceMul, Nat.reduceSub, Nat.reduceEqDiff, Nat.reduceLT, ↓reduceIte, Int.reduceToNat, Int.reduceAdd, Int.reduceSub, Int.reduceMul, Int.reduceLT, Int.reduceLE, Int.reduceEq, Nat.reduceLeDiff,  f0, f2, f6, f7]
  (refine W_if rfl (fun hc => ?_) (fun hc => ?_) <;> (try simp only [TS] at hc))
  · have hil : i < 20 := by omega
    obtain ⟨f, hf⟩ : ∃ f, fmT[i]? = some f := ⟨_, List.getElem?_eq_getElem (show i < fmT.length from hil)⟩
    have hx := fm_index hf w2
    simp +contextual (maxSteps := 2000000) (disch := (first | omega | (simp only [SZ]; done) | (simp only [SZ]; omega) | (simp only [TS] at *; omega))) only [RZ, gval, gslot, fillL, ovw, numb, catL, ldN, agL, okC, oneC, init, Nat.reduceAdd, Nat.reduceMul, Nat.reduceSub, Nat.reduceEqDiff, Nat.reduceLT, ↓reduceIte, Int.reduceToNat, Int.reduceAdd, Int.reduceSub, Int.reduceMul, Int.reduceLT, Int.reduceLE, Int.reduceEq, Nat.reduceLeDiff,  f0, f2, f6, f7, hx, encFm]
    have c0 := Lib.cell_of_heap hb2 0
    have c1 := Lib.cell_of_heap hb2 1
    have c2 := Lib.cell_of_heap hb2 2
    have c3 := Lib.cell_of_heap hb2 3
    have z0 := Lib.frozen_of_heap hb2 0
    have z1 := Lib.frozen_of_heap hb2 1
    have z2 := Lib.frozen_of_heap hb2 2
    have z3 := Lib.frozen_of_heap hb2 3
    (refine W_if rfl (fun hc => ?_) (fun hc => ?_) <;> (try simp only [TS] at hc))
    · have e := fmN_some hno hf hc
      rw [e]
      simp +contextual (maxSteps := 2000000) (disch := (first | omega | (simp only [SZ]; done) | (simp only [SZ]; omega) | (simp only [TS] at *; omega))) only [RZ, gval, gslot, fillL, ovw, numb, catL, ldN, agL, okC, oneC, init, Nat.reduceAdd, Nat.reduceMul, Nat.reduceSub, Nat.reduceEqDiff, Nat.reduceLT, ↓reduceIte, Int.reduceToNat, Int.reduceAdd, Int.reduceSub, Int.reduceMul, Int.reduceLT, Int.reduceLE, Int.reduceEq, Nat.reduceLeDiff,  f0, f2, f6, f7, c0, c1, c2, c3, z0, z1, z2, z3]
      exact ⟨rfl, ((((hbw.setCell (p := ⟨w.heap.size, 0, none⟩) (Nat.le_refl _) _).setCell (p := ⟨w.heap.size, 1, none⟩) (Nat.le_refl _) _).setCell (p := ⟨w.heap.size, 2, none⟩) (Nat.le_refl _) _).setCell (p := ⟨w.heap.size, 3, none⟩) (Nat.le_refl _) _).alloc (by simp only [World.size_setCell]; omega) _⟩
    · simp +contextual (maxSteps := 2000000) (disch := (first | omega | (simp only [SZ]; done) | (simp only [SZ]; omega) | (simp only [TS] at *; omega))) only [RZ, gval, gslot, fillL, ovw, numb, catL, ldN, agL, okC, oneC, init, Nat.reduceAdd, Nat.reduceMul, Nat.reduceSub, Nat.reduceEqDiff, Nat.reduceLT, ↓reduceIte, Int.reduceToNat, Int.reduceAdd, Int.reduceSub, Int.reduceMul, Int.reduceLT, Int.reduceLE, Int.reduceEq, Nat.reduceLeDiff,  f0, f2, f6, f7]
      refine hK _ _ ⟨?_, i + 1, by omega, fun j g hj hg => ?_, ?_⟩ ?_
      · exact hB.trans (below_alloc_of (Below.refl _ _) _ hs2)
      · rcases Nat.lt_or_eq_of_le (Nat.lt_succ_iff.1 hj) with h | rfl
        · exact hno j g h hg
        · rw [hf] at hg; injection hg with hg; subst hg; assumption
      · simp +contextual (maxSteps := 2000000) (disch := (first | omega | (simp only [SZ]; done) | (simp only [SZ]; omega) | (simp only [TS] at *; omega))) only [RZ, gval, gslot, fillL, ovw, numb, catL, ldN, agL, okC, oneC, init, Nat.reduceAdd, Nat.reduceMul, Nat.reduceSub, Nat.reduceEqDiff, Nat.reduceLT, ↓reduceIte, Int.reduceToNat, Int.reduceAdd, Int.reduceSub, Int.reduceMul, Int.reduceLT, Int.reduceLE, Int.reduceEq, Nat.reduceLeDiff,  f0, f2, f6, f7]
      · simp +contextual (maxSteps := 2000000) (disch := (first | omega | (simp only [SZ]; done) | (simp only [SZ]; omega) | (simp only [TS] at *; omega))) only [RZ, gval, gslot, fillL, ovw, numb, catL, ldN, agL, okC, oneC, init, Nat.reduceAdd, Nat.reduceMul, Nat.reduceSub, Nat.reduceEqDiff, Nat.reduceLT, ↓reduceIte, Int.reduceToNat, Int.reduceAdd, Int.reduceSub, Int.reduceMul, Int.reduceLT, Int.reduceLE, Int.reduceEq, Nat.reduceLeDiff,  intOf, f7]
        omega
  · have e : fmNamed (bs s) = none := fmN_none fun j g hg => hno j g (by have := (List.getElem?_eq_some_iff.1 hg).1; have h20 : fmT.length = 20 := rfl; omega) hg
    rw [e]
    have c0 := Lib.cell_of_heap hb2 0
    have c1 := Lib.cell_of_heap hb2 1
    have c2 := Lib.cell_of_heap hb2 2
    have c3 := Lib.cell_of_heap hb2 3
    have z0 := Lib.frozen_of_heap hb2 0
    have z1 := Lib.frozen_of_heap hb2 1
    have z2 := Lib.frozen_of_heap hb2 2
    have z3 := Lib.frozen_of_heap hb2 3
    simp +contextual (maxSteps := 2000000) (disch := (first | omega | (simp only [SZ]; done) | (simp only [SZ]; omega) | (simp only [TS] at *; omega))) only [RZ, gval, gslot, fillL, ovw, numb, catL, ldN, agL, okC, oneC, init, Nat.reduceAdd, Nat.reduceMul, Nat.reduceSub, Nat.reduceEqDiff, Nat.reduceLT, ↓reduceIte, Int.reduceToNat, Int.reduceAdd, Int.reduceSub, Int.reduceMul, Int.reduceLT, Int.reduceLE, Int.reduceEq, Nat.reduceLeDiff,  f0, f2, f6, f7, c0, c1, c2, c3, z0, z1, z2, z3]
    exact ⟨rfl, ((((hbw.setCell (p := ⟨w.heap.size, 0, none⟩) (Nat.le_refl _) _).setCell (p := ⟨w.heap.size, 1, none⟩) (Nat.le_refl _) _).setCell (p := ⟨w.heap.size, 2, none⟩) (Nat.le_refl _) _).setCell (p := ⟨w.heap.size, 3, none⟩) (Nat.le_refl _) _)⟩
end Go.Proofs.YtjaeiiiniohloaaDoor
/- Walks: names. -/
namespace Go.Proofs.YtjaeiiiniohloaaDoor
open Go.RowKit
set_option maxRecDepth 100000
theorem scName_def (l : List Nat) : scNameB l = ((match l with | c :: _ => letterB c | [] => false) && decide (l.length ≤ 24) && l.all wordB) := rfl
theorem wordB_iff {c : Nat} : wordB c = true ↔ (97 ≤ c ∧ c ≤ 122) ∨ (48 ≤ c ∧ c ≤ 57) ∨ c = 45 := by
  unfold wordB letterB digitB
  simp only [Bool.or_eq_true, Bool.and_eq_true, decide_eq_true_eq, beq_iff_eq]
  exact or_assoc
theorem scName_len {s : ByteArray} (h : s.size < 1 ∨ 24 < s.size) : scNameB (bs s) = false := by
  rw [scName_def]
  rcases h with h | h
  · have : bs s = [] := List.length_eq_zero_iff.1 (by rw [bs_len]; omega)
    rw [this]; rfl
  · rw [bs_len, decide_eq_false (by omega), Bool.and_false, Bool.false_and]
theorem scName_head {s : ByteArray} (h0 : 0 < s.size) (h : bt s 0 < 97 ∨ 122 < bt s 0) : scNameB (bs s) = false := by
  rw [scName_def]
  have h1 := bs_get h0
  cases hb : bs s with
  | nil => rfl
  | cons c r =>
    rw [hb] at h1
    simp only [List.getElem?_cons_zero, Option.some.injEq] at h1
    subst h1
    have : letterB (bt s 0) = false := by unfold letterB; rcases h with h | h <;> simp <;> omega
    simp [this]
theorem scName_bad {s : ByteArray} {k : Nat} (hk : k < s.size) (h : ¬ ((97 ≤ bt s k ∧ bt s k ≤ 122) ∨ (48 ≤ bt s k ∧ bt s k ≤ 57) ∨ bt s k = 45)) : scNameB (bs s) = false := by
  cases hn : scNameB (bs s) with
  | false => rfl
  | true =>
    rw [scName_def, Bool.and_eq_true, List.all_eq_true] at hn
    exact absurd (wordB_iff.1 (hn.2 _ (List.mem_of_getElem? (bs_get hk)))) h
theorem scName_yes {s : ByteArray} (h0 : 1 ≤ s.size) (h1 : s.size ≤ 24) (h2 : 97 ≤ bt s 0 ∧ bt s 0 ≤ 122) (h : ∀ k, k < s.size → (97 ≤ bt s k ∧ bt s k ≤ 122) ∨ (48 ≤ bt s k ∧ bt s k ≤ 57) ∨ bt s k = 45) : scNameB (bs s) = true := by
  rw [scName_def, Bool.and_eq_true, Bool.and_eq_true, List.all_eq_true]
  refine ⟨⟨?_, by rw [bs_len]; simpa using h1⟩, fun c hc => ?_⟩
  · have h3 := bs_get (show 0 < s.size by omega)
    cases hb : bs s with
    | nil => exact absurd hb (bs_ne (by omega))
    | cons c r =>
      rw [hb] at h3
      simp only [List.getElem?_cons_zero, Option.some.injEq] at h3
      subst h3
      simp [letterB, h2]
  · obtain ⟨k, hk⟩ := List.mem_iff_getElem?.1 hc
    obtain ⟨g1, rfl⟩ := bs_at hk
    exact wordB_iff.2 (h k g1)
theorem scName_any (s : ByteArray) (w : World) (hs : s.size ≤ 9223372036854775807) : Calls Tryd.prog 23 #[.string s] w fun e w' => e = .returned (.bool (scNameB (bs s))) ∧ w = w' := by
  refine calls_W (l := [_]) Tryd.func23 rfl _ Tryd.ntmps23 (by simp) ?_
  simp +contextual (maxSteps := 2000000) (disch := (first | omega | (simp only [SZ]; done) | (simp only [SZ]; omega) | (simp only [TS] at *; omega))) only [RZ, gval, gslot, fillL, ovw, numb, catL, ldN, agL, okC, oneC, init, Nat.reduceAdd, Nat.reduceMul, Nat.reduceSub, Nat.reduceEqDiff, Nat.reduceLT, ↓reduceIte, Int.reduceToNat, Int.reduceAdd, Int.reduceSub, Int.reduceMul, Int.reduceLT, Int.reduceLE, Int.reduceEq, Nat.reduceLeDiff]
  (refine W_if rfl (fun hc => ?_) (fun hc => ?_) <;> (try simp only [TS] at hc))
  · simp +contextual (maxSteps := 2000000) (disch := (first | omega | (simp only [SZ]; done) | (simp only [SZ]; omega) | (simp only [TS] at *; omega))) only [RZ, gval, gslot, fillL, ovw, numb, catL, ldN, agL, okC, oneC, init, Nat.reduceAdd, Nat.reduceMul, Nat.reduceSub, Nat.reduceEqDiff, Nat.reduceLT, ↓reduceIte, Int.reduceToNat, Int.reduceAdd, Int.reduceSub, Int.reduceMul, Int.reduceLT, Int.reduceLE, Int.reduceEq, Nat.reduceLeDiff]
    rcases hc with ((hc | hc) | hc) | hc
    · exact ret_bool (scName_len (by omega)).symm
    · exact ret_bool (scName_len (by omega)).symm
    · by_cases h0 : 0 < s.size
      · exact ret_bool (scName_head h0 (by omega)).symm
      · exact ret_bool (scName_len (by omega)).symm
    · by_cases h0 : 0 < s.size
      · exact ret_bool (scName_head h0 (by omega)).symm
      · exact ret_bool (scName_len (by omega)).symm
  simp +contextual (maxSteps := 2000000) (disch := (first | omega | (simp only [SZ]; done) | (simp only [SZ]; omega) | (simp only [TS] at *; omega))) only [RZ, gval, gslot, fillL, ovw, numb, catL, ldN, agL, okC, oneC, init, Nat.reduceAdd, Nat.reduceMul, Nat.reduceSub, Nat.reduceEqDiff, Nat.reduceLT, ↓reduceIte, Int.reduceToNat, Int.reduceAdd, Int.reduceSub, Int.reduceMul, Int.reduceLT, Int.reduceLE, Int.reduceEq, Nat.reduceLeDiff]
  refine Raw_loop (fun σ w' => w' = w ∧ ∃ k : Nat, k ≤ s.size ∧ (∀ j, j < k → (97 ≤ bt s j ∧ bt s j ≤ 122) ∨ (48 ≤ bt s j ∧ bt s j ≤ 57) ∨ bt s j = 45) ∧ σ 0 = .string s ∧ σ 24 = .int .i64 s.size ∧ σ 25 = .int .i64 k) (fun σ _ => s.size - (intOf (σ 25)).toNat) ?_ ?_
  · simp +contextual (maxSteps := 2000000) (disch := (first | omega | (simp only [SZ]; done) | (simp only [SZ]; omega) | (simp only [TS] at *; omega))) only [RZ, gval, gslot, fillL, ovw, numb, catL, ldN, agL, okC, oneC, init, Nat.reduceAdd, Nat.reduceMul, Nat.reduceSub, Nat.reduceEqDiff, Nat.reduceLT, ↓reduceIte, Int.reduceToNat, Int.reduceAdd, Int.reduceSub, Int.reduceMul, Int.reduceLT, Int.reduceLE, Int.reduceEq, Nat.reduceLeDiff]
    exact ⟨0, Nat.zero_le _, fun j hj => absurd hj (Nat.not_lt_zero _), rfl⟩
  rintro σ w' ⟨rfl, k, hk, hup, f0, f24, f25⟩ K hK
  simp +contextual (maxSteps := 2000000) (disch := (first | omega | (simp only [SZ]; done) | (simp only [SZ]; omega) | (simp only [TS] at *; omega))) only [RZ, gval, gslot, fillL, ovw, numb, catL, ldN, agL, okC, oneC, init, Nat.reduceAdd, Nat.reduceMul, Nat.reduceSub, Nat.reduceEqDiff, Nat.reduceLT, ↓reduceIte, Int.reduceToNat, Int.reduceAdd, Int.reduceSub, Int.reduceMul, Int.reduceLT, Int.reduceLE, Int.reduceEq, Nat.reduceLeDiff,  f0, f24, f25]
  (refine W_if rfl (fun hc => ?_) (fun hc => ?_) <;> (try simp only [TS] at hc))
  · simp +contextual (maxSteps := 2000000) (disch := (first | omega | (simp only [SZ]; done) | (simp only [SZ]; omega) | (simp only [TS] at *; omega))) only [RZ, gval, gslot, fillL, ovw, numb, catL, ldN, agL, okC, oneC, init, Nat.reduceAdd, Nat.reduceMul, Nat.reduceSub, Nat.reduceEqDiff, Nat.reduceLT, ↓reduceIte, Int.reduceToNat, Int.reduceAdd, Int.reduceSub, Int.reduceMul, Int.reduceLT, Int.reduceLE, Int.reduceEq, Nat.reduceLeDiff,  f0, f24, f25]
    (refine W_if rfl (fun hc => ?_) (fun hc => ?_) <;> (try simp only [TS] at hc))
    · simp +contextual (maxSteps := 2000000) (disch := (first | omega | (simp only [SZ]; done) | (simp only [SZ]; omega) | (simp only [TS] at *; omega))) only [RZ, gval, gslot, fillL, ovw, numb, catL, ldN, agL, okC, oneC, init, Nat.reduceAdd, Nat.reduceMul, Nat.reduceSub, Nat.reduceEqDiff, Nat.reduceLT, ↓reduceIte, Int.reduceToNat, Int.reduceAdd, Int.reduceSub, Int.reduceMul, Int.reduceLT, Int.reduceLE, Int.reduceEq, Nat.reduceLeDiff,  f0, f24, f25]
      exact ret_bool (scName_bad (k := k) (by omega) (by omega)).symm
    · simp +contextual (maxSteps := 2000000) (disch := (first | omega | (simp only [SZ]; done) | (simp only [SZ]; omega) | (simp only [TS] at *; omega))) only [RZ, gval, gslot, fillL, ovw, numb, catL, ldN, agL, okC, oneC, init, Nat.reduceAdd, Nat.reduceMul, Nat.reduceSub, Nat.reduceEqDiff, Nat.reduceLT, ↓reduceIte, Int.reduceToNat, Int.reduceAdd, Int.reduceSub, Int.reduceMul, Int.reduceLT, Int.reduceLE, Int.reduceEq, Nat.reduceLeDiff,  f0, f24, f25]
      refine hK _ _ ⟨rfl, k + 1, by omega, fun j hj => ?_, ?_⟩ ?_
      · rcases Nat.lt_or_eq_of_le (Nat.lt_succ_iff.1 hj) with h | rfl
        · exact hup j h
        · omega
      · simp +contextual (maxSteps := 2000000) (disch := (first | omega | (simp only [SZ]; done) | (simp only [SZ]; omega) | (simp only [TS] at *; omega))) only [RZ, gval, gslot, fillL, ovw, numb, catL, ldN, agL, okC, oneC, init, Nat.reduceAdd, Nat.reduceMul, Nat.reduceSub, Nat.reduceEqDiff, Nat.reduceLT, ↓reduceIte, Int.reduceToNat, Int.reduceAdd, Int.reduceSub, Int.reduceMul, Int.reduceLT, Int.reduceLE, Int.reduceEq, Nat.reduceLeDiff,  f0, f24, f25]
      · simp +contextual (maxSteps := 2000000) (disch := (first | omega | (simp only [SZ]; done) | (simp only [SZ]; omega) | (simp only [TS] at *; omega))) only [RZ, gval, gslot, fillL, ovw, numb, catL, ldN, agL, okC, oneC, init, Nat.reduceAdd, Nat.reduceMul, Nat.reduceSub, Nat.reduceEqDiff, Nat.reduceLT, ↓reduceIte, Int.reduceToNat, Int.reduceAdd, Int.reduceSub, Int.reduceMul, Int.reduceLT, Int.reduceLE, Int.reduceEq, Nat.reduceLeDiff,  intOf, f25]
        omega
  · simp +contextual (maxSteps := 2000000) (disch := (first | omega | (simp only [SZ]; done) | (simp only [SZ]; omega) | (simp only [TS] at *; omega))) only [RZ, gval, gslot, fillL, ovw, numb, catL, ldN, agL, okC, oneC, init, Nat.reduceAdd, Nat.reduceMul, Nat.reduceSub, Nat.reduceEqDiff, Nat.reduceLT, ↓reduceIte, Int.reduceToNat, Int.reduceAdd, Int.reduceSub, Int.reduceMul, Int.reduceLT, Int.reduceLE, Int.reduceEq, Nat.reduceLeDiff,  f0, f24, f25]
    exact ret_bool (scName_yes (by omega) (by omega) (by omega) (fun j hj => hup j (by omega))).symm
theorem rscName_any (s : ByteArray) (w : World) (hs : s.size ≤ 9223372036854775807) : Calls Tryd.prog 27 #[.string s] w fun e w' => e = .returned (.bool (scNameB (bs s))) ∧ w = w' := by
  refine calls_W (l := [_]) Tryd.func27 rfl _ Tryd.ntmps27 (by simp) ?_
  simp +contextual (maxSteps := 2000000) (disch := (first | omega | (simp only [SZ]; done) | (simp only [SZ]; omega) | (simp only [TS] at *; omega))) only [RZ, gval, gslot, fillL, ovw, numb, catL, ldN, agL, okC, oneC, init, Nat.reduceAdd, Nat.reduceMul, Nat.reduceSub, Nat.reduceEqDiff, Nat.reduceLT, ↓reduceIte, Int.reduceToNat, Int.reduceAdd, Int.reduceSub, Int.reduceMul, Int.reduceLT, Int.reduceLE, Int.reduceEq, Nat.reduceLeDiff]
  (refine W_if rfl (fun hc => ?_) (fun hc => ?_) <;> (try simp only [TS] at hc))
  · simp +contextual (maxSteps := 2000000) (disch := (first | omega | (simp only [SZ]; done) | (simp only [SZ]; omega) | (simp only [TS] at *; omega))) only [RZ, gval, gslot, fillL, ovw, numb, catL, ldN, agL, okC, oneC, init, Nat.reduceAdd, Nat.reduceMul, Nat.reduceSub, Nat.reduceEqDiff, Nat.reduceLT, ↓reduceIte, Int.reduceToNat, Int.reduceAdd, Int.reduceSub, Int.reduceMul, Int.reduceLT, Int.reduceLE, Int.reduceEq, Nat.reduceLeDiff]
    rcases hc with ((hc | hc) | hc) | hc
    · exact ret_bool (scName_len (by omega)).symm
    · exact ret_bool (scName_len (by omega)).symm
    · by_cases h0 : 0 < s.size
      · exact ret_bool (scName_head h0 (by omega)).symm
      · exact ret_bool (scName_len (by omega)).symm
    · by_cases h0 : 0 < s.size
      · exact ret_bool (scName_head h0 (by omega)).symm
      · exact ret_bool (scName_len (by omega)).symm
  simp +contextual (maxSteps := 2000000) (disch := (first | omega | (simp only [SZ]; done) | (simp only [SZ]; omega) | (simp only [TS] at *; omega))) only [RZ, gval, gslot, fillL, ovw, numb, catL, ldN, agL, okC, oneC, init, Nat.reduceAdd, Nat.reduceMul, Nat.reduceSub, Nat.reduceEqDiff, Nat.reduceLT, ↓reduceIte, Int.reduceToNat, Int.reduceAdd, Int.reduceSub, Int.reduceMul, Int.reduceLT, Int.reduceLE, Int.reduceEq, Nat.reduceLeDiff]
  refine Raw_loop (fun σ w' => w' = w ∧ ∃ k : Nat, k ≤ s.size ∧ (∀ j, j < k → (97 ≤ bt s j ∧ bt s j ≤ 122) ∨ (48 ≤ bt s j ∧ bt s j ≤ 57) ∨ bt s j = 45) ∧ σ 0 = .string s ∧ σ 3 = .int .i64 k) (fun σ _ => s.size - (intOf (σ 3)).toNat) ?_ ?_
  · simp +contextual (maxSteps := 2000000) (disch := (first | omega | (simp only [SZ]; done) | (simp only [SZ]; omega) | (simp only [TS] at *; omega))) only [RZ, gval, gslot, fillL, ovw, numb, catL, ldN, agL, okC, oneC, init, Nat.reduceAdd, Nat.reduceMul, Nat.reduceSub, Nat.reduceEqDiff, Nat.reduceLT, ↓reduceIte, Int.reduceToNat, Int.reduceAdd, Int.reduceSub, Int.reduceMul, Int.reduceLT, Int.reduceLE, Int.reduceEq, Nat.reduceLeDiff]
    exact ⟨0, Nat.zero_le _, fun j hj => absurd hj (Nat.not_lt_zero _), rfl⟩
  rintro σ w' ⟨rfl, k, hk, hup, f0, f3⟩ K hK
  simp +contextual (maxSteps := 2000000) (disch := (first | omega | (simp only [SZ]; done) | (simp only [SZ]; omega) | (simp only [TS] at *; omega))) only [RZ, gval, gslot, fillL, ovw, numb, catL, ldN, agL, okC, oneC, init, Nat.reduceAdd, Nat.reduceMul, Nat.reduceSub, Nat.reduceEqDiff, Nat.reduceLT, ↓reduceIte, Int.reduceToNat, Int.reduceAdd, Int.reduceSub, Int.reduceMul, Int.reduceLT, Int.reduceLE, Int.reduceEq, Nat.reduceLeDiff,  f0, f3]
  (refine W_if rfl (fun hc => ?_) (fun hc => ?_) <;> (try simp only [TS] at hc))
  · simp +contextual (maxSteps := 2000000) (disch := (first | omega | (simp only [SZ]; done) | (simp only [SZ]; omega) | (simp only [TS] at *; omega))) only [RZ, gval, gslot, fillL, ovw, numb, catL, ldN, agL, okC, oneC, init, Nat.reduceAdd, Nat.reduceMul, Nat.reduceSub, Nat.reduceEqDiff, Nat.reduceLT, ↓reduceIte, Int.reduceToNat, Int.reduceAdd, Int.reduceSub, Int.reduceMul, Int.reduceLT, Int.reduceLE, Int.reduceEq, Nat.reduceLeDiff,  f0, f3]
    (refine W_if rfl (fun hc => ?_) (fun hc => ?_) <;> (try simp only [TS] at hc))
    · simp +contextual (maxSteps := 2000000) (disch := (first | omega | (simp only [SZ]; done) | (simp only [SZ]; omega) | (simp only [TS] at *; omega))) only [RZ, gval, gslot, fillL, ovw, numb, catL, ldN, agL, okC, oneC, init, Nat.reduceAdd, Nat.reduceMul, Nat.reduceSub, Nat.reduceEqDiff, Nat.reduceLT, ↓reduceIte, Int.reduceToNat, Int.reduceAdd, Int.reduceSub, Int.reduceMul, Int.reduceLT, Int.reduceLE, Int.reduceEq, Nat.reduceLeDiff,  f0, f3]
      exact ret_bool (scName_bad (k := k) (by omega) (by omega)).symm
    · simp +contextual (maxSteps := 2000000) (disch := (first | omega | (simp only [SZ]; done) | (simp only [SZ]; omega) | (simp only [TS] at *; omega))) only [RZ, gval, gslot, fillL, ovw, numb, catL, ldN, agL, okC, oneC, init, Nat.reduceAdd, Nat.reduceMul, Nat.reduceSub, Nat.reduceEqDiff, Nat.reduceLT, ↓reduceIte, Int.reduceToNat, Int.reduceAdd, Int.reduceSub, Int.reduceMul, Int.reduceLT, Int.reduceLE, Int.reduceEq, Nat.reduceLeDiff,  f0, f3]
      refine hK _ _ ⟨rfl, k + 1, by omega, fun j hj => ?_, ?_⟩ ?_
      · rcases Nat.lt_or_eq_of_le (Nat.lt_succ_iff.1 hj) with h | rfl
        · exact hup j h
        · omega
      · simp +contextual (maxSteps := 2000000) (disch := (first | omega | (simp only [SZ]; done) | (simp only [SZ]; omega) | (simp only [TS] at *; omega))) only [RZ, gval, gslot, fillL, ovw, numb, catL, ldN, agL, okC, oneC, init, Nat.reduceAdd, Nat.reduceMul, Nat.reduceSub, Nat.reduceEqDiff, Nat.reduceLT, ↓reduceIte, Int.reduceToNat, Int.reduceAdd, Int.reduceSub, Int.reduceMul, Int.reduceLT, Int.reduceLE, Int.reduceEq, Nat.reduceLeDiff,  f0, f3]
      · simp +contextual (maxSteps := 2000000) (disch := (first | omega | (simp only [SZ]; done) | (simp only [SZ]; omega) | (simp only [TS] at *; omega))) only [RZ, gval, gslot, fillL, ovw, numb, catL, ldN, agL, okC, oneC, init, Nat.reduceAdd, Nat.reduceMul, Nat.reduceSub, Nat.reduceEqDiff, Nat.reduceLT, ↓reduceIte, Int.reduceToNat, Int.reduceAdd, Int.reduceSub, Int.reduceMul, Int.reduceLT, Int.reduceLE, Int.reduceEq, Nat.reduceLeDiff,  intOf, f3]
        omega
  · simp +contextual (maxSteps := 2000000) (disch := (first | omega | (simp only [SZ]; done) | (simp only [SZ]; omega) | (simp only [TS] at *; omega))) only [RZ, gval, gslot, fillL, ovw, numb, catL, ldN, agL, okC, oneC, init, Nat.reduceAdd, Nat.reduceMul, Nat.reduceSub, Nat.reduceEqDiff, Nat.reduceLT, ↓reduceIte, Int.reduceToNat, Int.reduceAdd, Int.reduceSub, Int.reduceMul, Int.reduceLT, Int.reduceLE, Int.reduceEq, Nat.reduceLeDiff,  f0, f3]
    exact ret_bool (scName_yes (by omega) (by omega) (by omega) (fun j hj => hup j (by omega))).symm
end Go.Proofs.YtjaeiiiniohloaaDoor
