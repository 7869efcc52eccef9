/- Texts laid one behind the other: DhF, DwB, DeckC, Ord5. Each says at its head what it proves. -/
import Derived.Test.YtcnlopjjejdahaaDoorY12
set_option linter.unusedSimpArgs false
/- Walks: deck.Build. -/
namespace Go.Proofs.YtcnlopjjejdahaaDoor
open Go.RowKit
set_option maxRecDepth 100000
theorem below_drew {B : Nat} {a w : World} (h : Below B a w) : Below B a w.drew := ⟨h.os, h.tape, h.output, h.size, h.block⟩
def insZ : Ins := ⟨0, 0, 0, ⟨#[]⟩⟩
theorem insZ_rep (n : Nat) : (List.replicate n [Value.int .i64 0, .int .i64 0, .int .i64 0, .string ⟨#[]⟩]).flatten = (List.replicate n insZ).flatMap encIns := by
  induction n with
  | zero => rfl
  | succ n ih => rw [List.replicate_succ, List.flatten_cons, ih, List.replicate_succ, List.flatMap_cons]; rfl
theorem row_ins {w : World} {g i : Nat} {L : List Ins} {x : Ins} (h : Row w g 46 (L.flatMap encIns)) (hx : L[i]? = some x) (y : Ins) :
    Row ((((w.setCell ⟨g, i * 4, none⟩ (.int .i64 y.pack)).setCell ⟨g, i * 4 + 1, none⟩ (.int .i64 y.index)).setCell ⟨g, i * 4 + 2, none⟩ (.int .i64 y.prize)).setCell ⟨g, i * 4 + 3, none⟩ (.string y.code)) g 46 ((L.set i y).flatMap encIns) := by
  have hi := (List.getElem?_eq_some_iff.1 hx).1
  have hl := flat_len (sz := 4) (enc := encIns) (fun _ => rfl) L
  have h1 := h.set_ (i := i * 4) (by omega) (.int .i64 y.pack)
  rw [show i * 4 = i * 4 + 0 from rfl, flat_set (sz := 4) (enc := encIns) (j := 0) (fun _ => rfl) (by decide) (y := ⟨y.pack, x.index, x.prize, x.code⟩) (by rfl) _ _ hx] at h1
  have h2 := h1.set_ (i := i * 4 + 1) (by rw [flat_len (sz := 4) (enc := encIns) (fun _ => rfl), List.length_set]; omega) (.int .i64 y.index)
  rw [flat_set (sz := 4) (enc := encIns) (j := 1) (fun _ => rfl) (by decide) (y := ⟨y.pack, y.index, x.prize, x.code⟩) (by rfl) _ _ (List.getElem?_set_self hi), List.set_set] at h2
  have h3 := h2.set_ (i := i * 4 + 2) (by rw [flat_len (sz := 4) (enc := encIns) (fun _ => rfl), List.length_set]; omega) (.int .i64 y.prize)
  rw [flat_set (sz := 4) (enc := encIns) (j := 2) (fun _ => rfl) (by decide) (y := ⟨y.pack, y.index, y.prize, x.code⟩) (by rfl) _ _ (List.getElem?_set_self hi), List.set_set] at h3
  have h4 := h3.set_ (i := i * 4 + 3) (by rw [flat_len (sz := 4) (enc := encIns) (fun _ => rfl), List.length_set]; omega) (.string y.code)
  rw [flat_set (sz := 4) (enc := encIns) (j := 3) (fun _ => rfl) (by decide) (y := y) (by rfl) _ _ (List.getElem?_set_self hi), List.set_set] at h4
  exact h4
set_option maxHeartbeats 1000000 in
theorem build_any (p : Pl) (A : Option Addr) (c : Nat) (seed : Int) (w : World) (hW : Laid w) (hs : p.name.size ≤ 9223372036854775807) (hL : Arr w A 3 (p.levels.map encLvl)) (h0 : 0 ≤ seed) (h1 : seed ≤ 18446744073709551615) :
    Calls Tryd.prog 23 #[planV p A c, .int .u64 seed] w fun e w' => Below w.heap.size w w' ∧
      if (buildE p seed).2 = 0 then ∃ gd, w.heap.size ≤ gd ∧ e = .returned (.tuple #[.slice (some ⟨gd, 0, none⟩) (buildE p seed).1.length (buildE p seed).1.length, .int .i64 0]) ∧ Row w' gd 46 ((buildE p seed).1.flatMap encIns)
      else e = .returned (.tuple #[.slice none 0 0, .int .i64 (buildE p seed).2]) := by
  unfold planV
  refine calls_W (l := [_, _]) Tryd.func23 rfl _ Tryd.ntmps23 (by simp) ?_
  obtain ⟨hp, hsz, hB⟩ := new_block w #[Value.string p.name, .int .i64 p.price, .int .i64 p.packs, .int .i64 p.size, .slice A p.levels.length c] 24
  have rp := Row.new w 24 [Value.string p.name, .int .i64 p.price, .int .i64 p.packs, .int .i64 p.size, .slice A p.levels.length c]
  replace rp : Row (w.alloc (.cells #[Value.string p.name, .int .i64 p.price, .int .i64 p.packs, .int .i64 p.size, .slice A p.levels.length c] 24)) _ _ _ := rp
  have hp2 := hp 2
  have hp3 := hp 3
  simp only [List.getElem?_toArray, List.getElem?_cons_zero, List.getElem?_cons_succ] at hp2 hp3
  simp +contextual (maxSteps := 2000000) (disch := (first | omega | (simp only [SZ]; done) | (simp only [SZ]; omega) | (simp only [TS] at *; omega))) only [RZ, gval, gslot, fillL, ovw, numb, catL, ldN, agL, okC, oneC, init, Nat.reduceAdd, Nat.reduceMul, Nat.reduceSub, Nat.reduceEqDiff, Nat.reduceLT, ↓reduceIte, Int.reduceToNat, Int.reduceAdd, Int.reduceSub, Int.reduceMul, Int.reduceLT, Int.reduceLE, Int.reduceEq, Nat.reduceLeDiff]
  generalize w.alloc (.cells #[Value.string p.name, .int .i64 p.price, .int .i64 p.packs, .int .i64 p.size, .slice A p.levels.length c] 24) = w1 at *
  have hL1 := hL.below hB
  refine (check_any p.name p.price p.packs p.size A c p.levels w1 hs hL1).mono ?_
  rintro e w2 ⟨rfl, hB2⟩
  refine ⟨_, rfl, ?_⟩
  have hL2 := hL1.below hB2
  have hfin : Below w.heap.size w w2 := hB.trans (hB2.mono (by omega))
  have e2 := ((bcell hB2).1 w.heap.size 2 (by omega)).trans hp2
  have e3 := ((bcell hB2).1 w.heap.size 3 (by omega)).trans hp3
  have hz2 := hB2.size
  rw [show chk p.name p.price p.packs p.size p.levels = p.chk from rfl]
  simp +contextual (maxSteps := 2000000) (disch := (first | omega | (simp only [SZ]; done) | (simp only [SZ]; omega) | (simp only [TS] at *; omega))) only [RZ, gval, gslot, fillL, ovw, numb, catL, ldN, agL, okC, oneC, init, Nat.reduceAdd, Nat.reduceMul, Nat.reduceSub, Nat.reduceEqDiff, Nat.reduceLT, ↓reduceIte, Int.reduceToNat, Int.reduceAdd, Int.reduceSub, Int.reduceMul, Int.reduceLT, Int.reduceLE, Int.reduceEq, Nat.reduceLeDiff]
  (refine W_if rfl (fun hc => ?_) (fun hc => ?_) <;> (try simp only [TS] at hc))
  · have hb : buildE p seed = ([], p.chk) := if_neg hc
    rw [hb]
    simp +contextual (maxSteps := 2000000) (disch := (first | omega | (simp only [SZ]; done) | (simp only [SZ]; omega) | (simp only [TS] at *; omega))) only [RZ, gval, gslot, fillL, ovw, numb, catL, ldN, agL, okC, oneC, init, Nat.reduceAdd, Nat.reduceMul, Nat.reduceSub, Nat.reduceEqDiff, Nat.reduceLT, ↓reduceIte, Int.reduceToNat, Int.reduceAdd, Int.reduceSub, Int.reduceMul, Int.reduceLT, Int.reduceLE, Int.reduceEq, Nat.reduceLeDiff]
    refine ⟨hfin, ?_⟩
    rw [if_neg hc]
    trivial
  have hck : p.chk = 0 := by omega
  have hb : buildE p seed = (insL p.size.toNat seed (deckZ p.packs p.size p.levels seed).1, (deckZ p.packs p.size p.levels seed).2) := if_pos hck
  rw [hb]
  obtain ⟨q1, q2, q3, q4, q5, q6⟩ := chk_ok hck
  obtain ⟨S, hSi⟩ : ∃ S : Nat, p.size = S := ⟨p.size.toNat, by omega⟩
  obtain ⟨P, hPi⟩ : ∃ P : Nat, p.packs = P := ⟨p.packs.toNat, by omega⟩
  have hPb : P * S ≤ 32 * 256 := Nat.mul_le_mul (by omega) (by omega)
  have hPS : (P : Int) * S = ((P * S : Nat) : Int) := (Int.natCast_mul P S).symm
  have hI : sliceI Tryd.prog 37 = some (46, 4, 40) := by kernel_rfl
  have hz : zeroV Tryd.prog 46 = some (.agg #[.int .i64 0, .int .i64 0, .int .i64 0, .string ⟨#[]⟩]) := by kernel_rfl
  have hmk := vMakeSlice_at (P := Tryd.prog) (T := 37) (w := w2) (n := ((P * S : Nat) : Int)) hI hz (by omega) (by omega) (by omega)
  rw [Int.toNat_natCast] at hmk
  rw [hPi] at e2
  rw [hSi] at e3
  simp +contextual (maxSteps := 2000000) (disch := (first | omega | (simp only [SZ]; done) | (simp only [SZ]; omega) | (simp only [TS] at *; omega))) only [RZ, gval, gslot, fillL, ovw, numb, catL, ldN, agL, okC, oneC, init, Nat.reduceAdd, Nat.reduceMul, Nat.reduceSub, Nat.reduceEqDiff, Nat.reduceLT, ↓reduceIte, Int.reduceToNat, Int.reduceAdd, Int.reduceSub, Int.reduceMul, Int.reduceLT, Int.reduceLE, Int.reduceEq, Nat.reduceLeDiff,  e2, e3, hPS, hmk]
  have hR := make_row w2 [.int .i64 0, .int .i64 0, .int .i64 0, .string ⟨#[]⟩] (P * S) 46 (by simp)
  have hB3 := below_alloc w2 (.cells (madeCells #[.int .i64 0, .int .i64 0, .int .i64 0, .string ⟨#[]⟩] (P * S * 4)) 46)
  rw [insZ_rep] at hR
  replace hR : Row (w2.alloc (.cells (madeCells #[.int .i64 0, .int .i64 0, .int .i64 0, .string ⟨#[]⟩] (P * S * 4)) 46)) w2.heap.size 46 _ := hR
  generalize w2.alloc (.cells (madeCells #[.int .i64 0, .int .i64 0, .int .i64 0, .string ⟨#[]⟩] (P * S * 4)) 46) = w3 at *
  have hf3 := hfin.trans (hB3.mono (by omega))
  refine Raw_loop (fun σ w4 => ∃ (k : Nat) (L : List Ins), k ≤ P * S ∧ L.length = P * S ∧ (∀ j, j < k → L[j]? = some (insAt S seed j 0)) ∧ Row w4 w2.heap.size 46 (L.flatMap encIns) ∧ Below w2.heap.size w3 w4 ∧
    σ 1 = .int .u64 seed ∧ σ 2 = .pointer (some ⟨w.heap.size, 0, none⟩) ∧ σ 7 = .slice (some ⟨w2.heap.size, 0, none⟩) (P * S) (P * S) ∧ σ 25 = .int .i64 (P * S : Nat) ∧ σ 26 = .int .i64 k) (fun σ _ => P * S - (intOf (σ 26)).toNat) ?_ ?_
  · simp +contextual (maxSteps := 2000000) (disch := (first | omega | (simp only [SZ]; done) | (simp only [SZ]; omega) | (simp only [TS] at *; omega))) only [RZ, gval, gslot, fillL, ovw, numb, catL, ldN, agL, okC, oneC, init, Nat.reduceAdd, Nat.reduceMul, Nat.reduceSub, Nat.reduceEqDiff, Nat.reduceLT, ↓reduceIte, Int.reduceToNat, Int.reduceAdd, Int.reduceSub, Int.reduceMul, Int.reduceLT, Int.reduceLE, Int.reduceEq, Nat.reduceLeDiff]
    exact ⟨0, _, Nat.zero_le _, List.length_replicate .., fun j hj => absurd hj (Nat.not_lt_zero _), hR, Below.refl _ _, rfl⟩
  rintro σ w4 ⟨k, L, hk, hLl, hLk, hR4, hB4, f1, f2, f7, f25, f26⟩ K hK
  have hz4 := hB4.size
  have hlt4 := hR4.lt
  have e34 := ((bcell hB4).1 w.heap.size 3 (by omega)).trans (((bcell hB3).1 w.heap.size 3 (by omega)).trans e3)
  simp +contextual (maxSteps := 2000000) (disch := (first | omega | (simp only [SZ]; done) | (simp only [SZ]; omega) | (simp only [TS] at *; omega))) only [RZ, gval, gslot, fillL, ovw, numb, catL, ldN, agL, okC, oneC, init, Nat.reduceAdd, Nat.reduceMul, Nat.reduceSub, Nat.reduceEqDiff, Nat.reduceLT, ↓reduceIte, Int.reduceToNat, Int.reduceAdd, Int.reduceSub, Int.reduceMul, Int.reduceLT, Int.reduceLE, Int.reduceEq, Nat.reduceLeDiff,  f1, f2, f7, f25, f26]
  (refine W_if rfl (fun hc => ?_) (fun hc => ?_) <;> (try simp only [TS] at hc))
  · have hsk : 0 ≤ (seed + k) % 18446744073709551616 ∧ (seed + k) % 18446744073709551616 ≤ 18446744073709551615 := mod_bd _
    have hmx := mixI_bd _ hsk.1
    obtain ⟨mx, hmxe⟩ := Int.eq_ofNat_of_zero_le hmx.1
    simp +contextual (maxSteps := 2000000) (disch := (first | omega | (simp only [SZ]; done) | (simp only [SZ]; omega) | (simp only [TS] at *; omega))) only [RZ, gval, gslot, fillL, ovw, numb, catL, ldN, agL, okC, oneC, init, Nat.reduceAdd, Nat.reduceMul, Nat.reduceSub, Nat.reduceEqDiff, Nat.reduceLT, ↓reduceIte, Int.reduceToNat, Int.reduceAdd, Int.reduceSub, Int.reduceMul, Int.reduceLT, Int.reduceLE, Int.reduceEq, Nat.reduceLeDiff,  f1, f2, f7, f25, f26, vBin_addW]
    refine (mix_any _ _ hsk.1 hsk.2).mono ?_
    rintro e w5 ⟨rfl, rfl⟩
    refine ⟨_, rfl, ?_⟩
    have hW4 := hW.below (hf3.trans (hB4.mono (by omega))) hW.size
    rw [hmxe]
    simp +contextual (maxSteps := 2000000) (disch := (first | omega | (simp only [SZ]; done) | (simp only [SZ]; omega) | (simp only [TS] at *; omega))) only [RZ, gval, gslot, fillL, ovw, numb, catL, ldN, agL, okC, oneC, init, Nat.reduceAdd, Nat.reduceMul, Nat.reduceSub, Nat.reduceEqDiff, Nat.reduceLT, ↓reduceIte, Int.reduceToNat, Int.reduceAdd, Int.reduceSub, Int.reduceMul, Int.reduceLT, Int.reduceLE, Int.reduceEq, Nat.reduceLeDiff]
    refine (hex_any mx _ hW4 (by omega)).mono ?_
    rintro e w5 ⟨rfl, hB5⟩
    refine ⟨_, rfl, ?_⟩
    have e35 := ((bcell hB5).1 w.heap.size 3 (by omega)).trans e34
    have hR5 := hR4.below hB5
    have hB45 := hB4.trans (hB5.mono (by omega))
    simp +contextual (maxSteps := 2000000) (disch := (first | omega | (simp only [SZ]; done) | (simp only [SZ]; omega) | (simp only [TS] at *; omega))) only [RZ, gval, gslot, fillL, ovw, numb, catL, ldN, agL, okC, oneC, init, Nat.reduceAdd, Nat.reduceMul, Nat.reduceSub, Nat.reduceEqDiff, Nat.reduceLT, ↓reduceIte, Int.reduceToNat, Int.reduceAdd, Int.reduceSub, Int.reduceMul, Int.reduceLT, Int.reduceLE, Int.reduceEq, Nat.reduceLeDiff,  f1, f2, f7, f25, f26]
    refine Raw_gen fun τ hτ => ?_
    have t1 : τ 1 = .int .u64 seed := (hτ 1).trans f1
    have t2 : τ 2 = .pointer (some ⟨w.heap.size, 0, none⟩) := (hτ 2).trans f2
    have t7 : τ 7 = .slice (some ⟨w2.heap.size, 0, none⟩) (P * S) (P * S) := (hτ 7).trans f7
    have t8 : τ 8 = .int .i64 k := (hτ 8).trans rfl
    have t9 : τ 9 = .string (toBA (hexT 16 mx)) := (hτ 9).trans rfl
    have t25 : τ 25 = .int .i64 (P * S : Nat) := (hτ 25).trans f25
    have t26 : τ 26 = .int .i64 k := (hτ 26).trans f26
    clear hτ
    obtain ⟨x, hx⟩ : ∃ x, L[k]? = some x := ⟨_, List.getElem?_eq_getElem (by omega)⟩
    have l0 := hR5.cell (flat_cell (sz := 4) (enc := encIns) (j := 0) (fun _ => rfl) rfl _ _ hx)
    rw [Nat.add_zero] at l0
    have l1 := hR5.cell (flat_cell (sz := 4) (enc := encIns) (j := 1) (fun _ => rfl) rfl _ _ hx)
    have l2 := hR5.cell (flat_cell (sz := 4) (enc := encIns) (j := 2) (fun _ => rfl) rfl _ _ hx)
    have l3 := hR5.cell (flat_cell (sz := 4) (enc := encIns) (j := 3) (fun _ => rfl) rfl _ _ hx)
    have y0 := hR5.frozen (k * 4)
    have y1 := hR5.frozen (k * 4 + 1)
    have y2 := hR5.frozen (k * 4 + 2)
    have y3 := hR5.frozen (k * 4 + 3)
    obtain ⟨kq, hkq⟩ : ∃ kq, k / S = kq := ⟨_, rfl⟩
    obtain ⟨kr, hkr⟩ : ∃ kr, k % S = kr := ⟨_, rfl⟩
    have hquo : ((k : Int) / S) = (kq : Int) := by rw [← hkq, Int.natCast_ediv]
    have hrem : ((k : Int) % S) = (kr : Int) := by rw [← hkr, Int.natCast_emod]
    have hqb : kq ≤ k := hkq ▸ Nat.div_le_self _ _
    have hrb : kr ≤ k := hkr ▸ Nat.mod_le _ _
    have e36 : w5.drew.cell? _ = _ := e35
    refine Raw_ordT [0, 1, 2, 3, 4, 5, 6, 7, 8, 9, 10, 11, 12, 13, 14] 16 rfl MX ?_
    refine OrdT_reads (τ := ?ta) [0, 1, 2, 3, 4, 5, 6, 7, 8, 9, 10, 11, 12, 13, 14] 1 rfl (by kernel_rfl) (by kernel_rfl) (fun _ _ _ h => h) ?_ ?_; rotate_left
    · simp only [opsL_cons, opsL_nil, List.getElem?_toArray, List.getElem?_cons_zero, List.getElem?_cons_succ, optL_some]
      simp +contextual (maxSteps := 2000000) (disch := (first | omega | (simp only [SZ]; done) | (simp only [SZ]; omega) | (simp only [TS] at *; omega))) only [RZ, gval, gslot, fillL, ovw, numb, catL, ldN, agL, okC, oneC, init, Nat.reduceAdd, Nat.reduceMul, Nat.reduceSub, Nat.reduceEqDiff, Nat.reduceLT, ↓reduceIte, Int.reduceToNat, Int.reduceAdd, Int.reduceSub, Int.reduceMul, Int.reduceLT, Int.reduceLE, Int.reduceEq, Nat.reduceLeDiff,  t1, t2, t7, t8, t9, t25, t26, e36, hquo, hrem]
      exact rfl
    refine OrdT_chain [15] _ _ _ (by kernel_rfl) (by kernel_rfl) ?_
    simp only [opsL_cons, opsL_nil, List.getElem?_toArray, List.getElem?_cons_zero, List.getElem?_cons_succ, optL_some]
    simp +contextual (maxSteps := 2000000) (disch := (first | omega | (simp only [SZ]; done) | (simp only [SZ]; omega) | (simp only [TS] at *; omega))) only [RZ, gval, gslot, fillL, ovw, numb, catL, ldN, agL, okC, oneC, init, Nat.reduceAdd, Nat.reduceMul, Nat.reduceSub, Nat.reduceEqDiff, Nat.reduceLT, ↓reduceIte, Int.reduceToNat, Int.reduceAdd, Int.reduceSub, Int.reduceMul, Int.reduceLT, Int.reduceLE, Int.reduceEq, Nat.reduceLeDiff,  t1, t2, t7, t8, t9, t25, t26, l0, l1, l2, l3, y0, y1, y2, y3]
    have hcd : codeB seed k = toBA (hexT 16 mx) := by
      unfold codeB
      rw [hmxe, Int.toNat_natCast]
    have hri := row_ins hR5 hx (insAt S seed k 0)
    have hia : insAt S seed k 0 = ⟨(kq : Int) + 1, (kr : Int) + 1, 0, toBA (hexT 16 mx)⟩ := by
      unfold insAt
      rw [hcd, hkq, hkr]
    rw [hia] at hri
    refine hK _ _ ⟨k + 1, L.set k (insAt S seed k 0), by omega, by rw [List.length_set]; exact hLl, fun j hj => ?_, by rw [hia]; exact hri.drew, ?_, ?_⟩ ?_
    · rw [List.getElem?_set]
      by_cases e : k = j
      · subst e
        rw [if_pos rfl, if_pos (by omega)]
      · rw [if_neg e]
        exact hLk j (by omega)
    · exact below_drew ((((hB45.setCell (p := ⟨w2.heap.size, _, none⟩) (Nat.le_refl _) _).setCell (p := ⟨w2.heap.size, _, none⟩) (Nat.le_refl _) _).setCell (p := ⟨w2.heap.size, _, none⟩) (Nat.le_refl _) _).setCell (p := ⟨w2.heap.size, _, none⟩) (Nat.le_refl _) _)
    · simp +contextual (maxSteps := 2000000) (disch := (first | omega | (simp only [SZ]; done) | (simp only [SZ]; omega) | (simp only [TS] at *; omega))) only [RZ, gval, gslot, fillL, ovw, numb, catL, ldN, agL, okC, oneC, init, Nat.reduceAdd, Nat.reduceMul, Nat.reduceSub, Nat.reduceEqDiff, Nat.reduceLT, ↓reduceIte, Int.reduceToNat, Int.reduceAdd, Int.reduceSub, Int.reduceMul, Int.reduceLT, Int.reduceLE, Int.reduceEq, Nat.reduceLeDiff,  t1, t2, t7, t8, t9, t25, t26]
    · simp +contextual (maxSteps := 2000000) (disch := (first | omega | (simp only [SZ]; done) | (simp only [SZ]; omega) | (simp only [TS] at *; omega))) only [RZ, gval, gslot, fillL, ovw, numb, catL, ldN, agL, okC, oneC, init, Nat.reduceAdd, Nat.reduceMul, Nat.reduceSub, Nat.reduceEqDiff, Nat.reduceLT, ↓reduceIte, Int.reduceToNat, Int.reduceAdd, Int.reduceSub, Int.reduceMul, Int.reduceLT, Int.reduceLE, Int.reduceEq, Nat.reduceLeDiff,  intOf, t26, f26]
      omega
  · have hk2 : k = P * S := by omega
    subst hk2
    have hLL : L = insL S seed (List.replicate (P * S) 0) := by
      apply List.ext_getElem?
      intro j
      by_cases hj : j < P * S
      · rw [hLk j hj, insL_get (z := 0) (by rw [List.getElem?_replicate, if_pos hj])]
      · rw [List.getElem?_eq_none (by omega), List.getElem?_eq_none (by rw [insL_len, List.length_replicate]; omega)]
    subst hLL
    replace hR4 : Row w4 w2.heap.size 46 (deckV S seed (List.replicate (P * S) 0)) := hR4
    have rp4 := rp.of_block ((hB4.block w.heap.size (by omega)).trans ((hB3.block w.heap.size (by omega)).trans (hB2.block w.heap.size (by omega))))
    have hf4 := hf3.trans (hB4.mono (by omega))
    simp +contextual (maxSteps := 2000000) (disch := (first | omega | (simp only [SZ]; done) | (simp only [SZ]; omega) | (simp only [TS] at *; omega))) only [RZ, gval, gslot, fillL, ovw, numb, catL, ldN, agL, okC, oneC, init, Nat.reduceAdd, Nat.reduceMul, Nat.reduceSub, Nat.reduceEqDiff, Nat.reduceLT, ↓reduceIte, Int.reduceToNat, Int.reduceAdd, Int.reduceSub, Int.reduceMul, Int.reduceLT, Int.reduceLE, Int.reduceEq, Nat.reduceLeDiff,  f1, f2, f7, f25, f26]
    refine (streamNew_any seed w4 h0 h1).mono ?_
    rintro e w5 ⟨rfl, hs5, hB5, hz5⟩
    refine ⟨_, rfl, ?_⟩
    have rp5 := rp4.below hB5
    have hR5 := hR4.below hB5
    have hf5 := hf4.trans (hB5.mono (by omega))
    have hL5 := hL.below hf5
    have a0 := rp5.cell (i := 0) rfl
    have a1 := rp5.cell (i := 1) rfl
    have a2 := rp5.cell (i := 2) rfl
    have a3 := rp5.cell (i := 3) rfl
    have a4 := rp5.cell (i := 4) rfl
    simp +contextual (maxSteps := 2000000) (disch := (first | omega | (simp only [SZ]; done) | (simp only [SZ]; omega) | (simp only [TS] at *; omega))) only [RZ, gval, gslot, fillL, ovw, numb, catL, ldN, agL, okC, oneC, init, Nat.reduceAdd, Nat.reduceMul, Nat.reduceSub, Nat.reduceEqDiff, Nat.reduceLT, ↓reduceIte, Int.reduceToNat, Int.reduceAdd, Int.reduceSub, Int.reduceMul, Int.reduceLT, Int.reduceLE, Int.reduceEq, Nat.reduceLeDiff,  f1, f2, f7, f25, f26, a0, a1, a2, a3, a4]
    have hAA : ∀ b o, A = some ⟨b, o, none⟩ → b ∉ [w4.heap.size, w2.heap.size] := fun b o hA => by
      obtain ⟨b', o', eA, hb', _⟩ := hL (by rw [List.length_map]; omega)
      rw [hA] at eA
      injection eA with eA
      injection eA with eA
      simp
      omega
    have hZP : ((List.replicate (P * S) (0 : Int)).length : Int) = p.packs * p.size := by rw [List.length_replicate, hPi, hSi, hPS]
    have hgu := guarantee_any p A c w2.heap.size (P * S) w4.heap.size seed seed (List.replicate (P * S) 0) w5 hck hL5 hAA (by omega) hZP (by rw [hSi, Int.toNat_natCast]; exact hR5) hs5 (by rw [List.length_replicate]; exact Nat.le_refl _)
    rw [List.length_replicate] at hgu
    refine hgu.mono ?_
    clear hgu
    rintro e w6 ⟨rfl, hs6, hR6, hk6⟩
    refine ⟨_, rfl, ?_⟩
    have hfree := fun h => gua_free (p := P) (s := S) (L := p.levels) (by omega) (by omega) (by rw [← hPi, ← hSi]; exact q6) seed h
    have hdz : deckZ P S p.levels seed = if (guaE S (sureL p.levels) P 0 (List.replicate (P * S) 0) seed).2.1 = 0 then
        (let c := scaE (restL P p.levels) (freeL (guaE S (sureL p.levels) P 0 (List.replicate (P * S) 0) seed).1) 0 (guaE S (sureL p.levels) P 0 (List.replicate (P * S) 0) seed).1 (guaE S (sureL p.levels) P 0 (List.replicate (P * S) 0) seed).2.2
        if c.2.1 = 0 then (c.1, 0) else ([], c.2.1)) else ([], (guaE S (sureL p.levels) P 0 (List.replicate (P * S) 0) seed).2.1) := by
      unfold deckZ
      rw [show ((P : Int) * S).toNat = P * S by rw [hPS, Int.toNat_natCast], Int.toNat_natCast, Int.toNat_natCast]
    rw [show p.size.toNat = S by omega, show p.packs.toNat = P by omega] at hs6 hR6 ⊢
    rw [hPi, hSi]
    generalize hD : deckZ P S p.levels seed = D at *
    generalize hG : guaE S (sureL p.levels) P 0 (List.replicate (P * S) 0) seed = G at *
    have hf6 : Below w.heap.size w w6 := hf5.trans ⟨hk6.os, hk6.tape, hk6.output, hk6.size, fun k hk => hk6.block k (by omega) (by simp; omega)⟩
    simp +contextual (maxSteps := 2000000) (disch := (first | omega | (simp only [SZ]; done) | (simp only [SZ]; omega) | (simp only [TS] at *; omega))) only [RZ, gval, gslot, fillL, ovw, numb, catL, ldN, agL, okC, oneC, init, Nat.reduceAdd, Nat.reduceMul, Nat.reduceSub, Nat.reduceEqDiff, Nat.reduceLT, ↓reduceIte, Int.reduceToNat, Int.reduceAdd, Int.reduceSub, Int.reduceMul, Int.reduceLT, Int.reduceLE, Int.reduceEq, Nat.reduceLeDiff]
    (refine W_if rfl (fun hc => ?_) (fun hc => ?_) <;> (try simp only [TS] at hc))
    · have hc' : ¬ G.2.1 = 0 := hc
      rw [if_neg hc'] at hdz
      subst hdz
      simp +contextual (maxSteps := 2000000) (disch := (first | omega | (simp only [SZ]; done) | (simp only [SZ]; omega) | (simp only [TS] at *; omega))) only [RZ, gval, gslot, fillL, ovw, numb, catL, ldN, agL, okC, oneC, init, Nat.reduceAdd, Nat.reduceMul, Nat.reduceSub, Nat.reduceEqDiff, Nat.reduceLT, ↓reduceIte, Int.reduceToNat, Int.reduceAdd, Int.reduceSub, Int.reduceMul, Int.reduceLT, Int.reduceLE, Int.reduceEq, Nat.reduceLeDiff]
      refine ⟨hf6, ?_⟩
      rw [if_neg hc']
      trivial
    · have hc' : G.2.1 = 0 := by omega
      rw [if_pos hc'] at hdz
      obtain ⟨hfr, hgl⟩ := hfree hc'
      have rp6 := rp5.kept hk6 (by simp; omega)
      have a0 := rp6.cell (i := 0) rfl
      have a1 := rp6.cell (i := 1) rfl
      have a2 := rp6.cell (i := 2) rfl
      have a3 := rp6.cell (i := 3) rfl
      have a4 := rp6.cell (i := 4) rfl
      have hL6 := hL.below hf6
      simp +contextual (maxSteps := 2000000) (disch := (first | omega | (simp only [SZ]; done) | (simp only [SZ]; omega) | (simp only [TS] at *; omega))) only [RZ, gval, gslot, fillL, ovw, numb, catL, ldN, agL, okC, oneC, init, Nat.reduceAdd, Nat.reduceMul, Nat.reduceSub, Nat.reduceEqDiff, Nat.reduceLT, ↓reduceIte, Int.reduceToNat, Int.reduceAdd, Int.reduceSub, Int.reduceMul, Int.reduceLT, Int.reduceLE, Int.reduceEq, Nat.reduceLeDiff,  f1, f2, f7, f25, f26, a0, a1, a2, a3, a4]
      have hsc := scatter_any p A c w2.heap.size (P * S) w4.heap.size seed G.2.2 G.1 w6 hck hL6 hAA (by omega) (by rw [hgl, hPi, hSi, hPS]) (by rw [hPi]; exact hfr) (by rw [hSi, Int.toNat_natCast]; exact hR6) hs6 (by rw [hgl]; exact Nat.le_refl _)
      rw [hgl] at hsc
      refine hsc.mono ?_
      clear hsc
      rintro e w7 ⟨rfl, hR7, hk7⟩
      refine ⟨_, rfl, ?_⟩
      have hf7 : Below w.heap.size w w7 := hf6.trans ⟨hk7.os, hk7.tape, hk7.output, hk7.size, fun k hk => hk7.block k (by have := hf6.size; omega) (by simp; omega)⟩
      rw [show p.size.toNat = S by omega, hPi] at hR7
      rw [hPi]
      generalize scaE (restL P p.levels) (freeL G.1) 0 G.1 G.2.2 = CC at *
      dsimp only at hdz
      simp +contextual (maxSteps := 2000000) (disch := (first | omega | (simp only [SZ]; done) | (simp only [SZ]; omega) | (simp only [TS] at *; omega))) only [RZ, gval, gslot, fillL, ovw, numb, catL, ldN, agL, okC, oneC, init, Nat.reduceAdd, Nat.reduceMul, Nat.reduceSub, Nat.reduceEqDiff, Nat.reduceLT, ↓reduceIte, Int.reduceToNat, Int.reduceAdd, Int.reduceSub, Int.reduceMul, Int.reduceLT, Int.reduceLE, Int.reduceEq, Nat.reduceLeDiff]
      (refine W_if rfl (fun hc => ?_) (fun hc => ?_) <;> (try simp only [TS] at hc))
      · have hc2 : ¬ CC.2.1 = 0 := hc
        rw [if_neg hc2] at hdz
        subst hdz
        simp +contextual (maxSteps := 2000000) (disch := (first | omega | (simp only [SZ]; done) | (simp only [SZ]; omega) | (simp only [TS] at *; omega))) only [RZ, gval, gslot, fillL, ovw, numb, catL, ldN, agL, okC, oneC, init, Nat.reduceAdd, Nat.reduceMul, Nat.reduceSub, Nat.reduceEqDiff, Nat.reduceLT, ↓reduceIte, Int.reduceToNat, Int.reduceAdd, Int.reduceSub, Int.reduceMul, Int.reduceLT, Int.reduceLE, Int.reduceEq, Nat.reduceLeDiff]
        refine ⟨hf7, ?_⟩
        rw [if_neg hc2]
        trivial
      · have hc2 : CC.2.1 = 0 := by omega
        rw [if_pos hc2] at hdz
        subst hdz
        simp +contextual (maxSteps := 2000000) (disch := (first | omega | (simp only [SZ]; done) | (simp only [SZ]; omega) | (simp only [TS] at *; omega))) only [RZ, gval, gslot, fillL, ovw, numb, catL, ldN, agL, okC, oneC, init, Nat.reduceAdd, Nat.reduceMul, Nat.reduceSub, Nat.reduceEqDiff, Nat.reduceLT, ↓reduceIte, Int.reduceToNat, Int.reduceAdd, Int.reduceSub, Int.reduceMul, Int.reduceLT, Int.reduceLE, Int.reduceEq, Nat.reduceLeDiff,  f7]
        refine ⟨hf7, ?_⟩
        have hlen : (insL S seed CC.1).length = P * S := by
          rw [insL_len]
          have := deckZ_ok (p := P) (s := S) (L := p.levels) (by omega) (by omega) (by rw [← hPi, ← hSi]; exact q6) seed
          rw [hD] at this
          rcases this with ⟨_, h⟩ | ⟨h, _⟩
          · exact h.len
          · cases h
        exact ⟨w2.heap.size, by omega, by rw [hlen], hR7⟩
end Go.Proofs.YtcnlopjjejdahaaDoor
/- Walks: the law's awake: the chapter's examples. -/
namespace Go.Proofs.YtcnlopjjejdahaaDoor
open Go.RowKit
set_option maxRecDepth 100000
/-- One piece of code, what follows kept closed. -/
theorem W_piece {P : Program} {n : Nat} {x y : Code} {Q : Exit → Sl → World → Prop} {σ : Sl} {w : World} (h : ∀ K : Exit → Sl → World → Prop, (∀ σ w, W P n y Q σ w → K .normal σ w) → (∀ e σ w, e ≠ .normal → Q e σ w → K e σ w) → W P n x K σ w) : W P n (x.seq y) Q σ w := by
  rw [W_seq]
  exact h _ (fun σ w h => h) (fun e σ w hne hq => by
    cases e
    case normal => exact absurd rfl hne
    all_goals exact hq)
theorem W_pieceP {P : Program} {n : Nat} {x y : Code} {Q : Exit → Sl → World → Prop} {σ : Sl} {w : World} (hp : ∀ c σ w, ¬ Q (.panic c) σ w) (h : ∀ K : Exit → Sl → World → Prop, (∀ σ w, W P n y Q σ w → K .normal σ w) → (∀ e σ w, e ≠ .normal → Q e σ w → K e σ w) → (∀ c σ w, ¬ K (.panic c) σ w) → W P n x K σ w) : W P n (x.seq y) Q σ w := by
  rw [W_seq]
  exact h _ (fun σ w h => h) (fun e σ w hne hq => by
    cases e
    case normal => exact absurd rfl hne
    all_goals exact hq) (fun c σ w h => hp c σ w h)
theorem parse_ex {s : ByteArray} {q : Pl} {er ln : Int} (hs : s.size ≤ 1000000) (hp : parseP s = (q, er, ln)) (w : World) : Calls Tryd.prog 17 #[.string s] w fun e w' => Below w.heap.size w w' ∧
    ∃ A c, e = .returned (.tuple #[planV q A c, .int .i64 er, .int .i64 ln]) ∧ Arr w' A 3 (q.levels.map encLvl) ∧ ∀ b o, A = some ⟨b, o, none⟩ → w.heap.size ≤ b := by
  have := parse_any s w hs
  rw [hp] at this
  exact this
set_option maxHeartbeats 1000000 in
theorem awake_any (w : World) (hW : Laid w) : Calls Tryd.prog 12 #[] w fun e w' => e = .returned (.bool true) ∧ Below w.heap.size w w' := by
  refine calls_W (l := []) Tryd.func12 rfl _ Tryd.ntmps12 (by simp) ?_
  have hw5 := hW.size
  refine W_piece fun K hK hX => ?_
  simp +contextual (maxSteps := 2000000) (disch := (first | omega | (simp only [SZ]; done) | (simp only [SZ]; omega) | (simp only [TS] at *; omega))) only [RZ, gval, gslot, fillL, ovw, numb, catL, ldN, agL, okC, oneC, init, Nat.reduceAdd, Nat.reduceMul, Nat.reduceSub, Nat.reduceEqDiff, Nat.reduceLT, ↓reduceIte, Int.reduceToNat, Int.reduceAdd, Int.reduceSub, Int.reduceMul, Int.reduceLT, Int.reduceLE, Int.reduceEq, Nat.reduceLeDiff]
  refine hK _ _ ?_
  clear hK hX K
  refine W_piece fun K hK hX => ?_
  simp +contextual (maxSteps := 2000000) (disch := (first | omega | (simp only [SZ]; done) | (simp only [SZ]; omega) | (simp only [TS] at *; omega))) only [RZ, gval, gslot, fillL, ovw, numb, catL, ldN, agL, okC, oneC, init, Nat.reduceAdd, Nat.reduceMul, Nat.reduceSub, Nat.reduceEqDiff, Nat.reduceLT, ↓reduceIte, Int.reduceToNat, Int.reduceAdd, Int.reduceSub, Int.reduceMul, Int.reduceLT, Int.reduceLE, Int.reduceEq, Nat.reduceLeDiff]
  refine (parse_ex (q := exP) (er := 0) (ln := 0) (by decide) (by kernel_rfl) w).mono ?_
  rintro e w1 ⟨hB1, A, c, rfl, hA1, hAn⟩
  refine ⟨_, rfl, ?_⟩
  have hz1 := hB1.size
  rw [show planV exP A c = .agg #[.string exP.name, .int .i64 exP.price, .int .i64 exP.packs, .int .i64 exP.size, .slice A exP.levels.length c] from rfl]
  simp +contextual (maxSteps := 2000000) (disch := (first | omega | (simp only [SZ]; done) | (simp only [SZ]; omega) | (simp only [TS] at *; omega))) only [RZ, gval, gslot, fillL, ovw, numb, catL, ldN, agL, okC, oneC, init, Nat.reduceAdd, Nat.reduceMul, Nat.reduceSub, Nat.reduceEqDiff, Nat.reduceLT, ↓reduceIte, Int.reduceToNat, Int.reduceAdd, Int.reduceSub, Int.reduceMul, Int.reduceLT, Int.reduceLE, Int.reduceEq, Nat.reduceLeDiff]
  refine hK _ _ ?_
  clear hK hX K
  have r1 := Row.new w1 24 [.string exP.name, .int .i64 exP.price, .int .i64 exP.packs, .int .i64 exP.size, .slice A exP.levels.length c]
  replace r1 : Row (w1.alloc (.cells #[.string exP.name, .int .i64 exP.price, .int .i64 exP.packs, .int .i64 exP.size, .slice A exP.levels.length c] 24)) _ _ _ := r1
  have hb1 := below_alloc w1 (.cells #[.string exP.name, .int .i64 exP.price, .int .i64 exP.packs, .int .i64 exP.size, .slice A exP.levels.length c] 24)
  have hA2 := hA1.below hb1
  have hF2 := hB1.trans (hb1.mono (by omega))
  generalize w1.alloc (.cells #[.string exP.name, .int .i64 exP.price, .int .i64 exP.packs, .int .i64 exP.size, .slice A exP.levels.length c] 24) = w2 at *
  have hz2 := hF2.size
  have a0 := r1.cell (i := 0) rfl
  have a1 := r1.cell (i := 1) rfl
  have a2 := r1.cell (i := 2) rfl
  have a3 := r1.cell (i := 3) rfl
  have a4 := r1.cell (i := 4) rfl
  refine W_piece fun K hK hX => ?_
  simp +contextual (maxSteps := 2000000) (disch := (first | omega | (simp only [SZ]; done) | (simp only [SZ]; omega) | (simp only [TS] at *; omega))) only [RZ, gval, gslot, fillL, ovw, numb, catL, ldN, agL, okC, oneC, init, Nat.reduceAdd, Nat.reduceMul, Nat.reduceSub, Nat.reduceEqDiff, Nat.reduceLT, ↓reduceIte, Int.reduceToNat, Int.reduceAdd, Int.reduceSub, Int.reduceMul, Int.reduceLT, Int.reduceLE, Int.reduceEq, Nat.reduceLeDiff,  a0, a1, a2, a3, a4]
  refine (payout_any exP A c w2 (by decide) hA2).mono ?_
  rintro e w3 ⟨rfl, hB3⟩
  refine ⟨_, rfl, ?_⟩
  rw [exP_pay]
  have r1 := r1.below hB3
  have hA3 := hA2.below hB3
  have hF3 := hF2.trans (hB3.mono hz2)
  have hz3 := hF3.size
  simp +contextual (maxSteps := 2000000) (disch := (first | omega | (simp only [SZ]; done) | (simp only [SZ]; omega) | (simp only [TS] at *; omega))) only [RZ, gval, gslot, fillL, ovw, numb, catL, ldN, agL, okC, oneC, init, Nat.reduceAdd, Nat.reduceMul, Nat.reduceSub, Nat.reduceEqDiff, Nat.reduceLT, ↓reduceIte, Int.reduceToNat, Int.reduceAdd, Int.reduceSub, Int.reduceMul, Int.reduceLT, Int.reduceLE, Int.reduceEq, Nat.reduceLeDiff]
  refine hK _ _ ?_
  clear hK hX K a0 a1 a2 a3 a4
  have a0 := r1.cell (i := 0) rfl
  have a1 := r1.cell (i := 1) rfl
  have a2 := r1.cell (i := 2) rfl
  have a3 := r1.cell (i := 3) rfl
  have a4 := r1.cell (i := 4) rfl
  refine W_piece fun K hK hX => ?_
  simp +contextual (maxSteps := 2000000) (disch := (first | omega | (simp only [SZ]; done) | (simp only [SZ]; omega) | (simp only [TS] at *; omega))) only [RZ, gval, gslot, fillL, ovw, numb, catL, ldN, agL, okC, oneC, init, Nat.reduceAdd, Nat.reduceMul, Nat.reduceSub, Nat.reduceEqDiff, Nat.reduceLT, ↓reduceIte, Int.reduceToNat, Int.reduceAdd, Int.reduceSub, Int.reduceMul, Int.reduceLT, Int.reduceLE, Int.reduceEq, Nat.reduceLeDiff,  a0, a1, a2, a3, a4]
  refine (build_any exP A c 7 w3 (hW.below hF3 hw5) (by decide) hA3 (by decide) (by decide)).mono ?_
  rintro e w4 ⟨hB4, he⟩
  rw [if_pos exP_build.1, exP_build.2] at he
  obtain ⟨gd, _, rfl, _⟩ := he
  refine ⟨_, rfl, ?_⟩
  have r1 := r1.below hB4
  have hA4 := hA3.below hB4
  have hF4 := hF3.trans (hB4.mono hz3)
  have hz4 := hF4.size
  simp +contextual (maxSteps := 2000000) (disch := (first | omega | (simp only [SZ]; done) | (simp only [SZ]; omega) | (simp only [TS] at *; omega))) only [RZ, gval, gslot, fillL, ovw, numb, catL, ldN, agL, okC, oneC, init, Nat.reduceAdd, Nat.reduceMul, Nat.reduceSub, Nat.reduceEqDiff, Nat.reduceLT, ↓reduceIte, Int.reduceToNat, Int.reduceAdd, Int.reduceSub, Int.reduceMul, Int.reduceLT, Int.reduceLE, Int.reduceEq, Nat.reduceLeDiff]
  refine hK _ _ ?_
  clear hK hX K a0 a1 a2 a3 a4
  refine W_piece fun K hK hX => ?_
  simp +contextual (maxSteps := 2000000) (disch := (first | omega | (simp only [SZ]; done) | (simp only [SZ]; omega) | (simp only [TS] at *; omega))) only [RZ, gval, gslot, fillL, ovw, numb, catL, ldN, agL, okC, oneC, init, Nat.reduceAdd, Nat.reduceMul, Nat.reduceSub, Nat.reduceEqDiff, Nat.reduceLT, ↓reduceIte, Int.reduceToNat, Int.reduceAdd, Int.reduceSub, Int.reduceMul, Int.reduceLT, Int.reduceLE, Int.reduceEq, Nat.reduceLeDiff]
  refine (parse_ex (q := noPl) (er := 6) (ln := 1) (by decide) (by kernel_rfl) w4).mono ?_
  rintro e w5 ⟨hB, A2, c2, rfl, _, _⟩
  refine ⟨_, rfl, ?_⟩
  have r1 := r1.below hB
  have hA5 := hA4.below hB
  have hF5 := hF4.trans (hB.mono hz4)
  have hz5 := hF5.size
  rw [show planV noPl A2 c2 = .agg #[.string noPl.name, .int .i64 noPl.price, .int .i64 noPl.packs, .int .i64 noPl.size, .slice A2 noPl.levels.length c2] from rfl]
  simp +contextual (maxSteps := 2000000) (disch := (first | omega | (simp only [SZ]; done) | (simp only [SZ]; omega) | (simp only [TS] at *; omega))) only [RZ, gval, gslot, fillL, ovw, numb, catL, ldN, agL, okC, oneC, init, Nat.reduceAdd, Nat.reduceMul, Nat.reduceSub, Nat.reduceEqDiff, Nat.reduceLT, ↓reduceIte, Int.reduceToNat, Int.reduceAdd, Int.reduceSub, Int.reduceMul, Int.reduceLT, Int.reduceLE, Int.reduceEq, Nat.reduceLeDiff]
  refine hK _ _ ?_
  clear hK hX K
  have hb := below_alloc w5 (.cells #[.string noPl.name, .int .i64 noPl.price, .int .i64 noPl.packs, .int .i64 noPl.size, .slice A2 noPl.levels.length c2] 24)
  have r1 := r1.below hb
  have hA6 := hA5.below hb
  have hF6 := hF5.trans (hb.mono hz5)
  have hz6 := hF6.size
  clear hB
  generalize w5.alloc (.cells #[.string noPl.name, .int .i64 noPl.price, .int .i64 noPl.packs, .int .i64 noPl.size, .slice A2 noPl.levels.length c2] 24) = w6 at *
  clear hb
  refine W_piece fun K hK hX => ?_
  simp +contextual (maxSteps := 2000000) (disch := (first | omega | (simp only [SZ]; done) | (simp only [SZ]; omega) | (simp only [TS] at *; omega))) only [RZ, gval, gslot, fillL, ovw, numb, catL, ldN, agL, okC, oneC, init, Nat.reduceAdd, Nat.reduceMul, Nat.reduceSub, Nat.reduceEqDiff, Nat.reduceLT, ↓reduceIte, Int.reduceToNat, Int.reduceAdd, Int.reduceSub, Int.reduceMul, Int.reduceLT, Int.reduceLE, Int.reduceEq, Nat.reduceLeDiff]
  refine (parse_ex (q := noPl) (er := 1) (ln := 2) (by decide) (by kernel_rfl) w6).mono ?_
  rintro e w7 ⟨hB, A2, c2, rfl, _, _⟩
  refine ⟨_, rfl, ?_⟩
  have r1 := r1.below hB
  have hA7 := hA6.below hB
  have hF7 := hF6.trans (hB.mono hz6)
  have hz7 := hF7.size
  rw [show planV noPl A2 c2 = .agg #[.string noPl.name, .int .i64 noPl.price, .int .i64 noPl.packs, .int .i64 noPl.size, .slice A2 noPl.levels.length c2] from rfl]
  simp +contextual (maxSteps := 2000000) (disch := (first | omega | (simp only [SZ]; done) | (simp only [SZ]; omega) | (simp only [TS] at *; omega))) only [RZ, gval, gslot, fillL, ovw, numb, catL, ldN, agL, okC, oneC, init, Nat.reduceAdd, Nat.reduceMul, Nat.reduceSub, Nat.reduceEqDiff, Nat.reduceLT, ↓reduceIte, Int.reduceToNat, Int.reduceAdd, Int.reduceSub, Int.reduceMul, Int.reduceLT, Int.reduceLE, Int.reduceEq, Nat.reduceLeDiff]
  refine hK _ _ ?_
  clear hK hX K
  have hb := below_alloc w7 (.cells #[.string noPl.name, .int .i64 noPl.price, .int .i64 noPl.packs, .int .i64 noPl.size, .slice A2 noPl.levels.length c2] 24)
  have r1 := r1.below hb
  have hA8 := hA7.below hb
  have hF8 := hF7.trans (hb.mono hz7)
  have hz8 := hF8.size
  clear hB
  generalize w7.alloc (.cells #[.string noPl.name, .int .i64 noPl.price, .int .i64 noPl.packs, .int .i64 noPl.size, .slice A2 noPl.levels.length c2] 24) = w8 at *
  clear hb
  refine W_piece fun K hK hX => ?_
  simp +contextual (maxSteps := 2000000) (disch := (first | omega | (simp only [SZ]; done) | (simp only [SZ]; omega) | (simp only [TS] at *; omega))) only [RZ, gval, gslot, fillL, ovw, numb, catL, ldN, agL, okC, oneC, init, Nat.reduceAdd, Nat.reduceMul, Nat.reduceSub, Nat.reduceEqDiff, Nat.reduceLT, ↓reduceIte, Int.reduceToNat, Int.reduceAdd, Int.reduceSub, Int.reduceMul, Int.reduceLT, Int.reduceLE, Int.reduceEq, Nat.reduceLeDiff]
  refine (parse_ex (q := noPl) (er := 1) (ln := 1) (by decide) (by kernel_rfl) w8).mono ?_
  rintro e w9 ⟨hB, A2, c2, rfl, _, _⟩
  refine ⟨_, rfl, ?_⟩
  have r1 := r1.below hB
  have hA9 := hA8.below hB
  have hF9 := hF8.trans (hB.mono hz8)
  have hz9 := hF9.size
  rw [show planV noPl A2 c2 = .agg #[.string noPl.name, .int .i64 noPl.price, .int .i64 noPl.packs, .int .i64 noPl.size, .slice A2 noPl.levels.length c2] from rfl]
  simp +contextual (maxSteps := 2000000) (disch := (first | omega | (simp only [SZ]; done) | (simp only [SZ]; omega) | (simp only [TS] at *; omega))) only [RZ, gval, gslot, fillL, ovw, numb, catL, ldN, agL, okC, oneC, init, Nat.reduceAdd, Nat.reduceMul, Nat.reduceSub, Nat.reduceEqDiff, Nat.reduceLT, ↓reduceIte, Int.reduceToNat, Int.reduceAdd, Int.reduceSub, Int.reduceMul, Int.reduceLT, Int.reduceLE, Int.reduceEq, Nat.reduceLeDiff]
  refine hK _ _ ?_
  clear hK hX K
  have hb := below_alloc w9 (.cells #[.string noPl.name, .int .i64 noPl.price, .int .i64 noPl.packs, .int .i64 noPl.size, .slice A2 noPl.levels.length c2] 24)
  have r1 := r1.below hb
  have hA10 := hA9.below hb
  have hF10 := hF9.trans (hb.mono hz9)
  have hz10 := hF10.size
  clear hB
  generalize w9.alloc (.cells #[.string noPl.name, .int .i64 noPl.price, .int .i64 noPl.packs, .int .i64 noPl.size, .slice A2 noPl.levels.length c2] 24) = w10 at *
  clear hb
  refine W_piece fun K hK hX => ?_
  simp +contextual (maxSteps := 2000000) (disch := (first | omega | (simp only [SZ]; done) | (simp only [SZ]; omega) | (simp only [TS] at *; omega))) only [RZ, gval, gslot, fillL, ovw, numb, catL, ldN, agL, okC, oneC, init, Nat.reduceAdd, Nat.reduceMul, Nat.reduceSub, Nat.reduceEqDiff, Nat.reduceLT, ↓reduceIte, Int.reduceToNat, Int.reduceAdd, Int.reduceSub, Int.reduceMul, Int.reduceLT, Int.reduceLE, Int.reduceEq, Nat.reduceLeDiff]
  refine hK _ _ ?_
  clear hK hX K
  have rl := Row.new w10 43 [.int .i64 500, .int .i64 2, .int .i64 1, .int .i64 50, .int .i64 1, .int .i64 0]
  replace rl : Row (w10.alloc (.cells #[.int .i64 500, .int .i64 2, .int .i64 1, .int .i64 50, .int .i64 1, .int .i64 0] 43)) w10.heap.size 43 (exP.levels.flatMap encLvl) := rl
  have hb11 := below_alloc w10 (.cells #[.int .i64 500, .int .i64 2, .int .i64 1, .int .i64 50, .int .i64 1, .int .i64 0] 43)
  have hz11 : (w10.alloc (.cells #[.int .i64 500, .int .i64 2, .int .i64 1, .int .i64 50, .int .i64 1, .int .i64 0] 43)).heap.size = w10.heap.size + 1 := World.size_alloc _ _
  have r1 := r1.below hb11
  have hA11 := hA10.below hb11
  have hF11 := hF10.trans (hb11.mono hz10)
  generalize w10.alloc (.cells #[.int .i64 500, .int .i64 2, .int .i64 1, .int .i64 50, .int .i64 1, .int .i64 0] 43) = w11 at *
  have rw12 := Row.new w11 24 [.string ⟨#[99, 97, 115, 104]⟩, .int .i64 100, .int .i64 2, .int .i64 3, .slice (some ⟨w10.heap.size, 0, none⟩) 2 2]
  replace rw12 : Row (w11.alloc (.cells #[.string ⟨#[99, 97, 115, 104]⟩, .int .i64 100, .int .i64 2, .int .i64 3, .slice (some ⟨w10.heap.size, 0, none⟩) 2 2] 24)) w11.heap.size 24 [.string exP.name, .int .i64 exP.price, .int .i64 exP.packs, .int .i64 exP.size, .slice (some ⟨w10.heap.size, 0, none⟩) exP.levels.length 2] := rw12
  have hb12 := below_alloc w11 (.cells #[.string ⟨#[99, 97, 115, 104]⟩, .int .i64 100, .int .i64 2, .int .i64 3, .slice (some ⟨w10.heap.size, 0, none⟩) 2 2] 24)
  have r1 := r1.below hb12
  have rl := rl.below hb12
  have hA12 := hA11.below hb12
  have hF12 := hF11.trans (hb12.mono (by omega))
  rw [hz11] at rw12
  generalize w11.alloc (.cells #[.string ⟨#[99, 97, 115, 104]⟩, .int .i64 100, .int .i64 2, .int .i64 3, .slice (some ⟨w10.heap.size, 0, none⟩) 2 2] 24) = w12 at *
  have hz12 := hF12.size
  have a0 := r1.cell (i := 0) rfl
  have a1 := r1.cell (i := 1) rfl
  have a2 := r1.cell (i := 2) rfl
  have a3 := r1.cell (i := 3) rfl
  have a4 := r1.cell (i := 4) rfl
  have b0 := rw12.cell (i := 0) rfl
  have b1 := rw12.cell (i := 1) rfl
  have b2 := rw12.cell (i := 2) rfl
  have b3 := rw12.cell (i := 3) rfl
  have b4 := rw12.cell (i := 4) rfl
  refine W_piece fun K hK hX => ?_
  refine W_piece fun K2 hK2 _ => ?_
  simp +contextual (maxSteps := 2000000) (disch := (first | omega | (simp only [SZ]; done) | (simp only [SZ]; omega) | (simp only [TS] at *; omega))) only [RZ, gval, gslot, fillL, ovw, numb, catL, ldN, agL, okC, oneC, init, Nat.reduceAdd, Nat.reduceMul, Nat.reduceSub, Nat.reduceEqDiff, Nat.reduceLT, ↓reduceIte, Int.reduceToNat, Int.reduceAdd, Int.reduceSub, Int.reduceMul, Int.reduceLT, Int.reduceLE, Int.reduceEq, Nat.reduceLeDiff,  a0, a1, a2, a3, a4, b0, b1, b2, b3, b4]
  refine (same_any exP A (some ⟨w10.heap.size, 0, none⟩) c 2 w12 (by decide) hA12 (rl.arr (fun _ => rfl))).mono ?_
  rintro e w13 ⟨rfl, hB13⟩
  refine ⟨_, rfl, ?_⟩
  have r1 := r1.below hB13
  have hA13 := hA12.below hB13
  have hF13 := hF12.trans (hB13.mono hz12)
  have hz13 := hF13.size
  clear a0 a1 a2 a3 a4 b0 b1 b2 b3 b4
  have a0 := r1.cell (i := 0) rfl
  have a1 := r1.cell (i := 1) rfl
  have a2 := r1.cell (i := 2) rfl
  have a3 := r1.cell (i := 3) rfl
  have a4 := r1.cell (i := 4) rfl
  simp +contextual (maxSteps := 2000000) (disch := (first | omega | (simp only [SZ]; done) | (simp only [SZ]; omega) | (simp only [TS] at *; omega))) only [RZ, gval, gslot, fillL, ovw, numb, catL, ldN, agL, okC, oneC, init, Nat.reduceAdd, Nat.reduceMul, Nat.reduceSub, Nat.reduceEqDiff, Nat.reduceLT, ↓reduceIte, Int.reduceToNat, Int.reduceAdd, Int.reduceSub, Int.reduceMul, Int.reduceLT, Int.reduceLE, Int.reduceEq, Nat.reduceLeDiff,  a0, a1, a2, a3, a4]
  refine (check_any exP.name exP.price exP.packs exP.size A c exP.levels w13 (by decide) hA13).mono ?_
  rintro e w14 ⟨rfl, hB14⟩
  refine ⟨_, rfl, ?_⟩
  rw [show chk exP.name exP.price exP.packs exP.size exP.levels = 0 from exP_chk]
  have r1 := r1.below hB14
  have hA14 := hA13.below hB14
  have hF14 := hF13.trans (hB14.mono hz13)
  have hz14 := hF14.size
  clear a0 a1 a2 a3 a4
  have a0 := r1.cell (i := 0) rfl
  have a1 := r1.cell (i := 1) rfl
  have a2 := r1.cell (i := 2) rfl
  have a3 := r1.cell (i := 3) rfl
  have a4 := r1.cell (i := 4) rfl
  simp +contextual (maxSteps := 2000000) (disch := (first | omega | (simp only [SZ]; done) | (simp only [SZ]; omega) | (simp only [TS] at *; omega))) only [RZ, gval, gslot, fillL, ovw, numb, catL, ldN, agL, okC, oneC, init, Nat.reduceAdd, Nat.reduceMul, Nat.reduceSub, Nat.reduceEqDiff, Nat.reduceLT, ↓reduceIte, Int.reduceToNat, Int.reduceAdd, Int.reduceSub, Int.reduceMul, Int.reduceLT, Int.reduceLE, Int.reduceEq, Nat.reduceLeDiff]
  refine hK2 _ _ ?_
  refine W_if_f rfl ?_
  simp +contextual (maxSteps := 2000000) (disch := (first | omega | (simp only [SZ]; done) | (simp only [SZ]; omega) | (simp only [TS] at *; omega))) only [RZ, gval, gslot, fillL, ovw, numb, catL, ldN, agL, okC, oneC, init, Nat.reduceAdd, Nat.reduceMul, Nat.reduceSub, Nat.reduceEqDiff, Nat.reduceLT, ↓reduceIte, Int.reduceToNat, Int.reduceAdd, Int.reduceSub, Int.reduceMul, Int.reduceLT, Int.reduceLE, Int.reduceEq, Nat.reduceLeDiff]
  refine hK _ _ ?_
  refine W_piece fun K3 hK3 _ => ?_
  simp +contextual (maxSteps := 2000000) (disch := (first | omega | (simp only [SZ]; done) | (simp only [SZ]; omega) | (simp only [TS] at *; omega))) only [RZ, gval, gslot, fillL, ovw, numb, catL, ldN, agL, okC, oneC, init, Nat.reduceAdd, Nat.reduceMul, Nat.reduceSub, Nat.reduceEqDiff, Nat.reduceLT, ↓reduceIte, Int.reduceToNat, Int.reduceAdd, Int.reduceSub, Int.reduceMul, Int.reduceLT, Int.reduceLE, Int.reduceEq, Nat.reduceLeDiff,  a0, a1, a2, a3, a4]
  refine (print_any exP A c w14 (hW.below hF14 hw5) (by decide) (by decide) hA14 (by unfold numR; refine ⟨⟨?_, ?_, ?_⟩, ?_⟩ <;> decide)).mono ?_
  rintro e w15 ⟨rfl, hB15⟩
  refine ⟨_, rfl, ?_⟩
  have hF15 := hF14.trans (hB15.mono hz14)
  simp +contextual (maxSteps := 2000000) (disch := (first | omega | (simp only [SZ]; done) | (simp only [SZ]; omega) | (simp only [TS] at *; omega))) only [RZ, gval, gslot, fillL, ovw, numb, catL, ldN, agL, okC, oneC, init, Nat.reduceAdd, Nat.reduceMul, Nat.reduceSub, Nat.reduceEqDiff, Nat.reduceLT, ↓reduceIte, Int.reduceToNat, Int.reduceAdd, Int.reduceSub, Int.reduceMul, Int.reduceLT, Int.reduceLE, Int.reduceEq, Nat.reduceLeDiff]
  refine hK3 _ _ ?_
  simp +contextual (maxSteps := 2000000) (disch := (first | omega | (simp only [SZ]; done) | (simp only [SZ]; omega) | (simp only [TS] at *; omega))) only [RZ, gval, gslot, fillL, ovw, numb, catL, ldN, agL, okC, oneC, init, Nat.reduceAdd, Nat.reduceMul, Nat.reduceSub, Nat.reduceEqDiff, Nat.reduceLT, ↓reduceIte, Int.reduceToNat, Int.reduceAdd, Int.reduceSub, Int.reduceMul, Int.reduceLT, Int.reduceLE, Int.reduceEq, Nat.reduceLeDiff]
  exact ⟨ret_bool (decide_eq_true (by kernel_rfl)), hF15⟩
end Go.Proofs.YtcnlopjjejdahaaDoor
/- Walks: the reference's Check. -/
namespace Go.Proofs.YtcnlopjjejdahaaDoor
open Go.RowKit
set_option maxRecDepth 100000
set_option maxHeartbeats 1000000 in
theorem rcheck_any (name : ByteArray) (price P S : Int) (A : Option Addr) (c : Nat) (L : List Lvl) (w : World) (hs : name.size ≤ 9223372036854775807) (hL : Arr w A 3 (L.map encLvl)) :
    Calls Tryd.prog 16 #[.agg #[.string name, .int .i64 price, .int .i64 P, .int .i64 S, .slice A L.length c]] w fun e w' => e = .returned (.int .i64 (chk name price P S L)) ∧ Below w.heap.size w w' := by
  refine calls_W (l := [_]) Tryd.func16 rfl _ Tryd.ntmps16 (by simp) ?_
  simp +contextual (maxSteps := 2000000) (disch := (first | omega | (simp only [SZ]; done) | (simp only [SZ]; omega) | (simp only [TS] at *; omega))) only [RZ, gval, gslot, fillL, ovw, numb, catL, ldN, agL, okC, oneC, init, Nat.reduceAdd, Nat.reduceMul, Nat.reduceSub, Nat.reduceEqDiff, Nat.reduceLT, ↓reduceIte, Int.reduceToNat, Int.reduceAdd, Int.reduceSub, Int.reduceMul, Int.reduceLT, Int.reduceLE, Int.reduceEq, Nat.reduceLeDiff]
  refine (rname_any _ _ hs).mono ?_
  rintro e w' ⟨rfl, rfl⟩
  refine ⟨_, rfl, ?_⟩
  simp +contextual (maxSteps := 2000000) (disch := (first | omega | (simp only [SZ]; done) | (simp only [SZ]; omega) | (simp only [TS] at *; omega))) only [RZ, gval, gslot, fillL, ovw, numb, catL, ldN, agL, okC, oneC, init, Nat.reduceAdd, Nat.reduceMul, Nat.reduceSub, Nat.reduceEqDiff, Nat.reduceLT, ↓reduceIte, Int.reduceToNat, Int.reduceAdd, Int.reduceSub, Int.reduceMul, Int.reduceLT, Int.reduceLE, Int.reduceEq, Nat.reduceLeDiff]
  (refine W_if rfl (fun hc => ?_) (fun hc => ?_) <;> (try simp only [TS] at hc))
  · simp +contextual (maxSteps := 2000000) (disch := (first | omega | (simp only [SZ]; done) | (simp only [SZ]; omega) | (simp only [TS] at *; omega))) only [RZ, gval, gslot, fillL, ovw, numb, catL, ldN, agL, okC, oneC, init, Nat.reduceAdd, Nat.reduceMul, Nat.reduceSub, Nat.reduceEqDiff, Nat.reduceLT, ↓reduceIte, Int.reduceToNat, Int.reduceAdd, Int.reduceSub, Int.reduceMul, Int.reduceLT, Int.reduceLE, Int.reduceEq, Nat.reduceLeDiff]
    exact ⟨ret_int (by rw [chk, if_pos hc]), below_alloc _ _⟩
  have h1 : ¬ nameB name = false := by rw [hc]; simp
  clear hc
  simp +contextual (maxSteps := 2000000) (disch := (first | omega | (simp only [SZ]; done) | (simp only [SZ]; omega) | (simp only [TS] at *; omega))) only [RZ, gval, gslot, fillL, ovw, numb, catL, ldN, agL, okC, oneC, init, Nat.reduceAdd, Nat.reduceMul, Nat.reduceSub, Nat.reduceEqDiff, Nat.reduceLT, ↓reduceIte, Int.reduceToNat, Int.reduceAdd, Int.reduceSub, Int.reduceMul, Int.reduceLT, Int.reduceLE, Int.reduceEq, Nat.reduceLeDiff]
  refine (outside_any _ _ _ _).mono ?_
  rintro e w' ⟨rfl, rfl⟩
  refine ⟨_, rfl, ?_⟩
  simp +contextual (maxSteps := 2000000) (disch := (first | omega | (simp only [SZ]; done) | (simp only [SZ]; omega) | (simp only [TS] at *; omega))) only [RZ, gval, gslot, fillL, ovw, numb, catL, ldN, agL, okC, oneC, init, Nat.reduceAdd, Nat.reduceMul, Nat.reduceSub, Nat.reduceEqDiff, Nat.reduceLT, ↓reduceIte, Int.reduceToNat, Int.reduceAdd, Int.reduceSub, Int.reduceMul, Int.reduceLT, Int.reduceLE, Int.reduceEq, Nat.reduceLeDiff]
  refine GB_call (fun _ => outside_any _ _ _ _) ?_
  simp +contextual (maxSteps := 2000000) (disch := (first | omega | (simp only [SZ]; done) | (simp only [SZ]; omega) | (simp only [TS] at *; omega))) only [RZ, gval, gslot, fillL, ovw, numb, catL, ldN, agL, okC, oneC, init, Nat.reduceAdd, Nat.reduceMul, Nat.reduceSub, Nat.reduceEqDiff, Nat.reduceLT, ↓reduceIte, Int.reduceToNat, Int.reduceAdd, Int.reduceSub, Int.reduceMul, Int.reduceLT, Int.reduceLE, Int.reduceEq, Nat.reduceLeDiff]
  refine GB_call (fun _ => outside_any _ _ _ _) ?_
  simp +contextual (maxSteps := 2000000) (disch := (first | omega | (simp only [SZ]; done) | (simp only [SZ]; omega) | (simp only [TS] at *; omega))) only [RZ, gval, gslot, fillL, ovw, numb, catL, ldN, agL, okC, oneC, init, Nat.reduceAdd, Nat.reduceMul, Nat.reduceSub, Nat.reduceEqDiff, Nat.reduceLT, ↓reduceIte, Int.reduceToNat, Int.reduceAdd, Int.reduceSub, Int.reduceMul, Int.reduceLT, Int.reduceLE, Int.reduceEq, Nat.reduceLeDiff]
  (refine W_if rfl (fun hc => ?_) (fun hc => ?_) <;> (try simp only [TS] at hc))
  · simp +contextual (maxSteps := 2000000) (disch := (first | omega | (simp only [SZ]; done) | (simp only [SZ]; omega) | (simp only [TS] at *; omega))) only [RZ, gval, gslot, fillL, ovw, numb, catL, ldN, agL, okC, oneC, init, Nat.reduceAdd, Nat.reduceMul, Nat.reduceSub, Nat.reduceEqDiff, Nat.reduceLT, ↓reduceIte, Int.reduceToNat, Int.reduceAdd, Int.reduceSub, Int.reduceMul, Int.reduceLT, Int.reduceLE, Int.reduceEq, Nat.reduceLeDiff]
    exact ⟨ret_int (by rw [chk, if_neg h1, if_pos (by omega)]), below_alloc _ _⟩
  have h2 := hc; clear hc
  simp +contextual (maxSteps := 2000000) (disch := (first | omega | (simp only [SZ]; done) | (simp only [SZ]; omega) | (simp only [TS] at *; omega))) only [RZ, gval, gslot, fillL, ovw, numb, catL, ldN, agL, okC, oneC, init, Nat.reduceAdd, Nat.reduceMul, Nat.reduceSub, Nat.reduceEqDiff, Nat.reduceLT, ↓reduceIte, Int.reduceToNat, Int.reduceAdd, Int.reduceSub, Int.reduceMul, Int.reduceLT, Int.reduceLE, Int.reduceEq, Nat.reduceLeDiff]
  (refine W_if rfl (fun hc => ?_) (fun hc => ?_) <;> (try simp only [TS] at hc))
  · simp +contextual (maxSteps := 2000000) (disch := (first | omega | (simp only [SZ]; done) | (simp only [SZ]; omega) | (simp only [TS] at *; omega))) only [RZ, gval, gslot, fillL, ovw, numb, catL, ldN, agL, okC, oneC, init, Nat.reduceAdd, Nat.reduceMul, Nat.reduceSub, Nat.reduceEqDiff, Nat.reduceLT, ↓reduceIte, Int.reduceToNat, Int.reduceAdd, Int.reduceSub, Int.reduceMul, Int.reduceLT, Int.reduceLE, Int.reduceEq, Nat.reduceLeDiff]
    exact ⟨ret_int (by rw [chk, if_neg h1, if_neg (by omega), if_pos (by omega)]), below_alloc _ _⟩
  have h3 := hc; clear hc
  simp +contextual (maxSteps := 2000000) (disch := (first | omega | (simp only [SZ]; done) | (simp only [SZ]; omega) | (simp only [TS] at *; omega))) only [RZ, gval, gslot, fillL, ovw, numb, catL, ldN, agL, okC, oneC, init, Nat.reduceAdd, Nat.reduceMul, Nat.reduceSub, Nat.reduceEqDiff, Nat.reduceLT, ↓reduceIte, Int.reduceToNat, Int.reduceAdd, Int.reduceSub, Int.reduceMul, Int.reduceLT, Int.reduceLE, Int.reduceEq, Nat.reduceLeDiff]
  have hR : chk name price P S L = chkL P S 1000000001 0 0 L := by rw [chk, if_neg h1, if_neg (by omega), if_neg (by omega)]
  rw [hR]
  generalize hRR : chkL P S 1000000001 0 0 L = R
  obtain ⟨hp, hsz, hB⟩ := new_block w #[Value.string name, .int .i64 price, .int .i64 P, .int .i64 S, .slice A L.length c] 24
  have hp2 := hp 2
  have hp3 := hp 3
  have hp4 := hp 4
  simp only [List.getElem?_toArray, List.getElem?_cons_zero, List.getElem?_cons_succ] at hp2 hp3 hp4
  generalize w.alloc (.cells #[Value.string name, .int .i64 price, .int .i64 P, .int .i64 S, .slice A L.length c] 24) = w1 at *
  have hL1 := hL.below hB
  obtain ⟨hPS0, hPS1⟩ : 0 ≤ P * S ∧ P * S ≤ 32 * 256 := mul_bd (by omega) (by omega) (by omega) (by omega)
  refine Raw_loop (fun σ w2 => ∃ (k : Nat) (before counts packs : Int), k ≤ L.length ∧ σ 1 = .pointer (some ⟨w.heap.size, 0, none⟩) ∧ σ 3 = .int .i64 counts ∧ σ 4 = .int .i64 packs ∧
    σ 5 = .int .i64 k ∧ 0 ≤ counts ∧ counts ≤ 8192 * k ∧ 0 ≤ packs ∧ packs ≤ 256 * k ∧ before ≤ 1000000001 ∧ (k = 0 → before = 1000000001) ∧ (∀ u, 0 < k → L[k - 1]? = some u → before = u.prize) ∧ chkL P S before counts packs (L.drop k) = R ∧ Below w1.heap.size w1 w2)
    (fun σ _ => L.length - (intOf (σ 5)).toNat) ?_ ?_
  · simp +contextual (maxSteps := 2000000) (disch := (first | omega | (simp only [SZ]; done) | (simp only [SZ]; omega) | (simp only [TS] at *; omega))) only [RZ, gval, gslot, fillL, ovw, numb, catL, ldN, agL, okC, oneC, init, Nat.reduceAdd, Nat.reduceMul, Nat.reduceSub, Nat.reduceEqDiff, Nat.reduceLT, ↓reduceIte, Int.reduceToNat, Int.reduceAdd, Int.reduceSub, Int.reduceMul, Int.reduceLT, Int.reduceLE, Int.reduceEq, Nat.reduceLeDiff]
    exact ⟨0, 1000000001, 0, 0, Nat.zero_le _, rfl, rfl, rfl, by omega, by omega, by omega, by omega, by omega, fun _ => rfl, fun u h => by omega, hRR, Below.refl _ _⟩
  rintro σ w2 ⟨k, before, counts, packs, hk, s1, s3, s4, s5, hc0, hc1, hq0, hq1, hb0, hb1, hb2, hrest, hB2⟩ K hK
  have e2 := (bcell hB2).1
  have z2 := hB2.size
  have hfin : Below w.heap.size w w2 := hB.trans (hB2.mono (by omega))
  simp +contextual (maxSteps := 2000000) (disch := (first | omega | (simp only [SZ]; done) | (simp only [SZ]; omega) | (simp only [TS] at *; omega))) only [RZ, gval, gslot, fillL, ovw, numb, catL, ldN, agL, okC, oneC, init, Nat.reduceAdd, Nat.reduceMul, Nat.reduceSub, Nat.reduceEqDiff, Nat.reduceLT, ↓reduceIte, Int.reduceToNat, Int.reduceAdd, Int.reduceSub, Int.reduceMul, Int.reduceLT, Int.reduceLE, Int.reduceEq, Nat.reduceLeDiff,  s1, s3, s4, s5, e2, hp2, hp3, hp4]
  (refine W_if rfl (fun hc => ?_) (fun hc => ?_) <;> (try simp only [TS] at hc))
  · obtain ⟨v, hv⟩ : ∃ v, L[k]? = some v := ⟨_, List.getElem?_eq_getElem (by omega)⟩
    obtain ⟨b, o, rfl, hb, hcell⟩ := hL1.at_ hv
    have l0 := hcell 0 _ rfl
    rw [Nat.add_zero] at l0
    have l1 := hcell 1 _ rfl
    have l2 := hcell 2 _ rfl
    rw [chkL_step hv] at hrest
    have lp : 0 < (k : Int) → w1.cell? ⟨b, o + ((k : Int) - 1).toNat * 3, none⟩ = some (.int .i64 before) := fun hk0 => by
      obtain ⟨u, hu⟩ : ∃ u, L[k - 1]? = some u := ⟨_, List.getElem?_eq_getElem (by omega)⟩
      obtain ⟨b', o', e', _, hcell'⟩ := hL1.at_ hu
      injection e' with e'
      injection e' with eb eo
      subst eb; subst eo
      have := hcell' 0 _ rfl
      rw [Nat.add_zero] at this
      rw [hb2 u (by omega) hu, show ((k : Int) - 1).toNat = k - 1 from by omega]
      exact this
    simp +contextual (maxSteps := 2000000) (disch := (first | omega | (simp only [SZ]; done) | (simp only [SZ]; omega) | (simp only [TS] at *; omega))) only [RZ, gval, gslot, fillL, ovw, numb, catL, ldN, agL, okC, oneC, init, Nat.reduceAdd, Nat.reduceMul, Nat.reduceSub, Nat.reduceEqDiff, Nat.reduceLT, ↓reduceIte, Int.reduceToNat, Int.reduceAdd, Int.reduceSub, Int.reduceMul, Int.reduceLT, Int.reduceLE, Int.reduceEq, Nat.reduceLeDiff,  s1, s3, s4, s5, e2, hp2, hp3, hp4, l0, l1, l2, lp]
    refine Raw_still MX (by kernel_rfl) ?_
    simp +contextual (maxSteps := 2000000) (disch := (first | omega | (simp only [SZ]; done) | (simp only [SZ]; omega) | (simp only [TS] at *; omega))) only [RZ, gval, gslot, fillL, ovw, numb, catL, ldN, agL, okC, oneC, init, Nat.reduceAdd, Nat.reduceMul, Nat.reduceSub, Nat.reduceEqDiff, Nat.reduceLT, ↓reduceIte, Int.reduceToNat, Int.reduceAdd, Int.reduceSub, Int.reduceMul, Int.reduceLT, Int.reduceLE, Int.reduceEq, Nat.reduceLeDiff,  s1, s3, s4, s5, e2, hp2, hp3, hp4, l0, l1, l2, lp]
    refine Oks_call (outside_any _ _ _ _) ?_
    simp +contextual (maxSteps := 2000000) (disch := (first | omega | (simp only [SZ]; done) | (simp only [SZ]; omega) | (simp only [TS] at *; omega))) only [RZ, gval, gslot, fillL, ovw, numb, catL, ldN, agL, okC, oneC, init, Nat.reduceAdd, Nat.reduceMul, Nat.reduceSub, Nat.reduceEqDiff, Nat.reduceLT, ↓reduceIte, Int.reduceToNat, Int.reduceAdd, Int.reduceSub, Int.reduceMul, Int.reduceLT, Int.reduceLE, Int.reduceEq, Nat.reduceLeDiff,  s1, s3, s4, s5, e2, hp2, hp3, hp4, l0, l1, l2, lp]
    refine GS_call (fun _ => outside_any _ _ _ _) ?_
    simp +contextual (maxSteps := 2000000) (disch := (first | omega | (simp only [SZ]; done) | (simp only [SZ]; omega) | (simp only [TS] at *; omega))) only [RZ, gval, gslot, fillL, ovw, numb, catL, ldN, agL, okC, oneC, init, Nat.reduceAdd, Nat.reduceMul, Nat.reduceSub, Nat.reduceEqDiff, Nat.reduceLT, ↓reduceIte, Int.reduceToNat, Int.reduceAdd, Int.reduceSub, Int.reduceMul, Int.reduceLT, Int.reduceLE, Int.reduceEq, Nat.reduceLeDiff,  s1, s3, s4, s5, e2, hp2, hp3, hp4, l0, l1, l2, lp]
    refine GS_call (fun _ => outside_any _ _ _ _) ?_
    simp +contextual (maxSteps := 2000000) (disch := (first | omega | (simp only [SZ]; done) | (simp only [SZ]; omega) | (simp only [TS] at *; omega))) only [RZ, gval, gslot, fillL, ovw, numb, catL, ldN, agL, okC, oneC, init, Nat.reduceAdd, Nat.reduceMul, Nat.reduceSub, Nat.reduceEqDiff, Nat.reduceLT, ↓reduceIte, Int.reduceToNat, Int.reduceAdd, Int.reduceSub, Int.reduceMul, Int.reduceLT, Int.reduceLE, Int.reduceEq, Nat.reduceLeDiff,  s1, s3, s4, s5, e2, hp2, hp3, hp4, l0, l1, l2, lp]
    (refine W_if rfl (fun hc => ?_) (fun hc => ?_) <;> (try simp only [TS] at hc))
    · simp +contextual (maxSteps := 2000000) (disch := (first | omega | (simp only [SZ]; done) | (simp only [SZ]; omega) | (simp only [TS] at *; omega))) only [RZ, gval, gslot, fillL, ovw, numb, catL, ldN, agL, okC, oneC, init, Nat.reduceAdd, Nat.reduceMul, Nat.reduceSub, Nat.reduceEqDiff, Nat.reduceLT, ↓reduceIte, Int.reduceToNat, Int.reduceAdd, Int.reduceSub, Int.reduceMul, Int.reduceLT, Int.reduceLE, Int.reduceEq, Nat.reduceLeDiff,  s1, s3, s4, s5, e2, hp2, hp3, hp4, l0, l1, l2, lp]
      rw [if_pos (bad_yes (by omega))] at hrest
      exact ⟨ret_int hrest, (hfin.alloc (by omega) _).drew⟩
    have hbad := hc
    clear hc
    rw [if_neg (bad_no (by omega))] at hrest
    obtain ⟨hvP0, hvP1⟩ : 0 ≤ v.pack * P ∧ v.pack * P ≤ 256 * 32 := mul_bd (by omega) (by omega) (by omega) (by omega)
    simp +contextual (maxSteps := 2000000) (disch := (first | omega | (simp only [SZ]; done) | (simp only [SZ]; omega) | (simp only [TS] at *; omega))) only [RZ, gval, gslot, fillL, ovw, numb, catL, ldN, agL, okC, oneC, init, Nat.reduceAdd, Nat.reduceMul, Nat.reduceSub, Nat.reduceEqDiff, Nat.reduceLT, ↓reduceIte, Int.reduceToNat, Int.reduceAdd, Int.reduceSub, Int.reduceMul, Int.reduceLT, Int.reduceLE, Int.reduceEq, Nat.reduceLeDiff,  s1, s3, s4, s5, e2, hp2, hp3, hp4, l0, l1, l2, lp]
    (refine W_if rfl (fun hc => ?_) (fun hc => ?_) <;> (try simp only [TS] at hc))
    · simp +contextual (maxSteps := 2000000) (disch := (first | omega | (simp only [SZ]; done) | (simp only [SZ]; omega) | (simp only [TS] at *; omega))) only [RZ, gval, gslot, fillL, ovw, numb, catL, ldN, agL, okC, oneC, init, Nat.reduceAdd, Nat.reduceMul, Nat.reduceSub, Nat.reduceEqDiff, Nat.reduceLT, ↓reduceIte, Int.reduceToNat, Int.reduceAdd, Int.reduceSub, Int.reduceMul, Int.reduceLT, Int.reduceLE, Int.reduceEq, Nat.reduceLeDiff,  s1, s3, s4, s5, e2, hp2, hp3, hp4, l0, l1, l2, lp]
      rw [if_pos hc] at hrest
      exact ⟨ret_int hrest, (hfin.alloc (by omega) _).drew⟩
    rw [if_neg hc] at hrest
    simp +contextual (maxSteps := 2000000) (disch := (first | omega | (simp only [SZ]; done) | (simp only [SZ]; omega) | (simp only [TS] at *; omega))) only [RZ, gval, gslot, fillL, ovw, numb, catL, ldN, agL, okC, oneC, init, Nat.reduceAdd, Nat.reduceMul, Nat.reduceSub, Nat.reduceEqDiff, Nat.reduceLT, ↓reduceIte, Int.reduceToNat, Int.reduceAdd, Int.reduceSub, Int.reduceMul, Int.reduceLT, Int.reduceLE, Int.reduceEq, Nat.reduceLeDiff,  s1, s3, s4, s5, e2, hp2, hp3, hp4, l0, l1, l2, lp]
    refine hK _ _ ⟨k + 1, v.prize, counts + v.count, packs + v.pack, by omega, ?_⟩ ?_
    · simp +contextual (maxSteps := 2000000) (disch := (first | omega | (simp only [SZ]; done) | (simp only [SZ]; omega) | (simp only [TS] at *; omega))) only [RZ, gval, gslot, fillL, ovw, numb, catL, ldN, agL, okC, oneC, init, Nat.reduceAdd, Nat.reduceMul, Nat.reduceSub, Nat.reduceEqDiff, Nat.reduceLT, ↓reduceIte, Int.reduceToNat, Int.reduceAdd, Int.reduceSub, Int.reduceMul, Int.reduceLT, Int.reduceLE, Int.reduceEq, Nat.reduceLeDiff,  s1, s3, s4, s5, e2, hp2, hp3, hp4, l0, l1, l2, lp]
      refine ⟨by omega, by omega, by omega, by omega, by omega, fun h => h.elim, fun u _ hu => ?_, hrest, (hB2.alloc (by omega) _).drew⟩
      rw [show k + 1 - 1 = k from by omega, hv] at hu
      injection hu with hu
      rw [hu]
    · simp +contextual (maxSteps := 2000000) (disch := (first | omega | (simp only [SZ]; done) | (simp only [SZ]; omega) | (simp only [TS] at *; omega))) only [RZ, gval, gslot, fillL, ovw, numb, catL, ldN, agL, okC, oneC, init, Nat.reduceAdd, Nat.reduceMul, Nat.reduceSub, Nat.reduceEqDiff, Nat.reduceLT, ↓reduceIte, Int.reduceToNat, Int.reduceAdd, Int.reduceSub, Int.reduceMul, Int.reduceLT, Int.reduceLE, Int.reduceEq, Nat.reduceLeDiff,  intOf, s5]
      omega
  · rw [chkL_end _ _ _ _ _ _ _ (by omega)] at hrest
    simp +contextual (maxSteps := 2000000) (disch := (first | omega | (simp only [SZ]; done) | (simp only [SZ]; omega) | (simp only [TS] at *; omega))) only [RZ, gval, gslot, fillL, ovw, numb, catL, ldN, agL, okC, oneC, init, Nat.reduceAdd, Nat.reduceMul, Nat.reduceSub, Nat.reduceEqDiff, Nat.reduceLT, ↓reduceIte, Int.reduceToNat, Int.reduceAdd, Int.reduceSub, Int.reduceMul, Int.reduceLT, Int.reduceLE, Int.reduceEq, Nat.reduceLeDiff,  s1, s3, s4, s5, e2, hp2, hp3, hp4]
    (refine W_if rfl (fun hc => ?_) (fun hc => ?_) <;> (try simp only [TS] at hc))
    · simp +contextual (maxSteps := 2000000) (disch := (first | omega | (simp only [SZ]; done) | (simp only [SZ]; omega) | (simp only [TS] at *; omega))) only [RZ, gval, gslot, fillL, ovw, numb, catL, ldN, agL, okC, oneC, init, Nat.reduceAdd, Nat.reduceMul, Nat.reduceSub, Nat.reduceEqDiff, Nat.reduceLT, ↓reduceIte, Int.reduceToNat, Int.reduceAdd, Int.reduceSub, Int.reduceMul, Int.reduceLT, Int.reduceLE, Int.reduceEq, Nat.reduceLeDiff,  s1, s3, s4, s5, e2, hp2, hp3, hp4]
      rw [if_pos hc] at hrest
      exact ⟨ret_int hrest, hfin⟩
    · simp +contextual (maxSteps := 2000000) (disch := (first | omega | (simp only [SZ]; done) | (simp only [SZ]; omega) | (simp only [TS] at *; omega))) only [RZ, gval, gslot, fillL, ovw, numb, catL, ldN, agL, okC, oneC, init, Nat.reduceAdd, Nat.reduceMul, Nat.reduceSub, Nat.reduceEqDiff, Nat.reduceLT, ↓reduceIte, Int.reduceToNat, Int.reduceAdd, Int.reduceSub, Int.reduceMul, Int.reduceLT, Int.reduceLE, Int.reduceEq, Nat.reduceLeDiff,  s1, s3, s4, s5, e2, hp2, hp3, hp4]
      rw [if_neg (by omega)] at hrest
      exact ⟨ret_int hrest, hfin⟩
end Go.Proofs.YtcnlopjjejdahaaDoor
/- Regions that draw their order: a reader that waits for a condition. -/
namespace Go.Proofs.YtcnlopjjejdahaaDoor
open Go.RowKit
section
variable {P : Program} {n : Nat} {ops : Array Oper} {Q : Exit → Sl → World → Prop} {σ : Sl} {w : World} {fuel : Nat} {listed : Array Bool} {S : World → Prop}
theorem Ord_takeg (i : Nat) {d : Option Nat} {op : Op} {ty : TypeId} {p : String} {af : Array Edge} {j : Nat} {b : Bool} {v : Value} (hi : ops[i]? = some ⟨d, op, ty, p, af, some (j, b)⟩)
    (hs : Region.noSelect ops = true) (hf : Region.free .any ops listed i = true) (hr : (Region.ready .any ops listed).contains i = true)
    (hQ : ∀ c σ w, ¬ Q (.panic c) σ w) (hS : S w) (hg : isB b (gval σ (gslot ops j)) = true) (hv : ∀ w', S w' → run1 P op ty σ w' = .ok (.value v) w')
    (h : Ord P n ops Q S fuel (listed.setIfInBounds i true) (put n σ d v) w) : Ord P n ops Q S (fuel + 1) listed σ w := by
  intro a hfr
  refine wpAnyH_take hi hs hf hr ?_ (v := v) ?_ hS (h _ (hfr.put d v))
  · rintro c a w ⟨σ', _, hq⟩
    exact absurd hq (hQ _ _ _)
  · refine .inl ⟨by rw [wanted_some hfr rfl]; exact hg, fun w' hw' => ?_⟩
    have := hv w' hw'
    rw [hfr.eval]
    exact this
theorem Ord_takeo (i : Nat) {d : Option Nat} {op : Op} {ty : TypeId} {p : String} {af : Array Edge} {j : Nat} {b : Bool} (hi : ops[i]? = some ⟨d, op, ty, p, af, some (j, b)⟩)
    (hs : Region.noSelect ops = true) (hf : Region.free .any ops listed i = true) (hr : (Region.ready .any ops listed).contains i = true)
    (hQ : ∀ c σ w, ¬ Q (.panic c) σ w) (hS : S w) (hg : isB b (gval σ (gslot ops j)) = false)
    (h : Ord P n ops Q S fuel (listed.setIfInBounds i true) (put n σ d undef) w) : Ord P n ops Q S (fuel + 1) listed σ w := by
  intro a hfr
  refine wpAnyH_take hi hs hf hr ?_ (v := undef) ?_ hS (h _ (hfr.put d undef))
  · rintro c a w ⟨σ', _, hq⟩
    exact absurd hq (hQ _ _ _)
  · exact .inr ⟨by rw [wanted_some hfr rfl]; exact hg, rfl⟩
end
end Go.Proofs.YtcnlopjjejdahaaDoor
