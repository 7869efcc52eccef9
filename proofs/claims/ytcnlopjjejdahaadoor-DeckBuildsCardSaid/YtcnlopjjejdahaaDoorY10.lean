/- Texts laid one behind the other: DhC, DhG, Ord4. Each says at its head what it proves. -/
import Derived.Test.YtcnlopjjejdahaaDoorY09
set_option linter.unusedSimpArgs false
/- Walks: deck.guarantee. -/
namespace Go.Proofs.YtcnlopjjejdahaaDoor
open Go.RowKit
set_option maxRecDepth 100000
def encIns (x : Ins) : List Value := [.int .i64 x.pack, .int .i64 x.index, .int .i64 x.prize, .string x.code]
def deckV (S : Nat) (seed : Int) (Z : List Int) : List Value := (insL S seed Z).flatMap encIns
theorem insL_len (S : Nat) (seed : Int) (Z : List Int) : (insL S seed Z).length = Z.length := by unfold insL; rw [List.length_mapIdx]
theorem insL_get {S : Nat} {seed : Int} {Z : List Int} {i : Nat} {z : Int} (h : Z[i]? = some z) : (insL S seed Z)[i]? = some (insAt S seed i z) := by
  unfold insL
  rw [List.getElem?_mapIdx, h]
  rfl
theorem deckV_len (S : Nat) (seed : Int) (Z : List Int) : (deckV S seed Z).length = Z.length * 4 := by
  unfold deckV
  rw [flat_len (sz := 4) (fun _ => rfl), insL_len]
theorem deckV_cell {S : Nat} {seed : Int} {Z : List Int} {i : Nat} {z : Int} (h : Z[i]? = some z) : (deckV S seed Z)[i * 4]? = some (.int .i64 ((i / S : Nat) + 1 : Int)) ∧ (deckV S seed Z)[i * 4 + 1]? = some (.int .i64 ((i % S : Nat) + 1 : Int)) ∧
    (deckV S seed Z)[i * 4 + 2]? = some (.int .i64 z) ∧ (deckV S seed Z)[i * 4 + 3]? = some (.string (codeB seed i)) := by
  have h1 := insL_get (S := S) (seed := seed) h
  exact ⟨flat_cell (sz := 4) (j := 0) (enc := encIns) (fun _ => rfl) rfl _ _ h1, flat_cell (sz := 4) (j := 1) (enc := encIns) (fun _ => rfl) rfl _ _ h1, flat_cell (sz := 4) (j := 2) (enc := encIns) (fun _ => rfl) rfl _ _ h1, flat_cell (sz := 4) (j := 3) (enc := encIns) (fun _ => rfl) rfl _ _ h1⟩
theorem insL_set {S : Nat} {seed : Int} {Z : List Int} {i : Nat} {z : Int} : (insL S seed Z).set i (insAt S seed i z) = insL S seed (Z.set i z) := by
  unfold insL
  apply List.ext_getElem?
  intro j
  rw [List.getElem?_mapIdx, List.getElem?_set, List.getElem?_set, List.length_mapIdx, List.getElem?_mapIdx]
  by_cases e : i = j
  · subst e
    by_cases hl : i < Z.length <;> simp [hl]
  · simp [e]
theorem deckV_set {S : Nat} {seed : Int} {Z : List Int} {i : Nat} {u z : Int} (h : Z[i]? = some u) : (deckV S seed Z).set (i * 4 + 2) (.int .i64 z) = deckV S seed (Z.set i z) := by
  unfold deckV
  rw [flat_set (sz := 4) (enc := encIns) (j := 2) (fun _ => rfl) (by decide) (y := insAt S seed i z) (by rfl) _ _ (insL_get h), insL_set]
theorem Arr.kept {X : List Nat} {w w' : World} {A : Option Addr} {sz : Nat} {Ls : List (List Value)} (h : Arr w A sz Ls) (k : Kept X w w') (hA : ∀ b o, A = some ⟨b, o, none⟩ → b ∉ X) : Arr w' A sz Ls := fun hn => by
  obtain ⟨b, o, e, hb, hc⟩ := h hn
  exact ⟨b, o, e, Nat.lt_of_lt_of_le hb k.size, fun i l hl j u hu => (k.cell hb (hA b o e)).trans (hc i l hl j u hu)⟩
set_option maxHeartbeats 2000000 in
theorem guarantee_any (p : Pl) (A : Option Addr) (c gd cd gs : Nat) (seed st : Int) (Z : List Int) (w : World) (hk : p.chk = 0) (hL : Arr w A 3 (p.levels.map encLvl)) (hA : ∀ b o, A = some ⟨b, o, none⟩ → b ∉ [gs, gd]) (hgd : gs ≠ gd)
    (hZ : (Z.length : Int) = p.packs * p.size) (hR : Row w gd 46 (deckV p.size.toNat seed Z)) (hs : StrIn w gs st) (hcd : Z.length ≤ cd) :
    Calls Tryd.prog 53 #[planV p A c, .slice (some ⟨gd, 0, none⟩) Z.length cd, .pointer (some ⟨gs, 0, none⟩)] w fun e w' => e = .returned (.int .i64 (guaE p.size.toNat (sureL p.levels) p.packs.toNat 0 Z st).2.1) ∧
      StrIn w' gs (guaE p.size.toNat (sureL p.levels) p.packs.toNat 0 Z st).2.2 ∧ Row w' gd 46 (deckV p.size.toNat seed (guaE p.size.toNat (sureL p.levels) p.packs.toNat 0 Z st).1) ∧ Kept [gs, gd] w w' := by
  unfold planV
  refine calls_W (l := [_, _, _]) Tryd.func53 rfl _ Tryd.ntmps53 (by simp) ?_
  obtain ⟨hp, hsz, hB⟩ := new_block w #[Value.string p.name, .int .i64 p.price, .int .i64 p.packs, .int .i64 p.size, .slice A p.levels.length c] 24
  have hp2 := hp 2
  have hp3 := hp 3
  have hp4 := hp 4
  simp only [List.getElem?_toArray, List.getElem?_cons_zero, List.getElem?_cons_succ] at hp2 hp3 hp4
  have hs1 := hs.below hB
  have hR1 := hR.below hB
  have hL1 := hL.below hB
  have hk1 : Kept [gs, gd] w _ := Kept.of_below hB
  obtain ⟨q1, q2, q3, q4, q5, q6⟩ := chk_ok hk
  have hv := chkL_ok q3 q4 _ _ _ _ (Int.le_refl _) q6
  have hsm := chkL_sum _ _ _ _ q6
  have hsl := sure_len p.levels fun v h => (hv v h).2.2.1.1
  have hgsl := hs.lt
  have hgdl := hR.lt
  simp +contextual (maxSteps := 2000000) (disch := (first | omega | (simp only [SZ]; done) | (simp only [SZ]; omega) | (simp only [TS] at *; omega))) only [RZ, gval, gslot, fillL, ovw, numb, catL, ldN, agL, okC, oneC, init, Nat.reduceAdd, Nat.reduceMul, Nat.reduceSub, Nat.reduceEqDiff, Nat.reduceLT, ↓reduceIte, Int.reduceToNat, Int.reduceAdd, Int.reduceSub, Int.reduceMul, Int.reduceLT, Int.reduceLE, Int.reduceEq, Nat.reduceLeDiff,  hp2]
  generalize w.alloc (.cells #[Value.string p.name, .int .i64 p.price, .int .i64 p.packs, .int .i64 p.size, .slice A p.levels.length c] 24) = w1 at *
  obtain ⟨S, hSi⟩ : ∃ S : Nat, p.size = S := ⟨p.size.toNat, by omega⟩
  obtain ⟨P, hPi⟩ : ∃ P : Nat, p.packs = P := ⟨p.packs.toNat, by omega⟩
  have hSt : p.size.toNat = S := by omega
  have hPt : p.packs.toNat = P := by omega
  rw [hSi] at q4 hp3 hZ hsm
  rw [hPi] at q3 hp2 hZ hsm
  rw [hSt] at hR1
  rw [hSt, hPt, hPi]
  generalize hG : guaE S (sureL p.levels) P 0 Z st = G
  refine Raw_loop (fun σ w2 => ∃ (k : Nat) (Zk : List Int) (stk : Int), k ≤ P ∧ guaE S (sureL p.levels) (P - k) k Zk stk = G ∧ Zk.length = Z.length ∧ StrIn w2 gs stk ∧ Row w2 gd 46 (deckV S seed Zk) ∧ Kept [gs, gd] w1 w2 ∧
    σ 1 = .slice (some ⟨gd, 0, none⟩) Z.length cd ∧ σ 2 = .pointer (some ⟨gs, 0, none⟩) ∧ σ 3 = .pointer (some ⟨w.heap.size, 0, none⟩) ∧ σ 14 = .int .i64 P ∧ σ 15 = .int .i64 k) (fun σ _ => P - (intOf (σ 15)).toNat) ?_ ?_
  · simp +contextual (maxSteps := 2000000) (disch := (first | omega | (simp only [SZ]; done) | (simp only [SZ]; omega) | (simp only [TS] at *; omega))) only [RZ, gval, gslot, fillL, ovw, numb, catL, ldN, agL, okC, oneC, init, Nat.reduceAdd, Nat.reduceMul, Nat.reduceSub, Nat.reduceEqDiff, Nat.reduceLT, ↓reduceIte, Int.reduceToNat, Int.reduceAdd, Int.reduceSub, Int.reduceMul, Int.reduceLT, Int.reduceLE, Int.reduceEq, Nat.reduceLeDiff]
    exact ⟨0, Z, st, Nat.zero_le _, by rw [Nat.sub_zero]; exact hG, rfl, hs1, hR1, Kept.refl _ _, rfl⟩
  rintro σ w2 ⟨k, Zk, stk, hkP, hGk, hZk, hs2, hR2, hk2, f1, f2, f3, f14, f15⟩ K hK
  have p3 := (hk2.cell (o := 3) (g := w.heap.size) (by omega) (by simp; omega)).trans hp3
  have p4 := (hk2.cell (o := 4) (g := w.heap.size) (by omega) (by simp; omega)).trans hp4
  have hz2 := hk2.size
  simp +contextual (maxSteps := 2000000) (disch := (first | omega | (simp only [SZ]; done) | (simp only [SZ]; omega) | (simp only [TS] at *; omega))) only [RZ, gval, gslot, fillL, ovw, numb, catL, ldN, agL, okC, oneC, init, Nat.reduceAdd, Nat.reduceMul, Nat.reduceSub, Nat.reduceEqDiff, Nat.reduceLT, ↓reduceIte, Int.reduceToNat, Int.reduceAdd, Int.reduceSub, Int.reduceMul, Int.reduceLT, Int.reduceLE, Int.reduceEq, Nat.reduceLeDiff,  f1, f2, f3, f14, f15, p3]
  (refine W_if rfl (fun hc => ?_) (fun hc => ?_) <;> (try simp only [TS] at hc))
  · simp +contextual (maxSteps := 2000000) (disch := (first | omega | (simp only [SZ]; done) | (simp only [SZ]; omega) | (simp only [TS] at *; omega))) only [RZ, gval, gslot, fillL, ovw, numb, catL, ldN, agL, okC, oneC, init, Nat.reduceAdd, Nat.reduceMul, Nat.reduceSub, Nat.reduceEqDiff, Nat.reduceLT, ↓reduceIte, Int.reduceToNat, Int.reduceAdd, Int.reduceSub, Int.reduceMul, Int.reduceLT, Int.reduceLE, Int.reduceEq, Nat.reduceLeDiff,  f1, f2, f3, f14, f15, p3]
    refine (shuffle_any gs S stk w2 hs2 (by omega) (by omega)).mono ?_
    rintro e w3 ⟨gl, hgl, hs3, ho3, he⟩
    rw [show P - k = (P - (k + 1)) + 1 by omega, guaE] at hGk
    have hsk := shuS_keeps (n := S) (st := stk) (by omega)
    generalize shuS S stk = o at *
    have hk3 : Kept [gs, gd] w1 w3 := hk2.trans (Kept.of_only ho3 (by simp))
    have hR3 := hR2.only ho3 (by omega)
    by_cases hoz : o.2.1 = 0
    · rw [if_pos hoz] at he
      obtain ⟨rfl, hRo⟩ := he
      refine ⟨_, rfl, ?_⟩
      rw [if_pos hoz] at hGk
      obtain ⟨o1, o2, o3⟩ := hsk hoz
      have p3 := (ho3.cell (o := 3) (g := w.heap.size) (by omega) (by omega)).trans p3
      have p4 := (ho3.cell (o := 4) (g := w.heap.size) (by omega) (by omega)).trans p4
      have hz3 := hRo.lt
      simp +contextual (maxSteps := 2000000) (disch := (first | omega | (simp only [SZ]; done) | (simp only [SZ]; omega) | (simp only [TS] at *; omega))) only [RZ, gval, gslot, fillL, ovw, numb, catL, ldN, agL, okC, oneC, init, Nat.reduceAdd, Nat.reduceMul, Nat.reduceSub, Nat.reduceEqDiff, Nat.reduceLT, ↓reduceIte, Int.reduceToNat, Int.reduceAdd, Int.reduceSub, Int.reduceMul, Int.reduceLT, Int.reduceLE, Int.reduceEq, Nat.reduceLeDiff,  f1, f2, f3, f14, f15, p4]
      refine W_if_f rfl ?_
      have hmul : (k + 1) * S ≤ P * S := Nat.mul_le_mul_right S (by omega)
      rw [Nat.succ_mul] at hmul
      have hPS : (P : Int) * S = ((P * S : Nat) : Int) := (Int.natCast_mul P S).symm
      have hZn : Z.length = P * S := by omega
      have hkb : k * S ≤ 32 * 256 := Nat.mul_le_mul (by omega) (by omega)
      have hPb : P * S ≤ 32 * 256 := Nat.mul_le_mul (by omega) (by omega)
      have hkS : (k : Int) * S = ((k * S : Nat) : Int) := (Int.natCast_mul k S).symm
      simp +contextual (maxSteps := 2000000) (disch := (first | omega | (simp only [SZ]; done) | (simp only [SZ]; omega) | (simp only [TS] at *; omega))) only [RZ, gval, gslot, fillL, ovw, numb, catL, ldN, agL, okC, oneC, init, Nat.reduceAdd, Nat.reduceMul, Nat.reduceSub, Nat.reduceEqDiff, Nat.reduceLT, ↓reduceIte, Int.reduceToNat, Int.reduceAdd, Int.reduceSub, Int.reduceMul, Int.reduceLT, Int.reduceLE, Int.reduceEq, Nat.reduceLeDiff,  f1, f2, f3, f14, f15, p4]
      refine Raw_loop (fun σ4 w4 => ∃ (m at_ : Nat) (Zm : List Int), m ≤ p.levels.length ∧ putZ (k * S) o.1 at_ (sureL (p.levels.drop m)) Zm = putZ (k * S) o.1 0 (sureL p.levels) Zk ∧ at_ + (sureL (p.levels.drop m)).length = (sureL p.levels).length ∧ Zm.length = Z.length ∧
        Row w4 gd 46 (deckV S seed Zm) ∧ Kept [gd] w3 w4 ∧ σ4 1 = .slice (some ⟨gd, 0, none⟩) Z.length cd ∧ σ4 2 = .pointer (some ⟨gs, 0, none⟩) ∧ σ4 3 = .pointer (some ⟨w.heap.size, 0, none⟩) ∧ σ4 7 = .int .i64 k ∧ σ4 8 = .slice (some ⟨gl, 0, none⟩) S S ∧ σ4 10 = .int .i64 at_ ∧ σ4 14 = .int .i64 P ∧ σ4 15 = .int .i64 k ∧
        σ4 29 = .slice A p.levels.length c ∧ σ4 30 = .int .i64 p.levels.length ∧ σ4 31 = .int .i64 m) (fun σ4 _ => p.levels.length - (intOf (σ4 31)).toNat) ?_ ?_
      · simp +contextual (maxSteps := 2000000) (disch := (first | omega | (simp only [SZ]; done) | (simp only [SZ]; omega) | (simp only [TS] at *; omega))) only [RZ, gval, gslot, fillL, ovw, numb, catL, ldN, agL, okC, oneC, init, Nat.reduceAdd, Nat.reduceMul, Nat.reduceSub, Nat.reduceEqDiff, Nat.reduceLT, ↓reduceIte, Int.reduceToNat, Int.reduceAdd, Int.reduceSub, Int.reduceMul, Int.reduceLT, Int.reduceLE, Int.reduceEq, Nat.reduceLeDiff,  f1, f2, f3, f14, f15]
        exact ⟨0, 0, Zk, Nat.zero_le _, by rw [List.drop_zero], by rw [List.drop_zero, Nat.zero_add], hZk, hR3, Kept.refl _ _, rfl, rfl⟩
      clear hR3
      rintro σ4 w4 ⟨m, at_, Zm, hm, hput, hat, hZm, hR4, hk4, g1, g2, g3, g7, g8, g10, g14, g15, g29, g30, g31⟩ K4 hK4
      have hL4 := (hL1.kept hk3 hA).kept hk4 fun b o h => by have := hA b o h; simp at this ⊢; exact this.2
      have hz4 := hk4.size
      have p43 := (hk4.cell (o := 3) (g := w.heap.size) (by omega) (by simp; omega)).trans p3
      have hRo4 := hRo.kept hk4 (by simp; omega)
      simp +contextual (maxSteps := 2000000) (disch := (first | omega | (simp only [SZ]; done) | (simp only [SZ]; omega) | (simp only [TS] at *; omega))) only [RZ, gval, gslot, fillL, ovw, numb, catL, ldN, agL, okC, oneC, init, Nat.reduceAdd, Nat.reduceMul, Nat.reduceSub, Nat.reduceEqDiff, Nat.reduceLT, ↓reduceIte, Int.reduceToNat, Int.reduceAdd, Int.reduceSub, Int.reduceMul, Int.reduceLT, Int.reduceLE, Int.reduceEq, Nat.reduceLeDiff,  g1, g2, g3, g7, g8, g10, g14, g15, g29, g30, g31]
      (refine W_if rfl (fun hc => ?_) (fun hc => ?_) <;> (try simp only [TS] at hc))
      · obtain ⟨v, hvm⟩ : ∃ v, p.levels[m]? = some v := ⟨_, List.getElem?_eq_getElem (by omega)⟩
        have hvv := hv v (List.mem_of_getElem? hvm)
        obtain ⟨ba, oa, rfl, hba, hcell⟩ := hL4.at_ hvm
        have l0 := hcell 0 _ rfl
        rw [Nat.add_zero] at l0
        have l1 := hcell 1 _ rfl
        have l2 := hcell 2 _ rfl
        have hdr : sureL (p.levels.drop m) = List.replicate v.pack.toNat v.prize ++ sureL (p.levels.drop (m + 1)) := by
          obtain ⟨hml, rfl⟩ := List.getElem?_eq_some_iff.1 hvm
          rw [List.drop_eq_getElem_cons hml, sureL_flat, sureL_flat, flatG_cons]
        rw [hdr] at hput hat
        rw [List.length_append, List.length_replicate] at hat
        simp +contextual (maxSteps := 2000000) (disch := (first | omega | (simp only [SZ]; done) | (simp only [SZ]; omega) | (simp only [TS] at *; omega))) only [RZ, gval, gslot, fillL, ovw, numb, catL, ldN, agL, okC, oneC, init, Nat.reduceAdd, Nat.reduceMul, Nat.reduceSub, Nat.reduceEqDiff, Nat.reduceLT, ↓reduceIte, Int.reduceToNat, Int.reduceAdd, Int.reduceSub, Int.reduceMul, Int.reduceLT, Int.reduceLE, Int.reduceEq, Nat.reduceLeDiff,  g1, g2, g3, g7, g8, g10, g14, g15, g29, g30, g31, l0, l1, l2]
        have hro := Row.new w4 43 (encLvl v)
        have hR5 := hR4.alloc (.cells (encLvl v).toArray 43)
        have hRo5 := hRo4.alloc (.cells (encLvl v).toArray 43)
        have hk5 := (hk4.trans (Kept.refl _ _)).alloc (.cells (encLvl v).toArray 43)
        have p53 := ((below_alloc w4 (.cells (encLvl v).toArray 43)).cell (p := ⟨w.heap.size, 3, none⟩) (by show w.heap.size < _; omega)).trans p43
        have hz5 : (w4.alloc (.cells (encLvl v).toArray 43)).heap.size = w4.heap.size + 1 := World.size_alloc _ _
        rw [show (encLvl v).toArray = #[.int .i64 v.prize, .int .i64 v.count, .int .i64 v.pack] from rfl] at hro hR5 hRo5 hk5 p53 hz5
        generalize w4.alloc (.cells #[.int .i64 v.prize, .int .i64 v.count, .int .i64 v.pack] 43) = w5 at *
        have hgl4 := hRo4.lt
        have hgd4 := hR4.lt
        refine Raw_loop (fun σ5 w6 => ∃ (j a6 : Nat) (Z6 : List Int), j ≤ v.pack.toNat ∧ putZ (k * S) o.1 a6 (List.replicate (v.pack.toNat - j) v.prize ++ sureL (p.levels.drop (m + 1))) Z6 = putZ (k * S) o.1 0 (sureL p.levels) Zk ∧ a6 + (v.pack.toNat - j) + (sureL (p.levels.drop (m + 1))).length = (sureL p.levels).length ∧ Z6.length = Z.length ∧
          Row w6 gd 46 (deckV S seed Z6) ∧ Kept [gd] w5 w6 ∧ σ5 1 = .slice (some ⟨gd, 0, none⟩) Z.length cd ∧ σ5 2 = .pointer (some ⟨gs, 0, none⟩) ∧ σ5 3 = .pointer (some ⟨w.heap.size, 0, none⟩) ∧ σ5 7 = .int .i64 k ∧ σ5 8 = .slice (some ⟨gl, 0, none⟩) S S ∧ σ5 10 = .int .i64 a6 ∧ σ5 12 = .pointer (some ⟨w4.heap.size, 0, none⟩) ∧ σ5 14 = .int .i64 P ∧ σ5 15 = .int .i64 k ∧
          σ5 29 = .slice (some ⟨ba, oa, none⟩) p.levels.length c ∧ σ5 30 = .int .i64 p.levels.length ∧ σ5 31 = .int .i64 m ∧ σ5 36 = .int .i64 v.pack ∧ σ5 37 = .int .i64 j) (fun σ5 _ => v.pack.toNat - (intOf (σ5 37)).toNat) ?_ ?_
        · simp +contextual (maxSteps := 2000000) (disch := (first | omega | (simp only [SZ]; done) | (simp only [SZ]; omega) | (simp only [TS] at *; omega))) only [RZ, gval, gslot, fillL, ovw, numb, catL, ldN, agL, okC, oneC, init, Nat.reduceAdd, Nat.reduceMul, Nat.reduceSub, Nat.reduceEqDiff, Nat.reduceLT, ↓reduceIte, Int.reduceToNat, Int.reduceAdd, Int.reduceSub, Int.reduceMul, Int.reduceLT, Int.reduceLE, Int.reduceEq, Nat.reduceLeDiff,  g1, g2, g3, g7, g8, g10, g14, g15, g29, g30, g31]
          exact ⟨0, at_, Zm, Nat.zero_le _, hput, by omega, hZm, hR5, Kept.refl _ _, rfl, rfl⟩
        clear hR5
        rintro σ5 w6 ⟨j, a6, Z6, hj, hput6, hat6, hZ6, hR6, hk6, i1, i2, i3, i7, i8, i10, i12, i14, i15, i29, i30, i31, i36, i37⟩ K5 hK5
        have hz6 := hk6.size
        have p63 := (hk6.cell (o := 3) (g := w.heap.size) (by omega) (by simp; omega)).trans p53
        have hRo6 := hRo5.kept hk6 (by simp; omega)
        have hro6 := hro.kept hk6 (by simp; omega)
        simp +contextual (maxSteps := 2000000) (disch := (first | omega | (simp only [SZ]; done) | (simp only [SZ]; omega) | (simp only [TS] at *; omega))) only [RZ, gval, gslot, fillL, ovw, numb, catL, ldN, agL, okC, oneC, init, Nat.reduceAdd, Nat.reduceMul, Nat.reduceSub, Nat.reduceEqDiff, Nat.reduceLT, ↓reduceIte, Int.reduceToNat, Int.reduceAdd, Int.reduceSub, Int.reduceMul, Int.reduceLT, Int.reduceLE, Int.reduceEq, Nat.reduceLeDiff,  i1, i2, i3, i7, i8, i10, i12, i14, i15, i29, i30, i31, i36, i37]
        (refine W_if rfl (fun hc => ?_) (fun hc => ?_) <;> (try simp only [TS] at hc))
        · obtain ⟨r, hr⟩ : ∃ r, v.pack.toNat - j = r + 1 := ⟨v.pack.toNat - j - 1, by omega⟩
          rw [hr, List.replicate_succ, List.cons_append, putZ] at hput6
          have ho3 := o3 a6 (by omega)
          have hlo : a6 < o.1.length := by omega
          have co := hRo6.cell (iV_get hlo)
          have cp := hro6.cell (i := 0) rfl
          have hnn : (((k * S : Nat) : Int) + o.1.getD a6 0 - 1).toNat = k * S + (o.1.getD a6 0 - 1).toNat := by omega
          have hix : k * S + (o.1.getD a6 0 - 1).toNat < Z6.length := by omega
          obtain ⟨u, hu⟩ : ∃ u, Z6[k * S + (o.1.getD a6 0 - 1).toNat]? = some u := ⟨_, List.getElem?_eq_getElem hix⟩
          have cz := hR6.cell (deckV_cell (S := S) (seed := seed) hu).2.2.1
          have zz := hR6.frozen ((k * S + (o.1.getD a6 0 - 1).toNat) * 4 + 2)
          have hR7 := hR6.set_ (i := (k * S + (o.1.getD a6 0 - 1).toNat) * 4 + 2) (by rw [deckV_len]; omega) (.int .i64 v.prize)
          rw [deckV_set hu] at hR7
          simp +contextual (maxSteps := 2000000) (disch := (first | omega | (simp only [SZ]; done) | (simp only [SZ]; omega) | (simp only [TS] at *; omega))) only [RZ, gval, gslot, fillL, ovw, numb, catL, ldN, agL, okC, oneC, init, Nat.reduceAdd, Nat.reduceMul, Nat.reduceSub, Nat.reduceEqDiff, Nat.reduceLT, ↓reduceIte, Int.reduceToNat, Int.reduceAdd, Int.reduceSub, Int.reduceMul, Int.reduceLT, Int.reduceLE, Int.reduceEq, Nat.reduceLeDiff,  i1, i2, i3, i7, i8, i10, i12, i14, i15, i29, i30, i31, i36, i37]
          refine Raw_rcS (τ := ?ta) (fun w' => w'.cell? ⟨w.heap.size, 3, none⟩ = some (.int .i64 S) ∧ w'.cell? ⟨gl, a6, none⟩ = some (.int .i64 (o.1.getD a6 0)) ∧ w'.cell? ⟨w4.heap.size, 0, none⟩ = some (.int .i64 v.prize)) [0, 1, 2, 3, 4, 5, 6, 7, 8, 9, 10, 11, 12, 13, 14] [15] MX rfl (by kernel_rfl) (by kernel_rfl) (by kernel_rfl) (fun _ _ _ h => h) ⟨p63, co, cp⟩ (fun w7 h7 => ?_) ?_; rotate_left
          · obtain ⟨h71, h72, h73⟩ := h7
            simp only [opsL_cons, opsL_nil, List.getElem?_toArray, List.getElem?_cons_zero, List.getElem?_cons_succ, optL_some]
            simp +contextual (maxSteps := 2000000) (disch := (first | omega | (simp only [SZ]; done) | (simp only [SZ]; omega) | (simp only [TS] at *; omega))) only [RZ, gval, gslot, fillL, ovw, numb, catL, ldN, agL, okC, oneC, init, Nat.reduceAdd, Nat.reduceMul, Nat.reduceSub, Nat.reduceEqDiff, Nat.reduceLT, ↓reduceIte, Int.reduceToNat, Int.reduceAdd, Int.reduceSub, Int.reduceMul, Int.reduceLT, Int.reduceLE, Int.reduceEq, Nat.reduceLeDiff,  i1, i2, i3, i7, i8, i10, i12, i14, i15, i29, i30, i31, i36, i37, h71, h72, h73, hkS, hnn]
            exact rfl
          simp only [opsL_cons, opsL_nil, List.getElem?_toArray, List.getElem?_cons_zero, List.getElem?_cons_succ, optL_some]
          have cz : w6.drew.cell? _ = _ := cz
          simp +contextual (maxSteps := 2000000) (disch := (first | omega | (simp only [SZ]; done) | (simp only [SZ]; omega) | (simp only [TS] at *; omega))) only [RZ, gval, gslot, fillL, ovw, numb, catL, ldN, agL, okC, oneC, init, Nat.reduceAdd, Nat.reduceMul, Nat.reduceSub, Nat.reduceEqDiff, Nat.reduceLT, ↓reduceIte, Int.reduceToNat, Int.reduceAdd, Int.reduceSub, Int.reduceMul, Int.reduceLT, Int.reduceLE, Int.reduceEq, Nat.reduceLeDiff,  i1, i2, i3, i7, i8, i10, i12, i14, i15, i29, i30, i31, i36, i37, cz, zz, EC_op, EC_nil]
          have n1 : gd ≠ w.heap.size := by omega
          have n2 : gd ≠ gl := by omega
          have n3 : gd ≠ w4.heap.size := by omega
          refine ⟨⟨?_, ?_, ?_⟩, ?_⟩
          · exact p63
          · exact co
          · exact cp
          rw [show r = v.pack.toNat - (j + 1) by omega] at hput6
          refine hK5 _ _ ⟨j + 1, a6 + 1, _, by omega, hput6, by omega, by rw [List.length_set]; exact hZ6, hR7.drew, (hk6.setCell (p := ⟨gd, _, none⟩) (by simp) _).drew, ?_⟩ ?_
          · simp +contextual (maxSteps := 2000000) (disch := (first | omega | (simp only [SZ]; done) | (simp only [SZ]; omega) | (simp only [TS] at *; omega))) only [RZ, gval, gslot, fillL, ovw, numb, catL, ldN, agL, okC, oneC, init, Nat.reduceAdd, Nat.reduceMul, Nat.reduceSub, Nat.reduceEqDiff, Nat.reduceLT, ↓reduceIte, Int.reduceToNat, Int.reduceAdd, Int.reduceSub, Int.reduceMul, Int.reduceLT, Int.reduceLE, Int.reduceEq, Nat.reduceLeDiff,  i1, i2, i3, i7, i8, i10, i12, i14, i15, i29, i30, i31, i36, i37]
          · simp +contextual (maxSteps := 2000000) (disch := (first | omega | (simp only [SZ]; done) | (simp only [SZ]; omega) | (simp only [TS] at *; omega))) only [RZ, gval, gslot, fillL, ovw, numb, catL, ldN, agL, okC, oneC, init, Nat.reduceAdd, Nat.reduceMul, Nat.reduceSub, Nat.reduceEqDiff, Nat.reduceLT, ↓reduceIte, Int.reduceToNat, Int.reduceAdd, Int.reduceSub, Int.reduceMul, Int.reduceLT, Int.reduceLE, Int.reduceEq, Nat.reduceLeDiff,  intOf, i37]
            omega
        · have hj2 : v.pack.toNat - j = 0 := by omega
          rw [hj2, List.replicate_zero, List.nil_append] at hput6
          simp +contextual (maxSteps := 2000000) (disch := (first | omega | (simp only [SZ]; done) | (simp only [SZ]; omega) | (simp only [TS] at *; omega))) only [RZ, gval, gslot, fillL, ovw, numb, catL, ldN, agL, okC, oneC, init, Nat.reduceAdd, Nat.reduceMul, Nat.reduceSub, Nat.reduceEqDiff, Nat.reduceLT, ↓reduceIte, Int.reduceToNat, Int.reduceAdd, Int.reduceSub, Int.reduceMul, Int.reduceLT, Int.reduceLE, Int.reduceEq, Nat.reduceLeDiff,  i1, i2, i3, i7, i8, i10, i12, i14, i15, i29, i30, i31, i36, i37]
          refine hK4 _ _ ⟨m + 1, a6, Z6, by omega, hput6, by omega, hZ6, hR6, hk5.trans hk6, ?_⟩ ?_
          · simp +contextual (maxSteps := 2000000) (disch := (first | omega | (simp only [SZ]; done) | (simp only [SZ]; omega) | (simp only [TS] at *; omega))) only [RZ, gval, gslot, fillL, ovw, numb, catL, ldN, agL, okC, oneC, init, Nat.reduceAdd, Nat.reduceMul, Nat.reduceSub, Nat.reduceEqDiff, Nat.reduceLT, ↓reduceIte, Int.reduceToNat, Int.reduceAdd, Int.reduceSub, Int.reduceMul, Int.reduceLT, Int.reduceLE, Int.reduceEq, Nat.reduceLeDiff,  i1, i2, i3, i7, i8, i10, i12, i14, i15, i29, i30, i31, i36, i37]
          · simp +contextual (maxSteps := 2000000) (disch := (first | omega | (simp only [SZ]; done) | (simp only [SZ]; omega) | (simp only [TS] at *; omega))) only [RZ, gval, gslot, fillL, ovw, numb, catL, ldN, agL, okC, oneC, init, Nat.reduceAdd, Nat.reduceMul, Nat.reduceSub, Nat.reduceEqDiff, Nat.reduceLT, ↓reduceIte, Int.reduceToNat, Int.reduceAdd, Int.reduceSub, Int.reduceMul, Int.reduceLT, Int.reduceLE, Int.reduceEq, Nat.reduceLeDiff,  intOf, g31, i31]
            omega
      · simp +contextual (maxSteps := 2000000) (disch := (first | omega | (simp only [SZ]; done) | (simp only [SZ]; omega) | (simp only [TS] at *; omega))) only [RZ, gval, gslot, fillL, ovw, numb, catL, ldN, agL, okC, oneC, init, Nat.reduceAdd, Nat.reduceMul, Nat.reduceSub, Nat.reduceEqDiff, Nat.reduceLT, ↓reduceIte, Int.reduceToNat, Int.reduceAdd, Int.reduceSub, Int.reduceMul, Int.reduceLT, Int.reduceLE, Int.reduceEq, Nat.reduceLeDiff,  g1, g2, g3, g7, g8, g10, g14, g15, g29, g30, g31]
        have hm2 : p.levels.drop m = [] := List.drop_eq_nil_of_le (by omega)
        rw [hm2] at hput
        replace hput : Zm = _ := hput
        refine hK _ _ ⟨k + 1, Zm, o.2.2, by omega, by rw [hput]; exact hGk, hZm, hs3.kept hk4 (by simp; omega), hR4, hk3.trans (hk4.less fun x hx _ => by simp at hx ⊢; exact .inr hx), ?_⟩ ?_
        · simp +contextual (maxSteps := 2000000) (disch := (first | omega | (simp only [SZ]; done) | (simp only [SZ]; omega) | (simp only [TS] at *; omega))) only [RZ, gval, gslot, fillL, ovw, numb, catL, ldN, agL, okC, oneC, init, Nat.reduceAdd, Nat.reduceMul, Nat.reduceSub, Nat.reduceEqDiff, Nat.reduceLT, ↓reduceIte, Int.reduceToNat, Int.reduceAdd, Int.reduceSub, Int.reduceMul, Int.reduceLT, Int.reduceLE, Int.reduceEq, Nat.reduceLeDiff,  g1, g2, g3, g7, g8, g10, g14, g15, g29, g30, g31]
        · simp +contextual (maxSteps := 2000000) (disch := (first | omega | (simp only [SZ]; done) | (simp only [SZ]; omega) | (simp only [TS] at *; omega))) only [RZ, gval, gslot, fillL, ovw, numb, catL, ldN, agL, okC, oneC, init, Nat.reduceAdd, Nat.reduceMul, Nat.reduceSub, Nat.reduceEqDiff, Nat.reduceLT, ↓reduceIte, Int.reduceToNat, Int.reduceAdd, Int.reduceSub, Int.reduceMul, Int.reduceLT, Int.reduceLE, Int.reduceEq, Nat.reduceLeDiff,  intOf, g15, f15]
          omega
    · rw [if_neg hoz] at he
      subst he
      refine ⟨_, rfl, ?_⟩
      rw [if_neg hoz] at hGk
      have e0 : (o.2.1 = 0) = False := eq_false hoz
      simp +contextual (maxSteps := 2000000) (disch := (first | omega | (simp only [SZ]; done) | (simp only [SZ]; omega) | (simp only [TS] at *; omega))) only [RZ, gval, gslot, fillL, ovw, numb, catL, ldN, agL, okC, oneC, init, Nat.reduceAdd, Nat.reduceMul, Nat.reduceSub, Nat.reduceEqDiff, Nat.reduceLT, ↓reduceIte, Int.reduceToNat, Int.reduceAdd, Int.reduceSub, Int.reduceMul, Int.reduceLT, Int.reduceLE, Int.reduceEq, Nat.reduceLeDiff,  f1, f2, f3, f14, f15, p3, e0]
      refine W_if_t rfl ?_
      simp +contextual (maxSteps := 2000000) (disch := (first | omega | (simp only [SZ]; done) | (simp only [SZ]; omega) | (simp only [TS] at *; omega))) only [RZ, gval, gslot, fillL, ovw, numb, catL, ldN, agL, okC, oneC, init, Nat.reduceAdd, Nat.reduceMul, Nat.reduceSub, Nat.reduceEqDiff, Nat.reduceLT, ↓reduceIte, Int.reduceToNat, Int.reduceAdd, Int.reduceSub, Int.reduceMul, Int.reduceLT, Int.reduceLE, Int.reduceEq, Nat.reduceLeDiff]
      rw [← hGk]
      exact ⟨rfl, hs3, hR3, hk1.trans hk3⟩
  · simp +contextual (maxSteps := 2000000) (disch := (first | omega | (simp only [SZ]; done) | (simp only [SZ]; omega) | (simp only [TS] at *; omega))) only [RZ, gval, gslot, fillL, ovw, numb, catL, ldN, agL, okC, oneC, init, Nat.reduceAdd, Nat.reduceMul, Nat.reduceSub, Nat.reduceEqDiff, Nat.reduceLT, ↓reduceIte, Int.reduceToNat, Int.reduceAdd, Int.reduceSub, Int.reduceMul, Int.reduceLT, Int.reduceLE, Int.reduceEq, Nat.reduceLeDiff,  f1, f2, f3, f14, f15, p3]
    rw [show P - k = 0 by omega, guaE] at hGk
    rw [← hGk]
    exact ⟨rfl, hs2, hR2, hk1.trans hk2⟩
end Go.Proofs.YtcnlopjjejdahaaDoor
/- Walks: the reader of a plan's tokens: next, skip, is, word, mark, number. -/
namespace Go.Proofs.YtcnlopjjejdahaaDoor
open Go.RowKit
set_option maxRecDepth 100000
def adv (T : List Tk) (a : Nat) : Nat := if a + 1 < T.length then a + 1 else a
theorem drop_hd {T : List Tk} {a : Nat} {t : Tk} (h : T[a]? = some t) : hdT (T.drop a) = t := by
  obtain ⟨hk, rfl⟩ := List.getElem?_eq_some_iff.1 h
  rw [List.drop_eq_getElem_cons hk]
  rfl
theorem drop_nx {T : List Tk} {a : Nat} (h : a < T.length) : nxT (T.drop a) = T.drop (adv T a) := by
  unfold adv
  rw [List.drop_eq_getElem_cons h]
  by_cases h1 : a + 1 < T.length
  · rw [if_pos h1, List.drop_eq_getElem_cons h1]
    rfl
  · rw [if_neg h1, List.drop_eq_nil_of_le (show T.length ≤ a + 1 by omega), List.drop_eq_getElem_cons h, List.drop_eq_nil_of_le (show T.length ≤ a + 1 by omega)]
    rfl
theorem adv_lt {T : List Tk} {a : Nat} (h : a < T.length) : adv T a < T.length := by unfold adv; split <;> omega
/-- A reader at the a-th of its tokens. -/
structure RdIn (w : World) (g : Nat) (A : Option Addr) (c : Nat) (T : List Tk) (a : Nat) : Prop where
  lt : a < T.length
  big : T.length ≤ 1000000
  arr : Arr w A 4 (T.map encTk)
  off : ∀ b o, A = some ⟨b, o, none⟩ → b ≠ g
  row : Row w g 59 [.slice A T.length c, .int .i64 a]
  szs : ∀ t ∈ T, t.text.size ≤ 1000000
theorem RdIn.kept {X : List Nat} {w w' : World} {g : Nat} {A : Option Addr} {c : Nat} {T : List Tk} {a : Nat} (h : RdIn w g A c T a) (k : Kept X w w') (hg : g ∉ X) (hA : ∀ b o, A = some ⟨b, o, none⟩ → b ∉ X) : RdIn w' g A c T a :=
  ⟨h.lt, h.big, h.arr.kept k hA, h.off, h.row.kept k hg, h.szs⟩
theorem RdIn.below {w w' : World} {g : Nat} {A : Option Addr} {c : Nat} {T : List Tk} {a : Nat} (h : RdIn w g A c T a) (k : Below w.heap.size w w') : RdIn w' g A c T a :=
  ⟨h.lt, h.big, h.arr.below k, h.off, h.row.below k, h.szs⟩
section
variable {g c a : Nat} {A : Option Addr} {T : List Tk} {w : World}
theorem rdNext_any (h : RdIn w g A c T a) : Calls Tryd.prog 38 #[.pointer (some ⟨g, 0, none⟩)] w fun e w' => e = .returned (.agg (encTk (hdT (T.drop a))).toArray) ∧ Below w.heap.size w w' := by
  refine calls_W (l := [_]) Tryd.func38 rfl _ Tryd.ntmps38 (by simp) ?_
  obtain ⟨h1, hbig, h2, h3, h4, h5⟩ := h
  obtain ⟨t, ht⟩ : ∃ t, T[a]? = some t := ⟨_, List.getElem?_eq_getElem h1⟩
  rw [drop_hd ht]
  obtain ⟨b, o, rfl, hb, hcell⟩ := h2.at_ ht
  have l0 := hcell 0 _ rfl
  rw [Nat.add_zero] at l0
  have l1 := hcell 1 _ rfl
  have l2 := hcell 2 _ rfl
  have l3 := hcell 3 _ rfl
  have c0 := h4.cell (i := 0) rfl
  have c1 := h4.cell (i := 1) rfl
  have hgl := h4.lt
  simp +contextual (maxSteps := 2000000) (disch := (first | omega | (simp only [SZ]; done) | (simp only [SZ]; omega) | (simp only [TS] at *; omega))) only [RZ, gval, gslot, fillL, ovw, numb, catL, ldN, agL, okC, oneC, init, Nat.reduceAdd, Nat.reduceMul, Nat.reduceSub, Nat.reduceEqDiff, Nat.reduceLT, ↓reduceIte, Int.reduceToNat, Int.reduceAdd, Int.reduceSub, Int.reduceMul, Int.reduceLT, Int.reduceLE, Int.reduceEq, Nat.reduceLeDiff]
  have hB := below_alloc w (.cells #[.int .i64 0, .int .i64 0, .int .i64 0, .string ByteArray.empty] 63)
  have hr := Row.new w 63 [.int .i64 0, .int .i64 0, .int .i64 0, .string ByteArray.empty]
  replace hr : Row (w.alloc (.cells #[.int .i64 0, .int .i64 0, .int .i64 0, .string ByteArray.empty] 63)) _ _ _ := hr
  have hz : (w.alloc (.cells #[.int .i64 0, .int .i64 0, .int .i64 0, .string ByteArray.empty] 63)).heap.size = w.heap.size + 1 := World.size_alloc _ _
  generalize w.alloc (.cells #[.int .i64 0, .int .i64 0, .int .i64 0, .string ByteArray.empty] 63) = w1 at *
  have r0 := hr.cell (i := 0) rfl
  have r1 := hr.cell (i := 1) rfl
  have r2 := hr.cell (i := 2) rfl
  have r3 := hr.cell (i := 3) rfl
  have y0 := hr.frozen 0
  have y1 := hr.frozen 1
  have y2 := hr.frozen 2
  have y3 := hr.frozen 3
  have hBd : Below w.heap.size w w1.drew := ⟨hB.os, hB.tape, hB.output, hB.size, hB.block⟩
  refine Raw_rcS (τ := ?ta) (fun w' => Below w.heap.size w w') [0, 1, 2, 3, 4, 5, 6, 7, 8, 9] [10] MX rfl (by kernel_rfl) (by kernel_rfl) (by kernel_rfl) (fun _ _ _ h => h) hBd (fun w7 h7 => ?_) ?_; rotate_left
  · have k := (bcell h7).1
    have l0 := (k _ _ hb).trans l0
    have l1 := (k _ _ hb).trans l1
    have l2 := (k _ _ hb).trans l2
    have l3 := (k _ _ hb).trans l3
    have c0 := (k _ _ hgl).trans c0
    have c1 := (k _ _ hgl).trans c1
    simp only [opsL_cons, opsL_nil, List.getElem?_toArray, List.getElem?_cons_zero, List.getElem?_cons_succ, optL_some]
    simp +contextual (maxSteps := 2000000) (disch := (first | omega | (simp only [SZ]; done) | (simp only [SZ]; omega) | (simp only [TS] at *; omega))) only [RZ, gval, gslot, fillL, ovw, numb, catL, ldN, agL, okC, oneC, init, Nat.reduceAdd, Nat.reduceMul, Nat.reduceSub, Nat.reduceEqDiff, Nat.reduceLT, ↓reduceIte, Int.reduceToNat, Int.reduceAdd, Int.reduceSub, Int.reduceMul, Int.reduceLT, Int.reduceLE, Int.reduceEq, Nat.reduceLeDiff,  c0, c1, l0, l1, l2, l3]
    exact rfl
  simp only [opsL_cons, opsL_nil, List.getElem?_toArray, List.getElem?_cons_zero, List.getElem?_cons_succ, optL_some]
  simp +contextual (maxSteps := 2000000) (disch := (first | omega | (simp only [SZ]; done) | (simp only [SZ]; omega) | (simp only [TS] at *; omega))) only [RZ, gval, gslot, fillL, ovw, numb, catL, ldN, agL, okC, oneC, init, Nat.reduceAdd, Nat.reduceMul, Nat.reduceSub, Nat.reduceEqDiff, Nat.reduceLT, ↓reduceIte, Int.reduceToNat, Int.reduceAdd, Int.reduceSub, Int.reduceMul, Int.reduceLT, Int.reduceLE, Int.reduceEq, Nat.reduceLeDiff,  EC_op, EC_nil, r0, r1, r2, r3, y0, y1, y2, y3]
  have hf : Below w.heap.size w ((((w1.setCell ⟨w.heap.size, 0, none⟩ (.int .i64 t.kind)).setCell ⟨w.heap.size, 1, none⟩ (.int .i64 t.line)).setCell ⟨w.heap.size, 2, none⟩ (.int .i64 t.col)).setCell ⟨w.heap.size, 3, none⟩ (.string t.text)).drew := by
    have h4 := (((hB.setCell (p := ⟨w.heap.size, 0, none⟩) (Nat.le_refl _) (.int .i64 t.kind)).setCell (p := ⟨w.heap.size, 1, none⟩) (Nat.le_refl _) (.int .i64 t.line)).setCell (p := ⟨w.heap.size, 2, none⟩) (Nat.le_refl _) (.int .i64 t.col)).setCell (p := ⟨w.heap.size, 3, none⟩) (Nat.le_refl _) (.string t.text)
    exact ⟨h4.os, h4.tape, h4.output, h4.size, h4.block⟩
  exact ⟨hf, rfl, hf⟩
theorem rdSkip_any (h : RdIn w g A c T a) : Calls Tryd.prog 70 #[.pointer (some ⟨g, 0, none⟩)] w fun e w' => (∃ v, e = .returned v) ∧ RdIn w' g A c T (adv T a) ∧ Kept [g] w w' := by
  refine calls_W (l := [_]) Tryd.func70 rfl _ Tryd.ntmps70 (by simp) ?_
  have h' := h
  obtain ⟨h1, hbig, h2, h3, h4, h5⟩ := h
  have c0 := h4.cell (i := 0) rfl
  have c1 := h4.cell (i := 1) rfl
  have z1 := h4.frozen 1
  simp +contextual (maxSteps := 2000000) (disch := (first | omega | (simp only [SZ]; done) | (simp only [SZ]; omega) | (simp only [TS] at *; omega))) only [RZ, gval, gslot, fillL, ovw, numb, catL, ldN, agL, okC, oneC, init, Nat.reduceAdd, Nat.reduceMul, Nat.reduceSub, Nat.reduceEqDiff, Nat.reduceLT, ↓reduceIte, Int.reduceToNat, Int.reduceAdd, Int.reduceSub, Int.reduceMul, Int.reduceLT, Int.reduceLE, Int.reduceEq, Nat.reduceLeDiff,  c0, c1]
  have c0d : w.drew.cell? _ = _ := c0
  have c1d : w.drew.cell? _ = _ := c1
  refine Raw_still MX (by kernel_rfl) ?_
  simp +contextual (maxSteps := 2000000) (disch := (first | omega | (simp only [SZ]; done) | (simp only [SZ]; omega) | (simp only [TS] at *; omega))) only [RZ, gval, gslot, fillL, ovw, numb, catL, ldN, agL, okC, oneC, init, Nat.reduceAdd, Nat.reduceMul, Nat.reduceSub, Nat.reduceEqDiff, Nat.reduceLT, ↓reduceIte, Int.reduceToNat, Int.reduceAdd, Int.reduceSub, Int.reduceMul, Int.reduceLT, Int.reduceLE, Int.reduceEq, Nat.reduceLeDiff,  c0, c1, c0d, c1d]
  (refine W_if rfl (fun hc => ?_) (fun hc => ?_) <;> (try simp only [TS] at hc))
  · simp +contextual (maxSteps := 2000000) (disch := (first | omega | (simp only [SZ]; done) | (simp only [SZ]; omega) | (simp only [TS] at *; omega))) only [RZ, gval, gslot, fillL, ovw, numb, catL, ldN, agL, okC, oneC, init, Nat.reduceAdd, Nat.reduceMul, Nat.reduceSub, Nat.reduceEqDiff, Nat.reduceLT, ↓reduceIte, Int.reduceToNat, Int.reduceAdd, Int.reduceSub, Int.reduceMul, Int.reduceLT, Int.reduceLE, Int.reduceEq, Nat.reduceLeDiff,  c0, c1, z1]
    have e : adv T a = a + 1 := if_pos (by omega)
    rw [e]
    have hk : Kept [g] w (w.setCell ⟨g, 1, none⟩ (.int .i64 ((a : Int) + 1))).drew := ((Kept.refl _ _).setCell (p := ⟨g, 1, none⟩) (by simp) _).drew
    refine ⟨⟨_, rfl⟩, ⟨by omega, hbig, Arr.kept h2 hk (fun b o hb => by have := h3 b o hb; simp; omega), h3, ?_, h5⟩, hk⟩
    have := h4.set_ (i := 1) (by simp) (.int .i64 ((a : Int) + 1))
    rw [Int.natCast_add]
    exact this
  · simp +contextual (maxSteps := 2000000) (disch := (first | omega | (simp only [SZ]; done) | (simp only [SZ]; omega) | (simp only [TS] at *; omega))) only [RZ, gval, gslot, fillL, ovw, numb, catL, ldN, agL, okC, oneC, init, Nat.reduceAdd, Nat.reduceMul, Nat.reduceSub, Nat.reduceEqDiff, Nat.reduceLT, ↓reduceIte, Int.reduceToNat, Int.reduceAdd, Int.reduceSub, Int.reduceMul, Int.reduceLT, Int.reduceLE, Int.reduceEq, Nat.reduceLeDiff,  c0, c1]
    have e : adv T a = a := if_neg (by omega)
    rw [e]
    exact ⟨⟨_, rfl⟩, ⟨h1, hbig, h2, h3, h4, h5⟩, (Kept.refl _ _).drew⟩
theorem rdIs_any (k : Int) (s : ByteArray) (h : RdIn w g A c T a) : Calls Tryd.prog 97 #[.pointer (some ⟨g, 0, none⟩), .int .i64 k, .string s] w fun e w' =>
    e = .returned (.bool (isT k (bs s) (T.drop a)).isSome) ∧ RdIn w' g A c T (if (isT k (bs s) (T.drop a)).isSome then adv T a else a) ∧ Kept [g] w w' := by
  refine calls_W (l := [_, _, _]) Tryd.func97 rfl _ Tryd.ntmps97 (by simp) ?_
  simp +contextual (maxSteps := 2000000) (disch := (first | omega | (simp only [SZ]; done) | (simp only [SZ]; omega) | (simp only [TS] at *; omega))) only [RZ, gval, gslot, fillL, ovw, numb, catL, ldN, agL, okC, oneC, init, Nat.reduceAdd, Nat.reduceMul, Nat.reduceSub, Nat.reduceEqDiff, Nat.reduceLT, ↓reduceIte, Int.reduceToNat, Int.reduceAdd, Int.reduceSub, Int.reduceMul, Int.reduceLT, Int.reduceLE, Int.reduceEq, Nat.reduceLeDiff]
  refine (rdNext_any h).mono ?_
  rintro e w1 ⟨rfl, hB1⟩
  refine ⟨_, rfl, ?_⟩
  have h1 := h.below hB1
  generalize ht : hdT (T.drop a) = t
  rw [show (encTk t).toArray = #[.int .i64 t.kind, .int .i64 t.line, .int .i64 t.col, .string t.text] from rfl]
  have hk1 : Kept [g] w w1 := Kept.of_below hB1
  by_cases hk : t.kind = k
  · by_cases hx : t.text = s
    · have e1 : (t.kind = k) = True := eq_true hk
      have e2 : (t.text = s) = True := eq_true hx
      have hI : isT k (bs s) (T.drop a) = some (nxT (T.drop a)) := isT_yes (by rw [ht]; exact hk) (by rw [ht, hx])
      simp +contextual (maxSteps := 2000000) (disch := (first | omega | (simp only [SZ]; done) | (simp only [SZ]; omega) | (simp only [TS] at *; omega))) only [RZ, gval, gslot, fillL, ovw, numb, catL, ldN, agL, okC, oneC, init, Nat.reduceAdd, Nat.reduceMul, Nat.reduceSub, Nat.reduceEqDiff, Nat.reduceLT, ↓reduceIte, Int.reduceToNat, Int.reduceAdd, Int.reduceSub, Int.reduceMul, Int.reduceLT, Int.reduceLE, Int.reduceEq, Nat.reduceLeDiff,  e1, e2]
      refine W_if_f rfl ?_
      simp +contextual (maxSteps := 2000000) (disch := (first | omega | (simp only [SZ]; done) | (simp only [SZ]; omega) | (simp only [TS] at *; omega))) only [RZ, gval, gslot, fillL, ovw, numb, catL, ldN, agL, okC, oneC, init, Nat.reduceAdd, Nat.reduceMul, Nat.reduceSub, Nat.reduceEqDiff, Nat.reduceLT, ↓reduceIte, Int.reduceToNat, Int.reduceAdd, Int.reduceSub, Int.reduceMul, Int.reduceLT, Int.reduceLE, Int.reduceEq, Nat.reduceLeDiff]
      refine (rdSkip_any (h1.below (below_alloc w1 _))).mono ?_
      rintro e w2 ⟨⟨v, rfl⟩, h2, hk2⟩
      refine ⟨_, rfl, ?_⟩
      simp +contextual (maxSteps := 2000000) (disch := (first | omega | (simp only [SZ]; done) | (simp only [SZ]; omega) | (simp only [TS] at *; omega))) only [RZ, gval, gslot, fillL, ovw, numb, catL, ldN, agL, okC, oneC, init, Nat.reduceAdd, Nat.reduceMul, Nat.reduceSub, Nat.reduceEqDiff, Nat.reduceLT, ↓reduceIte, Int.reduceToNat, Int.reduceAdd, Int.reduceSub, Int.reduceMul, Int.reduceLT, Int.reduceLE, Int.reduceEq, Nat.reduceLeDiff]
      rw [hI]
      exact ⟨rfl, h2, (hk1.alloc _).trans hk2⟩
    · have e1 : (t.kind = k) = True := eq_true hk
      have e2 : (t.text = s) = False := eq_false hx
      have hI : isT k (bs s) (T.drop a) = none := isT_no (by rw [ht]; exact fun h => hx (bs_inj h.2))
      simp +contextual (maxSteps := 2000000) (disch := (first | omega | (simp only [SZ]; done) | (simp only [SZ]; omega) | (simp only [TS] at *; omega))) only [RZ, gval, gslot, fillL, ovw, numb, catL, ldN, agL, okC, oneC, init, Nat.reduceAdd, Nat.reduceMul, Nat.reduceSub, Nat.reduceEqDiff, Nat.reduceLT, ↓reduceIte, Int.reduceToNat, Int.reduceAdd, Int.reduceSub, Int.reduceMul, Int.reduceLT, Int.reduceLE, Int.reduceEq, Nat.reduceLeDiff,  e1, e2]
      refine W_if_t rfl ?_
      simp +contextual (maxSteps := 2000000) (disch := (first | omega | (simp only [SZ]; done) | (simp only [SZ]; omega) | (simp only [TS] at *; omega))) only [RZ, gval, gslot, fillL, ovw, numb, catL, ldN, agL, okC, oneC, init, Nat.reduceAdd, Nat.reduceMul, Nat.reduceSub, Nat.reduceEqDiff, Nat.reduceLT, ↓reduceIte, Int.reduceToNat, Int.reduceAdd, Int.reduceSub, Int.reduceMul, Int.reduceLT, Int.reduceLE, Int.reduceEq, Nat.reduceLeDiff]
      rw [hI]
      exact ⟨rfl, h1.below (below_alloc w1 _), hk1.alloc _⟩
  · have e1 : (t.kind = k) = False := eq_false hk
    have hI : isT k (bs s) (T.drop a) = none := isT_no (by rw [ht]; exact fun h => hk h.1)
    simp +contextual (maxSteps := 2000000) (disch := (first | omega | (simp only [SZ]; done) | (simp only [SZ]; omega) | (simp only [TS] at *; omega))) only [RZ, gval, gslot, fillL, ovw, numb, catL, ldN, agL, okC, oneC, init, Nat.reduceAdd, Nat.reduceMul, Nat.reduceSub, Nat.reduceEqDiff, Nat.reduceLT, ↓reduceIte, Int.reduceToNat, Int.reduceAdd, Int.reduceSub, Int.reduceMul, Int.reduceLT, Int.reduceLE, Int.reduceEq, Nat.reduceLeDiff,  e1]
    refine W_if_t rfl ?_
    simp +contextual (maxSteps := 2000000) (disch := (first | omega | (simp only [SZ]; done) | (simp only [SZ]; omega) | (simp only [TS] at *; omega))) only [RZ, gval, gslot, fillL, ovw, numb, catL, ldN, agL, okC, oneC, init, Nat.reduceAdd, Nat.reduceMul, Nat.reduceSub, Nat.reduceEqDiff, Nat.reduceLT, ↓reduceIte, Int.reduceToNat, Int.reduceAdd, Int.reduceSub, Int.reduceMul, Int.reduceLT, Int.reduceLE, Int.reduceEq, Nat.reduceLeDiff]
    rw [hI]
    exact ⟨rfl, h1.below (below_alloc w1 _), hk1.alloc _⟩
theorem rdWord_any (s : ByteArray) (h : RdIn w g A c T a) : Calls Tryd.prog 69 #[.pointer (some ⟨g, 0, none⟩), .string s] w fun e w' =>
    e = .returned (.bool (isT 1 (bs s) (T.drop a)).isSome) ∧ RdIn w' g A c T (if (isT 1 (bs s) (T.drop a)).isSome then adv T a else a) ∧ Kept [g] w w' := by
  refine calls_W (l := [_, _]) Tryd.func69 rfl _ Tryd.ntmps69 (by simp) ?_
  simp +contextual (maxSteps := 2000000) (disch := (first | omega | (simp only [SZ]; done) | (simp only [SZ]; omega) | (simp only [TS] at *; omega))) only [RZ, gval, gslot, fillL, ovw, numb, catL, ldN, agL, okC, oneC, init, Nat.reduceAdd, Nat.reduceMul, Nat.reduceSub, Nat.reduceEqDiff, Nat.reduceLT, ↓reduceIte, Int.reduceToNat, Int.reduceAdd, Int.reduceSub, Int.reduceMul, Int.reduceLT, Int.reduceLE, Int.reduceEq, Nat.reduceLeDiff]
  refine (rdIs_any 1 s h).mono ?_
  rintro e w1 ⟨rfl, h1, hk1⟩
  refine ⟨_, rfl, ?_⟩
  simp +contextual (maxSteps := 2000000) (disch := (first | omega | (simp only [SZ]; done) | (simp only [SZ]; omega) | (simp only [TS] at *; omega))) only [RZ, gval, gslot, fillL, ovw, numb, catL, ldN, agL, okC, oneC, init, Nat.reduceAdd, Nat.reduceMul, Nat.reduceSub, Nat.reduceEqDiff, Nat.reduceLT, ↓reduceIte, Int.reduceToNat, Int.reduceAdd, Int.reduceSub, Int.reduceMul, Int.reduceLT, Int.reduceLE, Int.reduceEq, Nat.reduceLeDiff]
  exact ⟨h1, hk1⟩
theorem rdMark_any (s : ByteArray) (h : RdIn w g A c T a) : Calls Tryd.prog 71 #[.pointer (some ⟨g, 0, none⟩), .string s] w fun e w' =>
    e = .returned (.bool (isT 3 (bs s) (T.drop a)).isSome) ∧ RdIn w' g A c T (if (isT 3 (bs s) (T.drop a)).isSome then adv T a else a) ∧ Kept [g] w w' := by
  refine calls_W (l := [_, _]) Tryd.func71 rfl _ Tryd.ntmps71 (by simp) ?_
  simp +contextual (maxSteps := 2000000) (disch := (first | omega | (simp only [SZ]; done) | (simp only [SZ]; omega) | (simp only [TS] at *; omega))) only [RZ, gval, gslot, fillL, ovw, numb, catL, ldN, agL, okC, oneC, init, Nat.reduceAdd, Nat.reduceMul, Nat.reduceSub, Nat.reduceEqDiff, Nat.reduceLT, ↓reduceIte, Int.reduceToNat, Int.reduceAdd, Int.reduceSub, Int.reduceMul, Int.reduceLT, Int.reduceLE, Int.reduceEq, Nat.reduceLeDiff]
  refine (rdIs_any 3 s h).mono ?_
  rintro e w1 ⟨rfl, h1, hk1⟩
  refine ⟨_, rfl, ?_⟩
  simp +contextual (maxSteps := 2000000) (disch := (first | omega | (simp only [SZ]; done) | (simp only [SZ]; omega) | (simp only [TS] at *; omega))) only [RZ, gval, gslot, fillL, ovw, numb, catL, ldN, agL, okC, oneC, init, Nat.reduceAdd, Nat.reduceMul, Nat.reduceSub, Nat.reduceEqDiff, Nat.reduceLT, ↓reduceIte, Int.reduceToNat, Int.reduceAdd, Int.reduceSub, Int.reduceMul, Int.reduceLT, Int.reduceLE, Int.reduceEq, Nat.reduceLeDiff]
  exact ⟨h1, hk1⟩
theorem rdNumber_any (gp o : Nat) (Ty : TypeId) (cs : List Value) (u : Int) (h : RdIn w g A c T a) (hR : Row w gp Ty cs) (ho : cs[o]? = some (.int .i64 u)) (hgp : gp ≠ g) (hgA : ∀ b o, A = some ⟨b, o, none⟩ → b ≠ gp) :
    Calls Tryd.prog 72 #[.pointer (some ⟨g, 0, none⟩), .pointer (some ⟨gp, o, none⟩)] w fun e w' =>
      e = .returned (.bool (numT (T.drop a)).isSome) ∧ RdIn w' g A c T (if (numT (T.drop a)).isSome then adv T a else a) ∧ Kept [g, gp] w w' ∧ Row w' gp Ty (match numT (T.drop a) with | some x => cs.set o (.int .i64 x.1) | none => cs) := by
  refine calls_W (l := [_, _]) Tryd.func72 rfl _ Tryd.ntmps72 (by simp) ?_
  simp +contextual (maxSteps := 2000000) (disch := (first | omega | (simp only [SZ]; done) | (simp only [SZ]; omega) | (simp only [TS] at *; omega))) only [RZ, gval, gslot, fillL, ovw, numb, catL, ldN, agL, okC, oneC, init, Nat.reduceAdd, Nat.reduceMul, Nat.reduceSub, Nat.reduceEqDiff, Nat.reduceLT, ↓reduceIte, Int.reduceToNat, Int.reduceAdd, Int.reduceSub, Int.reduceMul, Int.reduceLT, Int.reduceLE, Int.reduceEq, Nat.reduceLeDiff]
  refine (rdNext_any h).mono ?_
  rintro e w1 ⟨rfl, hB1⟩
  refine ⟨_, rfl, ?_⟩
  have h1 := h.below hB1
  have hR1 := hR.below hB1
  generalize ht : hdT (T.drop a) = t
  rw [show (encTk t).toArray = #[.int .i64 t.kind, .int .i64 t.line, .int .i64 t.col, .string t.text] from rfl]
  have hk1 : Kept [g, gp] w w1 := Kept.of_below hB1
  by_cases hk : t.kind = 2
  · have e1 : (t.kind = 2) = True := eq_true hk
    have htT : t ∈ T := by
      rw [← ht]
      exact List.mem_of_mem_drop (hd_kind (by rw [ht]; omega))
    have hts := h.szs t htT
    simp +contextual (maxSteps := 2000000) (disch := (first | omega | (simp only [SZ]; done) | (simp only [SZ]; omega) | (simp only [TS] at *; omega))) only [RZ, gval, gslot, fillL, ovw, numb, catL, ldN, agL, okC, oneC, init, Nat.reduceAdd, Nat.reduceMul, Nat.reduceSub, Nat.reduceEqDiff, Nat.reduceLT, ↓reduceIte, Int.reduceToNat, Int.reduceAdd, Int.reduceSub, Int.reduceMul, Int.reduceLT, Int.reduceLE, Int.reduceEq, Nat.reduceLeDiff,  e1]
    refine W_if_f rfl ?_
    simp +contextual (maxSteps := 2000000) (disch := (first | omega | (simp only [SZ]; done) | (simp only [SZ]; omega) | (simp only [TS] at *; omega))) only [RZ, gval, gslot, fillL, ovw, numb, catL, ldN, agL, okC, oneC, init, Nat.reduceAdd, Nat.reduceMul, Nat.reduceSub, Nat.reduceEqDiff, Nat.reduceLT, ↓reduceIte, Int.reduceToNat, Int.reduceAdd, Int.reduceSub, Int.reduceMul, Int.reduceLT, Int.reduceLE, Int.reduceEq, Nat.reduceLeDiff]
    refine (numParse_any t.text _ (by omega)).mono ?_
    rintro e w2 ⟨rfl, rfl⟩
    refine ⟨_, rfl, ?_⟩
    have h2 := h1.below (below_alloc w1 (.cells #[.int .i64 t.kind, .int .i64 t.line, .int .i64 t.col, .string t.text] 63))
    have hR2 := hR1.alloc (.cells #[.int .i64 t.kind, .int .i64 t.line, .int .i64 t.col, .string t.text] 63)
    have hk2 := hk1.alloc (.cells #[.int .i64 t.kind, .int .i64 t.line, .int .i64 t.col, .string t.text] 63)
    generalize w1.alloc (.cells #[.int .i64 t.kind, .int .i64 t.line, .int .i64 t.col, .string t.text] 63) = w2 at *
    by_cases hN : (numE (bs t.text)).2 = 0
    · have hI : numT (T.drop a) = some ((numE (bs t.text)).1, nxT (T.drop a)) := by unfold numT; rw [ht, if_pos ⟨hk, hN⟩]
      have e3 : ((numE (bs t.text)).2 = 0) = True := eq_true hN
      have cu := hR2.cell ho
      have zu := hR2.frozen o
      generalize numE (bs t.text) = NE at *
      simp +contextual (maxSteps := 2000000) (disch := (first | omega | (simp only [SZ]; done) | (simp only [SZ]; omega) | (simp only [TS] at *; omega))) only [RZ, gval, gslot, fillL, ovw, numb, catL, ldN, agL, okC, oneC, init, Nat.reduceAdd, Nat.reduceMul, Nat.reduceSub, Nat.reduceEqDiff, Nat.reduceLT, ↓reduceIte, Int.reduceToNat, Int.reduceAdd, Int.reduceSub, Int.reduceMul, Int.reduceLT, Int.reduceLE, Int.reduceEq, Nat.reduceLeDiff,  e3]
      refine W_if_f rfl ?_
      simp +contextual (maxSteps := 2000000) (disch := (first | omega | (simp only [SZ]; done) | (simp only [SZ]; omega) | (simp only [TS] at *; omega))) only [RZ, gval, gslot, fillL, ovw, numb, catL, ldN, agL, okC, oneC, init, Nat.reduceAdd, Nat.reduceMul, Nat.reduceSub, Nat.reduceEqDiff, Nat.reduceLT, ↓reduceIte, Int.reduceToNat, Int.reduceAdd, Int.reduceSub, Int.reduceMul, Int.reduceLT, Int.reduceLE, Int.reduceEq, Nat.reduceLeDiff,  cu, zu]
      have hkx : Kept [gp] w2 (w2.setCell ⟨gp, o, none⟩ (.int .i64 NE.1)) := (Kept.refl _ _).setCell (p := ⟨gp, o, none⟩) (by simp) _
      have hR3 := hR2.set_ (i := o) (List.getElem?_eq_some_iff.1 ho).1 (.int .i64 NE.1)
      have h3 := h2.kept hkx (by simp; omega) (fun b o h => by have := hgA b o h; simp; omega)
      have hk3 := hk2.setCell (p := ⟨gp, o, none⟩) (by simp) (.int .i64 NE.1)
      generalize w2.setCell ⟨gp, o, none⟩ (.int .i64 NE.1) = w3 at *
      refine (rdSkip_any h3).mono ?_
      rintro e w4 ⟨⟨v, rfl⟩, h4, hk4⟩
      refine ⟨_, rfl, ?_⟩
      simp +contextual (maxSteps := 2000000) (disch := (first | omega | (simp only [SZ]; done) | (simp only [SZ]; omega) | (simp only [TS] at *; omega))) only [RZ, gval, gslot, fillL, ovw, numb, catL, ldN, agL, okC, oneC, init, Nat.reduceAdd, Nat.reduceMul, Nat.reduceSub, Nat.reduceEqDiff, Nat.reduceLT, ↓reduceIte, Int.reduceToNat, Int.reduceAdd, Int.reduceSub, Int.reduceMul, Int.reduceLT, Int.reduceLE, Int.reduceEq, Nat.reduceLeDiff]
      rw [hI]
      exact ⟨rfl, h4, hk3.trans (hk4.less fun x hx _ => by simp at hx ⊢; exact .inl hx), hR3.kept hk4 (by simp; exact hgp)⟩
    · have hI : numT (T.drop a) = none := by unfold numT; rw [ht, if_neg (fun h => hN h.2)]
      have e3 : ((numE (bs t.text)).2 = 0) = False := eq_false hN
      generalize numE (bs t.text) = NE at *
      simp +contextual (maxSteps := 2000000) (disch := (first | omega | (simp only [SZ]; done) | (simp only [SZ]; omega) | (simp only [TS] at *; omega))) only [RZ, gval, gslot, fillL, ovw, numb, catL, ldN, agL, okC, oneC, init, Nat.reduceAdd, Nat.reduceMul, Nat.reduceSub, Nat.reduceEqDiff, Nat.reduceLT, ↓reduceIte, Int.reduceToNat, Int.reduceAdd, Int.reduceSub, Int.reduceMul, Int.reduceLT, Int.reduceLE, Int.reduceEq, Nat.reduceLeDiff,  e3]
      refine W_if_t rfl ?_
      simp +contextual (maxSteps := 2000000) (disch := (first | omega | (simp only [SZ]; done) | (simp only [SZ]; omega) | (simp only [TS] at *; omega))) only [RZ, gval, gslot, fillL, ovw, numb, catL, ldN, agL, okC, oneC, init, Nat.reduceAdd, Nat.reduceMul, Nat.reduceSub, Nat.reduceEqDiff, Nat.reduceLT, ↓reduceIte, Int.reduceToNat, Int.reduceAdd, Int.reduceSub, Int.reduceMul, Int.reduceLT, Int.reduceLE, Int.reduceEq, Nat.reduceLeDiff]
      rw [hI]
      exact ⟨rfl, h2, hk2, hR2⟩
  · have e1 : (t.kind = 2) = False := eq_false hk
    have hI : numT (T.drop a) = none := by unfold numT; rw [ht, if_neg (fun h => hk h.1)]
    simp +contextual (maxSteps := 2000000) (disch := (first | omega | (simp only [SZ]; done) | (simp only [SZ]; omega) | (simp only [TS] at *; omega))) only [RZ, gval, gslot, fillL, ovw, numb, catL, ldN, agL, okC, oneC, init, Nat.reduceAdd, Nat.reduceMul, Nat.reduceSub, Nat.reduceEqDiff, Nat.reduceLT, ↓reduceIte, Int.reduceToNat, Int.reduceAdd, Int.reduceSub, Int.reduceMul, Int.reduceLT, Int.reduceLE, Int.reduceEq, Nat.reduceLeDiff,  e1]
    refine W_if_t rfl ?_
    simp +contextual (maxSteps := 2000000) (disch := (first | omega | (simp only [SZ]; done) | (simp only [SZ]; omega) | (simp only [TS] at *; omega))) only [RZ, gval, gslot, fillL, ovw, numb, catL, ldN, agL, okC, oneC, init, Nat.reduceAdd, Nat.reduceMul, Nat.reduceSub, Nat.reduceEqDiff, Nat.reduceLT, ↓reduceIte, Int.reduceToNat, Int.reduceAdd, Int.reduceSub, Int.reduceMul, Int.reduceLT, Int.reduceLE, Int.reduceEq, Nat.reduceLeDiff]
    rw [hI]
    exact ⟨rfl, h1.below (below_alloc w1 _), hk1.alloc _, hR1.alloc _⟩
end
end Go.Proofs.YtcnlopjjejdahaaDoor
/- Regions that draw their order: readers are taken first, at the values that they yield in every world that meets S; the operations of the list pl keep S, all others wait for the readers, through others too. -/
namespace Go.Proofs.YtcnlopjjejdahaaDoor
open Go.RowKit
section
variable {P : Program} {md : Region.Mode} {ops : Array Oper} {Q : Exit → Act → World → Prop} {pl : List Nat} {S : World → Prop}
/-- Whatever order is picked from here on; the operations of the list pl keep S. -/
def wpAnyX (P : Program) (md : Region.Mode) (ops : Array Oper) (Q : Exit → Act → World → Prop) (pl : List Nat) (S : World → Prop) : Nat → Array Bool → Act → World → Prop
  | 0, listed, a, w => Region.ready md ops listed = [] ∧ Q .normal a w
  | fuel + 1, listed, a, w =>
    (Region.ready md ops listed = [] → Q .normal a w) ∧
    ∀ i ∈ Region.ready md ops listed, wpOp P ops Q i (fun a' w' => (pl.contains i = true → S w') ∧ wpAnyX P md ops Q pl S fuel (listed.setIfInBounds i true) a' w') a w
theorem wpAny_of_X : ∀ (fuel : Nat) (listed : Array Bool) (a : Act) (w : World), wpAnyX P md ops Q pl S fuel listed a w → wpAny P md ops Q fuel listed a w
  | 0, _, _, _, h => h
  | fuel + 1, _, _, _, h => ⟨h.1, fun i hi => wpOp_mono (fun a' w' h' => wpAny_of_X fuel _ a' w' h'.2) (h.2 i hi)⟩
theorem wpAnyX_firstD {i : Nat} {oi : Oper} {v : Value} (D : List Nat) (hi : ops[i]? = some oi) (hsel : ∀ (j : Nat) (o : Oper) cs b, ops[j]? = some o → o.op ≠ .select cs b)
    (hQ : ∀ c a w, Q (.panic c) (a.put oi.dst v) w → Q (.panic c) a w) :
    ∀ (fuel : Nat) (listed : Array Bool) (a : Act) (w : World),
      (∀ j ∈ D, listed.getD j true = false ∧ ∃ oj, ops[j]? = some oj ∧ ∃ e ∈ oj.after, Region.binds md e = true ∧ (e.on = i ∨ e.on ∈ D)) →
      (∀ j oj, ops[j]? = some oj → j ≠ i → listed.getD j true = false → j ∉ D → oi.apart ops oj = true ∧ pl.contains j = true) →
      i ∈ Region.ready md ops listed → YieldsIf P ops S oi v a → S w →
      wpAnyX P md ops Q pl S fuel (listed.setIfInBounds i true) (a.put oi.dst v) w → wpAnyX P md ops Q pl S (fuel + 1) listed a w := by
  intro fuel
  induction fuel with
  | zero =>
    intro listed a w _ _ hr hy hS H
    refine ⟨fun h => (by rw [h] at hr; cases hr), fun j hj => ?_⟩
    by_cases hji : j = i
    · subst hji; exact hy.wpOp hi hS ⟨fun _ => hS, H⟩
    · have := ready_mono hj hji
      rw [H.1] at this
      cases this
  | succ fuel ih =>
    intro listed a w hD hfree hr hy hS H
    refine ⟨fun h => (by rw [h] at hr; cases hr), fun j hj => ?_⟩
    by_cases hji : j = i
    · subst hji; exact hy.wpOp hi hS ⟨fun _ => hS, H⟩
    · have h1 := H.2 j (ready_mono hj hji)
      obtain ⟨hjun, oj, hoj, hall⟩ := mem_ready.1 hj
      have hun : ∀ k, listed.getD k true = false → ∀ e ∈ oj.after, Region.binds md e = true → e.on ≠ k := fun k h0 e he hb heq => by
        have h1 := hall e he hb
        rw [heq] at h1
        rcases Nat.lt_or_ge k listed.size with h' | h'
        · simp [h'] at h0 h1; rw [h0] at h1; cases h1
        · simp [Array.getElem?_eq_none h'] at h1
      have hjD : j ∉ D := fun hx => by
        obtain ⟨_, oj', hoj', e, he, hb, ho⟩ := hD j hx
        rw [hoj] at hoj'
        injection hoj' with hoj'
        subst hoj'
        rcases ho with ho | ho
        · exact hun i (mem_ready.1 hr).1 e he hb ho
        · exact hun e.on (hD e.on ho).1 e he hb rfl
      obtain ⟨hap, hpj⟩ := hfree j oj hoj hji hjun hjD
      have h2 := wpOp_putIf hoj hap (fun cs b => hsel i oi cs b hi) (fun cs b => hsel j oj cs b hoj) hQ hy h1
      have hset : ∀ k, k ≠ j → (listed.setIfInBounds j true).getD k true = listed.getD k true := fun k hk => getD_set_ne true (fun e => hk e.symm)
      have hD' : ∀ k ∈ D, (listed.setIfInBounds j true).getD k true = false ∧ ∃ ok, ops[k]? = some ok ∧ ∃ e ∈ ok.after, Region.binds md e = true ∧ (e.on = i ∨ e.on ∈ D) := fun k hk => by
        obtain ⟨q1, q2⟩ := hD k hk
        exact ⟨by rw [hset k (fun e => hjD (e ▸ hk))]; exact q1, q2⟩
      have hfree' : ∀ k ok, ops[k]? = some ok → k ≠ i → (listed.setIfInBounds j true).getD k true = false → k ∉ D → oi.apart ops ok = true ∧ pl.contains k = true := fun k ok hk hki hun hno => by
        refine hfree k ok hk hki ?_ hno
        by_cases hjk : k = j
        · subst hjk; exact hjun
        · rw [hset k hjk] at hun; exact hun
      refine wpOp_mono (fun a' w' h3 => ?_) h2
      obtain ⟨h4, h5, h6⟩ := h3
      refine ⟨h5, ih (listed.setIfInBounds j true) a' _ hD' hfree' (ready_mono hr (Ne.symm hji)) h4 (h5 hpj) ?_⟩
      rw [Array.setIfInBounds_comm _ _ hji]
      exact h6
theorem wpAnyX_firstU {i : Nat} {oi : Oper} {v : Value} (hpi : pl.contains i = false) (hi : ops[i]? = some oi) (hsel : ∀ (j : Nat) (o : Oper) cs b, ops[j]? = some o → o.op ≠ .select cs b)
    (hQ : ∀ c a w, Q (.panic c) (a.put oi.dst v) w → Q (.panic c) a w) :
    ∀ (fuel : Nat) (listed : Array Bool) (a : Act) (w : World),
      (∀ j oj, ops[j]? = some oj → j ≠ i → listed.getD j true = false → (∀ e ∈ oj.after, Region.binds md e = true → e.on ≠ i) → oi.apart ops oj = true) →
      i ∈ Region.ready md ops listed → YieldsIf P ops (fun _ => True) oi v a →
      wpAnyX P md ops Q pl S fuel (listed.setIfInBounds i true) (a.put oi.dst v) w → wpAnyX P md ops Q pl S (fuel + 1) listed a w := by
  intro fuel
  induction fuel with
  | zero =>
    intro listed a w _ hr hy H
    refine ⟨fun h => (by rw [h] at hr; cases hr), fun j hj => ?_⟩
    by_cases hji : j = i
    · subst hji; exact hy.wpOp hi trivial ⟨fun hc => (by rw [hpi] at hc; cases hc), H⟩
    · have := ready_mono hj hji
      rw [H.1] at this
      cases this
  | succ fuel ih =>
    intro listed a w hfree hr hy H
    refine ⟨fun h => (by rw [h] at hr; cases hr), fun j hj => ?_⟩
    by_cases hji : j = i
    · subst hji; exact hy.wpOp hi trivial ⟨fun hc => (by rw [hpi] at hc; cases hc), H⟩
    · have h1 := H.2 j (ready_mono hj hji)
      obtain ⟨hjun, oj, hoj, hall⟩ := mem_ready.1 hj
      have hnot : ∀ e ∈ oj.after, Region.binds md e = true → e.on ≠ i := fun e he hb heq => by
        have h1 := hall e he hb
        have h0 := (mem_ready.1 hr).1
        rw [heq] at h1
        rcases Nat.lt_or_ge i listed.size with h' | h'
        · simp [h'] at h0 h1; rw [h0] at h1; cases h1
        · simp [Array.getElem?_eq_none h'] at h1
      have h2 := wpOp_putIf hoj (hfree j oj hoj hji hjun hnot) (fun cs b => hsel i oi cs b hi) (fun cs b => hsel j oj cs b hoj) hQ hy h1
      have hfree' : ∀ k ok, ops[k]? = some ok → k ≠ i → (listed.setIfInBounds j true).getD k true = false →
          (∀ e ∈ ok.after, Region.binds md e = true → e.on ≠ i) → oi.apart ops ok = true := fun k ok hk hki hun hno => by
        refine hfree k ok hk hki ?_ hno
        by_cases hjk : j = k
        · subst hjk; exact hjun
        · rw [getD_set_ne true hjk] at hun; exact hun
      refine wpOp_mono (fun a' w' h3 => ?_) h2
      obtain ⟨h4, h5, h6⟩ := h3
      refine ⟨h5, ih (listed.setIfInBounds j true) a' _ hfree' (ready_mono hr (Ne.symm hji)) h4 ?_⟩
      rw [Array.setIfInBounds_comm _ _ hji]
      exact h6
end
section
variable {P : Program} {n : Nat} {ops : Array Oper} {Q : Exit → Sl → World → Prop} {σ : Sl} {w : World} {fuel : Nat} {listed : Array Bool} {pl : List Nat} {S : World → Prop}
/-- Does it wait for i, or for one of the list? -/
def waitsB (ops : Array Oper) (i : Nat) (D : List Nat) (j : Nat) : Bool := match ops[j]? with
  | some oj => oj.after.any fun e => Region.binds .any e && (e.on == i || D.contains e.on)
  | none => false
def depL (ops : Array Oper) (i : Nat) : List Nat := (List.range ops.size).foldl (fun D j => if waitsB ops i D j then D ++ [j] else D) []
def freeD (ops : Array Oper) (pl : List Nat) (listed : Array Bool) (i : Nat) (D : List Nat) : Bool :=
  (D.all fun j => !listed.getD j true && waitsB ops i D j) &&
  match ops[i]? with
  | none => false
  | some oi => (List.range ops.size).all fun j => j == i || listed.getD j true || D.contains j || match ops[j]? with
      | some oj => oi.apart ops oj && pl.contains j
      | none => true
theorem freeD_dep {i : Nat} {D : List Nat} (h : freeD ops pl listed i D = true) : ∀ j ∈ D, listed.getD j true = false ∧ ∃ oj, ops[j]? = some oj ∧ ∃ e ∈ oj.after, Region.binds .any e = true ∧ (e.on = i ∨ e.on ∈ D) := by
  intro j hj
  unfold freeD at h
  rw [Bool.and_eq_true, List.all_eq_true] at h
  have h1 := h.1 j hj
  rw [Bool.and_eq_true, Bool.not_eq_true'] at h1
  refine ⟨h1.1, ?_⟩
  have h2 := h1.2
  unfold waitsB at h2
  cases ho : ops[j]? with
  | none => rw [ho] at h2; cases h2
  | some oj =>
    rw [ho] at h2
    simp only [Array.any_eq_true', Bool.and_eq_true, Bool.or_eq_true, beq_iff_eq, List.contains_iff_mem] at h2
    obtain ⟨e, he, hb, hon⟩ := h2
    exact ⟨oj, rfl, e, he, hb, hon⟩
theorem freeD_spec {i : Nat} {oi : Oper} {D : List Nat} (hi : ops[i]? = some oi) (h : freeD ops pl listed i D = true) (j : Nat) (oj : Oper) (hj : ops[j]? = some oj) (hne : j ≠ i) (hun : listed.getD j true = false) (hno : j ∉ D) :
    oi.apart ops oj = true ∧ pl.contains j = true := by
  unfold freeD at h
  rw [Bool.and_eq_true] at h
  have h2 := h.2
  rw [hi] at h2
  simp only [List.all_eq_true, List.mem_range] at h2
  have h1 := h2 j (Array.getElem?_eq_some_iff.1 hj).1
  rw [hj, hun] at h1
  simp only [Bool.or_false, Bool.or_eq_true, beq_iff_eq, Bool.and_eq_true, List.contains_iff_mem] at h1
  rcases h1 with (h1 | h1) | h1
  · exact absurd h1 hne
  · exact absurd h1 hno
  · exact ⟨h1.1, by simpa using h1.2⟩
def OrdX (P : Program) (n : Nat) (ops : Array Oper) (Q : Exit → Sl → World → Prop) (pl : List Nat) (S : World → Prop) (fuel : Nat) (listed : Array Bool) (σ : Sl) (w : World) : Prop :=
  ∀ a, Fr n σ a → wpAnyX P .any ops (lift n Q) pl S fuel listed a w
@[congr] theorem OrdX_congr {σ σ' : Sl} {w w' : World} (h : σ = σ') (h' : w = w') : OrdX P n ops Q pl S fuel listed σ w = OrdX P n ops Q pl S fuel listed σ' w' := by rw [h, h']
theorem Raw_ordX (pl : List Nat) (S : World → Prop) (m : Nat) (hsz : ops.size = m) {id : Nat} (hm : P.follows .mixedOrders = true) (h : OrdX P n ops Q pl S m (Array.replicate m false) σ w.drew) : Raw P n (.region id ops true) Q σ w := by
  intro a hf
  subst hsz
  exact wp_region_any hm (wpAny_of_X _ _ _ _ (h a hf))
theorem OrdX_take (i : Nat) (D : List Nat) {d : Option Nat} {op : Op} {ty : TypeId} {p : String} {af : Array Edge} {v : Value} (hi : ops[i]? = some ⟨d, op, ty, p, af, none⟩)
    (hs : Region.noSelect ops = true) (hf : freeD ops pl listed i D = true) (hr : (Region.ready .any ops listed).contains i = true)
    (hQ : ∀ c σ w, ¬ Q (.panic c) σ w) (hS : S w) (hv : ∀ w', S w' → run1 P op ty σ w' = .ok (.value v) w')
    (h : OrdX P n ops Q pl S fuel (listed.setIfInBounds i true) (put n σ d v) w) : OrdX P n ops Q pl S (fuel + 1) listed σ w := by
  intro a hfr
  refine wpAnyX_firstD D hi (Region.noSelect_spec hs) ?_ fuel listed a w (freeD_dep hf) (freeD_spec hi hf) (by simpa using hr) (v := v) ?_ hS (h _ (hfr.put d v))
  · rintro c a w ⟨σ', _, hq⟩
    exact absurd hq (hQ _ _ _)
  · refine .inl ⟨wanted_none rfl, fun w' hw' => ?_⟩
    have := hv w' hw'
    rw [hfr.eval]
    exact this
theorem OrdX_all (rs : List Nat) (hr : Region.ready .any ops listed = rs) (hne : rs ≠ []) (h : ∀ i ∈ rs, match ops[i]? with
      | some ⟨d, op, ty, _, _, none⟩ => Okv P (fun v w' => (pl.contains i = true → S w') ∧ OrdX P n ops Q pl S fuel (listed.setIfInBounds i true) (put n σ d v) w') (run1 P op ty σ w)
      | _ => False) : OrdX P n ops Q pl S (fuel + 1) listed σ w := by
  intro a hfr
  refine ⟨fun h0 => absurd (hr ▸ h0) hne, hr ▸ fun i hi => ?_⟩
  have h2 := h i hi
  cases ho : ops[i]? with
  | none => rw [ho] at h2; exact h2.elim
  | some o =>
    rw [ho] at h2
    obtain ⟨d, op, ty, p, af, g⟩ := o
    cases g with
    | some g => exact h2.elim
    | none =>
      unfold wpOp
      simp only [ho]
      rw [if_pos (wanted_none rfl)]
      exact .inl (Oper.wp_of_Okv hfr (o := ⟨d, op, ty, p, af, none⟩) h2 fun v w' hE => ⟨hE.1, hE.2 _ (hfr.put d v)⟩)
/-- One that keeps S, where nobody else may come up. -/
theorem OrdX_one (i : Nat) {d : Option Nat} {op : Op} {ty : TypeId} {p : String} {af : Array Edge} (hr : Region.ready .any ops listed = [i]) (hi : ops[i]? = some ⟨d, op, ty, p, af, none⟩)
    (h : Okv P (fun v w' => S w' ∧ OrdX P n ops Q pl S fuel (listed.setIfInBounds i true) (put n σ d v) w') (run1 P op ty σ w)) : OrdX P n ops Q pl S (fuel + 1) listed σ w :=
  OrdX_all [i] hr (by simp) fun j hj => by
    obtain rfl : j = i := by simpa using hj
    rw [hi]
    exact Okv_mono (fun v w' h => ⟨fun _ => h.1, h.2⟩) h
/-- One that need not keep it. -/
theorem OrdX_write (i : Nat) {d : Option Nat} {op : Op} {ty : TypeId} {p : String} {af : Array Edge} (hr : Region.ready .any ops listed = [i]) (hp : pl.contains i = false) (hi : ops[i]? = some ⟨d, op, ty, p, af, none⟩)
    (h : Okv P (fun v w' => OrdX P n ops Q pl S fuel (listed.setIfInBounds i true) (put n σ d v) w') (run1 P op ty σ w)) : OrdX P n ops Q pl S (fuel + 1) listed σ w :=
  OrdX_all [i] hr (by simp) fun j hj => by
    obtain rfl : j = i := by simpa using hj
    rw [hi]
    exact Okv_mono (fun v w' h => ⟨fun hc => (by rw [hp] at hc; cases hc), h⟩) h
theorem OrdX_done (hr : Region.ready .any ops listed = []) (h : Q .normal σ w) : OrdX P n ops Q pl S fuel listed σ w := fun a hf => by
  cases fuel with
  | zero => exact ⟨hr, σ, hf, h⟩
  | succ f => exact ⟨fun _ => ⟨σ, hf, h⟩, by rw [hr]; simp⟩
theorem OrdX_chain : ∀ (js : List Nat) (listed : Array Bool) (σ : Sl) (w : World), (js.all fun j => !pl.contains j) = true → chB ops listed js = true → E P n ops (opsL ops js) σ w (Q .normal) → OrdX P n ops Q pl S js.length listed σ w
  | [], L, σ, w, _, h, hE => OrdX_done (of_decide_eq_true h) hE
  | j :: r, L, σ, w, hp, h, hE => by
    rw [chB, Bool.and_eq_true, Bool.and_eq_true] at h
    rw [List.all_cons, Bool.and_eq_true] at hp
    obtain ⟨⟨h1, h2⟩, h3⟩ := h
    rw [opsL_cons] at hE
    cases ho : ops[j]? with
    | none => rw [ho] at h2; cases h2
    | some o =>
      obtain ⟨d, op, ty, p, af, g⟩ := o
      rw [ho] at h2
      cases g with
      | some g => cases h2
      | none =>
        rw [ho, optL_some, E_op] at hE
        exact OrdX_write j (of_decide_eq_true h1) (by simpa using hp.1) ho (Okv_mono (fun v w' hh => OrdX_chain r _ _ _ hp.2 h3 hh) hE)
def rdD (n : Nat) (ops : Array Oper) (pl : List Nat) : Array Bool → List Nat → Bool
  | _, [] => true
  | L, i :: r => (match ops[i]? with
    | some ⟨some d, _, _, _, _, none⟩ => decide (d < n) && r.all fun j => (ops[j]?).bind (·.dst) != some d
    | _ => false) && freeD ops pl L i (depL ops i) && (Region.ready .any ops L).contains i && rdD n ops pl (L.setIfInBounds i true) r
theorem OrdX_reads (is : List Nat) (f : Nat) {m : Nat} {τ : Sl} (hf : m = f + is.length) (hs : Region.noSelect ops = true) (hB : rdD n ops pl listed is = true)
    (hQ : ∀ c σ w, ¬ Q (.panic c) σ w) (hS : S w) (hv : ∀ w', S w' → V P n w' (opsL ops is) σ (fun σ' => σ' = τ))
    (h : OrdX P n ops Q pl S f (markL listed is) τ w) : OrdX P n ops Q pl S m listed σ w := by
  subst hf
  induction is generalizing listed σ with
  | nil => have e : σ = τ := hv w hS; rw [e]; exact h
  | cons i r ih =>
    rw [rdD, Bool.and_eq_true, Bool.and_eq_true, Bool.and_eq_true] at hB
    obtain ⟨⟨⟨h1, h2⟩, h3⟩, h4⟩ := hB
    cases ho : ops[i]? with
    | none => rw [ho] at h1; cases h1
    | some o =>
      obtain ⟨d', op, ty, p, af, g⟩ := o
      rw [ho] at h1
      cases d' with
      | none => cases h1
      | some d =>
      cases g with
      | some g => cases h1
      | none =>
      simp only [Bool.and_eq_true, decide_eq_true_eq] at h1
      obtain ⟨hd, hr⟩ := h1
      have key : ∀ w', S w' → run1 P op ty σ w' = .ok (.value (τ d)) w' ∧ V P n w' (opsL ops r) (put n σ (some d) (τ d)) (fun σ' => σ' = τ) := by
        intro w' hw'
        have hv := hv w' hw'
        rw [opsL_cons, ho, optL_some, V_op] at hv
        cases hr1 : run1 P op ty σ w' with
        | halt x w2 => rw [hr1] at hv; exact hv.elim
        | ok nx w2 =>
          rw [hr1] at hv
          cases nx with
          | value v =>
            obtain ⟨rfl, hv⟩ := hv
            have e := V_keep r _ hr hv
            rw [put_some, if_pos hd, upd_same] at e
            rw [e]
            exact ⟨rfl, hv⟩
          | _ => exact hv.elim
      exact OrdX_take i _ ho hs h2 h3 hQ hS (fun w' hw' => (key w' hw').1) (ih h4 (fun w' hw' => (key w' hw').2) h)
/-- A reader of slots: its value in whatever world. -/
theorem OrdX_takeU (i : Nat) {d : Option Nat} {op : Op} {ty : TypeId} {p : String} {af : Array Edge} {v : Value} (hi : ops[i]? = some ⟨d, op, ty, p, af, none⟩)
    (hp : pl.contains i = false) (hs : Region.noSelect ops = true) (hf : Region.free .any ops listed i = true) (hr : (Region.ready .any ops listed).contains i = true)
    (hQ : ∀ c σ w, ¬ Q (.panic c) σ w) (hv : ∀ w', run1 P op ty σ w' = .ok (.value v) w')
    (h : OrdX P n ops Q pl S fuel (listed.setIfInBounds i true) (put n σ d v) w) : OrdX P n ops Q pl S (fuel + 1) listed σ w := by
  intro a hfr
  refine wpAnyX_firstU hp hi (Region.noSelect_spec hs) ?_ fuel listed a w (Region.free_spec hi hf) (by simpa using hr) (v := v) ?_ (h _ (hfr.put d v))
  · rintro c a w ⟨σ', _, hq⟩
    exact absurd hq (hQ _ _ _)
  · refine .inl ⟨wanted_none rfl, fun w' _ => ?_⟩
    rw [hfr.eval]
    exact hv w'
theorem OrdX_readsU (is : List Nat) (f : Nat) {m : Nat} {τ : Sl} (hf : m = f + is.length) (hp : (is.all fun i => !pl.contains i) = true) (hs : Region.noSelect ops = true) (hB : rdB n ops listed is = true)
    (hQ : ∀ c σ w, ¬ Q (.panic c) σ w) (hv : ∀ w', V P n w' (opsL ops is) σ (fun σ' => σ' = τ))
    (h : OrdX P n ops Q pl S f (markL listed is) τ w) : OrdX P n ops Q pl S m listed σ w := by
  subst hf
  induction is generalizing listed σ with
  | nil => have e : σ = τ := hv w; rw [e]; exact h
  | cons i r ih =>
    rw [List.all_cons, Bool.and_eq_true] at hp
    rw [rdB, Bool.and_eq_true, Bool.and_eq_true, Bool.and_eq_true] at hB
    obtain ⟨⟨⟨h1, h2⟩, h3⟩, h4⟩ := hB
    cases ho : ops[i]? with
    | none => rw [ho] at h1; cases h1
    | some o =>
      obtain ⟨d', op, ty, p, af, g⟩ := o
      rw [ho] at h1
      cases d' with
      | none => cases h1
      | some d =>
      cases g with
      | some g => cases h1
      | none =>
      simp only [Bool.and_eq_true, decide_eq_true_eq] at h1
      obtain ⟨hd, hr⟩ := h1
      have key : ∀ w', run1 P op ty σ w' = .ok (.value (τ d)) w' ∧ V P n w' (opsL ops r) (put n σ (some d) (τ d)) (fun σ' => σ' = τ) := by
        intro w'
        have hv := hv w'
        rw [opsL_cons, ho, optL_some, V_op] at hv
        cases hr1 : run1 P op ty σ w' with
        | halt x w2 => rw [hr1] at hv; exact hv.elim
        | ok nx w2 =>
          rw [hr1] at hv
          cases nx with
          | value v =>
            obtain ⟨rfl, hv⟩ := hv
            have e := V_keep r _ hr hv
            rw [put_some, if_pos hd, upd_same] at e
            rw [e]
            exact ⟨rfl, hv⟩
          | _ => exact hv.elim
      exact OrdX_takeU i ho (by simpa using hp.1) hs h2 h3 hQ (fun w' => (key w').1) (ih hp.2 h4 (fun w' => (key w').2) h)
end
end Go.Proofs.YtcnlopjjejdahaaDoor
