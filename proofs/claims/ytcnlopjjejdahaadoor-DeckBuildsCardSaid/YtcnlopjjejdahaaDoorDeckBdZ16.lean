/- Texts laid one behind the other: RfI, DwJ, Laid. Each says at its head what it proves. -/
import Derived.Test.YtcnlopjjejdahaaDoorDeckBdZ15
import Derived.ChangeMaps5
import Derived.LaidMore
import Derived.OpenShut
import Derived.Stop.Joined
import Derived.Lib.LaidTab
import Derived.MakeChecks
set_option linter.unusedSimpArgs false
/- Walks: the reference's Build (chapter 41). -/
namespace Go.Proofs.YtcnlopjjejdahaaDoor
open Go.RowKit
set_option maxRecDepth 100000
theorem swp_alt {l : List Int} {i j : Nat} (x : Int) (hx : x = l.getD j 0) : (l.set j (l.getD i 0)).set i x = swp l i j := by
  subst hx
  unfold swp
  by_cases h : i = j
  · subst h
    rfl
  · rw [List.set_comm _ _ h]
theorem RsIn.kept {X : List Nat} {w w' : World} {g : Nat} {st : Int} (h : RsIn w g st) (k : Kept X w w') (hg : g ∉ X) : RsIn w' g st := by
  obtain ⟨hb, u, hR⟩ := h
  exact ⟨hb, u, hR.kept k hg⟩
set_option maxHeartbeats 4000000 in
theorem rbuild_any (p : Pl) (A : Option Addr) (c : Nat) (seed : Int) (w : World) (hs : p.name.size ≤ 9223372036854775807) (hl : p.levels.length ≤ 20) (hL : Arr w A 3 (p.levels.map encLvl)) (h0 : 0 ≤ seed) (h1 : seed ≤ 18446744073709551615) :
    Calls Tryd.prog 24 #[planV p A c, .int .u64 seed] w fun e w' => Below w.heap.size w w' ∧
      if (buildE p seed).2 = 0 then ∃ gd, w.heap.size ≤ gd ∧ e = .returned (.tuple #[.slice (some ⟨gd, 0, none⟩) (buildE p seed).1.length (buildE p seed).1.length, .int .i64 0]) ∧ Row w' gd 46 ((buildE p seed).1.flatMap encIns)
      else e = .returned (.tuple #[.slice none 0 0, .int .i64 (buildE p seed).2]) := by
  unfold planV
  refine calls_W (l := [_, _]) Tryd.func24 rfl _ Tryd.ntmps24 (by simp) ?_
  have rp := Row.new w 24 [Value.string p.name, .int .i64 p.price, .int .i64 p.packs, .int .i64 p.size, .slice A p.levels.length c]
  have hB := below_alloc w (.cells #[Value.string p.name, .int .i64 p.price, .int .i64 p.packs, .int .i64 p.size, .slice A p.levels.length c] 24)
  replace rp : Row (w.alloc (.cells #[Value.string p.name, .int .i64 p.price, .int .i64 p.packs, .int .i64 p.size, .slice A p.levels.length c] 24)) _ _ _ := rp
  have hsz : (w.alloc (.cells #[Value.string p.name, .int .i64 p.price, .int .i64 p.packs, .int .i64 p.size, .slice A p.levels.length c] 24)).heap.size = w.heap.size + 1 := World.size_alloc _ _
  simp +contextual (maxSteps := 2000000) (disch := (first | omega | (simp only [SZ]; done) | (simp only [SZ]; omega) | (simp only [TS] at *; omega))) only [RZ, gval, gslot, fillL, ovw, numb, catL, ldN, agL, okC, oneC, init, Nat.reduceAdd, Nat.reduceMul, Nat.reduceSub, Nat.reduceEqDiff, Nat.reduceLT, ↓reduceIte, Int.reduceToNat, Int.reduceAdd, Int.reduceSub, Int.reduceMul, Int.reduceLT, Int.reduceLE, Int.reduceEq, Nat.reduceLeDiff]
  generalize w.alloc (.cells #[Value.string p.name, .int .i64 p.price, .int .i64 p.packs, .int .i64 p.size, .slice A p.levels.length c] 24) = w1 at *
  have hL1 := hL.below hB
  refine (rcheck_any p.name p.price p.packs p.size A c p.levels w1 hs hL1).mono ?_
  rintro e w2 ⟨rfl, hB2⟩
  refine ⟨_, rfl, ?_⟩
  have rp2 := rp.below hB2
  have hL2 := hL1.below hB2
  have hfin : Below w.heap.size w w2 := hB.trans (hB2.mono (by omega))
  have hz2 := hB2.size
  rw [show chk p.name p.price p.packs p.size p.levels = p.chk from rfl]
  simp +contextual (maxSteps := 2000000) (disch := (first | omega | (simp only [SZ]; done) | (simp only [SZ]; omega) | (simp only [TS] at *; omega))) only [RZ, gval, gslot, fillL, ovw, numb, catL, ldN, agL, okC, oneC, init, Nat.reduceAdd, Nat.reduceMul, Nat.reduceSub, Nat.reduceEqDiff, Nat.reduceLT, ↓reduceIte, Int.reduceToNat, Int.reduceAdd, Int.reduceSub, Int.reduceMul, Int.reduceLT, Int.reduceLE, Int.reduceEq, Nat.reduceLeDiff]
  (refine W_if rfl (fun hc => ?_) (fun hc => ?_) <;> (try simp only [TS] at hc))
  · have hb : buildE p seed = ([], p.chk) := if_neg hc
    rw [hb]
    simp +contextual (maxSteps := 2000000) (disch := (first | omega | (simp only [SZ]; done) | (simp only [SZ]; omega) | (simp only [TS] at *; omega))) only [RZ, gval, gslot, fillL, ovw, numb, catL, ldN, agL, okC, oneC, init, Nat.reduceAdd, Nat.reduceMul, Nat.reduceSub, Nat.reduceEqDiff, Nat.reduceLT, ↓reduceIte, Int.reduceToNat, Int.reduceAdd, Int.reduceSub, Int.reduceMul, Int.reduceLT, Int.reduceLE, Int.reduceEq, Nat.reduceLeDiff]
    refine ⟨hfin, ?_⟩
    rw [if_neg hc]
    trivial
  have hck : p.chk = 0 := by omega
  clear hc
  have hb : buildE p seed = (insL p.size.toNat seed (deckZ p.packs p.size p.levels seed).1, (deckZ p.packs p.size p.levels seed).2) := if_pos hck
  rw [hb]
  obtain ⟨q1, q2, q3, q4, q5, q6⟩ := chk_ok hck
  have hv := chkL_ok q3 q4 _ _ _ _ (Int.le_refl _) q6
  obtain ⟨S, hSi⟩ : ∃ S : Nat, p.size = S := ⟨p.size.toNat, by omega⟩
  obtain ⟨P, hPi⟩ : ∃ P : Nat, p.packs = P := ⟨p.packs.toNat, by omega⟩
  have hPb : P * S ≤ 32 * 256 := Nat.mul_le_mul (by omega) (by omega)
  have hPS : (P : Int) * S = ((P * S : Nat) : Int) := (Int.natCast_mul P S).symm
  have hfree := fun h => gua_free (p := P) (s := S) (L := p.levels) (by omega) (by omega) (by rw [← hPi, ← hSi]; exact q6) seed h
  have hdo := deckZ_ok (p := P) (s := S) (L := p.levels) (by omega) (by omega) (by rw [← hPi, ← hSi]; exact q6) seed
  have hdz : deckZ P S p.levels seed = if (guaE S (sureL p.levels) P 0 (List.replicate (P * S) 0) seed).2.1 = 0 then
      (let c := scaE (restL P p.levels) (freeL (guaE S (sureL p.levels) P 0 (List.replicate (P * S) 0) seed).1) 0 (guaE S (sureL p.levels) P 0 (List.replicate (P * S) 0) seed).1 (guaE S (sureL p.levels) P 0 (List.replicate (P * S) 0) seed).2.2
      if c.2.1 = 0 then (c.1, 0) else ([], c.2.1)) else ([], (guaE S (sureL p.levels) P 0 (List.replicate (P * S) 0) seed).2.1) := by
    unfold deckZ
    rw [show ((P : Int) * S).toNat = P * S by rw [hPS, Int.toNat_natCast], Int.toNat_natCast, Int.toNat_natCast]
  rw [hPi, hSi, Int.toNat_natCast]
  generalize hD : deckZ P S p.levels seed = D at *
  generalize hG : guaE S (sureL p.levels) P 0 (List.replicate (P * S) 0) seed = G at *
  have hI : sliceI Tryd.prog 37 = some (46, 4, 40) := by kernel_rfl
  have hz : zeroV Tryd.prog 46 = some (.agg #[.int .i64 0, .int .i64 0, .int .i64 0, .string ⟨#[]⟩]) := by kernel_rfl
  simp +contextual (maxSteps := 2000000) (disch := (first | omega | (simp only [SZ]; done) | (simp only [SZ]; omega) | (simp only [TS] at *; omega))) only [RZ, gval, gslot, fillL, ovw, numb, catL, ldN, agL, okC, oneC, init, Nat.reduceAdd, Nat.reduceMul, Nat.reduceSub, Nat.reduceEqDiff, Nat.reduceLT, ↓reduceIte, Int.reduceToNat, Int.reduceAdd, Int.reduceSub, Int.reduceMul, Int.reduceLT, Int.reduceLE, Int.reduceEq, Nat.reduceLeDiff]
  refine (rsNew_any seed w2 h0 h1).mono ?_
  rintro e w3 ⟨rfl, hs3, hB3, hz3⟩
  refine ⟨_, rfl, ?_⟩
  have rp3 := rp2.below hB3
  have hL3 := hL2.below hB3
  have hmk := vMakeSlice_at (P := Tryd.prog) (T := 37) (w := w3) (n := ((P * S : Nat) : Int)) hI hz (by omega) (by omega) (by omega)
  rw [Int.toNat_natCast] at hmk
  have a0 := rp3.cell (i := 0) rfl
  have a1 := rp3.cell (i := 1) rfl
  have a2 := rp3.cell (i := 2) rfl
  have a3 := rp3.cell (i := 3) rfl
  have a4 := rp3.cell (i := 4) rfl
  have hPSi : p.packs * p.size = ((P * S : Nat) : Int) := by rw [hPi, hSi, hPS]
  simp +contextual (maxSteps := 2000000) (disch := (first | omega | (simp only [SZ]; done) | (simp only [SZ]; omega) | (simp only [TS] at *; omega))) only [RZ, gval, gslot, fillL, ovw, numb, catL, ldN, agL, okC, oneC, init, Nat.reduceAdd, Nat.reduceMul, Nat.reduceSub, Nat.reduceEqDiff, Nat.reduceLT, ↓reduceIte, Int.reduceToNat, Int.reduceAdd, Int.reduceSub, Int.reduceMul, Int.reduceLT, Int.reduceLE, Int.reduceEq, Nat.reduceLeDiff,  a0, a1, a2, a3, a4, hPSi, hmk]
  have hR := make_row w3 [.int .i64 0, .int .i64 0, .int .i64 0, .string ⟨#[]⟩] (P * S) 46 (by simp)
  have hB4 := below_alloc w3 (.cells (madeCells #[.int .i64 0, .int .i64 0, .int .i64 0, .string ⟨#[]⟩] (P * S * 4)) 46)
  have hz4 : (w3.alloc (.cells (madeCells #[.int .i64 0, .int .i64 0, .int .i64 0, .string ⟨#[]⟩] (P * S * 4)) 46)).heap.size = w3.heap.size + 1 := World.size_alloc _ _
  rw [insZ_rep] at hR
  replace hR : Row (w3.alloc (.cells (madeCells #[.int .i64 0, .int .i64 0, .int .i64 0, .string ⟨#[]⟩] (P * S * 4)) 46)) w3.heap.size 46 _ := hR
  generalize w3.alloc (.cells (madeCells #[.int .i64 0, .int .i64 0, .int .i64 0, .string ⟨#[]⟩] (P * S * 4)) 46) = w4 at *
  have rp4 := rp3.below hB4
  have hL4 := hL3.below hB4
  have hs4 := hs3.below hB4
  refine (rguaranteed_any p A c w4 hL4 hl (fun v h => by have := (hv v h).2.2.1; omega)).mono ?_
  rintro e w5 ⟨B, d, rfl, hown5, hB5⟩
  refine ⟨_, rfl, ?_⟩
  have rp5 := rp4.below hB5
  have hL5 := hL4.below hB5
  have hs5 := hs4.below hB5
  have hR5 := hR.below hB5
  have hf5 : Below w.heap.size w w5 := ((hfin.trans (hB3.mono (by omega))).trans (hB4.mono (by omega))).trans (hB5.mono (by omega))
  have hz5 := hB5.size
  clear a0 a1 a2 a3 a4
  try simp +contextual (maxSteps := 2000000) (disch := (first | omega | (simp only [SZ]; done) | (simp only [SZ]; omega) | (simp only [TS] at *; omega))) only [RZ, gval, gslot, fillL, ovw, numb, catL, ldN, agL, okC, oneC, init, Nat.reduceAdd, Nat.reduceMul, Nat.reduceSub, Nat.reduceEqDiff, Nat.reduceLT, ↓reduceIte, Int.reduceToNat, Int.reduceAdd, Int.reduceSub, Int.reduceMul, Int.reduceLT, Int.reduceLE, Int.reduceEq, Nat.reduceLeDiff]
  generalize hgs : w2.heap.size = gs at *
  generalize hgd : w3.heap.size = g3 at *
  obtain rfl : g3 = gs + 1 := by omega
  refine Raw_mono (Q := fun e σ w' => e = .exit 0 ∧ Row w' (gs + 1) 46 (deckV S seed (List.replicate (P * S) 0)) ∧ Kept [gs + 1] w5 w' ∧ σ 1 = .int .u64 seed ∧ σ 2 = .pointer (some ⟨w.heap.size, 0, none⟩) ∧ σ 7 = .pointer (some ⟨gs, 0, none⟩) ∧ σ 8 = .slice (some ⟨gs + 1, 0, none⟩) (P * S) (P * S) ∧ σ 9 = .slice B (sureL p.levels).length d) ?_ ?_
  rotate_left
  · refine Raw_loop (fun σ w' => ∃ (k : Nat) (L : List Ins), k ≤ P * S ∧ L.length = P * S ∧ (∀ j, j < k → L[j]? = some (insAt S seed j 0)) ∧ Row w' (gs + 1) 46 (L.flatMap encIns) ∧ Kept [gs + 1] w5 w' ∧
      σ 1 = .int .u64 seed ∧ σ 2 = .pointer (some ⟨w.heap.size, 0, none⟩) ∧ σ 7 = .pointer (some ⟨gs, 0, none⟩) ∧ σ 8 = .slice (some ⟨gs + 1, 0, none⟩) (P * S) (P * S) ∧ σ 9 = .slice B (sureL p.levels).length d ∧ σ 10 = .int .i64 k) (fun σ _ => P * S - (intOf (σ 10)).toNat) ?_ ?_
    · simp +contextual (maxSteps := 2000000) (disch := (first | omega | (simp only [SZ]; done) | (simp only [SZ]; omega) | (simp only [TS] at *; omega))) only [RZ, gval, gslot, fillL, ovw, numb, catL, ldN, agL, okC, oneC, init, Nat.reduceAdd, Nat.reduceMul, Nat.reduceSub, Nat.reduceEqDiff, Nat.reduceLT, ↓reduceIte, Int.reduceToNat, Int.reduceAdd, Int.reduceSub, Int.reduceMul, Int.reduceLT, Int.reduceLE, Int.reduceEq, Nat.reduceLeDiff]
      exact ⟨0, _, Nat.zero_le _, List.length_replicate .., fun j hj => absurd hj (Nat.not_lt_zero _), hR5, Kept.refl _ _, rfl⟩
    rintro σ w6 ⟨k, L, hk, hLl, hLk, hR6, hk6, f1, f2, f7, f8, f9, f10⟩ K hK
    simp +contextual (maxSteps := 2000000) (disch := (first | omega | (simp only [SZ]; done) | (simp only [SZ]; omega) | (simp only [TS] at *; omega))) only [RZ, gval, gslot, fillL, ovw, numb, catL, ldN, agL, okC, oneC, init, Nat.reduceAdd, Nat.reduceMul, Nat.reduceSub, Nat.reduceEqDiff, Nat.reduceLT, ↓reduceIte, Int.reduceToNat, Int.reduceAdd, Int.reduceSub, Int.reduceMul, Int.reduceLT, Int.reduceLE, Int.reduceEq, Nat.reduceLeDiff,  f1, f2, f7, f8, f9, f10]
    (refine W_if rfl (fun hc => ?_) (fun hc => ?_) <;> (try simp only [TS] at hc))
    · have hsk : 0 ≤ (seed + k) % 18446744073709551616 ∧ (seed + k) % 18446744073709551616 ≤ 18446744073709551615 := mod_bd _
      have hmx := mixI_bd _ hsk.1
      obtain ⟨mx, hmxe⟩ := Int.eq_ofNat_of_zero_le hmx.1
      obtain ⟨x, hx⟩ : ∃ x, L[k]? = some x := ⟨_, List.getElem?_eq_getElem (by omega)⟩
      obtain ⟨kq, hkq⟩ : ∃ kq, k / S = kq := ⟨_, rfl⟩
      obtain ⟨kr, hkr⟩ : ∃ kr, k % S = kr := ⟨_, rfl⟩
      have hquo : ((k : Int) / p.size) = (kq : Int) := by rw [hSi, ← hkq, Int.natCast_ediv]
      have hrem : ((k : Int) % p.size) = (kr : Int) := by rw [hSi, ← hkr, Int.natCast_emod]
      have hqb : kq ≤ k := hkq ▸ Nat.div_le_self _ _
      have hrb : kr ≤ k := hkr ▸ Nat.mod_le _ _
      have rp6 := rp5.kept hk6 (by simp; omega)
      have e3 := rp6.cell (i := 3) rfl
      have hgdl := hR6.lt
      have hcd : codeB seed k = toBA (hexT 16 mx) := by
        unfold codeB
        rw [hmxe, Int.toNat_natCast]
      have hia : insAt S seed k 0 = ⟨(kq : Int) + 1, (kr : Int) + 1, 0, toBA (hexT 16 mx)⟩ := by
        unfold insAt
        rw [hcd, hkq, hkr]
      simp +contextual (maxSteps := 2000000) (disch := (first | omega | (simp only [SZ]; done) | (simp only [SZ]; omega) | (simp only [TS] at *; omega))) only [RZ, gval, gslot, fillL, ovw, numb, catL, ldN, agL, okC, oneC, init, Nat.reduceAdd, Nat.reduceMul, Nat.reduceSub, Nat.reduceEqDiff, Nat.reduceLT, ↓reduceIte, Int.reduceToNat, Int.reduceAdd, Int.reduceSub, Int.reduceMul, Int.reduceLT, Int.reduceLE, Int.reduceEq, Nat.reduceLeDiff,  f1, f2, f7, f8, f9, f10]
      have e3d : w6.drew.cell? _ = _ := e3
      refine Raw_rcS (τ := ?ta) (fun w' => w'.cell? ⟨w.heap.size, 3, none⟩ = some (.int .i64 p.size)) [0, 1, 2, 3, 4, 5, 6, 7, 8, 9, 10, 11, 12, 13, 14, 15] [16, 17, 18, 19, 20] MX rfl (by kernel_rfl) (by kernel_rfl) (by kernel_rfl) (fun c σ w (h : Exit.panic c = .exit 0 ∧ _) => Exit.noConfusion h.1) e3d (fun w8 h8 => ?_) ?_; rotate_left
      · simp only [opsL_cons, opsL_nil, List.getElem?_toArray, List.getElem?_cons_zero, List.getElem?_cons_succ, optL_some]
        simp +contextual (maxSteps := 2000000) (disch := (first | omega | (simp only [SZ]; done) | (simp only [SZ]; omega) | (simp only [TS] at *; omega))) only [RZ, gval, gslot, fillL, ovw, numb, catL, ldN, agL, okC, oneC, init, Nat.reduceAdd, Nat.reduceMul, Nat.reduceSub, Nat.reduceEqDiff, Nat.reduceLT, ↓reduceIte, Int.reduceToNat, Int.reduceAdd, Int.reduceSub, Int.reduceMul, Int.reduceLT, Int.reduceLE, Int.reduceEq, Nat.reduceLeDiff,  f1, f2, f7, f8, f9, f10, h8, hquo, hrem, vBin_addW, Int.reducePow]
        exact rfl
      simp only [opsL_cons, opsL_nil, List.getElem?_toArray, List.getElem?_cons_zero, List.getElem?_cons_succ, optL_some]
      simp +contextual (maxSteps := 2000000) (disch := (first | omega | (simp only [SZ]; done) | (simp only [SZ]; omega) | (simp only [TS] at *; omega))) only [RZ, gval, gslot, fillL, ovw, numb, catL, ldN, agL, okC, oneC, init, Nat.reduceAdd, Nat.reduceMul, Nat.reduceSub, Nat.reduceEqDiff, Nat.reduceLT, ↓reduceIte, Int.reduceToNat, Int.reduceAdd, Int.reduceSub, Int.reduceMul, Int.reduceLT, Int.reduceLE, Int.reduceEq, Nat.reduceLeDiff,  EC_op, EC_nil]
      refine (rmix_any _ _ hsk.1 hsk.2).mono ?_
      rintro e w7 ⟨rfl, rfl⟩
      refine ⟨_, rfl, ?_⟩
      refine ⟨e3d, ?_⟩
      have hk7 : Kept [gs + 1] w5 w6.drew := hk6.drew
      have hR7 : Row w6.drew (gs + 1) 46 _ := hR6.drew
      generalize w6.drew = w7 at *
      rw [hmxe]
      try simp +contextual (maxSteps := 2000000) (disch := (first | omega | (simp only [SZ]; done) | (simp only [SZ]; omega) | (simp only [TS] at *; omega))) only [RZ, gval, gslot, fillL, ovw, numb, catL, ldN, agL, okC, oneC, init, Nat.reduceAdd, Nat.reduceMul, Nat.reduceSub, Nat.reduceEqDiff, Nat.reduceLT, ↓reduceIte, Int.reduceToNat, Int.reduceAdd, Int.reduceSub, Int.reduceMul, Int.reduceLT, Int.reduceLE, Int.reduceEq, Nat.reduceLeDiff,  EC_op, EC_nil]
      refine (rhex_any mx w7 (by omega)).mono ?_
      rintro e w8 ⟨rfl, hB8⟩
      refine ⟨_, rfl, ?_⟩
      have hk8 := hk7.trans (Kept.of_below hB8)
      have hR8 := hR7.below hB8
      have e38 := ((bcell hB8).1 w.heap.size 3 (by have := hk7.size; omega)).trans e3d
      refine ⟨e38, ?_⟩
      have l0 := hR8.cell (flat_cell (sz := 4) (enc := encIns) (j := 0) (fun _ => rfl) rfl _ _ hx)
      replace l0 : w8.cell? ⟨gs + 1, k * 4, none⟩ = _ := l0
      have l1 := hR8.cell (flat_cell (sz := 4) (enc := encIns) (j := 1) (fun _ => rfl) rfl _ _ hx)
      have l2 := hR8.cell (flat_cell (sz := 4) (enc := encIns) (j := 2) (fun _ => rfl) rfl _ _ hx)
      have l3 := hR8.cell (flat_cell (sz := 4) (enc := encIns) (j := 3) (fun _ => rfl) rfl _ _ hx)
      have y0 := hR8.frozen (k * 4)
      have y1 := hR8.frozen (k * 4 + 1)
      have y2 := hR8.frozen (k * 4 + 2)
      have y3 := hR8.frozen (k * 4 + 3)
      have hri := row_ins hR8 hx (insAt S seed k 0)
      have hgw : gs + 1 ≠ w.heap.size := by omega
      rw [hia] at hri
      simp +contextual (maxSteps := 2000000) (disch := (first | omega | (simp only [SZ]; done) | (simp only [SZ]; omega) | (simp only [TS] at *; omega))) only [RZ, gval, gslot, fillL, ovw, numb, catL, ldN, agL, okC, oneC, init, Nat.reduceAdd, Nat.reduceMul, Nat.reduceSub, Nat.reduceEqDiff, Nat.reduceLT, ↓reduceIte, Int.reduceToNat, Int.reduceAdd, Int.reduceSub, Int.reduceMul, Int.reduceLT, Int.reduceLE, Int.reduceEq, Nat.reduceLeDiff,  EC_op, EC_nil, e38, f1, f2, f7, f8, f9, f10, l0, l1, l2, l3, y0, y1, y2, y3]
      refine hK _ _ ⟨k + 1, L.set k (insAt S seed k 0), by omega, by rw [List.length_set]; exact hLl, fun j hj => ?_, by rw [hia]; exact hri, ?_, ?_⟩ ?_
      · rw [List.getElem?_set]
        by_cases e : k = j
        · subst e
          rw [if_pos rfl, if_pos (by omega)]
        · rw [if_neg e]
          exact hLk j (by omega)
      · exact (((hk8.setCell (p := ⟨gs + 1, _, none⟩) (by simp) _).setCell (p := ⟨gs + 1, _, none⟩) (by simp) _).setCell (p := ⟨gs + 1, _, none⟩) (by simp) _).setCell (p := ⟨gs + 1, _, none⟩) (by simp) _
      · simp +contextual (maxSteps := 2000000) (disch := (first | omega | (simp only [SZ]; done) | (simp only [SZ]; omega) | (simp only [TS] at *; omega))) only [RZ, gval, gslot, fillL, ovw, numb, catL, ldN, agL, okC, oneC, init, Nat.reduceAdd, Nat.reduceMul, Nat.reduceSub, Nat.reduceEqDiff, Nat.reduceLT, ↓reduceIte, Int.reduceToNat, Int.reduceAdd, Int.reduceSub, Int.reduceMul, Int.reduceLT, Int.reduceLE, Int.reduceEq, Nat.reduceLeDiff,  f1, f2, f7, f8, f9, f10]
      · simp +contextual (maxSteps := 2000000) (disch := (first | omega | (simp only [SZ]; done) | (simp only [SZ]; omega) | (simp only [TS] at *; omega))) only [RZ, gval, gslot, fillL, ovw, numb, catL, ldN, agL, okC, oneC, init, Nat.reduceAdd, Nat.reduceMul, Nat.reduceSub, Nat.reduceEqDiff, Nat.reduceLT, ↓reduceIte, Int.reduceToNat, Int.reduceAdd, Int.reduceSub, Int.reduceMul, Int.reduceLT, Int.reduceLE, Int.reduceEq, Nat.reduceLeDiff,  intOf, f10]
        omega
    · obtain rfl : k = P * S := by omega
      have hLL : L = insL S seed (List.replicate (P * S) 0) := by
        apply List.ext_getElem?
        intro j
        by_cases hj : j < P * S
        · rw [hLk j hj, insL_get (z := 0) (by rw [List.getElem?_replicate, if_pos hj])]
        · rw [List.getElem?_eq_none (by omega), List.getElem?_eq_none (by rw [insL_len, List.length_replicate]; omega)]
      subst hLL
      simp +contextual (maxSteps := 2000000) (disch := (first | omega | (simp only [SZ]; done) | (simp only [SZ]; omega) | (simp only [TS] at *; omega))) only [RZ, gval, gslot, fillL, ovw, numb, catL, ldN, agL, okC, oneC, init, Nat.reduceAdd, Nat.reduceMul, Nat.reduceSub, Nat.reduceEqDiff, Nat.reduceLT, ↓reduceIte, Int.reduceToNat, Int.reduceAdd, Int.reduceSub, Int.reduceMul, Int.reduceLT, Int.reduceLE, Int.reduceEq, Nat.reduceLeDiff,  f1, f2, f7, f8, f9, f10]
      exact ⟨hR6, hk6⟩
  rintro _ σ w6 ⟨rfl, hR6, hk6, f1, f2, f7, f8, f9⟩
  try simp +contextual (maxSteps := 2000000) (disch := (first | omega | (simp only [SZ]; done) | (simp only [SZ]; omega) | (simp only [TS] at *; omega))) only [RZ, gval, gslot, fillL, ovw, numb, catL, ldN, agL, okC, oneC, init, Nat.reduceAdd, Nat.reduceMul, Nat.reduceSub, Nat.reduceEqDiff, Nat.reduceLT, ↓reduceIte, Int.reduceToNat, Int.reduceAdd, Int.reduceSub, Int.reduceMul, Int.reduceLT, Int.reduceLE, Int.reduceEq, Nat.reduceLeDiff,  f1, f2, f7, f8, f9]
  have hsm := chkL_sum _ _ _ _ q6
  have hsl := sure_len p.levels fun v h => (hv v h).2.2.1.1
  have hbel : ∀ w', Kept [gs, gs + 1] w5 w' → Below w.heap.size w w' := fun w' hk => hf5.trans ⟨hk.os, hk.tape, hk.output, hk.size, fun k hk2 => hk.block k (by omega) (by simp; omega)⟩
  have hgq := fun (h : 0 < (sureL p.levels).length) => owns_row hown5 h
  refine Raw_loop (fun σ w' => ∃ (k : Nat) (Zk : List Int) (stk : Int), k ≤ P ∧ guaE S (sureL p.levels) (P - k) k Zk stk = G ∧ Zk.length = P * S ∧ RsIn w' gs stk ∧ Row w' (gs + 1) 46 (deckV S seed Zk) ∧ Kept [gs, gs + 1] w5 w' ∧
    σ 2 = .pointer (some ⟨w.heap.size, 0, none⟩) ∧ σ 7 = .pointer (some ⟨gs, 0, none⟩) ∧ σ 8 = .slice (some ⟨gs + 1, 0, none⟩) (P * S) (P * S) ∧ σ 9 = .slice B (sureL p.levels).length d ∧ σ 11 = .int .i64 k) (fun σ _ => P - (intOf (σ 11)).toNat) ?_ ?_
  · simp +contextual (maxSteps := 2000000) (disch := (first | omega | (simp only [SZ]; done) | (simp only [SZ]; omega) | (simp only [TS] at *; omega))) only [RZ, gval, gslot, fillL, ovw, numb, catL, ldN, agL, okC, oneC, init, Nat.reduceAdd, Nat.reduceMul, Nat.reduceSub, Nat.reduceEqDiff, Nat.reduceLT, ↓reduceIte, Int.reduceToNat, Int.reduceAdd, Int.reduceSub, Int.reduceMul, Int.reduceLT, Int.reduceLE, Int.reduceEq, Nat.reduceLeDiff,  f2, f7, f8, f9]
    exact ⟨0, _, seed, Nat.zero_le _, hG, List.length_replicate .., hs5.kept hk6 (by simp), hR6, hk6.less fun x hx _ => by simp at hx ⊢; exact .inr hx, rfl⟩
  clear f1 f2 f7 f8 f9 hR6 hk6 hR5
  rintro σ w6 ⟨k, Zk, stk, hkP, hGk, hZk, hs6, hR6, hk6, f2, f7, f8, f9, f11⟩ K hK
  have rp6 := rp5.kept hk6 (by simp; omega)
  have a2 := rp6.cell (i := 2) rfl
  have a3 := rp6.cell (i := 3) rfl
  have hz6 := hk6.size
  have hgsl := hs6.lt
  have hgdl := hR6.lt
  simp +contextual (maxSteps := 2000000) (disch := (first | omega | (simp only [SZ]; done) | (simp only [SZ]; omega) | (simp only [TS] at *; omega))) only [RZ, gval, gslot, fillL, ovw, numb, catL, ldN, agL, okC, oneC, init, Nat.reduceAdd, Nat.reduceMul, Nat.reduceSub, Nat.reduceEqDiff, Nat.reduceLT, ↓reduceIte, Int.reduceToNat, Int.reduceAdd, Int.reduceSub, Int.reduceMul, Int.reduceLT, Int.reduceLE, Int.reduceEq, Nat.reduceLeDiff,  f2, f7, f8, f9, f11, a2, a3]
  (refine W_if rfl (fun hc => ?_) (fun hc => ?_) <;> (try simp only [TS] at hc))
  · rw [hPi] at hc
    simp +contextual (maxSteps := 2000000) (disch := (first | omega | (simp only [SZ]; done) | (simp only [SZ]; omega) | (simp only [TS] at *; omega))) only [RZ, gval, gslot, fillL, ovw, numb, catL, ldN, agL, okC, oneC, init, Nat.reduceAdd, Nat.reduceMul, Nat.reduceSub, Nat.reduceEqDiff, Nat.reduceLT, ↓reduceIte, Int.reduceToNat, Int.reduceAdd, Int.reduceSub, Int.reduceMul, Int.reduceLT, Int.reduceLE, Int.reduceEq, Nat.reduceLeDiff,  f2, f7, f8, f9, f11, a2, a3]
    rw [hSi]
    refine (rshuffle_any gs S stk w6 hs6 (by omega) (by omega)).mono ?_
    rintro e w7 ⟨gl, cc, hgl, hs7, ho7, hcc, he⟩
    rw [show P - k = (P - (k + 1)) + 1 by omega, guaE] at hGk
    have hsk := shuS_keeps (n := S) (st := stk) (by omega)
    generalize shuS S stk = o at *
    have hk7 : Kept [gs, gs + 1] w5 w7 := hk6.trans (Kept.of_only ho7 (by simp))
    have hR7 := hR6.only ho7 (by omega)
    have hz7 := hk7.size
    by_cases hoz : o.2.1 = 0
    · rw [if_pos hoz] at he
      obtain ⟨rfl, hRo⟩ := he
      refine ⟨_, rfl, ?_⟩
      rw [if_pos hoz] at hGk
      obtain ⟨o1, o2, o3⟩ := hsk hoz
      have hmul : (k + 1) * S ≤ P * S := Nat.mul_le_mul_right S (by omega)
      rw [Nat.succ_mul] at hmul
      have hkb : k * S ≤ 32 * 256 := Nat.mul_le_mul (by omega) (by omega)
      have hkS : (k : Int) * p.size = ((k * S : Nat) : Int) := by rw [hSi]; exact (Int.natCast_mul k S).symm
      have e0 : (o.2.1 = 0) = True := eq_true hoz
      simp +contextual (maxSteps := 2000000) (disch := (first | omega | (simp only [SZ]; done) | (simp only [SZ]; omega) | (simp only [TS] at *; omega))) only [RZ, gval, gslot, fillL, ovw, numb, catL, ldN, agL, okC, oneC, init, Nat.reduceAdd, Nat.reduceMul, Nat.reduceSub, Nat.reduceEqDiff, Nat.reduceLT, ↓reduceIte, Int.reduceToNat, Int.reduceAdd, Int.reduceSub, Int.reduceMul, Int.reduceLT, Int.reduceLE, Int.reduceEq, Nat.reduceLeDiff,  f2, f7, f8, f9, f11, e0]
      refine W_if_f rfl ?_
      simp +contextual (maxSteps := 2000000) (disch := (first | omega | (simp only [SZ]; done) | (simp only [SZ]; omega) | (simp only [TS] at *; omega))) only [RZ, gval, gslot, fillL, ovw, numb, catL, ldN, agL, okC, oneC, init, Nat.reduceAdd, Nat.reduceMul, Nat.reduceSub, Nat.reduceEqDiff, Nat.reduceLT, ↓reduceIte, Int.reduceToNat, Int.reduceAdd, Int.reduceSub, Int.reduceMul, Int.reduceLT, Int.reduceLE, Int.reduceEq, Nat.reduceLeDiff,  f2, f7, f8, f9, f11]
      refine Raw_mono (Q := fun e σ w' => e = .exit 4 ∧ Row w' (gs + 1) 46 (deckV S seed (putZ (k * S) o.1 0 (sureL p.levels) Zk)) ∧ Kept [gs + 1] w7 w' ∧ σ 2 = .pointer (some ⟨w.heap.size, 0, none⟩) ∧ σ 7 = .pointer (some ⟨gs, 0, none⟩) ∧ σ 8 = .slice (some ⟨gs + 1, 0, none⟩) (P * S) (P * S) ∧ σ 9 = .slice B (sureL p.levels).length d ∧ σ 11 = .int .i64 k) ?_ ?_
      · rintro _ σ8 w8 ⟨rfl, hR8, hk8, g2, g7, g8, g9, g11⟩
        try simp +contextual (maxSteps := 2000000) (disch := (first | omega | (simp only [SZ]; done) | (simp only [SZ]; omega) | (simp only [TS] at *; omega))) only [RZ, gval, gslot, fillL, ovw, numb, catL, ldN, agL, okC, oneC, init, Nat.reduceAdd, Nat.reduceMul, Nat.reduceSub, Nat.reduceEqDiff, Nat.reduceLT, ↓reduceIte, Int.reduceToNat, Int.reduceAdd, Int.reduceSub, Int.reduceMul, Int.reduceLT, Int.reduceLE, Int.reduceEq, Nat.reduceLeDiff,  g2, g7, g8, g9, g11]
        refine hK _ _ ⟨k + 1, _, o.2.2, by omega, hGk, by rw [putZ_len]; exact hZk, hs7.kept hk8 (by simp), hR8, hk7.trans (hk8.less fun x hx _ => by simp at hx ⊢; exact .inr hx), ?_⟩ ?_
        · simp +contextual (maxSteps := 2000000) (disch := (first | omega | (simp only [SZ]; done) | (simp only [SZ]; omega) | (simp only [TS] at *; omega))) only [RZ, gval, gslot, fillL, ovw, numb, catL, ldN, agL, okC, oneC, init, Nat.reduceAdd, Nat.reduceMul, Nat.reduceSub, Nat.reduceEqDiff, Nat.reduceLT, ↓reduceIte, Int.reduceToNat, Int.reduceAdd, Int.reduceSub, Int.reduceMul, Int.reduceLT, Int.reduceLE, Int.reduceEq, Nat.reduceLeDiff,  g2, g7, g8, g9, g11]
        · simp +contextual (maxSteps := 2000000) (disch := (first | omega | (simp only [SZ]; done) | (simp only [SZ]; omega) | (simp only [TS] at *; omega))) only [RZ, gval, gslot, fillL, ovw, numb, catL, ldN, agL, okC, oneC, init, Nat.reduceAdd, Nat.reduceMul, Nat.reduceSub, Nat.reduceEqDiff, Nat.reduceLT, ↓reduceIte, Int.reduceToNat, Int.reduceAdd, Int.reduceSub, Int.reduceMul, Int.reduceLT, Int.reduceLE, Int.reduceEq, Nat.reduceLeDiff,  intOf, g11, f11]
          omega
      refine Raw_loop (fun σ8 w8 => ∃ (i : Nat) (Zi : List Int), i ≤ (sureL p.levels).length ∧ putZ (k * S) o.1 i ((sureL p.levels).drop i) Zi = putZ (k * S) o.1 0 (sureL p.levels) Zk ∧ Zi.length = P * S ∧ Row w8 (gs + 1) 46 (deckV S seed Zi) ∧ Kept [gs + 1] w7 w8 ∧
        σ8 2 = .pointer (some ⟨w.heap.size, 0, none⟩) ∧ σ8 7 = .pointer (some ⟨gs, 0, none⟩) ∧ σ8 8 = .slice (some ⟨gs + 1, 0, none⟩) (P * S) (P * S) ∧ σ8 9 = .slice B (sureL p.levels).length d ∧ σ8 11 = .int .i64 k ∧ σ8 12 = .slice (some ⟨gl, 0, none⟩) S cc ∧ σ8 14 = .int .i64 i) (fun σ8 _ => (sureL p.levels).length - (intOf (σ8 14)).toNat) ?_ ?_
      · simp +contextual (maxSteps := 2000000) (disch := (first | omega | (simp only [SZ]; done) | (simp only [SZ]; omega) | (simp only [TS] at *; omega))) only [RZ, gval, gslot, fillL, ovw, numb, catL, ldN, agL, okC, oneC, init, Nat.reduceAdd, Nat.reduceMul, Nat.reduceSub, Nat.reduceEqDiff, Nat.reduceLT, ↓reduceIte, Int.reduceToNat, Int.reduceAdd, Int.reduceSub, Int.reduceMul, Int.reduceLT, Int.reduceLE, Int.reduceEq, Nat.reduceLeDiff,  f2, f7, f8, f9, f11]
        exact ⟨0, Zk, Nat.zero_le _, by rw [List.drop_zero], hZk, hR7, Kept.refl _ _, rfl⟩
      rintro σ8 w8 ⟨i, Zi, hi, hput, hZi, hR8, hk8, g2, g7, g8, g9, g11, g12, g14⟩ K8 hK8
      have hz8 := hk8.size
      simp +contextual (maxSteps := 2000000) (disch := (first | omega | (simp only [SZ]; done) | (simp only [SZ]; omega) | (simp only [TS] at *; omega))) only [RZ, gval, gslot, fillL, ovw, numb, catL, ldN, agL, okC, oneC, init, Nat.reduceAdd, Nat.reduceMul, Nat.reduceSub, Nat.reduceEqDiff, Nat.reduceLT, ↓reduceIte, Int.reduceToNat, Int.reduceAdd, Int.reduceSub, Int.reduceMul, Int.reduceLT, Int.reduceLE, Int.reduceEq, Nat.reduceLeDiff,  g2, g7, g8, g9, g11, g12, g14]
      (refine W_if rfl (fun hc => ?_) (fun hc => ?_) <;> (try simp only [TS] at hc))
      · obtain ⟨gq, rfl, hgq1, hgq2, hgq3, _⟩ := hgq (by omega)
        have hgql := hgq2.lt
        have hRq8 := (hgq2.kept hk7 (by simp; omega)).kept hk8 (by simp; omega)
        have hRo8 := hRo.kept hk8 (by simp; omega)
        have rp8 := ((rp5.kept hk7 (by simp; omega)).kept hk8 (by simp; omega)).cell (i := 3) rfl
        have cq := hRq8.cell (iV_get (l := sureL p.levels) (i := i) (by omega))
        have co := hRo8.cell (iV_get (l := o.1) (i := i) (by omega))
        have ho3 := o3 i (by omega)
        have hdr : (sureL p.levels).drop i = (sureL p.levels).getD i 0 :: (sureL p.levels).drop (i + 1) := by
          rw [List.drop_eq_getElem_cons (by omega), List.getD_eq_getElem?_getD, List.getElem?_eq_getElem (by omega)]
          rfl
        rw [hdr, putZ] at hput
        generalize (sureL p.levels).getD i 0 = z at *
        generalize hoi : o.1.getD i 0 = oi at *
        have hnn : (((k * S : Nat) : Int) + oi - 1).toNat = k * S + (oi - 1).toNat := by omega
        have hix : k * S + (oi - 1).toNat < Zi.length := by omega
        obtain ⟨u, hu⟩ : ∃ u, Zi[k * S + (oi - 1).toNat]? = some u := ⟨_, List.getElem?_eq_getElem hix⟩
        have cz := hR8.cell (deckV_cell (S := S) (seed := seed) hu).2.2.1
        have zz := hR8.frozen ((k * S + (oi - 1).toNat) * 4 + 2)
        have hR9 := hR8.set_ (i := (k * S + (oi - 1).toNat) * 4 + 2) (by rw [deckV_len]; omega) (.int .i64 z)
        rw [deckV_set hu] at hR9
        simp +contextual (maxSteps := 2000000) (disch := (first | omega | (simp only [SZ]; done) | (simp only [SZ]; omega) | (simp only [TS] at *; omega))) only [RZ, gval, gslot, fillL, ovw, numb, catL, ldN, agL, okC, oneC, init, Nat.reduceAdd, Nat.reduceMul, Nat.reduceSub, Nat.reduceEqDiff, Nat.reduceLT, ↓reduceIte, Int.reduceToNat, Int.reduceAdd, Int.reduceSub, Int.reduceMul, Int.reduceLT, Int.reduceLE, Int.reduceEq, Nat.reduceLeDiff,  g2, g7, g8, g9, g11, g12, g14]
        refine Raw_rcS (τ := ?tb) (fun w' => w'.cell? ⟨w.heap.size, 3, none⟩ = some (.int .i64 p.size) ∧ w'.cell? ⟨gl, i, none⟩ = some (.int .i64 oi) ∧ w'.cell? ⟨gq, i, none⟩ = some (.int .i64 z)) [0, 1, 2, 3, 4, 5, 6, 7, 8, 9, 10, 11, 12, 13, 14, 15, 16] [17] MX rfl (by kernel_rfl) (by kernel_rfl) (by kernel_rfl) (fun c σ w (h : Exit.panic c = .exit 4 ∧ _) => Exit.noConfusion h.1) ⟨rp8, co, cq⟩ (fun w9 h9 => ?_) ?_; rotate_left
        · obtain ⟨h91, h92, h93⟩ := h9
          simp only [opsL_cons, opsL_nil, List.getElem?_toArray, List.getElem?_cons_zero, List.getElem?_cons_succ, optL_some]
          simp +contextual (maxSteps := 2000000) (disch := (first | omega | (simp only [SZ]; done) | (simp only [SZ]; omega) | (simp only [TS] at *; omega))) only [RZ, gval, gslot, fillL, ovw, numb, catL, ldN, agL, okC, oneC, init, Nat.reduceAdd, Nat.reduceMul, Nat.reduceSub, Nat.reduceEqDiff, Nat.reduceLT, ↓reduceIte, Int.reduceToNat, Int.reduceAdd, Int.reduceSub, Int.reduceMul, Int.reduceLT, Int.reduceLE, Int.reduceEq, Nat.reduceLeDiff,  g2, g7, g8, g9, g11, g12, g14, h91, h92, h93, hkS, hnn]
          exact rfl
        simp only [opsL_cons, opsL_nil, List.getElem?_toArray, List.getElem?_cons_zero, List.getElem?_cons_succ, optL_some]
        have cz : w8.drew.cell? _ = _ := cz
        simp +contextual (maxSteps := 2000000) (disch := (first | omega | (simp only [SZ]; done) | (simp only [SZ]; omega) | (simp only [TS] at *; omega))) only [RZ, gval, gslot, fillL, ovw, numb, catL, ldN, agL, okC, oneC, init, Nat.reduceAdd, Nat.reduceMul, Nat.reduceSub, Nat.reduceEqDiff, Nat.reduceLT, ↓reduceIte, Int.reduceToNat, Int.reduceAdd, Int.reduceSub, Int.reduceMul, Int.reduceLT, Int.reduceLE, Int.reduceEq, Nat.reduceLeDiff,  g2, g7, g8, g9, g11, g12, g14, cz, zz, EC_op, EC_nil]
        have n1 : gs + 1 ≠ w.heap.size := by omega
        have n2 : gs + 1 ≠ gl := by omega
        have n3 : gs + 1 ≠ gq := by omega
        refine ⟨⟨?_, ?_, ?_⟩, ?_⟩
        · exact rp8
        · exact co
        · exact cq
        refine hK8 _ _ ⟨i + 1, _, by omega, hput, by rw [List.length_set]; exact hZi, hR9.drew, (hk8.setCell (p := ⟨gs + 1, _, none⟩) (by simp) _).drew, ?_⟩ ?_
        · simp +contextual (maxSteps := 2000000) (disch := (first | omega | (simp only [SZ]; done) | (simp only [SZ]; omega) | (simp only [TS] at *; omega))) only [RZ, gval, gslot, fillL, ovw, numb, catL, ldN, agL, okC, oneC, init, Nat.reduceAdd, Nat.reduceMul, Nat.reduceSub, Nat.reduceEqDiff, Nat.reduceLT, ↓reduceIte, Int.reduceToNat, Int.reduceAdd, Int.reduceSub, Int.reduceMul, Int.reduceLT, Int.reduceLE, Int.reduceEq, Nat.reduceLeDiff,  g2, g7, g8, g9, g11, g12, g14]
        · simp +contextual (maxSteps := 2000000) (disch := (first | omega | (simp only [SZ]; done) | (simp only [SZ]; omega) | (simp only [TS] at *; omega))) only [RZ, gval, gslot, fillL, ovw, numb, catL, ldN, agL, okC, oneC, init, Nat.reduceAdd, Nat.reduceMul, Nat.reduceSub, Nat.reduceEqDiff, Nat.reduceLT, ↓reduceIte, Int.reduceToNat, Int.reduceAdd, Int.reduceSub, Int.reduceMul, Int.reduceLT, Int.reduceLE, Int.reduceEq, Nat.reduceLeDiff,  intOf, g14]
          omega
      · have hd0 : (sureL p.levels).drop i = [] := List.drop_eq_nil_of_le (by omega)
        rw [hd0] at hput
        replace hput : Zi = _ := hput
        rw [hput] at hR8
        simp +contextual (maxSteps := 2000000) (disch := (first | omega | (simp only [SZ]; done) | (simp only [SZ]; omega) | (simp only [TS] at *; omega))) only [RZ, gval, gslot, fillL, ovw, numb, catL, ldN, agL, okC, oneC, init, Nat.reduceAdd, Nat.reduceMul, Nat.reduceSub, Nat.reduceEqDiff, Nat.reduceLT, ↓reduceIte, Int.reduceToNat, Int.reduceAdd, Int.reduceSub, Int.reduceMul, Int.reduceLT, Int.reduceLE, Int.reduceEq, Nat.reduceLeDiff,  g2, g7, g8, g9, g11, g12, g14]
        exact ⟨hR8, hk8⟩
    · rw [if_neg hoz] at he
      subst he
      refine ⟨_, rfl, ?_⟩
      rw [if_neg hoz] at hGk
      have e0 : (o.2.1 = 0) = False := eq_false hoz
      rw [← hGk] at hdz
      dsimp only at hdz
      rw [if_neg hoz] at hdz
      simp +contextual (maxSteps := 2000000) (disch := (first | omega | (simp only [SZ]; done) | (simp only [SZ]; omega) | (simp only [TS] at *; omega))) only [RZ, gval, gslot, fillL, ovw, numb, catL, ldN, agL, okC, oneC, init, Nat.reduceAdd, Nat.reduceMul, Nat.reduceSub, Nat.reduceEqDiff, Nat.reduceLT, ↓reduceIte, Int.reduceToNat, Int.reduceAdd, Int.reduceSub, Int.reduceMul, Int.reduceLT, Int.reduceLE, Int.reduceEq, Nat.reduceLeDiff,  f2, f7, f8, f9, f11, e0]
      refine W_if_t rfl ?_
      simp +contextual (maxSteps := 2000000) (disch := (first | omega | (simp only [SZ]; done) | (simp only [SZ]; omega) | (simp only [TS] at *; omega))) only [RZ, gval, gslot, fillL, ovw, numb, catL, ldN, agL, okC, oneC, init, Nat.reduceAdd, Nat.reduceMul, Nat.reduceSub, Nat.reduceEqDiff, Nat.reduceLT, ↓reduceIte, Int.reduceToNat, Int.reduceAdd, Int.reduceSub, Int.reduceMul, Int.reduceLT, Int.reduceLE, Int.reduceEq, Nat.reduceLeDiff]
      refine ⟨hbel _ hk7, ?_⟩
      rw [hdz]
      dsimp only
      rw [if_neg hoz]
  · rw [hPi] at hc
    have hk0 : P - k = 0 := by omega
    rw [hk0, guaE] at hGk
    simp +contextual (maxSteps := 2000000) (disch := (first | omega | (simp only [SZ]; done) | (simp only [SZ]; omega) | (simp only [TS] at *; omega))) only [RZ, gval, gslot, fillL, ovw, numb, catL, ldN, agL, okC, oneC, init, Nat.reduceAdd, Nat.reduceMul, Nat.reduceSub, Nat.reduceEqDiff, Nat.reduceLT, ↓reduceIte, Int.reduceToNat, Int.reduceAdd, Int.reduceSub, Int.reduceMul, Int.reduceLT, Int.reduceLE, Int.reduceEq, Nat.reduceLeDiff,  f2, f7, f8, f9, f11, a2, a3]
    subst hGk
    dsimp only at hdz hfree
    rw [if_pos rfl] at hdz
    obtain ⟨hfr, _⟩ := hfree rfl
    clear hfree hgq f11 a2 a3 hK hc hG
    have hIi : sliceI Tryd.prog 74 = some (3, 1, 8) := by kernel_rfl
    refine Raw_mono (Q := fun e σ w' => e = .exit 6 ∧ Below w6.heap.size w6 w' ∧ (∃ A1 c1, w'.ownsRow w6.heap.size 3 1 (.slice A1 (freeL Zk).length c1) (freeL Zk).length (iV (freeL Zk)) ∧ σ 15 = .slice A1 (freeL Zk).length c1) ∧ σ 2 = .pointer (some ⟨w.heap.size, 0, none⟩) ∧ σ 7 = .pointer (some ⟨gs, 0, none⟩) ∧ σ 8 = .slice (some ⟨gs + 1, 0, none⟩) (P * S) (P * S)) ?_ ?_
    rotate_left
    · refine Raw_loop (fun σ w' => ∃ (k : Nat) (A1 : Option Addr) (c1 : Nat), k ≤ P * S ∧ w'.ownsRow w6.heap.size 3 1 (.slice A1 (freeP Zk k).length c1) (freeP Zk k).length (iV (freeP Zk k)) ∧ Below w6.heap.size w6 w' ∧
        σ 2 = .pointer (some ⟨w.heap.size, 0, none⟩) ∧ σ 7 = .pointer (some ⟨gs, 0, none⟩) ∧ σ 8 = .slice (some ⟨gs + 1, 0, none⟩) (P * S) (P * S) ∧ σ 15 = .slice A1 (freeP Zk k).length c1 ∧ σ 16 = .int .i64 k) (fun σ _ => P * S - (intOf (σ 16)).toNat) ?_ ?_
      · simp +contextual (maxSteps := 2000000) (disch := (first | omega | (simp only [SZ]; done) | (simp only [SZ]; omega) | (simp only [TS] at *; omega))) only [RZ, gval, gslot, fillL, ovw, numb, catL, ldN, agL, okC, oneC, init, Nat.reduceAdd, Nat.reduceMul, Nat.reduceSub, Nat.reduceEqDiff, Nat.reduceLT, ↓reduceIte, Int.reduceToNat, Int.reduceAdd, Int.reduceSub, Int.reduceMul, Int.reduceLT, Int.reduceLE, Int.reduceEq, Nat.reduceLeDiff,  f2, f7, f8]
        exact ⟨0, none, 0, Nat.zero_le _, owns_nil _ _ _ _, Below.refl _ _, rfl, rfl⟩
      clear f2 f7 f8 f9
      rintro σ w7 ⟨k7, A1, c1, hk7, hown7, hB7, f2, f7, f8, f15, f16⟩ K hK
      have hR7 := hR6.below hB7
      have hfl := freeP_len Zk k7
      have hz7 := hB7.size
      simp +contextual (maxSteps := 2000000) (disch := (first | omega | (simp only [SZ]; done) | (simp only [SZ]; omega) | (simp only [TS] at *; omega))) only [RZ, gval, gslot, fillL, ovw, numb, catL, ldN, agL, okC, oneC, init, Nat.reduceAdd, Nat.reduceMul, Nat.reduceSub, Nat.reduceEqDiff, Nat.reduceLT, ↓reduceIte, Int.reduceToNat, Int.reduceAdd, Int.reduceSub, Int.reduceMul, Int.reduceLT, Int.reduceLE, Int.reduceEq, Nat.reduceLeDiff,  f2, f7, f8, f15, f16]
      (refine W_if rfl (fun hc => ?_) (fun hc => ?_) <;> (try simp only [TS] at hc))
      · obtain ⟨z, hzk⟩ : ∃ z, Zk[k7]? = some z := ⟨_, List.getElem?_eq_getElem (by omega)⟩
        have l2 := hR7.cell (deckV_cell (S := S) (seed := seed) hzk).2.2.1
        have hfp := freeP_succ hzk
        by_cases hz0 : z = 0
        · rw [if_pos hz0] at hfp
          have e0 : (z = 0) = True := eq_true hz0
          obtain ⟨A', c', w8, he, hown8, hb8, hs8⟩ := push1 (P := Tryd.prog) (T := 74) (ty := 74) (news := [.int .i64 (k7 : Int)]) hown7 (by omega) hIi rfl (fun u hu => by simp at hu; subst hu; rfl) (by omega) (by decide)
          simp +contextual (maxSteps := 2000000) (disch := (first | omega | (simp only [SZ]; done) | (simp only [SZ]; omega) | (simp only [TS] at *; omega))) only [RZ, gval, gslot, fillL, ovw, numb, catL, ldN, agL, okC, oneC, init, Nat.reduceAdd, Nat.reduceMul, Nat.reduceSub, Nat.reduceEqDiff, Nat.reduceLT, ↓reduceIte, Int.reduceToNat, Int.reduceAdd, Int.reduceSub, Int.reduceMul, Int.reduceLT, Int.reduceLE, Int.reduceEq, Nat.reduceLeDiff,  f2, f7, f8, f15, f16, l2, e0]
          refine W_if_t rfl ?_
          simp +contextual (maxSteps := 2000000) (disch := (first | omega | (simp only [SZ]; done) | (simp only [SZ]; omega) | (simp only [TS] at *; omega))) only [RZ, gval, gslot, fillL, ovw, numb, catL, ldN, agL, okC, oneC, init, Nat.reduceAdd, Nat.reduceMul, Nat.reduceSub, Nat.reduceEqDiff, Nat.reduceLT, ↓reduceIte, Int.reduceToNat, Int.reduceAdd, Int.reduceSub, Int.reduceMul, Int.reduceLT, Int.reduceLE, Int.reduceEq, Nat.reduceLeDiff,  f2, f7, f8, f15, f16, he]
          refine hK _ _ ⟨k7 + 1, A', c', by omega, ?_, hB7.trans hb8, ?_⟩ ?_
          · rw [hfp, List.length_append]
            unfold iV
            rw [List.map_append]
            exact hown8
          · simp +contextual (maxSteps := 2000000) (disch := (first | omega | (simp only [SZ]; done) | (simp only [SZ]; omega) | (simp only [TS] at *; omega))) only [RZ, gval, gslot, fillL, ovw, numb, catL, ldN, agL, okC, oneC, init, Nat.reduceAdd, Nat.reduceMul, Nat.reduceSub, Nat.reduceEqDiff, Nat.reduceLT, ↓reduceIte, Int.reduceToNat, Int.reduceAdd, Int.reduceSub, Int.reduceMul, Int.reduceLT, Int.reduceLE, Int.reduceEq, Nat.reduceLeDiff,  f2, f7, f8, f15, f16, hfp, List.length_append, List.length_singleton]
          · simp +contextual (maxSteps := 2000000) (disch := (first | omega | (simp only [SZ]; done) | (simp only [SZ]; omega) | (simp only [TS] at *; omega))) only [RZ, gval, gslot, fillL, ovw, numb, catL, ldN, agL, okC, oneC, init, Nat.reduceAdd, Nat.reduceMul, Nat.reduceSub, Nat.reduceEqDiff, Nat.reduceLT, ↓reduceIte, Int.reduceToNat, Int.reduceAdd, Int.reduceSub, Int.reduceMul, Int.reduceLT, Int.reduceLE, Int.reduceEq, Nat.reduceLeDiff,  intOf, f16]
            omega
        · rw [if_neg hz0] at hfp
          have e0 : (z = 0) = False := eq_false hz0
          simp +contextual (maxSteps := 2000000) (disch := (first | omega | (simp only [SZ]; done) | (simp only [SZ]; omega) | (simp only [TS] at *; omega))) only [RZ, gval, gslot, fillL, ovw, numb, catL, ldN, agL, okC, oneC, init, Nat.reduceAdd, Nat.reduceMul, Nat.reduceSub, Nat.reduceEqDiff, Nat.reduceLT, ↓reduceIte, Int.reduceToNat, Int.reduceAdd, Int.reduceSub, Int.reduceMul, Int.reduceLT, Int.reduceLE, Int.reduceEq, Nat.reduceLeDiff,  f2, f7, f8, f15, f16, l2, e0]
          refine W_if_f rfl ?_
          simp +contextual (maxSteps := 2000000) (disch := (first | omega | (simp only [SZ]; done) | (simp only [SZ]; omega) | (simp only [TS] at *; omega))) only [RZ, gval, gslot, fillL, ovw, numb, catL, ldN, agL, okC, oneC, init, Nat.reduceAdd, Nat.reduceMul, Nat.reduceSub, Nat.reduceEqDiff, Nat.reduceLT, ↓reduceIte, Int.reduceToNat, Int.reduceAdd, Int.reduceSub, Int.reduceMul, Int.reduceLT, Int.reduceLE, Int.reduceEq, Nat.reduceLeDiff,  f2, f7, f8, f15, f16]
          refine hK _ _ ⟨k7 + 1, A1, c1, by omega, by rw [hfp]; exact hown7, hB7, ?_⟩ ?_
          · simp +contextual (maxSteps := 2000000) (disch := (first | omega | (simp only [SZ]; done) | (simp only [SZ]; omega) | (simp only [TS] at *; omega))) only [RZ, gval, gslot, fillL, ovw, numb, catL, ldN, agL, okC, oneC, init, Nat.reduceAdd, Nat.reduceMul, Nat.reduceSub, Nat.reduceEqDiff, Nat.reduceLT, ↓reduceIte, Int.reduceToNat, Int.reduceAdd, Int.reduceSub, Int.reduceMul, Int.reduceLT, Int.reduceLE, Int.reduceEq, Nat.reduceLeDiff,  f2, f7, f8, f15, f16, hfp]
          · simp +contextual (maxSteps := 2000000) (disch := (first | omega | (simp only [SZ]; done) | (simp only [SZ]; omega) | (simp only [TS] at *; omega))) only [RZ, gval, gslot, fillL, ovw, numb, catL, ldN, agL, okC, oneC, init, Nat.reduceAdd, Nat.reduceMul, Nat.reduceSub, Nat.reduceEqDiff, Nat.reduceLT, ↓reduceIte, Int.reduceToNat, Int.reduceAdd, Int.reduceSub, Int.reduceMul, Int.reduceLT, Int.reduceLE, Int.reduceEq, Nat.reduceLeDiff,  intOf, f16]
            omega
      · obtain rfl : k7 = P * S := by omega
        simp +contextual (maxSteps := 2000000) (disch := (first | omega | (simp only [SZ]; done) | (simp only [SZ]; omega) | (simp only [TS] at *; omega))) only [RZ, gval, gslot, fillL, ovw, numb, catL, ldN, agL, okC, oneC, init, Nat.reduceAdd, Nat.reduceMul, Nat.reduceSub, Nat.reduceEqDiff, Nat.reduceLT, ↓reduceIte, Int.reduceToNat, Int.reduceAdd, Int.reduceSub, Int.reduceMul, Int.reduceLT, Int.reduceLE, Int.reduceEq, Nat.reduceLeDiff,  f2, f7, f8, f15, f16]
        rw [← hZk] at hown7 ⊢
        exact ⟨hB7, A1, c1, hown7, rfl⟩
    clear f2 f7 f8 f9
    rintro _ σ w7 ⟨rfl, hB7, ⟨A1, c1, hown7, f15⟩, f2, f7, f8⟩
    have hz7 := hB7.size
    have hk67 : Kept [gs, gs + 1] w5 w7 := hk6.trans (Kept.of_below hB7)
    have rp7 := rp6.below hB7
    have hL7 := hL.below (hbel _ hk67)
    have hs7 := hs6.below hB7
    have hR7 := hR6.below hB7
    have a0 := rp7.cell (i := 0) rfl
    have a1 := rp7.cell (i := 1) rfl
    have a2 := rp7.cell (i := 2) rfl
    have a3 := rp7.cell (i := 3) rfl
    have a4 := rp7.cell (i := 4) rfl
    simp +contextual (maxSteps := 2000000) (disch := (first | omega | (simp only [SZ]; done) | (simp only [SZ]; omega) | (simp only [TS] at *; omega))) only [RZ, gval, gslot, fillL, ovw, numb, catL, ldN, agL, okC, oneC, init, Nat.reduceAdd, Nat.reduceMul, Nat.reduceSub, Nat.reduceEqDiff, Nat.reduceLT, ↓reduceIte, Int.reduceToNat, Int.reduceAdd, Int.reduceSub, Int.reduceMul, Int.reduceLT, Int.reduceLE, Int.reduceEq, Nat.reduceLeDiff,  f2, f7, f8, f15, a0, a1, a2, a3, a4]
    refine (rremaining_any p A c w7 hL7 hl (fun v h => by
      obtain ⟨_, h2, h3, h4⟩ := hv v h
      obtain ⟨m0, m1⟩ : 0 ≤ v.pack * p.packs ∧ v.pack * p.packs ≤ 256 * 32 := mul_bd (by omega) (by omega) (by omega) (by omega)
      omega)).mono ?_
    rintro e w8 ⟨B8, d8, rfl, hown8, hB8⟩
    refine ⟨_, rfl, ?_⟩
    rw [hPi] at hown8 ⊢
    have hk68 : Kept [gs, gs + 1] w5 w8 := hk67.trans (Kept.of_below hB8)
    have hs8 := hs7.below hB8
    have hR8 := hR7.below hB8
    have hz8 := hB8.size
    have hown78 := owns_below hown7 hB8
    have hgr := fun (h : 0 < (restL P p.levels).length) => owns_row hown8 h
    obtain ⟨gf, hgf1, hgf2, hgf3⟩ : ∃ gf, (0 < (freeL Zk).length → A1 = some ⟨gf, 0, none⟩ ∧ Row w8 gf 3 (iV (freeL Zk)) ∧ (freeL Zk).length ≤ c1 ∧ gs + 1 < gf) ∧ gf < w7.heap.size ∧ w.heap.size < gf := by
      by_cases hn : 0 < (freeL Zk).length
      · obtain ⟨g, e1, e2, e3, e4, _⟩ := owns_row hown7 hn
        exact ⟨g, fun _ => ⟨e1, e3.below hB8, e4, by omega⟩, e3.lt, by omega⟩
      · exact ⟨gs + 1, fun h => absurd h hn, by omega, by omega⟩
    have hfl : (freeL Zk).length ≤ 8192 := by
      have := freeP_len Zk Zk.length
      have e : freeP Zk Zk.length = freeL Zk := rfl
      rw [e] at this
      omega
    have hrr : ∀ j, j < (freeL Zk).length → 0 ≤ (freeL Zk).getD j 0 ∧ ((freeL Zk).getD j 0).toNat < P * S := fun j hj => by
      obtain ⟨h1, h2⟩ := freeL_zero j hj
      have := (List.getElem?_eq_some_iff.1 h2).1
      exact ⟨h1, by omega⟩
    generalize hCC : scaE (restL P p.levels) (freeL Zk) 0 Zk stk = CC at *
    generalize hnf : (freeL Zk).length = nf at *
    generalize hRL : restL P p.levels = RL at *
    clear a0 a1 a2 a3 a4 hown7 hown78 hL7 hs7 hR7
    try simp +contextual (maxSteps := 2000000) (disch := (first | omega | (simp only [SZ]; done) | (simp only [SZ]; omega) | (simp only [TS] at *; omega))) only [RZ, gval, gslot, fillL, ovw, numb, catL, ldN, agL, okC, oneC, init, Nat.reduceAdd, Nat.reduceMul, Nat.reduceSub, Nat.reduceEqDiff, Nat.reduceLT, ↓reduceIte, Int.reduceToNat, Int.reduceAdd, Int.reduceSub, Int.reduceMul, Int.reduceLT, Int.reduceLE, Int.reduceEq, Nat.reduceLeDiff,  f2, f7, f8, f15]
    refine Raw_loop (fun σ' w' => ∃ (i : Nat) (F Zi : List Int) (sti : Int), i ≤ RL.length ∧ scaE (RL.drop i) F i Zi sti = CC ∧ F.length = nf ∧ Zi.length = P * S ∧ (∀ j, j < nf → 0 ≤ F.getD j 0 ∧ (F.getD j 0).toNat < P * S) ∧ RsIn w' gs sti ∧ Row w' (gs + 1) 46 (deckV S seed Zi) ∧ (0 < nf → Row w' gf 3 (iV F)) ∧ Kept [gs, gs + 1, gf] w8 w' ∧
      σ' 7 = .pointer (some ⟨gs, 0, none⟩) ∧ σ' 8 = .slice (some ⟨gs + 1, 0, none⟩) (P * S) (P * S) ∧ σ' 15 = .slice A1 nf c1 ∧ σ' 17 = .slice B8 RL.length d8 ∧ σ' 18 = .int .i64 i) (fun σ' _ => RL.length - (intOf (σ' 18)).toNat) ?_ ?_
    · simp +contextual (maxSteps := 2000000) (disch := (first | omega | (simp only [SZ]; done) | (simp only [SZ]; omega) | (simp only [TS] at *; omega))) only [RZ, gval, gslot, fillL, ovw, numb, catL, ldN, agL, okC, oneC, init, Nat.reduceAdd, Nat.reduceMul, Nat.reduceSub, Nat.reduceEqDiff, Nat.reduceLT, ↓reduceIte, Int.reduceToNat, Int.reduceAdd, Int.reduceSub, Int.reduceMul, Int.reduceLT, Int.reduceLE, Int.reduceEq, Nat.reduceLeDiff,  f2, f7, f8, f15]
      exact ⟨0, freeL Zk, Zk, stk, Nat.zero_le _, by rw [List.drop_zero]; exact hCC, hnf, hZk, hrr, hs8, hR8, fun h => (hgf1 h).2.1, Kept.refl _ _, rfl⟩
    clear f2 f7 f8 f15
    rintro σ9 w9 ⟨i, F, Zi, sti, hi, hsc, hF, hZi, hrF, hs9, hR9, hF9, hk9, f7, f8, f15, f17, f18⟩ K hK
    have hbel9 : Below w.heap.size w w9 := (hbel _ hk68).trans ⟨hk9.os, hk9.tape, hk9.output, hk9.size, fun k hk => hk9.block k (by omega) (by simp; omega)⟩
    have hz9 := hk9.size
    simp +contextual (maxSteps := 2000000) (disch := (first | omega | (simp only [SZ]; done) | (simp only [SZ]; omega) | (simp only [TS] at *; omega))) only [RZ, gval, gslot, fillL, ovw, numb, catL, ldN, agL, okC, oneC, init, Nat.reduceAdd, Nat.reduceMul, Nat.reduceSub, Nat.reduceEqDiff, Nat.reduceLT, ↓reduceIte, Int.reduceToNat, Int.reduceAdd, Int.reduceSub, Int.reduceMul, Int.reduceLT, Int.reduceLE, Int.reduceEq, Nat.reduceLeDiff,  f7, f8, f15, f17, f18]
    (refine W_if rfl (fun hc => ?_) (fun hc => ?_) <;> (try simp only [TS] at hc))
    · obtain ⟨gr, rfl, hgr1, hgr2, hgr3, _⟩ := hgr (by omega)
      have hnp : 0 < nf := by omega
      obtain ⟨rfl, hgf4, hgf5, hgf6⟩ := hgf1 hnp
      have hgrl := hgr2.lt
      have hRr := hgr2.kept hk9 (by simp; omega)
      have hRf := hF9 hnp
      have hdr : RL.drop i = RL.getD i 0 :: RL.drop (i + 1) := by
        rw [List.drop_eq_getElem_cons (by omega), List.getD_eq_getElem?_getD, List.getElem?_eq_getElem (by omega)]
        rfl
      rw [hdr, scaE, hF] at hsc
      simp +contextual (maxSteps := 2000000) (disch := (first | omega | (simp only [SZ]; done) | (simp only [SZ]; omega) | (simp only [TS] at *; omega))) only [RZ, gval, gslot, fillL, ovw, numb, catL, ldN, agL, okC, oneC, init, Nat.reduceAdd, Nat.reduceMul, Nat.reduceSub, Nat.reduceEqDiff, Nat.reduceLT, ↓reduceIte, Int.reduceToNat, Int.reduceAdd, Int.reduceSub, Int.reduceMul, Int.reduceLT, Int.reduceLE, Int.reduceEq, Nat.reduceLeDiff,  f7, f8, f15, f17, f18]
      refine (rbelow_any gs ((nf : Int) - i) sti w9 hs9 (by omega)).mono ?_
      rintro e wA ⟨rfl, hsA, hoA⟩
      refine ⟨_, rfl, ?_⟩
      have hlt := fun h => belE_lt (n := (nf : Int) - i) (st := sti) h
      generalize belE ((nf : Int) - i) sti = BB at *
      have hkA : Kept [gs, gs + 1, gf] w8 wA := hk9.trans (Kept.of_only hoA (by simp))
      have hbelA : Below w.heap.size w wA := (hbel _ hk68).trans ⟨hkA.os, hkA.tape, hkA.output, hkA.size, fun k hk => hkA.block k (by omega) (by simp; omega)⟩
      by_cases hbz : BB.2.1 = 0
      · rw [if_pos hbz] at hsc
        obtain ⟨hb1, hb2, hb3⟩ := hlt hbz
        have e0 : (BB.2.1 = 0) = True := eq_true hbz
        have hRr := hRr.only hoA (by omega)
        have hRf := hRf.only hoA (by omega)
        have hRA := hR9.only hoA (by omega)
        have hj : i + BB.1.toNat < F.length := by omega
        have hij : ((i : Int) + BB.1).toNat = i + BB.1.toNat := by omega
        generalize hjj : i + BB.1.toNat = j at *
        have hil : i < F.length := by omega
        have cj := hRf.cell (iV_get hj)
        have ci := hRf.cell (iV_get hil)
        have zj := hRf.frozen j
        have hf2 := hRf.set_ (i := j) (by rw [iV_len]; exact hj) (.int .i64 (F.getD i 0))
        rw [iV_set] at hf2
        have hil2 : i < (F.set j (F.getD i 0)).length := by rw [List.length_set]; exact hil
        have c3 := hf2.cell (iV_get hil2)
        have zi := hf2.frozen i
        have hf3 := hf2.set_ (i := i) (by rw [iV_len]; exact hil2) (.int .i64 (F.getD j 0))
        rw [iV_set, swp_alt _ rfl] at hf3
        obtain ⟨hx0, hx1⟩ := hrF j (by omega)
        have hswx : (swp F i j).getD i 0 = F.getD j 0 := by
          rw [swp_getD hil hj]
          by_cases e : i = j
          · rw [if_pos e, e]
          · rw [if_neg e, if_pos rfl]
        have cr := hRr.cell (iV_get (l := RL) (i := i) (by omega))
        rw [hswx] at hsc
        obtain ⟨u, hu⟩ : ∃ u, Zi[(F.getD j 0).toNat]? = some u := ⟨_, List.getElem?_eq_getElem (by omega)⟩
        have cz := hRA.cell (deckV_cell (S := S) (seed := seed) hu).2.2.1
        have zz := hRA.frozen ((F.getD j 0).toNat * 4 + 2)
        generalize hxx : F.getD j 0 = x at *
        generalize hyy : F.getD i 0 = y at *
        generalize RL.getD i 0 = z at *
        have n1 : gf ≠ gs + 1 := by omega
        have n2 : gf ≠ gr := by omega
        have n3 : gs + 1 ≠ gr := by omega
        simp +contextual (maxSteps := 2000000) (disch := (first | omega | (simp only [SZ]; done) | (simp only [SZ]; omega) | (simp only [TS] at *; omega))) only [RZ, gval, gslot, fillL, ovw, numb, catL, ldN, agL, okC, oneC, init, Nat.reduceAdd, Nat.reduceMul, Nat.reduceSub, Nat.reduceEqDiff, Nat.reduceLT, ↓reduceIte, Int.reduceToNat, Int.reduceAdd, Int.reduceSub, Int.reduceMul, Int.reduceLT, Int.reduceLE, Int.reduceEq, Nat.reduceLeDiff,  f7, f8, f15, f17, f18, e0]
        refine W_if_f rfl ?_
        simp +contextual (maxSteps := 2000000) (disch := (first | omega | (simp only [SZ]; done) | (simp only [SZ]; omega) | (simp only [TS] at *; omega))) only [RZ, gval, gslot, fillL, ovw, numb, catL, ldN, agL, okC, oneC, init, Nat.reduceAdd, Nat.reduceMul, Nat.reduceSub, Nat.reduceEqDiff, Nat.reduceLT, ↓reduceIte, Int.reduceToNat, Int.reduceAdd, Int.reduceSub, Int.reduceMul, Int.reduceLT, Int.reduceLE, Int.reduceEq, Nat.reduceLeDiff,  f7, f8, f15, f17, f18, cj, ci, zj, c3, zi, cr, cz, zz, hij]
        have hRB := (((hRA.far (p := ⟨gf, j, none⟩) (by show gs + 1 ≠ gf; omega) (.int .i64 y)).far (p := ⟨gf, i, none⟩) (by show gs + 1 ≠ gf; omega) (.int .i64 x)).set_ (i := x.toNat * 4 + 2) (by rw [deckV_len]; omega) (.int .i64 z))
        rw [deckV_set hu] at hRB
        refine hK _ _ ⟨i + 1, swp F i j, Zi.set x.toNat z, BB.2.2, by omega, hsc, by rw [swp_len]; exact hF, by rw [List.length_set]; exact hZi, fun q hq => ?_, ?_, hRB, fun _ => hf3.far (p := ⟨gs + 1, _, none⟩) (by show gf ≠ gs + 1; omega) _,
          ((hkA.setCell (p := ⟨gf, _, none⟩) (by simp) _).setCell (p := ⟨gf, _, none⟩) (by simp) _).setCell (p := ⟨gs + 1, _, none⟩) (by simp) _, ?_⟩ ?_
        · rw [swp_getD hil hj]
          split
          · exact hrF _ (by omega)
          · split
            · exact hrF _ (by omega)
            · exact hrF _ hq
        · exact ((hsA.far (p := ⟨gf, j, none⟩) (by show gs ≠ gf; omega) _).far (p := ⟨gf, i, none⟩) (by show gs ≠ gf; omega) _).far (p := ⟨gs + 1, _, none⟩) (by show gs ≠ gs + 1; omega) _
        · simp +contextual (maxSteps := 2000000) (disch := (first | omega | (simp only [SZ]; done) | (simp only [SZ]; omega) | (simp only [TS] at *; omega))) only [RZ, gval, gslot, fillL, ovw, numb, catL, ldN, agL, okC, oneC, init, Nat.reduceAdd, Nat.reduceMul, Nat.reduceSub, Nat.reduceEqDiff, Nat.reduceLT, ↓reduceIte, Int.reduceToNat, Int.reduceAdd, Int.reduceSub, Int.reduceMul, Int.reduceLT, Int.reduceLE, Int.reduceEq, Nat.reduceLeDiff,  f7, f8, f15, f17, f18]
        · simp +contextual (maxSteps := 2000000) (disch := (first | omega | (simp only [SZ]; done) | (simp only [SZ]; omega) | (simp only [TS] at *; omega))) only [RZ, gval, gslot, fillL, ovw, numb, catL, ldN, agL, okC, oneC, init, Nat.reduceAdd, Nat.reduceMul, Nat.reduceSub, Nat.reduceEqDiff, Nat.reduceLT, ↓reduceIte, Int.reduceToNat, Int.reduceAdd, Int.reduceSub, Int.reduceMul, Int.reduceLT, Int.reduceLE, Int.reduceEq, Nat.reduceLeDiff,  intOf, f18]
          omega
      · rw [if_neg hbz] at hsc
        rw [← hsc] at hdz
        dsimp only at hdz
        rw [if_neg hbz] at hdz
        have e0 : (BB.2.1 = 0) = False := eq_false hbz
        simp +contextual (maxSteps := 2000000) (disch := (first | omega | (simp only [SZ]; done) | (simp only [SZ]; omega) | (simp only [TS] at *; omega))) only [RZ, gval, gslot, fillL, ovw, numb, catL, ldN, agL, okC, oneC, init, Nat.reduceAdd, Nat.reduceMul, Nat.reduceSub, Nat.reduceEqDiff, Nat.reduceLT, ↓reduceIte, Int.reduceToNat, Int.reduceAdd, Int.reduceSub, Int.reduceMul, Int.reduceLT, Int.reduceLE, Int.reduceEq, Nat.reduceLeDiff,  f7, f8, f15, f17, f18, e0]
        refine W_if_t rfl ?_
        simp +contextual (maxSteps := 2000000) (disch := (first | omega | (simp only [SZ]; done) | (simp only [SZ]; omega) | (simp only [TS] at *; omega))) only [RZ, gval, gslot, fillL, ovw, numb, catL, ldN, agL, okC, oneC, init, Nat.reduceAdd, Nat.reduceMul, Nat.reduceSub, Nat.reduceEqDiff, Nat.reduceLT, ↓reduceIte, Int.reduceToNat, Int.reduceAdd, Int.reduceSub, Int.reduceMul, Int.reduceLT, Int.reduceLE, Int.reduceEq, Nat.reduceLeDiff]
        refine ⟨hbelA, ?_⟩
        rw [hdz]
        dsimp only
        rw [if_neg hbz]
    · have hd0 : RL.drop i = [] := List.drop_eq_nil_of_le (by omega)
      rw [hd0, scaE] at hsc
      subst hsc
      dsimp only at hdz
      rw [if_pos rfl] at hdz
      subst hdz
      simp +contextual (maxSteps := 2000000) (disch := (first | omega | (simp only [SZ]; done) | (simp only [SZ]; omega) | (simp only [TS] at *; omega))) only [RZ, gval, gslot, fillL, ovw, numb, catL, ldN, agL, okC, oneC, init, Nat.reduceAdd, Nat.reduceMul, Nat.reduceSub, Nat.reduceEqDiff, Nat.reduceLT, ↓reduceIte, Int.reduceToNat, Int.reduceAdd, Int.reduceSub, Int.reduceMul, Int.reduceLT, Int.reduceLE, Int.reduceEq, Nat.reduceLeDiff,  f7, f8, f15, f17, f18]
      exact ⟨hbel9, gs + 1, by omega, by rw [insL_len, hZi], hR9⟩
end Go.Proofs.YtcnlopjjejdahaaDoor
/- Walks: the reference's SameDeck; the law DeckBuilds. -/
namespace Go.Proofs.YtcnlopjjejdahaaDoor
open Go.RowKit
set_option maxRecDepth 100000
theorem ins_neq (v : Ins) (x y : Operand) (w : World) : vBin Tryd.prog .neq 46 x y (.agg #[.int .i64 v.pack, .int .i64 v.index, .int .i64 v.prize, .string v.code]) (.agg #[.int .i64 v.pack, .int .i64 v.index, .int .i64 v.prize, .string v.code]) w = .ok (.value (.bool false)) w := by
  have hg : Tryd.prog.eqGuardType Tryd.prog.depth 46 = false := by kernel_rfl
  have hf : (Tryd.prog.fieldsOf 46).toList = [⟨"Pack", 3, 0, false, "", "", 0⟩, ⟨"Index", 3, 1, false, "", "", 8⟩, ⟨"Prize", 3, 2, false, "", "", 16⟩, ⟨"Code", 9, 3, false, "", "", 24⟩] := by
    unfold Program.fieldsOf
    rw [Tryd.underlying46]
  have he : (Op.equalIn 10000 46 (.agg #[.int .i64 v.pack, .int .i64 v.index, .int .i64 v.prize, .string v.code]) (.agg #[.int .i64 v.pack, .int .i64 v.index, .int .i64 v.prize, .string v.code])).run Tryd.prog w = .ok true w := by
    rw [show (10000 : Nat) = 9999 + 1 from rfl, run_equalIn_struct w 9999 46 _ _ (by unfold Program.fieldsOf; rw [Tryd.underlying46]) (by kernel_rfl), hf, show (9999 : Nat) = 9998 + 1 from rfl]
    rw [eqF_int (k := .i64) (a := v.pack) (b := v.pack) w _ _ _ _ _ (by decide) Tryd.underlying3 (by simp) (by simp), eqF_int (k := .i64) (a := v.index) (b := v.index) w _ _ _ _ _ (by decide) Tryd.underlying3 (by simp) (by simp), eqF_int (k := .i64) (a := v.prize) (b := v.prize) w _ _ _ _ _ (by decide) Tryd.underlying3 (by simp) (by simp), eqF_str (a := v.code) (b := v.code) w _ _ _ _ _ (by decide) Tryd.underlying9 (by simp) (by simp), eqF_nil]
    simp
  unfold vBin
  simp [Sem.run_bind, eqGuard, hg, binOp, Op.equal, Op.maxDepth, he]
theorem samedeck_any (A B : Option Addr) (c d : Nat) (L : List Ins) (w : World) (hl : L.length ≤ 1000000) (hA : Arr w A 4 (L.map encIns)) (hB : Arr w B 4 (L.map encIns)) :
    Calls Tryd.prog 25 #[.slice A L.length c, .slice B L.length d] w fun e w' => e = .returned (.bool true) ∧ Below w.heap.size w w' := by
  refine calls_W (l := [_, _]) Tryd.func25 rfl _ Tryd.ntmps25 (by simp) ?_
  simp +contextual (maxSteps := 2000000) (disch := (first | omega | (simp only [SZ]; done) | (simp only [SZ]; omega) | (simp only [TS] at *; omega))) only [RZ, gval, gslot, fillL, ovw, numb, catL, ldN, agL, okC, oneC, init, Nat.reduceAdd, Nat.reduceMul, Nat.reduceSub, Nat.reduceEqDiff, Nat.reduceLT, ↓reduceIte, Int.reduceToNat, Int.reduceAdd, Int.reduceSub, Int.reduceMul, Int.reduceLT, Int.reduceLE, Int.reduceEq, Nat.reduceLeDiff]
  refine W_if_f rfl ?_
  simp +contextual (maxSteps := 2000000) (disch := (first | omega | (simp only [SZ]; done) | (simp only [SZ]; omega) | (simp only [TS] at *; omega))) only [RZ, gval, gslot, fillL, ovw, numb, catL, ldN, agL, okC, oneC, init, Nat.reduceAdd, Nat.reduceMul, Nat.reduceSub, Nat.reduceEqDiff, Nat.reduceLT, ↓reduceIte, Int.reduceToNat, Int.reduceAdd, Int.reduceSub, Int.reduceMul, Int.reduceLT, Int.reduceLE, Int.reduceEq, Nat.reduceLeDiff]
  refine Raw_loop (fun σ w2 => Below w.heap.size w w2 ∧ ∃ k : Nat, k ≤ L.length ∧ σ 0 = .slice A L.length c ∧ σ 1 = .slice B L.length d ∧ σ 5 = .int .i64 k) (fun σ _ => L.length - (intOf (σ 5)).toNat) ?_ ?_
  · simp +contextual (maxSteps := 2000000) (disch := (first | omega | (simp only [SZ]; done) | (simp only [SZ]; omega) | (simp only [TS] at *; omega))) only [RZ, gval, gslot, fillL, ovw, numb, catL, ldN, agL, okC, oneC, init, Nat.reduceAdd, Nat.reduceMul, Nat.reduceSub, Nat.reduceEqDiff, Nat.reduceLT, ↓reduceIte, Int.reduceToNat, Int.reduceAdd, Int.reduceSub, Int.reduceMul, Int.reduceLT, Int.reduceLE, Int.reduceEq, Nat.reduceLeDiff]
    exact ⟨Below.refl _ _, 0, Nat.zero_le _, rfl⟩
  rintro σ w2 ⟨hb2, k, hk, f0, f1, f5⟩ K hK
  simp +contextual (maxSteps := 2000000) (disch := (first | omega | (simp only [SZ]; done) | (simp only [SZ]; omega) | (simp only [TS] at *; omega))) only [RZ, gval, gslot, fillL, ovw, numb, catL, ldN, agL, okC, oneC, init, Nat.reduceAdd, Nat.reduceMul, Nat.reduceSub, Nat.reduceEqDiff, Nat.reduceLT, ↓reduceIte, Int.reduceToNat, Int.reduceAdd, Int.reduceSub, Int.reduceMul, Int.reduceLT, Int.reduceLE, Int.reduceEq, Nat.reduceLeDiff,  f0, f1, f5]
  (refine W_if rfl (fun hc => ?_) (fun hc => ?_) <;> (try simp only [TS] at hc))
  · obtain ⟨v, hv⟩ : ∃ v, L[k]? = some v := ⟨_, List.getElem?_eq_getElem (by omega)⟩
    obtain ⟨ba, oa, rfl, hba, hca⟩ := (hA.below hb2).at_ hv
    obtain ⟨bb, ob, rfl, hbb, hcb⟩ := (hB.below hb2).at_ hv
    have l0 : w2.drew.cell? _ = _ := hca 0 _ rfl
    rw [Nat.add_zero] at l0
    have l1 : w2.drew.cell? _ = _ := hca 1 _ rfl
    have l2 : w2.drew.cell? _ = _ := hca 2 _ rfl
    have l3 : w2.drew.cell? _ = _ := hca 3 _ rfl
    have m0 : w2.drew.cell? _ = _ := hcb 0 _ rfl
    rw [Nat.add_zero] at m0
    have m1 : w2.drew.cell? _ = _ := hcb 1 _ rfl
    have m2 : w2.drew.cell? _ = _ := hcb 2 _ rfl
    have m3 : w2.drew.cell? _ = _ := hcb 3 _ rfl
    simp +contextual (maxSteps := 2000000) (disch := (first | omega | (simp only [SZ]; done) | (simp only [SZ]; omega) | (simp only [TS] at *; omega))) only [RZ, gval, gslot, fillL, ovw, numb, catL, ldN, agL, okC, oneC, init, Nat.reduceAdd, Nat.reduceMul, Nat.reduceSub, Nat.reduceEqDiff, Nat.reduceLT, ↓reduceIte, Int.reduceToNat, Int.reduceAdd, Int.reduceSub, Int.reduceMul, Int.reduceLT, Int.reduceLE, Int.reduceEq, Nat.reduceLeDiff,  f0, f1, f5]
    refine Raw_still MX (by kernel_rfl) ?_
    simp +contextual (maxSteps := 2000000) (disch := (first | omega | (simp only [SZ]; done) | (simp only [SZ]; omega) | (simp only [TS] at *; omega))) only [RZ, gval, gslot, fillL, ovw, numb, catL, ldN, agL, okC, oneC, init, Nat.reduceAdd, Nat.reduceMul, Nat.reduceSub, Nat.reduceEqDiff, Nat.reduceLT, ↓reduceIte, Int.reduceToNat, Int.reduceAdd, Int.reduceSub, Int.reduceMul, Int.reduceLT, Int.reduceLE, Int.reduceEq, Nat.reduceLeDiff,  f0, f1, f5, l0, l1, l2, l3, m0, m1, m2, m3, ins_neq]
    refine W_if_f rfl ?_
    simp +contextual (maxSteps := 2000000) (disch := (first | omega | (simp only [SZ]; done) | (simp only [SZ]; omega) | (simp only [TS] at *; omega))) only [RZ, gval, gslot, fillL, ovw, numb, catL, ldN, agL, okC, oneC, init, Nat.reduceAdd, Nat.reduceMul, Nat.reduceSub, Nat.reduceEqDiff, Nat.reduceLT, ↓reduceIte, Int.reduceToNat, Int.reduceAdd, Int.reduceSub, Int.reduceMul, Int.reduceLT, Int.reduceLE, Int.reduceEq, Nat.reduceLeDiff,  f0, f1, f5]
    refine hK _ _ ⟨hb2.trans ⟨rfl, rfl, rfl, Nat.le_refl _, fun _ _ => rfl⟩, k + 1, by omega, ?_⟩ ?_
    · simp +contextual (maxSteps := 2000000) (disch := (first | omega | (simp only [SZ]; done) | (simp only [SZ]; omega) | (simp only [TS] at *; omega))) only [RZ, gval, gslot, fillL, ovw, numb, catL, ldN, agL, okC, oneC, init, Nat.reduceAdd, Nat.reduceMul, Nat.reduceSub, Nat.reduceEqDiff, Nat.reduceLT, ↓reduceIte, Int.reduceToNat, Int.reduceAdd, Int.reduceSub, Int.reduceMul, Int.reduceLT, Int.reduceLE, Int.reduceEq, Nat.reduceLeDiff,  f0, f1, f5]
    · simp +contextual (maxSteps := 2000000) (disch := (first | omega | (simp only [SZ]; done) | (simp only [SZ]; omega) | (simp only [TS] at *; omega))) only [RZ, gval, gslot, fillL, ovw, numb, catL, ldN, agL, okC, oneC, init, Nat.reduceAdd, Nat.reduceMul, Nat.reduceSub, Nat.reduceEqDiff, Nat.reduceLT, ↓reduceIte, Int.reduceToNat, Int.reduceAdd, Int.reduceSub, Int.reduceMul, Int.reduceLT, Int.reduceLE, Int.reduceEq, Nat.reduceLeDiff,  intOf, f5]
      omega
  · simp +contextual (maxSteps := 2000000) (disch := (first | omega | (simp only [SZ]; done) | (simp only [SZ]; omega) | (simp only [TS] at *; omega))) only [RZ, gval, gslot, fillL, ovw, numb, catL, ldN, agL, okC, oneC, init, Nat.reduceAdd, Nat.reduceMul, Nat.reduceSub, Nat.reduceEqDiff, Nat.reduceLT, ↓reduceIte, Int.reduceToNat, Int.reduceAdd, Int.reduceSub, Int.reduceMul, Int.reduceLT, Int.reduceLE, Int.reduceEq, Nat.reduceLeDiff,  f0, f1, f5]
    exact hb2
theorem build_len (p : Pl) (seed : Int) (hl : lightB p = true) : (buildE p seed).1.length ≤ 1000000 := by
  unfold buildE
  by_cases hc0 : p.chk = 0
  · rw [if_pos hc0]
    obtain ⟨q1, q2, q3, q4, q5, q6⟩ := chk_ok hc0
    obtain ⟨S, hSi⟩ : ∃ S : Nat, p.size = S := ⟨p.size.toNat, by omega⟩
    obtain ⟨P, hPi⟩ : ∃ P : Nat, p.packs = P := ⟨p.packs.toNat, by omega⟩
    have hPb : P * S ≤ 32 * 256 := Nat.mul_le_mul (by omega) (by omega)
    have h := deckZ_ok (p := P) (s := S) (L := p.levels) (by omega) (by omega) (by rw [← hPi, ← hSi]; exact q6) seed
    show (insL _ _ _).length ≤ _
    rw [insL_len, hPi, hSi]
    rcases h with ⟨_, h⟩ | ⟨_, h⟩
    · rw [h.len]
      omega
    · rw [h]
      exact Nat.zero_le _
  · rw [if_neg hc0]
    exact Nat.zero_le _
theorem deckBuilds_any (p : Pl) (A : Option Addr) (c : Nat) (seed : Int) (w : World) (hW : Laid w) (hL : Arr w A 3 (p.levels.map encLvl)) (hq : planWf p) (hsd : 0 ≤ seed ∧ seed ≤ 18446744073709551615) :
    Calls Tryd.prog 7 #[planV p A c, .int .u64 seed] w fun e w' => e = .returned (.bool true) ∧ Below w.heap.size w w' := by
  obtain ⟨hs, hl, hr, hrv⟩ := hq
  refine calls_W (l := [_, _]) Tryd.func7 rfl _ Tryd.ntmps7 (by simp) ?_
  have hpv : planV p A c = .agg #[.string p.name, .int .i64 p.price, .int .i64 p.packs, .int .i64 p.size, .slice A p.levels.length c] := rfl
  rw [hpv]
  have hw5 := hW.size
  simp +contextual (maxSteps := 2000000) (disch := (first | omega | (simp only [SZ]; done) | (simp only [SZ]; omega) | (simp only [TS] at *; omega))) only [RZ, gval, gslot, fillL, ovw, numb, catL, ldN, agL, okC, oneC, init, Nat.reduceAdd, Nat.reduceMul, Nat.reduceSub, Nat.reduceEqDiff, Nat.reduceLT, ↓reduceIte, Int.reduceToNat, Int.reduceAdd, Int.reduceSub, Int.reduceMul, Int.reduceLT, Int.reduceLE, Int.reduceEq, Nat.reduceLeDiff]
  have r0 := Row.new w 24 [.string p.name, .int .i64 p.price, .int .i64 p.packs, .int .i64 p.size, .slice A p.levels.length c]
  replace r0 : Row (w.alloc (.cells #[.string p.name, .int .i64 p.price, .int .i64 p.packs, .int .i64 p.size, .slice A p.levels.length c] 24)) _ _ _ := r0
  have hB := below_alloc w (.cells #[.string p.name, .int .i64 p.price, .int .i64 p.packs, .int .i64 p.size, .slice A p.levels.length c] 24)
  generalize w.alloc (.cells #[.string p.name, .int .i64 p.price, .int .i64 p.packs, .int .i64 p.size, .slice A p.levels.length c] 24) = w1 at *
  have hL1 := hL.below hB
  have hz1 := hB.size
  refine (few_any p A c w1).mono ?_
  rintro e w2 ⟨rfl, hB2⟩
  refine ⟨_, rfl, ?_⟩
  have r0 := r0.below hB2
  have hL2 := hL1.below hB2
  have hF2 := hB.trans (hB2.mono hz1)
  have hz2 := hF2.size
  cases hfew : fewB p with
  | false =>
    simp +contextual (maxSteps := 2000000) (disch := (first | omega | (simp only [SZ]; done) | (simp only [SZ]; omega) | (simp only [TS] at *; omega))) only [RZ, gval, gslot, fillL, ovw, numb, catL, ldN, agL, okC, oneC, init, Nat.reduceAdd, Nat.reduceMul, Nat.reduceSub, Nat.reduceEqDiff, Nat.reduceLT, ↓reduceIte, Int.reduceToNat, Int.reduceAdd, Int.reduceSub, Int.reduceMul, Int.reduceLT, Int.reduceLE, Int.reduceEq, Nat.reduceLeDiff]
    refine W_if_t rfl ?_
    simp +contextual (maxSteps := 2000000) (disch := (first | omega | (simp only [SZ]; done) | (simp only [SZ]; omega) | (simp only [TS] at *; omega))) only [RZ, gval, gslot, fillL, ovw, numb, catL, ldN, agL, okC, oneC, init, Nat.reduceAdd, Nat.reduceMul, Nat.reduceSub, Nat.reduceEqDiff, Nat.reduceLT, ↓reduceIte, Int.reduceToNat, Int.reduceAdd, Int.reduceSub, Int.reduceMul, Int.reduceLT, Int.reduceLE, Int.reduceEq, Nat.reduceLeDiff]
    refine (awake_any w2 (hW.below hF2 hw5)).mono ?_
    rintro e wz ⟨rfl, hBz⟩
    refine ⟨_, rfl, ?_⟩
    simp +contextual (maxSteps := 2000000) (disch := (first | omega | (simp only [SZ]; done) | (simp only [SZ]; omega) | (simp only [TS] at *; omega))) only [RZ, gval, gslot, fillL, ovw, numb, catL, ldN, agL, okC, oneC, init, Nat.reduceAdd, Nat.reduceMul, Nat.reduceSub, Nat.reduceEqDiff, Nat.reduceLT, ↓reduceIte, Int.reduceToNat, Int.reduceAdd, Int.reduceSub, Int.reduceMul, Int.reduceLT, Int.reduceLE, Int.reduceEq, Nat.reduceLeDiff]
    exact hF2.trans (hBz.mono hz2)
  | true =>
  unfold fewB at hfew
  simp only [Bool.and_eq_true, decide_eq_true_eq] at hfew
  have a0 := r0.cell (i := 0) rfl
  have a1 := r0.cell (i := 1) rfl
  have a2 := r0.cell (i := 2) rfl
  have a3 := r0.cell (i := 3) rfl
  have a4 := r0.cell (i := 4) rfl
  simp +contextual (maxSteps := 2000000) (disch := (first | omega | (simp only [SZ]; done) | (simp only [SZ]; omega) | (simp only [TS] at *; omega))) only [RZ, gval, gslot, fillL, ovw, numb, catL, ldN, agL, okC, oneC, init, Nat.reduceAdd, Nat.reduceMul, Nat.reduceSub, Nat.reduceEqDiff, Nat.reduceLT, ↓reduceIte, Int.reduceToNat, Int.reduceAdd, Int.reduceSub, Int.reduceMul, Int.reduceLT, Int.reduceLE, Int.reduceEq, Nat.reduceLeDiff,  a0, a1, a2, a3, a4]
  refine (light_any p A c w2).mono ?_
  rintro e w3 ⟨rfl, hB3⟩
  refine ⟨_, rfl, ?_⟩
  have r0 := r0.below hB3
  have hL3 := hL2.below hB3
  have hF3 := hF2.trans (hB3.mono hz2)
  have hz3 := hF3.size
  cases hlig : lightB p with
  | false =>
    simp +contextual (maxSteps := 2000000) (disch := (first | omega | (simp only [SZ]; done) | (simp only [SZ]; omega) | (simp only [TS] at *; omega))) only [RZ, gval, gslot, fillL, ovw, numb, catL, ldN, agL, okC, oneC, init, Nat.reduceAdd, Nat.reduceMul, Nat.reduceSub, Nat.reduceEqDiff, Nat.reduceLT, ↓reduceIte, Int.reduceToNat, Int.reduceAdd, Int.reduceSub, Int.reduceMul, Int.reduceLT, Int.reduceLE, Int.reduceEq, Nat.reduceLeDiff]
    refine W_if_t rfl ?_
    simp +contextual (maxSteps := 2000000) (disch := (first | omega | (simp only [SZ]; done) | (simp only [SZ]; omega) | (simp only [TS] at *; omega))) only [RZ, gval, gslot, fillL, ovw, numb, catL, ldN, agL, okC, oneC, init, Nat.reduceAdd, Nat.reduceMul, Nat.reduceSub, Nat.reduceEqDiff, Nat.reduceLT, ↓reduceIte, Int.reduceToNat, Int.reduceAdd, Int.reduceSub, Int.reduceMul, Int.reduceLT, Int.reduceLE, Int.reduceEq, Nat.reduceLeDiff]
    refine (awake_any w3 (hW.below hF3 hw5)).mono ?_
    rintro e wz ⟨rfl, hBz⟩
    refine ⟨_, rfl, ?_⟩
    simp +contextual (maxSteps := 2000000) (disch := (first | omega | (simp only [SZ]; done) | (simp only [SZ]; omega) | (simp only [TS] at *; omega))) only [RZ, gval, gslot, fillL, ovw, numb, catL, ldN, agL, okC, oneC, init, Nat.reduceAdd, Nat.reduceMul, Nat.reduceSub, Nat.reduceEqDiff, Nat.reduceLT, ↓reduceIte, Int.reduceToNat, Int.reduceAdd, Int.reduceSub, Int.reduceMul, Int.reduceLT, Int.reduceLE, Int.reduceEq, Nat.reduceLeDiff]
    exact hF3.trans (hBz.mono hz3)
  | true =>
  have hlt := of_decide_eq_true hlig
  clear a0 a1 a2 a3 a4
  simp +contextual (maxSteps := 2000000) (disch := (first | omega | (simp only [SZ]; done) | (simp only [SZ]; omega) | (simp only [TS] at *; omega))) only [RZ, gval, gslot, fillL, ovw, numb, catL, ldN, agL, okC, oneC, init, Nat.reduceAdd, Nat.reduceMul, Nat.reduceSub, Nat.reduceEqDiff, Nat.reduceLT, ↓reduceIte, Int.reduceToNat, Int.reduceAdd, Int.reduceSub, Int.reduceMul, Int.reduceLT, Int.reduceLE, Int.reduceEq, Nat.reduceLeDiff]
  refine W_if_f rfl ?_
  have a0 := r0.cell (i := 0) rfl
  have a1 := r0.cell (i := 1) rfl
  have a2 := r0.cell (i := 2) rfl
  have a3 := r0.cell (i := 3) rfl
  have a4 := r0.cell (i := 4) rfl
  simp +contextual (maxSteps := 2000000) (disch := (first | omega | (simp only [SZ]; done) | (simp only [SZ]; omega) | (simp only [TS] at *; omega))) only [RZ, gval, gslot, fillL, ovw, numb, catL, ldN, agL, okC, oneC, init, Nat.reduceAdd, Nat.reduceMul, Nat.reduceSub, Nat.reduceEqDiff, Nat.reduceLT, ↓reduceIte, Int.reduceToNat, Int.reduceAdd, Int.reduceSub, Int.reduceMul, Int.reduceLT, Int.reduceLE, Int.reduceEq, Nat.reduceLeDiff,  a0, a1, a2, a3, a4]
  refine (build_any p A c seed w3 (hW.below hF3 hw5) hs hL3 hsd.1 hsd.2).mono ?_
  rintro e w4 ⟨hB4, he⟩
  have r0 := r0.below hB4
  have hL4 := hL3.below hB4
  have hF4 := hF3.trans (hB4.mono hz3)
  have hz4 := hF4.size
  clear a0 a1 a2 a3 a4
  have a0 := r0.cell (i := 0) rfl
  have a1 := r0.cell (i := 1) rfl
  have a2 := r0.cell (i := 2) rfl
  have a3 := r0.cell (i := 3) rfl
  have a4 := r0.cell (i := 4) rfl
  have hrb := rbuild_any p A c seed w4 hs hfew.1 hL4 hsd.1 hsd.2
  have hbl := build_len p seed hlig
  generalize buildE p seed = R at *
  obtain ⟨L, er⟩ := R
  dsimp only at he hrb hbl
  unfold planV at hrb
  by_cases hbz : er = 0
  · rw [if_pos hbz] at he
    subst hbz
    obtain ⟨gd, hgd, rfl, hR4⟩ := he
    refine ⟨_, rfl, ?_⟩
    simp +contextual (maxSteps := 2000000) (disch := (first | omega | (simp only [SZ]; done) | (simp only [SZ]; omega) | (simp only [TS] at *; omega))) only [RZ, gval, gslot, fillL, ovw, numb, catL, ldN, agL, okC, oneC, init, Nat.reduceAdd, Nat.reduceMul, Nat.reduceSub, Nat.reduceEqDiff, Nat.reduceLT, ↓reduceIte, Int.reduceToNat, Int.reduceAdd, Int.reduceSub, Int.reduceMul, Int.reduceLT, Int.reduceLE, Int.reduceEq, Nat.reduceLeDiff,  a0, a1, a2, a3, a4]
    refine hrb.mono ?_
    rintro e w5 ⟨hB5, he⟩
    rw [if_pos rfl] at he
    obtain ⟨ge, hge, rfl, hE5⟩ := he
    refine ⟨_, rfl, ?_⟩
    have hR5 := hR4.below hB5
    have hF5 := hF4.trans (hB5.mono hz4)
    have hz5 := hF5.size
    simp +contextual (maxSteps := 2000000) (disch := (first | omega | (simp only [SZ]; done) | (simp only [SZ]; omega) | (simp only [TS] at *; omega))) only [RZ, gval, gslot, fillL, ovw, numb, catL, ldN, agL, okC, oneC, init, Nat.reduceAdd, Nat.reduceMul, Nat.reduceSub, Nat.reduceEqDiff, Nat.reduceLT, ↓reduceIte, Int.reduceToNat, Int.reduceAdd, Int.reduceSub, Int.reduceMul, Int.reduceLT, Int.reduceLE, Int.reduceEq, Nat.reduceLeDiff]
    refine (samedeck_any (some ⟨gd, 0, none⟩) (some ⟨ge, 0, none⟩) L.length L.length L w5 hbl (hR5.arr (fun _ => rfl)) (hE5.arr (fun _ => rfl))).mono ?_
    rintro e w6 ⟨rfl, hB6⟩
    refine ⟨_, rfl, ?_⟩
    have hF6 := hF5.trans (hB6.mono hz5)
    have hz6 := hF6.size
    simp +contextual (maxSteps := 2000000) (disch := (first | omega | (simp only [SZ]; done) | (simp only [SZ]; omega) | (simp only [TS] at *; omega))) only [RZ, gval, gslot, fillL, ovw, numb, catL, ldN, agL, okC, oneC, init, Nat.reduceAdd, Nat.reduceMul, Nat.reduceSub, Nat.reduceEqDiff, Nat.reduceLT, ↓reduceIte, Int.reduceToNat, Int.reduceAdd, Int.reduceSub, Int.reduceMul, Int.reduceLT, Int.reduceLE, Int.reduceEq, Nat.reduceLeDiff]
    refine (awake_any w6 (hW.below hF6 hw5)).mono ?_
    rintro e wz ⟨rfl, hBz⟩
    refine ⟨_, rfl, ?_⟩
    simp +contextual (maxSteps := 2000000) (disch := (first | omega | (simp only [SZ]; done) | (simp only [SZ]; omega) | (simp only [TS] at *; omega))) only [RZ, gval, gslot, fillL, ovw, numb, catL, ldN, agL, okC, oneC, init, Nat.reduceAdd, Nat.reduceMul, Nat.reduceSub, Nat.reduceEqDiff, Nat.reduceLT, ↓reduceIte, Int.reduceToNat, Int.reduceAdd, Int.reduceSub, Int.reduceMul, Int.reduceLT, Int.reduceLE, Int.reduceEq, Nat.reduceLeDiff]
    exact hF6.trans (hBz.mono hz6)
  · rw [if_neg hbz] at he
    subst he
    refine ⟨_, rfl, ?_⟩
    simp +contextual (maxSteps := 2000000) (disch := (first | omega | (simp only [SZ]; done) | (simp only [SZ]; omega) | (simp only [TS] at *; omega))) only [RZ, gval, gslot, fillL, ovw, numb, catL, ldN, agL, okC, oneC, init, Nat.reduceAdd, Nat.reduceMul, Nat.reduceSub, Nat.reduceEqDiff, Nat.reduceLT, ↓reduceIte, Int.reduceToNat, Int.reduceAdd, Int.reduceSub, Int.reduceMul, Int.reduceLT, Int.reduceLE, Int.reduceEq, Nat.reduceLeDiff,  a0, a1, a2, a3, a4]
    refine hrb.mono ?_
    rintro e w5 ⟨hB5, he⟩
    rw [if_neg hbz] at he
    subst he
    refine ⟨_, rfl, ?_⟩
    have hF5 := hF4.trans (hB5.mono hz4)
    have hz5 := hF5.size
    simp +contextual (maxSteps := 2000000) (disch := (first | omega | (simp only [SZ]; done) | (simp only [SZ]; omega) | (simp only [TS] at *; omega))) only [RZ, gval, gslot, fillL, ovw, numb, catL, ldN, agL, okC, oneC, init, Nat.reduceAdd, Nat.reduceMul, Nat.reduceSub, Nat.reduceEqDiff, Nat.reduceLT, ↓reduceIte, Int.reduceToNat, Int.reduceAdd, Int.reduceSub, Int.reduceMul, Int.reduceLT, Int.reduceLE, Int.reduceEq, Nat.reduceLeDiff]
    refine (samedeck_any none none 0 0 [] w5 (by simp) (fun h => absurd h (by simp)) (fun h => absurd h (by simp))).mono ?_
    rintro e w6 ⟨rfl, hB6⟩
    refine ⟨_, rfl, ?_⟩
    have hF6 := hF5.trans (hB6.mono hz5)
    have hz6 := hF6.size
    simp +contextual (maxSteps := 2000000) (disch := (first | omega | (simp only [SZ]; done) | (simp only [SZ]; omega) | (simp only [TS] at *; omega))) only [RZ, gval, gslot, fillL, ovw, numb, catL, ldN, agL, okC, oneC, init, Nat.reduceAdd, Nat.reduceMul, Nat.reduceSub, Nat.reduceEqDiff, Nat.reduceLT, ↓reduceIte, Int.reduceToNat, Int.reduceAdd, Int.reduceSub, Int.reduceMul, Int.reduceLT, Int.reduceLE, Int.reduceEq, Nat.reduceLeDiff]
    refine (awake_any w6 (hW.below hF6 hw5)).mono ?_
    rintro e wz ⟨rfl, hBz⟩
    refine ⟨_, rfl, ?_⟩
    simp +contextual (maxSteps := 2000000) (disch := (first | omega | (simp only [SZ]; done) | (simp only [SZ]; omega) | (simp only [TS] at *; omega))) only [RZ, gval, gslot, fillL, ovw, numb, catL, ldN, agL, okC, oneC, init, Nat.reduceAdd, Nat.reduceMul, Nat.reduceSub, Nat.reduceEqDiff, Nat.reduceLT, ↓reduceIte, Int.reduceToNat, Int.reduceAdd, Int.reduceSub, Int.reduceMul, Int.reduceLT, Int.reduceLE, Int.reduceEq, Nat.reduceLeDiff]
    exact hF6.trans (hBz.mono hz6)
end Go.Proofs.YtcnlopjjejdahaaDoor
/- What the row says of the listed variables, as the walks ask it; the witness's world. -/
namespace Go.Proofs.YtcnlopjjejdahaaDoor
open Go.ChangeShapes Go.WideShapes Go.ChangeAt Go.WideMaps Go.WideElems Go.RowKit Go.Joins Go.Deep
set_option maxRecDepth 100000
def laidL : List (String × DataW Unit) := Rows.deckChecksRow.laid
theorem laid_of {W : World} (h : laidMetH Tryd.prog laidL W) : Laid W := by
  rw [MakeChecks.laidMetH_plain _ _ _ (by kernel_rfl)] at h
  obtain ⟨ps, hv, _⟩ := h
  obtain ⟨g0, t0, cs0, f0, p0, q0, hg0, ht0, hv0, hd0, hr0, _⟩ := hv
  obtain ⟨g1, t1, cs1, f1, p1, q1, hg1, ht1, hv1, hd1, hr1, _⟩ := hr0
  obtain ⟨g2, t2, cs2, f2, p2, q2, hg2, ht2, hv2, hd2, hr2, _⟩ := hr1
  obtain ⟨g3, t3, cs3, f3, p3, q3, hg3, ht3, hv3, hd3, hr3, _⟩ := hr2
  obtain rfl := Option.some.inj ((show Tryd.prog.globalNamed "lottery/digest.hexDigits" = some 0 by kernel_rfl).symm.trans hg0)
  obtain rfl := Option.some.inj ((show Tryd.prog.globalNamed "math/bits.deBruijn64tab" = some 4 by kernel_rfl).symm.trans hg2)
  obtain rfl := Option.some.inj ((show Tryd.prog.globalNamed "internal/strconv.uint64pow10" = some 2 by kernel_rfl).symm.trans hg3)
  obtain rfl := Option.some.inj ((show (Tryd.prog.globals[0]?).map (·.type) = some 95 by kernel_rfl).symm.trans ht0)
  obtain rfl := Option.some.inj ((show (Tryd.prog.globals[2]?).map (·.type) = some 135 by kernel_rfl).symm.trans ht3)
  refine ⟨?_, fun i hi => ?_, ?_⟩
  · have : W.heap[4]?.isSome = true := by
      unfold World.var? at hv2
      rw [hg2] at hv2
      simp only [Option.bind_some] at hv2
      cases hh : W.heap[4]? with
      | none => rw [hh] at hv2; simp at hv2
      | some o => rfl
    obtain ⟨o, ho⟩ := Option.isSome_iff_exists.1 this
    exact (Array.getElem?_eq_some_iff.1 ho).1
  · have hc := Lib.cells_of_tab (k := .u8) (zs := (List.range 16).map fun i => (hexd i : Int)) Tryd.underlying95 Tryd.underlying5 (by kernel_rfl) (by kernel_rfl) (show DataW.trod _ _ _ _ _ _ _ _ _ = some (Lib.tabData .u8 ((List.range 16).map fun i => (hexd i : Int)), p0) from hd0)
    rw [World.var?_cell hg0 hv0 i, ← Array.getElem?_toList, hc, List.getElem?_map, List.getElem?_map, List.getElem?_range hi]
    rfl
  · have hc := Lib.cells_of_tab (k := .u64) (zs := Lib.pow10Tab) Tryd.underlying135 Tryd.underlying36 (by kernel_rfl) (by kernel_rfl) (show DataW.trod _ _ _ _ _ _ _ _ _ = some (Lib.tabData .u64 Lib.pow10Tab, p3) from hd3)
    unfold Lib.TabIs
    rw [hv3, ← hc]
/-- The door's own heap meets the condition. -/
theorem door_met (os : Os) (args : Array Value) : laidMetH Tryd.prog laidL ((World.doorLaid Tryd.prog 4000 os).forCall (fun _ _ => 0) ⟨#[], args, []⟩).memory :=
  laidMetH_of_parts3 (fuel := 8) (laidMet_of_run' 8 (by kernel_rfl) (by kernel_rfl)) (by kernel_rfl) (by kernel_rfl)
end Go.Proofs.YtcnlopjjejdahaaDoor
