/- Texts laid one behind the other: RwD, RfA, RfC, RgA. Each says at its head what it proves. -/
import Derived.Test.YtbdkggnajipdhaaGreatDoorRtPsZ13
set_option linter.unusedSimpArgs false
/- Walks: the law's awake. -/
namespace Go.Proofs.YtbdkggnajipdhaaGreatDoor
open Nat (reduceAdd reduceMul reduceSub reduceEqDiff reduceLT reduceLeDiff)
open Go.RowKit
set_option maxRecDepth 100000
theorem gmC_n {G q : Gm} (h : gmC G = gmC q) {i : Nat} (hi : i < 19) : G.n i = q.n i := by
  have := congrArg (fun x => x.2.1[i]?) h
  simp only [gmC, List.getElem?_map, List.getElem?_range hi, Option.map_some, Option.some.injEq] at this
  exact this
theorem gmV_C {G q : Gm} (h : gmC G = gmC q) (Va Vt : Value) : gmV G Va Vt = gmV q Va Vt := by
  have hn : G.name = q.name := congrArg Prod.fst h
  unfold gmV
  rw [hn, gmC_n h (i := 0) (by decide), gmC_n h (i := 1) (by decide), gmC_n h (i := 2) (by decide), gmC_n h (i := 3) (by decide), gmC_n h (i := 4) (by decide), gmC_n h (i := 5) (by decide), gmC_n h (i := 6) (by decide), gmC_n h (i := 7) (by decide), gmC_n h (i := 8) (by decide), gmC_n h (i := 9) (by decide), gmC_n h (i := 10) (by decide), gmC_n h (i := 11) (by decide), gmC_n h (i := 12) (by decide), gmC_n h (i := 13) (by decide), gmC_n h (i := 14) (by decide), gmC_n h (i := 15) (by decide), gmC_n h (i := 16) (by decide), gmC_n h (i := 17) (by decide), gmC_n h (i := 18) (by decide)]
theorem GmIn.C {w : World} {Va Vt : Value} {G q : Gm} (h : GmIn w Va Vt G) (e : gmC G = gmC q) : GmIn w Va Vt q := by
  have ha : G.addons = q.addons := congrArg (fun x => x.2.2.1) e
  have ht : G.tiers = q.tiers := congrArg (fun x => x.2.2.2) e
  unfold GmIn at h ⊢
  rw [ha, ht] at h
  exact h
theorem parse_ex {s : ByteArray} {q : Gm} {er ln : Int} (hs : s.size ≤ 1000000) {w : World} (hW : Laid w) (hw9 : 9 ≤ w.heap.size) (hp : (gmC (parseG s).1, (parseG s).2) = (gmC q, er, ln)) : Calls Tryz.prog 9 #[.string s] w fun e w' => Below w.heap.size w w' ∧
    ∃ Va Vt, e = .returned (.tuple #[.agg (gmV q Va Vt).toArray, .int .i64 er, .int .i64 ln]) ∧ GmIn w' Va Vt q := by
  simp only [Prod.mk.injEq] at hp
  obtain ⟨h1, h2⟩ := hp
  have h3 : (parseG s).2.1 = er := congrArg Prod.fst h2
  have h4 : (parseG s).2.2 = ln := congrArg Prod.snd h2
  refine (parse_any s w hs hW hw9).mono ?_
  rintro e w1 ⟨hB, Va, Vt, he, hG⟩
  rw [gmV_C h1, h3, h4] at he
  exact ⟨hB, Va, Vt, he, hG.C h1⟩
/-- A game boxed in memory. -/
theorem load_game {w : World} {b : Nat} {G : Gm} {Va Vt : Value} (h : Row w b 26 (gmV G Va Vt)) : vLoad Tryz.prog 26 (.pointer (some ⟨b, 0, none⟩)) w = .ok (.value (.agg (gmV G Va Vt).toArray)) w :=
  vLoad_all (by kernel_rfl) (by rw [gmV_len]; kernel_rfl) (fun i v hv => by rw [Nat.zero_add]; exact h.cell hv)
theorem W_gen {P : Program} {n : Nat} {c : Code} {Q : Exit → Sl → World → Prop} {σ : Sl} {w : World} (h : ∀ w2, w2 = w → W P n c Q σ w2) : W P n c Q σ w := h w rfl
set_option maxHeartbeats 4000000 in
theorem awake_any (w : World) (hW : Laid w) (hw9 : 9 ≤ w.heap.size) : Calls Tryz.prog 8 #[] w fun e w' => e = .returned (.bool true) ∧ Below w.heap.size w w' := by
  refine calls_W (l := []) Tryz.func8 rfl _ Tryz.ntmps8 (by simp) ?_
  refine W_piece fun K hK hX => ?_
  simp +contextual (maxSteps := 2000000) (disch := first | omega | (simp only [SZ]; first | done | omega) | (simp only [TS] at *; omega)) only [RZ, ovw, oneC, reduceAdd, reduceMul, reduceSub, reduceEqDiff, reduceLT, ↓reduceIte, Int.reduceToNat, reduceLeDiff]
  refine hK _ _ ?_
  clear hK hX K
  refine W_piece fun K hK hX => ?_
  simp +contextual (maxSteps := 2000000) (disch := first | omega | (simp only [SZ]; first | done | omega) | (simp only [TS] at *; omega)) only [RZ, ovw, oneC, reduceAdd, reduceMul, reduceSub, reduceEqDiff, reduceLT, ↓reduceIte, Int.reduceToNat, reduceLeDiff]
  refine (parse_ex (q := exT) (er := 0) (ln := 0) (by decide) hW hw9 (by kernel_rfl)).mono ?_
  rintro e w1 ⟨hB1, Va, Vt, rfl, hG1⟩
  refine ⟨_, rfl, ?_⟩
  obtain ⟨⟨Aa, ca, Vs, rfl, hAa, hads⟩, At, ct, rfl, hAt⟩ := id hG1
  have hz1 := hB1.size
  simp only [gmV]
  simp +contextual (maxSteps := 2000000) (disch := first | omega | (simp only [SZ]; first | done | omega) | (simp only [TS] at *; omega)) only [RZ, ovw, oneC, reduceAdd, reduceMul, reduceSub, reduceEqDiff, reduceLT, ↓reduceIte, Int.reduceToNat, reduceLeDiff]
  refine hK _ _ ?_
  clear hK hX K
  refine W_gen fun w2 hw2 => ?_
  have r1 : Row w2 w1.heap.size 26 (gmV exT (.slice Aa exT.addons.length ca) (.slice At exT.tiers.length ct)) := by rw [hw2]; exact Row.new w1 _ _
  have hB2 : Below w1.heap.size w1 w2 := by rw [hw2]; exact below_alloc w1 _
  clear hw2
  have hG2 := hG1.below hB2
  have hAt2 := hAt.below hB2
  have hAa2 := hAa.below hB2
  obtain ⟨b, o, rfl, hb, hcb⟩ := hAt2.at_ (enc := encTi) (k := 1) rfl
  obtain ⟨cv1, hcv⟩ : ∃ c, Vs[0]? = some c := ⟨_, List.getElem?_eq_getElem (by rw [hads.1]; decide)⟩
  obtain ⟨vf, vs, rfl, hvf, hvs⟩ := hads.2 0 _ ⟨toBA (asc "joker"), 2, 100, [], 2, [300, 5000]⟩ hcv rfl
  obtain ⟨As, cS, rfl, hAs⟩ := hvs
  obtain ⟨b3, o3, rfl, hb3, hc3⟩ := hAa2 (by rw [hads.1]; decide)
  have l5 : w2.cell? _ = _ := hc3 0 _ hcv 5 _ rfl
  have t0 : w2.cell? _ = _ := hcb 0 _ rfl
  have c1 : w2.cell? ⟨w1.heap.size, 1, none⟩ = some (.int .i64 2) := r1.cell (i := 1) rfl
  have c9 : w2.cell? ⟨w1.heap.size, 9, none⟩ = some (.int .i64 3) := r1.cell (i := 9) rfl
  have c10 : w2.cell? ⟨w1.heap.size, 10, none⟩ = some (.int .i64 36) := r1.cell (i := 10) rfl
  have c11 : w2.cell? ⟨w1.heap.size, 11, none⟩ = some (.int .i64 1230) := r1.cell (i := 11) rfl
  have c20 : w2.cell? ⟨w1.heap.size, 20, none⟩ = some (.slice (some ⟨b3, o3, none⟩) 1 ca) := r1.cell (i := 20) rfl
  have c21 : w2.cell? ⟨w1.heap.size, 21, none⟩ = some (.slice (some ⟨b, o, none⟩) 2 ct) := r1.cell (i := 21) rfl
  refine W_piece fun K hK hX => ?_
  refine W_piece fun K2 hK2 hX2 => ?_
  have n1 : decide (((0 : Nat) : Int) + 1 = 1) = true := rfl
  have n2 : decide (((0 : Nat) : Int) + 1 + 1 = 2) = true := rfl
  simp +contextual (maxSteps := 2000000) (disch := first | omega | (simp only [SZ]; first | done | omega) | (simp only [TS] at *; omega)) only [RZ, ovw, oneC, reduceAdd, reduceMul, reduceSub, reduceEqDiff, reduceLT, ↓reduceIte, Int.reduceToNat, reduceLeDiff,  c1, c9, c10, c11, c20, c21, l5, t0, n1, n2]
  have hbl := below_alloc w2 (.cells #[.int .i64 300, .int .i64 5000] 3)
  have hNew : Arr (w2.alloc (.cells #[.int .i64 300, .int .i64 5000] 3)) (some ⟨w2.heap.size, 0, none⟩) 1 (([300, 5000] : List Int).map fun n => [Value.int .i64 n]) :=
    arr_row (Vs := ([300, 5000] : List Int).map fun n => [Value.int .i64 n]) (Row.new w2 3 [.int .i64 300, .int .i64 5000]) (by simp)
  refine (ints_any [300, 5000] As (some ⟨w2.heap.size, 0, none⟩) cS 2 _ ((hAs.below hB2).below hbl) hNew (by decide)).mono ?_
  rintro e w3 ⟨rfl, hB3⟩
  refine ⟨_, rfl, ?_⟩
  have hB23 : Below w2.heap.size w2 w3 := hbl.trans (hB3.mono hbl.size)
  try simp +contextual (maxSteps := 2000000) (disch := first | omega | (simp only [SZ]; first | done | omega) | (simp only [TS] at *; omega)) only [RZ, ovw, oneC, reduceAdd, reduceMul, reduceSub, reduceEqDiff, reduceLT, ↓reduceIte, Int.reduceToNat, reduceLeDiff]
  refine hK2 _ _ ?_
  clear hK2 hX2 K2
  refine W_if_f (by rfl) ?_
  rw [W_skip]
  refine hK _ _ ?_
  clear hK hX K
  have hG3 := hG2.below hB23
  have r3 := r1.below hB23
  have hF3 : Below w.heap.size w w3 := hB1.trans ((hB2.trans (hB23.mono hB2.size)).mono hz1)
  have hW3 := hW.below hF3 hW.size
  have hz3 := hF3.size
  refine W_piece fun K hK hX => ?_
  simp +contextual (maxSteps := 2000000) (disch := first | omega | (simp only [SZ]; first | done | omega) | (simp only [TS] at *; omega)) only [RZ, ovw, oneC, reduceAdd, reduceMul, reduceSub, reduceEqDiff, reduceLT, ↓reduceIte, Int.reduceToNat, reduceLeDiff]
  refine (parse_ex (q := noGm) (er := 6) (ln := 2) (by decide) hW3 (by omega) (by kernel_rfl)).mono ?_
  rintro e w4 ⟨hB4, Va4, Vt4, rfl, hG4⟩
  refine ⟨_, rfl, ?_⟩
  obtain ⟨⟨Aa4, ca4, Vs4, rfl, _⟩, At4, ct4, rfl, _⟩ := id hG4
  simp only [gmV]
  simp +contextual (maxSteps := 2000000) (disch := first | omega | (simp only [SZ]; first | done | omega) | (simp only [TS] at *; omega)) only [RZ, ovw, oneC, reduceAdd, reduceMul, reduceSub, reduceEqDiff, reduceLT, ↓reduceIte, Int.reduceToNat, reduceLeDiff]
  refine hK _ _ ?_
  clear hK hX K
  refine W_gen fun w5 hw5 => ?_
  have hB5 : Below w4.heap.size w4 w5 := by rw [hw5]; exact below_alloc w4 _
  clear hw5
  have hB35 : Below w3.heap.size w3 w5 := hB4.trans (hB5.mono hB4.size)
  have hG5 := hG3.below hB35
  have r5 := r3.below hB35
  have hF5 := hF3.trans (hB35.mono hF3.size)
  have hl5 : vLoad Tryz.prog 26 (.pointer (some ⟨w1.heap.size, 0, none⟩)) w5 = .ok (.value (.agg (gmV exT (.slice (some ⟨b3, o3, none⟩) exT.addons.length ca) (.slice (some ⟨b, o, none⟩) exT.tiers.length ct)).toArray)) w5 :=
    vLoad_all (by kernel_rfl) (by rw [gmV_len]; kernel_rfl) (fun i v hv => by rw [Nat.zero_add]; exact r5.cell hv)
  refine W_piece fun K hK hX => ?_
  simp +contextual (maxSteps := 2000000) (disch := first | omega | (simp only [SZ]; first | done | omega) | (simp only [TS] at *; omega)) only [RZ, ovw, oneC, reduceAdd, reduceMul, reduceSub, reduceEqDiff, reduceLT, ↓reduceIte, Int.reduceToNat, reduceLeDiff,  hl5]
  refine (print_any exT _ _ w5 (hW.below hF5 hW.size) (by have := hF5.size; omega) hG5 (by unfold Gm.little; decide)).mono ?_
  rintro e w6 ⟨rfl, hB6⟩
  refine ⟨_, rfl, ?_⟩
  try simp +contextual (maxSteps := 2000000) (disch := first | omega | (simp only [SZ]; first | done | omega) | (simp only [TS] at *; omega)) only [RZ, ovw, oneC, reduceAdd, reduceMul, reduceSub, reduceEqDiff, reduceLT, ↓reduceIte, Int.reduceToNat, reduceLeDiff]
  refine hK _ _ ?_
  clear hK hX K
  simp +contextual (maxSteps := 2000000) (disch := first | omega | (simp only [SZ]; first | done | omega) | (simp only [TS] at *; omega)) only [RZ, ovw, oneC, reduceAdd, reduceMul, reduceSub, reduceEqDiff, reduceLT, ↓reduceIte, Int.reduceToNat, reduceLeDiff]
  refine ⟨congrArg (fun b => Ending.returned (.bool b)) (decide_eq_true (by decide +kernel)), hF5.trans (hB6.mono hF5.size)⟩
end Go.Proofs.YtbdkggnajipdhaaGreatDoor
/- Walks: the reference's Size, Format. -/
namespace Go.Proofs.YtbdkggnajipdhaaGreatDoor
open Go.RowKit
set_option maxRecDepth 100000
end Go.Proofs.YtbdkggnajipdhaaGreatDoor
/- Walks: the reference's Decimal, signed, Parse of numbers. -/
namespace Go.Proofs.YtbdkggnajipdhaaGreatDoor
open Nat (reduceAdd reduceMul reduceSub reduceEqDiff reduceLT reduceLeDiff)
open Go.RowKit
set_option maxRecDepth 100000
theorem valD_low : ∀ (l : List Nat) (a : Nat), a * 10 ^ l.length ≤ valD a l
  | [], a => by simp [valD]
  | c :: r, a => by
    have h := valD_low r (a * 10 + (c - 48))
    rw [valD_cons, List.length_cons, Nat.pow_succ]
    refine Nat.le_trans ?_ h
    rw [Nat.mul_comm (10 ^ r.length) 10, ← Nat.mul_assoc]
    exact Nat.mul_le_mul_right _ (by omega)
theorem valD_up : ∀ (l : List Nat) (a : Nat), (∀ c ∈ l, 48 ≤ c ∧ c ≤ 57) → valD a l + 1 ≤ (a + 1) * 10 ^ l.length
  | [], a, _ => by simp [valD]
  | c :: r, a, hc => by
    have h := valD_up r (a * 10 + (c - 48)) fun d hd => hc d (List.mem_cons_of_mem _ hd)
    have hcc := hc c (by simp)
    rw [valD_cons, List.length_cons, Nat.pow_succ, Nat.mul_comm (10 ^ r.length) 10, ← Nat.mul_assoc]
    exact Nat.le_trans h (Nat.mul_le_mul_right _ (by omega))
theorem valD_long {l : List Nat} (h : decOK l = true) (hl : 20 ≤ l.length) : 10000000000000000000 ≤ valD 0 l := by
  cases l with
  | nil => cases h
  | cons c r =>
    have h1 := decOK_all h c (by simp)
    rw [decOK_cons, Bool.and_eq_true, Bool.or_eq_true] at h
    have hc : c ≠ 48 := by
      rintro rfl
      rcases h.1 with h2 | h2
      · simp at h2
      · rw [List.isEmpty_iff.1 h2] at hl; simp at hl
    rw [valD_cons]
    rw [List.length_cons] at hl
    have h3 := valD_low r (0 * 10 + (c - 48))
    have h4 : 1 * 10 ^ 19 ≤ (0 * 10 + (c - 48)) * 10 ^ r.length := Nat.mul_le_mul (by omega) (Nat.pow_le_pow_right (by omega) (by omega))
    rw [show 1 * 10 ^ 19 = 10000000000000000000 by decide] at h4
    omega
theorem valD_short {l : List Nat} (h : ∀ c ∈ l, 48 ≤ c ∧ c ≤ 57) {n : Nat} (hl : l.length ≤ n) (hn : n ≤ 19) : valD 0 l < 10000000000000000000 := by
  have h1 := valD_up l 0 h
  have h2 : 10 ^ l.length ≤ 10 ^ 19 := Nat.pow_le_pow_right (by omega) (by omega)
  rw [show 10 ^ 19 = 10000000000000000000 by decide] at h2
  omega
theorem rsigned_any (u : Int) (ng : Bool) (w : World) (h0 : 0 ≤ u ∧ u ≤ 18446744073709551615) : Calls Tryz.prog 136 #[.int .u64 u, .bool ng] w fun e w' => e = .returned (.tuple (if (limN ng : Int) < u then #[.int .i64 0, .int .i64 9] else #[.int .i64 (if ng then -u else u), .int .i64 0])) ∧ w = w' := by
  refine calls_W (l := [_, _]) Tryz.func136 rfl _ Tryz.ntmps136 (by simp) ?_
  cases ng with
  | false =>
    rw [show ((limN false : Nat) : Int) = 9223372036854775807 from rfl]
    simp +contextual (maxSteps := 2000000) (disch := first | omega | (simp only [SZ]; first | done | omega) | (simp only [TS] at *; omega)) only [RZ, ovw, oneC, reduceAdd, reduceMul, reduceSub, reduceEqDiff, reduceLT, ↓reduceIte, Int.reduceToNat, reduceLeDiff]
    refine W_if_f rfl ?_
    simp +contextual (maxSteps := 2000000) (disch := first | omega | (simp only [SZ]; first | done | omega) | (simp only [TS] at *; omega)) only [RZ, ovw, oneC, reduceAdd, reduceMul, reduceSub, reduceEqDiff, reduceLT, ↓reduceIte, Int.reduceToNat, reduceLeDiff]
    (refine W_if rfl (fun hc => ?_) (fun hc => ?_) <;> (try simp only [TS] at hc))
    · simp +contextual (maxSteps := 2000000) (disch := first | omega | (simp only [SZ]; first | done | omega) | (simp only [TS] at *; omega)) only [RZ, ovw, oneC, reduceAdd, reduceMul, reduceSub, reduceEqDiff, reduceLT, ↓reduceIte, Int.reduceToNat, reduceLeDiff]
      rw [if_pos (by omega)]
    · simp +contextual (maxSteps := 2000000) (disch := first | omega | (simp only [SZ]; first | done | omega) | (simp only [TS] at *; omega)) only [RZ, ovw, oneC, reduceAdd, reduceMul, reduceSub, reduceEqDiff, reduceLT, ↓reduceIte, Int.reduceToNat, reduceLeDiff]
      refine W_if_f rfl ?_
      simp +contextual (maxSteps := 2000000) (disch := first | omega | (simp only [SZ]; first | done | omega) | (simp only [TS] at *; omega)) only [RZ, ovw, oneC, reduceAdd, reduceMul, reduceSub, reduceEqDiff, reduceLT, ↓reduceIte, Int.reduceToNat, reduceLeDiff]
      rw [if_neg (by omega)]
  | true =>
    rw [show ((limN true : Nat) : Int) = 9223372036854775808 from rfl]
    simp +contextual (maxSteps := 2000000) (disch := first | omega | (simp only [SZ]; first | done | omega) | (simp only [TS] at *; omega)) only [RZ, ovw, oneC, reduceAdd, reduceMul, reduceSub, reduceEqDiff, reduceLT, ↓reduceIte, Int.reduceToNat, reduceLeDiff]
    (refine W_if rfl (fun hc => ?_) (fun hc => ?_) <;> (try simp only [TS] at hc))
    · subst hc
      simp +contextual (maxSteps := 2000000) (disch := first | omega | (simp only [SZ]; first | done | omega) | (simp only [TS] at *; omega)) only [RZ, ovw, oneC, reduceAdd, reduceMul, reduceSub, reduceEqDiff, reduceLT, ↓reduceIte, Int.reduceToNat, reduceLeDiff]
      all_goals rfl
    simp +contextual (maxSteps := 2000000) (disch := first | omega | (simp only [SZ]; first | done | omega) | (simp only [TS] at *; omega)) only [RZ, ovw, oneC, reduceAdd, reduceMul, reduceSub, reduceEqDiff, reduceLT, ↓reduceIte, Int.reduceToNat, reduceLeDiff]
    (refine W_if rfl (fun hc => ?_) (fun hc => ?_) <;> (try simp only [TS] at hc))
    · simp +contextual (maxSteps := 2000000) (disch := first | omega | (simp only [SZ]; first | done | omega) | (simp only [TS] at *; omega)) only [RZ, ovw, oneC, reduceAdd, reduceMul, reduceSub, reduceEqDiff, reduceLT, ↓reduceIte, Int.reduceToNat, reduceLeDiff]
      rw [if_pos (by omega)]
    · simp +contextual (maxSteps := 2000000) (disch := first | omega | (simp only [SZ]; first | done | omega) | (simp only [TS] at *; omega)) only [RZ, ovw, oneC, reduceAdd, reduceMul, reduceSub, reduceEqDiff, reduceLT, ↓reduceIte, Int.reduceToNat, reduceLeDiff]
      refine W_if_t rfl ?_
      simp +contextual (maxSteps := 2000000) (disch := first | omega | (simp only [SZ]; first | done | omega) | (simp only [TS] at *; omega)) only [RZ, ovw, oneC, reduceAdd, reduceMul, reduceSub, reduceEqDiff, reduceLT, ↓reduceIte, Int.reduceToNat, reduceLeDiff]
      rw [if_neg (by omega)]
theorem rdecimal_any (s : ByteArray) (w : World) (hs : s.size ≤ 1000000000) : Calls Tryz.prog 135 #[.string s] w fun e w' => e = .returned (.bool (decOK (magL (bs s)) && !(negB (bs s) && decide (magL (bs s) = [48])))) ∧ w = w' := by
  refine calls_W (l := [_]) Tryz.func135 rfl _ Tryz.ntmps135 (by simp) ?_
  have hms := mag_sz s
  simp +contextual (maxSteps := 2000000) (disch := first | omega | (simp only [SZ]; first | done | omega) | (simp only [TS] at *; omega)) only [RZ, ovw, oneC, reduceAdd, reduceMul, reduceSub, reduceEqDiff, reduceLT, ↓reduceIte, Int.reduceToNat, reduceLeDiff]
  refine W_cut (fun τ w' => w' = w ∧ τ 0 = .string (magB s) ∧ ¬ (negB (bs s) = true ∧ magB s = ⟨#[48]⟩)) ?_ ?_
  rotate_left
  · (refine W_if rfl (fun hc => ?_) (fun hc => ?_) <;> (try simp only [TS] at hc))
    · have hn : negB (bs s) = true := by rw [negB_bs]; simp; omega
      have hm : s.extract 1 s.size = magB s := by unfold magB; rw [if_pos hn]
      rw [← bs_mag, hn]
      simp +contextual (maxSteps := 2000000) (disch := first | omega | (simp only [SZ]; first | done | omega) | (simp only [TS] at *; omega)) only [RZ, ovw, oneC, reduceAdd, reduceMul, reduceSub, reduceEqDiff, reduceLT, ↓reduceIte, Int.reduceToNat, reduceLeDiff,  hm]
      (refine W_if rfl (fun hc => ?_) (fun hc => ?_) <;> (try simp only [TS] at hc))
      · rw [hc]
        simp +contextual (maxSteps := 2000000) (disch := first | omega | (simp only [SZ]; first | done | omega) | (simp only [TS] at *; omega)) only [RZ, ovw, oneC, reduceAdd, reduceMul, reduceSub, reduceEqDiff, reduceLT, ↓reduceIte, Int.reduceToNat, reduceLeDiff,  cutX_normal, cutX_ret, cutX_exit, cut2X_normal, cut2X_ret, cut2X_same, cut2X_ne]
        exact rfl
      · simp +contextual (maxSteps := 2000000) (disch := first | omega | (simp only [SZ]; first | done | omega) | (simp only [TS] at *; omega)) only [RZ, ovw, oneC, reduceAdd, reduceMul, reduceSub, reduceEqDiff, reduceLT, ↓reduceIte, Int.reduceToNat, reduceLeDiff,  cutX_normal, cutX_ret, cutX_exit, cut2X_normal, cut2X_ret, cut2X_same, cut2X_ne, hc]
        exact fun h => h
    · have hn : negB (bs s) = false := by rw [negB_bs]; simp; omega
      have hm : magB s = s := by unfold magB; rw [hn]; rfl
      simp +contextual (maxSteps := 2000000) (disch := first | omega | (simp only [SZ]; first | done | omega) | (simp only [TS] at *; omega)) only [RZ, ovw, oneC, reduceAdd, reduceMul, reduceSub, reduceEqDiff, reduceLT, ↓reduceIte, Int.reduceToNat, reduceLeDiff,  cutX_normal, cutX_ret, cutX_exit, cut2X_normal, cut2X_ret, cut2X_same, cut2X_ne, hn, hm]
      exact fun h => h.1
  rintro τ w' ⟨rfl, f0, hno⟩
  have hR : (decOK (magL (bs s)) && !(negB (bs s) && decide (magL (bs s) = [48]))) = decOK (bs (magB s)) := by
    rw [← bs_mag]
    have : (negB (bs s) && decide (bs (magB s) = [48])) = false := by
      rw [Bool.eq_false_iff]
      intro h
      rw [Bool.and_eq_true, decide_eq_true_eq] at h
      exact hno ⟨h.1, bs_inj (by rw [h.2]; rfl)⟩
    rw [this]
    simp
  rw [hR]
  clear hR hno
  generalize magB s = t at *
  simp +contextual (maxSteps := 2000000) (disch := first | omega | (simp only [SZ]; first | done | omega) | (simp only [TS] at *; omega)) only [RZ, ovw, oneC, reduceAdd, reduceMul, reduceSub, reduceEqDiff, reduceLT, ↓reduceIte, Int.reduceToNat, reduceLeDiff,  f0]
  (refine W_if rfl (fun hc => ?_) (fun hc => ?_) <;> (try simp only [TS] at hc))
  · simp +contextual (maxSteps := 2000000) (disch := first | omega | (simp only [SZ]; first | done | omega) | (simp only [TS] at *; omega)) only [RZ, ovw, oneC, reduceAdd, reduceMul, reduceSub, reduceEqDiff, reduceLT, ↓reduceIte, Int.reduceToNat, reduceLeDiff]
    exact ret_bool (by
      rcases hc with h | h
      · have : bs t = [] := List.length_eq_zero_iff.1 (by rw [bs_len]; omega)
        rw [this]; rfl
      · exact (decOK_zero (by rw [bs_get (by omega)]; congr 1; omega) (by rw [bs_len]; omega)).symm)
  simp +contextual (maxSteps := 2000000) (disch := first | omega | (simp only [SZ]; first | done | omega) | (simp only [TS] at *; omega)) only [RZ, ovw, oneC, reduceAdd, reduceMul, reduceSub, reduceEqDiff, reduceLT, ↓reduceIte, Int.reduceToNat, reduceLeDiff,  f0]
  refine Raw_loop (fun σ w2 => w2 = w' ∧ ∃ k : Nat, k ≤ t.size ∧ (∀ j, j < k → 48 ≤ bt t j ∧ bt t j ≤ 57) ∧ σ 0 = .string t ∧ σ 3 = .int .i64 k) (fun σ _ => t.size - (intOf (σ 3)).toNat) ?_ ?_
  · simp +contextual (maxSteps := 2000000) (disch := first | omega | (simp only [SZ]; first | done | omega) | (simp only [TS] at *; omega)) only [RZ, ovw, oneC, reduceAdd, reduceMul, reduceSub, reduceEqDiff, reduceLT, ↓reduceIte, Int.reduceToNat, reduceLeDiff,  f0]
    exact ⟨0, Nat.zero_le _, fun j hj => absurd hj (Nat.not_lt_zero _), rfl⟩
  rintro σ w2 ⟨rfl, k, hk, hup, f0, f3⟩ K hK
  simp +contextual (maxSteps := 2000000) (disch := first | omega | (simp only [SZ]; first | done | omega) | (simp only [TS] at *; omega)) only [RZ, ovw, oneC, reduceAdd, reduceMul, reduceSub, reduceEqDiff, reduceLT, ↓reduceIte, Int.reduceToNat, reduceLeDiff,  f0, f3]
  by_cases hkl : k < t.size
  · have e1 : decide ((k : Int) < t.size) = true := decide_eq_true (by omega)
    simp +contextual (maxSteps := 2000000) (disch := first | omega | (simp only [SZ]; first | done | omega) | (simp only [TS] at *; omega)) only [RZ, ovw, oneC, reduceAdd, reduceMul, reduceSub, reduceEqDiff, reduceLT, ↓reduceIte, Int.reduceToNat, reduceLeDiff,  e1]
    refine W_if_t rfl ?_
    simp +contextual (maxSteps := 2000000) (disch := first | omega | (simp only [SZ]; first | done | omega) | (simp only [TS] at *; omega)) only [RZ, ovw, oneC, reduceAdd, reduceMul, reduceSub, reduceEqDiff, reduceLT, ↓reduceIte, Int.reduceToNat, reduceLeDiff,  f0, f3]
    (refine W_if rfl (fun hc => ?_) (fun hc => ?_) <;> (try simp only [TS] at hc))
    · simp +contextual (maxSteps := 2000000) (disch := first | omega | (simp only [SZ]; first | done | omega) | (simp only [TS] at *; omega)) only [RZ, ovw, oneC, reduceAdd, reduceMul, reduceSub, reduceEqDiff, reduceLT, ↓reduceIte, Int.reduceToNat, reduceLeDiff,  f0, f3]
      exact ret_bool (decOK_bad (bs_get (i := k) (by omega)) (by omega)).symm
    · simp +contextual (maxSteps := 2000000) (disch := first | omega | (simp only [SZ]; first | done | omega) | (simp only [TS] at *; omega)) only [RZ, ovw, oneC, reduceAdd, reduceMul, reduceSub, reduceEqDiff, reduceLT, ↓reduceIte, Int.reduceToNat, reduceLeDiff,  f0, f3]
      refine hK _ _ ⟨rfl, k + 1, by omega, fun j hj => ?_, ?_⟩ ?_
      · rcases Nat.lt_or_eq_of_le (Nat.lt_succ_iff.1 hj) with h | rfl
        · exact hup j h
        · omega
      · simp +contextual (maxSteps := 2000000) (disch := first | omega | (simp only [SZ]; first | done | omega) | (simp only [TS] at *; omega)) only [RZ, ovw, oneC, reduceAdd, reduceMul, reduceSub, reduceEqDiff, reduceLT, ↓reduceIte, Int.reduceToNat, reduceLeDiff,  f0, f3]
      · simp +contextual (maxSteps := 2000000) (disch := first | omega | (simp only [SZ]; first | done | omega) | (simp only [TS] at *; omega)) only [RZ, ovw, oneC, reduceAdd, reduceMul, reduceSub, reduceEqDiff, reduceLT, ↓reduceIte, Int.reduceToNat, reduceLeDiff,  intOf, f3]
        omega
  · have e1 : decide ((k : Int) < t.size) = false := decide_eq_false (by omega)
    simp +contextual (maxSteps := 2000000) (disch := first | omega | (simp only [SZ]; first | done | omega) | (simp only [TS] at *; omega)) only [RZ, ovw, oneC, reduceAdd, reduceMul, reduceSub, reduceEqDiff, reduceLT, ↓reduceIte, Int.reduceToNat, reduceLeDiff,  e1]
    refine W_if_f rfl ?_
    simp +contextual (maxSteps := 2000000) (disch := first | omega | (simp only [SZ]; first | done | omega) | (simp only [TS] at *; omega)) only [RZ, ovw, oneC, reduceAdd, reduceMul, reduceSub, reduceEqDiff, reduceLT, ↓reduceIte, Int.reduceToNat, reduceLeDiff,  f0, f3]
    refine ret_bool (decOK_yes (bs_ne (by omega)) (fun h => ?_) (fun j c hj => ?_)).symm
    · have := (bs_at h.1).2
      rw [bs_len] at h
      omega
    · obtain ⟨h1, rfl⟩ := bs_at hj
      exact hup j (by omega)
theorem rnumParse_any (s : ByteArray) (w : World) (hs : s.size ≤ 1000000000) : Calls Tryz.prog 118 #[.string s] w fun e w' => e = .returned (.tuple #[.int .i64 (numE (bs s)).1, .int .i64 (numE (bs s)).2]) ∧ w = w' := by
  refine calls_W (l := [_]) Tryz.func118 rfl _ Tryz.ntmps118 (by simp) ?_
  have hms := mag_sz s
  simp +contextual (maxSteps := 2000000) (disch := first | omega | (simp only [SZ]; first | done | omega) | (simp only [TS] at *; omega)) only [RZ, ovw, oneC, reduceAdd, reduceMul, reduceSub, reduceEqDiff, reduceLT, ↓reduceIte, Int.reduceToNat, reduceLeDiff]
  refine (rdecimal_any s w hs).mono ?_
  rintro e w1 ⟨rfl, rfl⟩
  refine ⟨_, rfl, ?_⟩
  cases hd : (decOK (magL (bs s)) && !(negB (bs s) && decide (magL (bs s) = [48]))) with
  | false =>
    have hbad : decOK (magL (bs s)) = false ∨ (negB (bs s) = true ∧ magL (bs s) = [48]) := by
      rw [Bool.and_eq_false_iff] at hd
      rcases hd with h | h
      · exact .inl h
      · simp at h
        exact .inr h
    rw [numE_bad hbad]
    simp +contextual (maxSteps := 2000000) (disch := first | omega | (simp only [SZ]; first | done | omega) | (simp only [TS] at *; omega)) only [RZ, ovw, oneC, reduceAdd, reduceMul, reduceSub, reduceEqDiff, reduceLT, ↓reduceIte, Int.reduceToNat, reduceLeDiff]
    refine W_if_t rfl ?_
    simp +contextual (maxSteps := 2000000) (disch := first | omega | (simp only [SZ]; first | done | omega) | (simp only [TS] at *; omega)) only [RZ, ovw, oneC, reduceAdd, reduceMul, reduceSub, reduceEqDiff, reduceLT, ↓reduceIte, Int.reduceToNat, reduceLeDiff]
  | true =>
    have hgood : ¬ (decOK (magL (bs s)) = false ∨ (negB (bs s) = true ∧ magL (bs s) = [48])) := by
      rw [Bool.and_eq_true] at hd
      rintro (h | ⟨h1, h2⟩)
      · rw [h] at hd; cases hd.1
      · rw [h1, h2] at hd
        simp at hd
    have hdo : decOK (bs (magB s)) = true := by
      rw [bs_mag]
      cases h : decOK (magL (bs s)) with
      | true => rfl
      | false => exact absurd (.inl h) hgood
    have hpos : 0 < s.size := by
      have : bs (magB s) ≠ [] := fun h => by rw [h] at hdo; cases hdo
      have h2 : 0 < (bs (magB s)).length := List.length_pos_iff.2 this
      rw [bs_len] at h2
      omega
    have hdg := decOK_all hdo
    have hR2 := numE_over hgood
    have hR3 := numE_in hgood
    rw [← bs_mag] at hR2 hR3
    have hlong := valD_long hdo
    rw [bs_len] at hlong
    have hl : limN (negB (bs s)) = 9223372036854775807 ∨ limN (negB (bs s)) = 9223372036854775808 := by cases negB (bs s) <;> simp [limN]
    simp +contextual (maxSteps := 2000000) (disch := first | omega | (simp only [SZ]; first | done | omega) | (simp only [TS] at *; omega)) only [RZ, ovw, oneC, reduceAdd, reduceMul, reduceSub, reduceEqDiff, reduceLT, ↓reduceIte, Int.reduceToNat, reduceLeDiff]
    refine W_if_f rfl ?_
    simp +contextual (maxSteps := 2000000) (disch := first | omega | (simp only [SZ]; first | done | omega) | (simp only [TS] at *; omega)) only [RZ, ovw, oneC, reduceAdd, reduceMul, reduceSub, reduceEqDiff, reduceLT, ↓reduceIte, Int.reduceToNat, reduceLeDiff]
    refine W_cut (fun τ w' => w' = w ∧ τ 0 = .string (magB s) ∧ τ 4 = .bool (negB (bs s))) ?_ ?_
    rotate_left
    · by_cases h45 : bt s 0 = 45
      · have hn : negB (bs s) = true := by rw [negB_bs]; simp; omega
        have hm : s.extract 1 s.size = magB s := by unfold magB; rw [if_pos hn]
        have e1 : decide ((bt s 0 : Int) = 45) = true := decide_eq_true (by omega)
        rw [hn]
        simp +contextual (maxSteps := 2000000) (disch := first | omega | (simp only [SZ]; first | done | omega) | (simp only [TS] at *; omega)) only [RZ, ovw, oneC, reduceAdd, reduceMul, reduceSub, reduceEqDiff, reduceLT, ↓reduceIte, Int.reduceToNat, reduceLeDiff,  e1]
        refine W_if_t rfl ?_
        simp +contextual (maxSteps := 2000000) (disch := first | omega | (simp only [SZ]; first | done | omega) | (simp only [TS] at *; omega)) only [RZ, ovw, oneC, reduceAdd, reduceMul, reduceSub, reduceEqDiff, reduceLT, ↓reduceIte, Int.reduceToNat, reduceLeDiff,  cutX_normal, cutX_ret, cutX_exit, cut2X_normal, cut2X_ret, cut2X_same, cut2X_ne, hm]
      · have hn : negB (bs s) = false := by rw [negB_bs]; simp; omega
        have hm : magB s = s := by unfold magB; rw [hn]; rfl
        have e1 : decide ((bt s 0 : Int) = 45) = false := decide_eq_false (by omega)
        rw [hn]
        simp +contextual (maxSteps := 2000000) (disch := first | omega | (simp only [SZ]; first | done | omega) | (simp only [TS] at *; omega)) only [RZ, ovw, oneC, reduceAdd, reduceMul, reduceSub, reduceEqDiff, reduceLT, ↓reduceIte, Int.reduceToNat, reduceLeDiff,  e1]
        refine W_if_f rfl ?_
        simp +contextual (maxSteps := 2000000) (disch := first | omega | (simp only [SZ]; first | done | omega) | (simp only [TS] at *; omega)) only [RZ, ovw, oneC, reduceAdd, reduceMul, reduceSub, reduceEqDiff, reduceLT, ↓reduceIte, Int.reduceToNat, reduceLeDiff,  cutX_normal, cutX_ret, cutX_exit, cut2X_normal, cut2X_ret, cut2X_same, cut2X_ne, hm]
    rintro τ w' ⟨rfl, f0, f4⟩
    generalize hRR : numE (bs s) = R at *
    generalize negB (bs s) = ng at *
    generalize magB s = t at *
    simp +contextual (maxSteps := 2000000) (disch := first | omega | (simp only [SZ]; first | done | omega) | (simp only [TS] at *; omega)) only [RZ, ovw, oneC, reduceAdd, reduceMul, reduceSub, reduceEqDiff, reduceLT, ↓reduceIte, Int.reduceToNat, reduceLeDiff,  f0, f4]
    (refine W_if rfl (fun hc => ?_) (fun hc => ?_) <;> (try simp only [TS] at hc))
    · rw [hR2 (by have := hlong (by omega); omega)]
      simp +contextual (maxSteps := 2000000) (disch := first | omega | (simp only [SZ]; first | done | omega) | (simp only [TS] at *; omega)) only [RZ, ovw, oneC, reduceAdd, reduceMul, reduceSub, reduceEqDiff, reduceLT, ↓reduceIte, Int.reduceToNat, reduceLeDiff]
    have hsh := valD_short hdg (n := 19) (by rw [bs_len]; omega) (Nat.le_refl _)
    simp +contextual (maxSteps := 2000000) (disch := first | omega | (simp only [SZ]; first | done | omega) | (simp only [TS] at *; omega)) only [RZ, ovw, oneC, reduceAdd, reduceMul, reduceSub, reduceEqDiff, reduceLT, ↓reduceIte, Int.reduceToNat, reduceLeDiff,  f0, f4]
    refine Raw_loop (fun σ w2 => w2 = w' ∧ ∃ k : Nat, k ≤ t.size ∧ σ 0 = .string t ∧ σ 4 = .bool ng ∧ σ 5 = .int .u64 (valD 0 ((bs t).take k)) ∧ σ 6 = .int .i64 k) (fun σ _ => t.size - (intOf (σ 6)).toNat) ?_ ?_
    · simp +contextual (maxSteps := 2000000) (disch := first | omega | (simp only [SZ]; first | done | omega) | (simp only [TS] at *; omega)) only [RZ, ovw, oneC, reduceAdd, reduceMul, reduceSub, reduceEqDiff, reduceLT, ↓reduceIte, Int.reduceToNat, reduceLeDiff,  f0, f4]
      exact ⟨0, Nat.zero_le _, rfl, rfl⟩
    rintro σ w2 ⟨rfl, k, hk, f0, f4, f5, f6⟩ K hK
    simp +contextual (maxSteps := 2000000) (disch := first | omega | (simp only [SZ]; first | done | omega) | (simp only [TS] at *; omega)) only [RZ, ovw, oneC, reduceAdd, reduceMul, reduceSub, reduceEqDiff, reduceLT, ↓reduceIte, Int.reduceToNat, reduceLeDiff,  f0, f4, f5, f6]
    (refine W_if rfl (fun hc => ?_) (fun hc => ?_) <;> (try simp only [TS] at hc))
    · have hg := bs_get (s := t) (i := k) (by omega)
      have hdk := hdg _ (List.mem_of_getElem? hg)
      have hst := valD_step hg
      have hle := valD_take (bs t) (k + 1)
      generalize hv1 : valD 0 ((bs t).take (k + 1)) = v1 at *
      generalize valD 0 ((bs t).take k) = v0 at *
      simp +contextual (maxSteps := 2000000) (disch := first | omega | (simp only [SZ]; first | done | omega) | (simp only [TS] at *; omega)) only [RZ, ovw, oneC, reduceAdd, reduceMul, reduceSub, reduceEqDiff, reduceLT, ↓reduceIte, Int.reduceToNat, reduceLeDiff,  f0, f4, f5, f6]
      refine hK _ _ ⟨rfl, k + 1, by omega, ?_⟩ ?_
      · simp +contextual (maxSteps := 2000000) (disch := first | omega | (simp only [SZ]; first | done | omega) | (simp only [TS] at *; omega)) only [RZ, ovw, oneC, reduceAdd, reduceMul, reduceSub, reduceEqDiff, reduceLT, ↓reduceIte, Int.reduceToNat, reduceLeDiff,  f0, f4, f5, f6]
        rw [hv1, hst]
        congr 1
        omega
      · simp +contextual (maxSteps := 2000000) (disch := first | omega | (simp only [SZ]; first | done | omega) | (simp only [TS] at *; omega)) only [RZ, ovw, oneC, reduceAdd, reduceMul, reduceSub, reduceEqDiff, reduceLT, ↓reduceIte, Int.reduceToNat, reduceLeDiff,  intOf, f6]
        omega
    · have hke : (bs t).take k = bs t := List.take_of_length_le (by rw [bs_len]; omega)
      rw [hke] at f5
      simp +contextual (maxSteps := 2000000) (disch := first | omega | (simp only [SZ]; first | done | omega) | (simp only [TS] at *; omega)) only [RZ, ovw, oneC, reduceAdd, reduceMul, reduceSub, reduceEqDiff, reduceLT, ↓reduceIte, Int.reduceToNat, reduceLeDiff,  f0, f4, f5, f6]
      refine (rsigned_any (valD 0 (bs t)) ng w2 (by omega)).mono ?_
      rintro e w3 ⟨rfl, rfl⟩
      refine ⟨_, rfl, ?_⟩
      by_cases hov : limN ng < valD 0 (bs t)
      · have e1 : ((limN ng : Int) < (valD 0 (bs t) : Int)) = True := eq_true (by omega)
        rw [hR2 hov]
        simp +contextual (maxSteps := 2000000) (disch := first | omega | (simp only [SZ]; first | done | omega) | (simp only [TS] at *; omega)) only [RZ, ovw, oneC, reduceAdd, reduceMul, reduceSub, reduceEqDiff, reduceLT, ↓reduceIte, Int.reduceToNat, reduceLeDiff,  e1]
      · have e1 : ((limN ng : Int) < (valD 0 (bs t) : Int)) = False := eq_false (by omega)
        rw [hR3 (by omega)]
        simp +contextual (maxSteps := 2000000) (disch := first | omega | (simp only [SZ]; first | done | omega) | (simp only [TS] at *; omega)) only [RZ, ovw, oneC, reduceAdd, reduceMul, reduceSub, reduceEqDiff, reduceLT, ↓reduceIte, Int.reduceToNat, reduceLeDiff,  e1]
end Go.Proofs.YtbdkggnajipdhaaGreatDoor
/- The reference's reader of games: its state; fail, is, need. -/
namespace Go.Proofs.YtbdkggnajipdhaaGreatDoor
open Nat (reduceAdd reduceMul reduceSub reduceEqDiff reduceLT reduceLeDiff)
open Go.RowKit
set_option maxRecDepth 100000
/-- What the tokens' texts are. -/
def TokW (T : List Tk) : Prop := ∀ t ∈ T, (t.kind = 0 ∧ bs t.text = []) ∨ ∃ k : Nat, t.kind = k ∧ good k (bs t.text)
/-- The reference's reader in its block: where it is, its game and its items, the error and its line. -/
structure PrIn (w : World) (g : Nat) (A : Option Addr) (c : Nat) (T : List Tk) (a : Nat) (rest : List Value) (er ln : Int) : Prop where
  lt : a < T.length
  arr : Arr w A 4 (T.map encTk)
  off : ∀ b o, A = some ⟨b, o, none⟩ → b ≠ g
  len : rest.length = 23
  row : Row w g 58 (.slice A T.length c :: .int .i64 a :: (rest ++ [.int .i64 er, .int .i64 ln]))
/-- Going on at L, or refused. -/
def Ls (T : List Tk) (x : Except (Int × List Tk) (List Tk)) (a : Nat) (er ln : Int) : Prop := match x with
  | .ok L => er = 0 ∧ L = T.drop a
  | .error y => er = y.1 ∧ y.1 ≠ 0 ∧ ln = (hdT y.2).line
def Rs (w : World) (g : Nat) (A : Option Addr) (c : Nat) (T : List Tk) (x : Except (Int × List Tk) (List Tk)) (rest : List Value) : Prop := ∃ (a : Nat) (er ln : Int), PrIn w g A c T a rest er ln ∧ Ls T x a er ln
def sndX {α : Type} (x : Except (Int × List Tk) (α × List Tk)) : Except (Int × List Tk) (List Tk) := match x with
  | .ok y => .ok y.2
  | .error e => .error e
/-- What a leaf of the reader gives: a value, the one of x if the reader goes on. -/
def Lr {α : Type} (g : Nat) (A : Option Addr) (c : Nat) (T : List Tk) (rest : List Value) (w : World) (x : Except (Int × List Tk) (α × List Tk)) (val : α → Value) (e : Ending) (w' : World) : Prop :=
  ∃ v : α, e = .returned (val v) ∧ Rs w' g A c T (sndX x) rest ∧ Kept [g] w w' ∧ ∀ y, x = .ok y → v = y.1
def isWM (w : List Nat) (L : List Tk) : Bool := decide (((hdT L).kind = 1 ∨ (hdT L).kind = 3) ∧ bs (hdT L).text = w)
def isX (x : Except (Int × List Tk) (List Tk)) (w : List Nat) : Bool := match x with
  | .ok L => isWM w L
  | .error _ => false
def needX (w : List Nat) (L : List Tk) : Except (Int × List Tk) (Unit × List Tk) := if isWM w L = true then .ok ((), nxT L) else .error (1, L)
def moreX (x : Except (Int × List Tk) (List Tk)) : Bool := match x with
  | .ok L => decide ((hdT L).kind = 2)
  | .error _ => false
section
variable {g c a : Nat} {A : Option Addr} {T : List Tk} {w : World} {rest : List Value} {er ln : Int} {x : Except (Int × List Tk) (List Tk)}
theorem PrIn.kept {X : List Nat} {w' : World} (h : PrIn w g A c T a rest er ln) (k : Kept X w w') (hg : g ∉ X) (hA : ∀ b o, A = some ⟨b, o, none⟩ → b ∉ X) : PrIn w' g A c T a rest er ln :=
  ⟨h.lt, h.arr.kept k hA, h.off, h.len, h.row.kept k hg⟩
theorem PrIn.below {w' : World} (h : PrIn w g A c T a rest er ln) (k : Below w.heap.size w w') : PrIn w' g A c T a rest er ln :=
  ⟨h.lt, h.arr.below k, h.off, h.len, h.row.below k⟩
theorem PrIn.drew (h : PrIn w g A c T a rest er ln) : PrIn w.drew g A c T a rest er ln := h.kept (X := []) (Kept.refl _ _).drew (by simp) (by simp)
theorem tail_get {xs : List Value} (h : xs.length = 23) (p q u v : Value) : (p :: q :: (xs ++ [u, v]))[25]? = some u ∧ (p :: q :: (xs ++ [u, v]))[26]? = some v := by
  rw [List.getElem?_cons_succ, List.getElem?_cons_succ, List.getElem?_cons_succ, List.getElem?_cons_succ, List.getElem?_append_right (by omega), List.getElem?_append_right (by omega), h]
  exact ⟨rfl, rfl⟩
theorem tail_set {xs : List Value} (h : xs.length = 23) (p q u v z : Value) : (p :: q :: (xs ++ [u, v])).set 25 z = (p :: q :: (xs ++ [z, v])) ∧ (p :: q :: (xs ++ [u, v])).set 26 z = (p :: q :: (xs ++ [u, z])) := by
  rw [List.set_cons_succ, List.set_cons_succ, List.set_cons_succ, List.set_cons_succ, List.set_append_right _ _ (by omega), List.set_append_right _ _ (by omega), h]
  exact ⟨rfl, rfl⟩
theorem PrIn.c0 (h : PrIn w g A c T a rest er ln) : w.cell? ⟨g, 0, none⟩ = some (.slice A T.length c) := h.row.cell (i := 0) rfl
theorem PrIn.c1 (h : PrIn w g A c T a rest er ln) : w.cell? ⟨g, 1, none⟩ = some (.int .i64 a) := h.row.cell (i := 1) rfl
theorem PrIn.c25 (h : PrIn w g A c T a rest er ln) : w.cell? ⟨g, 25, none⟩ = some (.int .i64 er) := h.row.cell (tail_get h.len _ _ _ _).1
theorem PrIn.c26 (h : PrIn w g A c T a rest er ln) : w.cell? ⟨g, 26, none⟩ = some (.int .i64 ln) := h.row.cell (tail_get h.len _ _ _ _).2
theorem PrIn.set1 (h : PrIn w g A c T a rest er ln) {a' : Nat} (ha : a' < T.length) : PrIn (w.setCell ⟨g, 1, none⟩ (.int .i64 a')) g A c T a' rest er ln :=
  ⟨ha, h.arr.kept ((Kept.refl [g] w).setCell (p := ⟨g, 1, none⟩) (by simp) _) (fun b o hb => by simpa using h.off b o hb), h.off, h.len, h.row.set_ (i := 1) (by simp) (.int .i64 a')⟩
theorem PrIn.set25 (h : PrIn w g A c T a rest er ln) (e' : Int) : PrIn (w.setCell ⟨g, 25, none⟩ (.int .i64 e')) g A c T a rest e' ln := by
  refine ⟨h.lt, h.arr.kept ((Kept.refl [g] w).setCell (p := ⟨g, 25, none⟩) (by simp) _) (fun b o hb => by simpa using h.off b o hb), h.off, h.len, ?_⟩
  have := h.row.set_ (i := 25) (by simp [h.len]) (.int .i64 e')
  rw [(tail_set h.len _ _ _ _ _).1] at this
  exact this
theorem PrIn.set26 (h : PrIn w g A c T a rest er ln) (e' : Int) : PrIn (w.setCell ⟨g, 26, none⟩ (.int .i64 e')) g A c T a rest er e' := by
  refine ⟨h.lt, h.arr.kept ((Kept.refl [g] w).setCell (p := ⟨g, 26, none⟩) (by simp) _) (fun b o hb => by simpa using h.off b o hb), h.off, h.len, ?_⟩
  have := h.row.set_ (i := 26) (by simp [h.len]) (.int .i64 e')
  rw [(tail_set h.len _ _ _ _ _).2] at this
  exact this
theorem PrIn.setR (h : PrIn w g A c T a rest er ln) {i : Nat} (hi : i < 23) (v : Value) : PrIn (w.setCell ⟨g, i + 2, none⟩ v) g A c T a (rest.set i v) er ln := by
  refine ⟨h.lt, h.arr.kept ((Kept.refl [g] w).setCell (p := ⟨g, i + 2, none⟩) (by simp) _) (fun b o hb => by simpa using h.off b o hb), h.off, by rw [List.length_set]; exact h.len, ?_⟩
  have := h.row.set_ (i := i + 2) (by simp [h.len]; omega) v
  rw [List.set_cons_succ, List.set_cons_succ, List.set_append_left _ _ (by rw [h.len]; exact hi)] at this
  exact this
theorem PrIn.cR (h : PrIn w g A c T a rest er ln) {i : Nat} {v : Value} (hi : rest[i]? = some v) : w.cell? ⟨g, i + 2, none⟩ = some v := by
  refine h.row.cell (i := i + 2) ?_
  rw [List.getElem?_cons_succ, List.getElem?_cons_succ, List.getElem?_append_left (List.getElem?_eq_some_iff.1 hi).1]
  exact hi
/-- The token in front: its cells. -/
theorem PrIn.tok (h : PrIn w g A c T a rest er ln) : ∃ b o : Nat, A = some ⟨b, o, none⟩ ∧ b < w.heap.size ∧ b ≠ g ∧
    w.cell? ⟨b, o + a * 4, none⟩ = some (.int .i64 (hdT (T.drop a)).kind) ∧ w.cell? ⟨b, o + a * 4 + 1, none⟩ = some (.int .i64 (hdT (T.drop a)).line) ∧
    w.cell? ⟨b, o + a * 4 + 2, none⟩ = some (.int .i64 (hdT (T.drop a)).col) ∧ w.cell? ⟨b, o + a * 4 + 3, none⟩ = some (.string (hdT (T.drop a)).text) := by
  have ht := List.getElem?_eq_getElem h.lt
  rw [hdT_drop ht]
  obtain ⟨b, o, rfl, hb, hcell⟩ := h.arr.at_ ht
  have l0 := hcell 0 _ rfl
  have l1 := hcell 1 _ rfl
  have l2 := hcell 2 _ rfl
  have l3 := hcell 3 _ rfl
  exact ⟨b, o, rfl, hb, h.off b o rfl, l0, l1, l2, l3⟩
theorem Rs.kept {X : List Nat} {w' : World} (h : Rs w g A c T x rest) (k : Kept X w w') (hg : g ∉ X) (hA : ∀ b o, A = some ⟨b, o, none⟩ → b ∉ X) : Rs w' g A c T x rest := by
  obtain ⟨a, er, ln, h1, h2⟩ := h
  exact ⟨a, er, ln, h1.kept k hg hA, h2⟩
theorem Rs.below {w' : World} (h : Rs w g A c T x rest) (k : Below w.heap.size w w') : Rs w' g A c T x rest := by
  obtain ⟨a, er, ln, h1, h2⟩ := h
  exact ⟨a, er, ln, h1.below k, h2⟩
/-- Going on, or refused. -/
theorem Rs.cases (h : Rs w g A c T x rest) : ∃ (a : Nat) (er ln : Int), PrIn w g A c T a rest er ln ∧ ((er = 0 ∧ x = .ok (T.drop a)) ∨ (er ≠ 0 ∧ ∃ L, x = .error (er, L) ∧ ln = (hdT L).line)) := by
  obtain ⟨a, er, ln, h1, h2⟩ := h
  refine ⟨a, er, ln, h1, ?_⟩
  cases x with
  | ok L =>
    obtain ⟨rfl, rfl⟩ := h2
    exact .inl ⟨rfl, rfl⟩
  | error y =>
    obtain ⟨rfl, h3, h4⟩ := h2
    exact .inr ⟨h3, y.2, rfl, h4⟩
theorem PrIn.rs (h : PrIn w g A c T a rest 0 ln) : Rs w g A c T (.ok (T.drop a)) rest := ⟨a, 0, ln, h, rfl, rfl⟩
theorem PrIn.rse (h : PrIn w g A c T a rest er ln) {L : List Tk} (he : er ≠ 0) (hl : ln = (hdT L).line) : Rs w g A c T (.error (er, L)) rest := ⟨a, er, ln, h, rfl, he, hl⟩
theorem rgFail_any (e : Int) (he : e ≠ 0) (h : Rs w g A c T x rest) : Calls Tryz.prog 28 #[.pointer (some ⟨g, 0, none⟩), .int .i64 e] w fun en w' => (∃ v, en = .returned v) ∧ Rs w' g A c T (bindT x fun L => .error (e, L)) rest ∧ Kept [g] w w' := by
  refine calls_W (l := [_, _]) Tryz.func28 rfl _ Tryz.ntmps28 (by simp) ?_
  obtain ⟨a, er, ln, h1, hx⟩ := h.cases
  have c25 := h1.c25
  rcases hx with ⟨rfl, rfl⟩ | ⟨hne, L, rfl, hl⟩
  · simp +contextual (maxSteps := 2000000) (disch := first | omega | (simp only [SZ]; first | done | omega) | (simp only [TS] at *; omega)) only [RZ, ovw, oneC, reduceAdd, reduceMul, reduceSub, reduceEqDiff, reduceLT, ↓reduceIte, Int.reduceToNat, reduceLeDiff,  c25]
    refine W_if_t rfl ?_
    have y25 := h1.row.frozen 25
    simp +contextual (maxSteps := 2000000) (disch := first | omega | (simp only [SZ]; first | done | omega) | (simp only [TS] at *; omega)) only [RZ, ovw, oneC, reduceAdd, reduceMul, reduceSub, reduceEqDiff, reduceLT, ↓reduceIte, Int.reduceToNat, reduceLeDiff,  c25, y25]
    have h2 := h1.set25 e
    have k2 := (Kept.refl [g] w).setCell (p := ⟨g, 25, none⟩) (by simp) (.int .i64 e)
    generalize w.setCell ⟨g, 25, none⟩ (.int .i64 e) = w1 at *
    obtain ⟨b, o, rfl, hb, hbg, l0, l1, l2, l3⟩ := h2.drew.tok
    have hlt := h1.lt
    have c0 := h2.drew.c0
    have c1 := h2.drew.c1
    have y26 := h2.drew.row.frozen 26
    have c26 := h2.drew.c26
    refine Raw_tail 14 MX (by kernel_rfl) ?_
    dsimp only [List.take, List.drop]
    simp +contextual (maxSteps := 2000000) (disch := first | omega | (simp only [SZ]; first | done | omega) | (simp only [TS] at *; omega)) only [RZ, ovw, oneC, reduceAdd, reduceMul, reduceSub, reduceEqDiff, reduceLT, ↓reduceIte, Int.reduceToNat, reduceLeDiff,  c0, c1, l1, c26, y26]
    have h3 := h2.drew.set26 (hdT (T.drop a)).line
    have k3 := k2.drew.setCell (p := ⟨g, 26, none⟩) (by simp) (.int .i64 (hdT (T.drop a)).line)
    exact ⟨⟨_, rfl⟩, h3.rse he rfl, k3⟩
  · have e1 : (er = 0) = False := eq_false hne
    simp +contextual (maxSteps := 2000000) (disch := first | omega | (simp only [SZ]; first | done | omega) | (simp only [TS] at *; omega)) only [RZ, ovw, oneC, reduceAdd, reduceMul, reduceSub, reduceEqDiff, reduceLT, ↓reduceIte, Int.reduceToNat, reduceLeDiff,  c25, e1]
    refine W_if_f rfl ?_
    simp +contextual (maxSteps := 2000000) (disch := first | omega | (simp only [SZ]; first | done | omega) | (simp only [TS] at *; omega)) only [RZ, ovw, oneC, reduceAdd, reduceMul, reduceSub, reduceEqDiff, reduceLT, ↓reduceIte, Int.reduceToNat, reduceLeDiff]
    exact ⟨⟨_, rfl⟩, h, Kept.refl _ _⟩
theorem rgIs_any (s : ByteArray) (h : Rs w g A c T x rest) : Calls Tryz.prog 26 #[.pointer (some ⟨g, 0, none⟩), .string s] w fun en w' => en = .returned (.bool (isX x (bs s))) ∧ Below w.heap.size w w' := by
  refine calls_W (l := [_, _]) Tryz.func26 rfl _ Tryz.ntmps26 (by simp) ?_
  obtain ⟨a, er, ln, h1, hx⟩ := h.cases
  obtain ⟨b, o, rfl, hb, hbg, l0, l1, l2, l3⟩ := h1.tok
  have hlt := h1.lt
  have c0 := h1.c0
  have c1 := h1.c1
  have hgl := h1.row.lt
  simp +contextual (maxSteps := 2000000) (disch := first | omega | (simp only [SZ]; first | done | omega) | (simp only [TS] at *; omega)) only [RZ, ovw, oneC, reduceAdd, reduceMul, reduceSub, reduceEqDiff, reduceLT, ↓reduceIte, Int.reduceToNat, reduceLeDiff]
  have hJ0 : Below w.heap.size w w.drew := below_drew (Below.refl _ _)
  refine Raw_rcS (τ := ?ta) (fun w' => Below w.heap.size w w') [0, 1, 2, 3, 4, 5, 6, 7, 8, 9] [10, 11] MX rfl (by kernel_rfl) (by kernel_rfl) (by kernel_rfl) (fun _ _ _ h => h) hJ0 (fun w7 h7 => ?_) ?_; rotate_left
  · have k := (bcell h7).1
    have l0 := (k _ _ hb).trans l0
    have l1 := (k _ _ hb).trans l1
    have l2 := (k _ _ hb).trans l2
    have l3 := (k _ _ hb).trans l3
    have c0 := (k _ _ hgl).trans c0
    have c1 := (k _ _ hgl).trans c1
    simp only [opsL_cons, opsL_nil, List.getElem?_toArray, List.getElem?_cons_zero, List.getElem?_cons_succ, optL_some]
    simp +contextual (maxSteps := 2000000) (disch := first | omega | (simp only [SZ]; first | done | omega) | (simp only [TS] at *; omega)) only [RZ, ovw, oneC, reduceAdd, reduceMul, reduceSub, reduceEqDiff, reduceLT, ↓reduceIte, Int.reduceToNat, reduceLeDiff,  c0, c1, l0, l1, l2, l3]
    exact rfl
  simp only [opsL_cons, opsL_nil, List.getElem?_toArray, List.getElem?_cons_zero, List.getElem?_cons_succ, optL_some]
  simp +contextual (maxSteps := 2000000) (disch := first | omega | (simp only [SZ]; first | done | omega) | (simp only [TS] at *; omega)) only [RZ, ovw, oneC, reduceAdd, reduceMul, reduceSub, reduceEqDiff, reduceLT, ↓reduceIte, Int.reduceToNat, reduceLeDiff,  EC_op, EC_nil]
  have hB := below_alloc w (.cells #[.int .i64 (hdT (T.drop a)).kind, .int .i64 (hdT (T.drop a)).line, .int .i64 (hdT (T.drop a)).col, .string (hdT (T.drop a)).text] 62)
  have hr := Row.new w 62 [.int .i64 (hdT (T.drop a)).kind, .int .i64 (hdT (T.drop a)).line, .int .i64 (hdT (T.drop a)).col, .string (hdT (T.drop a)).text]
  refine ⟨(below_alloc w _).trans ⟨rfl, rfl, rfl, Nat.le_refl _, fun _ _ => rfl⟩, hB.trans ⟨rfl, rfl, rfl, Nat.le_refl _, fun _ _ => rfl⟩, ?_⟩
  generalize w.alloc (.cells #[.int .i64 (hdT (T.drop a)).kind, .int .i64 (hdT (T.drop a)).line, .int .i64 (hdT (T.drop a)).col, .string (hdT (T.drop a)).text] 62) = w1 at *
  have c25 := h1.c25
  have v0 : w1.cell? _ = _ := hr.cell (i := 0) rfl
  have v3 : w1.cell? _ = _ := hr.cell (i := 3) rfl
  have hBd : Below w.heap.size w w1.drew := below_drew hB
  generalize htd : hdT (T.drop a) = t at *
  rcases hx with ⟨rfl, rfl⟩ | ⟨hne, L, rfl, hl⟩
  · simp +contextual (maxSteps := 2000000) (disch := first | omega | (simp only [SZ]; first | done | omega) | (simp only [TS] at *; omega)) only [RZ, ovw, oneC, reduceAdd, reduceMul, reduceSub, reduceEqDiff, reduceLT, ↓reduceIte, Int.reduceToNat, reduceLeDiff,  c25, v0, v3]
    refine ⟨ret_bool ?_, hBd⟩
    show _ = isWM _ _
    unfold isWM
    rw [htd, ← Bool.decide_or, ← Bool.decide_and]
    exact decide_eq_decide.2 ⟨fun h => ⟨h.1, by rw [h.2]⟩, fun h => ⟨h.1, bs_inj h.2⟩⟩
  · have e1 : (er = 0) = False := eq_false hne
    simp +contextual (maxSteps := 2000000) (disch := first | omega | (simp only [SZ]; first | done | omega) | (simp only [TS] at *; omega)) only [RZ, ovw, oneC, reduceAdd, reduceMul, reduceSub, reduceEqDiff, reduceLT, ↓reduceIte, Int.reduceToNat, reduceLeDiff,  c25, e1]
    exact ⟨rfl, hBd⟩
theorem isWM_end {T : List Tk} (hT : TokOk T) {a : Nat} (ha : a < T.length) {u : List Nat} (h : isWM u (T.drop a) = true) : a + 1 < T.length ∧ nxT (T.drop a) = T.drop (a + 1) := by
  unfold isWM at h
  rw [decide_eq_true_eq] at h
  exact nx_at hT ha (by omega)
/-- One token on. -/
theorem PrIn.go (h : PrIn w g A c T a rest 0 ln) (ha : a + 1 < T.length) : PrIn (w.setCell ⟨g, 1, none⟩ (.int .i64 ((a : Int) + 1))) g A c T (a + 1) rest 0 ln := h.set1 ha
theorem rgNeed_any (s : ByteArray) (hT : TokOk T) (h : Rs w g A c T x rest) : Calls Tryz.prog 24 #[.pointer (some ⟨g, 0, none⟩), .string s] w fun en w' => (∃ v, en = .returned v) ∧ Rs w' g A c T (sndX (bindT x (needX (bs s)))) rest ∧ Kept [g] w w' := by
  refine calls_W (l := [_, _]) Tryz.func24 rfl _ Tryz.ntmps24 (by simp) ?_
  simp +contextual (maxSteps := 2000000) (disch := first | omega | (simp only [SZ]; first | done | omega) | (simp only [TS] at *; omega)) only [RZ, ovw, oneC, reduceAdd, reduceMul, reduceSub, reduceEqDiff, reduceLT, ↓reduceIte, Int.reduceToNat, reduceLeDiff]
  refine (rgIs_any s h).mono ?_
  rintro e w1 ⟨rfl, b1⟩
  refine ⟨_, rfl, ?_⟩
  have h1 := h.below b1
  have k1 : Kept [g] w w1 := Kept.of_below b1
  obtain ⟨a, er, ln, p1, hx⟩ := h1.cases
  cases hi : isX x (bs s) with
  | false =>
    have e1 : sndX (bindT x (needX (bs s))) = bindT x fun L => .error (1, L) := by
      cases x with
      | ok L => show sndX (needX _ _) = _; unfold needX; rw [if_neg (by rw [show isWM (bs s) L = false from hi]; simp)]; rfl
      | error y => rfl
    rw [e1]
    simp +contextual (maxSteps := 2000000) (disch := first | omega | (simp only [SZ]; first | done | omega) | (simp only [TS] at *; omega)) only [RZ, ovw, oneC, reduceAdd, reduceMul, reduceSub, reduceEqDiff, reduceLT, ↓reduceIte, Int.reduceToNat, reduceLeDiff]
    refine W_if_t rfl ?_
    simp +contextual (maxSteps := 2000000) (disch := first | omega | (simp only [SZ]; first | done | omega) | (simp only [TS] at *; omega)) only [RZ, ovw, oneC, reduceAdd, reduceMul, reduceSub, reduceEqDiff, reduceLT, ↓reduceIte, Int.reduceToNat, reduceLeDiff]
    refine (rgFail_any 1 (by decide) h1).mono ?_
    rintro e w2 ⟨⟨v, rfl⟩, h2, k2⟩
    refine ⟨_, rfl, ?_⟩
    simp +contextual (maxSteps := 2000000) (disch := first | omega | (simp only [SZ]; first | done | omega) | (simp only [TS] at *; omega)) only [RZ, ovw, oneC, reduceAdd, reduceMul, reduceSub, reduceEqDiff, reduceLT, ↓reduceIte, Int.reduceToNat, reduceLeDiff]
    exact ⟨⟨_, rfl⟩, h2, k1.trans k2⟩
  | true =>
    rcases hx with ⟨rfl, rfl⟩ | ⟨hne, L, rfl, hl⟩
    · have hi' : isWM (bs s) (T.drop a) = true := hi
      obtain ⟨n1, n2⟩ := isWM_end hT p1.lt hi'
      have e1 : sndX (bindT (.ok (T.drop a)) (needX (bs s))) = .ok (T.drop (a + 1)) := by
        show sndX (needX _ _) = _
        unfold needX
        rw [if_pos hi', ← n2]; rfl
      rw [e1]
      have c1 := p1.c1
      have y1 := p1.row.frozen 1
      simp +contextual (maxSteps := 2000000) (disch := first | omega | (simp only [SZ]; first | done | omega) | (simp only [TS] at *; omega)) only [RZ, ovw, oneC, reduceAdd, reduceMul, reduceSub, reduceEqDiff, reduceLT, ↓reduceIte, Int.reduceToNat, reduceLeDiff]
      refine W_if_f rfl ?_
      have hbig := hT.big
      simp +contextual (maxSteps := 2000000) (disch := first | omega | (simp only [SZ]; first | done | omega) | (simp only [TS] at *; omega)) only [RZ, ovw, oneC, reduceAdd, reduceMul, reduceSub, reduceEqDiff, reduceLT, ↓reduceIte, Int.reduceToNat, reduceLeDiff,  c1, y1]
      exact ⟨⟨_, rfl⟩, (p1.go n1).rs, k1.setCell (p := ⟨g, 1, none⟩) (by simp) _⟩
    · cases hi
theorem rgMore_any (h : Rs w g A c T x rest) : Calls Tryz.prog 117 #[.pointer (some ⟨g, 0, none⟩)] w fun en w' => en = .returned (.bool (moreX x)) ∧ Below w.heap.size w w' := by
  refine calls_W (l := [_]) Tryz.func117 rfl _ Tryz.ntmps117 (by simp) ?_
  obtain ⟨a, er, ln, h1, hx⟩ := h.cases
  simp +contextual (maxSteps := 2000000) (disch := first | omega | (simp only [SZ]; first | done | omega) | (simp only [TS] at *; omega)) only [RZ, ovw, oneC, reduceAdd, reduceMul, reduceSub, reduceEqDiff, reduceLT, ↓reduceIte, Int.reduceToNat, reduceLeDiff]
  refine Raw_still MX (by kernel_rfl) ?_
  obtain ⟨b, o, rfl, hb, hbg, l0, l1, l2, l3⟩ := h1.drew.tok
  have hlt := h1.lt
  have c0 := h1.drew.c0
  have c1 := h1.drew.c1
  have c25 := h1.drew.c25
  rcases hx with ⟨rfl, rfl⟩ | ⟨hne, L, rfl, hl⟩
  · simp +contextual (maxSteps := 2000000) (disch := first | omega | (simp only [SZ]; first | done | omega) | (simp only [TS] at *; omega)) only [RZ, ovw, oneC, reduceAdd, reduceMul, reduceSub, reduceEqDiff, reduceLT, ↓reduceIte, Int.reduceToNat, reduceLeDiff,  c0, c1, c25, l0]
    exact ⟨rfl, below_drew (Below.refl _ _)⟩
  · have e1 : (er = 0) = False := eq_false hne
    simp +contextual (maxSteps := 2000000) (disch := first | omega | (simp only [SZ]; first | done | omega) | (simp only [TS] at *; omega)) only [RZ, ovw, oneC, reduceAdd, reduceMul, reduceSub, reduceEqDiff, reduceLT, ↓reduceIte, Int.reduceToNat, reduceLeDiff,  c25, e1]
    exact ⟨rfl, below_drew (Below.refl _ _)⟩
theorem rgWord_any (hT : TokOk T) (h : Rs w g A c T x rest) : Calls Tryz.prog 25 #[.pointer (some ⟨g, 0, none⟩)] w (Lr g A c T rest w (bindT x wordT) fun s => .string s) := by
  refine calls_W (l := [_]) Tryz.func25 rfl _ Tryz.ntmps25 (by simp) ?_
  obtain ⟨a, er, ln, h1, hx⟩ := h.cases
  have hbig := hT.big
  refine W_piece fun K hK hX => ?_
  simp +contextual (maxSteps := 2000000) (disch := first | omega | (simp only [SZ]; first | done | omega) | (simp only [TS] at *; omega)) only [RZ, ovw, oneC, reduceAdd, reduceMul, reduceSub, reduceEqDiff, reduceLT, ↓reduceIte, Int.reduceToNat, reduceLeDiff]
  refine hK _ _ ?_
  clear hK hX K
  refine W_piece fun K hK hX => ?_
  refine W_piece fun K2 hK2 hX2 => ?_
  simp +contextual (maxSteps := 2000000) (disch := first | omega | (simp only [SZ]; first | done | omega) | (simp only [TS] at *; omega)) only [RZ, ovw, oneC, reduceAdd, reduceMul, reduceSub, reduceEqDiff, reduceLT, ↓reduceIte, Int.reduceToNat, reduceLeDiff]
  refine Raw_still MX (by kernel_rfl) ?_
  have h2 := h.kept (X := []) (Kept.refl _ _).drew (by simp) (by simp)
  have k2 := (Kept.refl [g] w).drew
  obtain ⟨b, o, rfl, hb, hbg, l0, l1, l2, l3⟩ := h1.drew.tok
  have hlt := h1.lt
  have c0 := h1.drew.c0
  have c1 := h1.drew.c1
  have c25 := h1.drew.c25
  have h3 := h1.drew
  generalize w.drew = w1 at *
  rcases hx with ⟨rfl, rfl⟩ | ⟨hne, L, rfl, hl⟩
  · simp +contextual (maxSteps := 2000000) (disch := first | omega | (simp only [SZ]; first | done | omega) | (simp only [TS] at *; omega)) only [RZ, ovw, oneC, reduceAdd, reduceMul, reduceSub, reduceEqDiff, reduceLT, ↓reduceIte, Int.reduceToNat, reduceLeDiff,  c0, c1, c25, l0]
    refine hK2 _ _ ?_
    clear hK2 hX2 K2
    by_cases hk : (hdT (T.drop a)).kind = 1
    · obtain ⟨n1, n2⟩ := nx_at hT hlt (by omega)
      have e1 : bindT (.ok (T.drop a)) wordT = .ok ((hdT (T.drop a)).text, T.drop (a + 1)) := by
        show wordT _ = _
        unfold wordT
        rw [if_pos hk, n2]
      rw [e1] at hX hK
      refine W_if_f (by simp +contextual (maxSteps := 2000000) (disch := first | omega | (simp only [SZ]; first | done | omega) | (simp only [TS] at *; omega)) only [RZ, ovw, oneC, reduceAdd, reduceMul, reduceSub, reduceEqDiff, reduceLT, ↓reduceIte, Int.reduceToNat, reduceLeDiff,  hk]) ?_
      rw [W_skip]
      refine hK _ _ ?_
      clear hK hX K
      have y1 := h3.row.frozen 1
      simp +contextual (maxSteps := 2000000) (disch := first | omega | (simp only [SZ]; first | done | omega) | (simp only [TS] at *; omega)) only [RZ, ovw, oneC, reduceAdd, reduceMul, reduceSub, reduceEqDiff, reduceLT, ↓reduceIte, Int.reduceToNat, reduceLeDiff,  c1, y1]
      have h4 := h3.go n1
      have k4 := k2.setCell (p := ⟨g, 1, none⟩) (by simp) (.int .i64 ((a : Int) + 1))
      have l3 : (w1.setCell ⟨g, 1, none⟩ (.int .i64 ((a : Int) + 1))).cell? ⟨b, o + a * 4 + 3, none⟩ = _ := (cS_other _ (.inl (Ne.symm hbg))).trans l3
      generalize w1.setCell ⟨g, 1, none⟩ (.int .i64 ((a : Int) + 1)) = w2 at *
      refine Raw_still MX (by kernel_rfl) ?_
      have c0 := h4.drew.c0
      have c1 := h4.drew.c1
      have l3 : w2.drew.cell? _ = _ := l3
      have ea : ((a : Int) + 1 - 1).toNat = a := by omega
      simp +contextual (maxSteps := 2000000) (disch := first | omega | (simp only [SZ]; first | done | omega) | (simp only [TS] at *; omega)) only [RZ, ovw, oneC, reduceAdd, reduceMul, reduceSub, reduceEqDiff, reduceLT, ↓reduceIte, Int.reduceToNat, reduceLeDiff,  c0, c1, l3, ea]
      exact ⟨_, rfl, h4.drew.rs, k4.drew, fun y hy => by injection hy with hy; rw [← hy]⟩
    · have e1 : bindT (.ok (T.drop a)) wordT = .error (1, T.drop a) := by
        show wordT _ = _
        unfold wordT
        rw [if_neg hk]
      rw [e1] at hX
      refine W_if_t (by simp +contextual (maxSteps := 2000000) (disch := first | omega | (simp only [SZ]; first | done | omega) | (simp only [TS] at *; omega)) only [RZ, ovw, oneC, reduceAdd, reduceMul, reduceSub, reduceEqDiff, reduceLT, ↓reduceIte, Int.reduceToNat, reduceLeDiff,  hk]) ?_
      simp +contextual (maxSteps := 2000000) (disch := first | omega | (simp only [SZ]; first | done | omega) | (simp only [TS] at *; omega)) only [RZ, ovw, oneC, reduceAdd, reduceMul, reduceSub, reduceEqDiff, reduceLT, ↓reduceIte, Int.reduceToNat, reduceLeDiff]
      refine (rgFail_any 1 (by decide) h2).mono ?_
      rintro e w2 ⟨⟨v, rfl⟩, h4, k4⟩
      refine ⟨_, rfl, ?_⟩
      try simp +contextual (maxSteps := 2000000) (disch := first | omega | (simp only [SZ]; first | done | omega) | (simp only [TS] at *; omega)) only [RZ, ovw, oneC, reduceAdd, reduceMul, reduceSub, reduceEqDiff, reduceLT, ↓reduceIte, Int.reduceToNat, reduceLeDiff]
      refine hX _ _ _ (fun h => by cases h) ?_
      try simp +contextual (maxSteps := 2000000) (disch := first | omega | (simp only [SZ]; first | done | omega) | (simp only [TS] at *; omega)) only [RZ, ovw, oneC, reduceAdd, reduceMul, reduceSub, reduceEqDiff, reduceLT, ↓reduceIte, Int.reduceToNat, reduceLeDiff]
      exact ⟨ByteArray.empty, rfl, h4, k2.trans k4, fun y hy => by cases hy⟩
  · have e1 : (er = 0) = False := eq_false hne
    simp +contextual (maxSteps := 2000000) (disch := first | omega | (simp only [SZ]; first | done | omega) | (simp only [TS] at *; omega)) only [RZ, ovw, oneC, reduceAdd, reduceMul, reduceSub, reduceEqDiff, reduceLT, ↓reduceIte, Int.reduceToNat, reduceLeDiff,  c25, e1]
    refine hK2 _ _ ?_
    clear hK2 hX2 K2
    refine W_if_t rfl ?_
    simp +contextual (maxSteps := 2000000) (disch := first | omega | (simp only [SZ]; first | done | omega) | (simp only [TS] at *; omega)) only [RZ, ovw, oneC, reduceAdd, reduceMul, reduceSub, reduceEqDiff, reduceLT, ↓reduceIte, Int.reduceToNat, reduceLeDiff]
    refine (rgFail_any 1 (by decide) h2).mono ?_
    rintro e w2 ⟨⟨v, rfl⟩, h4, k4⟩
    refine ⟨_, rfl, ?_⟩
    try simp +contextual (maxSteps := 2000000) (disch := first | omega | (simp only [SZ]; first | done | omega) | (simp only [TS] at *; omega)) only [RZ, ovw, oneC, reduceAdd, reduceMul, reduceSub, reduceEqDiff, reduceLT, ↓reduceIte, Int.reduceToNat, reduceLeDiff]
    refine hX _ _ _ (fun h => by cases h) ?_
    try simp +contextual (maxSteps := 2000000) (disch := first | omega | (simp only [SZ]; first | done | omega) | (simp only [TS] at *; omega)) only [RZ, ovw, oneC, reduceAdd, reduceMul, reduceSub, reduceEqDiff, reduceLT, ↓reduceIte, Int.reduceToNat, reduceLeDiff]
    exact ⟨ByteArray.empty, rfl, h4, k2.trans k4, fun y hy => by cases hy⟩
theorem rgNumberB_any (m : Int) (hT : TokOk T) (h : Rs w g A c T x rest) : Calls Tryz.prog 70 #[.pointer (some ⟨g, 0, none⟩), .int .i64 m] w fun e w' =>
    ∃ v : Int, e = .returned (.int .i64 v) ∧ Rs w' g A c T (sndX (bindT x (numberT m))) rest ∧ Kept [g] w w' ∧ (∀ y, bindT x (numberT m) = .ok y → v = y.1) ∧ (0 ≤ m → 0 ≤ v ∧ v ≤ m) := by
  refine calls_W (l := [_, _]) Tryz.func70 rfl _ Tryz.ntmps70 (by simp) ?_
  have hbig := hT.big
  refine W_piece fun K hK hX => ?_
  simp +contextual (maxSteps := 2000000) (disch := first | omega | (simp only [SZ]; first | done | omega) | (simp only [TS] at *; omega)) only [RZ, ovw, oneC, reduceAdd, reduceMul, reduceSub, reduceEqDiff, reduceLT, ↓reduceIte, Int.reduceToNat, reduceLeDiff]
  refine hK _ _ ?_
  clear hK hX K
  refine W_piece fun K hK hX => ?_
  refine W_piece fun K2 hK2 hX2 => ?_
  simp +contextual (maxSteps := 2000000) (disch := first | omega | (simp only [SZ]; first | done | omega) | (simp only [TS] at *; omega)) only [RZ, ovw, oneC, reduceAdd, reduceMul, reduceSub, reduceEqDiff, reduceLT, ↓reduceIte, Int.reduceToNat, reduceLeDiff]
  refine (rgMore_any h).mono ?_
  rintro e w1 ⟨rfl, b1⟩
  refine ⟨_, rfl, ?_⟩
  try simp +contextual (maxSteps := 2000000) (disch := first | omega | (simp only [SZ]; first | done | omega) | (simp only [TS] at *; omega)) only [RZ, ovw, oneC, reduceAdd, reduceMul, reduceSub, reduceEqDiff, reduceLT, ↓reduceIte, Int.reduceToNat, reduceLeDiff]
  refine hK2 _ _ ?_
  clear hK2 hX2 K2
  have h1 := h.below b1
  have k1 : Kept [g] w w1 := Kept.of_below b1
  obtain ⟨a, er, ln, p1, hx⟩ := h1.cases
  cases hm : moreX x with
  | false =>
    refine W_if_t rfl ?_
    simp +contextual (maxSteps := 2000000) (disch := first | omega | (simp only [SZ]; first | done | omega) | (simp only [TS] at *; omega)) only [RZ, ovw, oneC, reduceAdd, reduceMul, reduceSub, reduceEqDiff, reduceLT, ↓reduceIte, Int.reduceToNat, reduceLeDiff]
    refine (rgFail_any 1 (by decide) h1).mono ?_
    rintro e w2 ⟨⟨v, rfl⟩, h2, k2⟩
    refine ⟨_, rfl, ?_⟩
    try simp +contextual (maxSteps := 2000000) (disch := first | omega | (simp only [SZ]; first | done | omega) | (simp only [TS] at *; omega)) only [RZ, ovw, oneC, reduceAdd, reduceMul, reduceSub, reduceEqDiff, reduceLT, ↓reduceIte, Int.reduceToNat, reduceLeDiff]
    refine hX _ _ _ (fun h => by cases h) ?_
    try simp +contextual (maxSteps := 2000000) (disch := first | omega | (simp only [SZ]; first | done | omega) | (simp only [TS] at *; omega)) only [RZ, ovw, oneC, reduceAdd, reduceMul, reduceSub, reduceEqDiff, reduceLT, ↓reduceIte, Int.reduceToNat, reduceLeDiff]
    have e1 : sndX (bindT x (numberT m)) = bindT x fun L => .error (1, L) := by
      cases x with
      | ok L =>
        show sndX (numberT m L) = .error (1, L)
        have hk : ¬ (hdT L).kind = 2 := by simpa [moreX] using hm
        unfold numberT lessT numT
        rw [if_neg (fun h => hk h.1)]
        rfl
      | error y => rfl
    refine ⟨0, rfl, by rw [e1]; exact h2, k1.trans k2, fun y hy => ?_, fun h => ⟨Int.le_refl _, h⟩⟩
    rw [hy] at e1
    cases x with
    | ok L => cases e1
    | error y => cases e1
  | true =>
    rcases hx with ⟨rfl, rfl⟩ | ⟨hne, L, rfl, hl⟩
    · refine W_if_f rfl ?_
      rw [W_skip]
      refine hK _ _ ?_
      clear hK hX K
      have hk : (hdT (T.drop a)).kind = 2 := by simpa [moreX] using hm
      obtain ⟨n1, n2⟩ := nx_at hT p1.lt (by omega)
      have hnum := hT.num _ (tok_mem p1.lt) hk
      have hsz := hT.szs _ (tok_mem p1.lt)
      have hN : bindT (.ok (T.drop a)) (numberT m) = if (numE (bs (hdT (T.drop a)).text)).1 ≤ m then .ok ((numE (bs (hdT (T.drop a)).text)).1, T.drop (a + 1)) else .error (1, T.drop a) := by
        show numberT m (T.drop a) = _
        unfold numberT lessT numT
        rw [if_pos ⟨hk, hnum.1⟩, n2]
        dsimp only
        split <;> rfl
      refine W_pieceP (fun _ _ _ h => h) fun K hK hX hP => ?_
      simp +contextual (maxSteps := 2000000) (disch := first | omega | (simp only [SZ]; first | done | omega) | (simp only [TS] at *; omega)) only [RZ, ovw, oneC, reduceAdd, reduceMul, reduceSub, reduceEqDiff, reduceLT, ↓reduceIte, Int.reduceToNat, reduceLeDiff]
      obtain ⟨b, o, rfl, hb, hbg, l0, l1, l2, l3⟩ := p1.drew.tok
      have hlt := p1.lt
      have p2 := p1.drew
      have k2 := k1.drew
      have c0 := p2.c0
      have c1 := p2.c1
      refine Raw_ord (fun w' => w' = w1.drew) 17 rfl MX ?_
      generalize w1.drew = w2 at *
      generalize (hdT (T.drop a)).text = tx at *
      refine Ord_reads (τ := ?ta) [0, 1, 2, 3, 4, 5, 6, 7, 8, 9, 10] 6 rfl (by kernel_rfl) (by kernel_rfl) hP rfl (fun w7 h7 => ?_) ?_; rotate_left
      · subst h7
        simp only [opsL_cons, opsL_nil, List.getElem?_toArray, List.getElem?_cons_zero, List.getElem?_cons_succ, optL_some]
        simp +contextual (maxSteps := 2000000) (disch := first | omega | (simp only [SZ]; first | done | omega) | (simp only [TS] at *; omega)) only [RZ, ovw, oneC, reduceAdd, reduceMul, reduceSub, reduceEqDiff, reduceLT, ↓reduceIte, Int.reduceToNat, reduceLeDiff,  c0, c1, l3]
        exact rfl
      refine Ord_one 11 (by kernel_rfl) rfl ?_
      simp +contextual (maxSteps := 2000000) (disch := first | omega | (simp only [SZ]; first | done | omega) | (simp only [TS] at *; omega)) only [RZ, ovw, oneC, reduceAdd, reduceMul, reduceSub, reduceEqDiff, reduceLT, ↓reduceIte, Int.reduceToNat, reduceLeDiff]
      refine (rnumParse_any tx w2 (by omega)).mono ?_
      rintro e w3 ⟨rfl, rfl⟩
      refine ⟨_, rfl, rfl, ?_⟩
      generalize numE (bs tx) = N at *
      obtain ⟨n, ne⟩ := N
      obtain ⟨hn0, hn1, hn2⟩ := hnum
      refine Ord_reads (τ := ?tb) [12, 13, 14] 2 rfl (by kernel_rfl) (by kernel_rfl) hP rfl (fun w7 h7 => ?_) ?_; rotate_left
      · subst h7
        simp only [opsL_cons, opsL_nil, List.getElem?_toArray, List.getElem?_cons_zero, List.getElem?_cons_succ, optL_some]
        simp +contextual (maxSteps := 2000000) (disch := first | omega | (simp only [SZ]; first | done | omega) | (simp only [TS] at *; omega)) only [RZ, ovw, oneC, reduceAdd, reduceMul, reduceSub, reduceEqDiff, reduceLT, ↓reduceIte, Int.reduceToNat, reduceLeDiff]
        exact rfl
      refine Ord_chainS _ [15, 16] _ _ _ (by kernel_rfl) ?_
      simp only [opsL_cons, opsL_nil, List.getElem?_toArray, List.getElem?_cons_zero, List.getElem?_cons_succ, optL_some]
      simp +contextual (maxSteps := 2000000) (disch := first | omega | (simp only [SZ]; first | done | omega) | (simp only [TS] at *; omega)) only [RZ, ovw, oneC, reduceAdd, reduceMul, reduceSub, reduceEqDiff, reduceLT, ↓reduceIte, Int.reduceToNat, reduceLeDiff,  EC_op, EC_nil]
      refine hK _ _ ?_
      clear hK hX hP K
      by_cases hm2 : n ≤ m
      · have e1 : (m < n) = False := eq_false (by omega)
        dsimp only at hN
        rw [if_pos hm2] at hN
        rw [hN]
        have c1 := p2.c1
        have y1 := p2.row.frozen 1
        refine W_piece fun K hK hX => ?_
        refine W_piece fun K2 hK2 hX2 => ?_
        simp +contextual (maxSteps := 2000000) (disch := first | omega | (simp only [SZ]; first | done | omega) | (simp only [TS] at *; omega)) only [RZ, ovw, oneC, reduceAdd, reduceMul, reduceSub, reduceEqDiff, reduceLT, ↓reduceIte, Int.reduceToNat, reduceLeDiff,  e1]
        refine hK2 _ _ ?_
        clear hK2 hX2 K2
        refine W_if_f rfl ?_
        rw [W_skip]
        refine hK _ _ ?_
        clear hK hX K
        simp +contextual (maxSteps := 2000000) (disch := first | omega | (simp only [SZ]; first | done | omega) | (simp only [TS] at *; omega)) only [RZ, ovw, oneC, reduceAdd, reduceMul, reduceSub, reduceEqDiff, reduceLT, ↓reduceIte, Int.reduceToNat, reduceLeDiff,  c1, y1]
        exact ⟨_, rfl, (p2.go n1).rs, k2.setCell (p := ⟨g, 1, none⟩) (by simp) _, fun y hy => by injection hy with hy; rw [← hy], fun _ => ⟨hn1, hm2⟩⟩
      · have e1 : (m < n) = True := eq_true (by omega)
        dsimp only at hN
        rw [if_neg hm2] at hN
        rw [hN]
        refine W_piece fun K hK hX => ?_
        refine W_piece fun K2 hK2 hX2 => ?_
        simp +contextual (maxSteps := 2000000) (disch := first | omega | (simp only [SZ]; first | done | omega) | (simp only [TS] at *; omega)) only [RZ, ovw, oneC, reduceAdd, reduceMul, reduceSub, reduceEqDiff, reduceLT, ↓reduceIte, Int.reduceToNat, reduceLeDiff,  e1]
        refine hK2 _ _ ?_
        clear hK2 hX2 K2
        refine W_if_t rfl ?_
        simp +contextual (maxSteps := 2000000) (disch := first | omega | (simp only [SZ]; first | done | omega) | (simp only [TS] at *; omega)) only [RZ, ovw, oneC, reduceAdd, reduceMul, reduceSub, reduceEqDiff, reduceLT, ↓reduceIte, Int.reduceToNat, reduceLeDiff]
        refine (rgFail_any 1 (by decide) p2.rs).mono ?_
        rintro e w4 ⟨⟨v, rfl⟩, h4, k4⟩
        refine ⟨_, rfl, ?_⟩
        try simp +contextual (maxSteps := 2000000) (disch := first | omega | (simp only [SZ]; first | done | omega) | (simp only [TS] at *; omega)) only [RZ, ovw, oneC, reduceAdd, reduceMul, reduceSub, reduceEqDiff, reduceLT, ↓reduceIte, Int.reduceToNat, reduceLeDiff]
        refine hX _ _ _ (fun h => by cases h) ?_
        try simp +contextual (maxSteps := 2000000) (disch := first | omega | (simp only [SZ]; first | done | omega) | (simp only [TS] at *; omega)) only [RZ, ovw, oneC, reduceAdd, reduceMul, reduceSub, reduceEqDiff, reduceLT, ↓reduceIte, Int.reduceToNat, reduceLeDiff]
        exact ⟨0, rfl, h4, k2.trans k4, (fun y hy => by cases hy), fun h => ⟨Int.le_refl _, h⟩⟩
    · cases hm
theorem rgNumber_any (m : Int) (hT : TokOk T) (h : Rs w g A c T x rest) : Calls Tryz.prog 70 #[.pointer (some ⟨g, 0, none⟩), .int .i64 m] w (Lr g A c T rest w (bindT x (numberT m)) fun n => .int .i64 n) := by
  refine (rgNumberB_any m hT h).mono ?_
  rintro e w1 ⟨v, h1, h2, h3, h4, _⟩
  exact ⟨v, h1, h2, h3, h4⟩
end
end Go.Proofs.YtbdkggnajipdhaaGreatDoor
