/- Texts laid one behind the other: RwD, LexE, LexF, LexG, RtV, Bld, Ord6, JnR. Each says at its head what it proves. -/
import Derived.Test.YtbdkggnajipdhaaDoorRtBkZ13
import Derived.Lib.AppendIntMem
import Derived.Lib.MakeNoZero
import Derived.Laws.IdiomCopy
set_option linter.unusedSimpArgs false
/- Walks: the law's awake. -/
namespace Go.Proofs.YtbdkggnajipdhaaDoor
open Nat (reduceAdd reduceMul reduceSub reduceEqDiff reduceLT reduceLeDiff)
open Go.RowKit
set_option maxRecDepth 100000
theorem gmC_n {G q : Gm} (h : gmC G = gmC q) {i : Nat} (hi : i < 19) : G.n i = q.n i := by
  have := congrArg (fun x => x.2.1[i]?) h
  simp only [gmC, List.getElem?_map, List.getElem?_range hi, Option.map_some, Option.some.injEq] at this
  exact this
theorem gmV_C {G q : Gm} (h : gmC G = gmC q) (Va Vt : Value) : gmV G Va Vt = gmV q Va Vt := by
  have hn : G.name = q.name := congrArg Prod.fst h
  unfold gmV
  rw [hn, gmC_n h (i := 0) (by decide), gmC_n h (i := 1) (by decide), gmC_n h (i := 2) (by decide), gmC_n h (i := 3) (by decide), gmC_n h (i := 4) (by decide), gmC_n h (i := 5) (by decide), gmC_n h (i := 6) (by decide), gmC_n h (i := 7) (by decide), gmC_n h (i := 8) (by decide), gmC_n h (i := 9) (by decide), gmC_n h (i := 10) (by decide), gmC_n h (i := 11) (by decide), gmC_n h (i := 12) (by decide), gmC_n h (i := 13) (by decide), gmC_n h (i := 14) (by decide), gmC_n h (i := 15) (by decide), gmC_n h (i := 16) (by decide), gmC_n h (i := 17) (by decide), gmC_n h (i := 18) (by decide)]
theorem GmIn.C {w : World} {Va Vt : Value} {G q : Gm} (h : GmIn w Va Vt G) (e : gmC G = gmC q) : GmIn w Va Vt q := by
  have ha : G.addons = q.addons := congrArg (fun x => x.2.2.1) e
  have ht : G.tiers = q.tiers := congrArg (fun x => x.2.2.2) e
  unfold GmIn at h ⊢
  rw [ha, ht] at h
  exact h
theorem parse_ex {s : ByteArray} {q : Gm} {er ln : Int} (hs : s.size ≤ 1000000) {w : World} (hW : Laid w) (hw9 : 5 ≤ w.heap.size) (hp : (gmC (parseG s).1, (parseG s).2) = (gmC q, er, ln)) : Calls Tryd.prog 8 #[.string s] w fun e w' => Below w.heap.size w w' ∧
    ∃ Va Vt, e = .returned (.tuple #[.agg (gmV q Va Vt).toArray, .int .i64 er, .int .i64 ln]) ∧ GmIn w' Va Vt q := by
  simp only [Prod.mk.injEq] at hp
  obtain ⟨h1, h2⟩ := hp
  have h3 : (parseG s).2.1 = er := congrArg Prod.fst h2
  have h4 : (parseG s).2.2 = ln := congrArg Prod.snd h2
  refine (parse_any s w hs hW hw9).mono ?_
  rintro e w1 ⟨hB, Va, Vt, he, hG⟩
  rw [gmV_C h1, h3, h4] at he
  exact ⟨hB, Va, Vt, he, hG.C h1⟩
/-- A game boxed in memory. -/
theorem load_game {w : World} {b : Nat} {G : Gm} {Va Vt : Value} (h : Row w b 25 (gmV G Va Vt)) : vLoad Tryd.prog 25 (.pointer (some ⟨b, 0, none⟩)) w = .ok (.value (.agg (gmV G Va Vt).toArray)) w :=
  vLoad_all (by kernel_rfl) (by rw [gmV_len]; kernel_rfl) (fun i v hv => by rw [Nat.zero_add]; exact h.cell hv)
theorem W_gen {P : Program} {n : Nat} {c : Code} {Q : Exit → Sl → World → Prop} {σ : Sl} {w : World} (h : ∀ w2, w2 = w → W P n c Q σ w2) : W P n c Q σ w := h w rfl
set_option maxHeartbeats 4000000 in
theorem awake_any (w : World) (hW : Laid w) (hw9 : 5 ≤ w.heap.size) : Calls Tryd.prog 6 #[] w fun e w' => e = .returned (.bool true) ∧ Below w.heap.size w w' := by
  refine calls_W (l := []) Tryd.func6 rfl _ Tryd.ntmps6 (by simp) ?_
  refine W_piece fun K hK hX => ?_
  simp +contextual (maxSteps := 2000000) (disch := first | omega | (simp only [SZ]; first | done | omega) | (simp only [TS] at *; omega)) only [RZ, ovw, oneC, reduceAdd, reduceMul, reduceSub, reduceEqDiff, reduceLT, ↓reduceIte, Int.reduceToNat, reduceLeDiff]
  refine hK _ _ ?_
  clear hK hX K
  refine W_piece fun K hK hX => ?_
  simp +contextual (maxSteps := 2000000) (disch := first | omega | (simp only [SZ]; first | done | omega) | (simp only [TS] at *; omega)) only [RZ, ovw, oneC, reduceAdd, reduceMul, reduceSub, reduceEqDiff, reduceLT, ↓reduceIte, Int.reduceToNat, reduceLeDiff]
  refine (parse_ex (q := exT) (er := 0) (ln := 0) (by decide) hW hw9 (by kernel_rfl)).mono ?_
  rintro e w1 ⟨hB1, Va, Vt, rfl, hG1⟩
  refine ⟨_, rfl, ?_⟩
  obtain ⟨⟨Aa, ca, Vs, rfl, hAa, hads⟩, At, ct, rfl, hAt⟩ := id hG1
  have hz1 := hB1.size
  simp only [gmV]
  simp +contextual (maxSteps := 2000000) (disch := first | omega | (simp only [SZ]; first | done | omega) | (simp only [TS] at *; omega)) only [RZ, ovw, oneC, reduceAdd, reduceMul, reduceSub, reduceEqDiff, reduceLT, ↓reduceIte, Int.reduceToNat, reduceLeDiff]
  refine hK _ _ ?_
  clear hK hX K
  refine W_gen fun w2 hw2 => ?_
  have r1 : Row w2 w1.heap.size 25 (gmV exT (.slice Aa exT.addons.length ca) (.slice At exT.tiers.length ct)) := by rw [hw2]; exact Row.new w1 _ _
  have hB2 : Below w1.heap.size w1 w2 := by rw [hw2]; exact below_alloc w1 _
  clear hw2
  have hG2 := hG1.below hB2
  have hAt2 := hAt.below hB2
  have hAa2 := hAa.below hB2
  obtain ⟨b, o, rfl, hb, hcb⟩ := hAt2.at_ (enc := encTi) (k := 1) rfl
  obtain ⟨cv1, hcv⟩ : ∃ c, Vs[0]? = some c := ⟨_, List.getElem?_eq_getElem (by rw [hads.1]; decide)⟩
  obtain ⟨vf, vs, rfl, hvf, hvs⟩ := hads.2 0 _ ⟨toBA (asc "joker"), 2, 100, [], 2, [300, 5000]⟩ hcv rfl
  obtain ⟨As, cS, rfl, hAs⟩ := hvs
  obtain ⟨b3, o3, rfl, hb3, hc3⟩ := hAa2 (by rw [hads.1]; decide)
  have l5 : w2.cell? _ = _ := hc3 0 _ hcv 5 _ rfl
  have t0 : w2.cell? _ = _ := hcb 0 _ rfl
  have c1 : w2.cell? ⟨w1.heap.size, 1, none⟩ = some (.int .i64 2) := r1.cell (i := 1) rfl
  have c9 : w2.cell? ⟨w1.heap.size, 9, none⟩ = some (.int .i64 3) := r1.cell (i := 9) rfl
  have c10 : w2.cell? ⟨w1.heap.size, 10, none⟩ = some (.int .i64 36) := r1.cell (i := 10) rfl
  have c11 : w2.cell? ⟨w1.heap.size, 11, none⟩ = some (.int .i64 1230) := r1.cell (i := 11) rfl
  have c20 : w2.cell? ⟨w1.heap.size, 20, none⟩ = some (.slice (some ⟨b3, o3, none⟩) 1 ca) := r1.cell (i := 20) rfl
  have c21 : w2.cell? ⟨w1.heap.size, 21, none⟩ = some (.slice (some ⟨b, o, none⟩) 2 ct) := r1.cell (i := 21) rfl
  refine W_piece fun K hK hX => ?_
  refine W_piece fun K2 hK2 hX2 => ?_
  have n1 : decide (((0 : Nat) : Int) + 1 = 1) = true := rfl
  have n2 : decide (((0 : Nat) : Int) + 1 + 1 = 2) = true := rfl
  simp +contextual (maxSteps := 2000000) (disch := first | omega | (simp only [SZ]; first | done | omega) | (simp only [TS] at *; omega)) only [RZ, ovw, oneC, reduceAdd, reduceMul, reduceSub, reduceEqDiff, reduceLT, ↓reduceIte, Int.reduceToNat, reduceLeDiff,  c1, c9, c10, c11, c20, c21, l5, t0, n1, n2]
  have hbl := below_alloc w2 (.cells #[.int .i64 300, .int .i64 5000] 3)
  have hNew : Arr (w2.alloc (.cells #[.int .i64 300, .int .i64 5000] 3)) (some ⟨w2.heap.size, 0, none⟩) 1 (([300, 5000] : List Int).map fun n => [Value.int .i64 n]) :=
    arr_row (Vs := ([300, 5000] : List Int).map fun n => [Value.int .i64 n]) (Row.new w2 3 [.int .i64 300, .int .i64 5000]) (by simp)
  refine (ints_any [300, 5000] As (some ⟨w2.heap.size, 0, none⟩) cS 2 _ ((hAs.below hB2).below hbl) hNew (by decide)).mono ?_
  rintro e w3 ⟨rfl, hB3⟩
  refine ⟨_, rfl, ?_⟩
  have hB23 : Below w2.heap.size w2 w3 := hbl.trans (hB3.mono hbl.size)
  try simp +contextual (maxSteps := 2000000) (disch := first | omega | (simp only [SZ]; first | done | omega) | (simp only [TS] at *; omega)) only [RZ, ovw, oneC, reduceAdd, reduceMul, reduceSub, reduceEqDiff, reduceLT, ↓reduceIte, Int.reduceToNat, reduceLeDiff]
  refine hK2 _ _ ?_
  clear hK2 hX2 K2
  refine W_if_f (by rfl) ?_
  rw [W_skip]
  refine hK _ _ ?_
  clear hK hX K
  have hG3 := hG2.below hB23
  have r3 := r1.below hB23
  have hF3 : Below w.heap.size w w3 := hB1.trans ((hB2.trans (hB23.mono hB2.size)).mono hz1)
  have hW3 := hW.below hF3 hW.size
  have hz3 := hF3.size
  refine W_piece fun K hK hX => ?_
  simp +contextual (maxSteps := 2000000) (disch := first | omega | (simp only [SZ]; first | done | omega) | (simp only [TS] at *; omega)) only [RZ, ovw, oneC, reduceAdd, reduceMul, reduceSub, reduceEqDiff, reduceLT, ↓reduceIte, Int.reduceToNat, reduceLeDiff]
  refine (parse_ex (q := noGm) (er := 6) (ln := 2) (by decide) hW3 (by omega) (by kernel_rfl)).mono ?_
  rintro e w4 ⟨hB4, Va4, Vt4, rfl, hG4⟩
  refine ⟨_, rfl, ?_⟩
  obtain ⟨⟨Aa4, ca4, Vs4, rfl, _⟩, At4, ct4, rfl, _⟩ := id hG4
  simp only [gmV]
  simp +contextual (maxSteps := 2000000) (disch := first | omega | (simp only [SZ]; first | done | omega) | (simp only [TS] at *; omega)) only [RZ, ovw, oneC, reduceAdd, reduceMul, reduceSub, reduceEqDiff, reduceLT, ↓reduceIte, Int.reduceToNat, reduceLeDiff]
  refine hK _ _ ?_
  clear hK hX K
  refine W_gen fun w5 hw5 => ?_
  have hB5 : Below w4.heap.size w4 w5 := by rw [hw5]; exact below_alloc w4 _
  clear hw5
  have hB35 : Below w3.heap.size w3 w5 := hB4.trans (hB5.mono hB4.size)
  have hG5 := hG3.below hB35
  have r5 := r3.below hB35
  have hF5 := hF3.trans (hB35.mono hF3.size)
  have hl5 : vLoad Tryd.prog 25 (.pointer (some ⟨w1.heap.size, 0, none⟩)) w5 = .ok (.value (.agg (gmV exT (.slice (some ⟨b3, o3, none⟩) exT.addons.length ca) (.slice (some ⟨b, o, none⟩) exT.tiers.length ct)).toArray)) w5 :=
    vLoad_all (by kernel_rfl) (by rw [gmV_len]; kernel_rfl) (fun i v hv => by rw [Nat.zero_add]; exact r5.cell hv)
  refine W_piece fun K hK hX => ?_
  simp +contextual (maxSteps := 2000000) (disch := first | omega | (simp only [SZ]; first | done | omega) | (simp only [TS] at *; omega)) only [RZ, ovw, oneC, reduceAdd, reduceMul, reduceSub, reduceEqDiff, reduceLT, ↓reduceIte, Int.reduceToNat, reduceLeDiff,  hl5]
  refine (print_any exT _ _ w5 (hW.below hF5 hW.size) (by have := hF5.size; omega) hG5 (by unfold Gm.little; decide)).mono ?_
  rintro e w6 ⟨rfl, hB6⟩
  refine ⟨_, rfl, ?_⟩
  try simp +contextual (maxSteps := 2000000) (disch := first | omega | (simp only [SZ]; first | done | omega) | (simp only [TS] at *; omega)) only [RZ, ovw, oneC, reduceAdd, reduceMul, reduceSub, reduceEqDiff, reduceLT, ↓reduceIte, Int.reduceToNat, reduceLeDiff]
  refine hK _ _ ?_
  clear hK hX K
  simp +contextual (maxSteps := 2000000) (disch := first | omega | (simp only [SZ]; first | done | omega) | (simp only [TS] at *; omega)) only [RZ, ovw, oneC, reduceAdd, reduceMul, reduceSub, reduceEqDiff, reduceLT, ↓reduceIte, Int.reduceToNat, reduceLeDiff]
  refine ⟨congrArg (fun b => Ending.returned (.bool b)) (decide_eq_true (by decide +kernel)), hF5.trans (hB6.mono hF5.size)⟩
end Go.Proofs.YtbdkggnajipdhaaDoor
/- Walks: the reference's end, skip, Place. -/
namespace Go.Proofs.YtbdkggnajipdhaaDoor
open Nat (reduceAdd reduceMul reduceSub reduceEqDiff reduceLT reduceLeDiff)
open Go.RowKit
set_option maxRecDepth 100000
/-- How many bytes are blank or in remarks. -/
def skipB : Bool → List Nat → Nat
  | _, [] => 0
  | m, c :: r => if m || blankB c || c == 35 then 1 + skipB ((m || c == 35) && !(c == 10)) r else 0
theorem rskip_any (s : ByteArray) (at_ : Nat) (w : World) (hs : s.size ≤ 1000000) (ha : at_ ≤ s.size) :
    Calls Tryd.prog 27 #[.string s, .int .i64 at_] w fun e w' => e = .returned (.int .i64 (at_ + skipB false ((bs s).drop at_))) ∧ w = w' := by
  refine calls_W (l := [_, _]) Tryd.func27 rfl _ Tryd.ntmps27 (by simp) ?_
  simp +contextual (maxSteps := 2000000) (disch := first | omega | (simp only [SZ]; first | done | omega) | (simp only [TS] at *; omega)) only [RZ, ovw, oneC, reduceAdd, reduceMul, reduceSub, reduceEqDiff, reduceLT, ↓reduceIte, Int.reduceToNat, reduceLeDiff]
  refine Raw_loop (fun σ w' => w = w' ∧ ∃ (k : Nat) (m : Bool), at_ ≤ k ∧ k ≤ s.size ∧ k + skipB m ((bs s).drop k) = at_ + skipB false ((bs s).drop at_) ∧ σ 0 = .string s ∧ σ 1 = .int .i64 k ∧ σ 5 = .bool m) (fun σ _ => s.size - (intOf (σ 1)).toNat) ?_ ?_
  · simp +contextual (maxSteps := 2000000) (disch := first | omega | (simp only [SZ]; first | done | omega) | (simp only [TS] at *; omega)) only [RZ, ovw, oneC, reduceAdd, reduceMul, reduceSub, reduceEqDiff, reduceLT, ↓reduceIte, Int.reduceToNat, reduceLeDiff]
    exact ⟨at_, false, Nat.le_refl _, ha, rfl, rfl, rfl⟩
  rintro σ w' ⟨rfl, k, m, hk1, hk2, hk, e0, e1, e5⟩ K hK
  by_cases hks : k < s.size
  · have hd : decide ((k : Int) < s.size) = true := decide_eq_true (by omega)
    have hdr : (bs s).drop k = bt s k :: (bs s).drop (k + 1) := by
      have h1 := bs_get hks
      obtain ⟨h2, h3⟩ := List.getElem?_eq_some_iff.1 h1
      rw [List.drop_eq_getElem_cons h2, h3]
    rw [hdr, skipB] at hk
    have hmu : ∀ σ' : Sl, σ' 1 = .int .i64 ((k : Int) + 1) → s.size - (intOf (σ' 1)).toNat < s.size - (intOf (σ 1)).toNat := fun σ' h => by rw [h, e1]; simp only [intOf]; omega
    have hlt := bt_lt s k
    cases m with
    | true =>
      rw [if_pos (by simp)] at hk
      simp +contextual (maxSteps := 2000000) (disch := first | omega | (simp only [SZ]; first | done | omega) | (simp only [TS] at *; omega)) only [RZ, ovw, oneC, reduceAdd, reduceMul, reduceSub, reduceEqDiff, reduceLT, ↓reduceIte, Int.reduceToNat, reduceLeDiff,  e0, e1, e5, hd]
      refine W_if_t rfl ?_
      simp +contextual (maxSteps := 2000000) (disch := first | omega | (simp only [SZ]; first | done | omega) | (simp only [TS] at *; omega)) only [RZ, ovw, oneC, reduceAdd, reduceMul, reduceSub, reduceEqDiff, reduceLT, ↓reduceIte, Int.reduceToNat, reduceLeDiff,  e0, e1, e5]
      (refine W_if rfl (fun hc => ?_) (fun hc => ?_) <;> (try simp only [TS] at hc))
      · have h10 : (bt s k == 10) = false := by simp; omega
        have h35 : (bt s k == 35) = true := by simp; omega
        rw [h10, h35] at hk
        simp +contextual (maxSteps := 2000000) (disch := first | omega | (simp only [SZ]; first | done | omega) | (simp only [TS] at *; omega)) only [RZ, ovw, oneC, reduceAdd, reduceMul, reduceSub, reduceEqDiff, reduceLT, ↓reduceIte, Int.reduceToNat, reduceLeDiff,  e0, e1, e5]
        (refine W_if rfl (fun hc => ?_) (fun hc => ?_) <;> (try simp only [TS] at hc))
        · omega
        simp +contextual (maxSteps := 2000000) (disch := first | omega | (simp only [SZ]; first | done | omega) | (simp only [TS] at *; omega)) only [RZ, ovw, oneC, reduceAdd, reduceMul, reduceSub, reduceEqDiff, reduceLT, ↓reduceIte, Int.reduceToNat, reduceLeDiff,  e0, e1, e5]
        exact hK _ _ ⟨rfl, k + 1, true, by omega, by omega, by simpa [Nat.add_assoc] using hk, e0, rfl, rfl⟩ (hmu _ rfl)
      · have h35 : (bt s k == 35) = false := by simp; omega
        rw [h35] at hk
        clear hc
        simp +contextual (maxSteps := 2000000) (disch := first | omega | (simp only [SZ]; first | done | omega) | (simp only [TS] at *; omega)) only [RZ, ovw, oneC, reduceAdd, reduceMul, reduceSub, reduceEqDiff, reduceLT, ↓reduceIte, Int.reduceToNat, reduceLeDiff,  e0, e1, e5]
        (refine W_if rfl (fun hc => ?_) (fun hc => ?_) <;> (try simp only [TS] at hc))
        · have h10 : (bt s k == 10) = true := by simp; omega
          rw [h10] at hk
          simp +contextual (maxSteps := 2000000) (disch := first | omega | (simp only [SZ]; first | done | omega) | (simp only [TS] at *; omega)) only [RZ, ovw, oneC, reduceAdd, reduceMul, reduceSub, reduceEqDiff, reduceLT, ↓reduceIte, Int.reduceToNat, reduceLeDiff,  e0, e1, e5]
          exact hK _ _ ⟨rfl, k + 1, false, by omega, by omega, by simpa [Nat.add_assoc] using hk, e0, rfl, rfl⟩ (hmu _ rfl)
        · have h10 : (bt s k == 10) = false := by simp; omega
          rw [h10] at hk
          simp +contextual (maxSteps := 2000000) (disch := first | omega | (simp only [SZ]; first | done | omega) | (simp only [TS] at *; omega)) only [RZ, ovw, oneC, reduceAdd, reduceMul, reduceSub, reduceEqDiff, reduceLT, ↓reduceIte, Int.reduceToNat, reduceLeDiff,  e0, e1, e5]
          exact hK _ _ ⟨rfl, k + 1, true, by omega, by omega, by simpa [Nat.add_assoc] using hk, e0, rfl, e5⟩ (hmu _ rfl)
    | false =>
      simp +contextual (maxSteps := 2000000) (disch := first | omega | (simp only [SZ]; first | done | omega) | (simp only [TS] at *; omega)) only [RZ, ovw, oneC, reduceAdd, reduceMul, reduceSub, reduceEqDiff, reduceLT, ↓reduceIte, Int.reduceToNat, reduceLeDiff,  e0, e1, e5, hd]
      refine (rblank_any _ _).mono ?_
      rintro e w' ⟨rfl, rfl⟩
      refine ⟨_, rfl, ?_⟩
      rw [blankIB]
      cases hb : blankB (bt s k) with
      | true =>
        rw [if_pos (by rw [hb]; simp)] at hk
        simp +contextual (maxSteps := 2000000) (disch := first | omega | (simp only [SZ]; first | done | omega) | (simp only [TS] at *; omega)) only [RZ, ovw, oneC, reduceAdd, reduceMul, reduceSub, reduceEqDiff, reduceLT, ↓reduceIte, Int.reduceToNat, reduceLeDiff,  e0, e1, e5, hd]
        refine W_if_t rfl ?_
        simp +contextual (maxSteps := 2000000) (disch := first | omega | (simp only [SZ]; first | done | omega) | (simp only [TS] at *; omega)) only [RZ, ovw, oneC, reduceAdd, reduceMul, reduceSub, reduceEqDiff, reduceLT, ↓reduceIte, Int.reduceToNat, reduceLeDiff,  e0, e1, e5]
        (refine W_if rfl (fun hc => ?_) (fun hc => ?_) <;> (try simp only [TS] at hc))
        · have h10 : (bt s k == 10) = false := by simp; omega
          have h35 : (bt s k == 35) = true := by simp; omega
          rw [h10, h35] at hk
          simp +contextual (maxSteps := 2000000) (disch := first | omega | (simp only [SZ]; first | done | omega) | (simp only [TS] at *; omega)) only [RZ, ovw, oneC, reduceAdd, reduceMul, reduceSub, reduceEqDiff, reduceLT, ↓reduceIte, Int.reduceToNat, reduceLeDiff,  e0, e1, e5]
          (refine W_if rfl (fun hc => ?_) (fun hc => ?_) <;> (try simp only [TS] at hc))
          · omega
          simp +contextual (maxSteps := 2000000) (disch := first | omega | (simp only [SZ]; first | done | omega) | (simp only [TS] at *; omega)) only [RZ, ovw, oneC, reduceAdd, reduceMul, reduceSub, reduceEqDiff, reduceLT, ↓reduceIte, Int.reduceToNat, reduceLeDiff,  e0, e1, e5]
          exact hK _ _ ⟨rfl, k + 1, true, by omega, by omega, by simpa [Nat.add_assoc] using hk, e0, rfl, rfl⟩ (hmu _ rfl)
        · have h35 : (bt s k == 35) = false := by simp; omega
          rw [h35] at hk
          clear hc
          simp +contextual (maxSteps := 2000000) (disch := first | omega | (simp only [SZ]; first | done | omega) | (simp only [TS] at *; omega)) only [RZ, ovw, oneC, reduceAdd, reduceMul, reduceSub, reduceEqDiff, reduceLT, ↓reduceIte, Int.reduceToNat, reduceLeDiff,  e0, e1, e5]
          (refine W_if rfl (fun hc => ?_) (fun hc => ?_) <;> (try simp only [TS] at hc))
          · have h10 : (bt s k == 10) = true := by simp; omega
            rw [h10] at hk
            simp +contextual (maxSteps := 2000000) (disch := first | omega | (simp only [SZ]; first | done | omega) | (simp only [TS] at *; omega)) only [RZ, ovw, oneC, reduceAdd, reduceMul, reduceSub, reduceEqDiff, reduceLT, ↓reduceIte, Int.reduceToNat, reduceLeDiff,  e0, e1, e5]
            exact hK _ _ ⟨rfl, k + 1, false, by omega, by omega, by simpa [Nat.add_assoc] using hk, e0, rfl, rfl⟩ (hmu _ rfl)
          · have h10 : (bt s k == 10) = false := by simp; omega
            rw [h10] at hk
            simp +contextual (maxSteps := 2000000) (disch := first | omega | (simp only [SZ]; first | done | omega) | (simp only [TS] at *; omega)) only [RZ, ovw, oneC, reduceAdd, reduceMul, reduceSub, reduceEqDiff, reduceLT, ↓reduceIte, Int.reduceToNat, reduceLeDiff,  e0, e1, e5]
            exact hK _ _ ⟨rfl, k + 1, false, by omega, by omega, by simpa [Nat.add_assoc] using hk, e0, rfl, e5⟩ (hmu _ rfl)
      | false =>
        simp +contextual (maxSteps := 2000000) (disch := first | omega | (simp only [SZ]; first | done | omega) | (simp only [TS] at *; omega)) only [RZ, ovw, oneC, reduceAdd, reduceMul, reduceSub, reduceEqDiff, reduceLT, ↓reduceIte, Int.reduceToNat, reduceLeDiff,  e0, e1, e5, hd]
        (refine W_if rfl (fun hc => ?_) (fun hc => ?_) <;> (try simp only [TS] at hc))
        · rw [if_pos (by simp; omega)] at hk
          clear hc
          simp +contextual (maxSteps := 2000000) (disch := first | omega | (simp only [SZ]; first | done | omega) | (simp only [TS] at *; omega)) only [RZ, ovw, oneC, reduceAdd, reduceMul, reduceSub, reduceEqDiff, reduceLT, ↓reduceIte, Int.reduceToNat, reduceLeDiff,  e0, e1, e5]
          (refine W_if rfl (fun hc => ?_) (fun hc => ?_) <;> (try simp only [TS] at hc))
          · have h10 : (bt s k == 10) = false := by simp; omega
            have h35 : (bt s k == 35) = true := by simp; omega
            rw [h10, h35] at hk
            simp +contextual (maxSteps := 2000000) (disch := first | omega | (simp only [SZ]; first | done | omega) | (simp only [TS] at *; omega)) only [RZ, ovw, oneC, reduceAdd, reduceMul, reduceSub, reduceEqDiff, reduceLT, ↓reduceIte, Int.reduceToNat, reduceLeDiff,  e0, e1, e5]
            (refine W_if rfl (fun hc => ?_) (fun hc => ?_) <;> (try simp only [TS] at hc))
            · omega
            simp +contextual (maxSteps := 2000000) (disch := first | omega | (simp only [SZ]; first | done | omega) | (simp only [TS] at *; omega)) only [RZ, ovw, oneC, reduceAdd, reduceMul, reduceSub, reduceEqDiff, reduceLT, ↓reduceIte, Int.reduceToNat, reduceLeDiff,  e0, e1, e5]
            exact hK _ _ ⟨rfl, k + 1, true, by omega, by omega, by simpa [Nat.add_assoc] using hk, e0, rfl, rfl⟩ (hmu _ rfl)
          · have h35 : (bt s k == 35) = false := by simp; omega
            rw [h35] at hk
            clear hc
            simp +contextual (maxSteps := 2000000) (disch := first | omega | (simp only [SZ]; first | done | omega) | (simp only [TS] at *; omega)) only [RZ, ovw, oneC, reduceAdd, reduceMul, reduceSub, reduceEqDiff, reduceLT, ↓reduceIte, Int.reduceToNat, reduceLeDiff,  e0, e1, e5]
            (refine W_if rfl (fun hc => ?_) (fun hc => ?_) <;> (try simp only [TS] at hc))
            · have h10 : (bt s k == 10) = true := by simp; omega
              rw [h10] at hk
              simp +contextual (maxSteps := 2000000) (disch := first | omega | (simp only [SZ]; first | done | omega) | (simp only [TS] at *; omega)) only [RZ, ovw, oneC, reduceAdd, reduceMul, reduceSub, reduceEqDiff, reduceLT, ↓reduceIte, Int.reduceToNat, reduceLeDiff,  e0, e1, e5]
              exact hK _ _ ⟨rfl, k + 1, false, by omega, by omega, by simpa [Nat.add_assoc] using hk, e0, rfl, rfl⟩ (hmu _ rfl)
            · have h10 : (bt s k == 10) = false := by simp; omega
              rw [h10] at hk
              simp +contextual (maxSteps := 2000000) (disch := first | omega | (simp only [SZ]; first | done | omega) | (simp only [TS] at *; omega)) only [RZ, ovw, oneC, reduceAdd, reduceMul, reduceSub, reduceEqDiff, reduceLT, ↓reduceIte, Int.reduceToNat, reduceLeDiff,  e0, e1, e5]
              exact hK _ _ ⟨rfl, k + 1, false, by omega, by omega, by simpa [Nat.add_assoc] using hk, e0, rfl, e5⟩ (hmu _ rfl)
        · rw [if_neg (by rw [hb]; simp; omega)] at hk
          simp +contextual (maxSteps := 2000000) (disch := first | omega | (simp only [SZ]; first | done | omega) | (simp only [TS] at *; omega)) only [RZ, ovw, oneC, reduceAdd, reduceMul, reduceSub, reduceEqDiff, reduceLT, ↓reduceIte, Int.reduceToNat, reduceLeDiff,  e1]
          exact ret_int (by omega)
  · have hd : decide ((k : Int) < s.size) = false := decide_eq_false (by omega)
    rw [List.drop_eq_nil_of_le (by rw [bs_len]; omega), skipB] at hk
    simp +contextual (maxSteps := 2000000) (disch := first | omega | (simp only [SZ]; first | done | omega) | (simp only [TS] at *; omega)) only [RZ, ovw, oneC, reduceAdd, reduceMul, reduceSub, reduceEqDiff, reduceLT, ↓reduceIte, Int.reduceToNat, reduceLeDiff,  e0, e1, e5, hd]
    refine W_if_f rfl ?_
    simp +contextual (maxSteps := 2000000) (disch := first | omega | (simp only [SZ]; first | done | omega) | (simp only [TS] at *; omega)) only [RZ, ovw, oneC, reduceAdd, reduceMul, reduceSub, reduceEqDiff, reduceLT, ↓reduceIte, Int.reduceToNat, reduceLeDiff,  e1]
    exact ret_int (by omega)
theorem rplace_any (s : ByteArray) (n : Nat) (w : World) (hs : s.size ≤ 1000000) (hn : n ≤ s.size) :
    Calls Tryd.prog 28 #[.string s, .int .i64 n] w fun e w' => e = .returned (.tuple #[.int .i64 (place ((bs s).take n)).1, .int .i64 (place ((bs s).take n)).2]) ∧ w = w' := by
  refine calls_W (l := [_, _]) Tryd.func28 rfl _ Tryd.ntmps28 (by simp) ?_
  simp +contextual (maxSteps := 2000000) (disch := first | omega | (simp only [SZ]; first | done | omega) | (simp only [TS] at *; omega)) only [RZ, ovw, oneC, reduceAdd, reduceMul, reduceSub, reduceEqDiff, reduceLT, ↓reduceIte, Int.reduceToNat, reduceLeDiff]
  refine Raw_loop (fun σ w' => w = w' ∧ ∃ k : Nat, k ≤ n ∧ σ 0 = .string s ∧ σ 1 = .int .i64 n ∧ σ 6 = .int .i64 (place ((bs s).take k)).1 ∧ σ 7 = .int .i64 (place ((bs s).take k)).2 ∧ σ 8 = .int .i64 k) (fun σ _ => n - (intOf (σ 8)).toNat) ?_ ?_
  · simp +contextual (maxSteps := 2000000) (disch := first | omega | (simp only [SZ]; first | done | omega) | (simp only [TS] at *; omega)) only [RZ, ovw, oneC, reduceAdd, reduceMul, reduceSub, reduceEqDiff, reduceLT, ↓reduceIte, Int.reduceToNat, reduceLeDiff]
    exact ⟨0, Nat.zero_le _, rfl, rfl, rfl⟩
  rintro σ w' ⟨rfl, k, hk, e0, e1, e6, e7, e8⟩ K hK
  have hpb := place_bd ((bs s).take k)
  rw [List.length_take, bs_len] at hpb
  simp +contextual (maxSteps := 2000000) (disch := first | omega | (simp only [SZ]; first | done | omega) | (simp only [TS] at *; omega)) only [RZ, ovw, oneC, reduceAdd, reduceMul, reduceSub, reduceEqDiff, reduceLT, ↓reduceIte, Int.reduceToNat, reduceLeDiff,  e0, e1, e6, e7, e8]
  (refine W_if rfl (fun hc => ?_) (fun hc => ?_) <;> (try simp only [TS] at hc))
  · have hkn : k < n := by omega
    clear hc
    have hlt := bt_lt s k
    have hp : place ((bs s).take (k + 1)) = step1 (place ((bs s).take k)) (bt s k) := by
      rw [List.take_add_one, place_append, bs_get (by omega)]; rfl
    have hmu : ∀ σ' : Sl, σ' 8 = .int .i64 ((k : Int) + 1) → n - (intOf (σ' 8)).toNat < n - (intOf (σ 8)).toNat := fun σ' h => by rw [h, e8]; simp only [intOf]; omega
    simp +contextual (maxSteps := 2000000) (disch := first | omega | (simp only [SZ]; first | done | omega) | (simp only [TS] at *; omega)) only [RZ, ovw, oneC, reduceAdd, reduceMul, reduceSub, reduceEqDiff, reduceLT, ↓reduceIte, Int.reduceToNat, reduceLeDiff,  e0, e1, e6, e7, e8]
    (refine W_if rfl (fun hc => ?_) (fun hc => ?_) <;> (try simp only [TS] at hc))
    · unfold step1 at hp
      rw [if_pos (by omega)] at hp
      simp +contextual (maxSteps := 2000000) (disch := first | omega | (simp only [SZ]; first | done | omega) | (simp only [TS] at *; omega)) only [RZ, ovw, oneC, reduceAdd, reduceMul, reduceSub, reduceEqDiff, reduceLT, ↓reduceIte, Int.reduceToNat, reduceLeDiff,  e0, e1, e6, e7, e8]
      refine hK _ _ ⟨rfl, k + 1, hkn, e0, e1, ?_, ?_, rfl⟩ (hmu _ rfl)
      · rw [hp]; rfl
      · rw [hp]; rfl
    · unfold step1 at hp
      rw [if_neg (by omega)] at hp
      simp +contextual (maxSteps := 2000000) (disch := first | omega | (simp only [SZ]; first | done | omega) | (simp only [TS] at *; omega)) only [RZ, ovw, oneC, reduceAdd, reduceMul, reduceSub, reduceEqDiff, reduceLT, ↓reduceIte, Int.reduceToNat, reduceLeDiff,  e0, e1, e6, e7, e8]
      refine hK _ _ ⟨rfl, k + 1, hkn, e0, e1, ?_, ?_, rfl⟩ (hmu _ rfl)
      · rw [hp]; exact e6
      · rw [hp]; rfl
  · have hkn : k = n := by omega
    subst hkn
    simp +contextual (maxSteps := 2000000) (disch := first | omega | (simp only [SZ]; first | done | omega) | (simp only [TS] at *; omega)) only [RZ, ovw, oneC, reduceAdd, reduceMul, reduceSub, reduceEqDiff, reduceLT, ↓reduceIte, Int.reduceToNat, reduceLeDiff,  e6, e7]
end Go.Proofs.YtbdkggnajipdhaaDoor
/- Walks: the reference's end. -/
namespace Go.Proofs.YtbdkggnajipdhaaDoor
open Nat (reduceAdd reduceMul reduceSub reduceEqDiff reduceLT reduceLeDiff)
open Go.RowKit
set_option maxRecDepth 100000
def tokP (l : List Nat) : Nat × Nat := if (piece l).1 = 0 ∨ (piece l).2 = 0 then (0, 0) else piece l
theorem drop_at {s : ByteArray} {k : Nat} (h : k < s.size) : (bs s).drop k = bt s k :: (bs s).drop (k + 1) := by
  have h1 := bs_get h
  obtain ⟨h2, h3⟩ := List.getElem?_eq_some_iff.1 h1
  rw [List.drop_eq_getElem_cons h2, h3]
theorem spn_seg {q : Nat → Bool} {s : ByteArray} {a b : Nat} (hab : a ≤ b) (hb : b ≤ s.size) (h1 : ∀ j, a ≤ j → j < b → q (bt s j) = true) (h2 : b < s.size → q (bt s b) = false) : spn q ((bs s).drop a) = b - a := by
  refine spn_is _ _ (fun j hj => ⟨bt s (a + j), ?_, h1 _ (by omega) (by omega)⟩) (fun c hc => ?_)
  · rw [List.getElem?_drop, bs_get (by omega)]
  · rw [List.getElem?_drop, show a + (b - a) = b from by omega] at hc
    have := (List.getElem?_eq_some_iff.1 hc).1
    rw [bs_len] at this
    rw [bs_get this] at hc
    injection hc with hc
    rw [← hc]; exact h2 this
theorem rend_any (s : ByteArray) (at_ : Nat) (w : World) (hs : s.size ≤ 1000000) (ha : at_ < s.size) :
    Calls Tryd.prog 29 #[.string s, .int .i64 at_] w fun e w' => e = .returned (.tuple #[.int .i64 (at_ + (tokP ((bs s).drop at_)).2), .int .i64 (tokP ((bs s).drop at_)).1]) ∧ w = w' := by
  refine calls_W (l := [_, _]) Tryd.func29 rfl _ Tryd.ntmps29 (by simp) ?_
  have hlt := bt_lt s at_
  have hl := drop_at ha
  have hP : piece ((bs s).drop at_) = if blankB (bt s at_) then (0, spn blankB ((bs s).drop at_)) else if bt s at_ = 35 then (0, spn remB ((bs s).drop at_)) else if letterB (bt s at_) then (1, spn wordB ((bs s).drop at_)) else if digitB (bt s at_) then (if badN (spn digitB ((bs s).drop at_)) (bt s at_) then (2, 0) else (2, spn digitB ((bs s).drop at_))) else if markB (bt s at_) then (3, 1) else (0, 0) := by rw [hl, piece]
  unfold tokP
  simp +contextual (maxSteps := 2000000) (disch := first | omega | (simp only [SZ]; first | done | omega) | (simp only [TS] at *; omega)) only [RZ, ovw, oneC, reduceAdd, reduceMul, reduceSub, reduceEqDiff, reduceLT, ↓reduceIte, Int.reduceToNat, reduceLeDiff]
  refine (rmark_any _ _).mono ?_
  rintro e w' ⟨rfl, rfl⟩
  refine ⟨_, rfl, ?_⟩
  rw [markIB]
  simp +contextual (maxSteps := 2000000) (disch := first | omega | (simp only [SZ]; first | done | omega) | (simp only [TS] at *; omega)) only [RZ, ovw, oneC, reduceAdd, reduceMul, reduceSub, reduceEqDiff, reduceLT, ↓reduceIte, Int.reduceToNat, reduceLeDiff]
  (refine W_if rfl (fun hc => ?_) (fun hc => ?_) <;> (try simp only [TS] at hc))
  · have h1 : blankB (bt s at_) = false ∧ bt s at_ ≠ 35 ∧ letterB (bt s at_) = false ∧ digitB (bt s at_) = false := by
      unfold markB at hc; unfold blankB letterB digitB
      simp only [Bool.or_eq_true, beq_iff_eq, Bool.or_eq_false_iff, beq_eq_false_iff_ne, Bool.and_eq_false_iff, decide_eq_false_iff_not] at *
      omega
    rw [h1.1, h1.2.2.1, h1.2.2.2, hc, if_neg (by simp), if_neg h1.2.1, if_neg (by simp), if_neg (by simp), if_pos rfl] at hP
    rw [hP, if_neg (by simp)]
    simp +contextual (maxSteps := 2000000) (disch := first | omega | (simp only [SZ]; first | done | omega) | (simp only [TS] at *; omega)) only [RZ, ovw, oneC, reduceAdd, reduceMul, reduceSub, reduceEqDiff, reduceLT, ↓reduceIte, Int.reduceToNat, reduceLeDiff]
    exact rfl
  have hmk := hc
  clear hc
  simp +contextual (maxSteps := 2000000) (disch := first | omega | (simp only [SZ]; first | done | omega) | (simp only [TS] at *; omega)) only [RZ, ovw, oneC, reduceAdd, reduceMul, reduceSub, reduceEqDiff, reduceLT, ↓reduceIte, Int.reduceToNat, reduceLeDiff]
  refine (rletter_any _ _).mono ?_
  rintro e w' ⟨rfl, rfl⟩
  refine ⟨_, rfl, ?_⟩
  rw [letterIB]
  simp +contextual (maxSteps := 2000000) (disch := first | omega | (simp only [SZ]; first | done | omega) | (simp only [TS] at *; omega)) only [RZ, ovw, oneC, reduceAdd, reduceMul, reduceSub, reduceEqDiff, reduceLT, ↓reduceIte, Int.reduceToNat, reduceLeDiff]
  (refine W_if rfl (fun hc => ?_) (fun hc => ?_) <;> (try simp only [TS] at hc))
  · have h1 : blankB (bt s at_) = false ∧ bt s at_ ≠ 35 := by
      unfold letterB at hc; unfold blankB
      simp only [Bool.and_eq_true, decide_eq_true_eq, Bool.or_eq_false_iff, beq_eq_false_iff_ne] at *
      omega
    rw [h1.1, hc, if_neg (by simp), if_neg h1.2, if_pos rfl] at hP
    have hw0 : wordB (bt s at_) = true := by unfold wordB; rw [hc]; rfl
    simp +contextual (maxSteps := 2000000) (disch := first | omega | (simp only [SZ]; first | done | omega) | (simp only [TS] at *; omega)) only [RZ, ovw, oneC, reduceAdd, reduceMul, reduceSub, reduceEqDiff, reduceLT, ↓reduceIte, Int.reduceToNat, reduceLeDiff]
    refine Raw_loop (fun σ w' => w = w' ∧ ∃ k : Nat, at_ < k ∧ k ≤ s.size ∧ (∀ j, at_ ≤ j → j < k → wordB (bt s j) = true) ∧ σ 0 = .string s ∧ σ 7 = .int .i64 k) (fun σ _ => s.size - (intOf (σ 7)).toNat) ?_ ?_
    · simp +contextual (maxSteps := 2000000) (disch := first | omega | (simp only [SZ]; first | done | omega) | (simp only [TS] at *; omega)) only [RZ, ovw, oneC, reduceAdd, reduceMul, reduceSub, reduceEqDiff, reduceLT, ↓reduceIte, Int.reduceToNat, reduceLeDiff]
      exact ⟨at_ + 1, Nat.lt_succ_self _, ha, fun j h h' => by rw [show j = at_ from by omega]; exact hw0, rfl⟩
    rintro σ w' ⟨rfl, k, hk1, hk2, hq, e0, e7⟩ K hK
    by_cases hks : k < s.size
    · have hd : decide ((k : Int) < s.size) = true := decide_eq_true (by omega)
      simp +contextual (maxSteps := 2000000) (disch := first | omega | (simp only [SZ]; first | done | omega) | (simp only [TS] at *; omega)) only [RZ, ovw, oneC, reduceAdd, reduceMul, reduceSub, reduceEqDiff, reduceLT, ↓reduceIte, Int.reduceToNat, reduceLeDiff,  e0, e7, hd]
      refine (rletter_any _ _).mono ?_
      rintro e w' ⟨rfl, rfl⟩
      refine ⟨_, rfl, ?_⟩
      rw [letterIB]
      simp +contextual (maxSteps := 2000000) (disch := first | omega | (simp only [SZ]; first | done | omega) | (simp only [TS] at *; omega)) only [RZ, ovw, oneC, reduceAdd, reduceMul, reduceSub, reduceEqDiff, reduceLT, ↓reduceIte, Int.reduceToNat, reduceLeDiff,  e0, e7, hd]
      refine GB_call (fun _ => rdigit_any _ _) ?_
      rw [digitIB]
      simp +contextual (maxSteps := 2000000) (disch := first | omega | (simp only [SZ]; first | done | omega) | (simp only [TS] at *; omega)) only [RZ, ovw, oneC, reduceAdd, reduceMul, reduceSub, reduceEqDiff, reduceLT, ↓reduceIte, Int.reduceToNat, reduceLeDiff,  e0, e7, hd]
      (refine W_if rfl (fun hc => ?_) (fun hc => ?_) <;> (try simp only [TS] at hc))
      · have hw : wordB (bt s k) = true := by
          unfold wordB
          simp only [Bool.or_eq_true, beq_iff_eq]
          rcases hc with hc | hc
          · exact .inl hc
          · exact .inr (by omega)
        simp +contextual (maxSteps := 2000000) (disch := first | omega | (simp only [SZ]; first | done | omega) | (simp only [TS] at *; omega)) only [RZ, ovw, oneC, reduceAdd, reduceMul, reduceSub, reduceEqDiff, reduceLT, ↓reduceIte, Int.reduceToNat, reduceLeDiff,  e0, e7]
        refine hK _ _ ⟨rfl, k + 1, by omega, hks, fun j h h' => ?_, e0, rfl⟩ ?_
        · by_cases hj : j < k
          · exact hq j h hj
          · rw [show j = k from by omega]; exact hw
        · show s.size - (intOf (.int .i64 ((k : Int) + 1))).toNat < s.size - (intOf (σ 7)).toNat; rw [e7]; simp only [intOf]; omega
      · have hw : wordB (bt s k) = false := by
          unfold wordB
          simp only [Bool.or_eq_false_iff, beq_eq_false_iff_ne, ne_eq]
          exact ⟨hc.1, by omega⟩
        have hsp := spn_seg (a := at_) (b := k) (by omega) hk2 hq (fun _ => hw)
        rw [hP, hsp, if_neg (by simp; omega)]
        simp +contextual (maxSteps := 2000000) (disch := first | omega | (simp only [SZ]; first | done | omega) | (simp only [TS] at *; omega)) only [RZ, ovw, oneC, reduceAdd, reduceMul, reduceSub, reduceEqDiff, reduceLT, ↓reduceIte, Int.reduceToNat, reduceLeDiff,  e7]
        refine congrArg _ (congrArg Value.tuple ?_)
        congr 2
        · congr 1; omega
    · have hd : decide ((k : Int) < s.size) = false := decide_eq_false (by omega)
      have hsp := spn_seg (a := at_) (b := k) (by omega) hk2 hq (fun h => absurd h hks)
      rw [hP, hsp, if_neg (by simp; omega)]
      simp +contextual (maxSteps := 2000000) (disch := first | omega | (simp only [SZ]; first | done | omega) | (simp only [TS] at *; omega)) only [RZ, ovw, oneC, reduceAdd, reduceMul, reduceSub, reduceEqDiff, reduceLT, ↓reduceIte, Int.reduceToNat, reduceLeDiff,  e0, e7, hd]
      refine W_if_f rfl ?_
      simp +contextual (maxSteps := 2000000) (disch := first | omega | (simp only [SZ]; first | done | omega) | (simp only [TS] at *; omega)) only [RZ, ovw, oneC, reduceAdd, reduceMul, reduceSub, reduceEqDiff, reduceLT, ↓reduceIte, Int.reduceToNat, reduceLeDiff,  e7]
      refine congrArg _ (congrArg Value.tuple ?_)
      congr 2
      · congr 1; omega
  have hlk := hc
  clear hc
  simp +contextual (maxSteps := 2000000) (disch := first | omega | (simp only [SZ]; first | done | omega) | (simp only [TS] at *; omega)) only [RZ, ovw, oneC, reduceAdd, reduceMul, reduceSub, reduceEqDiff, reduceLT, ↓reduceIte, Int.reduceToNat, reduceLeDiff]
  refine (rdigit_any _ _).mono ?_
  rintro e w' ⟨rfl, rfl⟩
  refine ⟨_, rfl, ?_⟩
  rw [digitIB]
  simp +contextual (maxSteps := 2000000) (disch := first | omega | (simp only [SZ]; first | done | omega) | (simp only [TS] at *; omega)) only [RZ, ovw, oneC, reduceAdd, reduceMul, reduceSub, reduceEqDiff, reduceLT, ↓reduceIte, Int.reduceToNat, reduceLeDiff]
  (refine W_if rfl (fun hc => ?_) (fun hc => ?_) <;> (try simp only [TS] at hc))
  · have hdg := hc
    have h1 : blankB (bt s at_) = false ∧ bt s at_ ≠ 35 := by
      unfold digitB at hc; unfold blankB
      simp only [Bool.and_eq_true, decide_eq_true_eq, Bool.or_eq_false_iff, beq_eq_false_iff_ne] at *
      omega
    rw [h1.1, hlk, hc, if_neg (by simp), if_neg h1.2, if_neg (by simp), if_pos rfl] at hP
    clear hc
    simp +contextual (maxSteps := 2000000) (disch := first | omega | (simp only [SZ]; first | done | omega) | (simp only [TS] at *; omega)) only [RZ, ovw, oneC, reduceAdd, reduceMul, reduceSub, reduceEqDiff, reduceLT, ↓reduceIte, Int.reduceToNat, reduceLeDiff]
    refine Raw_loop (fun σ w' => w = w' ∧ ∃ k : Nat, at_ < k ∧ k ≤ s.size ∧ (∀ j, at_ ≤ j → j < k → digitB (bt s j) = true) ∧ σ 0 = .string s ∧ σ 1 = .int .i64 at_ ∧ σ 6 = .int .u8 (bt s at_) ∧ σ 7 = .int .i64 k) (fun σ _ => s.size - (intOf (σ 7)).toNat) ?_ ?_
    · simp +contextual (maxSteps := 2000000) (disch := first | omega | (simp only [SZ]; first | done | omega) | (simp only [TS] at *; omega)) only [RZ, ovw, oneC, reduceAdd, reduceMul, reduceSub, reduceEqDiff, reduceLT, ↓reduceIte, Int.reduceToNat, reduceLeDiff]
      exact ⟨at_ + 1, Nat.lt_succ_self _, ha, fun j h h' => by rw [show j = at_ from by omega]; exact hdg, rfl⟩
    rintro σ w' ⟨rfl, k, hk1, hk2, hq, e0, e1, e6, e7⟩ K hK
    by_cases hks : k < s.size
    · have hd : decide ((k : Int) < s.size) = true := decide_eq_true (by omega)
      simp +contextual (maxSteps := 2000000) (disch := first | omega | (simp only [SZ]; first | done | omega) | (simp only [TS] at *; omega)) only [RZ, ovw, oneC, reduceAdd, reduceMul, reduceSub, reduceEqDiff, reduceLT, ↓reduceIte, Int.reduceToNat, reduceLeDiff,  e0, e1, e6, e7, hd]
      refine (rdigit_any _ _).mono ?_
      rintro e w' ⟨rfl, rfl⟩
      refine ⟨_, rfl, ?_⟩
      rw [digitIB]
      simp +contextual (maxSteps := 2000000) (disch := first | omega | (simp only [SZ]; first | done | omega) | (simp only [TS] at *; omega)) only [RZ, ovw, oneC, reduceAdd, reduceMul, reduceSub, reduceEqDiff, reduceLT, ↓reduceIte, Int.reduceToNat, reduceLeDiff,  e0, e1, e6, e7, hd]
      (refine W_if rfl (fun hc => ?_) (fun hc => ?_) <;> (try simp only [TS] at hc))
      · have hw := hc
        simp +contextual (maxSteps := 2000000) (disch := first | omega | (simp only [SZ]; first | done | omega) | (simp only [TS] at *; omega)) only [RZ, ovw, oneC, reduceAdd, reduceMul, reduceSub, reduceEqDiff, reduceLT, ↓reduceIte, Int.reduceToNat, reduceLeDiff,  e0, e1, e6, e7]
        refine hK _ _ ⟨rfl, k + 1, by omega, hks, fun j h h' => ?_, e0, e1, e6, rfl⟩ ?_
        · by_cases hj : j < k
          · exact hq j h hj
          · rw [show j = k from by omega]; exact hw
        · show s.size - (intOf (.int .i64 ((k : Int) + 1))).toNat < s.size - (intOf (σ 7)).toNat; rw [e7]; simp only [intOf]; omega
      · have hsp := spn_seg (a := at_) (b := k) (by omega) hk2 hq (fun _ => hc)
        clear hc
        rw [hsp] at hP
        simp +contextual (maxSteps := 2000000) (disch := first | omega | (simp only [SZ]; first | done | omega) | (simp only [TS] at *; omega)) only [RZ, ovw, oneC, reduceAdd, reduceMul, reduceSub, reduceEqDiff, reduceLT, ↓reduceIte, Int.reduceToNat, reduceLeDiff,  e0, e1, e6, e7]
        (refine W_if rfl (fun hc => ?_) (fun hc => ?_) <;> (try simp only [TS] at hc))
        · have hbn : badN (k - at_) (bt s at_) = false := by
            unfold badN
            simp only [Bool.or_eq_false_iff, Bool.and_eq_false_iff, decide_eq_false_iff_not, beq_eq_false_iff_ne, ne_eq]
            omega
          rw [hbn, if_neg (by simp)] at hP
          rw [hP, if_neg (by simp; omega)]
          simp +contextual (maxSteps := 2000000) (disch := first | omega | (simp only [SZ]; first | done | omega) | (simp only [TS] at *; omega)) only [RZ, ovw, oneC, reduceAdd, reduceMul, reduceSub, reduceEqDiff, reduceLT, ↓reduceIte, Int.reduceToNat, reduceLeDiff,  e0, e1, e6, e7]
          refine congrArg _ (congrArg Value.tuple ?_)
          congr 2
          · congr 1; omega
        · have hbn : badN (k - at_) (bt s at_) = true := by
            unfold badN
            simp only [Bool.or_eq_true, Bool.and_eq_true, decide_eq_true_eq, beq_iff_eq]
            omega
          rw [hbn, if_pos rfl] at hP
          rw [hP, if_pos (.inr rfl)]
          simp +contextual (maxSteps := 2000000) (disch := first | omega | (simp only [SZ]; first | done | omega) | (simp only [TS] at *; omega)) only [RZ, ovw, oneC, reduceAdd, reduceMul, reduceSub, reduceEqDiff, reduceLT, ↓reduceIte, Int.reduceToNat, reduceLeDiff,  e0, e1, e6, e7]
          exact congrArg (fun z => Ending.returned (.tuple #[.int .i64 z, .int .i64 0])) (Int.add_zero _).symm
    · have hd : decide ((k : Int) < s.size) = false := decide_eq_false (by omega)
      have hsp := spn_seg (a := at_) (b := k) (by omega) hk2 hq (fun h => absurd h hks)
      rw [hsp] at hP
      simp +contextual (maxSteps := 2000000) (disch := first | omega | (simp only [SZ]; first | done | omega) | (simp only [TS] at *; omega)) only [RZ, ovw, oneC, reduceAdd, reduceMul, reduceSub, reduceEqDiff, reduceLT, ↓reduceIte, Int.reduceToNat, reduceLeDiff,  e0, e1, e6, e7, hd]
      refine W_if_f rfl ?_
      simp +contextual (maxSteps := 2000000) (disch := first | omega | (simp only [SZ]; first | done | omega) | (simp only [TS] at *; omega)) only [RZ, ovw, oneC, reduceAdd, reduceMul, reduceSub, reduceEqDiff, reduceLT, ↓reduceIte, Int.reduceToNat, reduceLeDiff,  e0, e1, e6, e7]
      (refine W_if rfl (fun hc => ?_) (fun hc => ?_) <;> (try simp only [TS] at hc))
      · have hbn : badN (k - at_) (bt s at_) = false := by
          unfold badN
          simp only [Bool.or_eq_false_iff, Bool.and_eq_false_iff, decide_eq_false_iff_not, beq_eq_false_iff_ne, ne_eq]
          omega
        rw [hbn, if_neg (by simp)] at hP
        rw [hP, if_neg (by simp; omega)]
        simp +contextual (maxSteps := 2000000) (disch := first | omega | (simp only [SZ]; first | done | omega) | (simp only [TS] at *; omega)) only [RZ, ovw, oneC, reduceAdd, reduceMul, reduceSub, reduceEqDiff, reduceLT, ↓reduceIte, Int.reduceToNat, reduceLeDiff,  e0, e1, e6, e7]
        refine congrArg _ (congrArg Value.tuple ?_)
        congr 2
        · congr 1; omega
      · have hbn : badN (k - at_) (bt s at_) = true := by
          unfold badN
          simp only [Bool.or_eq_true, Bool.and_eq_true, decide_eq_true_eq, beq_iff_eq]
          omega
        rw [hbn, if_pos rfl] at hP
        rw [hP, if_pos (.inr rfl)]
        simp +contextual (maxSteps := 2000000) (disch := first | omega | (simp only [SZ]; first | done | omega) | (simp only [TS] at *; omega)) only [RZ, ovw, oneC, reduceAdd, reduceMul, reduceSub, reduceEqDiff, reduceLT, ↓reduceIte, Int.reduceToNat, reduceLeDiff,  e0, e1, e6, e7]
        exact congrArg (fun z => Ending.returned (.tuple #[.int .i64 z, .int .i64 0])) (Int.add_zero _).symm
  · have hdk := hc
    clear hc
    have hz : (piece ((bs s).drop at_)).1 = 0 := by
      rw [hP]
      repeat' split
      all_goals first | rfl | simp_all
    rw [if_pos (.inl hz)]
    simp +contextual (maxSteps := 2000000) (disch := first | omega | (simp only [SZ]; first | done | omega) | (simp only [TS] at *; omega)) only [RZ, ovw, oneC, reduceAdd, reduceMul, reduceSub, reduceEqDiff, reduceLT, ↓reduceIte, Int.reduceToNat, reduceLeDiff]
    exact congrArg (fun z => Ending.returned (.tuple #[.int .i64 z, .int .i64 0])) (Int.add_zero _).symm
end Go.Proofs.YtbdkggnajipdhaaDoor
/- Walk: the reference's Scan. -/
namespace Go.Proofs.YtbdkggnajipdhaaDoor
open Nat (reduceAdd reduceMul reduceSub reduceEqDiff reduceLT reduceLeDiff)
open Go.RowKit
set_option maxRecDepth 100000
theorem skip_blank : ∀ l : List Nat, skipB false l = spn blankB l + skipB false (l.drop (spn blankB l))
  | [] => rfl
  | c :: r => by
    by_cases h : blankB c = true
    · have h35 : (c == 35) = false := by unfold blankB at h; simp only [Bool.or_eq_true, beq_iff_eq, beq_eq_false_iff_ne] at *; omega
      have e : spn blankB (c :: r) = spn blankB r + 1 := by unfold spn; rw [List.takeWhile_cons_of_pos h]; rfl
      rw [e, List.drop_succ_cons, skipB, if_pos (by rw [h]; simp), h35, Bool.false_or, Bool.false_and, skip_blank r]
      omega
    · have e : spn blankB (c :: r) = 0 := by unfold spn; rw [List.takeWhile_cons_of_neg h]; rfl
      rw [e]; simp
theorem skip_rem : ∀ l : List Nat, skipB true l = spn remB l + skipB false (l.drop (spn remB l))
  | [] => rfl
  | c :: r => by
    by_cases h : c = 10
    · subst h
      have e : spn remB (10 :: r) = 0 := by unfold spn; rw [List.takeWhile_cons_of_neg (by decide)]; rfl
      rw [e, List.drop_zero, skipB, skipB, if_pos (by simp), if_pos (by decide)]
      simp
    · have e : spn remB (c :: r) = spn remB r + 1 := by unfold spn; rw [List.takeWhile_cons_of_pos (by unfold remB; simp [h])]; rfl
      have h10 : (c == 10) = false := by simp [h]
      rw [e, List.drop_succ_cons, skipB, if_pos (by simp), h10, Bool.true_or, Bool.not_false, Bool.true_and, skip_rem r]
      omega
theorem skip_hash (r : List Nat) : skipB false (35 :: r) = spn remB (35 :: r) + skipB false ((35 :: r).drop (spn remB (35 :: r))) := by
  have e : spn remB (35 :: r) = spn remB r + 1 := by unfold spn; rw [List.takeWhile_cons_of_pos (by decide)]; rfl
  rw [e, List.drop_succ_cons, skipB, if_pos (by decide)]
  have := skip_rem r
  simp only [Bool.false_or, beq_self_eq_true, Bool.true_and] at *
  rw [show (!(35 == 10 : Bool)) = true from rfl, this]
  omega
theorem skip_idem : ∀ (l : List Nat) (m : Bool), skipB false (l.drop (skipB m l)) = 0
  | [], m => by simp [skipB]
  | c :: r, m => by
    rw [skipB]
    split
    · rw [Nat.add_comm, List.drop_succ_cons]; exact skip_idem r _
    · rename_i h
      rw [List.drop_zero, skipB, if_neg]
      intro h2
      apply h
      simp only [Bool.or_eq_true, Bool.false_or] at *
      rcases h2 with h2 | h2
      · exact .inl (.inr h2)
      · exact .inr h2
theorem skip_le : ∀ (l : List Nat) (m : Bool), skipB m l ≤ l.length
  | [], m => by simp [skipB]
  | c :: r, m => by
    rw [skipB]
    split
    · have := skip_le r ((m || c == 35) && !(c == 10)); rw [List.length_cons]; omega
    · omega
theorem lexR_skip : ∀ (n : Nat) (l : List Nat) (at_ : Nat), l.length ≤ n → lexR at_ l = lexR (at_ + skipB false l) (l.drop (skipB false l))
  | _, [], _, _ => rfl
  | 0, c :: r, _, h => by simp at h
  | n + 1, c :: r, at_, h => by
    have go : ∀ k, piece (c :: r) = (0, k) → 1 ≤ k → skipB false (c :: r) = k + skipB false ((c :: r).drop k) → lexR at_ (c :: r) = lexR (at_ + skipB false (c :: r)) ((c :: r).drop (skipB false (c :: r))) := by
      intro k hk h1 h2
      rw [lexR_cons, hk, if_neg (by simp only; omega), if_pos rfl, h2]
      simp only
      rw [lexR_skip n _ _ (by rw [List.length_drop, List.length_cons] at *; omega), List.drop_drop, Nat.add_assoc]
    by_cases hb : blankB c = true
    · exact go _ (by rw [piece, if_pos hb]) (spn_pos hb) (skip_blank _)
    · by_cases h35 : c = 35
      · subst h35
        exact go _ (by rw [piece, if_neg hb, if_pos rfl]) (spn_pos (by decide)) (skip_hash r)
      · have : skipB false (c :: r) = 0 := by rw [skipB, if_neg (by simp [hb, h35])]
        rw [this]; rfl
/-- Where nothing is skipped. -/
theorem lexG_tok {l : List Nat} (h : skipB false l = 0) (hl : l ≠ []) (at_ : Nat) : lexR at_ l = if (tokP l).1 = 0 then .error at_ else consR ((tokP l).1, at_, (tokP l).2) (lexR (at_ + (tokP l).2) (l.drop (tokP l).2)) := by
  cases l with
  | nil => exact absurd rfl hl
  | cons c r =>
    have hb : ¬ (blankB c = true) ∧ ¬ c = 35 := by
      rw [skipB] at h
      split at h
      · omega
      · rename_i h'
        simp only [Bool.or_eq_true, beq_iff_eq, not_or] at h'
        exact ⟨h'.1.2, h'.2⟩
    rw [lexR_cons]
    by_cases h2 : (piece (c :: r)).2 = 0
    · have ht : tokP (c :: r) = (0, 0) := if_pos (.inr h2)
      rw [if_pos h2, ht, if_pos rfl]
    · have h1 : (piece (c :: r)).1 ≠ 0 := by
        intro e
        apply h2
        rw [piece, if_neg hb.1, if_neg hb.2] at e ⊢
        repeat' split at e
        all_goals simp_all
      have ht : tokP (c :: r) = piece (c :: r) := if_neg (fun h => h.elim h1 h2)
      rw [if_neg h2, if_neg h1, ht, if_neg h1]
theorem last10 : ∀ b : List Nat, 0 < b.count 10 → ∃ k : Nat, b[k]? = some 10 ∧ ∀ j : Nat, k < j → b[j]? ≠ some 10
  | [], hc => by simp at hc
  | c :: r, hc => by
    by_cases hr : 0 < r.count 10
    · obtain ⟨k, h3, h4⟩ := last10 r hr
      refine ⟨k + 1, by simpa using h3, fun j hj => ?_⟩
      cases j with
      | zero => omega
      | succ j => simpa using h4 j (by omega)
    · have h10 : c = 10 := by
        by_cases h : c = 10
        · exact h
        · rw [List.count_cons_of_ne h] at hc; omega
      refine ⟨0, by simp [h10], fun j hj => ?_⟩
      cases j with
      | zero => omega
      | succ j =>
        intro h
        simp only [List.getElem?_cons_succ] at h
        exact hr (List.count_pos_iff.2 (List.mem_of_getElem? h))
theorem fold_place (b : List Nat) (p : Int × Int) : b.foldl step1 p = if 1 < (place b).1 then (p.1 + (place b).1 - 1, (place b).2) else (p.1, p.2 + (place b).2 - 1) := by
  have h1 := fold_line b (1, 1)
  have h2 := fold_line b p
  unfold place
  by_cases hc : 0 < b.count 10
  · rw [if_pos (by rw [h1]; simp only; omega)]
    obtain ⟨k, hk, hn⟩ := last10 b hc
    have e1 := fold_col b (1, 1) k hk hn
    have e2 := fold_col b p k hk hn
    apply Prod.ext
    · simp only; rw [h1, h2]; simp only; omega
    · simp only; rw [e1, e2]
  · have hno : ∀ c ∈ b, c ≠ 10 := fun c hc' e => hc (by subst e; exact List.count_pos_iff.2 hc')
    rw [fold_plain b _ hno, fold_plain b _ hno, if_neg (by simp)]
    simp only [Prod.mk.injEq, true_and]
    omega
set_option maxHeartbeats 1000000 in
theorem rscan_any (s : ByteArray) (w : World) (hs : s.size ≤ 1000000) :
    Calls Tryd.prog 10 #[.string s] w fun e w' => Below w.heap.size w w' ∧ ∃ v, e = .returned (.tuple #[v, .int .i64 (scanE s).1, .int .i64 (scanE s).2.1]) ∧ TokIn w.heap.size w' v (scanE s).2.2 := by
  refine calls_W (l := [_]) Tryd.func10 rfl _ Tryd.ntmps10 (by simp) ?_
  have hI : sliceI Tryd.prog 33 = some (38, 4, 40) := by kernel_rfl
  unfold scanE
  simp +contextual (maxSteps := 2000000) (disch := first | omega | (simp only [SZ]; first | done | omega) | (simp only [TS] at *; omega)) only [RZ, ovw, oneC, reduceAdd, reduceMul, reduceSub, reduceEqDiff, reduceLT, ↓reduceIte, Int.reduceToNat, reduceLeDiff]
  (refine W_if rfl (fun hc => ?_) (fun hc => ?_) <;> (try simp only [TS] at hc))
  · rw [if_pos (by omega)]
    simp +contextual (maxSteps := 2000000) (disch := first | omega | (simp only [SZ]; first | done | omega) | (simp only [TS] at *; omega)) only [RZ, ovw, oneC, reduceAdd, reduceMul, reduceSub, reduceEqDiff, reduceLT, ↓reduceIte, Int.reduceToNat, reduceLeDiff]
    exact ⟨Below.refl _ _, _, rfl, none, 0, rfl, owns_nil _ _ _ _⟩
  rw [if_neg (by omega)]
  clear hc
  simp +contextual (maxSteps := 2000000) (disch := first | omega | (simp only [SZ]; first | done | omega) | (simp only [TS] at *; omega)) only [RZ, ovw, oneC, reduceAdd, reduceMul, reduceSub, reduceEqDiff, reduceLT, ↓reduceIte, Int.reduceToNat, reduceLeDiff]
  generalize hR : lexR 0 (bs s) = R
  refine (rskip_any s 0 w hs (Nat.zero_le _)).mono ?_
  rintro e w0 ⟨rfl, rfl⟩
  refine ⟨_, rfl, ?_⟩
  rw [List.drop_zero]
  have hk0 := skip_le (bs s) false
  rw [bs_len] at hk0
  have hid0 := skip_idem (bs s) false
  rw [lexR_skip _ _ _ (Nat.le_refl _), Nat.zero_add] at hR
  generalize skipB false (bs s) = k0 at *
  refine Raw_loop (fun σ w' => Below w.heap.size w w' ∧ ∃ (at_ last : Nat) (D : List (Nat × Nat × Nat)) (A : Option Addr) (c : Nat), at_ ≤ s.size ∧ last ≤ at_ ∧ D.length ≤ at_ ∧ skipB false ((bs s).drop at_) = 0 ∧ joinR D (lexR at_ ((bs s).drop at_)) = R ∧
      w'.ownsRow w.heap.size 38 4 (.slice A D.length c) D.length ((D.map (tokOf s)).flatMap encTk) ∧
      σ 0 = .string s ∧ σ 5 = .slice A D.length c ∧ σ 6 = .int .i64 (place ((bs s).take last)).1 ∧ σ 7 = .int .i64 (place ((bs s).take last)).2 ∧ σ 8 = .int .i64 last ∧ σ 9 = .int .i64 at_) (fun σ _ => s.size - (intOf (σ 9)).toNat) ?_ ?_
  · simp +contextual (maxSteps := 2000000) (disch := first | omega | (simp only [SZ]; first | done | omega) | (simp only [TS] at *; omega)) only [RZ, ovw, oneC, reduceAdd, reduceMul, reduceSub, reduceEqDiff, reduceLT, ↓reduceIte, Int.reduceToNat, reduceLeDiff]
    exact ⟨Below.refl _ _, k0, 0, [], none, 0, hk0, Nat.zero_le _, Nat.zero_le _, hid0, by rw [hR]; cases R <;> rfl, owns_nil _ _ _ _, rfl, rfl, rfl, rfl, by simp⟩
  rintro σ w1 ⟨hB, at_, last, D, A, c, ha, hla, hDa, hsk, hj, hown, e0, e5, e6, e7, e8, e9⟩ K hK
  have hpb := place_bd ((bs s).take last)
  have hpa := place_bd ((bs s).take at_)
  rw [List.length_take, bs_len] at hpb hpa
  have hx : bs (s.extract last at_) = ((bs s).drop last).take (at_ - last) := bs_extract _ _ _
  have hxs : (s.extract last at_).size = at_ - last := by rw [← bs_len, hx, List.length_take, List.length_drop, bs_len]; omega
  have hpt : place ((bs s).take at_) = (bs (s.extract last at_)).foldl step1 (place ((bs s).take last)) := by
    rw [hx, ← place_append, ← List.take_add, show last + (at_ - last) = at_ from by omega]
  rw [fold_place] at hpt
  have hpd := place_bd (bs (s.extract last at_))
  rw [bs_len, hxs] at hpd
  have htl : (bs (s.extract last at_)).take (at_ - last) = bs (s.extract last at_) := List.take_of_length_le (by rw [bs_len]; omega)
  have hlast : ((at_ : Int) - last) = ((at_ - last : Nat) : Int) := by omega
  have hd : decide ((at_ : Int) ≤ s.size) = true := decide_eq_true (by omega)
  simp +contextual (maxSteps := 2000000) (disch := first | omega | (simp only [SZ]; first | done | omega) | (simp only [TS] at *; omega)) only [RZ, ovw, oneC, reduceAdd, reduceMul, reduceSub, reduceEqDiff, reduceLT, ↓reduceIte, Int.reduceToNat, reduceLeDiff,  e0, e5, e6, e7, e8, e9, hd]
  refine W_if_t rfl ?_
  simp +contextual (maxSteps := 2000000) (disch := first | omega | (simp only [SZ]; first | done | omega) | (simp only [TS] at *; omega)) only [RZ, ovw, oneC, reduceAdd, reduceMul, reduceSub, reduceEqDiff, reduceLT, ↓reduceIte, Int.reduceToNat, reduceLeDiff,  e0, e5, e6, e7, e8, e9, hlast]
  refine (rplace_any (s.extract last at_) (at_ - last) w1 (by omega) (by omega)).mono ?_
  rintro e w2 ⟨rfl, rfl⟩
  refine ⟨_, rfl, ?_⟩
  rw [htl]
  generalize place (bs (s.extract last at_)) = dp at *
  obtain ⟨dl, dc⟩ := dp
  simp only at *
  simp +contextual (maxSteps := 2000000) (disch := first | omega | (simp only [SZ]; first | done | omega) | (simp only [TS] at *; omega)) only [RZ, ovw, oneC, reduceAdd, reduceMul, reduceSub, reduceEqDiff, reduceLT, ↓reduceIte, Int.reduceToNat, reduceLeDiff,  e0, e5, e6, e7, e8, e9]
  refine W_cut (fun τ w2 => w2 = w1 ∧ τ 0 = .string s ∧ τ 5 = .slice A D.length c ∧ τ 6 = .int .i64 (place ((bs s).take at_)).1 ∧ τ 7 = .int .i64 (place ((bs s).take at_)).2 ∧ τ 9 = .int .i64 at_) ?_ ?_
  · rintro τ w2 ⟨rfl, f0, f5, f6, f7, f9⟩
    simp +contextual (maxSteps := 2000000) (disch := first | omega | (simp only [SZ]; first | done | omega) | (simp only [TS] at *; omega)) only [RZ, ovw, oneC, reduceAdd, reduceMul, reduceSub, reduceEqDiff, reduceLT, ↓reduceIte, Int.reduceToNat, reduceLeDiff,  f0, f5, f6, f7, f9]
    (refine W_if rfl (fun hc => ?_) (fun hc => ?_) <;> (try simp only [TS] at hc))
    · have hae : at_ = s.size := by omega
      clear hc
      subst hae
      rw [List.drop_eq_nil_of_le (by rw [bs_len]; omega), lexR_nil] at hj
      simp only [joinR, List.append_nil] at hj
      subst hj
      simp only
      have htk : (bs s).take s.size = bs s := List.take_of_length_le (by rw [bs_len]; omega)
      rw [htk] at f6 f7
      obtain ⟨A', c', w3, he, hown3, hb3, hs3⟩ := push1 (P := Tryd.prog) (T := 33) (ty := 33) (news := encTk (endTok s)) hown hB.size hI rfl (fun u hu => by simp only [encTk, List.mem_cons, List.not_mem_nil, or_false] at hu; rcases hu with rfl | rfl | rfl | rfl <;> rfl) (by omega) (by omega)
      simp only [encTk, endTok] at he
      simp +contextual (maxSteps := 2000000) (disch := first | omega | (simp only [SZ]; first | done | omega) | (simp only [TS] at *; omega)) only [RZ, ovw, oneC, reduceAdd, reduceMul, reduceSub, reduceEqDiff, reduceLT, ↓reduceIte, Int.reduceToNat, reduceLeDiff,  f0, f5, f6, f7, f9, he]
      refine ⟨hB.trans hb3, _, rfl, A', c', ?_, ?_⟩
      · rw [List.length_append, tok_len]; rfl
      · rw [List.length_append, tok_len, List.flatMap_append]; simpa using hown3
    have hal : at_ < s.size := by omega
    clear hc
    have hll : ((bs s).drop at_).length = s.size - at_ := by rw [List.length_drop, bs_len]
    have hne : (bs s).drop at_ ≠ [] := by intro e; rw [e] at hll; simp at hll; omega
    rw [lexG_tok hsk hne] at hj
    have htp : (tokP ((bs s).drop at_)).2 ≤ s.size - at_ ∧ ((tokP ((bs s).drop at_)).1 = 0 ∨ 1 ≤ (tokP ((bs s).drop at_)).2) := by
      have := piece_le ((bs s).drop at_)
      unfold tokP
      split
      · simp
      · omega
    simp +contextual (maxSteps := 2000000) (disch := first | omega | (simp only [SZ]; first | done | omega) | (simp only [TS] at *; omega)) only [RZ, ovw, oneC, reduceAdd, reduceMul, reduceSub, reduceEqDiff, reduceLT, ↓reduceIte, Int.reduceToNat, reduceLeDiff,  f0, f5, f6, f7, f9]
    refine (rend_any s at_ _ hs hal).mono ?_
    rintro e w3 ⟨rfl, rfl⟩
    refine ⟨_, rfl, ?_⟩
    generalize tokP ((bs s).drop at_) = tp at *
    obtain ⟨k, n⟩ := tp
    simp only at *
    simp +contextual (maxSteps := 2000000) (disch := first | omega | (simp only [SZ]; first | done | omega) | (simp only [TS] at *; omega)) only [RZ, ovw, oneC, reduceAdd, reduceMul, reduceSub, reduceEqDiff, reduceLT, ↓reduceIte, Int.reduceToNat, reduceLeDiff,  f0, f5, f6, f7, f9]
    (refine W_if rfl (fun hc => ?_) (fun hc => ?_) <;> (try simp only [TS] at hc))
    · rw [if_pos (by omega)] at hj
      have hR2 : R = .error at_ := hj.symm
      subst hR2
      simp +contextual (maxSteps := 2000000) (disch := first | omega | (simp only [SZ]; first | done | omega) | (simp only [TS] at *; omega)) only [RZ, ovw, oneC, reduceAdd, reduceMul, reduceSub, reduceEqDiff, reduceLT, ↓reduceIte, Int.reduceToNat, reduceLeDiff,  f0, f5, f6, f7, f9]
      exact ⟨hB, _, rfl, none, 0, rfl, owns_nil _ _ _ _⟩
    have hk0 : k ≠ 0 := by omega
    clear hc
    rw [if_neg hk0, joinR_cons, List.drop_drop] at hj
    obtain ⟨A', c', w3, he, hown3, hb3, hs3⟩ := push1 (P := Tryd.prog) (T := 33) (ty := 33) (news := encTk (tokOf s (k, at_, n))) hown hB.size hI rfl (fun u hu => by simp only [encTk, List.mem_cons, List.not_mem_nil, or_false] at hu; rcases hu with rfl | rfl | rfl | rfl <;> rfl) (by omega) (by omega)
    have hB3 := hB.trans hb3
    have hown3' : w3.ownsRow w.heap.size 38 4 (.slice A' (D ++ [(k, at_, n)]).length c') (D ++ [(k, at_, n)]).length (((D ++ [(k, at_, n)]).map (tokOf s)).flatMap encTk) := by
      rw [List.length_append, List.map_append, List.flatMap_append]; simpa using hown3
    simp only [encTk, tokOf] at he
    have htn : ((at_ : Int) + n).toNat = at_ + n := by omega
    simp +contextual (maxSteps := 2000000) (disch := first | omega | (simp only [SZ]; first | done | omega) | (simp only [TS] at *; omega)) only [RZ, ovw, oneC, reduceAdd, reduceMul, reduceSub, reduceEqDiff, reduceLT, ↓reduceIte, Int.reduceToNat, reduceLeDiff,  f0, f5, f6, f7, f9, he, htn]
    have hcast : ((at_ : Int) + n) = ((at_ + n : Nat) : Int) := by omega
    rw [hcast]
    refine (rskip_any s (at_ + n) w3 hs (by omega)).mono ?_
    rintro e w4 ⟨rfl, rfl⟩
    refine ⟨_, rfl, ?_⟩
    have hk3 := skip_le ((bs s).drop (at_ + n)) false
    rw [List.length_drop, bs_len] at hk3
    have hid := skip_idem ((bs s).drop (at_ + n)) false
    rw [lexR_skip _ _ _ (Nat.le_refl _), List.drop_drop] at hj
    rw [List.drop_drop] at hid
    generalize skipB false ((bs s).drop (at_ + n)) = k3 at *
    simp +contextual (maxSteps := 2000000) (disch := first | omega | (simp only [SZ]; first | done | omega) | (simp only [TS] at *; omega)) only [RZ, ovw, oneC, reduceAdd, reduceMul, reduceSub, reduceEqDiff, reduceLT, ↓reduceIte, Int.reduceToNat, reduceLeDiff,  f0, f5, f6, f7, f9]
    refine hK _ _ ⟨hB3, at_ + n + k3, at_, D ++ [(k, at_, n)], A', c', by omega, by omega, by simp; omega, hid, hj, hown3', f0, ?_, f6, f7, ?_, ?_⟩ ?_
    · rw [List.length_append]; rfl
    · rfl
    · simp only [upd_apply]; simp
    · show s.size - (intOf (.int .i64 (((at_ + n : Nat) : Int) + k3))).toNat < s.size - (intOf (σ 9)).toNat; rw [e9]; simp only [intOf]; omega
  · (refine W_if rfl (fun hc => ?_) (fun hc => ?_) <;> (try simp only [TS] at hc))
    · rw [if_pos hc] at hpt
      simp +contextual (maxSteps := 2000000) (disch := first | omega | (simp only [SZ]; first | done | omega) | (simp only [TS] at *; omega)) only [RZ, ovw, oneC, reduceAdd, reduceMul, reduceSub, reduceEqDiff, reduceLT, ↓reduceIte, Int.reduceToNat, reduceLeDiff,  e0, e5, e6, e7, e8, e9, cutX_normal, cutX_ret, cutX_exit, cut2X_normal, cut2X_ret, cut2X_same, cut2X_ne]
      rw [hpt]
      exact ⟨rfl, rfl⟩
    · rw [if_neg hc] at hpt
      simp +contextual (maxSteps := 2000000) (disch := first | omega | (simp only [SZ]; first | done | omega) | (simp only [TS] at *; omega)) only [RZ, ovw, oneC, reduceAdd, reduceMul, reduceSub, reduceEqDiff, reduceLT, ↓reduceIte, Int.reduceToNat, reduceLeDiff,  e0, e5, e6, e7, e8, e9, cutX_normal, cutX_ret, cutX_exit, cut2X_normal, cut2X_ret, cut2X_same, cut2X_ne]
      rw [hpt]
      exact ⟨rfl, rfl⟩
end Go.Proofs.YtbdkggnajipdhaaDoor
/- Plain: chapter 11, what was read is small. No program in sight. -/
namespace Go.Proofs.YtbdkggnajipdhaaDoor
theorem nx_suf (L : List Tk) : nxT L <:+ L := by
  match L with
  | [] => exact List.suffix_refl _
  | [_] => exact List.suffix_refl _
  | a :: b :: r => exact List.suffix_cons a (b :: r)
theorem num_suf {L : List Tk} {x : Int × List Tk} (h : numT L = some x) : x.2 <:+ L := by rw [(num_some (x := x.1) (L' := x.2) h).2.2.2]; exact nx_suf L
theorem is_suf {k : Int} {w : List Nat} {L L' : List Tk} (h : isT k w L = some L') : L' <:+ L := by rw [(is_some h).2.2]; exact nx_suf L
theorem nums_suf : ∀ (f : Nat) (L : List Tk), (numsT f L).2 <:+ L ∧ (numsT f L).1.length ≤ f
  | 0, L => ⟨List.suffix_refl _, Nat.le_refl _⟩
  | f + 1, L => by
    unfold numsT
    cases h : numT L with
    | none => exact ⟨List.suffix_refl _, Nat.zero_le _⟩
    | some a => exact ⟨(nums_suf f a.2).1.trans (num_suf h), by simp only [List.length_cons]; have := (nums_suf f a.2).2; omega⟩
theorem pair_suf {L L' : List Tk} {x : Int × Int} (h : pairT L = .ok (x, L')) : L' <:+ L := by
  unfold pairT at h
  obtain ⟨y, h1, h⟩ := then_ok h
  obtain ⟨L2, h2, h⟩ := then_ok h
  obtain ⟨z, h3, h⟩ := then_ok h
  injection h with h
  injection h with _ h
  subst h
  exact ((num_suf h3).trans (is_suf h2)).trans (num_suf h1)
theorem less_suf {m : Int} {L : List Tk} {x : Int × List Tk} (h : lessT m L = some x) : x.2 <:+ L := by
  unfold lessT at h
  cases hn : numT L with
  | none => rw [hn] at h; cases h
  | some y =>
    rw [hn] at h
    dsimp only at h
    split at h
    · injection h with h; subst h; exact num_suf hn
    · cases h
theorem days_suf : ∀ (f : Nat) (L : List Tk) (d : Nat) (x : Nat × List Tk), daysT f L d = .ok x → x.2 <:+ L
  | 0, L, d, x, h => by cases h
  | f + 1, L, d, x, h => by
    unfold daysT at h
    split at h
    · injection h with h; subst h; exact nx_suf L
    · split at h
      · cases h
      · cases hd : dayI (bs (hdT L).text) with
        | none => rw [hd] at h; cases h
        | some i =>
          rw [hd] at h
          dsimp only at h
          split at h
          · cases h
          · exact (days_suf f _ _ x h).trans (nx_suf L)
theorem day_suf {L L' : List Tk} {x : Int × Int} (h : dayT L = .ok (x, L')) : L' <:+ L := by
  unfold dayT at h
  obtain ⟨d, h0, h⟩ := bind_ok h
  obtain ⟨y, h1, h⟩ := then_ok h
  obtain ⟨L2, h2, h⟩ := then_ok h
  obtain ⟨z, h3, h⟩ := then_ok h
  injection h with h
  injection h with _ h
  subst h
  exact (((less_suf h3).trans (is_suf h2)).trans (less_suf h1)).trans (days_suf _ _ _ _ h0)
theorem hit_suf {w : List Nat} {L : List Tk} {x : Int × List Tk} (h : hitT w L = .ok x) : x.2 <:+ L := by
  unfold hitT at h
  cases hq : isT 1 w L with
  | none => rw [hq] at h; injection h with h; subst h; exact List.suffix_refl _
  | some L1 =>
    rw [hq] at h
    obtain ⟨y, h1, h⟩ := then_ok h
    injection h with h
    subst h
    exact (num_suf h1).trans (is_suf hq)
theorem mode_suf {L : List Tk} {x : (Int × Int × Int × Int) × List Tk} (h : modeT L = .ok x) : x.2 <:+ L := by
  unfold modeT at h
  cases h1 : isT 1 (asc "exact") L with
  | some L1 => rw [h1] at h; injection h with h; subst h; exact is_suf h1
  | none =>
  rw [h1] at h
  cases h2 : isT 1 (asc "box") L with
  | some L1 => rw [h2] at h; injection h with h; subst h; exact is_suf h2
  | none =>
  rw [h2] at h
  cases h3 : isT 1 (asc "front") L with
  | some L1 =>
    rw [h3] at h
    obtain ⟨y, e1, h⟩ := then_ok h
    injection h with h; subst h
    exact (num_suf e1).trans (is_suf h3)
  | none =>
  rw [h3] at h
  cases h4 : isT 1 (asc "back") L with
  | some L1 =>
    rw [h4] at h
    obtain ⟨y, e1, h⟩ := then_ok h
    injection h with h; subst h
    exact (num_suf e1).trans (is_suf h4)
  | none =>
  rw [h4] at h
  obtain ⟨y1, e1, h⟩ := bind_ok h
  obtain ⟨y2, e2, h⟩ := bind_ok h
  obtain ⟨y3, e3, h⟩ := bind_ok h
  injection h with h; subst h
  exact ((hit_suf e3).trans (hit_suf e2)).trans (hit_suf e1)
theorem tier_suf {L : List Tk} {x : Ti × List Tk} (h : tierT L = .ok x) : x.2 <:+ L := by
  unfold tierT at h
  obtain ⟨m, e1, h⟩ := bind_ok h
  have s1 := mode_suf e1
  split at h
  · cases h
  · cases hp : prizeK (bs (hdT m.2).text) with
    | none => rw [hp] at h; cases h
    | some k =>
      rw [hp] at h
      obtain ⟨v, e2, h⟩ := then_ok h
      injection h with h; subst h
      exact ((num_suf e2).trans (nx_suf m.2)).trans s1
theorem hd_size {M : Nat} {L : List Tk} (h : ∀ t ∈ L, t.text.size ≤ M) : (hdT L).text.size ≤ M := by
  cases L with
  | nil => exact Nat.zero_le _
  | cons t r => exact h t (by simp)
theorem suf_all {P : Tk → Prop} {L L' : List Tk} (h : L' <:+ L) (hp : ∀ t ∈ L, P t) : ∀ t ∈ L', P t := fun t ht => hp t (h.mem ht)
theorem addon_suf {L : List Tk} {x : Ad × List Tk} (h : addonT L = .ok x) : x.2 <:+ L ∧ x.1.name = (hdT L).text ∧ x.1.factors.length ≤ L.length ∧ x.1.serials.length ≤ L.length := by
  unfold addonT at h
  have n1 := nx_suf L
  have n2 := nx_suf (nxT L)
  split at h
  · cases h
  · split at h
    · cases h
    · split at h
      · obtain ⟨v, e2, h⟩ := then_ok h
        injection h with h; subst h
        have s := (num_suf e2).trans (n2.trans n1)
        have s2 := nums_suf v.2.length v.2
        exact ⟨s2.1.trans s, rfl, Nat.le_trans s2.2 s.length_le, Nat.zero_le _⟩
      · split at h
        · obtain ⟨v, e2, h⟩ := then_ok h
          obtain ⟨u, e3, h⟩ := then_ok h
          injection h with h; subst h
          have s := (num_suf e3).trans ((num_suf e2).trans (n2.trans n1))
          have s2 := nums_suf u.2.length u.2
          exact ⟨s2.1.trans s, rfl, Nat.zero_le _, Nat.le_trans s2.2 s.length_le⟩
        · cases h
/-- A game that is at most as large as K, M and N say. -/
def Fit (M N K : Nat) (G : Gm) : Prop := G.name.size ≤ M ∧ G.addons.length ≤ K ∧ G.tiers.length ≤ K ∧ ∀ a ∈ G.addons, a.name.size ≤ M ∧ a.factors.length ≤ N ∧ a.serials.length ≤ N
theorem item_fit {M N K : Nat} {L : List Tk} {G : Gm} {seen : List (List Nat)} {x : (Gm × List (List Nat)) × List Tk} (hM : ∀ t ∈ L, t.text.size ≤ M) (hN : L.length ≤ N) (hG : Fit M N K G) (h : itemG L G seen = .ok x) : x.2 <:+ L ∧ Fit M N (K + 1) x.1.1 := by
  have hG1 : ∀ n, Fit M N (K + 1) { G with n := n } := fun n => ⟨hG.1, Nat.le_succ_of_le hG.2.1, Nat.le_succ_of_le hG.2.2.1, hG.2.2.2⟩
  have n1 := nx_suf L
  unfold itemG at h
  split at h
  · cases h
  split at h
  · split at h
    · cases h
    · obtain ⟨y, e, h⟩ := bind_ok h
      injection h with h; subst h
      exact ⟨(pair_suf e).trans n1, hG1 _⟩
  split at h
  · split at h
    · cases h
    · obtain ⟨y, e, h⟩ := bind_ok h
      injection h with h; subst h
      exact ⟨(pair_suf e).trans n1, hG1 _⟩
  split at h
  · split at h
    · cases h
    · obtain ⟨y, e, h⟩ := bind_ok h
      injection h with h; subst h
      exact ⟨(day_suf e).trans n1, hG1 _⟩
  split at h
  · obtain ⟨y, e, h⟩ := bind_ok h
    injection h with h; subst h
    obtain ⟨s1, s2, s3, s4⟩ := addon_suf e
    have hl := n1.length_le
    refine ⟨s1.trans n1, hG.1, by simp only [List.length_append, List.length_singleton]; have := hG.2.1; omega, Nat.le_succ_of_le hG.2.2.1, fun a ha => ?_⟩
    rcases List.mem_append.1 ha with ha | ha
    · exact hG.2.2.2 a ha
    · rw [List.mem_singleton.1 ha, s2]
      exact ⟨hd_size (suf_all n1 hM), by omega, by omega⟩
  split at h
  · obtain ⟨y, e, h⟩ := bind_ok h
    injection h with h; subst h
    exact ⟨(tier_suf e).trans n1, hG.1, Nat.le_succ_of_le hG.2.1, by simp only [List.length_append, List.length_singleton]; have := hG.2.2.1; omega, hG.2.2.2⟩
  · cases hs : simpleI (bs (hdT L).text) with
    | none => rw [hs] at h; cases h
    | some i =>
      rw [hs] at h
      dsimp only at h
      split at h
      · cases h
      · obtain ⟨y, e, h⟩ := then_ok h
        injection h with h; subst h
        exact ⟨(num_suf e).trans n1, hG1 _⟩
theorem gitems_fit {M N : Nat} : ∀ (f K : Nat) (L : List Tk) (G : Gm) (seen : List (List Nat)) (x : (Gm × List (List Nat)) × List Tk), (∀ t ∈ L, t.text.size ≤ M) → L.length ≤ N → Fit M N K G → gitemsT f L G seen = .ok x → Fit M N (K + f) x.1.1
  | 0, K, L, G, seen, x, _, _, _, h => by cases h
  | f + 1, K, L, G, seen, x, hM, hN, hG, h => by
    unfold gitemsT at h
    split at h
    · obtain ⟨y, e1, h⟩ := bind_ok h
      obtain ⟨L2, e2, h⟩ := then_ok h
      obtain ⟨s1, g1⟩ := item_fit hM hN hG e1
      have s2 := (is_suf e2).trans s1
      have := gitems_fit f (K + 1) L2 _ _ x (suf_all s2 hM) (Nat.le_trans s2.length_le hN) g1 h
      rw [show K + (f + 1) = K + 1 + f by omega]
      exact this
    · injection h with h
      subst h
      exact ⟨hG.1, Nat.le_trans hG.2.1 (by omega), Nat.le_trans hG.2.2.1 (by omega), hG.2.2.2⟩
theorem game_fit {M N : Nat} {L : List Tk} {G : Gm} (hM : ∀ t ∈ L, t.text.size ≤ M) (hN : L.length ≤ N) (h : gameT L = .ok G) : Fit M N N G := by
  unfold gameT at h
  obtain ⟨L1, e1, h⟩ := then_ok h
  split at h
  · cases h
  obtain ⟨L3, e3, h⟩ := then_ok h
  obtain ⟨y, e4, h⟩ := bind_ok h
  have s1 := is_suf e1
  have s3 := ((is_suf e3).trans (nx_suf L1)).trans s1
  have := gitems_fit L3.length 0 L3 (gm0 (hdT L1).text) [] y (suf_all s3 hM) (Nat.le_trans s3.length_le hN) ⟨hd_size (suf_all s1 hM), Nat.le_refl _, Nat.le_refl _, fun a ha => by cases ha⟩ e4
  rw [Nat.zero_add] at this
  have hl := Nat.le_trans s3.length_le hN
  unfold closeT at h
  obtain ⟨L5, e5, h⟩ := then_ok h
  split at h
  · injection h with h
    have hy : Fit M N N y.1.1 := ⟨this.1, Nat.le_trans this.2.1 hl, Nat.le_trans this.2.2.1 hl, this.2.2.2⟩
    rw [← h]
    split
    · exact hy
    · exact hy
  · cases h
theorem parse_little (s : ByteArray) : (parseG s).1.little := by
  unfold parseG
  split
  · exact ⟨Nat.zero_le _, Nat.zero_le _, Nat.zero_le _, fun a ha => by cases ha⟩
  split
  · exact ⟨Nat.zero_le _, Nat.zero_le _, Nat.zero_le _, fun a ha => by cases ha⟩
  · rename_i h3 h0
    obtain ⟨hT, _⟩ := scan_tokOk (s := s) (Classical.byContradiction fun h => h0 h)
    cases hg : gameT (scanE s).2.2 with
    | ok G => exact game_fit hT.szs hT.big hg
    | error e => exact ⟨Nat.zero_le _, Nat.zero_le _, Nat.zero_le _, fun a ha => by cases ha⟩
end Go.Proofs.YtbdkggnajipdhaaDoor
/- strings.Builder in short: what is written so far, as numbers. -/
namespace Go.Proofs.YtbdkggnajipdhaaDoor
open Go.RowKit
set_option maxRecDepth 100000
def BldIn (b : Nat) (w : World) (X : List Nat) : Prop := Lib.IsBuilder 50 5 b b (byV X) w ∧ (∀ n ∈ X, n < 256)
theorem BldIn.below {b : Nat} {w w' : World} {X : List Nat} (h : BldIn b w X) (hb : Below w.heap.size w w') : BldIn b w' X := ⟨isB_below h.1 hb, h.2⟩
theorem BldIn.drew {b : Nat} {w : World} {X : List Nat} (h : BldIn b w X) : BldIn b w.drew X := h
theorem BldIn.lt {b : Nat} {w : World} {X : List Nat} (h : BldIn b w X) : b < w.heap.size := by
  rcases h.1 with ⟨_, v, hb, _⟩ | ⟨_, v, hb, _⟩ <;> exact (Array.getElem?_eq_some_iff.1 hb).1
theorem BldIn.write {b : Nat} {w : World} {X : List Nat} (h : BldIn b w X) (s : ByteArray) (hl : X.length + s.size ≤ 1000000000) :
    Calls Tryd.prog 13 #[.pointer (some ⟨b, 0, none⟩), .string s] w fun e w' => e = .returned (.tuple #[.int .i64 s.size, .nilIface]) ∧ BldIn b w' (X ++ bs s) ∧ Below b w w' ∧ Keeps b w w' := by
  refine (writeString_any b b (byV X) s w h.1 (by rw [byV_len]; exact hl) (Nat.le_of_lt h.lt)).mono ?_
  rintro e w' ⟨h1, h2, h3, h4⟩
  refine ⟨h1, ⟨by rw [byV_app, ← strCells_bs]; exact h2, fun n hn => ?_⟩, h3, h4⟩
  rcases List.mem_append.1 hn with hn | hn
  · exact h.2 n hn
  · exact bs_lt s n hn
theorem BldIn.str {b : Nat} {w : World} {X : List Nat} (h : BldIn b w X) :
    Calls Tryd.prog 22 #[.pointer (some ⟨b, 0, none⟩)] w fun e w' => e = .returned (.string (toBA X)) ∧ Below b w w' := by
  have e1 : byV X = Lib.byteCells (toBA X).data.toList := by
    have h1 : Lib.strCells (toBA X) = byV X := by rw [strCells_bs, bs_toBA h.2]
    rw [← h1]
    rfl
  have h1 := h.1
  rw [e1] at h1
  refine (Tryd.Builder_String_any b b _ w h1 (Nat.le_of_lt h.lt)).mono ?_
  rintro e w' ⟨he, hb⟩
  exact ⟨he, hb⟩
end Go.Proofs.YtbdkggnajipdhaaDoor
/- Regions that draw their order: many readers at once, some of them behind a condition that holds. -/
namespace Go.Proofs.YtbdkggnajipdhaaDoor
open Go.RowKit
end Go.Proofs.YtbdkggnajipdhaaDoor
/- The engine's rules for strings.Join: cap, copy of nothing, slices of slices. No function of the program in sight. -/
namespace Go.Proofs.YtbdkggnajipdhaaDoor
open Go.RowKit
set_option maxRecDepth 100000
section
variable {P : Program} {T e : TypeId} {w : World} {ty sz : Nat}
def vCap (P : Program) (T : TypeId) (ty : TypeId) (u : Value) (w : World) : Result Next := (do pure (.value (← Builtin.cap_ #[T] ty #[u])) : Sem Next).run P w
theorem r_cap (T : TypeId) (x : Operand) (σ : Sl) : run1 P (.call ⟨.builtin .cap, #[x], #[T]⟩) ty σ w = vCap P T ty (ev σ x) w := by simp [run1, execOp, resolve, invoke, builtin, vCap]
theorem vCap_slc (hd : P.underlying T = some (.slice e)) {a : Option Addr} {n c : Nat} : vCap P T ty (.slice a n c) w = .ok (.value (.int .i64 c)) w := by
  simp [vCap, Builtin.cap_, Sem.run_bind, run_underlying hd w, goInt]
def vCopy (P : Program) (T T2 ty : TypeId) (d s : Value) (w : World) : Result Next := (do pure (.value (← Builtin.copy_ #[T, T2] ty #[d, s])) : Sem Next).run P w
theorem r_copy (T2 : TypeId) (x y : Operand) (σ : Sl) : run1 P (.call ⟨.builtin .copy, #[x, y], #[T, T2]⟩) ty σ w = vCopy P T T2 ty (ev σ x) (ev σ y) w := by simp [run1, execOp, resolve, invoke, builtin, vCopy]
theorem vCopy_none {T2 : TypeId} {d a : Option Addr} {dLen dCap sLen sCap : Nat} (hd : P.underlying T = some (.slice e)) (hs : (P.info? e).map (·.size) = some 1) (hn : Nat.min sLen dLen = 0) :
    vCopy P T T2 ty (.slice d dLen dCap) (.slice a sLen sCap) w = .ok (.value (.int .i64 0)) w := by
  have := run_copy_none w T T2 ty e d a dLen dCap sLen sCap hd hs hn
  simp [vCopy, Sem.run_bind, this, goInt]
theorem bound_in {k : IntKind} {i : Int} {y : Nat} {code : BoundsCode} (h : 0 ≤ i) (h' : i ≤ y) : (Instr.sliceBound (.int k i) y code).run P w = .ok i.toNat w := by
  simp [Instr.sliceBound, asIntOf, h, h']
theorem vSlice_to {a : Option Addr} {n c : Nat} {k : IntKind} {h : Int} (hd : P.underlying T = some (.slice e)) (hs : (P.info? e).map (·.size) = some sz) (h0 : 0 ≤ h) (h1 : h ≤ c) :
    vSlice P T (.slice a n c) none (some (.int k h)) none w = .ok (.value (.slice (if c = 0 then a else a.map (·.add (0 * sz))) h.toNat c)) w := by
  obtain ⟨i, hq, hz⟩ := Option.map_eq_some_iff.1 hs
  simp [vSlice, Instr.sliceAt, Instr.slice, run_underlying hd, Instr.sliceBounds, bound_in h0 h1, sizeOf, typeInfo, hq, hz]
theorem vSlice_from {a : Option Addr} {n c : Nat} {k : IntKind} {l : Int} (hd : P.underlying T = some (.slice e)) (hs : (P.info? e).map (·.size) = some sz) (h0 : 0 ≤ l) (h1 : l ≤ n) :
    vSlice P T (.slice a n c) (some (.int k l)) none none w = .ok (.value (.slice (if c = l.toNat then a else a.map (·.add (l.toNat * sz))) (n - l.toNat) (c - l.toNat))) w := by
  obtain ⟨i, hq, hz⟩ := Option.map_eq_some_iff.1 hs
  simp [vSlice, Instr.sliceAt, Instr.slice, run_underlying hd, Instr.sliceBounds, bound_in h0 h1, sizeOf, typeInfo, hq, hz]
end
end Go.Proofs.YtbdkggnajipdhaaDoor
