/- Texts laid one behind the other: RwC, RwD, RfA, RpA, RpB, RpC, RpD, RpE, RpF, RpG, Ord6, RwF, Row, Laid, ShelfB, LaidS, RtT, RtU, Bld, JnR. Each says at its head what it proves. -/
import Derived.Test.YtbdkggnajipdhaaGreatDoorRtTwZ13
import Derived.ProofKit
import Derived.Lib.SmallJoins
import Derived.Deep.Slices
import Derived.Deep.Fields
import Derived.ChangeMaps5
import Derived.LaidMore
import Derived.OpenShut
import Derived.Stop.Joined
import Derived.Lib.LaidTab
import Derived.MakeChecks
import Derived.Shelf.Strings.Builder1
import Derived.Shelf.Strings.Builder2
import Derived.Shelf.Strings.OnBuilder
import Derived.Shelf.Strings.BuilderF
import Derived.Shelf.Strings.BuilderK
import Derived.Shelf.Utf8.RuneCount
import Derived.Shelf.Strings.Builder2Cap
import Derived.Shelf.Strconv.Itoa0
import Derived.Shelf.Strconv.Itoa1
import Derived.Shelf.LaysM
import Derived.Shelf.Strconv.Itoa2
import Derived.Shelf.Strconv.Itoa3
import Derived.Shelf.Strings.Search1
import Derived.Shelf.Strings.Search2
import Derived.Shelf.Strings.Search3
import Derived.Shelf.Strings.Count
import Derived.Shelf.Strings.Shaped
import Derived.Shelf.Strings.LastIndex
import Derived.Shelf.Strings.Prefix
import Derived.Shelf.Strings.Split
import Derived.Shelf.Strings.Fields
import Derived.Shelf.Strings.SplitShaped
import Derived.Shelf.Unicode.Latin
import Derived.Shelf.Unicode.Decode
import Derived.Shelf.Strings.RuneCount
import Derived.Shelf.Strings.Explode
import Derived.Shelf.Unicode.DecodeSlow
import Derived.Shelf.Unicode.DecodeAny
import Derived.Shelf.Unicode.Is16White
import Derived.Shelf.Unicode.IsSpaceAny
import Derived.Shelf.Unicode.Is16WhiteD
import Derived.Shelf.Unicode.Is16Any
import Derived.Shelf.Unicode.Is32Any
import Derived.Shelf.Unicode.ExclAny
import Derived.Shelf.Strings.BuilderCap
import Derived.Ground.PaProg
import Derived.Shelf.Path.Small
import Derived.Test.YtbdkggnajipdhaaGreatDoorProg
import Derived.Shelf.Vars
import Derived.HandedShaped
import Derived.Lay
import Derived.Lib.AppendIntMem
import Derived.Lib.MakeNoZero
import Derived.Laws.IdiomCopy
set_option linter.unusedSimpArgs false
/- Walks: the law's few. -/
namespace Go.Proofs.YtbdkggnajipdhaaGreatDoor
open Nat (reduceAdd reduceMul reduceSub reduceEqDiff reduceLT reduceLeDiff)
open Go.RowKit
set_option maxRecDepth 100000
def fewA (a : Ad) : Bool := !(decide (200 < a.name.size) || decide (50 < a.factors.length) || decide (50 < a.serials.length))
def fewB (G : Gm) : Bool := !(decide (200 < G.name.size) || decide (50 < G.addons.length) || decide (50 < G.tiers.length)) && G.addons.all fewA
theorem lt_cast (a b : Nat) : decide ((a : Int) < (b : Int)) = decide (a < b) := by
  rw [Bool.eq_iff_iff, decide_eq_true_eq, decide_eq_true_eq]; omega
set_option maxHeartbeats 4000000 in
theorem few_any (G : Gm) (Va Vt : Value) (w : World) (hA : GmIn w Va Vt G) :
    Calls Tryz.prog 12 #[.agg (gmV G Va Vt).toArray] w fun e w' => e = .returned (.bool (fewB G)) ∧ Below w.heap.size w w' := by
  refine calls_W (l := [_]) Tryz.func12 rfl _ Tryz.ntmps12 (by simp) ?_
  obtain ⟨⟨Aa, ca, Vs, rfl, hAa, hads⟩, At, ct, rfl, hAt⟩ := hA
  generalize hrr : fewB G = rr
  unfold fewB at hrr
  have r0 := Row.new w 26 (gmV G (.slice Aa G.addons.length ca) (.slice At G.tiers.length ct))
  have b0 := below_alloc w (.cells (gmV G (.slice Aa G.addons.length ca) (.slice At G.tiers.length ct)).toArray 26)
  have z0 := World.size_alloc w (.cells (gmV G (.slice Aa G.addons.length ca) (.slice At G.tiers.length ct)).toArray 26)
  refine W_piece fun K hK hX => ?_
  simp +contextual (maxSteps := 2000000) (disch := first | omega | (simp only [SZ]; first | done | omega) | (simp only [TS] at *; omega)) only [RZ, ovw, oneC, reduceAdd, reduceMul, reduceSub, reduceEqDiff, reduceLT, ↓reduceIte, Int.reduceToNat, reduceLeDiff]
  refine hK _ _ ?_
  clear hK hX K
  generalize w.alloc (.cells (gmV G (.slice Aa G.addons.length ca) (.slice At G.tiers.length ct)).toArray 26) = w1 at r0 b0 z0 ⊢
  have c0 : w1.cell? ⟨w.heap.size, 0, none⟩ = some (.string G.name) := r0.cell (i := 0) rfl
  have c20 : w1.cell? ⟨w.heap.size, 20, none⟩ = some (.slice Aa G.addons.length ca) := r0.cell (i := 20) rfl
  have c21 : w1.cell? ⟨w.heap.size, 21, none⟩ = some (.slice At G.tiers.length ct) := r0.cell (i := 21) rfl
  have e1 : decide ((200 : Int) < (G.name.size : Int)) = decide (200 < G.name.size) := lt_cast 200 _
  have e2 : decide ((50 : Int) < (G.addons.length : Int)) = decide (50 < G.addons.length) := lt_cast 50 _
  have e3 : decide ((50 : Int) < (G.tiers.length : Int)) = decide (50 < G.tiers.length) := lt_cast 50 _
  refine W_piece fun K hK hX => ?_
  refine W_piece fun K2 hK2 hX2 => ?_
  simp +contextual (maxSteps := 2000000) (disch := first | omega | (simp only [SZ]; first | done | omega) | (simp only [TS] at *; omega)) only [RZ, ovw, oneC, reduceAdd, reduceMul, reduceSub, reduceEqDiff, reduceLT, ↓reduceIte, Int.reduceToNat, reduceLeDiff,  c0, c20, c21, e1, e2, e3]
  refine hK2 _ _ ?_
  clear hK2 hX2 K2
  cases hbb : (decide (200 < G.name.size) || decide (50 < G.addons.length) || decide (50 < G.tiers.length)) with
  | true =>
    rw [hbb, Bool.not_true, Bool.false_and] at hrr
    subst hrr
    refine W_if_t rfl ?_
    refine W_piece fun K2 hK2 hX2 => ?_
    simp +contextual (maxSteps := 2000000) (disch := first | omega | (simp only [SZ]; first | done | omega) | (simp only [TS] at *; omega)) only [RZ, ovw, oneC, reduceAdd, reduceMul, reduceSub, reduceEqDiff, reduceLT, ↓reduceIte, Int.reduceToNat, reduceLeDiff]
    refine hK2 _ _ ?_
    rw [W_ret]
    refine hX _ _ _ (fun h => by cases h) ?_
    simp +contextual (maxSteps := 2000000) (disch := first | omega | (simp only [SZ]; first | done | omega) | (simp only [TS] at *; omega)) only [RZ, ovw, oneC, reduceAdd, reduceMul, reduceSub, reduceEqDiff, reduceLT, ↓reduceIte, Int.reduceToNat, reduceLeDiff]
    exact b0
  | false =>
    rw [hbb, Bool.not_false, Bool.true_and] at hrr
    simp only [Bool.or_eq_false_iff, decide_eq_false_iff_not] at hbb
    refine W_if_f rfl ?_
    rw [W_skip]
    refine hK _ _ ?_
    clear hK hX K
    refine W_cutS (fun σ w2 => w2 = w1 ∧ G.addons.all fewA = true) ?_ ?_
    · rintro σ w2 ⟨rfl, hall⟩
      rw [hall] at hrr
      subst hrr
      simp +contextual (maxSteps := 2000000) (disch := first | omega | (simp only [SZ]; first | done | omega) | (simp only [TS] at *; omega)) only [RZ, ovw, oneC, reduceAdd, reduceMul, reduceSub, reduceEqDiff, reduceLT, ↓reduceIte, Int.reduceToNat, reduceLeDiff]
      exact b0
    refine W_piece fun K hK hX => ?_
    simp +contextual (maxSteps := 2000000) (disch := first | omega | (simp only [SZ]; first | done | omega) | (simp only [TS] at *; omega)) only [RZ, ovw, oneC, reduceAdd, reduceMul, reduceSub, reduceEqDiff, reduceLT, ↓reduceIte, Int.reduceToNat, reduceLeDiff,  c20]
    refine hK _ _ ?_
    clear hK hX K
    rw [W_block, W_loop]
    have hAa1 := hAa.below b0
    refine Raw_loop (fun σ w2 => w2 = w1 ∧ ∃ k : Nat, k ≤ G.addons.length ∧ (∀ j a, j < k → G.addons[j]? = some a → fewA a = true) ∧ σ 1 = .pointer (some ⟨w.heap.size, 0, none⟩) ∧ σ 22 = .int .i64 G.addons.length ∧ σ 23 = .int .i64 k) (fun σ _ => G.addons.length - (intOf (σ 23)).toNat) ?_ ?_
    · exact ⟨rfl, 0, Nat.zero_le _, fun j a hj => absurd hj (Nat.not_lt_zero _), rfl, rfl, rfl⟩
    rintro σ w2 ⟨rfl, k, hk, hal, f1, f22, f23⟩ K hK
    simp +contextual (maxSteps := 2000000) (disch := first | omega | (simp only [SZ]; first | done | omega) | (simp only [TS] at *; omega)) only [RZ, ovw, oneC, reduceAdd, reduceMul, reduceSub, reduceEqDiff, reduceLT, ↓reduceIte, Int.reduceToNat, reduceLeDiff,  f1, f22, f23]
    (refine W_if rfl (fun hc => ?_) (fun hc => ?_) <;> (try simp only [TS] at hc))
    · have hkl : k < G.addons.length := by omega
      obtain ⟨a, ha⟩ : ∃ a, G.addons[k]? = some a := ⟨_, List.getElem?_eq_getElem hkl⟩
      obtain ⟨cv1, hcv⟩ : ∃ c, Vs[k]? = some c := ⟨_, List.getElem?_eq_getElem (by rw [hads.1]; exact hkl)⟩
      obtain ⟨vf, vs, rfl, hvf, hvs⟩ := hads.2 k _ a hcv ha
      obtain ⟨Af, cf, rfl, _⟩ := hvf
      obtain ⟨As, cS, rfl, _⟩ := hvs
      obtain ⟨b2, o2, rfl, hb2, hc2⟩ := hAa1 (by rw [hads.1]; omega)
      have l0 : w2.cell? ⟨b2, o2 + k * 6, none⟩ = some (.string a.name) := by have := hc2 k _ hcv 0 _ rfl; rw [Nat.add_zero] at this; exact this
      have l3 : w2.cell? ⟨b2, o2 + k * 6 + 3, none⟩ = some (.slice Af a.factors.length cf) := hc2 k _ hcv 3 _ rfl
      have l5 : w2.cell? ⟨b2, o2 + k * 6 + 5, none⟩ = some (.slice As a.serials.length cS) := hc2 k _ hcv 5 _ rfl
      have e1 : decide ((200 : Int) < (a.name.size : Int)) = decide (200 < a.name.size) := lt_cast 200 _
      have e2 : decide ((50 : Int) < (a.factors.length : Int)) = decide (50 < a.factors.length) := lt_cast 50 _
      have e3 : decide ((50 : Int) < (a.serials.length : Int)) = decide (50 < a.serials.length) := lt_cast 50 _
      have hfa : fewA a = !(decide (200 < a.name.size) || decide (50 < a.factors.length) || decide (50 < a.serials.length)) := rfl
      rw [W_skip, thenX_normal]
      refine W_piece fun K1 hK1 hX1 => ?_
      rw [W_block]
      refine W_piece fun K2 hK2 hX2 => ?_
      simp +contextual (maxSteps := 2000000) (disch := first | omega | (simp only [SZ]; first | done | omega) | (simp only [TS] at *; omega)) only [RZ, ovw, oneC, reduceAdd, reduceMul, reduceSub, reduceEqDiff, reduceLT, ↓reduceIte, Int.reduceToNat, reduceLeDiff,  f1, f22, f23]
      refine hK2 _ _ ?_
      clear hK2 hX2 K2
      refine W_piece fun K2 hK2 hX2 => ?_
      simp +contextual (maxSteps := 2000000) (disch := first | omega | (simp only [SZ]; first | done | omega) | (simp only [TS] at *; omega)) only [RZ, ovw, oneC, reduceAdd, reduceMul, reduceSub, reduceEqDiff, reduceLT, ↓reduceIte, Int.reduceToNat, reduceLeDiff,  f1, f22, f23, c20, l0, l3, l5, e1, e2, e3]
      refine hK2 _ _ ?_
      clear hK2 hX2 K2
      cases hbb : (decide (200 < a.name.size) || decide (50 < a.factors.length) || decide (50 < a.serials.length)) with
      | true =>
        have hff : fewA a = false := by rw [hfa, hbb]; rfl
        have hall : G.addons.all fewA = false := by
          rw [Bool.eq_false_iff]
          intro e
          have := List.all_eq_true.1 e a (List.mem_of_getElem? ha)
          rw [hff] at this
          cases this
        rw [hall] at hrr
        subst hrr
        refine W_if_t rfl ?_
        refine W_piece fun K2 hK2 hX2 => ?_
        simp +contextual (maxSteps := 2000000) (disch := first | omega | (simp only [SZ]; first | done | omega) | (simp only [TS] at *; omega)) only [RZ, ovw, oneC, reduceAdd, reduceMul, reduceSub, reduceEqDiff, reduceLT, ↓reduceIte, Int.reduceToNat, reduceLeDiff]
        refine hK2 _ _ ?_
        rw [W_ret, inX_ret]
        refine hX1 _ _ _ (fun h => by cases h) ?_
        simp +contextual (maxSteps := 2000000) (disch := first | omega | (simp only [SZ]; first | done | omega) | (simp only [TS] at *; omega)) only [RZ, ovw, oneC, reduceAdd, reduceMul, reduceSub, reduceEqDiff, reduceLT, ↓reduceIte, Int.reduceToNat, reduceLeDiff]
        exact b0
      | false =>
        refine W_if_f rfl ?_
        rw [W_skip, inX_normal]
        refine hK1 _ _ ?_
        clear hK1 hX1 K1
        simp +contextual (maxSteps := 2000000) (disch := first | omega | (simp only [SZ]; first | done | omega) | (simp only [TS] at *; omega)) only [RZ, ovw, oneC, reduceAdd, reduceMul, reduceSub, reduceEqDiff, reduceLT, ↓reduceIte, Int.reduceToNat, reduceLeDiff,  f1, f22, f23]
        refine hK _ _ ⟨rfl, k + 1, by omega, fun j a' hj ha' => ?_, ?_⟩ ?_
        · by_cases hjk : j = k
          · subst hjk
            rw [ha] at ha'
            injection ha' with ha'
            subst ha'
            rw [hfa, hbb]; rfl
          · exact hal j a' (by omega) ha'
        · simp +contextual (maxSteps := 2000000) (disch := first | omega | (simp only [SZ]; first | done | omega) | (simp only [TS] at *; omega)) only [RZ, ovw, oneC, reduceAdd, reduceMul, reduceSub, reduceEqDiff, reduceLT, ↓reduceIte, Int.reduceToNat, reduceLeDiff,  f1, f22, f23]
        · simp +contextual (maxSteps := 2000000) (disch := first | omega | (simp only [SZ]; first | done | omega) | (simp only [TS] at *; omega)) only [RZ, ovw, oneC, reduceAdd, reduceMul, reduceSub, reduceEqDiff, reduceLT, ↓reduceIte, Int.reduceToNat, reduceLeDiff,  intOf, f23]
          omega
    · have hkz : k = G.addons.length := by omega
      subst hkz
      simp +contextual (maxSteps := 2000000) (disch := first | omega | (simp only [SZ]; first | done | omega) | (simp only [TS] at *; omega)) only [RZ, ovw, oneC, reduceAdd, reduceMul, reduceSub, reduceEqDiff, reduceLT, ↓reduceIte, Int.reduceToNat, reduceLeDiff,  f1, f22, f23]
      rw [List.all_eq_true]
      intro a ha
      obtain ⟨j, hj⟩ := List.mem_iff_getElem?.1 ha
      exact hal j a (List.getElem?_eq_some_iff.1 hj).1 hj
/-- What a game that passes meets. -/
theorem few_is {G : Gm} (h : fewB G = true) : G.name.size ≤ 200 ∧ G.addons.length ≤ 50 ∧ G.tiers.length ≤ 50 ∧ ∀ a ∈ G.addons, a.name.size ≤ 200 ∧ a.factors.length ≤ 50 ∧ a.serials.length ≤ 50 := by
  unfold fewB at h
  simp only [Bool.and_eq_true, Bool.not_eq_true', Bool.or_eq_false_iff, decide_eq_false_iff_not] at h
  obtain ⟨⟨⟨h1, h2⟩, h3⟩, h4⟩ := h
  refine ⟨by omega, by omega, by omega, fun a ha => ?_⟩
  have := List.all_eq_true.1 h4 a ha
  unfold fewA at this
  simp only [Bool.not_eq_true', Bool.or_eq_false_iff, decide_eq_false_iff_not] at this
  omega
theorem few_little {G : Gm} (h : fewB G = true) : G.little := by
  obtain ⟨h1, h2, h3, h4⟩ := few_is h
  refine ⟨by omega, by omega, by omega, fun a ha => ?_⟩
  have := h4 a ha
  omega
end Go.Proofs.YtbdkggnajipdhaaGreatDoor
/- Walks: the law's awake. -/
namespace Go.Proofs.YtbdkggnajipdhaaGreatDoor
open Nat (reduceAdd reduceMul reduceSub reduceEqDiff reduceLT reduceLeDiff)
open Go.RowKit
set_option maxRecDepth 100000
theorem gmC_n {G q : Gm} (h : gmC G = gmC q) {i : Nat} (hi : i < 19) : G.n i = q.n i := by
  have := congrArg (fun x => x.2.1[i]?) h
  simp only [gmC, List.getElem?_map, List.getElem?_range hi, Option.map_some, Option.some.injEq] at this
  exact this
theorem gmV_C {G q : Gm} (h : gmC G = gmC q) (Va Vt : Value) : gmV G Va Vt = gmV q Va Vt := by
  have hn : G.name = q.name := congrArg Prod.fst h
  unfold gmV
  rw [hn, gmC_n h (i := 0) (by decide), gmC_n h (i := 1) (by decide), gmC_n h (i := 2) (by decide), gmC_n h (i := 3) (by decide), gmC_n h (i := 4) (by decide), gmC_n h (i := 5) (by decide), gmC_n h (i := 6) (by decide), gmC_n h (i := 7) (by decide), gmC_n h (i := 8) (by decide), gmC_n h (i := 9) (by decide), gmC_n h (i := 10) (by decide), gmC_n h (i := 11) (by decide), gmC_n h (i := 12) (by decide), gmC_n h (i := 13) (by decide), gmC_n h (i := 14) (by decide), gmC_n h (i := 15) (by decide), gmC_n h (i := 16) (by decide), gmC_n h (i := 17) (by decide), gmC_n h (i := 18) (by decide)]
theorem GmIn.C {w : World} {Va Vt : Value} {G q : Gm} (h : GmIn w Va Vt G) (e : gmC G = gmC q) : GmIn w Va Vt q := by
  have ha : G.addons = q.addons := congrArg (fun x => x.2.2.1) e
  have ht : G.tiers = q.tiers := congrArg (fun x => x.2.2.2) e
  unfold GmIn at h ⊢
  rw [ha, ht] at h
  exact h
theorem parse_ex {s : ByteArray} {q : Gm} {er ln : Int} (hs : s.size ≤ 1000000) {w : World} (hW : Laid w) (hw9 : 9 ≤ w.heap.size) (hp : (gmC (parseG s).1, (parseG s).2) = (gmC q, er, ln)) : Calls Tryz.prog 9 #[.string s] w fun e w' => Below w.heap.size w w' ∧
    ∃ Va Vt, e = .returned (.tuple #[.agg (gmV q Va Vt).toArray, .int .i64 er, .int .i64 ln]) ∧ GmIn w' Va Vt q := by
  simp only [Prod.mk.injEq] at hp
  obtain ⟨h1, h2⟩ := hp
  have h3 : (parseG s).2.1 = er := congrArg Prod.fst h2
  have h4 : (parseG s).2.2 = ln := congrArg Prod.snd h2
  refine (parse_any s w hs hW hw9).mono ?_
  rintro e w1 ⟨hB, Va, Vt, he, hG⟩
  rw [gmV_C h1, h3, h4] at he
  exact ⟨hB, Va, Vt, he, hG.C h1⟩
/-- A game boxed in memory. -/
theorem load_game {w : World} {b : Nat} {G : Gm} {Va Vt : Value} (h : Row w b 26 (gmV G Va Vt)) : vLoad Tryz.prog 26 (.pointer (some ⟨b, 0, none⟩)) w = .ok (.value (.agg (gmV G Va Vt).toArray)) w :=
  vLoad_all (by kernel_rfl) (by rw [gmV_len]; kernel_rfl) (fun i v hv => by rw [Nat.zero_add]; exact h.cell hv)
theorem W_gen {P : Program} {n : Nat} {c : Code} {Q : Exit → Sl → World → Prop} {σ : Sl} {w : World} (h : ∀ w2, w2 = w → W P n c Q σ w2) : W P n c Q σ w := h w rfl
set_option maxHeartbeats 4000000 in
theorem awake_any (w : World) (hW : Laid w) (hw9 : 9 ≤ w.heap.size) : Calls Tryz.prog 8 #[] w fun e w' => e = .returned (.bool true) ∧ Below w.heap.size w w' := by
  refine calls_W (l := []) Tryz.func8 rfl _ Tryz.ntmps8 (by simp) ?_
  refine W_piece fun K hK hX => ?_
  simp +contextual (maxSteps := 2000000) (disch := first | omega | (simp only [SZ]; first | done | omega) | (simp only [TS] at *; omega)) only [RZ, ovw, oneC, reduceAdd, reduceMul, reduceSub, reduceEqDiff, reduceLT, ↓reduceIte, Int.reduceToNat, reduceLeDiff]
  refine hK _ _ ?_
  clear hK hX K
  refine W_piece fun K hK hX => ?_
  simp +contextual (maxSteps := 2000000) (disch := first | omega | (simp only [SZ]; first | done | omega) | (simp only [TS] at *; omega)) only [RZ, ovw, oneC, reduceAdd, reduceMul, reduceSub, reduceEqDiff, reduceLT, ↓reduceIte, Int.reduceToNat, reduceLeDiff]
  refine (parse_ex (q := exT) (er := 0) (ln := 0) (by decide) hW hw9 (by kernel_rfl)).mono ?_
  rintro e w1 ⟨hB1, Va, Vt, rfl, hG1⟩
  refine ⟨_, rfl, ?_⟩
  obtain ⟨⟨Aa, ca, Vs, rfl, hAa, hads⟩, At, ct, rfl, hAt⟩ := id hG1
  have hz1 := hB1.size
  simp only [gmV]
  simp +contextual (maxSteps := 2000000) (disch := first | omega | (simp only [SZ]; first | done | omega) | (simp only [TS] at *; omega)) only [RZ, ovw, oneC, reduceAdd, reduceMul, reduceSub, reduceEqDiff, reduceLT, ↓reduceIte, Int.reduceToNat, reduceLeDiff]
  refine hK _ _ ?_
  clear hK hX K
  refine W_gen fun w2 hw2 => ?_
  have r1 : Row w2 w1.heap.size 26 (gmV exT (.slice Aa exT.addons.length ca) (.slice At exT.tiers.length ct)) := by rw [hw2]; exact Row.new w1 _ _
  have hB2 : Below w1.heap.size w1 w2 := by rw [hw2]; exact below_alloc w1 _
  clear hw2
  have hG2 := hG1.below hB2
  have hAt2 := hAt.below hB2
  have hAa2 := hAa.below hB2
  obtain ⟨b, o, rfl, hb, hcb⟩ := hAt2.at_ (enc := encTi) (k := 1) rfl
  obtain ⟨cv1, hcv⟩ : ∃ c, Vs[0]? = some c := ⟨_, List.getElem?_eq_getElem (by rw [hads.1]; decide)⟩
  obtain ⟨vf, vs, rfl, hvf, hvs⟩ := hads.2 0 _ ⟨toBA (asc "joker"), 2, 100, [], 2, [300, 5000]⟩ hcv rfl
  obtain ⟨As, cS, rfl, hAs⟩ := hvs
  obtain ⟨b3, o3, rfl, hb3, hc3⟩ := hAa2 (by rw [hads.1]; decide)
  have l5 : w2.cell? _ = _ := hc3 0 _ hcv 5 _ rfl
  have t0 : w2.cell? _ = _ := hcb 0 _ rfl
  have c1 : w2.cell? ⟨w1.heap.size, 1, none⟩ = some (.int .i64 2) := r1.cell (i := 1) rfl
  have c9 : w2.cell? ⟨w1.heap.size, 9, none⟩ = some (.int .i64 3) := r1.cell (i := 9) rfl
  have c10 : w2.cell? ⟨w1.heap.size, 10, none⟩ = some (.int .i64 36) := r1.cell (i := 10) rfl
  have c11 : w2.cell? ⟨w1.heap.size, 11, none⟩ = some (.int .i64 1230) := r1.cell (i := 11) rfl
  have c20 : w2.cell? ⟨w1.heap.size, 20, none⟩ = some (.slice (some ⟨b3, o3, none⟩) 1 ca) := r1.cell (i := 20) rfl
  have c21 : w2.cell? ⟨w1.heap.size, 21, none⟩ = some (.slice (some ⟨b, o, none⟩) 2 ct) := r1.cell (i := 21) rfl
  refine W_piece fun K hK hX => ?_
  refine W_piece fun K2 hK2 hX2 => ?_
  have n1 : decide (((0 : Nat) : Int) + 1 = 1) = true := rfl
  have n2 : decide (((0 : Nat) : Int) + 1 + 1 = 2) = true := rfl
  simp +contextual (maxSteps := 2000000) (disch := first | omega | (simp only [SZ]; first | done | omega) | (simp only [TS] at *; omega)) only [RZ, ovw, oneC, reduceAdd, reduceMul, reduceSub, reduceEqDiff, reduceLT, ↓reduceIte, Int.reduceToNat, reduceLeDiff,  c1, c9, c10, c11, c20, c21, l5, t0, n1, n2]
  have hbl := below_alloc w2 (.cells #[.int .i64 300, .int .i64 5000] 3)
  have hNew : Arr (w2.alloc (.cells #[.int .i64 300, .int .i64 5000] 3)) (some ⟨w2.heap.size, 0, none⟩) 1 (([300, 5000] : List Int).map fun n => [Value.int .i64 n]) :=
    arr_row (Vs := ([300, 5000] : List Int).map fun n => [Value.int .i64 n]) (Row.new w2 3 [.int .i64 300, .int .i64 5000]) (by simp)
  refine (ints_any [300, 5000] As (some ⟨w2.heap.size, 0, none⟩) cS 2 _ ((hAs.below hB2).below hbl) hNew (by decide)).mono ?_
  rintro e w3 ⟨rfl, hB3⟩
  refine ⟨_, rfl, ?_⟩
  have hB23 : Below w2.heap.size w2 w3 := hbl.trans (hB3.mono hbl.size)
  try simp +contextual (maxSteps := 2000000) (disch := first | omega | (simp only [SZ]; first | done | omega) | (simp only [TS] at *; omega)) only [RZ, ovw, oneC, reduceAdd, reduceMul, reduceSub, reduceEqDiff, reduceLT, ↓reduceIte, Int.reduceToNat, reduceLeDiff]
  refine hK2 _ _ ?_
  clear hK2 hX2 K2
  refine W_if_f (by rfl) ?_
  rw [W_skip]
  refine hK _ _ ?_
  clear hK hX K
  have hG3 := hG2.below hB23
  have r3 := r1.below hB23
  have hF3 : Below w.heap.size w w3 := hB1.trans ((hB2.trans (hB23.mono hB2.size)).mono hz1)
  have hW3 := hW.below hF3 hW.size
  have hz3 := hF3.size
  refine W_piece fun K hK hX => ?_
  simp +contextual (maxSteps := 2000000) (disch := first | omega | (simp only [SZ]; first | done | omega) | (simp only [TS] at *; omega)) only [RZ, ovw, oneC, reduceAdd, reduceMul, reduceSub, reduceEqDiff, reduceLT, ↓reduceIte, Int.reduceToNat, reduceLeDiff]
  refine (parse_ex (q := noGm) (er := 6) (ln := 2) (by decide) hW3 (by omega) (by kernel_rfl)).mono ?_
  rintro e w4 ⟨hB4, Va4, Vt4, rfl, hG4⟩
  refine ⟨_, rfl, ?_⟩
  obtain ⟨⟨Aa4, ca4, Vs4, rfl, _⟩, At4, ct4, rfl, _⟩ := id hG4
  simp only [gmV]
  simp +contextual (maxSteps := 2000000) (disch := first | omega | (simp only [SZ]; first | done | omega) | (simp only [TS] at *; omega)) only [RZ, ovw, oneC, reduceAdd, reduceMul, reduceSub, reduceEqDiff, reduceLT, ↓reduceIte, Int.reduceToNat, reduceLeDiff]
  refine hK _ _ ?_
  clear hK hX K
  refine W_gen fun w5 hw5 => ?_
  have hB5 : Below w4.heap.size w4 w5 := by rw [hw5]; exact below_alloc w4 _
  clear hw5
  have hB35 : Below w3.heap.size w3 w5 := hB4.trans (hB5.mono hB4.size)
  have hG5 := hG3.below hB35
  have r5 := r3.below hB35
  have hF5 := hF3.trans (hB35.mono hF3.size)
  have hl5 : vLoad Tryz.prog 26 (.pointer (some ⟨w1.heap.size, 0, none⟩)) w5 = .ok (.value (.agg (gmV exT (.slice (some ⟨b3, o3, none⟩) exT.addons.length ca) (.slice (some ⟨b, o, none⟩) exT.tiers.length ct)).toArray)) w5 :=
    vLoad_all (by kernel_rfl) (by rw [gmV_len]; kernel_rfl) (fun i v hv => by rw [Nat.zero_add]; exact r5.cell hv)
  refine W_piece fun K hK hX => ?_
  simp +contextual (maxSteps := 2000000) (disch := first | omega | (simp only [SZ]; first | done | omega) | (simp only [TS] at *; omega)) only [RZ, ovw, oneC, reduceAdd, reduceMul, reduceSub, reduceEqDiff, reduceLT, ↓reduceIte, Int.reduceToNat, reduceLeDiff,  hl5]
  refine (print_any exT _ _ w5 (hW.below hF5 hW.size) (by have := hF5.size; omega) hG5 (by unfold Gm.little; decide)).mono ?_
  rintro e w6 ⟨rfl, hB6⟩
  refine ⟨_, rfl, ?_⟩
  try simp +contextual (maxSteps := 2000000) (disch := first | omega | (simp only [SZ]; first | done | omega) | (simp only [TS] at *; omega)) only [RZ, ovw, oneC, reduceAdd, reduceMul, reduceSub, reduceEqDiff, reduceLT, ↓reduceIte, Int.reduceToNat, reduceLeDiff]
  refine hK _ _ ?_
  clear hK hX K
  simp +contextual (maxSteps := 2000000) (disch := first | omega | (simp only [SZ]; first | done | omega) | (simp only [TS] at *; omega)) only [RZ, ovw, oneC, reduceAdd, reduceMul, reduceSub, reduceEqDiff, reduceLT, ↓reduceIte, Int.reduceToNat, reduceLeDiff]
  refine ⟨congrArg (fun b => Ending.returned (.bool b)) (decide_eq_true (by decide +kernel)), hF5.trans (hB6.mono hF5.size)⟩
end Go.Proofs.YtbdkggnajipdhaaGreatDoor
/- Walks: the reference's Size, Format. -/
namespace Go.Proofs.YtbdkggnajipdhaaGreatDoor
open Go.RowKit
set_option maxRecDepth 100000
theorem toBA_size (l : List Nat) : (toBA l).size = l.length := by
  unfold toBA
  show (Array.size _) = _
  simp
end Go.Proofs.YtbdkggnajipdhaaGreatDoor
/- Walks: the reference's printer of games: Word, fine. -/
namespace Go.Proofs.YtbdkggnajipdhaaGreatDoor
open Go.RowKit
set_option maxRecDepth 100000
end Go.Proofs.YtbdkggnajipdhaaGreatDoor
/- Walks: the reference's printer of games: put, of, row, hit. -/
namespace Go.Proofs.YtbdkggnajipdhaaGreatDoor
open Go.RowKit
set_option maxRecDepth 100000
end Go.Proofs.YtbdkggnajipdhaaGreatDoor
/- Walks: the reference's printer of games: printDays, printAddon, printTier. -/
namespace Go.Proofs.YtbdkggnajipdhaaGreatDoor
open Go.RowKit
set_option maxRecDepth 100000
end Go.Proofs.YtbdkggnajipdhaaGreatDoor
/- Walks: the reference's printer of games: Days, printDays. -/
namespace Go.Proofs.YtbdkggnajipdhaaGreatDoor
open Go.RowKit
set_option maxRecDepth 100000
end Go.Proofs.YtbdkggnajipdhaaGreatDoor
/- Walks: the reference's printer of games: fineAddon, fineTier. -/
namespace Go.Proofs.YtbdkggnajipdhaaGreatDoor
open Go.RowKit
set_option maxRecDepth 100000
end Go.Proofs.YtbdkggnajipdhaaGreatDoor
/- Walks: the reference's Printable and Print. -/
namespace Go.Proofs.YtbdkggnajipdhaaGreatDoor
open Go.RowKit
set_option maxRecDepth 100000
end Go.Proofs.YtbdkggnajipdhaaGreatDoor
/- Walks: the reference's Print of a game. -/
namespace Go.Proofs.YtbdkggnajipdhaaGreatDoor
open Go.RowKit
set_option maxRecDepth 100000
end Go.Proofs.YtbdkggnajipdhaaGreatDoor
/- Regions that draw their order: many readers at once, some of them behind a condition that holds. -/
namespace Go.Proofs.YtbdkggnajipdhaaGreatDoor
open Go.RowKit
end Go.Proofs.YtbdkggnajipdhaaGreatDoor
/- Walk: the law RuletextPrints. -/
namespace Go.Proofs.YtbdkggnajipdhaaGreatDoor
open Go.RowKit
set_option maxRecDepth 100000
end Go.Proofs.YtbdkggnajipdhaaGreatDoor
/- From a contract to a row: the arguments are opened; behind the call they read as before, for nothing below has turned. -/
namespace Go.Proofs.YtbdkggnajipdhaaGreatDoor
open Go.ChangeShapes Go.WideShapes Go.ChangeAt Go.RowKit Go.Joins Go.Deep
theorem ownNone : ownKnob Tryz.prog.godebug = none := by kernel_rfl
theorem laidAll : laidOutB Tryz.prog = true := by kernel_rfl
section
variable {H : Type} {enc : TypeId × Value → H} {P : Program} {W W' : World} {sp : Nat → Bool}
theorem trodAll_stay (hl : laidOutB P = true) : ∀ (ts : List TypeId) (vs : List Value) (ds : List (DataW H)) (ps : List MemPlace), (∀ t ∈ ts, P.readableRec t = true ∧ t < P.types.size) →
    DataW.TrodAll enc P W 0 (fun _ => true) true ts vs ds ps → (∀ p ∈ ps, W.sameAt W' p) → (∀ p ∈ ps, sp p.block = true) → DataW.TrodAll enc P W' 0 sp true ts vs ds ps
  | [], [], [], ps, _, h, _, _ => h
  | t :: ts, v :: vs, d :: ds, ps, ht, ⟨p, q, h1, h2, e⟩, hs, hp =>
    ⟨p, q, WideElems.Trod_stays hl (ht t (by simp)).1 (ht t (by simp)).2 h1 (fun x hx => hs x (by rw [e]; simp [hx])) (fun x hx => hp x (by rw [e]; simp [hx])),
      trodAll_stay hl ts vs ds q (fun t' h' => ht t' (by simp [h'])) h2 (fun x hx => hs x (by rw [e]; simp [hx])) (fun x hx => hp x (by rw [e]; simp [hx])), e⟩
  | [], _ :: _, _, _, _, h, _, _ => h.elim
  | [], [], _ :: _, _, _, h, _, _ => h.elim
  | _ :: _, [], _, _, _, h, _, _ => h.elim
  | _ :: _, _ :: _, [], _, _, h, _, _ => h.elim
/-- The closing of a law's row: true is returned, and nothing that was there has turned. -/
theorem row_close {f : Func} {s : ChangeSpec} {fid : FuncId} {args : Array Value} {ds gs : List (DataW H)} {before : List MemPlace} {tb : TypeId} (hl : laidOutB P = true)
    (hts : f.params.toList.all (fun t => P.readableRec t && decide (t < P.types.size)) = true) (hvars : s.vars = []) (hres : f.resultTypes = #[tb]) (hb : P.underlying tb = some .bool)
    (hW : DataW.Whole enc P f.params.toList s.vars false W args.toList ds gs before)
    (h1 : (s.fn H ds).results = [.lit (.bool true)]) (h2 : (s.fn H ds).args = ds) (h3 : (s.fn H ds).vars = [])
    (walk : Calls P fid args W fun e W' => e = .returned (.bool true) ∧ Below W.heap.size W W') :
    Calls P fid args W fun e W' => ∃ v, e = .returned v ∧ s.post enc P f false true false false W args v W' := by
  have ht : ∀ t ∈ f.params.toList, P.readableRec t = true ∧ t < P.types.size := fun t h => by simpa using List.all_eq_true.1 hts t h
  refine walk.mono fun e W' ⟨he, hg⟩ => ⟨_, he, ?_⟩
  have hW' := hW
  obtain ⟨p, q, hA, hV, e, hfz, hnd⟩ := hW
  rw [hvars] at hV
  obtain ⟨rfl, rfl⟩ := trodVars_none hV
  have hlt := hW'.lt
  rw [List.append_nil] at e
  subst e
  have hnil : ds ++ ([] : List (DataW H)) = ds := List.append_nil ds
  have res : ∀ (b : Nat) (sp : Nat → Bool) (hd : Bool), DataW.TrodAll enc P W' b sp hd f.resultTypes.toList ((Value.bool true).resultList f.resultTypes.size) (s.fn H (ds ++ [])).results [] := fun b sp hd => by
    rw [hnil, h1, hres]; exact trodAll_mk1 (shut_bool hb _)
  have arg : ∀ sp : Nat → Bool, (∀ x ∈ before, sp x.block = true) → DataW.TrodAll enc P W' 0 sp true f.params.toList args.toList (s.fn H (ds ++ [])).args before := fun sp hsp => by
    rw [hnil, h2]; exact trodAll_stay hl _ _ _ _ ht hA (fun x hx => hg.same (hlt x hx)) hsp
  have vars : ∀ sp : Nat → Bool, DataW.TrodVars enc P W' sp s.vars (s.fn H (ds ++ [])).vars [] := fun sp => by
    rw [hnil, h3, hvars]; rfl
  have old : ∀ x ∈ before, (fun b => decide (b < W.heap.size)) x.block = true := fun x hx => by simpa using hlt x hx
  exact ⟨ds, [], before, [], before, [], hW', res _ _ _, arg _ old, vars _, hg.frame _, fun h => by cases h⟩
end
section
variable {H : Type} {enc : TypeId × Value → H} {P : Program} {w : World} {base : Nat} {spare : Nat → Bool} {held : Bool}
theorem open_slice_fields {t e : TypeId} {fs : Array Field} {fuel : Nat} {cs : List Value} {x : DataW H × List MemPlace} (ht : P.underlying t = some (.slice e)) (he : P.underlying e = some (.struct fs))
    (hone : oneCellFields P fs = true) (hC : P.cellsOf e = fs.size) (h : DataW.trod enc P w base spare held fuel t cs = some x) :
    (cs = [.slice none 0 0] ∧ x = (.nil, [])) ∨
    ∃ (a : Addr) (len cap m : Nat) (D : Nat → DataW H) (Pl : Nat → List MemPlace), cs = [.slice (some a) len cap] ∧ base ≤ a.block ∧ len ≤ cap ∧ cap ≤ maxLen ∧ m = (if spare a.block then cap else len) ∧
      x = (.slice ((List.range len).map D) ((List.range (m - len)).map fun j => D (len + j)), MemPlace.row a (m * fs.size) ++ (List.range m).flatMap Pl) ∧
      ∀ i, i < m → ∃ (ys : List (DataW H × List MemPlace)) (n : Nat), D i = .agg (ys.map (·.1)) ∧ Pl i = ys.flatMap (·.2) ∧ ys.length = fs.size ∧
        ∀ (j : Nat) (f : Field), fs[j]? = some f → ∃ (v : Value) (y : DataW H × List MemPlace), w.cell? (a.add (i * fs.size + j)) = some v ∧ ys[j]? = some y ∧ DataW.trod enc P w base spare held n f.type [v] = some y := by
  rcases open_slice ht h with h0 | ⟨a, len, cap, m, n, D, Pl, hcs, hb, hl, hm, hmm, hx, hi⟩
  · exact .inl h0
  · refine .inr ⟨a, len, cap, m, D, Pl, hcs, hb, hl, hm, hmm, by rw [hC] at hx; exact hx, fun i him => ?_⟩
    obtain ⟨cs', hc, ht'⟩ := hi i him
    rw [hC] at hc
    obtain ⟨ys, n', hn', hy, hlen, hyl, hf⟩ := DataW.trod_struct he ht'
    obtain ⟨_, hcl, hat⟩ := World.cells?_some hc
    simp only [Prod.mk.injEq] at hy
    refine ⟨ys, n', hy.1, hy.2, hyl, fun j f hj => ?_⟩
    obtain ⟨ho, hk⟩ := hone_of hone j f hj
    have hjl : j < fs.size := (Array.getElem?_eq_some_iff.1 hj).1
    have hcell := hat j hjl
    have hv : cs'[j]? = some (cs'[j]'(by omega)) := List.getElem?_eq_getElem (by omega)
    have h1 := hf j f hj
    rw [ho, hk] at h1
    have hone' : (cs'.drop j).take 1 = [cs'[j]'(by omega)] := by
      rw [List.drop_eq_getElem_cons (by omega)]
      rfl
    rw [hone'] at h1
    have hys : ys[j]? = some (ys[j]'(by omega)) := List.getElem?_eq_getElem (by omega)
    refine ⟨_, _, ?_, hys, h1.trans hys⟩
    rw [← Go.Deep.add_add, hcell, hv]
end
end Go.Proofs.YtbdkggnajipdhaaGreatDoor
/- What the row says of the listed variables, as the walks ask it; the witness's world. -/
namespace Go.Proofs.YtbdkggnajipdhaaGreatDoor
open Go.ChangeShapes Go.WideShapes Go.ChangeAt Go.WideMaps Go.WideElems Go.RowKit Go.Joins Go.Deep
set_option maxRecDepth 100000
theorem days_data : (Rows.laid_lottery_ruletext_dayNames : DataW Unit) = .agg (dayW.map fun d => .lit (.string (d.map UInt8.ofNat))) := by kernel_rfl
theorem days_cells {W : World} {fuel : Nat} {cs : List Value} {p : List MemPlace} (h : DataW.trod (fun _ => ()) Tryz.prog W 0 (fun _ => true) false fuel 102 cs = some (Rows.laid_lottery_ruletext_dayNames, p)) :
    ∀ (i : Nat) (v : Value), dayC[i]? = some v → cs[i]? = some v := by
  rw [days_data] at h
  obtain ⟨xs, m, rfl, hx, hlen, hn, hel⟩ := DataW.trod_array Tryz.underlying102 h
  have hC : Tryz.prog.cellsOf 9 = 1 := by kernel_rfl
  rw [hC] at hel
  simp only [Prod.mk.injEq, DataW.agg.injEq] at hx
  intro i v hv
  unfold dayC at hv
  rw [List.getElem?_map] at hv
  obtain ⟨d, hd, rfl⟩ := Option.map_eq_some_iff.1 hv
  have hi : i < 7 := (List.getElem?_eq_some_iff.1 hd).1
  have h1 := hel i hi
  have h2 : (xs.map (·.1))[i]? = some (.lit (.string (d.map UInt8.ofNat))) := by rw [← hx.1, List.getElem?_map, hd]; rfl
  rw [List.getElem?_map] at h2
  obtain ⟨x, hxi, hx2⟩ := Option.map_eq_some_iff.1 h2
  rw [hxi] at h1
  obtain ⟨s1, e1, d1, _⟩ := DataW.trod_string Tryz.underlying9 h1
  subst d1
  simp only [DataW.lit.injEq, Lit.string.injEq] at hx2
  have t1 : s1 = toBA d := by
    apply ByteArray.ext; apply Array.ext'; rw [hx2]; rfl
  subst t1
  have := congrArg (·[0]?) e1
  simp only [List.getElem?_cons_zero] at this
  rw [List.getElem?_take_of_lt (by decide), List.getElem?_drop] at this
  simpa using this
end Go.Proofs.YtbdkggnajipdhaaGreatDoor
/- Contracts of Go's library, laid by the kit's tools over this translation (wip/shelf.py keeps those that are used). -/
namespace Go.Proofs
open Go.Shelf
def Tryz.lays102_ren : Go.Shelf.Ren := ⟨fun | 102 => 47 | 209 => 87 | 207 => 124 | n => n, fun | 9 => 9 | 4 => 4 | 3 => 3 | n => n, fun | n => n⟩
theorem Tryz.lays102 : Go.Proofs.Lays.n102 Tryz.prog Tryz.lays102_ren := {
  mixed := by kernel_rfl
  f102 := Tryz.func47.trans (congrArg some (by kernel_rfl))
  f207 := Tryz.func124.trans (congrArg some (by kernel_rfl))
  f209 := Tryz.func87.trans (congrArg some (by kernel_rfl))
  t3 := Tryz.underlying3
  a3 := Tryz.isAgg3
  z3 := Tryz.sizeOf3
  v3 := Tryz.zeroValue3
  t4 := Tryz.underlying4
  a4 := Tryz.isAgg4
  z4 := Tryz.sizeOf4
  v4 := Tryz.zeroValue4
  t9 := Tryz.underlying9
  a9 := Tryz.isAgg9
  z9 := Tryz.sizeOf9
  v9 := Tryz.zeroValue9 }
open Go.RowKit Go.Lib in
/-- strings.TrimSuffix: "TrimSuffix returns s without the provided trailing suffix string. If s doesn't end with suffix, s is returned unchanged.": IT RETURNS 'Lib.trimSuffix s suffix'; the world is as it was. (LAID: no walk: one application.) -/
theorem Tryz.strings_TrimSuffix (s p : ByteArray) (w : World) (hs : s.size ≤ 9223372036854775807) :
    Calls Tryz.prog 47 #[.string s, .string p] w fun e w' => e = .returned (.string ⟨(Lib.trimSuffix s.data.toList p.data.toList).toArray⟩) ∧ w' = w := Any.strings_TrimSuffix Tryz.lays102 s p w hs
def Tryz.lays146_ren : Go.Shelf.Ren := ⟨fun | 146 => 46 | 221 => 86 | 268 => 123 | 138 => 20 | 143 => 54 | 195 => 52 | 197 => 138 | 218 => 53 | 219 => 100 | 260 => 145 | 217 => 127 | 225 => 128 | 224 => 129 | 267 => 130 | 266 => 141 | 314 => 142 | n => n, fun | 9 => 9 | 31 => 35 | 3 => 3 | 4 => 4 | 0 => 0 | 105 => 141 | 21 => 21 | 5 => 5 | 46 => 139 | 119 => 112 | 139 => 160 | 138 => 159 | 146 => 153 | 51 => 135 | n => n, fun | 1 => 2 | 3 => 4 | 4 => 5 | n => n⟩
theorem Tryz.lays146 : Go.Proofs.Lays.n146 Tryz.prog Tryz.lays146_ren := {
  mixed := by kernel_rfl
  f138 := Tryz.func20.trans (congrArg some (by kernel_rfl))
  f143 := Tryz.func54.trans (congrArg some (by kernel_rfl))
  f146 := Tryz.func46.trans (congrArg some (by kernel_rfl))
  f195 := Tryz.func52.trans (congrArg some (by kernel_rfl))
  f197 := Tryz.func138.trans (congrArg some (by kernel_rfl))
  f217 := Tryz.func127.trans (congrArg some (by kernel_rfl))
  f218 := Tryz.func53.trans (congrArg some (by kernel_rfl))
  f219 := Tryz.func100.trans (congrArg some (by kernel_rfl))
  f221 := Tryz.func86.trans (congrArg some (by kernel_rfl))
  f224 := Tryz.func129.trans (congrArg some (by kernel_rfl))
  f225 := Tryz.func128.trans (congrArg some (by kernel_rfl))
  f260 := Tryz.func145.trans (congrArg some (by kernel_rfl))
  f266 := Tryz.func141.trans (congrArg some (by kernel_rfl))
  f267 := Tryz.func130.trans (congrArg some (by kernel_rfl))
  f268 := Tryz.func123.trans (congrArg some (by kernel_rfl))
  f314 := Tryz.func142.trans (congrArg some (by kernel_rfl))
  t0 := Tryz.underlying0
  a0 := Tryz.isAgg0
  z0 := Tryz.sizeOf0
  v0 := Tryz.zeroValue0
  t3 := Tryz.underlying3
  a3 := Tryz.isAgg3
  z3 := Tryz.sizeOf3
  v3 := Tryz.zeroValue3
  t4 := Tryz.underlying4
  a4 := Tryz.isAgg4
  z4 := Tryz.sizeOf4
  v4 := Tryz.zeroValue4
  t5 := Tryz.underlying5
  a5 := Tryz.isAgg5
  z5 := Tryz.sizeOf5
  v5 := Tryz.zeroValue5
  t9 := Tryz.underlying9
  a9 := Tryz.isAgg9
  z9 := Tryz.sizeOf9
  v9 := Tryz.zeroValue9
  t21 := Tryz.underlying21
  a21 := Tryz.isAgg21
  z21 := Tryz.sizeOf21
  v21 := Tryz.zeroValue21
  t31 := Tryz.underlying35
  a31 := Tryz.isAgg35
  z31 := Tryz.sizeOf35
  v31 := Tryz.zeroValue35
  t46 := Tryz.underlying139
  a46 := Tryz.isAgg139
  z46 := Tryz.sizeOf139
  v46 := Tryz.zeroValue139
  t51 := Tryz.underlying135
  a51 := Tryz.isAgg135
  z51 := Tryz.sizeOf135
  v51 := Tryz.zeroValue135
  t105 := Tryz.underlying141
  a105 := Tryz.isAgg141
  z105 := Tryz.sizeOf141
  v105 := Tryz.zeroValue141
  t119 := Tryz.underlying112
  a119 := Tryz.isAgg112
  z119 := Tryz.sizeOf112
  t138 := Tryz.underlying159
  a138 := Tryz.isAgg159
  z138 := Tryz.sizeOf159
  v138 := Tryz.zeroValue159
  t139 := Tryz.underlying160
  a139 := Tryz.isAgg160
  z139 := Tryz.sizeOf160
  v139 := Tryz.zeroValue160
  t146 := Tryz.underlying153
  a146 := Tryz.isAgg153
  z146 := Tryz.sizeOf153
  v146 := Tryz.zeroValue153
  g1 := by kernel_rfl
  g3 := by kernel_rfl
  g4 := by kernel_rfl }
open Go.RowKit Go.Lib in
/-- strings.Split. (LAID: no walk: one application.) -/
theorem Tryz.strings_Split (s sep : ByteArray) (m : Int) (w : World) (hs : s.size < 4294967281) (hm : w.cell? ⟨2, 0, none⟩ = some (.int .i64 m)) (h1 : 1 ≤ sep.size) :
    Calls Tryz.prog 46 #[.string s, .string sep] w fun e w' =>
      e = .returned (.slice (some ⟨w.heap.size, 0, none⟩) (Lib.countB s sep + 1) (Lib.countB s sep + 1)) ∧ w' = w.alloc (.cells ((Lib.splitB sep 0 (Lib.countB s sep) s).map Value.string).toArray 9) := Any.strings_Split Tryz.lays146 (by kernel_rfl) s sep m w hs hm h1
def Tryz.lays157_ren : Go.Shelf.Ren := ⟨fun | 157 => 48 | 229 => 88 | 199 => 89 | 261 => 125 | 311 => 139 | 312 => 140 | n => n, fun | 9 => 9 | 31 => 35 | 3 => 3 | 5 => 5 | 4 => 4 | 119 => 112 | 0 => 0 | 40 => 114 | 152 => 132 | 21 => 21 | 154 => 134 | 51 => 135 | 141 => 137 | 196 => 146 | 193 => 143 | 198 => 148 | 49 => 34 | 194 => 144 | 201 => 151 | 226 => 155 | 46 => 139 | 227 => 156 | n => n, fun | 0 => 1 | 6 => 3 | n => n⟩
theorem Tryz.lays157 : Go.Proofs.Lays.n157 Tryz.prog Tryz.lays157_ren := {
  mixed := by kernel_rfl
  f157 := Tryz.func48.trans (congrArg some (by kernel_rfl))
  f199 := Tryz.func89.trans (congrArg some (by kernel_rfl))
  f229 := Tryz.func88.trans (congrArg some (by kernel_rfl))
  f261 := Tryz.func125.trans (congrArg some (by kernel_rfl))
  f311 := Tryz.func139.trans (congrArg some (by kernel_rfl))
  f312 := Tryz.func140.trans (congrArg some (by kernel_rfl))
  t0 := Tryz.underlying0
  a0 := Tryz.isAgg0
  z0 := Tryz.sizeOf0
  v0 := Tryz.zeroValue0
  t3 := Tryz.underlying3
  a3 := Tryz.isAgg3
  z3 := Tryz.sizeOf3
  v3 := Tryz.zeroValue3
  t4 := Tryz.underlying4
  a4 := Tryz.isAgg4
  z4 := Tryz.sizeOf4
  v4 := Tryz.zeroValue4
  t5 := Tryz.underlying5
  a5 := Tryz.isAgg5
  z5 := Tryz.sizeOf5
  v5 := Tryz.zeroValue5
  t9 := Tryz.underlying9
  a9 := Tryz.isAgg9
  z9 := Tryz.sizeOf9
  v9 := Tryz.zeroValue9
  t21 := Tryz.underlying21
  a21 := Tryz.isAgg21
  z21 := Tryz.sizeOf21
  v21 := Tryz.zeroValue21
  t31 := Tryz.underlying35
  a31 := Tryz.isAgg35
  z31 := Tryz.sizeOf35
  v31 := Tryz.zeroValue35
  t40 := Tryz.underlying114
  a40 := Tryz.isAgg114
  z40 := Tryz.sizeOf114
  v40 := Tryz.zeroValue114
  t46 := Tryz.underlying139
  a46 := Tryz.isAgg139
  z46 := Tryz.sizeOf139
  v46 := Tryz.zeroValue139
  t49 := Tryz.underlying34
  a49 := Tryz.isAgg34
  z49 := Tryz.sizeOf34
  v49 := Tryz.zeroValue34
  t51 := Tryz.underlying135
  a51 := Tryz.isAgg135
  z51 := Tryz.sizeOf135
  v51 := Tryz.zeroValue135
  t119 := Tryz.underlying112
  a119 := Tryz.isAgg112
  z119 := Tryz.sizeOf112
  t141 := Tryz.underlying137
  a141 := Tryz.isAgg137
  z141 := Tryz.sizeOf137
  v141 := Tryz.zeroValue137
  t152 := Tryz.underlying132
  a152 := Tryz.isAgg132
  z152 := Tryz.sizeOf132
  v152 := Tryz.zeroValue132
  t154 := Tryz.underlying134
  a154 := Tryz.isAgg134
  z154 := Tryz.sizeOf134
  v154 := Tryz.zeroValue134
  t193 := Tryz.underlying143
  a193 := Tryz.isAgg143
  z193 := Tryz.sizeOf143
  v193 := Tryz.zeroValue143
  t194 := Tryz.underlying144
  a194 := Tryz.isAgg144
  z194 := Tryz.sizeOf144
  v194 := Tryz.zeroValue144
  t196 := Tryz.underlying146
  a196 := Tryz.isAgg146
  z196 := Tryz.sizeOf146
  v196 := Tryz.zeroValue146
  t198 := Tryz.underlying148
  a198 := Tryz.isAgg148
  z198 := Tryz.sizeOf148
  v198 := Tryz.zeroValue148
  t201 := Tryz.underlying151
  a201 := Tryz.isAgg151
  z201 := Tryz.sizeOf151
  v201 := Tryz.zeroValue151
  t226 := Tryz.underlying155
  a226 := Tryz.isAgg155
  z226 := Tryz.sizeOf155
  v226 := Tryz.zeroValue155
  t227 := Tryz.underlying156
  a227 := Tryz.isAgg156
  z227 := Tryz.sizeOf156
  v227 := Tryz.zeroValue156
  g0 := by kernel_rfl
  g6 := by kernel_rfl }
open Go.RowKit Go.Lib in
/-- strings.Fields, the table by 'Lib.TabIs' (as strings.TrimSpace's contract). 'hg': the table's number, by its name: at a dump 'by kernel_rfl'. (LAID: no walk: one application.) -/
theorem Tryz.strings_Fields (s : ByteArray) (w : World) (hs : s.size < 4294967281) (hascii : ∀ (j : Nat) b, s.data.toList[j]? = some b → b.toNat < 128) (htab : Lib.TabIs Tryz.prog w "strings.asciiSpace" .u8 Lib.asciiSpaceTab) :
    Calls Tryz.prog 48 #[.string s] w fun e w' =>
      e = .returned (.slice (some ⟨w.heap.size, 0, none⟩) (Lib.fields s.data.toList).length (Lib.fields s.data.toList).length) ∧ w' = w.alloc (.cells ((Lib.fields s.data.toList).map fun l => Value.string ⟨l.toArray⟩).toArray 9) := Any.strings_Fields Tryz.lays157 (by kernel_rfl) (by kernel_rfl) s w hs hascii htab
def Tryz.laysM146_ren : Go.Shelf.Ren := ⟨fun | 146 => 46 | 221 => 86 | 268 => 123 | 138 => 20 | 143 => 54 | 195 => 52 | 197 => 138 | 218 => 53 | 219 => 100 | 260 => 145 | 217 => 127 | 225 => 128 | 224 => 129 | 267 => 130 | 266 => 141 | 314 => 142 | n => n, fun | 9 => 9 | 31 => 35 | 3 => 3 | 4 => 4 | 0 => 0 | 105 => 141 | 21 => 21 | 5 => 5 | 46 => 139 | 119 => 112 | 139 => 160 | 138 => 159 | 146 => 153 | 51 => 135 | n => n, fun | 1 => 2 | 3 => 4 | 4 => 5 | n => n⟩
theorem Tryz.laysM146 : Go.Proofs.LaysM.n146 Tryz.prog Tryz.laysM146_ren := {
  mixed := by kernel_rfl
  f138 := Tryz.func20.trans (congrArg some (by kernel_rfl))
  f143 := Tryz.func54.trans (congrArg some (by kernel_rfl))
  f146 := Tryz.func46.trans (congrArg some (by kernel_rfl))
  f195 := Tryz.func52.trans (congrArg some (by kernel_rfl))
  f197 := Tryz.func138.trans (congrArg some (by kernel_rfl))
  f217 := Tryz.func127.trans (congrArg some (by kernel_rfl))
  f218 := Tryz.func53.trans (congrArg some (by kernel_rfl))
  f219 := Tryz.func100.trans (congrArg some (by kernel_rfl))
  f221 := Tryz.func86.trans (congrArg some (by kernel_rfl))
  f224 := Tryz.func129.trans (congrArg some (by kernel_rfl))
  f225 := Tryz.func128.trans (congrArg some (by kernel_rfl))
  f260 := Tryz.func145.trans (congrArg some (by kernel_rfl))
  f266 := Tryz.func141.trans (congrArg some (by kernel_rfl))
  f267 := Tryz.func130.trans (congrArg some (by kernel_rfl))
  f268 := Tryz.func123.trans (congrArg some (by kernel_rfl))
  f314 := Tryz.func142.trans (congrArg some (by kernel_rfl))
  t0 := Tryz.underlying0
  a0 := Tryz.isAgg0
  z0 := Tryz.sizeOf0
  v0 := Tryz.zeroValue0
  t3 := Tryz.underlying3
  a3 := Tryz.isAgg3
  z3 := Tryz.sizeOf3
  v3 := Tryz.zeroValue3
  t4 := Tryz.underlying4
  a4 := Tryz.isAgg4
  z4 := Tryz.sizeOf4
  v4 := Tryz.zeroValue4
  t5 := Tryz.underlying5
  a5 := Tryz.isAgg5
  z5 := Tryz.sizeOf5
  v5 := Tryz.zeroValue5
  t9 := Tryz.underlying9
  a9 := Tryz.isAgg9
  z9 := Tryz.sizeOf9
  v9 := Tryz.zeroValue9
  t21 := Tryz.underlying21
  a21 := Tryz.isAgg21
  z21 := Tryz.sizeOf21
  v21 := Tryz.zeroValue21
  t31 := Tryz.underlying35
  a31 := Tryz.isAgg35
  z31 := Tryz.sizeOf35
  v31 := Tryz.zeroValue35
  t46 := Tryz.underlying139
  a46 := Tryz.isAgg139
  z46 := Tryz.sizeOf139
  v46 := Tryz.zeroValue139
  t51 := Tryz.underlying135
  a51 := Tryz.isAgg135
  z51 := Tryz.sizeOf135
  v51 := Tryz.zeroValue135
  t105 := Tryz.underlying141
  a105 := Tryz.isAgg141
  z105 := Tryz.sizeOf141
  v105 := Tryz.zeroValue141
  t119 := Tryz.underlying112
  a119 := Tryz.isAgg112
  z119 := Tryz.sizeOf112
  t138 := Tryz.underlying159
  a138 := Tryz.isAgg159
  z138 := Tryz.sizeOf159
  v138 := Tryz.zeroValue159
  t139 := Tryz.underlying160
  a139 := Tryz.isAgg160
  z139 := Tryz.sizeOf160
  v139 := Tryz.zeroValue160
  t146 := Tryz.underlying153
  a146 := Tryz.isAgg153
  z146 := Tryz.sizeOf153
  v146 := Tryz.zeroValue153
  g1 := by kernel_rfl
  g3 := by kernel_rfl
  g4 := by kernel_rfl
  i0 := by kernel_rfl
  i3 := by kernel_rfl
  i4 := by kernel_rfl
  i5 := by kernel_rfl
  i9 := by kernel_rfl
  i21 := by kernel_rfl
  i31 := by kernel_rfl
  i46 := by kernel_rfl
  i51 := by kernel_rfl
  i105 := by kernel_rfl
  i138 := by kernel_rfl
  i139 := by kernel_rfl
  i146 := by kernel_rfl
  m1 := by kernel_rfl
  s1_3 := fun w h => Go.Proofs.cell_of_shapedOpen_int (zero := #[.int .i64 0]) (t := 3) h (of_decide_eq_true (by kernel_rfl)) (by kernel_rfl) rfl (by kernel_rfl) (by kernel_rfl) Tryz.underlying3
  m3 := by kernel_rfl
  m4 := by kernel_rfl }
end Go.Proofs
/- What the rows of Orders and Twice say of the listed variables, as the walks ask it; the witness's world; a wrap that keeps the world's shape. -/
namespace Go.Proofs.YtbdkggnajipdhaaGreatDoor
open Go.ChangeShapes Go.WideShapes Go.ChangeAt Go.WideMaps Go.WideElems Go.RowKit Go.Joins Go.Deep
set_option maxRecDepth 100000
theorem u16_wf {n : Int} (h : (Lit.int .u16 n).wf = true) : 0 ≤ n ∧ n < 65536 := by
  have e1 : IntKind.u16.min = 0 := by decide
  have e2 : IntKind.u16.max = 65535 := by decide
  simp only [Lit.wf, Bool.and_eq_true, decide_eq_true_eq, e1, e2] at h
  omega
/-- What strings' functions ask. -/
structure LaidS (w : World) : Prop where
  max : ∃ m, w.cell? ⟨2, 0, none⟩ = some (.int .i64 m)
  spc : Lib.TabIs Tryz.prog w "strings.asciiSpace" .u8 Lib.asciiSpaceTab
theorem LaidS.below {B : Nat} {w w' : World} (h : LaidS w) (hb : Below B w w') (hB : 9 ≤ B) : LaidS w' :=
  ⟨by obtain ⟨m, hm⟩ := h.max; exact ⟨m, (hb.cell (p := ⟨2, 0, none⟩) (by show 2 < B; omega)).trans hm⟩, by
    have hg : Tryz.prog.globalNamed "strings.asciiSpace" = some 1 := by kernel_rfl
    have h2 := h.spc
    unfold Lib.TabIs World.var? at h2 ⊢
    rw [hg] at h2 ⊢
    simp only [Option.bind_some] at h2 ⊢
    rw [hb.block 1 (by omega)]
    exact h2⟩
theorem laidS_max {W : World} (h : W.ShapedOpen Tryz.prog) : ∃ m, W.cell? ⟨2, 0, none⟩ = some (.int .i64 m) := Tryz.laysM146.s1_3 W h
def laidL8 : List (String × DataW Unit) := Rows.ruletextOrdersRow.laid
theorem laid8_of {W : World} (h : laidMetH Tryz.prog laidL8 W) : Laid W ∧ Lib.TabIs Tryz.prog W "strings.asciiSpace" .u8 Lib.asciiSpaceTab := by
  rw [MakeChecks.laidMetH_plain _ _ _ (by kernel_rfl)] at h
  obtain ⟨ps, hv, _⟩ := h
  obtain ⟨g0, t0, cs0, f0, p0, q0, hg0, ht0, hv0, hd0, hr0, _⟩ := hv
  obtain ⟨g1, t1, cs1, f1, p1, q1, hg1, ht1, hv1, hd1, hr1, _⟩ := hr0
  obtain ⟨g2, t2, cs2, f2, p2, q2, hg2, ht2, hv2, hd2, hr2, _⟩ := hr1
  obtain ⟨g3, t3, cs3, f3, p3, q3, hg3, ht3, hv3, hd3, hr3, _⟩ := hr2
  obtain ⟨g4, t4, cs4, f4, p4, q4, hg4, ht4, hv4, hd4, hr4, _⟩ := hr3
  obtain ⟨g5, t5, cs5, f5, p5, q5, hg5, ht5, hv5, hd5, hr5, _⟩ := hr4
  obtain ⟨g6, t6, cs6, f6, p6, q6, hg6, ht6, hv6, hd6, hr6, _⟩ := hr5
  obtain rfl := Option.some.inj ((show Tryz.prog.globalNamed "math/bits.deBruijn64tab" = some 8 by kernel_rfl).symm.trans hg1)
  obtain rfl := Option.some.inj ((show Tryz.prog.globalNamed "internal/strconv.uint64pow10" = some 6 by kernel_rfl).symm.trans hg2)
  obtain rfl := Option.some.inj ((show Tryz.prog.globalNamed "strings.asciiSpace" = some 1 by kernel_rfl).symm.trans hg5)
  obtain rfl := Option.some.inj ((show Tryz.prog.globalNamed "lottery/ruletext.dayNames" = some 0 by kernel_rfl).symm.trans hg6)
  obtain rfl := Option.some.inj ((show (Tryz.prog.globals[6]?).map (·.type) = some 167 by kernel_rfl).symm.trans ht2)
  obtain rfl := Option.some.inj ((show (Tryz.prog.globals[1]?).map (·.type) = some 112 by kernel_rfl).symm.trans ht5)
  obtain rfl := Option.some.inj ((show (Tryz.prog.globals[0]?).map (·.type) = some 102 by kernel_rfl).symm.trans ht6)
  refine ⟨⟨?_, fun i v hi => ?_, ?_⟩, ?_⟩
  · have : W.heap[8]?.isSome = true := by
      unfold World.var? at hv1
      rw [hg1] at hv1
      simp only [Option.bind_some] at hv1
      cases hh : W.heap[8]? with
      | none => rw [hh] at hv1; simp at hv1
      | some o => rfl
    obtain ⟨o, ho⟩ := Option.isSome_iff_exists.1 this
    exact (Array.getElem?_eq_some_iff.1 ho).1
  · rw [World.var?_cell hg6 hv6 i]
    have := days_cells hd6 i v hi
    simpa using this
  · have hc := Lib.cells_of_tab (k := .u64) (zs := Lib.pow10Tab) Tryz.underlying167 Tryz.underlying128 (by kernel_rfl) (by kernel_rfl) (show DataW.trod _ _ _ _ _ _ _ _ _ = some (Lib.tabData .u64 Lib.pow10Tab, p2) from hd2)
    unfold Lib.TabIs
    rw [hv2, ← hc]
  · have hT : (Rows.laid_strings_asciiSpace : DataW Unit) = Lib.tabData .u8 Lib.asciiSpaceTab := by kernel_rfl
    rw [hT] at hd5
    have hc := Lib.cells_of_tab (k := .u8) (zs := Lib.asciiSpaceTab) Tryz.underlying112 Tryz.underlying5 (by kernel_rfl) (by kernel_rfl) (show DataW.trod _ _ _ _ _ _ _ _ _ = some (Lib.tabData .u8 Lib.asciiSpaceTab, p5) from hd5)
    unfold Lib.TabIs
    rw [hv5, ← hc]
/-- A world in which the listed data is laid meets the condition. -/
theorem door_met8 (os : Os) (args : Array Value) : laidMetH Tryz.prog laidL8 ((World.laidAll Tryz.prog os laidL8).forCall (fun _ _ => 0) ⟨#[], args, []⟩).memory := by
  rw [MakeChecks.laidMetH_plain _ _ _ (by kernel_rfl)]
  exact laidMet_laidAll _ (by kernel_rfl) (by kernel_rfl)
theorem door_shaped8 (os : Os) : (World.laidAll Tryz.prog os laidL8).Shaped Tryz.prog := World.shaped_of_ZipB (by kernel_rfl) (by kernel_rfl)
section
variable {H : Type} {enc : TypeId × Value → H}
/-- The wrap of a row with a condition on the world, for a contract that asks the world's shape. -/
theorem handed_shaped_and {a : Assume} {C : Checked} {os : Os} {f : FuncId} {fn : Func} {s : ChangeSpec} {conds : List PathCond} {apart fresh handsOn again : Bool} {X : World → Array Value → Prop}
    (hX : ∀ (w w' : World) (args : Array Value), w.heap = w'.heap → X w args → X w' args)
    (own : ownKnob C.prog.godebug = none) (started : os.Started) (noInit : C.prog.inits.idxOf? f = none) (hfn : C.prog.funcs[f]? = some fn)
    (witness : ∃ (w : World) (tape : Tape) (i : Input), w.os = os ∧ (w.forCall tape i).Shaped C.prog ∧ i.vars = [] ∧ Input.okWide C.prog (w.forCall tape i) .any w.heap.size f i ∧
      ((s.pre enc C.prog fn conds apart (w.forCall tape i).memory i.args ∧ X (w.forCall tape i).memory i.args) ∧ sizedMet enc C.prog fn (OpenSpec.ofChange s) apart (w.forCall tape i).memory i.args) ∧ a.holds C.prog (lone (Frame.enter C.prog f i.args .normal) [] (w.forCall tape i)))
    (contract : ∀ (W : World) (base : Nat) (args : Array Value) (ds gs : List (DataW H)) (before : List MemPlace),
      (∀ (j : Nat) t v, fn.params[j]? = some t → args[j]? = some v → Value.okWide C.prog W .any base t v) →
      DataW.Whole enc C.prog fn.params.toList s.vars apart W args.toList ds gs before → X W args → W.ShapedOpen C.prog →
      Calls C.prog f args W fun e W' => ∃ v, e = .returned v ∧ s.post enc C.prog fn apart fresh handsOn again W args v W') :
    ReturnsInHanded a C os f .any (fun w args => (s.pre enc C.prog fn conds apart w args ∧ X w args) ∧ sizedMet enc C.prog fn (OpenSpec.ofChange s) apart w args) (s.post enc C.prog fn apart fresh handsOn again) := by
  refine returnsInHanded_of_calls own started noInit witness ?_
  intro w tape i _ hsh _ hok hpre _
  obtain ⟨_, _, _, fn', hfn', _, _, _, _, hval⟩ := hok
  obtain rfl : fn' = fn := Option.some.inj (hfn'.symm.trans hfn)
  obtain ⟨⟨⟨ds, gs, before, hw, _⟩, hx⟩, _⟩ := hpre
  refine (contract (w.forCall tape i) w.heap.size i.args ds gs before hval (DataW.Whole.of_heap (w' := w.forCall tape i) (by rfl) hw) (hX _ _ _ (by rfl) hx) hsh).mono fun e W' ⟨v, he, hp⟩ => ?_
  subst he
  exact ChangeSpec.post_blind hp
end
end Go.Proofs.YtbdkggnajipdhaaGreatDoor
/- Plain: chapter 11, a printed game is read back. No program in sight. -/
namespace Go.Proofs.YtbdkggnajipdhaaGreatDoor
def seeL (V : List It) (seen : List (List Nat)) : List (List Nat) := V.foldl It.see seen
theorem see_mem : ∀ (V : List It) (seen : List (List Nat)) (k : List Nat), k ∈ seeL V seen ↔ k ∈ V.filterMap It.key ∨ k ∈ seen
  | [], seen, k => by simp [seeL]
  | i :: V, seen, k => by
    have ih := see_mem V (It.see seen i) k
    unfold seeL at ih ⊢
    rw [List.foldl_cons, ih]
    cases hk : i.key with
    | none => simp [List.filterMap_cons, hk, It.see]
    | some q =>
      simp only [List.filterMap_cons, hk, It.see, List.mem_cons]
      exact ⟨fun h => h.elim (fun h => .inl (.inr h)) (fun h => h.elim (fun h => .inl (.inl h)) .inr), fun h => h.elim (fun h => h.elim (fun h => .inr (.inl h)) .inl) (fun h => .inr (.inr h))⟩
theorem itemsS_len : ∀ V : List It, V.length ≤ (itemsS V).length
  | [] => Nat.le_refl _
  | i :: V => by
    have := itemsS_len V
    unfold itemsS at this ⊢
    rw [List.flatMap_cons, List.length_append, List.length_append, List.length_cons]
    simp only [List.length_cons, List.length_nil]
    omega
/-- Items with different keys are read one behind the other. -/
theorem gitems_read {M : List (Int × List Nat)} (hM : M ≠ []) (hk : ∀ x ∈ M.head?, x.1 ≠ 1) : ∀ (V : List It) (L : List Tk) (f : Nat) (g : Gm) (seen : List (List Nat)), V.all It.fine = true → V.all It.wok = true → (∀ i ∈ V, ∀ d t, i = .days d t → d ≠ 0) →
    (V.filterMap It.key).Nodup → (∀ k ∈ V.filterMap It.key, k ∉ seen) → L.map Kt = inK (itemsS V) ++ M → V.length < f → ∃ L', gitemsT f L g seen = .ok ((V.foldl It.eff g, seeL V seen), L') ∧ L'.map Kt = M
  | [], L, f + 1, g, seen, _, _, _, _, _, h, _ => by
    have h : L.map Kt = M := h
    obtain ⟨x, M', rfl⟩ : ∃ x M', M = x :: M' := by cases M with | nil => exact absurd rfl hM | cons x M' => exact ⟨x, M', rfl⟩
    refine ⟨L, ?_, h⟩
    unfold gitemsT
    rw [if_neg]
    · rfl
    · cases L with
      | nil => cases h
      | cons t r =>
        rw [List.map_cons, List.cons.injEq] at h
        intro e
        have hx := hk x (by simp)
        rw [← h.1] at hx
        exact hx e
  | i :: V, L, f + 1, g, seen, hf, hw, hz, hn, hs, h, hl => by
    rw [List.all_cons, Bool.and_eq_true] at hf hw
    have h' : L.map Kt = inK i.toks ++ ((3, asc ";") :: (inK (itemsS V) ++ M)) := by
      rw [h]; simp [itemsS, inK, List.map_append]
    have hk1 : ∀ k, i.key = some k → k ∉ seen := fun k e => hs k (by rw [List.filterMap_cons, e]; simp)
    obtain ⟨L1, e1, h1⟩ := item_read hf.1 hw.1 (hz i (by simp)) (by simp) (by simp) h' (g := g) hk1
    obtain ⟨e2, h2⟩ := st_is h1 (by intro e; exact hM (List.append_eq_nil_iff.1 e).2)
    have hn' : (V.filterMap It.key).Nodup := by
      rw [List.filterMap_cons] at hn
      cases e : i.key with
      | none => rw [e] at hn; exact hn
      | some q => rw [e] at hn; exact (List.nodup_cons.1 hn).2
    obtain ⟨L', e3, h3⟩ := gitems_read hM hk V (nxT L1) f (i.eff g) (It.see seen i) hf.2 hw.2 (fun j hj => hz j (by simp [hj])) hn' (fun k hkm => by
      have hks := hs k (by
        rw [List.filterMap_cons]
        cases i.key with
        | none => exact hkm
        | some q => exact List.mem_cons_of_mem _ hkm)
      unfold It.see
      cases e : i.key with
      | none => exact hks
      | some q =>
        rw [List.filterMap_cons, e] at hn
        intro hc
        rcases List.mem_cons.1 hc with rfl | hc
        · exact (List.nodup_cons.1 hn).1 hkm
        · exact hks hc) h2 (by rw [List.length_cons] at hl; omega)
    refine ⟨L', ?_, h3⟩
    have hkind : (hdT L).kind = 1 := by
      have : ∃ w R, inK i.toks ++ ((3, asc ";") :: (inK (itemsS V) ++ M)) = (1, w) :: R ∧ R ≠ [] := by
        cases i with
        | two w a b => exact ⟨_, _, rfl, by simp⟩
        | num w n => exact ⟨_, _, rfl, by simp⟩
        | days d t => exact ⟨_, _, rfl, by simp⟩
        | addon a =>
          by_cases ha : a.kind = 1
          · simp only [It.toks, if_pos ha]; exact ⟨_, _, rfl, by simp⟩
          · simp only [It.toks, if_neg ha]; exact ⟨_, _, rfl, by simp⟩
        | tier t => exact ⟨_, _, rfl, by simp⟩
      obtain ⟨w, R, eR, hR⟩ := this
      rw [eR] at h'
      exact (st_next h' hR).1
    unfold gitemsT
    rw [if_pos hkind, bindT_ok e1, thenT_some e2]
    dsimp only
    rw [e3]
    rfl
theorem closeT_ok {g : Gm} {seen : List (List Nat)} {L : List Tk} (h : L.map Kt = [(3, asc "}"), (0, [])]) : closeT ((g, seen), L) = .ok (if asc "system" ∈ seen then g else { g with n := putN g.n 8 (g.n 2) }) := by
  obtain ⟨e, h2⟩ := st_is (k := 3) (w := asc "}") h (by simp)
  unfold closeT
  rw [thenT_some e]
  have : (hdT (nxT L)).kind = 0 := by
    match hL : nxT L, h2 with
    | [], h2 => cases h2
    | [t], h2 =>
      rw [List.map_cons, List.map_nil, List.cons.injEq] at h2
      exact congrArg Prod.fst h2.1
    | _ :: _ :: _, h2 => simp at h2
  rw [if_pos this]
/-- A text of items, as it is printed, is read. -/
theorem game_read {s nm : ByteArray} {V : List It} (hs : bs s = gameX (bs nm) V) (hsz : s.size ≤ 32768) (hn : wordL (bs nm) = true) (hf : V.all It.fine = true) (hw : V.all It.wok = true) (hz : ∀ i ∈ V, ∀ d t, i = .days d t → d ≠ 0) (hnd : (V.filterMap It.key).Nodup) :
    parseG s = ((if asc "system" ∈ V.filterMap It.key then V.foldl It.eff (gm0 nm) else { V.foldl It.eff (gm0 nm) with n := putN (V.foldl It.eff (gm0 nm)).n 8 ((V.foldl It.eff (gm0 nm)).n 2) }), 0, 0) := by
  obtain ⟨L, e, hL⟩ := scan_Lx hsz (by rw [hs]; exact game_Lx hn hf hw)
  have h' : L.map Kt = (1, asc "game") :: (1, bs nm) :: (3, asc "{") :: (inK (itemsS V) ++ [(3, asc "}"), (0, [])]) := by
    rw [hL]; simp [gameS, inK, List.map_append]
  obtain ⟨e1, h1⟩ := st_is h' (by simp)
  obtain ⟨n1, n2, n3⟩ := st_next h1 (by simp)
  obtain ⟨e3, h3⟩ := st_is n3 (by simp)
  obtain ⟨L', e4, h4⟩ := gitems_read (M := [(3, asc "}"), (0, [])]) (by simp) (by simp) V (nxT (nxT (nxT L))) (nxT (nxT (nxT L))).length (gm0 nm) [] hf hw hz hnd (fun k _ h => by cases h) h3 (by
    have := itemsS_len V
    rw [st_len h3, List.length_append]
    unfold inK
    rw [List.length_map]
    simp only [List.length_cons, List.length_nil]
    omega)
  have hnm : (hdT (nxT L)).text = nm := bs_inj n2
  have hg : gameT L = .ok (if asc "system" ∈ seeL V [] then V.foldl It.eff (gm0 nm) else { V.foldl It.eff (gm0 nm) with n := putN (V.foldl It.eff (gm0 nm)).n 8 ((V.foldl It.eff (gm0 nm)).n 2) }) := by
    unfold gameT
    rw [thenT_some e1, if_neg (fun h => h n1), thenT_some e3, hnm, bindT_ok e4, closeT_ok h4]
  unfold parseG
  rw [e, if_neg (by show (0 : Int) ≠ 3; decide), if_neg (fun h => h rfl), hg]
  have : asc "system" ∈ seeL V [] ↔ asc "system" ∈ V.filterMap It.key := by rw [see_mem]; simp
  by_cases hm : asc "system" ∈ V.filterMap It.key
  · rw [if_pos hm, if_pos (this.2 hm)]
  · rw [if_neg hm, if_neg (fun h => hm (this.1 h))]
/-! What is printed of a game. -/
theorem optI_keys (w : List Nat) (n std : Int) : (optI w n std).filterMap It.key = if n = std then [] else [w] := by
  unfold optI; by_cases h : n = std <;> simp [h, It.key]
theorem optI_wok {w : List Nat} (h : (simpleI w).isSome = true) (n std : Int) : (optI w n std).all It.wok = true := by
  unfold optI; by_cases e : n = std <;> simp [e, It.wok, h]
theorem optI_eff {w : List Nat} {i : Nat} (h : simpleI w = some i) (n std : Int) (g : Gm) (hg : g.n i = std) : (optI w n std).foldl It.eff g = { g with n := putN g.n i n } := by
  unfold optI
  by_cases e : n = std
  · rw [if_pos e, List.foldl_nil]
    have : putN g.n i n = g.n := by
      funext j
      unfold putN
      by_cases hj : j = i
      · rw [if_pos hj, hj, hg, e]
      · rw [if_neg hj]
    rw [this]
  · rw [if_neg e, List.foldl_cons, List.foldl_nil]
    simp only [It.eff, h]
/-- Keys in their order. -/
def keysK : List (List Nat) := [asc "choose", asc "bonus", asc "extra", asc "price", asc "draws", asc "system", asc "days", asc "close", asc "cancel", asc "expiry", asc "pool", asc "reserve", asc "round", asc "cap", asc "rolls"]
theorem keysK_nodup : keysK.Nodup := by decide +kernel
theorem optK_sub (w : List Nat) (n std : Int) : List.Sublist ((optI w n std).filterMap It.key) [w] := by
  rw [optI_keys]; by_cases h : n = std <;> simp [h]
theorem choose_key (n : Nat → Int) : It.key (.two (if n 0 = 1 then asc "choose" else asc "digits") (n 2) (n 3)) = some (asc "choose") := by
  by_cases h : n 0 = 1
  · rw [if_pos h]; exact congrArg some (if_neg (by decide +kernel))
  · rw [if_neg h]; exact congrArg some (if_neg (by decide +kernel))
theorem bonus_sub (n : Nat → Int) : List.Sublist ((bonusI n).filterMap It.key) [asc "bonus"] := by
  unfold bonusI; by_cases h : n 4 ≠ 0 ∨ n 5 ≠ 0
  · rw [if_pos h]; simp [It.key]
  · rw [if_neg h]; simp
theorem days_sub (n : Nat → Int) : List.Sublist ((daysI n).filterMap It.key) [asc "days"] := by
  unfold daysI; by_cases h : n 9 = 0 <;> simp [h, It.key]
theorem map_keys {α : Type} (f : α → It) (hf : ∀ a, (f a).key = none) (l : List α) : (l.map f).filterMap It.key = [] := by
  rw [List.filterMap_map, List.filterMap_eq_nil_iff]
  intro a _
  exact hf a
theorem keys_sub (G : Gm) : List.Sublist ((itemsG G).filterMap It.key) keysK := by
  unfold itemsG optsI
  rw [headI_is]
  simp only [List.filterMap_append, List.filterMap_cons, List.filterMap_nil, choose_key, map_keys It.addon (fun _ => rfl), map_keys It.tier (fun _ => rfl), List.append_nil]
  have e : keysK = [asc "choose"] ++ [asc "bonus"] ++ ([asc "extra"] ++ [asc "price"] ++ [asc "draws"] ++ [asc "system"]) ++ [asc "days"] ++ ([asc "close"] ++ [asc "cancel"] ++ [asc "expiry"] ++ [asc "pool"] ++ [asc "reserve"] ++ [asc "round"] ++ [asc "cap"] ++ [asc "rolls"]) := rfl
  rw [e]
  have A := fun {a b c d : List (List Nat)} (h1 : List.Sublist a b) (h2 : List.Sublist c d) => List.Sublist.append h1 h2
  exact A (A (A (A (List.Sublist.refl _) (bonus_sub _)) (A (A (A (optK_sub _ _ _) (optK_sub _ _ _)) (optK_sub _ _ _)) (optK_sub _ _ _))) (days_sub _)) (A (A (A (A (A (A (A (optK_sub _ _ _) (optK_sub _ _ _)) (optK_sub _ _ _)) (optK_sub _ _ _)) (optK_sub _ _ _)) (optK_sub _ _ _)) (optK_sub _ _ _)) (optK_sub _ _ _))
theorem keys_nodup (G : Gm) : ((itemsG G).filterMap It.key).Nodup := (keys_sub G).nodup keysK_nodup
theorem items_wok (G : Gm) : (itemsG G).all It.wok = true := by
  unfold itemsG optsI daysI
  rw [headI_is]
  unfold bonusI
  simp only [List.all_append, Bool.and_eq_true]
  have hw : ∀ w ∈ simpleW, (simpleI w).isSome = true := by
    have : simpleW.all (fun w => (simpleI w).isSome) = true := by decide +kernel
    exact List.all_eq_true.1 this
  have hm : ∀ (w : List Nat) (n std : Int), w ∈ simpleW → (optI w n std).all It.wok = true := fun w n std h => optI_wok (hw w h) n std
  refine ⟨⟨⟨⟨⟨⟨?_, ?_⟩, ⟨⟨hm _ _ _ (by decide +kernel), hm _ _ _ (by decide +kernel)⟩, hm _ _ _ (by decide +kernel)⟩, hm _ _ _ (by decide +kernel)⟩, ?_⟩, ⟨⟨⟨⟨⟨⟨hm _ _ _ (by decide +kernel), hm _ _ _ (by decide +kernel)⟩, hm _ _ _ (by decide +kernel)⟩, hm _ _ _ (by decide +kernel)⟩, hm _ _ _ (by decide +kernel)⟩, hm _ _ _ (by decide +kernel)⟩, hm _ _ _ (by decide +kernel)⟩, hm _ _ _ (by decide +kernel)⟩, ?_⟩, ?_⟩
  · simp only [List.all_cons, List.all_nil, Bool.and_true, It.wok]
    by_cases h : G.n 0 = 1 <;> simp [h]
  · by_cases h : G.n 4 ≠ 0 ∨ G.n 5 ≠ 0
    · rw [if_pos h]; simp [It.wok]
    · rw [if_neg h]; rfl
  · by_cases h : G.n 9 = 0
    · rw [if_pos h]; rfl
    · rw [if_neg h]; simp [It.wok]
  · rw [List.all_map]; simp [It.wok]
  · rw [List.all_map]; simp [It.wok]
theorem items_days (G : Gm) (h0 : 0 ≤ G.n 9) : ∀ i ∈ itemsG G, ∀ d t, i = .days d t → d ≠ 0 := by
  intro i hi d t e
  subst e
  unfold itemsG optsI at hi
  rw [headI_is] at hi
  have ho : ∀ (w : List Nat) (n std : Int), It.days d t ∉ optI w n std := fun w n std h => by
    unfold optI at h; by_cases e : n = std <;> simp [e] at h
  have hb : It.days d t ∉ bonusI G.n := fun h => by
    unfold bonusI at h; by_cases e : G.n 4 ≠ 0 ∨ G.n 5 ≠ 0
    · rw [if_pos e] at h; simp at h
    · rw [if_neg e] at h; simp at h
  simp only [List.mem_append, ho, hb, or_false, false_or, List.mem_singleton, List.mem_map] at hi
  rcases hi with ((hi | hi) | ⟨_, _, hi⟩) | ⟨_, _, hi⟩
  · cases hi
  · unfold daysI at hi
    by_cases e : G.n 9 = 0
    · rw [if_pos e] at hi; cases hi
    · rw [if_neg e, List.mem_singleton] at hi
      injection hi with h1 h2
      omega
  · cases hi
  · cases hi
theorem sys_opt (w : List Nat) (n std : Int) (hw : asc "system" ≠ w) : asc "system" ∉ (optI w n std).filterMap It.key := by
  rw [optI_keys]
  by_cases h : n = std
  · rw [if_pos h]; simp
  · rw [if_neg h, List.mem_singleton]; exact hw
theorem sys_mem (G : Gm) : asc "system" ∈ (itemsG G).filterMap It.key ↔ G.n 8 ≠ G.n 2 := by
  unfold itemsG optsI
  rw [headI_is]
  simp only [List.filterMap_append, List.filterMap_cons, List.filterMap_nil, choose_key, map_keys It.addon (fun _ => rfl), map_keys It.tier (fun _ => rfl), List.append_nil, List.mem_append]
  have hb : asc "system" ∉ (bonusI G.n).filterMap It.key := fun h => absurd ((bonus_sub G.n).subset h) (by decide +kernel)
  have hd : asc "system" ∉ (daysI G.n).filterMap It.key := fun h => absurd ((days_sub G.n).subset h) (by decide +kernel)
  have hc : asc "system" ∉ [asc "choose"] := by decide +kernel
  have hs : asc "system" ∈ (optI (asc "system") (G.n 8) (G.n 2)).filterMap It.key ↔ G.n 8 ≠ G.n 2 := by
    rw [optI_keys]
    by_cases h : G.n 8 = G.n 2
    · rw [if_pos h]; simp [h]
    · rw [if_neg h]; simp [h]
  simp only [sys_opt _ _ _ (show asc "system" ≠ asc "extra" by decide +kernel), sys_opt _ _ _ (show asc "system" ≠ asc "price" by decide +kernel), sys_opt _ _ _ (show asc "system" ≠ asc "draws" by decide +kernel), sys_opt _ _ _ (show asc "system" ≠ asc "close" by decide +kernel),
    sys_opt _ _ _ (show asc "system" ≠ asc "cancel" by decide +kernel), sys_opt _ _ _ (show asc "system" ≠ asc "expiry" by decide +kernel), sys_opt _ _ _ (show asc "system" ≠ asc "pool" by decide +kernel), sys_opt _ _ _ (show asc "system" ≠ asc "reserve" by decide +kernel),
    sys_opt _ _ _ (show asc "system" ≠ asc "round" by decide +kernel), sys_opt _ _ _ (show asc "system" ≠ asc "cap" by decide +kernel), sys_opt _ _ _ (show asc "system" ≠ asc "rolls" by decide +kernel), hb, hd, hc, hs, false_or, or_false]
theorem bonus_eff (n : Nat → Int) (g : Gm) (h4 : g.n 4 = 0) (h5 : g.n 5 = 0) : (bonusI n).foldl It.eff g = { g with n := putN (putN g.n 4 (n 4)) 5 (n 5) } := by
  unfold bonusI
  by_cases h : n 4 ≠ 0 ∨ n 5 ≠ 0
  · rw [if_pos h, List.foldl_cons, List.foldl_nil]
    simp only [It.eff, ↓reduceIte]
  · rw [if_neg h, List.foldl_nil]
    have e4 : n 4 = 0 := Classical.byContradiction fun e => h (.inl e)
    have e5 : n 5 = 0 := Classical.byContradiction fun e => h (.inr e)
    have : putN (putN g.n 4 (n 4)) 5 (n 5) = g.n := by
      funext j
      unfold putN
      by_cases h5' : j = 5
      · rw [if_pos h5', h5', h5, e5]
      · rw [if_neg h5']
        by_cases h4' : j = 4
        · rw [if_pos h4', h4', h4, e4]
        · rw [if_neg h4']
    rw [this]
theorem days_eff (n : Nat → Int) (g : Gm) (h9 : g.n 9 = 0) (h10 : g.n 10 = 0) (hc : daysC n = true) : (daysI n).foldl It.eff g = { g with n := putN (putN g.n 9 (n 9)) 10 (n 10) } := by
  unfold daysC at hc
  simp only [Bool.and_eq_true, decide_eq_true_eq] at hc
  unfold daysI
  by_cases h : n 9 = 0
  · rw [if_pos h, List.foldl_nil]
    have e10 : n 10 = 0 := by simpa [h] using hc.2
    have : putN (putN g.n 9 (n 9)) 10 (n 10) = g.n := by
      funext j
      unfold putN
      by_cases h5' : j = 10
      · rw [if_pos h5', h5', h10, e10]
      · rw [if_neg h5']
        by_cases h4' : j = 9
        · rw [if_pos h4', h4', h9, h]
        · rw [if_neg h4']
    rw [this]
  · rw [if_neg h, List.foldl_cons, List.foldl_nil]
    simp only [It.eff]
    rw [show ((n 9).toNat : Int) = n 9 by omega]
theorem addons_eff : ∀ (l : List Ad) (g : Gm), (l.map It.addon).foldl It.eff g = { g with addons := g.addons ++ l }
  | [], g => by simp
  | a :: l, g => by
    rw [List.map_cons, List.foldl_cons, addons_eff l]
    simp only [It.eff, List.append_assoc, List.singleton_append]
theorem tiers_eff : ∀ (l : List Ti) (g : Gm), (l.map It.tier).foldl It.eff g = { g with tiers := g.tiers ++ l }
  | [], g => by simp
  | a :: l, g => by
    rw [List.map_cons, List.foldl_cons, tiers_eff l]
    simp only [It.eff, List.append_assoc, List.singleton_append]
set_option maxHeartbeats 2000000 in
/-- A printed game is read back. -/
theorem game_back {G : Gm} (hf : fineG G = true) {s : ByteArray} (hs : bs s = textG G) (hsz : s.size ≤ 32768) : (gmC (parseG s).1, (parseG s).2) = (gmC G, 0, 0) := by
  have hfine := hf
  unfold fineG at hf
  simp only [Bool.and_eq_true, Bool.or_eq_true, decide_eq_true_eq] at hf
  obtain ⟨⟨⟨hn, hk⟩, hd⟩, hi⟩ := hf
  have h09 : 0 ≤ G.n 9 := by
    unfold daysC at hd
    simp only [Bool.and_eq_true, decide_eq_true_eq] at hd
    omega
  rw [game_read (nm := G.name) (V := itemsG G) hs hsz hn hi (items_wok G) (items_days G h09) (keys_nodup G)]
  have hkk : (if (if G.n 0 = 1 then asc "choose" else asc "digits") = asc "digits" then (2 : Int) else 1) = G.n 0 := by
    rcases hk with h | h
    · rw [if_pos h, if_neg (by decide +kernel), h]
    · have h1 : ¬ G.n 0 = 1 := by omega
      rw [if_neg h1, if_pos rfl, h]
  have hF : ∃ N : Nat → Int, (itemsG G).foldl It.eff (gm0 G.name) = ⟨G.name, N, G.addons, G.tiers⟩ ∧ (∀ i, i < 19 → i ≠ 8 → N i = G.n i) ∧ (G.n 8 ≠ G.n 2 → N 8 = G.n 8) := by
    unfold itemsG optsI
    rw [headI_is]
    simp only [List.foldl_append, List.foldl_cons, List.foldl_nil]
    have e1 : It.eff (gm0 G.name) (.two (if G.n 0 = 1 then asc "choose" else asc "digits") (G.n 2) (G.n 3)) = ⟨G.name, putN (putN (putN (gm0 G.name).n 0 (G.n 0)) 2 (G.n 2)) 3 (G.n 3), [], []⟩ := by
      have hb : (if G.n 0 = 1 then asc "choose" else asc "digits") ≠ asc "bonus" := by
        by_cases h : G.n 0 = 1
        · rw [if_pos h]; decide +kernel
        · rw [if_neg h]; decide +kernel
      refine (if_neg hb).trans ?_
      rw [hkk]
      rfl
    rw [e1, bonus_eff _ _ (by simp [putN, gm0]) (by simp [putN, gm0])]
    rw [optI_eff (w := asc "extra") (i := 6) (by decide +kernel) _ _ _ (by simp [putN, gm0]), optI_eff (w := asc "price") (i := 1) (by decide +kernel) _ _ _ (by simp [putN, gm0]), optI_eff (w := asc "draws") (i := 7) (by decide +kernel) _ _ _ (by simp [putN, gm0])]
    have e8 : ∀ g : Gm, ∃ v, (optI (asc "system") (G.n 8) (G.n 2)).foldl It.eff g = { g with n := putN g.n 8 v } ∧ (G.n 8 ≠ G.n 2 → v = G.n 8) := fun g => by
      unfold optI
      by_cases h : G.n 8 = G.n 2
      · refine ⟨g.n 8, ?_, fun e => absurd h e⟩
        rw [if_pos h, List.foldl_nil]
        have : putN g.n 8 (g.n 8) = g.n := by
          funext j
          unfold putN
          by_cases hj : j = 8
          · rw [if_pos hj, hj]
          · rw [if_neg hj]
        rw [this]
      · refine ⟨G.n 8, ?_, fun _ => rfl⟩
        rw [if_neg h, List.foldl_cons, List.foldl_nil]
        have : simpleI (asc "system") = some 8 := by decide +kernel
        simp only [It.eff, this]
    obtain ⟨v, ev, hv⟩ := e8 { name := G.name, n := putN (putN (putN (putN (putN (putN (putN (putN (gm0 G.name).n 0 (G.n 0)) 2 (G.n 2)) 3 (G.n 3)) 4 (G.n 4)) 5 (G.n 5)) 6 (G.n 6)) 1 (G.n 1)) 7 (G.n 7), addons := [], tiers := [] }
    rw [ev, days_eff _ _ (by simp [putN, gm0]) (by simp [putN, gm0]) hd]
    rw [optI_eff (w := asc "close") (i := 11) (by decide +kernel) _ _ _ (by simp [putN, gm0]), optI_eff (w := asc "cancel") (i := 12) (by decide +kernel) _ _ _ (by simp [putN, gm0]), optI_eff (w := asc "expiry") (i := 13) (by decide +kernel) _ _ _ (by simp [putN, gm0]), optI_eff (w := asc "pool") (i := 14) (by decide +kernel) _ _ _ (by simp [putN, gm0]),
      optI_eff (w := asc "reserve") (i := 15) (by decide +kernel) _ _ _ (by simp [putN, gm0]), optI_eff (w := asc "round") (i := 16) (by decide +kernel) _ _ _ (by simp [putN, gm0]), optI_eff (w := asc "cap") (i := 17) (by decide +kernel) _ _ _ (by simp [putN, gm0]), optI_eff (w := asc "rolls") (i := 18) (by decide +kernel) _ _ _ (by simp [putN, gm0])]
    rw [addons_eff, tiers_eff]
    simp only [List.nil_append]
    refine ⟨_, rfl, fun i hi h8 => ?_, fun h => ?_⟩
    · have : i = 0 ∨ i = 1 ∨ i = 2 ∨ i = 3 ∨ i = 4 ∨ i = 5 ∨ i = 6 ∨ i = 7 ∨ i = 9 ∨ i = 10 ∨ i = 11 ∨ i = 12 ∨ i = 13 ∨ i = 14 ∨ i = 15 ∨ i = 16 ∨ i = 17 ∨ i = 18 := by omega
      rcases this with rfl | rfl | rfl | rfl | rfl | rfl | rfl | rfl | rfl | rfl | rfl | rfl | rfl | rfl | rfl | rfl | rfl | rfl <;> simp [putN]
    · rw [← hv h]; simp [putN]
  obtain ⟨N, eF, hN, h8⟩ := hF
  rw [eF]
  have hs2 := sys_mem G
  have hcut : ∀ N' : Nat → Int, (∀ i, i < 19 → N' i = G.n i) → gmC ⟨G.name, N', G.addons, G.tiers⟩ = gmC G := fun N' h => by
    unfold gmC
    simp only [Prod.mk.injEq, true_and, and_true]
    exact List.map_congr_left fun i hi => h i (List.mem_range.1 hi)
  by_cases h : G.n 8 = G.n 2
  · rw [if_neg (fun e => hs2.1 e h)]
    simp only [Prod.mk.injEq, and_true]
    refine hcut _ fun i hi => ?_
    unfold putN
    by_cases hi8 : i = 8
    · rw [if_pos hi8, hi8, h]; exact hN 2 (by decide) (by decide)
    · rw [if_neg hi8]; exact hN i hi hi8
  · rw [if_pos (hs2.2 h)]
    simp only [Prod.mk.injEq, and_true]
    refine hcut _ fun i hi => ?_
    by_cases hi8 : i = 8
    · rw [hi8]; exact h8 h
    · exact hN i hi hi8
end Go.Proofs.YtbdkggnajipdhaaGreatDoor
/- Plain: chapter 11, a printed text's bytes and length. No program in sight. -/
namespace Go.Proofs.YtbdkggnajipdhaaGreatDoor
theorem good_lt {k : Nat} {t : List Nat} (h : good k t) : ∀ c ∈ t, c < 256 := by
  intro c hc
  rcases h with ⟨_, _, h⟩ | ⟨_, _, h⟩ | ⟨_, d, rfl, h⟩
  · have := h c hc
    unfold wordB letterB digitB at this
    simp only [Bool.or_eq_true, Bool.and_eq_true, decide_eq_true_eq, beq_iff_eq] at this
    omega
  · have := h c hc
    unfold digitB at this
    simp only [Bool.and_eq_true, decide_eq_true_eq] at this
    omega
  · rw [List.mem_singleton] at hc
    subst hc
    unfold markB at h
    simp only [Bool.or_eq_true, beq_iff_eq] at h
    omega
theorem lineG_lt {i : It} (hf : i.fine = true) (hw : i.wok = true) : ∀ c ∈ lineG i, c < 256 := by
  obtain ⟨h1, h2⟩ := item_words hf hw
  intro c hc
  unfold lineG at hc
  rw [← h1] at hc
  rcases List.mem_cons.1 hc with rfl | hc
  · decide
  · rcases List.mem_append.1 hc with hc | hc
    · obtain ⟨w, hwm, hc⟩ := List.mem_flatMap.1 hc
      obtain ⟨x, hx, rfl⟩ := List.mem_map.1 hwm
      rcases List.mem_cons.1 hc with rfl | hc
      · decide
      · exact good_lt (h2 x hx) c hc
    · have : ∀ c ∈ asc ";\n", c < 256 := by decide +kernel
      exact this c hc
theorem textG_lt {G : Gm} (h : fineG G = true) : ∀ c ∈ textG G, c < 256 := by
  unfold fineG at h
  simp only [Bool.and_eq_true] at h
  have hi := h.2
  have hw := items_wok G
  rw [List.all_eq_true] at hi hw
  intro c hc
  unfold textG at hc
  simp only [List.mem_append, List.mem_cons] at hc
  have a1 : ∀ c ∈ asc "game", c < 256 := by decide +kernel
  have a2 : ∀ c ∈ asc " {\n", c < 256 := by decide +kernel
  have a3 : ∀ c ∈ asc "}\n", c < 256 := by decide +kernel
  rcases hc with (((hc | hc | hc) | hc) | hc) | hc
  · exact a1 c hc
  · omega
  · exact bs_lt _ c hc
  · exact a2 c hc
  · obtain ⟨i, him, hc⟩ := List.mem_flatMap.1 hc
    exact lineG_lt (hi i him) (hw i him) c hc
  · exact a3 c hc
theorem printG_lt (G : Gm) : ∀ c ∈ printG G, c < 256 := by
  rw [printG_is]
  by_cases h : fineG G = true ∧ (textG G).length ≤ 32768
  · rw [if_pos h]; exact textG_lt h.1
  · rw [if_neg h]; intro c hc; cases hc
theorem print_size (G : Gm) : (toBA (printG G)).size ≤ 32768 := by
  rw [← bs_len, bs_toBA (printG_lt G), printG_is]
  by_cases h : fineG G = true ∧ (textG G).length ≤ 32768
  · rw [if_pos h]; exact h.2
  · rw [if_neg h]; exact Nat.zero_le _
theorem print_back {G : Gm} (hne : printG G ≠ []) : (gmC (parseG (toBA (printG G))).1, (parseG (toBA (printG G))).2) = (gmC G, 0, 0) := by
  have hs := print_size G
  have hb := bs_toBA (printG_lt G)
  have hp := printG_is G
  by_cases h : fineG G = true ∧ (textG G).length ≤ 32768
  · rw [if_pos h] at hp
    exact game_back h.1 (by rw [hb, hp]) hs
  · rw [if_neg h] at hp
    exact absurd hp hne
end Go.Proofs.YtbdkggnajipdhaaGreatDoor
/- strings.Builder in short: what is written so far, as numbers. -/
namespace Go.Proofs.YtbdkggnajipdhaaGreatDoor
open Go.RowKit
set_option maxRecDepth 100000
def BldIn (b : Nat) (w : World) (X : List Nat) : Prop := Lib.IsBuilder 67 5 b b (byV X) w ∧ (∀ n ∈ X, n < 256)
theorem BldIn.fresh (w : World) : BldIn w.heap.size (w.alloc (.cells #[.pointer none, .slice none 0 0] 67)) [] := ⟨Lib.fresh_isBuilder _ _ _, fun n h => by cases h⟩
theorem BldIn.below {b : Nat} {w w' : World} {X : List Nat} (h : BldIn b w X) (hb : Below w.heap.size w w') : BldIn b w' X := ⟨isB_below h.1 hb, h.2⟩
theorem BldIn.drew {b : Nat} {w : World} {X : List Nat} (h : BldIn b w X) : BldIn b w.drew X := h
theorem BldIn.lt {b : Nat} {w : World} {X : List Nat} (h : BldIn b w X) : b < w.heap.size := by
  rcases h.1 with ⟨_, v, hb, _⟩ | ⟨_, v, hb, _⟩ <;> exact (Array.getElem?_eq_some_iff.1 hb).1
theorem BldIn.write {b : Nat} {w : World} {X : List Nat} (h : BldIn b w X) (s : ByteArray) (hl : X.length + s.size ≤ 1000000000) :
    Calls Tryz.prog 30 #[.pointer (some ⟨b, 0, none⟩), .string s] w fun e w' => e = .returned (.tuple #[.int .i64 s.size, .nilIface]) ∧ BldIn b w' (X ++ bs s) ∧ Below b w w' ∧ Keeps b w w' := by
  refine (writeString_any b b (byV X) s w h.1 (by rw [byV_len]; exact hl) (Nat.le_of_lt h.lt)).mono ?_
  rintro e w' ⟨h1, h2, h3, h4⟩
  refine ⟨h1, ⟨by rw [byV_app, ← strCells_bs]; exact h2, fun n hn => ?_⟩, h3, h4⟩
  rcases List.mem_append.1 hn with hn | hn
  · exact h.2 n hn
  · exact bs_lt s n hn
theorem BldIn.str {b : Nat} {w : World} {X : List Nat} (h : BldIn b w X) :
    Calls Tryz.prog 39 #[.pointer (some ⟨b, 0, none⟩)] w fun e w' => e = .returned (.string (toBA X)) ∧ Below b w w' := by
  have e1 : byV X = Lib.byteCells (toBA X).data.toList := by
    have h1 : Lib.strCells (toBA X) = byV X := by rw [strCells_bs, bs_toBA h.2]
    rw [← h1]
    rfl
  have h1 := h.1
  rw [e1] at h1
  refine (Tryz.Builder_String_any b b _ w h1 (Nat.le_of_lt h.lt)).mono ?_
  rintro e w' ⟨he, hb⟩
  exact ⟨he, hb⟩
end Go.Proofs.YtbdkggnajipdhaaGreatDoor
/- The engine's rules for strings.Join: cap, copy of nothing, slices of slices. No function of the program in sight. -/
namespace Go.Proofs.YtbdkggnajipdhaaGreatDoor
open Go.RowKit
set_option maxRecDepth 100000
section
variable {P : Program} {T e : TypeId} {w : World} {ty sz : Nat}
def vCap (P : Program) (T : TypeId) (ty : TypeId) (u : Value) (w : World) : Result Next := (do pure (.value (← Builtin.cap_ #[T] ty #[u])) : Sem Next).run P w
theorem r_cap (T : TypeId) (x : Operand) (σ : Sl) : run1 P (.call ⟨.builtin .cap, #[x], #[T]⟩) ty σ w = vCap P T ty (ev σ x) w := by simp [run1, execOp, resolve, invoke, builtin, vCap]
theorem vCap_slc (hd : P.underlying T = some (.slice e)) {a : Option Addr} {n c : Nat} : vCap P T ty (.slice a n c) w = .ok (.value (.int .i64 c)) w := by
  simp [vCap, Builtin.cap_, Sem.run_bind, run_underlying hd w, goInt]
def vCopy (P : Program) (T T2 ty : TypeId) (d s : Value) (w : World) : Result Next := (do pure (.value (← Builtin.copy_ #[T, T2] ty #[d, s])) : Sem Next).run P w
theorem r_copy (T2 : TypeId) (x y : Operand) (σ : Sl) : run1 P (.call ⟨.builtin .copy, #[x, y], #[T, T2]⟩) ty σ w = vCopy P T T2 ty (ev σ x) (ev σ y) w := by simp [run1, execOp, resolve, invoke, builtin, vCopy]
theorem vCopy_none {T2 : TypeId} {d a : Option Addr} {dLen dCap sLen sCap : Nat} (hd : P.underlying T = some (.slice e)) (hs : (P.info? e).map (·.size) = some 1) (hn : Nat.min sLen dLen = 0) :
    vCopy P T T2 ty (.slice d dLen dCap) (.slice a sLen sCap) w = .ok (.value (.int .i64 0)) w := by
  have := run_copy_none w T T2 ty e d a dLen dCap sLen sCap hd hs hn
  simp [vCopy, Sem.run_bind, this, goInt]
theorem bound_in {k : IntKind} {i : Int} {y : Nat} {code : BoundsCode} (h : 0 ≤ i) (h' : i ≤ y) : (Instr.sliceBound (.int k i) y code).run P w = .ok i.toNat w := by
  simp [Instr.sliceBound, asIntOf, h, h']
theorem vSlice_to {a : Option Addr} {n c : Nat} {k : IntKind} {h : Int} (hd : P.underlying T = some (.slice e)) (hs : (P.info? e).map (·.size) = some sz) (h0 : 0 ≤ h) (h1 : h ≤ c) :
    vSlice P T (.slice a n c) none (some (.int k h)) none w = .ok (.value (.slice (if c = 0 then a else a.map (·.add (0 * sz))) h.toNat c)) w := by
  obtain ⟨i, hq, hz⟩ := Option.map_eq_some_iff.1 hs
  simp [vSlice, Instr.sliceAt, Instr.slice, run_underlying hd, Instr.sliceBounds, bound_in h0 h1, sizeOf, typeInfo, hq, hz]
theorem vSlice_from {a : Option Addr} {n c : Nat} {k : IntKind} {l : Int} (hd : P.underlying T = some (.slice e)) (hs : (P.info? e).map (·.size) = some sz) (h0 : 0 ≤ l) (h1 : l ≤ n) :
    vSlice P T (.slice a n c) (some (.int k l)) none none w = .ok (.value (.slice (if c = l.toNat then a else a.map (·.add (l.toNat * sz))) (n - l.toNat) (c - l.toNat))) w := by
  obtain ⟨i, hq, hz⟩ := Option.map_eq_some_iff.1 hs
  simp [vSlice, Instr.sliceAt, Instr.slice, run_underlying hd, Instr.sliceBounds, bound_in h0 h1, sizeOf, typeInfo, hq, hz]
end
end Go.Proofs.YtbdkggnajipdhaaGreatDoor
