/- Texts laid one behind the other: RwB, RwC, RwD, RfA, RpA, RpB, RpC, RpD, RpE, RpF, RpG, Ord6, RwF, Row, Laid, ShelfB, LaidS. Each says at its head what it proves. -/
import Derived.Test.YtbdkggnajipdhaaGreatDoorRtOrZ13
import Derived.ProofKit
import Derived.Lib.SmallJoins
import Derived.Deep.Slices
import Derived.Deep.Fields
import Derived.ChangeMaps5
import Derived.LaidMore
import Derived.OpenShut
import Derived.Stop.Joined
import Derived.Lib.LaidTab
import Derived.MakeChecks
import Derived.Shelf.Strings.Builder1
import Derived.Shelf.Strings.Builder2
import Derived.Shelf.Strings.OnBuilder
import Derived.Shelf.Strings.BuilderF
import Derived.Shelf.Strings.BuilderK
import Derived.Shelf.Utf8.RuneCount
import Derived.Shelf.Strings.Builder2Cap
import Derived.Shelf.Strconv.Itoa0
import Derived.Shelf.Strconv.Itoa1
import Derived.Shelf.LaysM
import Derived.Shelf.Strconv.Itoa2
import Derived.Shelf.Strconv.Itoa3
import Derived.Shelf.Strings.Search1
import Derived.Shelf.Strings.Search2
import Derived.Shelf.Strings.Search3
import Derived.Shelf.Strings.Count
import Derived.Shelf.Strings.Shaped
import Derived.Shelf.Strings.LastIndex
import Derived.Shelf.Strings.Prefix
import Derived.Shelf.Strings.Split
import Derived.Shelf.Strings.Fields
import Derived.Shelf.Strings.SplitShaped
import Derived.Shelf.Unicode.Latin
import Derived.Shelf.Unicode.Decode
import Derived.Shelf.Strings.RuneCount
import Derived.Shelf.Strings.Explode
import Derived.Shelf.Unicode.DecodeSlow
import Derived.Shelf.Unicode.DecodeAny
import Derived.Shelf.Unicode.Is16White
import Derived.Shelf.Unicode.IsSpaceAny
import Derived.Shelf.Unicode.Is16WhiteD
import Derived.Shelf.Unicode.Is16Any
import Derived.Shelf.Unicode.Is32Any
import Derived.Shelf.Unicode.ExclAny
import Derived.Shelf.Strings.BuilderCap
import Derived.Ground.PaProg
import Derived.Shelf.Path.Small
import Derived.Test.YtbdkggnajipdhaaGreatDoorProg
import Derived.Shelf.Vars
import Derived.HandedShaped
import Derived.Lay
set_option linter.unusedSimpArgs false
/- Walk: the law's Same on equal games. -/
namespace Go.Proofs.YtbdkggnajipdhaaGreatDoor
open Nat (reduceAdd reduceMul reduceSub reduceEqDiff reduceLT reduceLeDiff)
open Go.RowKit
set_option maxRecDepth 100000
section
variable {P : Program} {T : TypeId} {w : World} {g : Nat}
theorem setCells_stW : ∀ (vs : List Value) (i : Nat) (w : World), w.setCells g i vs = stW g i vs w
  | [], _, _ => rfl
  | v :: r, i, w => setCells_stW r (i + 1) _
theorem okC_row : ∀ (vs : List Value) (i : Nat) (cs : List Value), Row w g T cs → i + vs.length ≤ cs.length → (∀ v ∈ vs, oneC v = true) → okC w g vs.length i vs = true
  | [], _, _, _, _, _ => rfl
  | v :: r, i, cs, h, hl, h1 => by
    rw [List.length_cons] at hl
    have ih := okC_row r (i + 1) cs h (by omega) fun v hv => h1 v (by simp [hv])
    have hc := h.cell (i := i) (v := cs[i]'(by omega)) (List.getElem?_eq_getElem (by omega))
    have hf := h.frozen i
    simp only [List.length_cons, okC, h1 v (by simp), hc, hf, ih, Option.isSome_some, Bool.not_false, Bool.and_self]
theorem vStore_row {c : Value} {cs cs0 : List Value} (hR : Row w g T cs0) (hl : (c :: cs).length = cs0.length) (hz : szOf P T = (c :: cs).length) (h1 : ∀ v ∈ c :: cs, oneC v = true) :
    vStore P T (.pointer (some ⟨g, 0, none⟩)) (.agg (c :: cs).toArray) w = .ok .skip (w.setCells g 0 (c :: cs)) := by
  rw [vStore_aggN, hz, okC_row (c :: cs) 0 cs0 hR (by omega) h1]
  rfl
theorem setCells_row {cs0 : List Value} (vs : List Value) (hR : Row w g T cs0) (hl : vs.length = cs0.length) : Row (w.setCells g 0 vs) g T vs := by
  have := stW_row vs 0 w cs0 hR (by omega)
  rw [← setCells_stW] at this
  exact this
theorem setCells_below {B : Nat} {a : World} (hB : B ≤ g) : ∀ (vs : List Value) (i : Nat) (w : World), Below B a w → Below B a (w.setCells g i vs)
  | [], _, _, h => h
  | v :: r, i, w, h => setCells_below hB r (i + 1) _ (h.setCell (p := ⟨g, i, none⟩) hB v)
theorem setCells_other {g' : Nat} {T' : TypeId} {cs' : List Value} (hg : g' ≠ g) : ∀ (vs : List Value) (i : Nat) (w : World), Row w g' T' cs' → Row (w.setCells g i vs) g' T' cs'
  | [], _, _, h => h
  | v :: r, i, w, h => setCells_other hg r (i + 1) _ (by
      obtain ⟨cur, hc, x⟩ := h
      exact ⟨cur, by simp [World.setCell, Array.getElem?_modify, Ne.symm hg, hc], x⟩)
end
def zAd : List Value := encAd ⟨ByteArray.empty, 0, 0, [], 0, []⟩ (.slice none 0 0) (.slice none 0 0)
/-- Two new add-ons, made in either order. -/
structure AB (w0 : World) (x y : Option Nat) (w' : World) : Prop where
  low : Below w0.heap.size w0 w'
  ra : ∀ g, x = some g → w0.heap.size ≤ g ∧ Row w' g 45 zAd
  rb : ∀ g, y = some g → w0.heap.size ≤ g ∧ Row w' g 45 zAd
  ne : ∀ g h, x = some g → y = some h → g ≠ h
theorem AB.putA {w0 w' : World} {y : Option Nat} (h : AB w0 none y w') : AB w0 (some w'.heap.size) y (w'.alloc (.cells zAd.toArray 45)) :=
  ⟨h.low.alloc h.low.size _, fun g e => by injection e with e; subst e; exact ⟨h.low.size, Row.new w' _ zAd⟩, fun g e => ⟨(h.rb g e).1, (h.rb g e).2.alloc _⟩,
    fun g k e1 e2 => by injection e1 with e1; have := (h.rb k e2).2.lt; omega⟩
theorem AB.putB {w0 w' : World} {x : Option Nat} (h : AB w0 x none w') : AB w0 x (some w'.heap.size) (w'.alloc (.cells zAd.toArray 45)) :=
  ⟨h.low.alloc h.low.size _, fun g e => ⟨(h.ra g e).1, (h.ra g e).2.alloc _⟩, fun g e => by injection e with e; subst e; exact ⟨h.low.size, Row.new w' _ zAd⟩,
    fun g k e1 e2 => by injection e2 with e2; have := (h.ra g e1).2.lt; omega⟩
set_option maxHeartbeats 8000000 in
theorem same_any (G : Gm) (Va Vt Va' Vt' : Value) (w : World) (hA : GmIn w Va Vt G) (hB : GmIn w Va' Vt' G) (hL : G.little) :
    Calls Tryz.prog 11 #[.agg (gmV G Va Vt).toArray, .agg (gmV G Va' Vt').toArray] w fun e w' => e = .returned (.bool true) ∧ Below w.heap.size w w' := by
  refine calls_W (l := [_, _]) Tryz.func11 rfl _ Tryz.ntmps11 (by simp) ?_
  obtain ⟨hnl, hal, htl, hadl⟩ := hL
  obtain ⟨⟨Aa, ca, Vs, rfl, hAa, hads⟩, At, ct, rfl, hAt⟩ := hA
  obtain ⟨⟨Ba, da, Us, rfl, hBa, hbds⟩, Bt, dt, rfl, hBt⟩ := hB
  have r0 := Row.new w 26 (gmV G (.slice Aa G.addons.length ca) (.slice At G.tiers.length ct))
  have b0 := below_alloc w (.cells (gmV G (.slice Aa G.addons.length ca) (.slice At G.tiers.length ct)).toArray 26)
  have z0 := World.size_alloc w (.cells (gmV G (.slice Aa G.addons.length ca) (.slice At G.tiers.length ct)).toArray 26)
  refine W_piece fun K hK hX => ?_
  simp +contextual (maxSteps := 2000000) (disch := first | omega | (simp only [SZ]; first | done | omega) | (simp only [TS] at *; omega)) only [RZ, ovw, oneC, reduceAdd, reduceMul, reduceSub, reduceEqDiff, reduceLT, ↓reduceIte, Int.reduceToNat, reduceLeDiff]
  refine hK _ _ ?_
  clear hK hX K
  generalize w.alloc (.cells (gmV G (.slice Aa G.addons.length ca) (.slice At G.tiers.length ct)).toArray 26) = w0 at r0 b0 z0 ⊢
  have r1 := Row.new w0 26 (gmV G (.slice Ba G.addons.length da) (.slice Bt G.tiers.length dt))
  have b1 := b0.trans ((below_alloc w0 (.cells (gmV G (.slice Ba G.addons.length da) (.slice Bt G.tiers.length dt)).toArray 26)).mono (by omega))
  have z1 := World.size_alloc w0 (.cells (gmV G (.slice Ba G.addons.length da) (.slice Bt G.tiers.length dt)).toArray 26)
  replace r0 := r0.alloc (.cells (gmV G (.slice Ba G.addons.length da) (.slice Bt G.tiers.length dt)).toArray 26)
  generalize w0.alloc (.cells (gmV G (.slice Ba G.addons.length da) (.slice Bt G.tiers.length dt)).toArray 26) = w1 at r0 r1 b1 z1 ⊢
  rw [z0] at r1 z1
  clear b0
  have c0 : w1.cell? ⟨w.heap.size, 0, none⟩ = some (.string G.name) := r0.cell (i := 0) rfl
  have d0 : w1.cell? ⟨w.heap.size + 1, 0, none⟩ = some (.string G.name) := r1.cell (i := 0) rfl
  have c1 : w1.cell? ⟨w.heap.size, 1, none⟩ = some (.int .i64 (G.n 0)) := r0.cell (i := 1) rfl
  have d1 : w1.cell? ⟨w.heap.size + 1, 1, none⟩ = some (.int .i64 (G.n 0)) := r1.cell (i := 1) rfl
  have c2 : w1.cell? ⟨w.heap.size, 2, none⟩ = some (.int .i64 (G.n 1)) := r0.cell (i := 2) rfl
  have d2 : w1.cell? ⟨w.heap.size + 1, 2, none⟩ = some (.int .i64 (G.n 1)) := r1.cell (i := 2) rfl
  have c3 : w1.cell? ⟨w.heap.size, 3, none⟩ = some (.int .i64 (G.n 2)) := r0.cell (i := 3) rfl
  have d3 : w1.cell? ⟨w.heap.size + 1, 3, none⟩ = some (.int .i64 (G.n 2)) := r1.cell (i := 3) rfl
  have c4 : w1.cell? ⟨w.heap.size, 4, none⟩ = some (.int .i64 (G.n 3)) := r0.cell (i := 4) rfl
  have d4 : w1.cell? ⟨w.heap.size + 1, 4, none⟩ = some (.int .i64 (G.n 3)) := r1.cell (i := 4) rfl
  have c5 : w1.cell? ⟨w.heap.size, 5, none⟩ = some (.int .i64 (G.n 4)) := r0.cell (i := 5) rfl
  have d5 : w1.cell? ⟨w.heap.size + 1, 5, none⟩ = some (.int .i64 (G.n 4)) := r1.cell (i := 5) rfl
  have c6 : w1.cell? ⟨w.heap.size, 6, none⟩ = some (.int .i64 (G.n 5)) := r0.cell (i := 6) rfl
  have d6 : w1.cell? ⟨w.heap.size + 1, 6, none⟩ = some (.int .i64 (G.n 5)) := r1.cell (i := 6) rfl
  have c7 : w1.cell? ⟨w.heap.size, 7, none⟩ = some (.int .i64 (G.n 6)) := r0.cell (i := 7) rfl
  have d7 : w1.cell? ⟨w.heap.size + 1, 7, none⟩ = some (.int .i64 (G.n 6)) := r1.cell (i := 7) rfl
  have c8 : w1.cell? ⟨w.heap.size, 8, none⟩ = some (.int .i64 (G.n 7)) := r0.cell (i := 8) rfl
  have d8 : w1.cell? ⟨w.heap.size + 1, 8, none⟩ = some (.int .i64 (G.n 7)) := r1.cell (i := 8) rfl
  have c9 : w1.cell? ⟨w.heap.size, 9, none⟩ = some (.int .i64 (G.n 8)) := r0.cell (i := 9) rfl
  have d9 : w1.cell? ⟨w.heap.size + 1, 9, none⟩ = some (.int .i64 (G.n 8)) := r1.cell (i := 9) rfl
  have c10 : w1.cell? ⟨w.heap.size, 10, none⟩ = some (.int .i64 (G.n 9)) := r0.cell (i := 10) rfl
  have d10 : w1.cell? ⟨w.heap.size + 1, 10, none⟩ = some (.int .i64 (G.n 9)) := r1.cell (i := 10) rfl
  have c11 : w1.cell? ⟨w.heap.size, 11, none⟩ = some (.int .i64 (G.n 10)) := r0.cell (i := 11) rfl
  have d11 : w1.cell? ⟨w.heap.size + 1, 11, none⟩ = some (.int .i64 (G.n 10)) := r1.cell (i := 11) rfl
  have c12 : w1.cell? ⟨w.heap.size, 12, none⟩ = some (.int .i64 (G.n 11)) := r0.cell (i := 12) rfl
  have d12 : w1.cell? ⟨w.heap.size + 1, 12, none⟩ = some (.int .i64 (G.n 11)) := r1.cell (i := 12) rfl
  have c13 : w1.cell? ⟨w.heap.size, 13, none⟩ = some (.int .i64 (G.n 12)) := r0.cell (i := 13) rfl
  have d13 : w1.cell? ⟨w.heap.size + 1, 13, none⟩ = some (.int .i64 (G.n 12)) := r1.cell (i := 13) rfl
  have c14 : w1.cell? ⟨w.heap.size, 14, none⟩ = some (.int .i64 (G.n 13)) := r0.cell (i := 14) rfl
  have d14 : w1.cell? ⟨w.heap.size + 1, 14, none⟩ = some (.int .i64 (G.n 13)) := r1.cell (i := 14) rfl
  have c15 : w1.cell? ⟨w.heap.size, 15, none⟩ = some (.int .i64 (G.n 14)) := r0.cell (i := 15) rfl
  have d15 : w1.cell? ⟨w.heap.size + 1, 15, none⟩ = some (.int .i64 (G.n 14)) := r1.cell (i := 15) rfl
  have c16 : w1.cell? ⟨w.heap.size, 16, none⟩ = some (.int .i64 (G.n 15)) := r0.cell (i := 16) rfl
  have d16 : w1.cell? ⟨w.heap.size + 1, 16, none⟩ = some (.int .i64 (G.n 15)) := r1.cell (i := 16) rfl
  have c17 : w1.cell? ⟨w.heap.size, 17, none⟩ = some (.int .i64 (G.n 16)) := r0.cell (i := 17) rfl
  have d17 : w1.cell? ⟨w.heap.size + 1, 17, none⟩ = some (.int .i64 (G.n 16)) := r1.cell (i := 17) rfl
  have c18 : w1.cell? ⟨w.heap.size, 18, none⟩ = some (.int .i64 (G.n 17)) := r0.cell (i := 18) rfl
  have d18 : w1.cell? ⟨w.heap.size + 1, 18, none⟩ = some (.int .i64 (G.n 17)) := r1.cell (i := 18) rfl
  have c19 : w1.cell? ⟨w.heap.size, 19, none⟩ = some (.int .i64 (G.n 18)) := r0.cell (i := 19) rfl
  have d19 : w1.cell? ⟨w.heap.size + 1, 19, none⟩ = some (.int .i64 (G.n 18)) := r1.cell (i := 19) rfl
  have c20 : w1.cell? ⟨w.heap.size, 20, none⟩ = some (.slice Aa G.addons.length ca) := r0.cell (i := 20) rfl
  have d20 : w1.cell? ⟨w.heap.size + 1, 20, none⟩ = some (.slice Ba G.addons.length da) := r1.cell (i := 20) rfl
  have c21 : w1.cell? ⟨w.heap.size, 21, none⟩ = some (.slice At G.tiers.length ct) := r0.cell (i := 21) rfl
  have d21 : w1.cell? ⟨w.heap.size + 1, 21, none⟩ = some (.slice Bt G.tiers.length dt) := r1.cell (i := 21) rfl
  refine W_piece fun K hK hX => ?_
  refine W_piece fun K2 hK2 hX2 => ?_
  simp +contextual (maxSteps := 2000000) (disch := first | omega | (simp only [SZ]; first | done | omega) | (simp only [TS] at *; omega)) only [RZ, ovw, oneC, reduceAdd, reduceMul, reduceSub, reduceEqDiff, reduceLT, ↓reduceIte, Int.reduceToNat, reduceLeDiff,  c0, d0, c1, d1, c2, d2, c3, d3, c4, d4, c5, d5, c6, d6, c7, d7]
  refine hK2 _ _ ?_
  clear hK2 hX2 K2
  refine W_if_f rfl ?_
  rw [W_skip]
  refine hK _ _ ?_
  clear hK hX K
  refine W_piece fun K hK hX => ?_
  refine W_piece fun K2 hK2 hX2 => ?_
  simp +contextual (maxSteps := 2000000) (disch := first | omega | (simp only [SZ]; first | done | omega) | (simp only [TS] at *; omega)) only [RZ, ovw, oneC, reduceAdd, reduceMul, reduceSub, reduceEqDiff, reduceLT, ↓reduceIte, Int.reduceToNat, reduceLeDiff,  c8, d8, c9, d9, c10, d10, c11, d11, c12, d12, c13, d13, c14, d14]
  refine hK2 _ _ ?_
  clear hK2 hX2 K2
  refine W_if_f rfl ?_
  rw [W_skip]
  refine hK _ _ ?_
  clear hK hX K
  refine W_piece fun K hK hX => ?_
  refine W_piece fun K2 hK2 hX2 => ?_
  simp +contextual (maxSteps := 2000000) (disch := first | omega | (simp only [SZ]; first | done | omega) | (simp only [TS] at *; omega)) only [RZ, ovw, oneC, reduceAdd, reduceMul, reduceSub, reduceEqDiff, reduceLT, ↓reduceIte, Int.reduceToNat, reduceLeDiff,  c15, d15, c16, d16, c17, d17, c18, d18, c19, d19, c20, d20, c21, d21]
  refine hK2 _ _ ?_
  clear hK2 hX2 K2
  refine W_if_f rfl ?_
  rw [W_skip]
  refine hK _ _ ?_
  clear hK hX K
  clear c0 d0 c1 d1 c2 d2 c3 d3 c4 d4 c5 d5 c6 d6 c7 d7 c8 d8 c9 d9 c10 d10 c11 d11 c12 d12 c13 d13 c14 d14 c15 d15 c16 d16 c17 d17 c18 d18 c19 d19 c20 d20 c21 d21
  have hAa1 := hAa.below b1
  have hBa1 := hBa.below b1
  have hAt1 := hAt.below b1
  have hBt1 := hBt.below b1
  have hads1 := hads.mono (P' := IntsR w1) fun v L hv => hv.below b1
  have hbds1 := hbds.mono (P' := IntsR w1) fun v L hv => hv.below b1
  clear hAa hBa hAt hBt hads hbds
  refine W_cutS (fun σ w2 => Below w1.heap.size w1 w2 ∧ σ 2 = .pointer (some ⟨w.heap.size, 0, none⟩) ∧ σ 3 = .pointer (some ⟨w.heap.size + 1, 0, none⟩)) ?_ ?_
  rotate_left
  · have c20 : w1.cell? ⟨w.heap.size, 20, none⟩ = some (.slice Aa G.addons.length ca) := r0.cell (i := 20) rfl
    refine W_piece fun K hK hX => ?_
    simp +contextual (maxSteps := 2000000) (disch := first | omega | (simp only [SZ]; first | done | omega) | (simp only [TS] at *; omega)) only [RZ, ovw, oneC, reduceAdd, reduceMul, reduceSub, reduceEqDiff, reduceLT, ↓reduceIte, Int.reduceToNat, reduceLeDiff,  c20]
    refine hK _ _ ?_
    clear hK hX K c20
    rw [W_block, W_loop]
    refine Raw_loop (fun σ w2 => Below w1.heap.size w1 w2 ∧ ∃ k : Nat, k ≤ G.addons.length ∧ σ 2 = .pointer (some ⟨w.heap.size, 0, none⟩) ∧ σ 3 = .pointer (some ⟨w.heap.size + 1, 0, none⟩) ∧ σ 163 = .int .i64 G.addons.length ∧ σ 164 = .int .i64 k) (fun σ _ => G.addons.length - (intOf (σ 164)).toNat) ?_ ?_
    · exact ⟨Below.refl _ _, 0, Nat.zero_le _, rfl, rfl, rfl, rfl⟩
    rintro σ w2 ⟨hb, k, hk, f2, f3, f163, f164⟩ K hK
    simp +contextual (maxSteps := 2000000) (disch := first | omega | (simp only [SZ]; first | done | omega) | (simp only [TS] at *; omega)) only [RZ, ovw, oneC, reduceAdd, reduceMul, reduceSub, reduceEqDiff, reduceLT, ↓reduceIte, Int.reduceToNat, reduceLeDiff,  f163, f164]
    (refine W_if rfl (fun hc => ?_) (fun hc => ?_) <;> (try simp only [TS] at hc))
    · have hkl : k < G.addons.length := by omega
      obtain ⟨a, ha⟩ : ∃ a, G.addons[k]? = some a := ⟨_, List.getElem?_eq_getElem hkl⟩
      obtain ⟨cv1, hcv⟩ : ∃ c, Vs[k]? = some c := ⟨_, List.getElem?_eq_getElem (by rw [hads1.1]; exact hkl)⟩
      obtain ⟨vf, vs, rfl, hvf, hvs⟩ := hads1.2 k _ a hcv ha
      obtain ⟨cv2, hcu⟩ : ∃ c, Us[k]? = some c := ⟨_, List.getElem?_eq_getElem (by rw [hbds1.1]; exact hkl)⟩
      obtain ⟨uf, us, rfl, huf, hus⟩ := hbds1.2 k _ a hcu ha
      obtain ⟨b2, o2, rfl, hb2, hc2⟩ := hAa1 (by rw [hads1.1]; omega)
      obtain ⟨b3, o3, rfl, hb3, hc3⟩ := hBa1 (by rw [hbds1.1]; omega)
      obtain ⟨m1, m2, m3⟩ := hadl a (List.mem_of_getElem? ha)
      simp +contextual (maxSteps := 2000000) (disch := first | omega | (simp only [SZ]; first | done | omega) | (simp only [TS] at *; omega)) only [RZ, ovw, oneC, reduceAdd, reduceMul, reduceSub, reduceEqDiff, reduceLT, ↓reduceIte, Int.reduceToNat, reduceLeDiff,  f2, f3, f163, f164]
      have hbd : Below w1.heap.size w1 w2.drew := below_drew hb
      have hlt1 := r0.lt
      have hlt2 := r1.lt
      have hsz2 := hb.size
      have p20 : ∀ w7, Below w2.heap.size w2.drew w7 → w7.cell? ⟨w.heap.size, 20, none⟩ = some (.slice (some ⟨b2, o2, none⟩) G.addons.length ca) := fun w7 h7 => (r0.below (hbd.trans (h7.mono hsz2))).cell (i := 20) rfl
      have q20 : ∀ w7, Below w2.heap.size w2.drew w7 → w7.cell? ⟨w.heap.size + 1, 20, none⟩ = some (.slice (some ⟨b3, o3, none⟩) G.addons.length da) := fun w7 h7 => (r1.below (hbd.trans (h7.mono hsz2))).cell (i := 20) rfl
      have hla : ∀ w7, Below w2.heap.size w2.drew w7 → vLoad Tryz.prog 45 (.pointer (some ⟨b2, o2 + k * 6, none⟩)) w7 = .ok (.value (.agg (encAd a vf vs).toArray)) w7 := fun w7 h7 => vLoad_all (by kernel_rfl) (by show _ = some 6; kernel_rfl) (fun i v hv => ((bcell (hbd.trans (h7.mono hsz2))).1 _ _ hb2).trans (hc2 k _ hcv i v hv))
      have hlb : ∀ w7, Below w2.heap.size w2.drew w7 → vLoad Tryz.prog 45 (.pointer (some ⟨b3, o3 + k * 6, none⟩)) w7 = .ok (.value (.agg (encAd a uf us).toArray)) w7 := fun w7 h7 => vLoad_all (by kernel_rfl) (by show _ = some 6; kernel_rfl) (fun i v hv => ((bcell (hbd.trans (h7.mono hsz2))).1 _ _ hb3).trans (hc3 k _ hcu i v hv))
      have hS : Below w2.heap.size w2.drew w2.drew := Below.refl _ _
      refine Raw_ord (fun w7 => Below w2.heap.size w2.drew w7) 14 rfl MX ?_
      refine Ord_reads (τ := ?ta) [0, 1, 2, 3, 4, 5, 6, 7, 8, 9] 4 rfl (by kernel_rfl) (by kernel_rfl) (fun _ _ _ h => h) hS (fun w7 h7 => ?_) ?_; rotate_left
      · simp only [opsL_cons, opsL_nil, List.getElem?_toArray, List.getElem?_cons_zero, List.getElem?_cons_succ, optL_some]
        simp +contextual (maxSteps := 2000000) (disch := first | omega | (simp only [SZ]; first | done | omega) | (simp only [TS] at *; omega)) only [RZ, ovw, oneC, reduceAdd, reduceMul, reduceSub, reduceEqDiff, reduceLT, ↓reduceIte, Int.reduceToNat, reduceLeDiff,  f2, f3, p20 w7 h7, q20 w7 h7, hla w7 h7, hlb w7 h7]
        exact rfl
      refine Ord_two (fun (x y : Option Nat) w7 => AB w2.drew x y w7) (fun g => .pointer (some ⟨g, 0, none⟩)) (fun g => .pointer (some ⟨g, 0, none⟩)) 10 11 6 7 rfl rfl (by decide) (by decide) (by decide) (by decide) (by kernel_rfl) (by kernel_rfl) (by kernel_rfl)
        ⟨Below.refl _ _, (fun g e => by cases e), (fun g e => by cases e), (fun g h e => by cases e)⟩ ?_ ?_ ?_
      · intro y w7 σ' hσ h7
        simp +contextual (maxSteps := 2000000) (disch := first | omega | (simp only [SZ]; first | done | omega) | (simp only [TS] at *; omega)) only [RZ, ovw, oneC, reduceAdd, reduceMul, reduceSub, reduceEqDiff, reduceLT, ↓reduceIte, Int.reduceToNat, reduceLeDiff]
        exact ⟨_, rfl, h7.putA.low, h7.putA⟩
      · intro x w7 σ' hσ h7
        simp +contextual (maxSteps := 2000000) (disch := first | omega | (simp only [SZ]; first | done | omega) | (simp only [TS] at *; omega)) only [RZ, ovw, oneC, reduceAdd, reduceMul, reduceSub, reduceEqDiff, reduceLT, ↓reduceIte, Int.reduceToNat, reduceLeDiff]
        exact ⟨_, rfl, h7.putB.low, h7.putB⟩
      intro x y w7 h7
      obtain ⟨hxl, hxr⟩ := h7.ra x rfl
      obtain ⟨hyl, hyr⟩ := h7.rb y rfl
      have hxy := h7.ne x y rfl rfl
      have hl7 := h7.low
      have st1 : vStore Tryz.prog 45 (.pointer (some ⟨x, 0, none⟩)) (.agg (encAd a vf vs).toArray) w7 = .ok .skip (w7.setCells x 0 (encAd a vf vs)) := by
        obtain ⟨Av, cv, rfl, _⟩ := id hvf
        obtain ⟨As, cS, rfl, _⟩ := id hvs
        exact vStore_row hxr rfl (by kernel_rfl) (by intro v hv; simp only [List.mem_cons, List.not_mem_nil, or_false] at hv; rcases hv with rfl | rfl | rfl | rfl | rfl | rfl <;> rfl)
      have hyr2 := setCells_other (Ne.symm hxy) (encAd a vf vs) 0 w7 hyr
      have hxr2 := setCells_row (encAd a vf vs) hxr rfl
      have hl8 := setCells_below hxl (encAd a vf vs) 0 w7 hl7
      refine Ord_one 12 (by kernel_rfl) rfl ?_
      simp +contextual (maxSteps := 2000000) (disch := first | omega | (simp only [SZ]; first | done | omega) | (simp only [TS] at *; omega)) only [RZ, ovw, oneC, reduceAdd, reduceMul, reduceSub, reduceEqDiff, reduceLT, ↓reduceIte, Int.reduceToNat, reduceLeDiff,  st1]
      generalize w7.setCells x 0 (encAd a vf vs) = w8 at hyr2 hxr2 hl8 ⊢
      have st2 : vStore Tryz.prog 45 (.pointer (some ⟨y, 0, none⟩)) (.agg (encAd a uf us).toArray) w8 = .ok .skip (w8.setCells y 0 (encAd a uf us)) := by
        obtain ⟨Av, cv, rfl, _⟩ := id huf
        obtain ⟨As, cS, rfl, _⟩ := id hus
        exact vStore_row hyr2 rfl (by kernel_rfl) (by intro v hv; simp only [List.mem_cons, List.not_mem_nil, or_false] at hv; rcases hv with rfl | rfl | rfl | rfl | rfl | rfl <;> rfl)
      have hxr3 := setCells_other hxy (encAd a uf us) 0 w8 hxr2
      have hyr3 := setCells_row (encAd a uf us) hyr2 rfl
      have hl9 := setCells_below hyl (encAd a uf us) 0 w8 hl8
      refine ⟨hl8, Ord_one 13 (by kernel_rfl) rfl ?_⟩
      simp +contextual (maxSteps := 2000000) (disch := first | omega | (simp only [SZ]; first | done | omega) | (simp only [TS] at *; omega)) only [RZ, ovw, oneC, reduceAdd, reduceMul, reduceSub, reduceEqDiff, reduceLT, ↓reduceIte, Int.reduceToNat, reduceLeDiff,  st2]
      generalize w8.setCells y 0 (encAd a uf us) = w9 at hyr3 hxr3 hl9 ⊢
      refine ⟨hl9, Ord_done (by kernel_rfl) ?_⟩
      clear st1 st2 hl8 hl7 hyr2 hxr2 h7
      have hl1w : Below w1.heap.size w1 w9 := hbd.trans (hl9.mono hsz2)
      have x0 : w9.cell? ⟨x, 0, none⟩ = some (.string a.name) := hxr3.cell (i := 0) rfl
      have x1 : w9.cell? ⟨x, 1, none⟩ = some (.int .i64 a.kind) := hxr3.cell (i := 1) rfl
      have x2 : w9.cell? ⟨x, 2, none⟩ = some (.int .i64 a.price) := hxr3.cell (i := 2) rfl
      have x3 : w9.cell? ⟨x, 3, none⟩ = some vf := hxr3.cell (i := 3) rfl
      have x4 : w9.cell? ⟨x, 4, none⟩ = some (.int .i64 a.digits) := hxr3.cell (i := 4) rfl
      have x5 : w9.cell? ⟨x, 5, none⟩ = some vs := hxr3.cell (i := 5) rfl
      have y0 : w9.cell? ⟨y, 0, none⟩ = some (.string a.name) := hyr3.cell (i := 0) rfl
      have y1 : w9.cell? ⟨y, 1, none⟩ = some (.int .i64 a.kind) := hyr3.cell (i := 1) rfl
      have y2 : w9.cell? ⟨y, 2, none⟩ = some (.int .i64 a.price) := hyr3.cell (i := 2) rfl
      have y3 : w9.cell? ⟨y, 3, none⟩ = some uf := hyr3.cell (i := 3) rfl
      have y4 : w9.cell? ⟨y, 4, none⟩ = some (.int .i64 a.digits) := hyr3.cell (i := 4) rfl
      have y5 : w9.cell? ⟨y, 5, none⟩ = some us := hyr3.cell (i := 5) rfl
      obtain ⟨Af, cf, rfl, hAf⟩ := id hvf
      obtain ⟨As, cS, rfl, hAs⟩ := id hvs
      obtain ⟨Bf, df, rfl, hBf⟩ := id huf
      obtain ⟨Bs, dS, rfl, hBs⟩ := id hus
      simp +contextual (maxSteps := 2000000) (disch := first | omega | (simp only [SZ]; first | done | omega) | (simp only [TS] at *; omega)) only [RZ, ovw, oneC, reduceAdd, reduceMul, reduceSub, reduceEqDiff, reduceLT, ↓reduceIte, Int.reduceToNat, reduceLeDiff,  f2, f3, f163, f164, x0, x1, x2, x3, x4, x5, y0, y1, y2, y3, y4, y5]
      refine (ints_any a.factors Af Bf cf df w9 (hAf.below hl1w) (hBf.below hl1w) (by omega)).mono ?_
      rintro e w10 ⟨rfl, h10⟩
      refine ⟨_, rfl, ?_⟩
      have x5 : w10.cell? ⟨x, 5, none⟩ = some (.slice As a.serials.length cS) := (hxr3.below h10).cell (i := 5) rfl
      have y5 : w10.cell? ⟨y, 5, none⟩ = some (.slice Bs a.serials.length dS) := (hyr3.below h10).cell (i := 5) rfl
      have h10w : Below w1.heap.size w1 w10 := hl1w.trans (h10.mono hl1w.size)
      try simp +contextual (maxSteps := 2000000) (disch := first | omega | (simp only [SZ]; first | done | omega) | (simp only [TS] at *; omega)) only [RZ, ovw, oneC, reduceAdd, reduceMul, reduceSub, reduceEqDiff, reduceLT, ↓reduceIte, Int.reduceToNat, reduceLeDiff,  f2, f3, f163, f164, x5, y5]
      refine (ints_any a.serials As Bs cS dS w10 (hAs.below h10w) (hBs.below h10w) (by omega)).mono ?_
      rintro e w11 ⟨rfl, h11⟩
      refine ⟨_, rfl, ?_⟩
      have h11w : Below w1.heap.size w1 w11 := h10w.trans (h11.mono h10w.size)
      try simp +contextual (maxSteps := 2000000) (disch := first | omega | (simp only [SZ]; first | done | omega) | (simp only [TS] at *; omega)) only [RZ, ovw, oneC, reduceAdd, reduceMul, reduceSub, reduceEqDiff, reduceLT, ↓reduceIte, Int.reduceToNat, reduceLeDiff,  f2, f3, f163, f164]
      refine W_if_f rfl ?_
      simp +contextual (maxSteps := 2000000) (disch := first | omega | (simp only [SZ]; first | done | omega) | (simp only [TS] at *; omega)) only [RZ, ovw, oneC, reduceAdd, reduceMul, reduceSub, reduceEqDiff, reduceLT, ↓reduceIte, Int.reduceToNat, reduceLeDiff,  f2, f3, f163, f164]
      refine hK _ _ ⟨h11w, k + 1, by omega, ?_⟩ ?_
      · simp +contextual (maxSteps := 2000000) (disch := first | omega | (simp only [SZ]; first | done | omega) | (simp only [TS] at *; omega)) only [RZ, ovw, oneC, reduceAdd, reduceMul, reduceSub, reduceEqDiff, reduceLT, ↓reduceIte, Int.reduceToNat, reduceLeDiff,  f2, f3, f163, f164]
      · simp +contextual (maxSteps := 2000000) (disch := first | omega | (simp only [SZ]; first | done | omega) | (simp only [TS] at *; omega)) only [RZ, ovw, oneC, reduceAdd, reduceMul, reduceSub, reduceEqDiff, reduceLT, ↓reduceIte, Int.reduceToNat, reduceLeDiff,  intOf, f164]
        omega
    · simp +contextual (maxSteps := 2000000) (disch := first | omega | (simp only [SZ]; first | done | omega) | (simp only [TS] at *; omega)) only [RZ, ovw, oneC, reduceAdd, reduceMul, reduceSub, reduceEqDiff, reduceLT, ↓reduceIte, Int.reduceToNat, reduceLeDiff,  f2, f3, f163, f164]
      exact hb
  rintro σ w2 ⟨hb, f2, f3⟩
  refine W_cutS (fun σ w3 => Below w1.heap.size w1 w3) ?_ ?_
  · intro σ w3 h3
    simp +contextual (maxSteps := 2000000) (disch := first | omega | (simp only [SZ]; first | done | omega) | (simp only [TS] at *; omega)) only [RZ, ovw, oneC, reduceAdd, reduceMul, reduceSub, reduceEqDiff, reduceLT, ↓reduceIte, Int.reduceToNat, reduceLeDiff]
    exact b1.trans (h3.mono b1.size)
  · have c21 : w2.cell? ⟨w.heap.size, 21, none⟩ = some (.slice At G.tiers.length ct) := (r0.below hb).cell (i := 21) rfl
    refine W_piece fun K hK hX => ?_
    simp +contextual (maxSteps := 2000000) (disch := first | omega | (simp only [SZ]; first | done | omega) | (simp only [TS] at *; omega)) only [RZ, ovw, oneC, reduceAdd, reduceMul, reduceSub, reduceEqDiff, reduceLT, ↓reduceIte, Int.reduceToNat, reduceLeDiff,  f2, f3, c21]
    refine hK _ _ ?_
    clear hK hX K c21
    rw [W_block, W_loop]
    refine Raw_loop (fun σ w2 => Below w1.heap.size w1 w2 ∧ ∃ k : Nat, k ≤ G.tiers.length ∧ σ 2 = .pointer (some ⟨w.heap.size, 0, none⟩) ∧ σ 3 = .pointer (some ⟨w.heap.size + 1, 0, none⟩) ∧ σ 222 = .int .i64 G.tiers.length ∧ σ 223 = .int .i64 k) (fun σ _ => G.tiers.length - (intOf (σ 223)).toNat) ?_ ?_
    · refine ⟨hb, 0, Nat.zero_le _, ?_⟩
      simp +contextual (maxSteps := 2000000) (disch := first | omega | (simp only [SZ]; first | done | omega) | (simp only [TS] at *; omega)) only [RZ, ovw, oneC, reduceAdd, reduceMul, reduceSub, reduceEqDiff, reduceLT, ↓reduceIte, Int.reduceToNat, reduceLeDiff,  f2, f3]
      rfl
    clear f2 f3 hb
    rintro σ w2 ⟨hb, k, hk, f2, f3, f222, f223⟩ K hK
    simp +contextual (maxSteps := 2000000) (disch := first | omega | (simp only [SZ]; first | done | omega) | (simp only [TS] at *; omega)) only [RZ, ovw, oneC, reduceAdd, reduceMul, reduceSub, reduceEqDiff, reduceLT, ↓reduceIte, Int.reduceToNat, reduceLeDiff,  f222, f223]
    (refine W_if rfl (fun hc => ?_) (fun hc => ?_) <;> (try simp only [TS] at hc))
    · have hkl : k < G.tiers.length := by omega
      obtain ⟨t, ht⟩ : ∃ t, G.tiers[k]? = some t := ⟨_, List.getElem?_eq_getElem hkl⟩
      have hbd : Below w1.heap.size w1 w2.drew := below_drew hb
      obtain ⟨b2, o2, rfl, hb2, hc2⟩ := (hAt1.below hbd).at_ (enc := encTi) ht
      obtain ⟨b3, o3, rfl, hb3, hc3⟩ := (hBt1.below hbd).at_ (enc := encTi) ht
      have hla : vLoad Tryz.prog 41 (.pointer (some ⟨b2, o2 + k * 6, none⟩)) w2.drew = .ok (.value (.agg (encTi t).toArray)) w2.drew := vLoad_all (by kernel_rfl) (by show _ = some 6; kernel_rfl) (fun i v hv => hc2 i v hv)
      have hlb : vLoad Tryz.prog 41 (.pointer (some ⟨b3, o3 + k * 6, none⟩)) w2.drew = .ok (.value (.agg (encTi t).toArray)) w2.drew := vLoad_all (by kernel_rfl) (by show _ = some 6; kernel_rfl) (fun i v hv => hc3 i v hv)
      have p21 : w2.drew.cell? ⟨w.heap.size, 21, none⟩ = some (.slice (some ⟨b2, o2, none⟩) G.tiers.length ct) := (r0.below hbd).cell (i := 21) rfl
      have q21 : w2.drew.cell? ⟨w.heap.size + 1, 21, none⟩ = some (.slice (some ⟨b3, o3, none⟩) G.tiers.length dt) := (r1.below hbd).cell (i := 21) rfl
      simp +contextual (maxSteps := 2000000) (disch := first | omega | (simp only [SZ]; first | done | omega) | (simp only [TS] at *; omega)) only [RZ, ovw, oneC, reduceAdd, reduceMul, reduceSub, reduceEqDiff, reduceLT, ↓reduceIte, Int.reduceToNat, reduceLeDiff,  f2, f3, f222, f223]
      refine Raw_still MX (by kernel_rfl) ?_
      simp +contextual (maxSteps := 2000000) (disch := first | omega | (simp only [SZ]; first | done | omega) | (simp only [TS] at *; omega)) only [RZ, ovw, oneC, reduceAdd, reduceMul, reduceSub, reduceEqDiff, reduceLT, ↓reduceIte, Int.reduceToNat, reduceLeDiff,  f2, f3, f222, f223, p21, q21, hla, hlb, ti_same]
      refine W_if_f rfl ?_
      simp +contextual (maxSteps := 2000000) (disch := first | omega | (simp only [SZ]; first | done | omega) | (simp only [TS] at *; omega)) only [RZ, ovw, oneC, reduceAdd, reduceMul, reduceSub, reduceEqDiff, reduceLT, ↓reduceIte, Int.reduceToNat, reduceLeDiff,  f2, f3, f222, f223]
      refine hK _ _ ⟨hbd, k + 1, by omega, ?_⟩ ?_
      · simp +contextual (maxSteps := 2000000) (disch := first | omega | (simp only [SZ]; first | done | omega) | (simp only [TS] at *; omega)) only [RZ, ovw, oneC, reduceAdd, reduceMul, reduceSub, reduceEqDiff, reduceLT, ↓reduceIte, Int.reduceToNat, reduceLeDiff,  f2, f3, f222, f223]
      · simp +contextual (maxSteps := 2000000) (disch := first | omega | (simp only [SZ]; first | done | omega) | (simp only [TS] at *; omega)) only [RZ, ovw, oneC, reduceAdd, reduceMul, reduceSub, reduceEqDiff, reduceLT, ↓reduceIte, Int.reduceToNat, reduceLeDiff,  intOf, f223]
        omega
    · simp +contextual (maxSteps := 2000000) (disch := first | omega | (simp only [SZ]; first | done | omega) | (simp only [TS] at *; omega)) only [RZ, ovw, oneC, reduceAdd, reduceMul, reduceSub, reduceEqDiff, reduceLT, ↓reduceIte, Int.reduceToNat, reduceLeDiff,  f2, f3, f222, f223]
      exact hb
end Go.Proofs.YtbdkggnajipdhaaGreatDoor
/- Walks: the law's few. -/
namespace Go.Proofs.YtbdkggnajipdhaaGreatDoor
open Nat (reduceAdd reduceMul reduceSub reduceEqDiff reduceLT reduceLeDiff)
open Go.RowKit
set_option maxRecDepth 100000
def fewA (a : Ad) : Bool := !(decide (200 < a.name.size) || decide (50 < a.factors.length) || decide (50 < a.serials.length))
def fewB (G : Gm) : Bool := !(decide (200 < G.name.size) || decide (50 < G.addons.length) || decide (50 < G.tiers.length)) && G.addons.all fewA
theorem lt_cast (a b : Nat) : decide ((a : Int) < (b : Int)) = decide (a < b) := by
  rw [Bool.eq_iff_iff, decide_eq_true_eq, decide_eq_true_eq]; omega
set_option maxHeartbeats 4000000 in
theorem few_any (G : Gm) (Va Vt : Value) (w : World) (hA : GmIn w Va Vt G) :
    Calls Tryz.prog 12 #[.agg (gmV G Va Vt).toArray] w fun e w' => e = .returned (.bool (fewB G)) ∧ Below w.heap.size w w' := by
  refine calls_W (l := [_]) Tryz.func12 rfl _ Tryz.ntmps12 (by simp) ?_
  obtain ⟨⟨Aa, ca, Vs, rfl, hAa, hads⟩, At, ct, rfl, hAt⟩ := hA
  generalize hrr : fewB G = rr
  unfold fewB at hrr
  have r0 := Row.new w 26 (gmV G (.slice Aa G.addons.length ca) (.slice At G.tiers.length ct))
  have b0 := below_alloc w (.cells (gmV G (.slice Aa G.addons.length ca) (.slice At G.tiers.length ct)).toArray 26)
  have z0 := World.size_alloc w (.cells (gmV G (.slice Aa G.addons.length ca) (.slice At G.tiers.length ct)).toArray 26)
  refine W_piece fun K hK hX => ?_
  simp +contextual (maxSteps := 2000000) (disch := first | omega | (simp only [SZ]; first | done | omega) | (simp only [TS] at *; omega)) only [RZ, ovw, oneC, reduceAdd, reduceMul, reduceSub, reduceEqDiff, reduceLT, ↓reduceIte, Int.reduceToNat, reduceLeDiff]
  refine hK _ _ ?_
  clear hK hX K
  generalize w.alloc (.cells (gmV G (.slice Aa G.addons.length ca) (.slice At G.tiers.length ct)).toArray 26) = w1 at r0 b0 z0 ⊢
  have c0 : w1.cell? ⟨w.heap.size, 0, none⟩ = some (.string G.name) := r0.cell (i := 0) rfl
  have c20 : w1.cell? ⟨w.heap.size, 20, none⟩ = some (.slice Aa G.addons.length ca) := r0.cell (i := 20) rfl
  have c21 : w1.cell? ⟨w.heap.size, 21, none⟩ = some (.slice At G.tiers.length ct) := r0.cell (i := 21) rfl
  have e1 : decide ((200 : Int) < (G.name.size : Int)) = decide (200 < G.name.size) := lt_cast 200 _
  have e2 : decide ((50 : Int) < (G.addons.length : Int)) = decide (50 < G.addons.length) := lt_cast 50 _
  have e3 : decide ((50 : Int) < (G.tiers.length : Int)) = decide (50 < G.tiers.length) := lt_cast 50 _
  refine W_piece fun K hK hX => ?_
  refine W_piece fun K2 hK2 hX2 => ?_
  simp +contextual (maxSteps := 2000000) (disch := first | omega | (simp only [SZ]; first | done | omega) | (simp only [TS] at *; omega)) only [RZ, ovw, oneC, reduceAdd, reduceMul, reduceSub, reduceEqDiff, reduceLT, ↓reduceIte, Int.reduceToNat, reduceLeDiff,  c0, c20, c21, e1, e2, e3]
  refine hK2 _ _ ?_
  clear hK2 hX2 K2
  cases hbb : (decide (200 < G.name.size) || decide (50 < G.addons.length) || decide (50 < G.tiers.length)) with
  | true =>
    rw [hbb, Bool.not_true, Bool.false_and] at hrr
    subst hrr
    refine W_if_t rfl ?_
    refine W_piece fun K2 hK2 hX2 => ?_
    simp +contextual (maxSteps := 2000000) (disch := first | omega | (simp only [SZ]; first | done | omega) | (simp only [TS] at *; omega)) only [RZ, ovw, oneC, reduceAdd, reduceMul, reduceSub, reduceEqDiff, reduceLT, ↓reduceIte, Int.reduceToNat, reduceLeDiff]
    refine hK2 _ _ ?_
    rw [W_ret]
    refine hX _ _ _ (fun h => by cases h) ?_
    simp +contextual (maxSteps := 2000000) (disch := first | omega | (simp only [SZ]; first | done | omega) | (simp only [TS] at *; omega)) only [RZ, ovw, oneC, reduceAdd, reduceMul, reduceSub, reduceEqDiff, reduceLT, ↓reduceIte, Int.reduceToNat, reduceLeDiff]
    exact b0
  | false =>
    rw [hbb, Bool.not_false, Bool.true_and] at hrr
    simp only [Bool.or_eq_false_iff, decide_eq_false_iff_not] at hbb
    refine W_if_f rfl ?_
    rw [W_skip]
    refine hK _ _ ?_
    clear hK hX K
    refine W_cutS (fun σ w2 => w2 = w1 ∧ G.addons.all fewA = true) ?_ ?_
    · rintro σ w2 ⟨rfl, hall⟩
      rw [hall] at hrr
      subst hrr
      simp +contextual (maxSteps := 2000000) (disch := first | omega | (simp only [SZ]; first | done | omega) | (simp only [TS] at *; omega)) only [RZ, ovw, oneC, reduceAdd, reduceMul, reduceSub, reduceEqDiff, reduceLT, ↓reduceIte, Int.reduceToNat, reduceLeDiff]
      exact b0
    refine W_piece fun K hK hX => ?_
    simp +contextual (maxSteps := 2000000) (disch := first | omega | (simp only [SZ]; first | done | omega) | (simp only [TS] at *; omega)) only [RZ, ovw, oneC, reduceAdd, reduceMul, reduceSub, reduceEqDiff, reduceLT, ↓reduceIte, Int.reduceToNat, reduceLeDiff,  c20]
    refine hK _ _ ?_
    clear hK hX K
    rw [W_block, W_loop]
    have hAa1 := hAa.below b0
    refine Raw_loop (fun σ w2 => w2 = w1 ∧ ∃ k : Nat, k ≤ G.addons.length ∧ (∀ j a, j < k → G.addons[j]? = some a → fewA a = true) ∧ σ 1 = .pointer (some ⟨w.heap.size, 0, none⟩) ∧ σ 22 = .int .i64 G.addons.length ∧ σ 23 = .int .i64 k) (fun σ _ => G.addons.length - (intOf (σ 23)).toNat) ?_ ?_
    · exact ⟨rfl, 0, Nat.zero_le _, fun j a hj => absurd hj (Nat.not_lt_zero _), rfl, rfl, rfl⟩
    rintro σ w2 ⟨rfl, k, hk, hal, f1, f22, f23⟩ K hK
    simp +contextual (maxSteps := 2000000) (disch := first | omega | (simp only [SZ]; first | done | omega) | (simp only [TS] at *; omega)) only [RZ, ovw, oneC, reduceAdd, reduceMul, reduceSub, reduceEqDiff, reduceLT, ↓reduceIte, Int.reduceToNat, reduceLeDiff,  f1, f22, f23]
    (refine W_if rfl (fun hc => ?_) (fun hc => ?_) <;> (try simp only [TS] at hc))
    · have hkl : k < G.addons.length := by omega
      obtain ⟨a, ha⟩ : ∃ a, G.addons[k]? = some a := ⟨_, List.getElem?_eq_getElem hkl⟩
      obtain ⟨cv1, hcv⟩ : ∃ c, Vs[k]? = some c := ⟨_, List.getElem?_eq_getElem (by rw [hads.1]; exact hkl)⟩
      obtain ⟨vf, vs, rfl, hvf, hvs⟩ := hads.2 k _ a hcv ha
      obtain ⟨Af, cf, rfl, _⟩ := hvf
      obtain ⟨As, cS, rfl, _⟩ := hvs
      obtain ⟨b2, o2, rfl, hb2, hc2⟩ := hAa1 (by rw [hads.1]; omega)
      have l0 : w2.cell? ⟨b2, o2 + k * 6, none⟩ = some (.string a.name) := by have := hc2 k _ hcv 0 _ rfl; rw [Nat.add_zero] at this; exact this
      have l3 : w2.cell? ⟨b2, o2 + k * 6 + 3, none⟩ = some (.slice Af a.factors.length cf) := hc2 k _ hcv 3 _ rfl
      have l5 : w2.cell? ⟨b2, o2 + k * 6 + 5, none⟩ = some (.slice As a.serials.length cS) := hc2 k _ hcv 5 _ rfl
      have e1 : decide ((200 : Int) < (a.name.size : Int)) = decide (200 < a.name.size) := lt_cast 200 _
      have e2 : decide ((50 : Int) < (a.factors.length : Int)) = decide (50 < a.factors.length) := lt_cast 50 _
      have e3 : decide ((50 : Int) < (a.serials.length : Int)) = decide (50 < a.serials.length) := lt_cast 50 _
      have hfa : fewA a = !(decide (200 < a.name.size) || decide (50 < a.factors.length) || decide (50 < a.serials.length)) := rfl
      rw [W_skip, thenX_normal]
      refine W_piece fun K1 hK1 hX1 => ?_
      rw [W_block]
      refine W_piece fun K2 hK2 hX2 => ?_
      simp +contextual (maxSteps := 2000000) (disch := first | omega | (simp only [SZ]; first | done | omega) | (simp only [TS] at *; omega)) only [RZ, ovw, oneC, reduceAdd, reduceMul, reduceSub, reduceEqDiff, reduceLT, ↓reduceIte, Int.reduceToNat, reduceLeDiff,  f1, f22, f23]
      refine hK2 _ _ ?_
      clear hK2 hX2 K2
      refine W_piece fun K2 hK2 hX2 => ?_
      simp +contextual (maxSteps := 2000000) (disch := first | omega | (simp only [SZ]; first | done | omega) | (simp only [TS] at *; omega)) only [RZ, ovw, oneC, reduceAdd, reduceMul, reduceSub, reduceEqDiff, reduceLT, ↓reduceIte, Int.reduceToNat, reduceLeDiff,  f1, f22, f23, c20, l0, l3, l5, e1, e2, e3]
      refine hK2 _ _ ?_
      clear hK2 hX2 K2
      cases hbb : (decide (200 < a.name.size) || decide (50 < a.factors.length) || decide (50 < a.serials.length)) with
      | true =>
        have hff : fewA a = false := by rw [hfa, hbb]; rfl
        have hall : G.addons.all fewA = false := by
          rw [Bool.eq_false_iff]
          intro e
          have := List.all_eq_true.1 e a (List.mem_of_getElem? ha)
          rw [hff] at this
          cases this
        rw [hall] at hrr
        subst hrr
        refine W_if_t rfl ?_
        refine W_piece fun K2 hK2 hX2 => ?_
        simp +contextual (maxSteps := 2000000) (disch := first | omega | (simp only [SZ]; first | done | omega) | (simp only [TS] at *; omega)) only [RZ, ovw, oneC, reduceAdd, reduceMul, reduceSub, reduceEqDiff, reduceLT, ↓reduceIte, Int.reduceToNat, reduceLeDiff]
        refine hK2 _ _ ?_
        rw [W_ret, inX_ret]
        refine hX1 _ _ _ (fun h => by cases h) ?_
        simp +contextual (maxSteps := 2000000) (disch := first | omega | (simp only [SZ]; first | done | omega) | (simp only [TS] at *; omega)) only [RZ, ovw, oneC, reduceAdd, reduceMul, reduceSub, reduceEqDiff, reduceLT, ↓reduceIte, Int.reduceToNat, reduceLeDiff]
        exact b0
      | false =>
        refine W_if_f rfl ?_
        rw [W_skip, inX_normal]
        refine hK1 _ _ ?_
        clear hK1 hX1 K1
        simp +contextual (maxSteps := 2000000) (disch := first | omega | (simp only [SZ]; first | done | omega) | (simp only [TS] at *; omega)) only [RZ, ovw, oneC, reduceAdd, reduceMul, reduceSub, reduceEqDiff, reduceLT, ↓reduceIte, Int.reduceToNat, reduceLeDiff,  f1, f22, f23]
        refine hK _ _ ⟨rfl, k + 1, by omega, fun j a' hj ha' => ?_, ?_⟩ ?_
        · by_cases hjk : j = k
          · subst hjk
            rw [ha] at ha'
            injection ha' with ha'
            subst ha'
            rw [hfa, hbb]; rfl
          · exact hal j a' (by omega) ha'
        · simp +contextual (maxSteps := 2000000) (disch := first | omega | (simp only [SZ]; first | done | omega) | (simp only [TS] at *; omega)) only [RZ, ovw, oneC, reduceAdd, reduceMul, reduceSub, reduceEqDiff, reduceLT, ↓reduceIte, Int.reduceToNat, reduceLeDiff,  f1, f22, f23]
        · simp +contextual (maxSteps := 2000000) (disch := first | omega | (simp only [SZ]; first | done | omega) | (simp only [TS] at *; omega)) only [RZ, ovw, oneC, reduceAdd, reduceMul, reduceSub, reduceEqDiff, reduceLT, ↓reduceIte, Int.reduceToNat, reduceLeDiff,  intOf, f23]
          omega
    · have hkz : k = G.addons.length := by omega
      subst hkz
      simp +contextual (maxSteps := 2000000) (disch := first | omega | (simp only [SZ]; first | done | omega) | (simp only [TS] at *; omega)) only [RZ, ovw, oneC, reduceAdd, reduceMul, reduceSub, reduceEqDiff, reduceLT, ↓reduceIte, Int.reduceToNat, reduceLeDiff,  f1, f22, f23]
      rw [List.all_eq_true]
      intro a ha
      obtain ⟨j, hj⟩ := List.mem_iff_getElem?.1 ha
      exact hal j a (List.getElem?_eq_some_iff.1 hj).1 hj
/-- What a game that passes meets. -/
theorem few_is {G : Gm} (h : fewB G = true) : G.name.size ≤ 200 ∧ G.addons.length ≤ 50 ∧ G.tiers.length ≤ 50 ∧ ∀ a ∈ G.addons, a.name.size ≤ 200 ∧ a.factors.length ≤ 50 ∧ a.serials.length ≤ 50 := by
  unfold fewB at h
  simp only [Bool.and_eq_true, Bool.not_eq_true', Bool.or_eq_false_iff, decide_eq_false_iff_not] at h
  obtain ⟨⟨⟨h1, h2⟩, h3⟩, h4⟩ := h
  refine ⟨by omega, by omega, by omega, fun a ha => ?_⟩
  have := List.all_eq_true.1 h4 a ha
  unfold fewA at this
  simp only [Bool.not_eq_true', Bool.or_eq_false_iff, decide_eq_false_iff_not] at this
  omega
theorem few_little {G : Gm} (h : fewB G = true) : G.little := by
  obtain ⟨h1, h2, h3, h4⟩ := few_is h
  refine ⟨by omega, by omega, by omega, fun a ha => ?_⟩
  have := h4 a ha
  omega
end Go.Proofs.YtbdkggnajipdhaaGreatDoor
/- Walks: the law's awake. -/
namespace Go.Proofs.YtbdkggnajipdhaaGreatDoor
open Nat (reduceAdd reduceMul reduceSub reduceEqDiff reduceLT reduceLeDiff)
open Go.RowKit
set_option maxRecDepth 100000
theorem gmC_n {G q : Gm} (h : gmC G = gmC q) {i : Nat} (hi : i < 19) : G.n i = q.n i := by
  have := congrArg (fun x => x.2.1[i]?) h
  simp only [gmC, List.getElem?_map, List.getElem?_range hi, Option.map_some, Option.some.injEq] at this
  exact this
theorem gmV_C {G q : Gm} (h : gmC G = gmC q) (Va Vt : Value) : gmV G Va Vt = gmV q Va Vt := by
  have hn : G.name = q.name := congrArg Prod.fst h
  unfold gmV
  rw [hn, gmC_n h (i := 0) (by decide), gmC_n h (i := 1) (by decide), gmC_n h (i := 2) (by decide), gmC_n h (i := 3) (by decide), gmC_n h (i := 4) (by decide), gmC_n h (i := 5) (by decide), gmC_n h (i := 6) (by decide), gmC_n h (i := 7) (by decide), gmC_n h (i := 8) (by decide), gmC_n h (i := 9) (by decide), gmC_n h (i := 10) (by decide), gmC_n h (i := 11) (by decide), gmC_n h (i := 12) (by decide), gmC_n h (i := 13) (by decide), gmC_n h (i := 14) (by decide), gmC_n h (i := 15) (by decide), gmC_n h (i := 16) (by decide), gmC_n h (i := 17) (by decide), gmC_n h (i := 18) (by decide)]
theorem GmIn.C {w : World} {Va Vt : Value} {G q : Gm} (h : GmIn w Va Vt G) (e : gmC G = gmC q) : GmIn w Va Vt q := by
  have ha : G.addons = q.addons := congrArg (fun x => x.2.2.1) e
  have ht : G.tiers = q.tiers := congrArg (fun x => x.2.2.2) e
  unfold GmIn at h ⊢
  rw [ha, ht] at h
  exact h
theorem parse_ex {s : ByteArray} {q : Gm} {er ln : Int} (hs : s.size ≤ 1000000) {w : World} (hW : Laid w) (hw9 : 9 ≤ w.heap.size) (hp : (gmC (parseG s).1, (parseG s).2) = (gmC q, er, ln)) : Calls Tryz.prog 9 #[.string s] w fun e w' => Below w.heap.size w w' ∧
    ∃ Va Vt, e = .returned (.tuple #[.agg (gmV q Va Vt).toArray, .int .i64 er, .int .i64 ln]) ∧ GmIn w' Va Vt q := by
  simp only [Prod.mk.injEq] at hp
  obtain ⟨h1, h2⟩ := hp
  have h3 : (parseG s).2.1 = er := congrArg Prod.fst h2
  have h4 : (parseG s).2.2 = ln := congrArg Prod.snd h2
  refine (parse_any s w hs hW hw9).mono ?_
  rintro e w1 ⟨hB, Va, Vt, he, hG⟩
  rw [gmV_C h1, h3, h4] at he
  exact ⟨hB, Va, Vt, he, hG.C h1⟩
/-- A game boxed in memory. -/
theorem load_game {w : World} {b : Nat} {G : Gm} {Va Vt : Value} (h : Row w b 26 (gmV G Va Vt)) : vLoad Tryz.prog 26 (.pointer (some ⟨b, 0, none⟩)) w = .ok (.value (.agg (gmV G Va Vt).toArray)) w :=
  vLoad_all (by kernel_rfl) (by rw [gmV_len]; kernel_rfl) (fun i v hv => by rw [Nat.zero_add]; exact h.cell hv)
theorem W_gen {P : Program} {n : Nat} {c : Code} {Q : Exit → Sl → World → Prop} {σ : Sl} {w : World} (h : ∀ w2, w2 = w → W P n c Q σ w2) : W P n c Q σ w := h w rfl
set_option maxHeartbeats 4000000 in
theorem awake_any (w : World) (hW : Laid w) (hw9 : 9 ≤ w.heap.size) : Calls Tryz.prog 8 #[] w fun e w' => e = .returned (.bool true) ∧ Below w.heap.size w w' := by
  refine calls_W (l := []) Tryz.func8 rfl _ Tryz.ntmps8 (by simp) ?_
  refine W_piece fun K hK hX => ?_
  simp +contextual (maxSteps := 2000000) (disch := first | omega | (simp only [SZ]; first | done | omega) | (simp only [TS] at *; omega)) only [RZ, ovw, oneC, reduceAdd, reduceMul, reduceSub, reduceEqDiff, reduceLT, ↓reduceIte, Int.reduceToNat, reduceLeDiff]
  refine hK _ _ ?_
  clear hK hX K
  refine W_piece fun K hK hX => ?_
  simp +contextual (maxSteps := 2000000) (disch := first | omega | (simp only [SZ]; first | done | omega) | (simp only [TS] at *; omega)) only [RZ, ovw, oneC, reduceAdd, reduceMul, reduceSub, reduceEqDiff, reduceLT, ↓reduceIte, Int.reduceToNat, reduceLeDiff]
  refine (parse_ex (q := exT) (er := 0) (ln := 0) (by decide) hW hw9 (by kernel_rfl)).mono ?_
  rintro e w1 ⟨hB1, Va, Vt, rfl, hG1⟩
  refine ⟨_, rfl, ?_⟩
  obtain ⟨⟨Aa, ca, Vs, rfl, hAa, hads⟩, At, ct, rfl, hAt⟩ := id hG1
  have hz1 := hB1.size
  simp only [gmV]
  simp +contextual (maxSteps := 2000000) (disch := first | omega | (simp only [SZ]; first | done | omega) | (simp only [TS] at *; omega)) only [RZ, ovw, oneC, reduceAdd, reduceMul, reduceSub, reduceEqDiff, reduceLT, ↓reduceIte, Int.reduceToNat, reduceLeDiff]
  refine hK _ _ ?_
  clear hK hX K
  refine W_gen fun w2 hw2 => ?_
  have r1 : Row w2 w1.heap.size 26 (gmV exT (.slice Aa exT.addons.length ca) (.slice At exT.tiers.length ct)) := by rw [hw2]; exact Row.new w1 _ _
  have hB2 : Below w1.heap.size w1 w2 := by rw [hw2]; exact below_alloc w1 _
  clear hw2
  have hG2 := hG1.below hB2
  have hAt2 := hAt.below hB2
  have hAa2 := hAa.below hB2
  obtain ⟨b, o, rfl, hb, hcb⟩ := hAt2.at_ (enc := encTi) (k := 1) rfl
  obtain ⟨cv1, hcv⟩ : ∃ c, Vs[0]? = some c := ⟨_, List.getElem?_eq_getElem (by rw [hads.1]; decide)⟩
  obtain ⟨vf, vs, rfl, hvf, hvs⟩ := hads.2 0 _ ⟨toBA (asc "joker"), 2, 100, [], 2, [300, 5000]⟩ hcv rfl
  obtain ⟨As, cS, rfl, hAs⟩ := hvs
  obtain ⟨b3, o3, rfl, hb3, hc3⟩ := hAa2 (by rw [hads.1]; decide)
  have l5 : w2.cell? _ = _ := hc3 0 _ hcv 5 _ rfl
  have t0 : w2.cell? _ = _ := hcb 0 _ rfl
  have c1 : w2.cell? ⟨w1.heap.size, 1, none⟩ = some (.int .i64 2) := r1.cell (i := 1) rfl
  have c9 : w2.cell? ⟨w1.heap.size, 9, none⟩ = some (.int .i64 3) := r1.cell (i := 9) rfl
  have c10 : w2.cell? ⟨w1.heap.size, 10, none⟩ = some (.int .i64 36) := r1.cell (i := 10) rfl
  have c11 : w2.cell? ⟨w1.heap.size, 11, none⟩ = some (.int .i64 1230) := r1.cell (i := 11) rfl
  have c20 : w2.cell? ⟨w1.heap.size, 20, none⟩ = some (.slice (some ⟨b3, o3, none⟩) 1 ca) := r1.cell (i := 20) rfl
  have c21 : w2.cell? ⟨w1.heap.size, 21, none⟩ = some (.slice (some ⟨b, o, none⟩) 2 ct) := r1.cell (i := 21) rfl
  refine W_piece fun K hK hX => ?_
  refine W_piece fun K2 hK2 hX2 => ?_
  have n1 : decide (((0 : Nat) : Int) + 1 = 1) = true := rfl
  have n2 : decide (((0 : Nat) : Int) + 1 + 1 = 2) = true := rfl
  simp +contextual (maxSteps := 2000000) (disch := first | omega | (simp only [SZ]; first | done | omega) | (simp only [TS] at *; omega)) only [RZ, ovw, oneC, reduceAdd, reduceMul, reduceSub, reduceEqDiff, reduceLT, ↓reduceIte, Int.reduceToNat, reduceLeDiff,  c1, c9, c10, c11, c20, c21, l5, t0, n1, n2]
  have hbl := below_alloc w2 (.cells #[.int .i64 300, .int .i64 5000] 3)
  have hNew : Arr (w2.alloc (.cells #[.int .i64 300, .int .i64 5000] 3)) (some ⟨w2.heap.size, 0, none⟩) 1 (([300, 5000] : List Int).map fun n => [Value.int .i64 n]) :=
    arr_row (Vs := ([300, 5000] : List Int).map fun n => [Value.int .i64 n]) (Row.new w2 3 [.int .i64 300, .int .i64 5000]) (by simp)
  refine (ints_any [300, 5000] As (some ⟨w2.heap.size, 0, none⟩) cS 2 _ ((hAs.below hB2).below hbl) hNew (by decide)).mono ?_
  rintro e w3 ⟨rfl, hB3⟩
  refine ⟨_, rfl, ?_⟩
  have hB23 : Below w2.heap.size w2 w3 := hbl.trans (hB3.mono hbl.size)
  try simp +contextual (maxSteps := 2000000) (disch := first | omega | (simp only [SZ]; first | done | omega) | (simp only [TS] at *; omega)) only [RZ, ovw, oneC, reduceAdd, reduceMul, reduceSub, reduceEqDiff, reduceLT, ↓reduceIte, Int.reduceToNat, reduceLeDiff]
  refine hK2 _ _ ?_
  clear hK2 hX2 K2
  refine W_if_f (by rfl) ?_
  rw [W_skip]
  refine hK _ _ ?_
  clear hK hX K
  have hG3 := hG2.below hB23
  have r3 := r1.below hB23
  have hF3 : Below w.heap.size w w3 := hB1.trans ((hB2.trans (hB23.mono hB2.size)).mono hz1)
  have hW3 := hW.below hF3 hW.size
  have hz3 := hF3.size
  refine W_piece fun K hK hX => ?_
  simp +contextual (maxSteps := 2000000) (disch := first | omega | (simp only [SZ]; first | done | omega) | (simp only [TS] at *; omega)) only [RZ, ovw, oneC, reduceAdd, reduceMul, reduceSub, reduceEqDiff, reduceLT, ↓reduceIte, Int.reduceToNat, reduceLeDiff]
  refine (parse_ex (q := noGm) (er := 6) (ln := 2) (by decide) hW3 (by omega) (by kernel_rfl)).mono ?_
  rintro e w4 ⟨hB4, Va4, Vt4, rfl, hG4⟩
  refine ⟨_, rfl, ?_⟩
  obtain ⟨⟨Aa4, ca4, Vs4, rfl, _⟩, At4, ct4, rfl, _⟩ := id hG4
  simp only [gmV]
  simp +contextual (maxSteps := 2000000) (disch := first | omega | (simp only [SZ]; first | done | omega) | (simp only [TS] at *; omega)) only [RZ, ovw, oneC, reduceAdd, reduceMul, reduceSub, reduceEqDiff, reduceLT, ↓reduceIte, Int.reduceToNat, reduceLeDiff]
  refine hK _ _ ?_
  clear hK hX K
  refine W_gen fun w5 hw5 => ?_
  have hB5 : Below w4.heap.size w4 w5 := by rw [hw5]; exact below_alloc w4 _
  clear hw5
  have hB35 : Below w3.heap.size w3 w5 := hB4.trans (hB5.mono hB4.size)
  have hG5 := hG3.below hB35
  have r5 := r3.below hB35
  have hF5 := hF3.trans (hB35.mono hF3.size)
  have hl5 : vLoad Tryz.prog 26 (.pointer (some ⟨w1.heap.size, 0, none⟩)) w5 = .ok (.value (.agg (gmV exT (.slice (some ⟨b3, o3, none⟩) exT.addons.length ca) (.slice (some ⟨b, o, none⟩) exT.tiers.length ct)).toArray)) w5 :=
    vLoad_all (by kernel_rfl) (by rw [gmV_len]; kernel_rfl) (fun i v hv => by rw [Nat.zero_add]; exact r5.cell hv)
  refine W_piece fun K hK hX => ?_
  simp +contextual (maxSteps := 2000000) (disch := first | omega | (simp only [SZ]; first | done | omega) | (simp only [TS] at *; omega)) only [RZ, ovw, oneC, reduceAdd, reduceMul, reduceSub, reduceEqDiff, reduceLT, ↓reduceIte, Int.reduceToNat, reduceLeDiff,  hl5]
  refine (print_any exT _ _ w5 (hW.below hF5 hW.size) (by have := hF5.size; omega) hG5 (by unfold Gm.little; decide)).mono ?_
  rintro e w6 ⟨rfl, hB6⟩
  refine ⟨_, rfl, ?_⟩
  try simp +contextual (maxSteps := 2000000) (disch := first | omega | (simp only [SZ]; first | done | omega) | (simp only [TS] at *; omega)) only [RZ, ovw, oneC, reduceAdd, reduceMul, reduceSub, reduceEqDiff, reduceLT, ↓reduceIte, Int.reduceToNat, reduceLeDiff]
  refine hK _ _ ?_
  clear hK hX K
  simp +contextual (maxSteps := 2000000) (disch := first | omega | (simp only [SZ]; first | done | omega) | (simp only [TS] at *; omega)) only [RZ, ovw, oneC, reduceAdd, reduceMul, reduceSub, reduceEqDiff, reduceLT, ↓reduceIte, Int.reduceToNat, reduceLeDiff]
  refine ⟨congrArg (fun b => Ending.returned (.bool b)) (decide_eq_true (by decide +kernel)), hF5.trans (hB6.mono hF5.size)⟩
end Go.Proofs.YtbdkggnajipdhaaGreatDoor
/- Walks: the reference's Size, Format. -/
namespace Go.Proofs.YtbdkggnajipdhaaGreatDoor
open Go.RowKit
set_option maxRecDepth 100000
theorem toBA_size (l : List Nat) : (toBA l).size = l.length := by
  unfold toBA
  show (Array.size _) = _
  simp
end Go.Proofs.YtbdkggnajipdhaaGreatDoor
/- Walks: the reference's printer of games: Word, fine. -/
namespace Go.Proofs.YtbdkggnajipdhaaGreatDoor
open Go.RowKit
set_option maxRecDepth 100000
end Go.Proofs.YtbdkggnajipdhaaGreatDoor
/- Walks: the reference's printer of games: put, of, row, hit. -/
namespace Go.Proofs.YtbdkggnajipdhaaGreatDoor
open Go.RowKit
set_option maxRecDepth 100000
end Go.Proofs.YtbdkggnajipdhaaGreatDoor
/- Walks: the reference's printer of games: printDays, printAddon, printTier. -/
namespace Go.Proofs.YtbdkggnajipdhaaGreatDoor
open Go.RowKit
set_option maxRecDepth 100000
end Go.Proofs.YtbdkggnajipdhaaGreatDoor
/- Walks: the reference's printer of games: Days, printDays. -/
namespace Go.Proofs.YtbdkggnajipdhaaGreatDoor
open Go.RowKit
set_option maxRecDepth 100000
end Go.Proofs.YtbdkggnajipdhaaGreatDoor
/- Walks: the reference's printer of games: fineAddon, fineTier. -/
namespace Go.Proofs.YtbdkggnajipdhaaGreatDoor
open Go.RowKit
set_option maxRecDepth 100000
end Go.Proofs.YtbdkggnajipdhaaGreatDoor
/- Walks: the reference's Printable and Print. -/
namespace Go.Proofs.YtbdkggnajipdhaaGreatDoor
open Go.RowKit
set_option maxRecDepth 100000
end Go.Proofs.YtbdkggnajipdhaaGreatDoor
/- Walks: the reference's Print of a game. -/
namespace Go.Proofs.YtbdkggnajipdhaaGreatDoor
open Go.RowKit
set_option maxRecDepth 100000
end Go.Proofs.YtbdkggnajipdhaaGreatDoor
/- Regions that draw their order: many readers at once, some of them behind a condition that holds. -/
namespace Go.Proofs.YtbdkggnajipdhaaGreatDoor
open Go.RowKit
end Go.Proofs.YtbdkggnajipdhaaGreatDoor
/- Walk: the law RuletextPrints. -/
namespace Go.Proofs.YtbdkggnajipdhaaGreatDoor
open Go.RowKit
set_option maxRecDepth 100000
end Go.Proofs.YtbdkggnajipdhaaGreatDoor
/- From a contract to a row: the arguments are opened; behind the call they read as before, for nothing below has turned. -/
namespace Go.Proofs.YtbdkggnajipdhaaGreatDoor
open Go.ChangeShapes Go.WideShapes Go.ChangeAt Go.RowKit Go.Joins Go.Deep
theorem ownNone : ownKnob Tryz.prog.godebug = none := by kernel_rfl
theorem laidAll : laidOutB Tryz.prog = true := by kernel_rfl
section
variable {H : Type} {enc : TypeId × Value → H} {P : Program} {W W' : World} {sp : Nat → Bool}
theorem trodAll_stay (hl : laidOutB P = true) : ∀ (ts : List TypeId) (vs : List Value) (ds : List (DataW H)) (ps : List MemPlace), (∀ t ∈ ts, P.readableRec t = true ∧ t < P.types.size) →
    DataW.TrodAll enc P W 0 (fun _ => true) true ts vs ds ps → (∀ p ∈ ps, W.sameAt W' p) → (∀ p ∈ ps, sp p.block = true) → DataW.TrodAll enc P W' 0 sp true ts vs ds ps
  | [], [], [], ps, _, h, _, _ => h
  | t :: ts, v :: vs, d :: ds, ps, ht, ⟨p, q, h1, h2, e⟩, hs, hp =>
    ⟨p, q, WideElems.Trod_stays hl (ht t (by simp)).1 (ht t (by simp)).2 h1 (fun x hx => hs x (by rw [e]; simp [hx])) (fun x hx => hp x (by rw [e]; simp [hx])),
      trodAll_stay hl ts vs ds q (fun t' h' => ht t' (by simp [h'])) h2 (fun x hx => hs x (by rw [e]; simp [hx])) (fun x hx => hp x (by rw [e]; simp [hx])), e⟩
  | [], _ :: _, _, _, _, h, _, _ => h.elim
  | [], [], _ :: _, _, _, h, _, _ => h.elim
  | _ :: _, [], _, _, _, h, _, _ => h.elim
  | _ :: _, _ :: _, [], _, _, h, _, _ => h.elim
/-- The closing of a law's row: true is returned, and nothing that was there has turned. -/
theorem row_close {f : Func} {s : ChangeSpec} {fid : FuncId} {args : Array Value} {ds gs : List (DataW H)} {before : List MemPlace} {tb : TypeId} (hl : laidOutB P = true)
    (hts : f.params.toList.all (fun t => P.readableRec t && decide (t < P.types.size)) = true) (hvars : s.vars = []) (hres : f.resultTypes = #[tb]) (hb : P.underlying tb = some .bool)
    (hW : DataW.Whole enc P f.params.toList s.vars false W args.toList ds gs before)
    (h1 : (s.fn H ds).results = [.lit (.bool true)]) (h2 : (s.fn H ds).args = ds) (h3 : (s.fn H ds).vars = [])
    (walk : Calls P fid args W fun e W' => e = .returned (.bool true) ∧ Below W.heap.size W W') :
    Calls P fid args W fun e W' => ∃ v, e = .returned v ∧ s.post enc P f false true false false W args v W' := by
  have ht : ∀ t ∈ f.params.toList, P.readableRec t = true ∧ t < P.types.size := fun t h => by simpa using List.all_eq_true.1 hts t h
  refine walk.mono fun e W' ⟨he, hg⟩ => ⟨_, he, ?_⟩
  have hW' := hW
  obtain ⟨p, q, hA, hV, e, hfz, hnd⟩ := hW
  rw [hvars] at hV
  obtain ⟨rfl, rfl⟩ := trodVars_none hV
  have hlt := hW'.lt
  rw [List.append_nil] at e
  subst e
  have hnil : ds ++ ([] : List (DataW H)) = ds := List.append_nil ds
  have res : ∀ (b : Nat) (sp : Nat → Bool) (hd : Bool), DataW.TrodAll enc P W' b sp hd f.resultTypes.toList ((Value.bool true).resultList f.resultTypes.size) (s.fn H (ds ++ [])).results [] := fun b sp hd => by
    rw [hnil, h1, hres]; exact trodAll_mk1 (shut_bool hb _)
  have arg : ∀ sp : Nat → Bool, (∀ x ∈ before, sp x.block = true) → DataW.TrodAll enc P W' 0 sp true f.params.toList args.toList (s.fn H (ds ++ [])).args before := fun sp hsp => by
    rw [hnil, h2]; exact trodAll_stay hl _ _ _ _ ht hA (fun x hx => hg.same (hlt x hx)) hsp
  have vars : ∀ sp : Nat → Bool, DataW.TrodVars enc P W' sp s.vars (s.fn H (ds ++ [])).vars [] := fun sp => by
    rw [hnil, h3, hvars]; rfl
  have old : ∀ x ∈ before, (fun b => decide (b < W.heap.size)) x.block = true := fun x hx => by simpa using hlt x hx
  exact ⟨ds, [], before, [], before, [], hW', res _ _ _, arg _ old, vars _, hg.frame _, fun h => by cases h⟩
end
section
variable {H : Type} {enc : TypeId × Value → H} {P : Program} {w : World} {base : Nat} {spare : Nat → Bool} {held : Bool}
theorem open_slice_fields {t e : TypeId} {fs : Array Field} {fuel : Nat} {cs : List Value} {x : DataW H × List MemPlace} (ht : P.underlying t = some (.slice e)) (he : P.underlying e = some (.struct fs))
    (hone : oneCellFields P fs = true) (hC : P.cellsOf e = fs.size) (h : DataW.trod enc P w base spare held fuel t cs = some x) :
    (cs = [.slice none 0 0] ∧ x = (.nil, [])) ∨
    ∃ (a : Addr) (len cap m : Nat) (D : Nat → DataW H) (Pl : Nat → List MemPlace), cs = [.slice (some a) len cap] ∧ base ≤ a.block ∧ len ≤ cap ∧ cap ≤ maxLen ∧ m = (if spare a.block then cap else len) ∧
      x = (.slice ((List.range len).map D) ((List.range (m - len)).map fun j => D (len + j)), MemPlace.row a (m * fs.size) ++ (List.range m).flatMap Pl) ∧
      ∀ i, i < m → ∃ (ys : List (DataW H × List MemPlace)) (n : Nat), D i = .agg (ys.map (·.1)) ∧ Pl i = ys.flatMap (·.2) ∧ ys.length = fs.size ∧
        ∀ (j : Nat) (f : Field), fs[j]? = some f → ∃ (v : Value) (y : DataW H × List MemPlace), w.cell? (a.add (i * fs.size + j)) = some v ∧ ys[j]? = some y ∧ DataW.trod enc P w base spare held n f.type [v] = some y := by
  rcases open_slice ht h with h0 | ⟨a, len, cap, m, n, D, Pl, hcs, hb, hl, hm, hmm, hx, hi⟩
  · exact .inl h0
  · refine .inr ⟨a, len, cap, m, D, Pl, hcs, hb, hl, hm, hmm, by rw [hC] at hx; exact hx, fun i him => ?_⟩
    obtain ⟨cs', hc, ht'⟩ := hi i him
    rw [hC] at hc
    obtain ⟨ys, n', hn', hy, hlen, hyl, hf⟩ := DataW.trod_struct he ht'
    obtain ⟨_, hcl, hat⟩ := World.cells?_some hc
    simp only [Prod.mk.injEq] at hy
    refine ⟨ys, n', hy.1, hy.2, hyl, fun j f hj => ?_⟩
    obtain ⟨ho, hk⟩ := hone_of hone j f hj
    have hjl : j < fs.size := (Array.getElem?_eq_some_iff.1 hj).1
    have hcell := hat j hjl
    have hv : cs'[j]? = some (cs'[j]'(by omega)) := List.getElem?_eq_getElem (by omega)
    have h1 := hf j f hj
    rw [ho, hk] at h1
    have hone' : (cs'.drop j).take 1 = [cs'[j]'(by omega)] := by
      rw [List.drop_eq_getElem_cons (by omega)]
      rfl
    rw [hone'] at h1
    have hys : ys[j]? = some (ys[j]'(by omega)) := List.getElem?_eq_getElem (by omega)
    refine ⟨_, _, ?_, hys, h1.trans hys⟩
    rw [← Go.Deep.add_add, hcell, hv]
end
end Go.Proofs.YtbdkggnajipdhaaGreatDoor
/- What the row says of the listed variables, as the walks ask it; the witness's world. -/
namespace Go.Proofs.YtbdkggnajipdhaaGreatDoor
open Go.ChangeShapes Go.WideShapes Go.ChangeAt Go.WideMaps Go.WideElems Go.RowKit Go.Joins Go.Deep
set_option maxRecDepth 100000
theorem days_data : (Rows.laid_lottery_ruletext_dayNames : DataW Unit) = .agg (dayW.map fun d => .lit (.string (d.map UInt8.ofNat))) := by kernel_rfl
theorem days_cells {W : World} {fuel : Nat} {cs : List Value} {p : List MemPlace} (h : DataW.trod (fun _ => ()) Tryz.prog W 0 (fun _ => true) false fuel 102 cs = some (Rows.laid_lottery_ruletext_dayNames, p)) :
    ∀ (i : Nat) (v : Value), dayC[i]? = some v → cs[i]? = some v := by
  rw [days_data] at h
  obtain ⟨xs, m, rfl, hx, hlen, hn, hel⟩ := DataW.trod_array Tryz.underlying102 h
  have hC : Tryz.prog.cellsOf 9 = 1 := by kernel_rfl
  rw [hC] at hel
  simp only [Prod.mk.injEq, DataW.agg.injEq] at hx
  intro i v hv
  unfold dayC at hv
  rw [List.getElem?_map] at hv
  obtain ⟨d, hd, rfl⟩ := Option.map_eq_some_iff.1 hv
  have hi : i < 7 := (List.getElem?_eq_some_iff.1 hd).1
  have h1 := hel i hi
  have h2 : (xs.map (·.1))[i]? = some (.lit (.string (d.map UInt8.ofNat))) := by rw [← hx.1, List.getElem?_map, hd]; rfl
  rw [List.getElem?_map] at h2
  obtain ⟨x, hxi, hx2⟩ := Option.map_eq_some_iff.1 h2
  rw [hxi] at h1
  obtain ⟨s1, e1, d1, _⟩ := DataW.trod_string Tryz.underlying9 h1
  subst d1
  simp only [DataW.lit.injEq, Lit.string.injEq] at hx2
  have t1 : s1 = toBA d := by
    apply ByteArray.ext; apply Array.ext'; rw [hx2]; rfl
  subst t1
  have := congrArg (·[0]?) e1
  simp only [List.getElem?_cons_zero] at this
  rw [List.getElem?_take_of_lt (by decide), List.getElem?_drop] at this
  simpa using this
end Go.Proofs.YtbdkggnajipdhaaGreatDoor
/- Contracts of Go's library, laid by the kit's tools over this translation (wip/shelf.py keeps those that are used). -/
namespace Go.Proofs
open Go.Shelf
def Tryz.lays102_ren : Go.Shelf.Ren := ⟨fun | 102 => 47 | 209 => 87 | 207 => 124 | n => n, fun | 9 => 9 | 4 => 4 | 3 => 3 | n => n, fun | n => n⟩
theorem Tryz.lays102 : Go.Proofs.Lays.n102 Tryz.prog Tryz.lays102_ren := {
  mixed := by kernel_rfl
  f102 := Tryz.func47.trans (congrArg some (by kernel_rfl))
  f207 := Tryz.func124.trans (congrArg some (by kernel_rfl))
  f209 := Tryz.func87.trans (congrArg some (by kernel_rfl))
  t3 := Tryz.underlying3
  a3 := Tryz.isAgg3
  z3 := Tryz.sizeOf3
  v3 := Tryz.zeroValue3
  t4 := Tryz.underlying4
  a4 := Tryz.isAgg4
  z4 := Tryz.sizeOf4
  v4 := Tryz.zeroValue4
  t9 := Tryz.underlying9
  a9 := Tryz.isAgg9
  z9 := Tryz.sizeOf9
  v9 := Tryz.zeroValue9 }
open Go.RowKit Go.Lib in
/-- strings.TrimSuffix: "TrimSuffix returns s without the provided trailing suffix string. If s doesn't end with suffix, s is returned unchanged.": IT RETURNS 'Lib.trimSuffix s suffix'; the world is as it was. (LAID: no walk: one application.) -/
theorem Tryz.strings_TrimSuffix (s p : ByteArray) (w : World) (hs : s.size ≤ 9223372036854775807) :
    Calls Tryz.prog 47 #[.string s, .string p] w fun e w' => e = .returned (.string ⟨(Lib.trimSuffix s.data.toList p.data.toList).toArray⟩) ∧ w' = w := Any.strings_TrimSuffix Tryz.lays102 s p w hs
def Tryz.lays146_ren : Go.Shelf.Ren := ⟨fun | 146 => 46 | 221 => 86 | 268 => 123 | 138 => 20 | 143 => 54 | 195 => 52 | 197 => 138 | 218 => 53 | 219 => 100 | 260 => 145 | 217 => 127 | 225 => 128 | 224 => 129 | 267 => 130 | 266 => 141 | 314 => 142 | n => n, fun | 9 => 9 | 31 => 35 | 3 => 3 | 4 => 4 | 0 => 0 | 105 => 141 | 21 => 21 | 5 => 5 | 46 => 139 | 119 => 112 | 139 => 160 | 138 => 159 | 146 => 153 | 51 => 135 | n => n, fun | 1 => 2 | 3 => 4 | 4 => 5 | n => n⟩
theorem Tryz.lays146 : Go.Proofs.Lays.n146 Tryz.prog Tryz.lays146_ren := {
  mixed := by kernel_rfl
  f138 := Tryz.func20.trans (congrArg some (by kernel_rfl))
  f143 := Tryz.func54.trans (congrArg some (by kernel_rfl))
  f146 := Tryz.func46.trans (congrArg some (by kernel_rfl))
  f195 := Tryz.func52.trans (congrArg some (by kernel_rfl))
  f197 := Tryz.func138.trans (congrArg some (by kernel_rfl))
  f217 := Tryz.func127.trans (congrArg some (by kernel_rfl))
  f218 := Tryz.func53.trans (congrArg some (by kernel_rfl))
  f219 := Tryz.func100.trans (congrArg some (by kernel_rfl))
  f221 := Tryz.func86.trans (congrArg some (by kernel_rfl))
  f224 := Tryz.func129.trans (congrArg some (by kernel_rfl))
  f225 := Tryz.func128.trans (congrArg some (by kernel_rfl))
  f260 := Tryz.func145.trans (congrArg some (by kernel_rfl))
  f266 := Tryz.func141.trans (congrArg some (by kernel_rfl))
  f267 := Tryz.func130.trans (congrArg some (by kernel_rfl))
  f268 := Tryz.func123.trans (congrArg some (by kernel_rfl))
  f314 := Tryz.func142.trans (congrArg some (by kernel_rfl))
  t0 := Tryz.underlying0
  a0 := Tryz.isAgg0
  z0 := Tryz.sizeOf0
  v0 := Tryz.zeroValue0
  t3 := Tryz.underlying3
  a3 := Tryz.isAgg3
  z3 := Tryz.sizeOf3
  v3 := Tryz.zeroValue3
  t4 := Tryz.underlying4
  a4 := Tryz.isAgg4
  z4 := Tryz.sizeOf4
  v4 := Tryz.zeroValue4
  t5 := Tryz.underlying5
  a5 := Tryz.isAgg5
  z5 := Tryz.sizeOf5
  v5 := Tryz.zeroValue5
  t9 := Tryz.underlying9
  a9 := Tryz.isAgg9
  z9 := Tryz.sizeOf9
  v9 := Tryz.zeroValue9
  t21 := Tryz.underlying21
  a21 := Tryz.isAgg21
  z21 := Tryz.sizeOf21
  v21 := Tryz.zeroValue21
  t31 := Tryz.underlying35
  a31 := Tryz.isAgg35
  z31 := Tryz.sizeOf35
  v31 := Tryz.zeroValue35
  t46 := Tryz.underlying139
  a46 := Tryz.isAgg139
  z46 := Tryz.sizeOf139
  v46 := Tryz.zeroValue139
  t51 := Tryz.underlying135
  a51 := Tryz.isAgg135
  z51 := Tryz.sizeOf135
  v51 := Tryz.zeroValue135
  t105 := Tryz.underlying141
  a105 := Tryz.isAgg141
  z105 := Tryz.sizeOf141
  v105 := Tryz.zeroValue141
  t119 := Tryz.underlying112
  a119 := Tryz.isAgg112
  z119 := Tryz.sizeOf112
  t138 := Tryz.underlying159
  a138 := Tryz.isAgg159
  z138 := Tryz.sizeOf159
  v138 := Tryz.zeroValue159
  t139 := Tryz.underlying160
  a139 := Tryz.isAgg160
  z139 := Tryz.sizeOf160
  v139 := Tryz.zeroValue160
  t146 := Tryz.underlying153
  a146 := Tryz.isAgg153
  z146 := Tryz.sizeOf153
  v146 := Tryz.zeroValue153
  g1 := by kernel_rfl
  g3 := by kernel_rfl
  g4 := by kernel_rfl }
open Go.RowKit Go.Lib in
/-- strings.Split. (LAID: no walk: one application.) -/
theorem Tryz.strings_Split (s sep : ByteArray) (m : Int) (w : World) (hs : s.size < 4294967281) (hm : w.cell? ⟨2, 0, none⟩ = some (.int .i64 m)) (h1 : 1 ≤ sep.size) :
    Calls Tryz.prog 46 #[.string s, .string sep] w fun e w' =>
      e = .returned (.slice (some ⟨w.heap.size, 0, none⟩) (Lib.countB s sep + 1) (Lib.countB s sep + 1)) ∧ w' = w.alloc (.cells ((Lib.splitB sep 0 (Lib.countB s sep) s).map Value.string).toArray 9) := Any.strings_Split Tryz.lays146 (by kernel_rfl) s sep m w hs hm h1
def Tryz.lays157_ren : Go.Shelf.Ren := ⟨fun | 157 => 48 | 229 => 88 | 199 => 89 | 261 => 125 | 311 => 139 | 312 => 140 | n => n, fun | 9 => 9 | 31 => 35 | 3 => 3 | 5 => 5 | 4 => 4 | 119 => 112 | 0 => 0 | 40 => 114 | 152 => 132 | 21 => 21 | 154 => 134 | 51 => 135 | 141 => 137 | 196 => 146 | 193 => 143 | 198 => 148 | 49 => 34 | 194 => 144 | 201 => 151 | 226 => 155 | 46 => 139 | 227 => 156 | n => n, fun | 0 => 1 | 6 => 3 | n => n⟩
theorem Tryz.lays157 : Go.Proofs.Lays.n157 Tryz.prog Tryz.lays157_ren := {
  mixed := by kernel_rfl
  f157 := Tryz.func48.trans (congrArg some (by kernel_rfl))
  f199 := Tryz.func89.trans (congrArg some (by kernel_rfl))
  f229 := Tryz.func88.trans (congrArg some (by kernel_rfl))
  f261 := Tryz.func125.trans (congrArg some (by kernel_rfl))
  f311 := Tryz.func139.trans (congrArg some (by kernel_rfl))
  f312 := Tryz.func140.trans (congrArg some (by kernel_rfl))
  t0 := Tryz.underlying0
  a0 := Tryz.isAgg0
  z0 := Tryz.sizeOf0
  v0 := Tryz.zeroValue0
  t3 := Tryz.underlying3
  a3 := Tryz.isAgg3
  z3 := Tryz.sizeOf3
  v3 := Tryz.zeroValue3
  t4 := Tryz.underlying4
  a4 := Tryz.isAgg4
  z4 := Tryz.sizeOf4
  v4 := Tryz.zeroValue4
  t5 := Tryz.underlying5
  a5 := Tryz.isAgg5
  z5 := Tryz.sizeOf5
  v5 := Tryz.zeroValue5
  t9 := Tryz.underlying9
  a9 := Tryz.isAgg9
  z9 := Tryz.sizeOf9
  v9 := Tryz.zeroValue9
  t21 := Tryz.underlying21
  a21 := Tryz.isAgg21
  z21 := Tryz.sizeOf21
  v21 := Tryz.zeroValue21
  t31 := Tryz.underlying35
  a31 := Tryz.isAgg35
  z31 := Tryz.sizeOf35
  v31 := Tryz.zeroValue35
  t40 := Tryz.underlying114
  a40 := Tryz.isAgg114
  z40 := Tryz.sizeOf114
  v40 := Tryz.zeroValue114
  t46 := Tryz.underlying139
  a46 := Tryz.isAgg139
  z46 := Tryz.sizeOf139
  v46 := Tryz.zeroValue139
  t49 := Tryz.underlying34
  a49 := Tryz.isAgg34
  z49 := Tryz.sizeOf34
  v49 := Tryz.zeroValue34
  t51 := Tryz.underlying135
  a51 := Tryz.isAgg135
  z51 := Tryz.sizeOf135
  v51 := Tryz.zeroValue135
  t119 := Tryz.underlying112
  a119 := Tryz.isAgg112
  z119 := Tryz.sizeOf112
  t141 := Tryz.underlying137
  a141 := Tryz.isAgg137
  z141 := Tryz.sizeOf137
  v141 := Tryz.zeroValue137
  t152 := Tryz.underlying132
  a152 := Tryz.isAgg132
  z152 := Tryz.sizeOf132
  v152 := Tryz.zeroValue132
  t154 := Tryz.underlying134
  a154 := Tryz.isAgg134
  z154 := Tryz.sizeOf134
  v154 := Tryz.zeroValue134
  t193 := Tryz.underlying143
  a193 := Tryz.isAgg143
  z193 := Tryz.sizeOf143
  v193 := Tryz.zeroValue143
  t194 := Tryz.underlying144
  a194 := Tryz.isAgg144
  z194 := Tryz.sizeOf144
  v194 := Tryz.zeroValue144
  t196 := Tryz.underlying146
  a196 := Tryz.isAgg146
  z196 := Tryz.sizeOf146
  v196 := Tryz.zeroValue146
  t198 := Tryz.underlying148
  a198 := Tryz.isAgg148
  z198 := Tryz.sizeOf148
  v198 := Tryz.zeroValue148
  t201 := Tryz.underlying151
  a201 := Tryz.isAgg151
  z201 := Tryz.sizeOf151
  v201 := Tryz.zeroValue151
  t226 := Tryz.underlying155
  a226 := Tryz.isAgg155
  z226 := Tryz.sizeOf155
  v226 := Tryz.zeroValue155
  t227 := Tryz.underlying156
  a227 := Tryz.isAgg156
  z227 := Tryz.sizeOf156
  v227 := Tryz.zeroValue156
  g0 := by kernel_rfl
  g6 := by kernel_rfl }
open Go.RowKit Go.Lib in
/-- strings.Fields, the table by 'Lib.TabIs' (as strings.TrimSpace's contract). 'hg': the table's number, by its name: at a dump 'by kernel_rfl'. (LAID: no walk: one application.) -/
theorem Tryz.strings_Fields (s : ByteArray) (w : World) (hs : s.size < 4294967281) (hascii : ∀ (j : Nat) b, s.data.toList[j]? = some b → b.toNat < 128) (htab : Lib.TabIs Tryz.prog w "strings.asciiSpace" .u8 Lib.asciiSpaceTab) :
    Calls Tryz.prog 48 #[.string s] w fun e w' =>
      e = .returned (.slice (some ⟨w.heap.size, 0, none⟩) (Lib.fields s.data.toList).length (Lib.fields s.data.toList).length) ∧ w' = w.alloc (.cells ((Lib.fields s.data.toList).map fun l => Value.string ⟨l.toArray⟩).toArray 9) := Any.strings_Fields Tryz.lays157 (by kernel_rfl) (by kernel_rfl) s w hs hascii htab
def Tryz.laysM146_ren : Go.Shelf.Ren := ⟨fun | 146 => 46 | 221 => 86 | 268 => 123 | 138 => 20 | 143 => 54 | 195 => 52 | 197 => 138 | 218 => 53 | 219 => 100 | 260 => 145 | 217 => 127 | 225 => 128 | 224 => 129 | 267 => 130 | 266 => 141 | 314 => 142 | n => n, fun | 9 => 9 | 31 => 35 | 3 => 3 | 4 => 4 | 0 => 0 | 105 => 141 | 21 => 21 | 5 => 5 | 46 => 139 | 119 => 112 | 139 => 160 | 138 => 159 | 146 => 153 | 51 => 135 | n => n, fun | 1 => 2 | 3 => 4 | 4 => 5 | n => n⟩
theorem Tryz.laysM146 : Go.Proofs.LaysM.n146 Tryz.prog Tryz.laysM146_ren := {
  mixed := by kernel_rfl
  f138 := Tryz.func20.trans (congrArg some (by kernel_rfl))
  f143 := Tryz.func54.trans (congrArg some (by kernel_rfl))
  f146 := Tryz.func46.trans (congrArg some (by kernel_rfl))
  f195 := Tryz.func52.trans (congrArg some (by kernel_rfl))
  f197 := Tryz.func138.trans (congrArg some (by kernel_rfl))
  f217 := Tryz.func127.trans (congrArg some (by kernel_rfl))
  f218 := Tryz.func53.trans (congrArg some (by kernel_rfl))
  f219 := Tryz.func100.trans (congrArg some (by kernel_rfl))
  f221 := Tryz.func86.trans (congrArg some (by kernel_rfl))
  f224 := Tryz.func129.trans (congrArg some (by kernel_rfl))
  f225 := Tryz.func128.trans (congrArg some (by kernel_rfl))
  f260 := Tryz.func145.trans (congrArg some (by kernel_rfl))
  f266 := Tryz.func141.trans (congrArg some (by kernel_rfl))
  f267 := Tryz.func130.trans (congrArg some (by kernel_rfl))
  f268 := Tryz.func123.trans (congrArg some (by kernel_rfl))
  f314 := Tryz.func142.trans (congrArg some (by kernel_rfl))
  t0 := Tryz.underlying0
  a0 := Tryz.isAgg0
  z0 := Tryz.sizeOf0
  v0 := Tryz.zeroValue0
  t3 := Tryz.underlying3
  a3 := Tryz.isAgg3
  z3 := Tryz.sizeOf3
  v3 := Tryz.zeroValue3
  t4 := Tryz.underlying4
  a4 := Tryz.isAgg4
  z4 := Tryz.sizeOf4
  v4 := Tryz.zeroValue4
  t5 := Tryz.underlying5
  a5 := Tryz.isAgg5
  z5 := Tryz.sizeOf5
  v5 := Tryz.zeroValue5
  t9 := Tryz.underlying9
  a9 := Tryz.isAgg9
  z9 := Tryz.sizeOf9
  v9 := Tryz.zeroValue9
  t21 := Tryz.underlying21
  a21 := Tryz.isAgg21
  z21 := Tryz.sizeOf21
  v21 := Tryz.zeroValue21
  t31 := Tryz.underlying35
  a31 := Tryz.isAgg35
  z31 := Tryz.sizeOf35
  v31 := Tryz.zeroValue35
  t46 := Tryz.underlying139
  a46 := Tryz.isAgg139
  z46 := Tryz.sizeOf139
  v46 := Tryz.zeroValue139
  t51 := Tryz.underlying135
  a51 := Tryz.isAgg135
  z51 := Tryz.sizeOf135
  v51 := Tryz.zeroValue135
  t105 := Tryz.underlying141
  a105 := Tryz.isAgg141
  z105 := Tryz.sizeOf141
  v105 := Tryz.zeroValue141
  t119 := Tryz.underlying112
  a119 := Tryz.isAgg112
  z119 := Tryz.sizeOf112
  t138 := Tryz.underlying159
  a138 := Tryz.isAgg159
  z138 := Tryz.sizeOf159
  v138 := Tryz.zeroValue159
  t139 := Tryz.underlying160
  a139 := Tryz.isAgg160
  z139 := Tryz.sizeOf160
  v139 := Tryz.zeroValue160
  t146 := Tryz.underlying153
  a146 := Tryz.isAgg153
  z146 := Tryz.sizeOf153
  v146 := Tryz.zeroValue153
  g1 := by kernel_rfl
  g3 := by kernel_rfl
  g4 := by kernel_rfl
  i0 := by kernel_rfl
  i3 := by kernel_rfl
  i4 := by kernel_rfl
  i5 := by kernel_rfl
  i9 := by kernel_rfl
  i21 := by kernel_rfl
  i31 := by kernel_rfl
  i46 := by kernel_rfl
  i51 := by kernel_rfl
  i105 := by kernel_rfl
  i138 := by kernel_rfl
  i139 := by kernel_rfl
  i146 := by kernel_rfl
  m1 := by kernel_rfl
  s1_3 := fun w h => Go.Proofs.cell_of_shapedOpen_int (zero := #[.int .i64 0]) (t := 3) h (of_decide_eq_true (by kernel_rfl)) (by kernel_rfl) rfl (by kernel_rfl) (by kernel_rfl) Tryz.underlying3
  m3 := by kernel_rfl
  m4 := by kernel_rfl }
end Go.Proofs
/- What the rows of Orders and Twice say of the listed variables, as the walks ask it; the witness's world; a wrap that keeps the world's shape. -/
namespace Go.Proofs.YtbdkggnajipdhaaGreatDoor
open Go.ChangeShapes Go.WideShapes Go.ChangeAt Go.WideMaps Go.WideElems Go.RowKit Go.Joins Go.Deep
set_option maxRecDepth 100000
theorem u16_wf {n : Int} (h : (Lit.int .u16 n).wf = true) : 0 ≤ n ∧ n < 65536 := by
  have e1 : IntKind.u16.min = 0 := by decide
  have e2 : IntKind.u16.max = 65535 := by decide
  simp only [Lit.wf, Bool.and_eq_true, decide_eq_true_eq, e1, e2] at h
  omega
/-- What strings' functions ask. -/
structure LaidS (w : World) : Prop where
  max : ∃ m, w.cell? ⟨2, 0, none⟩ = some (.int .i64 m)
  spc : Lib.TabIs Tryz.prog w "strings.asciiSpace" .u8 Lib.asciiSpaceTab
theorem LaidS.below {B : Nat} {w w' : World} (h : LaidS w) (hb : Below B w w') (hB : 9 ≤ B) : LaidS w' :=
  ⟨by obtain ⟨m, hm⟩ := h.max; exact ⟨m, (hb.cell (p := ⟨2, 0, none⟩) (by show 2 < B; omega)).trans hm⟩, by
    have hg : Tryz.prog.globalNamed "strings.asciiSpace" = some 1 := by kernel_rfl
    have h2 := h.spc
    unfold Lib.TabIs World.var? at h2 ⊢
    rw [hg] at h2 ⊢
    simp only [Option.bind_some] at h2 ⊢
    rw [hb.block 1 (by omega)]
    exact h2⟩
theorem laidS_max {W : World} (h : W.ShapedOpen Tryz.prog) : ∃ m, W.cell? ⟨2, 0, none⟩ = some (.int .i64 m) := Tryz.laysM146.s1_3 W h
def laidL8 : List (String × DataW Unit) := Rows.ruletextOrdersRow.laid
theorem laid8_of {W : World} (h : laidMetH Tryz.prog laidL8 W) : Laid W ∧ Lib.TabIs Tryz.prog W "strings.asciiSpace" .u8 Lib.asciiSpaceTab := by
  rw [MakeChecks.laidMetH_plain _ _ _ (by kernel_rfl)] at h
  obtain ⟨ps, hv, _⟩ := h
  obtain ⟨g0, t0, cs0, f0, p0, q0, hg0, ht0, hv0, hd0, hr0, _⟩ := hv
  obtain ⟨g1, t1, cs1, f1, p1, q1, hg1, ht1, hv1, hd1, hr1, _⟩ := hr0
  obtain ⟨g2, t2, cs2, f2, p2, q2, hg2, ht2, hv2, hd2, hr2, _⟩ := hr1
  obtain ⟨g3, t3, cs3, f3, p3, q3, hg3, ht3, hv3, hd3, hr3, _⟩ := hr2
  obtain ⟨g4, t4, cs4, f4, p4, q4, hg4, ht4, hv4, hd4, hr4, _⟩ := hr3
  obtain ⟨g5, t5, cs5, f5, p5, q5, hg5, ht5, hv5, hd5, hr5, _⟩ := hr4
  obtain ⟨g6, t6, cs6, f6, p6, q6, hg6, ht6, hv6, hd6, hr6, _⟩ := hr5
  obtain rfl := Option.some.inj ((show Tryz.prog.globalNamed "math/bits.deBruijn64tab" = some 8 by kernel_rfl).symm.trans hg1)
  obtain rfl := Option.some.inj ((show Tryz.prog.globalNamed "internal/strconv.uint64pow10" = some 6 by kernel_rfl).symm.trans hg2)
  obtain rfl := Option.some.inj ((show Tryz.prog.globalNamed "strings.asciiSpace" = some 1 by kernel_rfl).symm.trans hg5)
  obtain rfl := Option.some.inj ((show Tryz.prog.globalNamed "lottery/ruletext.dayNames" = some 0 by kernel_rfl).symm.trans hg6)
  obtain rfl := Option.some.inj ((show (Tryz.prog.globals[6]?).map (·.type) = some 167 by kernel_rfl).symm.trans ht2)
  obtain rfl := Option.some.inj ((show (Tryz.prog.globals[1]?).map (·.type) = some 112 by kernel_rfl).symm.trans ht5)
  obtain rfl := Option.some.inj ((show (Tryz.prog.globals[0]?).map (·.type) = some 102 by kernel_rfl).symm.trans ht6)
  refine ⟨⟨?_, fun i v hi => ?_, ?_⟩, ?_⟩
  · have : W.heap[8]?.isSome = true := by
      unfold World.var? at hv1
      rw [hg1] at hv1
      simp only [Option.bind_some] at hv1
      cases hh : W.heap[8]? with
      | none => rw [hh] at hv1; simp at hv1
      | some o => rfl
    obtain ⟨o, ho⟩ := Option.isSome_iff_exists.1 this
    exact (Array.getElem?_eq_some_iff.1 ho).1
  · rw [World.var?_cell hg6 hv6 i]
    have := days_cells hd6 i v hi
    simpa using this
  · have hc := Lib.cells_of_tab (k := .u64) (zs := Lib.pow10Tab) Tryz.underlying167 Tryz.underlying128 (by kernel_rfl) (by kernel_rfl) (show DataW.trod _ _ _ _ _ _ _ _ _ = some (Lib.tabData .u64 Lib.pow10Tab, p2) from hd2)
    unfold Lib.TabIs
    rw [hv2, ← hc]
  · have hT : (Rows.laid_strings_asciiSpace : DataW Unit) = Lib.tabData .u8 Lib.asciiSpaceTab := by kernel_rfl
    rw [hT] at hd5
    have hc := Lib.cells_of_tab (k := .u8) (zs := Lib.asciiSpaceTab) Tryz.underlying112 Tryz.underlying5 (by kernel_rfl) (by kernel_rfl) (show DataW.trod _ _ _ _ _ _ _ _ _ = some (Lib.tabData .u8 Lib.asciiSpaceTab, p5) from hd5)
    unfold Lib.TabIs
    rw [hv5, ← hc]
/-- A world in which the listed data is laid meets the condition. -/
theorem door_met8 (os : Os) (args : Array Value) : laidMetH Tryz.prog laidL8 ((World.laidAll Tryz.prog os laidL8).forCall (fun _ _ => 0) ⟨#[], args, []⟩).memory := by
  rw [MakeChecks.laidMetH_plain _ _ _ (by kernel_rfl)]
  exact laidMet_laidAll _ (by kernel_rfl) (by kernel_rfl)
theorem door_shaped8 (os : Os) : (World.laidAll Tryz.prog os laidL8).Shaped Tryz.prog := World.shaped_of_ZipB (by kernel_rfl) (by kernel_rfl)
section
variable {H : Type} {enc : TypeId × Value → H}
/-- The wrap of a row with a condition on the world, for a contract that asks the world's shape. -/
theorem handed_shaped_and {a : Assume} {C : Checked} {os : Os} {f : FuncId} {fn : Func} {s : ChangeSpec} {conds : List PathCond} {apart fresh handsOn again : Bool} {X : World → Array Value → Prop}
    (hX : ∀ (w w' : World) (args : Array Value), w.heap = w'.heap → X w args → X w' args)
    (own : ownKnob C.prog.godebug = none) (started : os.Started) (noInit : C.prog.inits.idxOf? f = none) (hfn : C.prog.funcs[f]? = some fn)
    (witness : ∃ (w : World) (tape : Tape) (i : Input), w.os = os ∧ (w.forCall tape i).Shaped C.prog ∧ i.vars = [] ∧ Input.okWide C.prog (w.forCall tape i) .any w.heap.size f i ∧
      ((s.pre enc C.prog fn conds apart (w.forCall tape i).memory i.args ∧ X (w.forCall tape i).memory i.args) ∧ sizedMet enc C.prog fn (OpenSpec.ofChange s) apart (w.forCall tape i).memory i.args) ∧ a.holds C.prog (lone (Frame.enter C.prog f i.args .normal) [] (w.forCall tape i)))
    (contract : ∀ (W : World) (base : Nat) (args : Array Value) (ds gs : List (DataW H)) (before : List MemPlace),
      (∀ (j : Nat) t v, fn.params[j]? = some t → args[j]? = some v → Value.okWide C.prog W .any base t v) →
      DataW.Whole enc C.prog fn.params.toList s.vars apart W args.toList ds gs before → X W args → W.ShapedOpen C.prog →
      Calls C.prog f args W fun e W' => ∃ v, e = .returned v ∧ s.post enc C.prog fn apart fresh handsOn again W args v W') :
    ReturnsInHanded a C os f .any (fun w args => (s.pre enc C.prog fn conds apart w args ∧ X w args) ∧ sizedMet enc C.prog fn (OpenSpec.ofChange s) apart w args) (s.post enc C.prog fn apart fresh handsOn again) := by
  refine returnsInHanded_of_calls own started noInit witness ?_
  intro w tape i _ hsh _ hok hpre _
  obtain ⟨_, _, _, fn', hfn', _, _, _, _, hval⟩ := hok
  obtain rfl : fn' = fn := Option.some.inj (hfn'.symm.trans hfn)
  obtain ⟨⟨⟨ds, gs, before, hw, _⟩, hx⟩, _⟩ := hpre
  refine (contract (w.forCall tape i) w.heap.size i.args ds gs before hval (DataW.Whole.of_heap (w' := w.forCall tape i) (by rfl) hw) (hX _ _ _ (by rfl) hx) hsh).mono fun e W' ⟨v, he, hp⟩ => ?_
  subst he
  exact ChangeSpec.post_blind hp
end
end Go.Proofs.YtbdkggnajipdhaaGreatDoor
