/- Texts laid one behind the other: RwB, RwC, RtT, RwD. Each says at its head what it proves. -/
import Derived.Test.YtbdkggnajipdhaaDoorY18
set_option linter.unusedSimpArgs false
/- Walk: the law's Same on equal games. -/
namespace Go.Proofs.YtbdkggnajipdhaaDoor
open Go.RowKit
set_option maxRecDepth 100000
section
variable {P : Program} {T : TypeId} {w : World} {g : Nat}
theorem setCells_stW : ∀ (vs : List Value) (i : Nat) (w : World), w.setCells g i vs = stW g i vs w
  | [], _, _ => rfl
  | v :: r, i, w => setCells_stW r (i + 1) _
theorem okC_row : ∀ (vs : List Value) (i : Nat) (cs : List Value), Row w g T cs → i + vs.length ≤ cs.length → (∀ v ∈ vs, oneC v = true) → okC w g vs.length i vs = true
  | [], _, _, _, _, _ => rfl
  | v :: r, i, cs, h, hl, h1 => by
    rw [List.length_cons] at hl
    have ih := okC_row r (i + 1) cs h (by omega) fun v hv => h1 v (by simp [hv])
    have hc := h.cell (i := i) (v := cs[i]'(by omega)) (List.getElem?_eq_getElem (by omega))
    have hf := h.frozen i
    simp only [List.length_cons, okC, h1 v (by simp), hc, hf, ih, Option.isSome_some, Bool.not_false, Bool.and_self]
theorem vStore_row {c : Value} {cs cs0 : List Value} (hR : Row w g T cs0) (hl : (c :: cs).length = cs0.length) (hz : szOf P T = (c :: cs).length) (h1 : ∀ v ∈ c :: cs, oneC v = true) :
    vStore P T (.pointer (some ⟨g, 0, none⟩)) (.agg (c :: cs).toArray) w = .ok .skip (w.setCells g 0 (c :: cs)) := by
  rw [vStore_aggN, hz, okC_row (c :: cs) 0 cs0 hR (by omega) h1]
  rfl
theorem setCells_row {cs0 : List Value} (vs : List Value) (hR : Row w g T cs0) (hl : vs.length = cs0.length) : Row (w.setCells g 0 vs) g T vs := by
  have := stW_row vs 0 w cs0 hR (by omega)
  rw [← setCells_stW] at this
  exact this
theorem setCells_below {B : Nat} {a : World} (hB : B ≤ g) : ∀ (vs : List Value) (i : Nat) (w : World), Below B a w → Below B a (w.setCells g i vs)
  | [], _, _, h => h
  | v :: r, i, w, h => setCells_below hB r (i + 1) _ (h.setCell (p := ⟨g, i, none⟩) hB v)
theorem setCells_other {g' : Nat} {T' : TypeId} {cs' : List Value} (hg : g' ≠ g) : ∀ (vs : List Value) (i : Nat) (w : World), Row w g' T' cs' → Row (w.setCells g i vs) g' T' cs'
  | [], _, _, h => h
  | v :: r, i, w, h => setCells_other hg r (i + 1) _ (by
      obtain ⟨cur, hc, x⟩ := h
      exact ⟨cur, by simp [World.setCell, Array.getElem?_modify, Ne.symm hg, hc], x⟩)
theorem setCells_size : ∀ (vs : List Value) (i : Nat) (w : World), (w.setCells g i vs).heap.size = w.heap.size
  | [], _, _ => rfl
  | v :: r, i, w => (setCells_size r (i + 1) _).trans (by simp [World.setCell])
end
def zAd : List Value := encAd ⟨ByteArray.empty, 0, 0, [], 0, []⟩ (.slice none 0 0) (.slice none 0 0)
/-- Two new add-ons, made in either order. -/
structure AB (w0 : World) (x y : Option Nat) (w' : World) : Prop where
  low : Below w0.heap.size w0 w'
  ra : ∀ g, x = some g → w0.heap.size ≤ g ∧ Row w' g 43 zAd
  rb : ∀ g, y = some g → w0.heap.size ≤ g ∧ Row w' g 43 zAd
  ne : ∀ g h, x = some g → y = some h → g ≠ h
theorem AB.putA {w0 w' : World} {y : Option Nat} (h : AB w0 none y w') : AB w0 (some w'.heap.size) y (w'.alloc (.cells zAd.toArray 43)) :=
  ⟨h.low.alloc h.low.size _, fun g e => by injection e with e; subst e; exact ⟨h.low.size, Row.new w' _ zAd⟩, fun g e => ⟨(h.rb g e).1, (h.rb g e).2.alloc _⟩,
    fun g k e1 e2 => by injection e1 with e1; have := (h.rb k e2).2.lt; omega⟩
theorem AB.putB {w0 w' : World} {x : Option Nat} (h : AB w0 x none w') : AB w0 x (some w'.heap.size) (w'.alloc (.cells zAd.toArray 43)) :=
  ⟨h.low.alloc h.low.size _, fun g e => ⟨(h.ra g e).1, (h.ra g e).2.alloc _⟩, fun g e => by injection e with e; subst e; exact ⟨h.low.size, Row.new w' _ zAd⟩,
    fun g k e1 e2 => by injection e2 with e2; have := (h.ra g e1).2.lt; omega⟩
set_option maxHeartbeats 8000000 in
theorem same_any (G : Gm) (Va Vt Va' Vt' : Value) (w : World) (hA : GmIn w Va Vt G) (hB : GmIn w Va' Vt' G) (hL : G.little) :
    Calls Tryd.prog 9 #[.agg (gmV G Va Vt).toArray, .agg (gmV G Va' Vt').toArray] w fun e w' => e = .returned (.bool true) ∧ Below w.heap.size w w' := by
  refine calls_W (l := [_, _]) Tryd.func9 rfl _ Tryd.ntmps9 (by simp) ?_
  obtain ⟨hnl, hal, htl, hadl⟩ := hL
  obtain ⟨⟨Aa, ca, Vs, rfl, hAa, hads⟩, At, ct, rfl, hAt⟩ := hA
  obtain ⟨⟨Ba, da, Us, rfl, hBa, hbds⟩, Bt, dt, rfl, hBt⟩ := hB
  have r0 := Row.new w 25 (gmV G (.slice Aa G.addons.length ca) (.slice At G.tiers.length ct))
  have b0 := below_alloc w (.cells (gmV G (.slice Aa G.addons.length ca) (.slice At G.tiers.length ct)).toArray 25)
  have z0 := World.size_alloc w (.cells (gmV G (.slice Aa G.addons.length ca) (.slice At G.tiers.length ct)).toArray 25)
  refine W_piece fun K hK hX => ?_
  simp +contextual (maxSteps := 2000000) (disch := (first | omega | (simp only [SZ]; done) | (simp only [SZ]; omega) | (simp only [TS] at *; omega))) only [RZ, gval, gslot, fillL, ovw, numb, catL, ldN, agL, okC, oneC, init, Nat.reduceAdd, Nat.reduceMul, Nat.reduceSub, Nat.reduceEqDiff, Nat.reduceLT, ↓reduceIte, Int.reduceToNat, Int.reduceAdd, Int.reduceSub, Int.reduceMul, Int.reduceLT, Int.reduceLE, Int.reduceEq, Nat.reduceLeDiff]
  refine hK _ _ ?_
  clear hK hX K
  generalize w.alloc (.cells (gmV G (.slice Aa G.addons.length ca) (.slice At G.tiers.length ct)).toArray 25) = w0 at r0 b0 z0 ⊢
  have r1 := Row.new w0 25 (gmV G (.slice Ba G.addons.length da) (.slice Bt G.tiers.length dt))
  have b1 := b0.trans ((below_alloc w0 (.cells (gmV G (.slice Ba G.addons.length da) (.slice Bt G.tiers.length dt)).toArray 25)).mono (by omega))
  have z1 := World.size_alloc w0 (.cells (gmV G (.slice Ba G.addons.length da) (.slice Bt G.tiers.length dt)).toArray 25)
  replace r0 := r0.alloc (.cells (gmV G (.slice Ba G.addons.length da) (.slice Bt G.tiers.length dt)).toArray 25)
  generalize w0.alloc (.cells (gmV G (.slice Ba G.addons.length da) (.slice Bt G.tiers.length dt)).toArray 25) = w1 at r0 r1 b1 z1 ⊢
  rw [z0] at r1 z1
  clear b0
  have c0 : w1.cell? ⟨w.heap.size, 0, none⟩ = some (.string G.name) := r0.cell (i := 0) rfl
  have d0 : w1.cell? ⟨w.heap.size + 1, 0, none⟩ = some (.string G.name) := r1.cell (i := 0) rfl
  have c1 : w1.cell? ⟨w.heap.size, 1, none⟩ = some (.int .i64 (G.n 0)) := r0.cell (i := 1) rfl
  have d1 : w1.cell? ⟨w.heap.size + 1, 1, none⟩ = some (.int .i64 (G.n 0)) := r1.cell (i := 1) rfl
  have c2 : w1.cell? ⟨w.heap.size, 2, none⟩ = some (.int .i64 (G.n 1)) := r0.cell (i := 2) rfl
  have d2 : w1.cell? ⟨w.heap.size + 1, 2, none⟩ = some (.int .i64 (G.n 1)) := r1.cell (i := 2) rfl
  have c3 : w1.cell? ⟨w.heap.size, 3, none⟩ = some (.int .i64 (G.n 2)) := r0.cell (i := 3) rfl
  have d3 : w1.cell? ⟨w.heap.size + 1, 3, none⟩ = some (.int .i64 (G.n 2)) := r1.cell (i := 3) rfl
  have c4 : w1.cell? ⟨w.heap.size, 4, none⟩ = some (.int .i64 (G.n 3)) := r0.cell (i := 4) rfl
  have d4 : w1.cell? ⟨w.heap.size + 1, 4, none⟩ = some (.int .i64 (G.n 3)) := r1.cell (i := 4) rfl
  have c5 : w1.cell? ⟨w.heap.size, 5, none⟩ = some (.int .i64 (G.n 4)) := r0.cell (i := 5) rfl
  have d5 : w1.cell? ⟨w.heap.size + 1, 5, none⟩ = some (.int .i64 (G.n 4)) := r1.cell (i := 5) rfl
  have c6 : w1.cell? ⟨w.heap.size, 6, none⟩ = some (.int .i64 (G.n 5)) := r0.cell (i := 6) rfl
  have d6 : w1.cell? ⟨w.heap.size + 1, 6, none⟩ = some (.int .i64 (G.n 5)) := r1.cell (i := 6) rfl
  have c7 : w1.cell? ⟨w.heap.size, 7, none⟩ = some (.int .i64 (G.n 6)) := r0.cell (i := 7) rfl
  have d7 : w1.cell? ⟨w.heap.size + 1, 7, none⟩ = some (.int .i64 (G.n 6)) := r1.cell (i := 7) rfl
  have c8 : w1.cell? ⟨w.heap.size, 8, none⟩ = some (.int .i64 (G.n 7)) := r0.cell (i := 8) rfl
  have d8 : w1.cell? ⟨w.heap.size + 1, 8, none⟩ = some (.int .i64 (G.n 7)) := r1.cell (i := 8) rfl
  have c9 : w1.cell? ⟨w.heap.size, 9, none⟩ = some (.int .i64 (G.n 8)) := r0.cell (i := 9) rfl
  have d9 : w1.cell? ⟨w.heap.size + 1, 9, none⟩ = some (.int .i64 (G.n 8)) := r1.cell (i := 9) rfl
  have c10 : w1.cell? ⟨w.heap.size, 10, none⟩ = some (.int .i64 (G.n 9)) := r0.cell (i := 10) rfl
  have d10 : w1.cell? ⟨w.heap.size + 1, 10, none⟩ = some (.int .i64 (G.n 9)) := r1.cell (i := 10) rfl
  have c11 : w1.cell? ⟨w.heap.size, 11, none⟩ = some (.int .i64 (G.n 10)) := r0.cell (i := 11) rfl
  have d11 : w1.cell? ⟨w.heap.size + 1, 11, none⟩ = some (.int .i64 (G.n 10)) := r1.cell (i := 11) rfl
  have c12 : w1.cell? ⟨w.heap.size, 12, none⟩ = some (.int .i64 (G.n 11)) := r0.cell (i := 12) rfl
  have d12 : w1.cell? ⟨w.heap.size + 1, 12, none⟩ = some (.int .i64 (G.n 11)) := r1.cell (i := 12) rfl
  have c13 : w1.cell? ⟨w.heap.size, 13, none⟩ = some (.int .i64 (G.n 12)) := r0.cell (i := 13) rfl
  have d13 : w1.cell? ⟨w.heap.size + 1, 13, none⟩ = some (.int .i64 (G.n 12)) := r1.cell (i := 13) rfl
  have c14 : w1.cell? ⟨w.heap.size, 14, none⟩ = some (.int .i64 (G.n 13)) := r0.cell (i := 14) rfl
  have d14 : w1.cell? ⟨w.heap.size + 1, 14, none⟩ = some (.int .i64 (G.n 13)) := r1.cell (i := 14) rfl
  have c15 : w1.cell? ⟨w.heap.size, 15, none⟩ = some (.int .i64 (G.n 14)) := r0.cell (i := 15) rfl
  have d15 : w1.cell? ⟨w.heap.size + 1, 15, none⟩ = some (.int .i64 (G.n 14)) := r1.cell (i := 15) rfl
  have c16 : w1.cell? ⟨w.heap.size, 16, none⟩ = some (.int .i64 (G.n 15)) := r0.cell (i := 16) rfl
  have d16 : w1.cell? ⟨w.heap.size + 1, 16, none⟩ = some (.int .i64 (G.n 15)) := r1.cell (i := 16) rfl
  have c17 : w1.cell? ⟨w.heap.size, 17, none⟩ = some (.int .i64 (G.n 16)) := r0.cell (i := 17) rfl
  have d17 : w1.cell? ⟨w.heap.size + 1, 17, none⟩ = some (.int .i64 (G.n 16)) := r1.cell (i := 17) rfl
  have c18 : w1.cell? ⟨w.heap.size, 18, none⟩ = some (.int .i64 (G.n 17)) := r0.cell (i := 18) rfl
  have d18 : w1.cell? ⟨w.heap.size + 1, 18, none⟩ = some (.int .i64 (G.n 17)) := r1.cell (i := 18) rfl
  have c19 : w1.cell? ⟨w.heap.size, 19, none⟩ = some (.int .i64 (G.n 18)) := r0.cell (i := 19) rfl
  have d19 : w1.cell? ⟨w.heap.size + 1, 19, none⟩ = some (.int .i64 (G.n 18)) := r1.cell (i := 19) rfl
  have c20 : w1.cell? ⟨w.heap.size, 20, none⟩ = some (.slice Aa G.addons.length ca) := r0.cell (i := 20) rfl
  have d20 : w1.cell? ⟨w.heap.size + 1, 20, none⟩ = some (.slice Ba G.addons.length da) := r1.cell (i := 20) rfl
  have c21 : w1.cell? ⟨w.heap.size, 21, none⟩ = some (.slice At G.tiers.length ct) := r0.cell (i := 21) rfl
  have d21 : w1.cell? ⟨w.heap.size + 1, 21, none⟩ = some (.slice Bt G.tiers.length dt) := r1.cell (i := 21) rfl
  refine W_piece fun K hK hX => ?_
  refine W_piece fun K2 hK2 hX2 => ?_
  simp +contextual (maxSteps := 2000000) (disch := (first | omega | (simp only [SZ]; done) | (simp only [SZ]; omega) | (simp only [TS] at *; omega))) only [RZ, gval, gslot, fillL, ovw, numb, catL, ldN, agL, okC, oneC, init, Nat.reduceAdd, Nat.reduceMul, Nat.reduceSub, Nat.reduceEqDiff, Nat.reduceLT, ↓reduceIte, Int.reduceToNat, Int.reduceAdd, Int.reduceSub, Int.reduceMul, Int.reduceLT, Int.reduceLE, Int.reduceEq, Nat.reduceLeDiff,  c0, d0, c1, d1, c2, d2, c3, d3, c4, d4, c5, d5, c6, d6, c7, d7]
  refine hK2 _ _ ?_
  clear hK2 hX2 K2
  refine W_if_f rfl ?_
  rw [W_skip]
  refine hK _ _ ?_
  clear hK hX K
  refine W_piece fun K hK hX => ?_
  refine W_piece fun K2 hK2 hX2 => ?_
  simp +contextual (maxSteps := 2000000) (disch := (first | omega | (simp only [SZ]; done) | (simp only [SZ]; omega) | (simp only [TS] at *; omega))) only [RZ, gval, gslot, fillL, ovw, numb, catL, ldN, agL, okC, oneC, init, Nat.reduceAdd, Nat.reduceMul, Nat.reduceSub, Nat.reduceEqDiff, Nat.reduceLT, ↓reduceIte, Int.reduceToNat, Int.reduceAdd, Int.reduceSub, Int.reduceMul, Int.reduceLT, Int.reduceLE, Int.reduceEq, Nat.reduceLeDiff,  c8, d8, c9, d9, c10, d10, c11, d11, c12, d12, c13, d13, c14, d14]
  refine hK2 _ _ ?_
  clear hK2 hX2 K2
  refine W_if_f rfl ?_
  rw [W_skip]
  refine hK _ _ ?_
  clear hK hX K
  refine W_piece fun K hK hX => ?_
  refine W_piece fun K2 hK2 hX2 => ?_
  simp +contextual (maxSteps := 2000000) (disch := (first | omega | (simp only [SZ]; done) | (simp only [SZ]; omega) | (simp only [TS] at *; omega))) only [RZ, gval, gslot, fillL, ovw, numb, catL, ldN, agL, okC, oneC, init, Nat.reduceAdd, Nat.reduceMul, Nat.reduceSub, Nat.reduceEqDiff, Nat.reduceLT, ↓reduceIte, Int.reduceToNat, Int.reduceAdd, Int.reduceSub, Int.reduceMul, Int.reduceLT, Int.reduceLE, Int.reduceEq, Nat.reduceLeDiff,  c15, d15, c16, d16, c17, d17, c18, d18, c19, d19, c20, d20, c21, d21]
  refine hK2 _ _ ?_
  clear hK2 hX2 K2
  refine W_if_f rfl ?_
  rw [W_skip]
  refine hK _ _ ?_
  clear hK hX K
  clear c0 d0 c1 d1 c2 d2 c3 d3 c4 d4 c5 d5 c6 d6 c7 d7 c8 d8 c9 d9 c10 d10 c11 d11 c12 d12 c13 d13 c14 d14 c15 d15 c16 d16 c17 d17 c18 d18 c19 d19 c20 d20 c21 d21
  have hAa1 := hAa.below b1
  have hBa1 := hBa.below b1
  have hAt1 := hAt.below b1
  have hBt1 := hBt.below b1
  have hads1 := hads.mono (P' := IntsR w1) fun v L hv => hv.below b1
  have hbds1 := hbds.mono (P' := IntsR w1) fun v L hv => hv.below b1
  clear hAa hBa hAt hBt hads hbds
  refine W_cutS (fun σ w2 => Below w1.heap.size w1 w2 ∧ σ 2 = .pointer (some ⟨w.heap.size, 0, none⟩) ∧ σ 3 = .pointer (some ⟨w.heap.size + 1, 0, none⟩)) ?_ ?_
  rotate_left
  · have c20 : w1.cell? ⟨w.heap.size, 20, none⟩ = some (.slice Aa G.addons.length ca) := r0.cell (i := 20) rfl
    refine W_piece fun K hK hX => ?_
    simp +contextual (maxSteps := 2000000) (disch := (first | omega | (simp only [SZ]; done) | (simp only [SZ]; omega) | (simp only [TS] at *; omega))) only [RZ, gval, gslot, fillL, ovw, numb, catL, ldN, agL, okC, oneC, init, Nat.reduceAdd, Nat.reduceMul, Nat.reduceSub, Nat.reduceEqDiff, Nat.reduceLT, ↓reduceIte, Int.reduceToNat, Int.reduceAdd, Int.reduceSub, Int.reduceMul, Int.reduceLT, Int.reduceLE, Int.reduceEq, Nat.reduceLeDiff,  c20]
    refine hK _ _ ?_
    clear hK hX K c20
    rw [W_block, W_loop]
    refine Raw_loop (fun σ w2 => Below w1.heap.size w1 w2 ∧ ∃ k : Nat, k ≤ G.addons.length ∧ σ 2 = .pointer (some ⟨w.heap.size, 0, none⟩) ∧ σ 3 = .pointer (some ⟨w.heap.size + 1, 0, none⟩) ∧ σ 163 = .int .i64 G.addons.length ∧ σ 164 = .int .i64 k) (fun σ _ => G.addons.length - (intOf (σ 164)).toNat) ?_ ?_
    · exact ⟨Below.refl _ _, 0, Nat.zero_le _, rfl, rfl, rfl, rfl⟩
    rintro σ w2 ⟨hb, k, hk, f2, f3, f163, f164⟩ K hK
    simp +contextual (maxSteps := 2000000) (disch := (first | omega | (simp only [SZ]; done) | (simp only [SZ]; omega) | (simp only [TS] at *; omega))) only [RZ, gval, gslot, fillL, ovw, numb, catL, ldN, agL, okC, oneC, init, Nat.reduceAdd, Nat.reduceMul, Nat.reduceSub, Nat.reduceEqDiff, Nat.reduceLT, ↓reduceIte, Int.reduceToNat, Int.reduceAdd, Int.reduceSub, Int.reduceMul, Int.reduceLT, Int.reduceLE, Int.reduceEq, Nat.reduceLeDiff,  f163, f164]
    (refine W_if rfl (fun hc => ?_) (fun hc => ?_) <;> (try simp only [TS] at hc))
    · have hkl : k < G.addons.length := by omega
      obtain ⟨a, ha⟩ : ∃ a, G.addons[k]? = some a := ⟨_, List.getElem?_eq_getElem hkl⟩
      obtain ⟨cv1, hcv⟩ : ∃ c, Vs[k]? = some c := ⟨_, List.getElem?_eq_getElem (by rw [hads1.1]; exact hkl)⟩
      obtain ⟨vf, vs, rfl, hvf, hvs⟩ := hads1.2 k _ a hcv ha
      obtain ⟨cv2, hcu⟩ : ∃ c, Us[k]? = some c := ⟨_, List.getElem?_eq_getElem (by rw [hbds1.1]; exact hkl)⟩
      obtain ⟨uf, us, rfl, huf, hus⟩ := hbds1.2 k _ a hcu ha
      obtain ⟨b2, o2, rfl, hb2, hc2⟩ := hAa1 (by rw [hads1.1]; omega)
      obtain ⟨b3, o3, rfl, hb3, hc3⟩ := hBa1 (by rw [hbds1.1]; omega)
      obtain ⟨m1, m2, m3⟩ := hadl a (List.mem_of_getElem? ha)
      simp +contextual (maxSteps := 2000000) (disch := (first | omega | (simp only [SZ]; done) | (simp only [SZ]; omega) | (simp only [TS] at *; omega))) only [RZ, gval, gslot, fillL, ovw, numb, catL, ldN, agL, okC, oneC, init, Nat.reduceAdd, Nat.reduceMul, Nat.reduceSub, Nat.reduceEqDiff, Nat.reduceLT, ↓reduceIte, Int.reduceToNat, Int.reduceAdd, Int.reduceSub, Int.reduceMul, Int.reduceLT, Int.reduceLE, Int.reduceEq, Nat.reduceLeDiff,  f2, f3, f163, f164]
      have hbd : Below w1.heap.size w1 w2.drew := below_drew hb
      have hlt1 := r0.lt
      have hlt2 := r1.lt
      have hsz2 := hb.size
      have p20 : ∀ w7, Below w2.heap.size w2.drew w7 → w7.cell? ⟨w.heap.size, 20, none⟩ = some (.slice (some ⟨b2, o2, none⟩) G.addons.length ca) := fun w7 h7 => (r0.below (hbd.trans (h7.mono hsz2))).cell (i := 20) rfl
      have q20 : ∀ w7, Below w2.heap.size w2.drew w7 → w7.cell? ⟨w.heap.size + 1, 20, none⟩ = some (.slice (some ⟨b3, o3, none⟩) G.addons.length da) := fun w7 h7 => (r1.below (hbd.trans (h7.mono hsz2))).cell (i := 20) rfl
      have hla : ∀ w7, Below w2.heap.size w2.drew w7 → vLoad Tryd.prog 43 (.pointer (some ⟨b2, o2 + k * 6, none⟩)) w7 = .ok (.value (.agg (encAd a vf vs).toArray)) w7 := fun w7 h7 => vLoad_all (by kernel_rfl) (by show _ = some 6; kernel_rfl) (fun i v hv => ((bcell (hbd.trans (h7.mono hsz2))).1 _ _ hb2).trans (hc2 k _ hcv i v hv))
      have hlb : ∀ w7, Below w2.heap.size w2.drew w7 → vLoad Tryd.prog 43 (.pointer (some ⟨b3, o3 + k * 6, none⟩)) w7 = .ok (.value (.agg (encAd a uf us).toArray)) w7 := fun w7 h7 => vLoad_all (by kernel_rfl) (by show _ = some 6; kernel_rfl) (fun i v hv => ((bcell (hbd.trans (h7.mono hsz2))).1 _ _ hb3).trans (hc3 k _ hcu i v hv))
      have hS : Below w2.heap.size w2.drew w2.drew := Below.refl _ _
      refine Raw_ord (fun w7 => Below w2.heap.size w2.drew w7) 14 rfl MX ?_
      refine Ord_reads (τ := ?ta) [0, 1, 2, 3, 4, 5, 6, 7, 8, 9] 4 rfl (by kernel_rfl) (by kernel_rfl) (fun _ _ _ h => h) hS (fun w7 h7 => ?_) ?_; rotate_left
      · simp only [opsL_cons, opsL_nil, List.getElem?_toArray, List.getElem?_cons_zero, List.getElem?_cons_succ, optL_some]
        simp +contextual (maxSteps := 2000000) (disch := (first | omega | (simp only [SZ]; done) | (simp only [SZ]; omega) | (simp only [TS] at *; omega))) only [RZ, gval, gslot, fillL, ovw, numb, catL, ldN, agL, okC, oneC, init, Nat.reduceAdd, Nat.reduceMul, Nat.reduceSub, Nat.reduceEqDiff, Nat.reduceLT, ↓reduceIte, Int.reduceToNat, Int.reduceAdd, Int.reduceSub, Int.reduceMul, Int.reduceLT, Int.reduceLE, Int.reduceEq, Nat.reduceLeDiff,  f2, f3, p20 w7 h7, q20 w7 h7, hla w7 h7, hlb w7 h7]
        exact rfl
      refine Ord_two (fun (x y : Option Nat) w7 => AB w2.drew x y w7) (fun g => .pointer (some ⟨g, 0, none⟩)) (fun g => .pointer (some ⟨g, 0, none⟩)) 10 11 6 7 rfl rfl (by decide) (by decide) (by decide) (by decide) (by kernel_rfl) (by kernel_rfl) (by kernel_rfl)
        ⟨Below.refl _ _, (fun g e => by cases e), (fun g e => by cases e), (fun g h e => by cases e)⟩ ?_ ?_ ?_
      · intro y w7 σ' hσ h7
        simp +contextual (maxSteps := 2000000) (disch := (first | omega | (simp only [SZ]; done) | (simp only [SZ]; omega) | (simp only [TS] at *; omega))) only [RZ, gval, gslot, fillL, ovw, numb, catL, ldN, agL, okC, oneC, init, Nat.reduceAdd, Nat.reduceMul, Nat.reduceSub, Nat.reduceEqDiff, Nat.reduceLT, ↓reduceIte, Int.reduceToNat, Int.reduceAdd, Int.reduceSub, Int.reduceMul, Int.reduceLT, Int.reduceLE, Int.reduceEq, Nat.reduceLeDiff]
        exact ⟨_, rfl, h7.putA.low, h7.putA⟩
      · intro x w7 σ' hσ h7
        simp +contextual (maxSteps := 2000000) (disch := (first | omega | (simp only [SZ]; done) | (simp only [SZ]; omega) | (simp only [TS] at *; omega))) only [RZ, gval, gslot, fillL, ovw, numb, catL, ldN, agL, okC, oneC, init, Nat.reduceAdd, Nat.reduceMul, Nat.reduceSub, Nat.reduceEqDiff, Nat.reduceLT, ↓reduceIte, Int.reduceToNat, Int.reduceAdd, Int.reduceSub, Int.reduceMul, Int.reduceLT, Int.reduceLE, Int.reduceEq, Nat.reduceLeDiff]
        exact ⟨_, rfl, h7.putB.low, h7.putB⟩
      intro x y w7 h7
      obtain ⟨hxl, hxr⟩ := h7.ra x rfl
      obtain ⟨hyl, hyr⟩ := h7.rb y rfl
      have hxy := h7.ne x y rfl rfl
      have hl7 := h7.low
      have st1 : vStore Tryd.prog 43 (.pointer (some ⟨x, 0, none⟩)) (.agg (encAd a vf vs).toArray) w7 = .ok .skip (w7.setCells x 0 (encAd a vf vs)) := by
        obtain ⟨Av, cv, rfl, _⟩ := id hvf
        obtain ⟨As, cS, rfl, _⟩ := id hvs
        exact vStore_row hxr rfl (by kernel_rfl) (by intro v hv; simp only [List.mem_cons, List.not_mem_nil, or_false] at hv; rcases hv with rfl | rfl | rfl | rfl | rfl | rfl <;> rfl)
      have hyr2 := setCells_other (Ne.symm hxy) (encAd a vf vs) 0 w7 hyr
      have hxr2 := setCells_row (encAd a vf vs) hxr rfl
      have hl8 := setCells_below hxl (encAd a vf vs) 0 w7 hl7
      refine Ord_one 12 (by kernel_rfl) rfl ?_
      simp +contextual (maxSteps := 2000000) (disch := (first | omega | (simp only [SZ]; done) | (simp only [SZ]; omega) | (simp only [TS] at *; omega))) only [RZ, gval, gslot, fillL, ovw, numb, catL, ldN, agL, okC, oneC, init, Nat.reduceAdd, Nat.reduceMul, Nat.reduceSub, Nat.reduceEqDiff, Nat.reduceLT, ↓reduceIte, Int.reduceToNat, Int.reduceAdd, Int.reduceSub, Int.reduceMul, Int.reduceLT, Int.reduceLE, Int.reduceEq, Nat.reduceLeDiff,  st1]
      generalize w7.setCells x 0 (encAd a vf vs) = w8 at hyr2 hxr2 hl8 ⊢
      have st2 : vStore Tryd.prog 43 (.pointer (some ⟨y, 0, none⟩)) (.agg (encAd a uf us).toArray) w8 = .ok .skip (w8.setCells y 0 (encAd a uf us)) := by
        obtain ⟨Av, cv, rfl, _⟩ := id huf
        obtain ⟨As, cS, rfl, _⟩ := id hus
        exact vStore_row hyr2 rfl (by kernel_rfl) (by intro v hv; simp only [List.mem_cons, List.not_mem_nil, or_false] at hv; rcases hv with rfl | rfl | rfl | rfl | rfl | rfl <;> rfl)
      have hxr3 := setCells_other hxy (encAd a uf us) 0 w8 hxr2
      have hyr3 := setCells_row (encAd a uf us) hyr2 rfl
      have hl9 := setCells_below hyl (encAd a uf us) 0 w8 hl8
      refine ⟨hl8, Ord_one 13 (by kernel_rfl) rfl ?_⟩
      simp +contextual (maxSteps := 2000000) (disch := (first | omega | (simp only [SZ]; done) | (simp only [SZ]; omega) | (simp only [TS] at *; omega))) only [RZ, gval, gslot, fillL, ovw, numb, catL, ldN, agL, okC, oneC, init, Nat.reduceAdd, Nat.reduceMul, Nat.reduceSub, Nat.reduceEqDiff, Nat.reduceLT, ↓reduceIte, Int.reduceToNat, Int.reduceAdd, Int.reduceSub, Int.reduceMul, Int.reduceLT, Int.reduceLE, Int.reduceEq, Nat.reduceLeDiff,  st2]
      generalize w8.setCells y 0 (encAd a uf us) = w9 at hyr3 hxr3 hl9 ⊢
      refine ⟨hl9, Ord_done (by kernel_rfl) ?_⟩
      clear st1 st2 hl8 hl7 hyr2 hxr2 h7
      have hl1w : Below w1.heap.size w1 w9 := hbd.trans (hl9.mono hsz2)
      have x0 : w9.cell? ⟨x, 0, none⟩ = some (.string a.name) := hxr3.cell (i := 0) rfl
      have x1 : w9.cell? ⟨x, 1, none⟩ = some (.int .i64 a.kind) := hxr3.cell (i := 1) rfl
      have x2 : w9.cell? ⟨x, 2, none⟩ = some (.int .i64 a.price) := hxr3.cell (i := 2) rfl
      have x3 : w9.cell? ⟨x, 3, none⟩ = some vf := hxr3.cell (i := 3) rfl
      have x4 : w9.cell? ⟨x, 4, none⟩ = some (.int .i64 a.digits) := hxr3.cell (i := 4) rfl
      have x5 : w9.cell? ⟨x, 5, none⟩ = some vs := hxr3.cell (i := 5) rfl
      have y0 : w9.cell? ⟨y, 0, none⟩ = some (.string a.name) := hyr3.cell (i := 0) rfl
      have y1 : w9.cell? ⟨y, 1, none⟩ = some (.int .i64 a.kind) := hyr3.cell (i := 1) rfl
      have y2 : w9.cell? ⟨y, 2, none⟩ = some (.int .i64 a.price) := hyr3.cell (i := 2) rfl
      have y3 : w9.cell? ⟨y, 3, none⟩ = some uf := hyr3.cell (i := 3) rfl
      have y4 : w9.cell? ⟨y, 4, none⟩ = some (.int .i64 a.digits) := hyr3.cell (i := 4) rfl
      have y5 : w9.cell? ⟨y, 5, none⟩ = some us := hyr3.cell (i := 5) rfl
      obtain ⟨Af, cf, rfl, hAf⟩ := id hvf
      obtain ⟨As, cS, rfl, hAs⟩ := id hvs
      obtain ⟨Bf, df, rfl, hBf⟩ := id huf
      obtain ⟨Bs, dS, rfl, hBs⟩ := id hus
      simp +contextual (maxSteps := 2000000) (disch := (first | omega | (simp only [SZ]; done) | (simp only [SZ]; omega) | (simp only [TS] at *; omega))) only [RZ, gval, gslot, fillL, ovw, numb, catL, ldN, agL, okC, oneC, init, Nat.reduceAdd, Nat.reduceMul, Nat.reduceSub, Nat.reduceEqDiff, Nat.reduceLT, ↓reduceIte, Int.reduceToNat, Int.reduceAdd, Int.reduceSub, Int.reduceMul, Int.reduceLT, Int.reduceLE, Int.reduceEq, Nat.reduceLeDiff,  f2, f3, f163, f164, x0, x1, x2, x3, x4, x5, y0, y1, y2, y3, y4, y5]
      refine (ints_any a.factors Af Bf cf df w9 (hAf.below hl1w) (hBf.below hl1w) (by omega)).mono ?_
      rintro e w10 ⟨rfl, h10⟩
      refine ⟨_, rfl, ?_⟩
      have x5 : w10.cell? ⟨x, 5, none⟩ = some (.slice As a.serials.length cS) := (hxr3.below h10).cell (i := 5) rfl
      have y5 : w10.cell? ⟨y, 5, none⟩ = some (.slice Bs a.serials.length dS) := (hyr3.below h10).cell (i := 5) rfl
      have h10w : Below w1.heap.size w1 w10 := hl1w.trans (h10.mono hl1w.size)
      try simp +contextual (maxSteps := 2000000) (disch := (first | omega | (simp only [SZ]; done) | (simp only [SZ]; omega) | (simp only [TS] at *; omega))) only [RZ, gval, gslot, fillL, ovw, numb, catL, ldN, agL, okC, oneC, init, Nat.reduceAdd, Nat.reduceMul, Nat.reduceSub, Nat.reduceEqDiff, Nat.reduceLT, ↓reduceIte, Int.reduceToNat, Int.reduceAdd, Int.reduceSub, Int.reduceMul, Int.reduceLT, Int.reduceLE, Int.reduceEq, Nat.reduceLeDiff,  f2, f3, f163, f164, x5, y5]
      refine (ints_any a.serials As Bs cS dS w10 (hAs.below h10w) (hBs.below h10w) (by omega)).mono ?_
      rintro e w11 ⟨rfl, h11⟩
      refine ⟨_, rfl, ?_⟩
      have h11w : Below w1.heap.size w1 w11 := h10w.trans (h11.mono h10w.size)
      try simp +contextual (maxSteps := 2000000) (disch := (first | omega | (simp only [SZ]; done) | (simp only [SZ]; omega) | (simp only [TS] at *; omega))) only [RZ, gval, gslot, fillL, ovw, numb, catL, ldN, agL, okC, oneC, init, Nat.reduceAdd, Nat.reduceMul, Nat.reduceSub, Nat.reduceEqDiff, Nat.reduceLT, ↓reduceIte, Int.reduceToNat, Int.reduceAdd, Int.reduceSub, Int.reduceMul, Int.reduceLT, Int.reduceLE, Int.reduceEq, Nat.reduceLeDiff,  f2, f3, f163, f164]
      refine W_if_f rfl ?_
      simp +contextual (maxSteps := 2000000) (disch := (first | omega | (simp only [SZ]; done) | (simp only [SZ]; omega) | (simp only [TS] at *; omega))) only [RZ, gval, gslot, fillL, ovw, numb, catL, ldN, agL, okC, oneC, init, Nat.reduceAdd, Nat.reduceMul, Nat.reduceSub, Nat.reduceEqDiff, Nat.reduceLT, ↓reduceIte, Int.reduceToNat, Int.reduceAdd, Int.reduceSub, Int.reduceMul, Int.reduceLT, Int.reduceLE, Int.reduceEq, Nat.reduceLeDiff,  f2, f3, f163, f164]
      refine hK _ _ ⟨h11w, k + 1, by omega, ?_⟩ ?_
      · simp +contextual (maxSteps := 2000000) (disch := (first | omega | (simp only [SZ]; done) | (simp only [SZ]; omega) | (simp only [TS] at *; omega))) only [RZ, gval, gslot, fillL, ovw, numb, catL, ldN, agL, okC, oneC, init, Nat.reduceAdd, Nat.reduceMul, Nat.reduceSub, Nat.reduceEqDiff, Nat.reduceLT, ↓reduceIte, Int.reduceToNat, Int.reduceAdd, Int.reduceSub, Int.reduceMul, Int.reduceLT, Int.reduceLE, Int.reduceEq, Nat.reduceLeDiff,  f2, f3, f163, f164]
      · simp +contextual (maxSteps := 2000000) (disch := (first | omega | (simp only [SZ]; done) | (simp only [SZ]; omega) | (simp only [TS] at *; omega))) only [RZ, gval, gslot, fillL, ovw, numb, catL, ldN, agL, okC, oneC, init, Nat.reduceAdd, Nat.reduceMul, Nat.reduceSub, Nat.reduceEqDiff, Nat.reduceLT, ↓reduceIte, Int.reduceToNat, Int.reduceAdd, Int.reduceSub, Int.reduceMul, Int.reduceLT, Int.reduceLE, Int.reduceEq, Nat.reduceLeDiff,  intOf, f164]
        omega
    · simp +contextual (maxSteps := 2000000) (disch := (first | omega | (simp only [SZ]; done) | (simp only [SZ]; omega) | (simp only [TS] at *; omega))) only [RZ, gval, gslot, fillL, ovw, numb, catL, ldN, agL, okC, oneC, init, Nat.reduceAdd, Nat.reduceMul, Nat.reduceSub, Nat.reduceEqDiff, Nat.reduceLT, ↓reduceIte, Int.reduceToNat, Int.reduceAdd, Int.reduceSub, Int.reduceMul, Int.reduceLT, Int.reduceLE, Int.reduceEq, Nat.reduceLeDiff,  f2, f3, f163, f164]
      exact hb
  rintro σ w2 ⟨hb, f2, f3⟩
  refine W_cutS (fun σ w3 => Below w1.heap.size w1 w3) ?_ ?_
  · intro σ w3 h3
    simp +contextual (maxSteps := 2000000) (disch := (first | omega | (simp only [SZ]; done) | (simp only [SZ]; omega) | (simp only [TS] at *; omega))) only [RZ, gval, gslot, fillL, ovw, numb, catL, ldN, agL, okC, oneC, init, Nat.reduceAdd, Nat.reduceMul, Nat.reduceSub, Nat.reduceEqDiff, Nat.reduceLT, ↓reduceIte, Int.reduceToNat, Int.reduceAdd, Int.reduceSub, Int.reduceMul, Int.reduceLT, Int.reduceLE, Int.reduceEq, Nat.reduceLeDiff]
    exact b1.trans (h3.mono b1.size)
  · have c21 : w2.cell? ⟨w.heap.size, 21, none⟩ = some (.slice At G.tiers.length ct) := (r0.below hb).cell (i := 21) rfl
    refine W_piece fun K hK hX => ?_
    simp +contextual (maxSteps := 2000000) (disch := (first | omega | (simp only [SZ]; done) | (simp only [SZ]; omega) | (simp only [TS] at *; omega))) only [RZ, gval, gslot, fillL, ovw, numb, catL, ldN, agL, okC, oneC, init, Nat.reduceAdd, Nat.reduceMul, Nat.reduceSub, Nat.reduceEqDiff, Nat.reduceLT, ↓reduceIte, Int.reduceToNat, Int.reduceAdd, Int.reduceSub, Int.reduceMul, Int.reduceLT, Int.reduceLE, Int.reduceEq, Nat.reduceLeDiff,  f2, f3, c21]
    refine hK _ _ ?_
    clear hK hX K c21
    rw [W_block, W_loop]
    refine Raw_loop (fun σ w2 => Below w1.heap.size w1 w2 ∧ ∃ k : Nat, k ≤ G.tiers.length ∧ σ 2 = .pointer (some ⟨w.heap.size, 0, none⟩) ∧ σ 3 = .pointer (some ⟨w.heap.size + 1, 0, none⟩) ∧ σ 222 = .int .i64 G.tiers.length ∧ σ 223 = .int .i64 k) (fun σ _ => G.tiers.length - (intOf (σ 223)).toNat) ?_ ?_
    · refine ⟨hb, 0, Nat.zero_le _, ?_⟩
      simp +contextual (maxSteps := 2000000) (disch := (first | omega | (simp only [SZ]; done) | (simp only [SZ]; omega) | (simp only [TS] at *; omega))) only [RZ, gval, gslot, fillL, ovw, numb, catL, ldN, agL, okC, oneC, init, Nat.reduceAdd, Nat.reduceMul, Nat.reduceSub, Nat.reduceEqDiff, Nat.reduceLT, ↓reduceIte, Int.reduceToNat, Int.reduceAdd, Int.reduceSub, Int.reduceMul, Int.reduceLT, Int.reduceLE, Int.reduceEq, Nat.reduceLeDiff,  f2, f3]
      rfl
    clear f2 f3 hb
    rintro σ w2 ⟨hb, k, hk, f2, f3, f222, f223⟩ K hK
    simp +contextual (maxSteps := 2000000) (disch := (first | omega | (simp only [SZ]; done) | (simp only [SZ]; omega) | (simp only [TS] at *; omega))) only [RZ, gval, gslot, fillL, ovw, numb, catL, ldN, agL, okC, oneC, init, Nat.reduceAdd, Nat.reduceMul, Nat.reduceSub, Nat.reduceEqDiff, Nat.reduceLT, ↓reduceIte, Int.reduceToNat, Int.reduceAdd, Int.reduceSub, Int.reduceMul, Int.reduceLT, Int.reduceLE, Int.reduceEq, Nat.reduceLeDiff,  f222, f223]
    (refine W_if rfl (fun hc => ?_) (fun hc => ?_) <;> (try simp only [TS] at hc))
    · have hkl : k < G.tiers.length := by omega
      obtain ⟨t, ht⟩ : ∃ t, G.tiers[k]? = some t := ⟨_, List.getElem?_eq_getElem hkl⟩
      have hbd : Below w1.heap.size w1 w2.drew := below_drew hb
      obtain ⟨b2, o2, rfl, hb2, hc2⟩ := (hAt1.below hbd).at_ (enc := encTi) ht
      obtain ⟨b3, o3, rfl, hb3, hc3⟩ := (hBt1.below hbd).at_ (enc := encTi) ht
      have hla : vLoad Tryd.prog 45 (.pointer (some ⟨b2, o2 + k * 6, none⟩)) w2.drew = .ok (.value (.agg (encTi t).toArray)) w2.drew := vLoad_all (by kernel_rfl) (by show _ = some 6; kernel_rfl) (fun i v hv => hc2 i v hv)
      have hlb : vLoad Tryd.prog 45 (.pointer (some ⟨b3, o3 + k * 6, none⟩)) w2.drew = .ok (.value (.agg (encTi t).toArray)) w2.drew := vLoad_all (by kernel_rfl) (by show _ = some 6; kernel_rfl) (fun i v hv => hc3 i v hv)
      have p21 : w2.drew.cell? ⟨w.heap.size, 21, none⟩ = some (.slice (some ⟨b2, o2, none⟩) G.tiers.length ct) := (r0.below hbd).cell (i := 21) rfl
      have q21 : w2.drew.cell? ⟨w.heap.size + 1, 21, none⟩ = some (.slice (some ⟨b3, o3, none⟩) G.tiers.length dt) := (r1.below hbd).cell (i := 21) rfl
      simp +contextual (maxSteps := 2000000) (disch := (first | omega | (simp only [SZ]; done) | (simp only [SZ]; omega) | (simp only [TS] at *; omega))) only [RZ, gval, gslot, fillL, ovw, numb, catL, ldN, agL, okC, oneC, init, Nat.reduceAdd, Nat.reduceMul, Nat.reduceSub, Nat.reduceEqDiff, Nat.reduceLT, ↓reduceIte, Int.reduceToNat, Int.reduceAdd, Int.reduceSub, Int.reduceMul, Int.reduceLT, Int.reduceLE, Int.reduceEq, Nat.reduceLeDiff,  f2, f3, f222, f223]
      refine Raw_still MX (by kernel_rfl) ?_
      simp +contextual (maxSteps := 2000000) (disch := (first | omega | (simp only [SZ]; done) | (simp only [SZ]; omega) | (simp only [TS] at *; omega))) only [RZ, gval, gslot, fillL, ovw, numb, catL, ldN, agL, okC, oneC, init, Nat.reduceAdd, Nat.reduceMul, Nat.reduceSub, Nat.reduceEqDiff, Nat.reduceLT, ↓reduceIte, Int.reduceToNat, Int.reduceAdd, Int.reduceSub, Int.reduceMul, Int.reduceLT, Int.reduceLE, Int.reduceEq, Nat.reduceLeDiff,  f2, f3, f222, f223, p21, q21, hla, hlb, ti_same]
      refine W_if_f rfl ?_
      simp +contextual (maxSteps := 2000000) (disch := (first | omega | (simp only [SZ]; done) | (simp only [SZ]; omega) | (simp only [TS] at *; omega))) only [RZ, gval, gslot, fillL, ovw, numb, catL, ldN, agL, okC, oneC, init, Nat.reduceAdd, Nat.reduceMul, Nat.reduceSub, Nat.reduceEqDiff, Nat.reduceLT, ↓reduceIte, Int.reduceToNat, Int.reduceAdd, Int.reduceSub, Int.reduceMul, Int.reduceLT, Int.reduceLE, Int.reduceEq, Nat.reduceLeDiff,  f2, f3, f222, f223]
      refine hK _ _ ⟨hbd, k + 1, by omega, ?_⟩ ?_
      · simp +contextual (maxSteps := 2000000) (disch := (first | omega | (simp only [SZ]; done) | (simp only [SZ]; omega) | (simp only [TS] at *; omega))) only [RZ, gval, gslot, fillL, ovw, numb, catL, ldN, agL, okC, oneC, init, Nat.reduceAdd, Nat.reduceMul, Nat.reduceSub, Nat.reduceEqDiff, Nat.reduceLT, ↓reduceIte, Int.reduceToNat, Int.reduceAdd, Int.reduceSub, Int.reduceMul, Int.reduceLT, Int.reduceLE, Int.reduceEq, Nat.reduceLeDiff,  f2, f3, f222, f223]
      · simp +contextual (maxSteps := 2000000) (disch := (first | omega | (simp only [SZ]; done) | (simp only [SZ]; omega) | (simp only [TS] at *; omega))) only [RZ, gval, gslot, fillL, ovw, numb, catL, ldN, agL, okC, oneC, init, Nat.reduceAdd, Nat.reduceMul, Nat.reduceSub, Nat.reduceEqDiff, Nat.reduceLT, ↓reduceIte, Int.reduceToNat, Int.reduceAdd, Int.reduceSub, Int.reduceMul, Int.reduceLT, Int.reduceLE, Int.reduceEq, Nat.reduceLeDiff,  intOf, f223]
        omega
    · simp +contextual (maxSteps := 2000000) (disch := (first | omega | (simp only [SZ]; done) | (simp only [SZ]; omega) | (simp only [TS] at *; omega))) only [RZ, gval, gslot, fillL, ovw, numb, catL, ldN, agL, okC, oneC, init, Nat.reduceAdd, Nat.reduceMul, Nat.reduceSub, Nat.reduceEqDiff, Nat.reduceLT, ↓reduceIte, Int.reduceToNat, Int.reduceAdd, Int.reduceSub, Int.reduceMul, Int.reduceLT, Int.reduceLE, Int.reduceEq, Nat.reduceLeDiff,  f2, f3, f222, f223]
      exact hb
end Go.Proofs.YtbdkggnajipdhaaDoor
/- Walks: the law's few. -/
namespace Go.Proofs.YtbdkggnajipdhaaDoor
open Go.RowKit
set_option maxRecDepth 100000
def fewA (a : Ad) : Bool := !(decide (200 < a.name.size) || decide (50 < a.factors.length) || decide (50 < a.serials.length))
def fewB (G : Gm) : Bool := !(decide (200 < G.name.size) || decide (50 < G.addons.length) || decide (50 < G.tiers.length)) && G.addons.all fewA
theorem lt_cast (a b : Nat) : decide ((a : Int) < (b : Int)) = decide (a < b) := by
  rw [Bool.eq_iff_iff, decide_eq_true_eq, decide_eq_true_eq]; omega
set_option maxHeartbeats 4000000 in
theorem few_any (G : Gm) (Va Vt : Value) (w : World) (hA : GmIn w Va Vt G) :
    Calls Tryd.prog 5 #[.agg (gmV G Va Vt).toArray] w fun e w' => e = .returned (.bool (fewB G)) ∧ Below w.heap.size w w' := by
  refine calls_W (l := [_]) Tryd.func5 rfl _ Tryd.ntmps5 (by simp) ?_
  obtain ⟨⟨Aa, ca, Vs, rfl, hAa, hads⟩, At, ct, rfl, hAt⟩ := hA
  generalize hrr : fewB G = rr
  unfold fewB at hrr
  have r0 := Row.new w 25 (gmV G (.slice Aa G.addons.length ca) (.slice At G.tiers.length ct))
  have b0 := below_alloc w (.cells (gmV G (.slice Aa G.addons.length ca) (.slice At G.tiers.length ct)).toArray 25)
  have z0 := World.size_alloc w (.cells (gmV G (.slice Aa G.addons.length ca) (.slice At G.tiers.length ct)).toArray 25)
  refine W_piece fun K hK hX => ?_
  simp +contextual (maxSteps := 2000000) (disch := (first | omega | (simp only [SZ]; done) | (simp only [SZ]; omega) | (simp only [TS] at *; omega))) only [RZ, gval, gslot, fillL, ovw, numb, catL, ldN, agL, okC, oneC, init, Nat.reduceAdd, Nat.reduceMul, Nat.reduceSub, Nat.reduceEqDiff, Nat.reduceLT, ↓reduceIte, Int.reduceToNat, Int.reduceAdd, Int.reduceSub, Int.reduceMul, Int.reduceLT, Int.reduceLE, Int.reduceEq, Nat.reduceLeDiff]
  refine hK _ _ ?_
  clear hK hX K
  generalize w.alloc (.cells (gmV G (.slice Aa G.addons.length ca) (.slice At G.tiers.length ct)).toArray 25) = w1 at r0 b0 z0 ⊢
  have c0 : w1.cell? ⟨w.heap.size, 0, none⟩ = some (.string G.name) := r0.cell (i := 0) rfl
  have c20 : w1.cell? ⟨w.heap.size, 20, none⟩ = some (.slice Aa G.addons.length ca) := r0.cell (i := 20) rfl
  have c21 : w1.cell? ⟨w.heap.size, 21, none⟩ = some (.slice At G.tiers.length ct) := r0.cell (i := 21) rfl
  have e1 : decide ((200 : Int) < (G.name.size : Int)) = decide (200 < G.name.size) := lt_cast 200 _
  have e2 : decide ((50 : Int) < (G.addons.length : Int)) = decide (50 < G.addons.length) := lt_cast 50 _
  have e3 : decide ((50 : Int) < (G.tiers.length : Int)) = decide (50 < G.tiers.length) := lt_cast 50 _
  refine W_piece fun K hK hX => ?_
  refine W_piece fun K2 hK2 hX2 => ?_
  simp +contextual (maxSteps := 2000000) (disch := (first | omega | (simp only [SZ]; done) | (simp only [SZ]; omega) | (simp only [TS] at *; omega))) only [RZ, gval, gslot, fillL, ovw, numb, catL, ldN, agL, okC, oneC, init, Nat.reduceAdd, Nat.reduceMul, Nat.reduceSub, Nat.reduceEqDiff, Nat.reduceLT, ↓reduceIte, Int.reduceToNat, Int.reduceAdd, Int.reduceSub, Int.reduceMul, Int.reduceLT, Int.reduceLE, Int.reduceEq, Nat.reduceLeDiff,  c0, c20, c21, e1, e2, e3]
  refine hK2 _ _ ?_
  clear hK2 hX2 K2
  cases hbb : (decide (200 < G.name.size) || decide (50 < G.addons.length) || decide (50 < G.tiers.length)) with
  | true =>
    rw [hbb, Bool.not_true, Bool.false_and] at hrr
    subst hrr
    refine W_if_t rfl ?_
    refine W_piece fun K2 hK2 hX2 => ?_
    simp +contextual (maxSteps := 2000000) (disch := (first | omega | (simp only [SZ]; done) | (simp only [SZ]; omega) | (simp only [TS] at *; omega))) only [RZ, gval, gslot, fillL, ovw, numb, catL, ldN, agL, okC, oneC, init, Nat.reduceAdd, Nat.reduceMul, Nat.reduceSub, Nat.reduceEqDiff, Nat.reduceLT, ↓reduceIte, Int.reduceToNat, Int.reduceAdd, Int.reduceSub, Int.reduceMul, Int.reduceLT, Int.reduceLE, Int.reduceEq, Nat.reduceLeDiff]
    refine hK2 _ _ ?_
    rw [W_ret]
    refine hX _ _ _ (fun h => by cases h) ?_
    simp +contextual (maxSteps := 2000000) (disch := (first | omega | (simp only [SZ]; done) | (simp only [SZ]; omega) | (simp only [TS] at *; omega))) only [RZ, gval, gslot, fillL, ovw, numb, catL, ldN, agL, okC, oneC, init, Nat.reduceAdd, Nat.reduceMul, Nat.reduceSub, Nat.reduceEqDiff, Nat.reduceLT, ↓reduceIte, Int.reduceToNat, Int.reduceAdd, Int.reduceSub, Int.reduceMul, Int.reduceLT, Int.reduceLE, Int.reduceEq, Nat.reduceLeDiff]
    exact b0
  | false =>
    rw [hbb, Bool.not_false, Bool.true_and] at hrr
    simp only [Bool.or_eq_false_iff, decide_eq_false_iff_not] at hbb
    refine W_if_f rfl ?_
    rw [W_skip]
    refine hK _ _ ?_
    clear hK hX K
    refine W_cutS (fun σ w2 => w2 = w1 ∧ G.addons.all fewA = true) ?_ ?_
    · rintro σ w2 ⟨rfl, hall⟩
      rw [hall] at hrr
      subst hrr
      simp +contextual (maxSteps := 2000000) (disch := (first | omega | (simp only [SZ]; done) | (simp only [SZ]; omega) | (simp only [TS] at *; omega))) only [RZ, gval, gslot, fillL, ovw, numb, catL, ldN, agL, okC, oneC, init, Nat.reduceAdd, Nat.reduceMul, Nat.reduceSub, Nat.reduceEqDiff, Nat.reduceLT, ↓reduceIte, Int.reduceToNat, Int.reduceAdd, Int.reduceSub, Int.reduceMul, Int.reduceLT, Int.reduceLE, Int.reduceEq, Nat.reduceLeDiff]
      exact b0
    refine W_piece fun K hK hX => ?_
    simp +contextual (maxSteps := 2000000) (disch := (first | omega | (simp only [SZ]; done) | (simp only [SZ]; omega) | (simp only [TS] at *; omega))) only [RZ, gval, gslot, fillL, ovw, numb, catL, ldN, agL, okC, oneC, init, Nat.reduceAdd, Nat.reduceMul, Nat.reduceSub, Nat.reduceEqDiff, Nat.reduceLT, ↓reduceIte, Int.reduceToNat, Int.reduceAdd, Int.reduceSub, Int.reduceMul, Int.reduceLT, Int.reduceLE, Int.reduceEq, Nat.reduceLeDiff,  c20]
    refine hK _ _ ?_
    clear hK hX K
    rw [W_block, W_loop]
    have hAa1 := hAa.below b0
    refine Raw_loop (fun σ w2 => w2 = w1 ∧ ∃ k : Nat, k ≤ G.addons.length ∧ (∀ j a, j < k → G.addons[j]? = some a → fewA a = true) ∧ σ 1 = .pointer (some ⟨w.heap.size, 0, none⟩) ∧ σ 22 = .int .i64 G.addons.length ∧ σ 23 = .int .i64 k) (fun σ _ => G.addons.length - (intOf (σ 23)).toNat) ?_ ?_
    · exact ⟨rfl, 0, Nat.zero_le _, fun j a hj => absurd hj (Nat.not_lt_zero _), rfl, rfl, rfl⟩
    rintro σ w2 ⟨rfl, k, hk, hal, f1, f22, f23⟩ K hK
    simp +contextual (maxSteps := 2000000) (disch := (first | omega | (simp only [SZ]; done) | (simp only [SZ]; omega) | (simp only [TS] at *; omega))) only [RZ, gval, gslot, fillL, ovw, numb, catL, ldN, agL, okC, oneC, init, Nat.reduceAdd, Nat.reduceMul, Nat.reduceSub, Nat.reduceEqDiff, Nat.reduceLT, ↓reduceIte, Int.reduceToNat, Int.reduceAdd, Int.reduceSub, Int.reduceMul, Int.reduceLT, Int.reduceLE, Int.reduceEq, Nat.reduceLeDiff,  f1, f22, f23]
    (refine W_if rfl (fun hc => ?_) (fun hc => ?_) <;> (try simp only [TS] at hc))
    · have hkl : k < G.addons.length := by omega
      obtain ⟨a, ha⟩ : ∃ a, G.addons[k]? = some a := ⟨_, List.getElem?_eq_getElem hkl⟩
      obtain ⟨cv1, hcv⟩ : ∃ c, Vs[k]? = some c := ⟨_, List.getElem?_eq_getElem (by rw [hads.1]; exact hkl)⟩
      obtain ⟨vf, vs, rfl, hvf, hvs⟩ := hads.2 k _ a hcv ha
      obtain ⟨Af, cf, rfl, _⟩ := hvf
      obtain ⟨As, cS, rfl, _⟩ := hvs
      obtain ⟨b2, o2, rfl, hb2, hc2⟩ := hAa1 (by rw [hads.1]; omega)
      have l0 : w2.cell? ⟨b2, o2 + k * 6, none⟩ = some (.string a.name) := by have := hc2 k _ hcv 0 _ rfl; rw [Nat.add_zero] at this; exact this
      have l3 : w2.cell? ⟨b2, o2 + k * 6 + 3, none⟩ = some (.slice Af a.factors.length cf) := hc2 k _ hcv 3 _ rfl
      have l5 : w2.cell? ⟨b2, o2 + k * 6 + 5, none⟩ = some (.slice As a.serials.length cS) := hc2 k _ hcv 5 _ rfl
      have e1 : decide ((200 : Int) < (a.name.size : Int)) = decide (200 < a.name.size) := lt_cast 200 _
      have e2 : decide ((50 : Int) < (a.factors.length : Int)) = decide (50 < a.factors.length) := lt_cast 50 _
      have e3 : decide ((50 : Int) < (a.serials.length : Int)) = decide (50 < a.serials.length) := lt_cast 50 _
      have hfa : fewA a = !(decide (200 < a.name.size) || decide (50 < a.factors.length) || decide (50 < a.serials.length)) := rfl
      rw [W_skip, thenX_normal]
      refine W_piece fun K1 hK1 hX1 => ?_
      rw [W_block]
      refine W_piece fun K2 hK2 hX2 => ?_
      simp +contextual (maxSteps := 2000000) (disch := (first | omega | (simp only [SZ]; done) | (simp only [SZ]; omega) | (simp only [TS] at *; omega))) only [RZ, gval, gslot, fillL, ovw, numb, catL, ldN, agL, okC, oneC, init, Nat.reduceAdd, Nat.reduceMul, Nat.reduceSub, Nat.reduceEqDiff, Nat.reduceLT, ↓reduceIte, Int.reduceToNat, Int.reduceAdd, Int.reduceSub, Int.reduceMul, Int.reduceLT, Int.reduceLE, Int.reduceEq, Nat.reduceLeDiff,  f1, f22, f23]
      refine hK2 _ _ ?_
      clear hK2 hX2 K2
      refine W_piece fun K2 hK2 hX2 => ?_
      simp +contextual (maxSteps := 2000000) (disch := (first | omega | (simp only [SZ]; done) | (simp only [SZ]; omega) | (simp only [TS] at *; omega))) only [RZ, gval, gslot, fillL, ovw, numb, catL, ldN, agL, okC, oneC, init, Nat.reduceAdd, Nat.reduceMul, Nat.reduceSub, Nat.reduceEqDiff, Nat.reduceLT, ↓reduceIte, Int.reduceToNat, Int.reduceAdd, Int.reduceSub, Int.reduceMul, Int.reduceLT, Int.reduceLE, Int.reduceEq, Nat.reduceLeDiff,  f1, f22, f23, c20, l0, l3, l5, e1, e2, e3]
      refine hK2 _ _ ?_
      clear hK2 hX2 K2
      cases hbb : (decide (200 < a.name.size) || decide (50 < a.factors.length) || decide (50 < a.serials.length)) with
      | true =>
        have hff : fewA a = false := by rw [hfa, hbb]; rfl
        have hall : G.addons.all fewA = false := by
          rw [Bool.eq_false_iff]
          intro e
          have := List.all_eq_true.1 e a (List.mem_of_getElem? ha)
          rw [hff] at this
          cases this
        rw [hall] at hrr
        subst hrr
        refine W_if_t rfl ?_
        refine W_piece fun K2 hK2 hX2 => ?_
        simp +contextual (maxSteps := 2000000) (disch := (first | omega | (simp only [SZ]; done) | (simp only [SZ]; omega) | (simp only [TS] at *; omega))) only [RZ, gval, gslot, fillL, ovw, numb, catL, ldN, agL, okC, oneC, init, Nat.reduceAdd, Nat.reduceMul, Nat.reduceSub, Nat.reduceEqDiff, Nat.reduceLT, ↓reduceIte, Int.reduceToNat, Int.reduceAdd, Int.reduceSub, Int.reduceMul, Int.reduceLT, Int.reduceLE, Int.reduceEq, Nat.reduceLeDiff]
        refine hK2 _ _ ?_
        rw [W_ret, inX_ret]
        refine hX1 _ _ _ (fun h => by cases h) ?_
        simp +contextual (maxSteps := 2000000) (disch := (first | omega | (simp only [SZ]; done) | (simp only [SZ]; omega) | (simp only [TS] at *; omega))) only [RZ, gval, gslot, fillL, ovw, numb, catL, ldN, agL, okC, oneC, init, Nat.reduceAdd, Nat.reduceMul, Nat.reduceSub, Nat.reduceEqDiff, Nat.reduceLT, ↓reduceIte, Int.reduceToNat, Int.reduceAdd, Int.reduceSub, Int.reduceMul, Int.reduceLT, Int.reduceLE, Int.reduceEq, Nat.reduceLeDiff]
        exact b0
      | false =>
        refine W_if_f rfl ?_
        rw [W_skip, inX_normal]
        refine hK1 _ _ ?_
        clear hK1 hX1 K1
        simp +contextual (maxSteps := 2000000) (disch := (first | omega | (simp only [SZ]; done) | (simp only [SZ]; omega) | (simp only [TS] at *; omega))) only [RZ, gval, gslot, fillL, ovw, numb, catL, ldN, agL, okC, oneC, init, Nat.reduceAdd, Nat.reduceMul, Nat.reduceSub, Nat.reduceEqDiff, Nat.reduceLT, ↓reduceIte, Int.reduceToNat, Int.reduceAdd, Int.reduceSub, Int.reduceMul, Int.reduceLT, Int.reduceLE, Int.reduceEq, Nat.reduceLeDiff,  f1, f22, f23]
        refine hK _ _ ⟨rfl, k + 1, by omega, fun j a' hj ha' => ?_, ?_⟩ ?_
        · by_cases hjk : j = k
          · subst hjk
            rw [ha] at ha'
            injection ha' with ha'
            subst ha'
            rw [hfa, hbb]; rfl
          · exact hal j a' (by omega) ha'
        · simp +contextual (maxSteps := 2000000) (disch := (first | omega | (simp only [SZ]; done) | (simp only [SZ]; omega) | (simp only [TS] at *; omega))) only [RZ, gval, gslot, fillL, ovw, numb, catL, ldN, agL, okC, oneC, init, Nat.reduceAdd, Nat.reduceMul, Nat.reduceSub, Nat.reduceEqDiff, Nat.reduceLT, ↓reduceIte, Int.reduceToNat, Int.reduceAdd, Int.reduceSub, Int.reduceMul, Int.reduceLT, Int.reduceLE, Int.reduceEq, Nat.reduceLeDiff,  f1, f22, f23]
        · simp +contextual (maxSteps := 2000000) (disch := (first | omega | (simp only [SZ]; done) | (simp only [SZ]; omega) | (simp only [TS] at *; omega))) only [RZ, gval, gslot, fillL, ovw, numb, catL, ldN, agL, okC, oneC, init, Nat.reduceAdd, Nat.reduceMul, Nat.reduceSub, Nat.reduceEqDiff, Nat.reduceLT, ↓reduceIte, Int.reduceToNat, Int.reduceAdd, Int.reduceSub, Int.reduceMul, Int.reduceLT, Int.reduceLE, Int.reduceEq, Nat.reduceLeDiff,  intOf, f23]
          omega
    · have hkz : k = G.addons.length := by omega
      subst hkz
      simp +contextual (maxSteps := 2000000) (disch := (first | omega | (simp only [SZ]; done) | (simp only [SZ]; omega) | (simp only [TS] at *; omega))) only [RZ, gval, gslot, fillL, ovw, numb, catL, ldN, agL, okC, oneC, init, Nat.reduceAdd, Nat.reduceMul, Nat.reduceSub, Nat.reduceEqDiff, Nat.reduceLT, ↓reduceIte, Int.reduceToNat, Int.reduceAdd, Int.reduceSub, Int.reduceMul, Int.reduceLT, Int.reduceLE, Int.reduceEq, Nat.reduceLeDiff,  f1, f22, f23]
      rw [List.all_eq_true]
      intro a ha
      obtain ⟨j, hj⟩ := List.mem_iff_getElem?.1 ha
      exact hal j a (List.getElem?_eq_some_iff.1 hj).1 hj
/-- What a game that passes meets. -/
theorem few_is {G : Gm} (h : fewB G = true) : G.name.size ≤ 200 ∧ G.addons.length ≤ 50 ∧ G.tiers.length ≤ 50 ∧ ∀ a ∈ G.addons, a.name.size ≤ 200 ∧ a.factors.length ≤ 50 ∧ a.serials.length ≤ 50 := by
  unfold fewB at h
  simp only [Bool.and_eq_true, Bool.not_eq_true', Bool.or_eq_false_iff, decide_eq_false_iff_not] at h
  obtain ⟨⟨⟨h1, h2⟩, h3⟩, h4⟩ := h
  refine ⟨by omega, by omega, by omega, fun a ha => ?_⟩
  have := List.all_eq_true.1 h4 a ha
  unfold fewA at this
  simp only [Bool.not_eq_true', Bool.or_eq_false_iff, decide_eq_false_iff_not] at this
  omega
theorem few_little {G : Gm} (h : fewB G = true) : G.little := by
  obtain ⟨h1, h2, h3, h4⟩ := few_is h
  refine ⟨by omega, by omega, by omega, fun a ha => ?_⟩
  have := h4 a ha
  omega
end Go.Proofs.YtbdkggnajipdhaaDoor
/- Plain: chapter 11, a printed game is read back. No program in sight. -/
namespace Go.Proofs.YtbdkggnajipdhaaDoor
def seeL (V : List It) (seen : List (List Nat)) : List (List Nat) := V.foldl It.see seen
theorem see_mem : ∀ (V : List It) (seen : List (List Nat)) (k : List Nat), k ∈ seeL V seen ↔ k ∈ V.filterMap It.key ∨ k ∈ seen
  | [], seen, k => by simp [seeL]
  | i :: V, seen, k => by
    have ih := see_mem V (It.see seen i) k
    unfold seeL at ih ⊢
    rw [List.foldl_cons, ih]
    cases hk : i.key with
    | none => simp [List.filterMap_cons, hk, It.see]
    | some q =>
      simp only [List.filterMap_cons, hk, It.see, List.mem_cons]
      exact ⟨fun h => h.elim (fun h => .inl (.inr h)) (fun h => h.elim (fun h => .inl (.inl h)) .inr), fun h => h.elim (fun h => h.elim (fun h => .inr (.inl h)) .inl) (fun h => .inr (.inr h))⟩
theorem itemsS_len : ∀ V : List It, V.length ≤ (itemsS V).length
  | [] => Nat.le_refl _
  | i :: V => by
    have := itemsS_len V
    unfold itemsS at this ⊢
    rw [List.flatMap_cons, List.length_append, List.length_append, List.length_cons]
    simp only [List.length_cons, List.length_nil]
    omega
/-- Items with different keys are read one behind the other. -/
theorem gitems_read {M : List (Int × List Nat)} (hM : M ≠ []) (hk : ∀ x ∈ M.head?, x.1 ≠ 1) : ∀ (V : List It) (L : List Tk) (f : Nat) (g : Gm) (seen : List (List Nat)), V.all It.fine = true → V.all It.wok = true → (∀ i ∈ V, ∀ d t, i = .days d t → d ≠ 0) →
    (V.filterMap It.key).Nodup → (∀ k ∈ V.filterMap It.key, k ∉ seen) → L.map Kt = inK (itemsS V) ++ M → V.length < f → ∃ L', gitemsT f L g seen = .ok ((V.foldl It.eff g, seeL V seen), L') ∧ L'.map Kt = M
  | [], L, f + 1, g, seen, _, _, _, _, _, h, _ => by
    have h : L.map Kt = M := h
    obtain ⟨x, M', rfl⟩ : ∃ x M', M = x :: M' := by cases M with | nil => exact absurd rfl hM | cons x M' => exact ⟨x, M', rfl⟩
    refine ⟨L, ?_, h⟩
    unfold gitemsT
    rw [if_neg]
    · rfl
    · cases L with
      | nil => cases h
      | cons t r =>
        rw [List.map_cons, List.cons.injEq] at h
        intro e
        have hx := hk x (by simp)
        rw [← h.1] at hx
        exact hx e
  | i :: V, L, f + 1, g, seen, hf, hw, hz, hn, hs, h, hl => by
    rw [List.all_cons, Bool.and_eq_true] at hf hw
    have h' : L.map Kt = inK i.toks ++ ((3, asc ";") :: (inK (itemsS V) ++ M)) := by
      rw [h]; simp [itemsS, inK, List.map_append]
    have hk1 : ∀ k, i.key = some k → k ∉ seen := fun k e => hs k (by rw [List.filterMap_cons, e]; simp)
    obtain ⟨L1, e1, h1⟩ := item_read hf.1 hw.1 (hz i (by simp)) (by simp) (by simp) h' (g := g) hk1
    obtain ⟨e2, h2⟩ := st_is h1 (by intro e; exact hM (List.append_eq_nil_iff.1 e).2)
    have hn' : (V.filterMap It.key).Nodup := by
      rw [List.filterMap_cons] at hn
      cases e : i.key with
      | none => rw [e] at hn; exact hn
      | some q => rw [e] at hn; exact (List.nodup_cons.1 hn).2
    obtain ⟨L', e3, h3⟩ := gitems_read hM hk V (nxT L1) f (i.eff g) (It.see seen i) hf.2 hw.2 (fun j hj => hz j (by simp [hj])) hn' (fun k hkm => by
      have hks := hs k (by
        rw [List.filterMap_cons]
        cases i.key with
        | none => exact hkm
        | some q => exact List.mem_cons_of_mem _ hkm)
      unfold It.see
      cases e : i.key with
      | none => exact hks
      | some q =>
        rw [List.filterMap_cons, e] at hn
        intro hc
        rcases List.mem_cons.1 hc with rfl | hc
        · exact (List.nodup_cons.1 hn).1 hkm
        · exact hks hc) h2 (by rw [List.length_cons] at hl; omega)
    refine ⟨L', ?_, h3⟩
    have hkind : (hdT L).kind = 1 := by
      have : ∃ w R, inK i.toks ++ ((3, asc ";") :: (inK (itemsS V) ++ M)) = (1, w) :: R ∧ R ≠ [] := by
        cases i with
        | two w a b => exact ⟨_, _, rfl, by simp⟩
        | num w n => exact ⟨_, _, rfl, by simp⟩
        | days d t => exact ⟨_, _, rfl, by simp⟩
        | addon a =>
          by_cases ha : a.kind = 1
          · simp only [It.toks, if_pos ha]; exact ⟨_, _, rfl, by simp⟩
          · simp only [It.toks, if_neg ha]; exact ⟨_, _, rfl, by simp⟩
        | tier t => exact ⟨_, _, rfl, by simp⟩
      obtain ⟨w, R, eR, hR⟩ := this
      rw [eR] at h'
      exact (st_next h' hR).1
    unfold gitemsT
    rw [if_pos hkind, bindT_ok e1, thenT_some e2]
    dsimp only
    rw [e3]
    rfl
theorem closeT_ok {g : Gm} {seen : List (List Nat)} {L : List Tk} (h : L.map Kt = [(3, asc "}"), (0, [])]) : closeT ((g, seen), L) = .ok (if asc "system" ∈ seen then g else { g with n := putN g.n 8 (g.n 2) }) := by
  obtain ⟨e, h2⟩ := st_is (k := 3) (w := asc "}") h (by simp)
  unfold closeT
  rw [thenT_some e]
  have : (hdT (nxT L)).kind = 0 := by
    match hL : nxT L, h2 with
    | [], h2 => cases h2
    | [t], h2 =>
      rw [List.map_cons, List.map_nil, List.cons.injEq] at h2
      exact congrArg Prod.fst h2.1
    | _ :: _ :: _, h2 => simp at h2
  rw [if_pos this]
/-- A text of items, as it is printed, is read. -/
theorem game_read {s nm : ByteArray} {V : List It} (hs : bs s = gameX (bs nm) V) (hsz : s.size ≤ 32768) (hn : wordL (bs nm) = true) (hf : V.all It.fine = true) (hw : V.all It.wok = true) (hz : ∀ i ∈ V, ∀ d t, i = .days d t → d ≠ 0) (hnd : (V.filterMap It.key).Nodup) :
    parseG s = ((if asc "system" ∈ V.filterMap It.key then V.foldl It.eff (gm0 nm) else { V.foldl It.eff (gm0 nm) with n := putN (V.foldl It.eff (gm0 nm)).n 8 ((V.foldl It.eff (gm0 nm)).n 2) }), 0, 0) := by
  obtain ⟨L, e, hL⟩ := scan_Lx hsz (by rw [hs]; exact game_Lx hn hf hw)
  have h' : L.map Kt = (1, asc "game") :: (1, bs nm) :: (3, asc "{") :: (inK (itemsS V) ++ [(3, asc "}"), (0, [])]) := by
    rw [hL]; simp [gameS, inK, List.map_append]
  obtain ⟨e1, h1⟩ := st_is h' (by simp)
  obtain ⟨n1, n2, n3⟩ := st_next h1 (by simp)
  obtain ⟨e3, h3⟩ := st_is n3 (by simp)
  obtain ⟨L', e4, h4⟩ := gitems_read (M := [(3, asc "}"), (0, [])]) (by simp) (by simp) V (nxT (nxT (nxT L))) (nxT (nxT (nxT L))).length (gm0 nm) [] hf hw hz hnd (fun k _ h => by cases h) h3 (by
    have := itemsS_len V
    rw [st_len h3, List.length_append]
    unfold inK
    rw [List.length_map]
    simp only [List.length_cons, List.length_nil]
    omega)
  have hnm : (hdT (nxT L)).text = nm := bs_inj n2
  have hg : gameT L = .ok (if asc "system" ∈ seeL V [] then V.foldl It.eff (gm0 nm) else { V.foldl It.eff (gm0 nm) with n := putN (V.foldl It.eff (gm0 nm)).n 8 ((V.foldl It.eff (gm0 nm)).n 2) }) := by
    unfold gameT
    rw [thenT_some e1, if_neg (fun h => h n1), thenT_some e3, hnm, bindT_ok e4, closeT_ok h4]
  unfold parseG
  rw [e, if_neg (by show (0 : Int) ≠ 3; decide), if_neg (fun h => h rfl), hg]
  have : asc "system" ∈ seeL V [] ↔ asc "system" ∈ V.filterMap It.key := by rw [see_mem]; simp
  by_cases hm : asc "system" ∈ V.filterMap It.key
  · rw [if_pos hm, if_pos (this.2 hm)]
  · rw [if_neg hm, if_neg (fun h => hm (this.1 h))]
/-! What is printed of a game. -/
theorem optI_keys (w : List Nat) (n std : Int) : (optI w n std).filterMap It.key = if n = std then [] else [w] := by
  unfold optI; by_cases h : n = std <;> simp [h, It.key]
theorem optI_wok {w : List Nat} (h : (simpleI w).isSome = true) (n std : Int) : (optI w n std).all It.wok = true := by
  unfold optI; by_cases e : n = std <;> simp [e, It.wok, h]
theorem optI_eff {w : List Nat} {i : Nat} (h : simpleI w = some i) (n std : Int) (g : Gm) (hg : g.n i = std) : (optI w n std).foldl It.eff g = { g with n := putN g.n i n } := by
  unfold optI
  by_cases e : n = std
  · rw [if_pos e, List.foldl_nil]
    have : putN g.n i n = g.n := by
      funext j
      unfold putN
      by_cases hj : j = i
      · rw [if_pos hj, hj, hg, e]
      · rw [if_neg hj]
    rw [this]
  · rw [if_neg e, List.foldl_cons, List.foldl_nil]
    simp only [It.eff, h]
/-- Keys in their order. -/
def keysK : List (List Nat) := [asc "choose", asc "bonus", asc "extra", asc "price", asc "draws", asc "system", asc "days", asc "close", asc "cancel", asc "expiry", asc "pool", asc "reserve", asc "round", asc "cap", asc "rolls"]
theorem keysK_nodup : keysK.Nodup := by decide +kernel
theorem opt_sub (b : Bool) (w : List Nat) : List.Sublist (if b then [] else [w]) [w] := by cases b <;> simp
theorem optK_sub (w : List Nat) (n std : Int) : List.Sublist ((optI w n std).filterMap It.key) [w] := by
  rw [optI_keys]; by_cases h : n = std <;> simp [h]
def bonusI (n : Nat → Int) : List It := if n 4 ≠ 0 ∨ n 5 ≠ 0 then [.two (asc "bonus") (n 4) (n 5)] else []
theorem headI_is (n : Nat → Int) : headI n = [.two (if n 0 = 1 then asc "choose" else asc "digits") (n 2) (n 3)] ++ bonusI n ++ (optI (asc "extra") (n 6) 0 ++ optI (asc "price") (n 1) 0 ++ optI (asc "draws") (n 7) 1 ++ optI (asc "system") (n 8) (n 2)) := rfl
theorem choose_key (n : Nat → Int) : It.key (.two (if n 0 = 1 then asc "choose" else asc "digits") (n 2) (n 3)) = some (asc "choose") := by
  by_cases h : n 0 = 1
  · rw [if_pos h]; exact congrArg some (if_neg (by decide +kernel))
  · rw [if_neg h]; exact congrArg some (if_neg (by decide +kernel))
theorem bonus_sub (n : Nat → Int) : List.Sublist ((bonusI n).filterMap It.key) [asc "bonus"] := by
  unfold bonusI; by_cases h : n 4 ≠ 0 ∨ n 5 ≠ 0
  · rw [if_pos h]; simp [It.key]
  · rw [if_neg h]; simp
theorem days_sub (n : Nat → Int) : List.Sublist ((daysI n).filterMap It.key) [asc "days"] := by
  unfold daysI; by_cases h : n 9 = 0 <;> simp [h, It.key]
theorem map_keys {α : Type} (f : α → It) (hf : ∀ a, (f a).key = none) (l : List α) : (l.map f).filterMap It.key = [] := by
  rw [List.filterMap_map, List.filterMap_eq_nil_iff]
  intro a _
  exact hf a
theorem keys_sub (G : Gm) : List.Sublist ((itemsG G).filterMap It.key) keysK := by
  unfold itemsG optsI
  rw [headI_is]
  simp only [List.filterMap_append, List.filterMap_cons, List.filterMap_nil, choose_key, map_keys It.addon (fun _ => rfl), map_keys It.tier (fun _ => rfl), List.append_nil]
  have e : keysK = [asc "choose"] ++ [asc "bonus"] ++ ([asc "extra"] ++ [asc "price"] ++ [asc "draws"] ++ [asc "system"]) ++ [asc "days"] ++ ([asc "close"] ++ [asc "cancel"] ++ [asc "expiry"] ++ [asc "pool"] ++ [asc "reserve"] ++ [asc "round"] ++ [asc "cap"] ++ [asc "rolls"]) := rfl
  rw [e]
  have A := fun {a b c d : List (List Nat)} (h1 : List.Sublist a b) (h2 : List.Sublist c d) => List.Sublist.append h1 h2
  exact A (A (A (A (List.Sublist.refl _) (bonus_sub _)) (A (A (A (optK_sub _ _ _) (optK_sub _ _ _)) (optK_sub _ _ _)) (optK_sub _ _ _))) (days_sub _)) (A (A (A (A (A (A (A (optK_sub _ _ _) (optK_sub _ _ _)) (optK_sub _ _ _)) (optK_sub _ _ _)) (optK_sub _ _ _)) (optK_sub _ _ _)) (optK_sub _ _ _)) (optK_sub _ _ _))
theorem keys_nodup (G : Gm) : ((itemsG G).filterMap It.key).Nodup := (keys_sub G).nodup keysK_nodup
theorem items_wok (G : Gm) : (itemsG G).all It.wok = true := by
  unfold itemsG optsI daysI
  rw [headI_is]
  unfold bonusI
  simp only [List.all_append, Bool.and_eq_true]
  have hw : ∀ w ∈ simpleW, (simpleI w).isSome = true := by
    have : simpleW.all (fun w => (simpleI w).isSome) = true := by decide +kernel
    exact List.all_eq_true.1 this
  have hm : ∀ (w : List Nat) (n std : Int), w ∈ simpleW → (optI w n std).all It.wok = true := fun w n std h => optI_wok (hw w h) n std
  refine ⟨⟨⟨⟨⟨⟨?_, ?_⟩, ⟨⟨hm _ _ _ (by decide +kernel), hm _ _ _ (by decide +kernel)⟩, hm _ _ _ (by decide +kernel)⟩, hm _ _ _ (by decide +kernel)⟩, ?_⟩, ⟨⟨⟨⟨⟨⟨hm _ _ _ (by decide +kernel), hm _ _ _ (by decide +kernel)⟩, hm _ _ _ (by decide +kernel)⟩, hm _ _ _ (by decide +kernel)⟩, hm _ _ _ (by decide +kernel)⟩, hm _ _ _ (by decide +kernel)⟩, hm _ _ _ (by decide +kernel)⟩, hm _ _ _ (by decide +kernel)⟩, ?_⟩, ?_⟩
  · simp only [List.all_cons, List.all_nil, Bool.and_true, It.wok]
    by_cases h : G.n 0 = 1 <;> simp [h]
  · by_cases h : G.n 4 ≠ 0 ∨ G.n 5 ≠ 0
    · rw [if_pos h]; simp [It.wok]
    · rw [if_neg h]; rfl
  · by_cases h : G.n 9 = 0
    · rw [if_pos h]; rfl
    · rw [if_neg h]; simp [It.wok]
  · rw [List.all_map]; simp [It.wok]
  · rw [List.all_map]; simp [It.wok]
theorem items_days (G : Gm) (h0 : 0 ≤ G.n 9) : ∀ i ∈ itemsG G, ∀ d t, i = .days d t → d ≠ 0 := by
  intro i hi d t e
  subst e
  unfold itemsG optsI at hi
  rw [headI_is] at hi
  have ho : ∀ (w : List Nat) (n std : Int), It.days d t ∉ optI w n std := fun w n std h => by
    unfold optI at h; by_cases e : n = std <;> simp [e] at h
  have hb : It.days d t ∉ bonusI G.n := fun h => by
    unfold bonusI at h; by_cases e : G.n 4 ≠ 0 ∨ G.n 5 ≠ 0
    · rw [if_pos e] at h; simp at h
    · rw [if_neg e] at h; simp at h
  simp only [List.mem_append, ho, hb, or_false, false_or, List.mem_singleton, List.mem_map] at hi
  rcases hi with ((hi | hi) | ⟨_, _, hi⟩) | ⟨_, _, hi⟩
  · cases hi
  · unfold daysI at hi
    by_cases e : G.n 9 = 0
    · rw [if_pos e] at hi; cases hi
    · rw [if_neg e, List.mem_singleton] at hi
      injection hi with h1 h2
      omega
  · cases hi
  · cases hi
/-- All that a game's cells hold. -/
def gmC (G : Gm) : ByteArray × List Int × List Ad × List Ti := (G.name, (List.range 19).map G.n, G.addons, G.tiers)
theorem sys_opt (w : List Nat) (n std : Int) (hw : asc "system" ≠ w) : asc "system" ∉ (optI w n std).filterMap It.key := by
  rw [optI_keys]
  by_cases h : n = std
  · rw [if_pos h]; simp
  · rw [if_neg h, List.mem_singleton]; exact hw
theorem sys_mem (G : Gm) : asc "system" ∈ (itemsG G).filterMap It.key ↔ G.n 8 ≠ G.n 2 := by
  unfold itemsG optsI
  rw [headI_is]
  simp only [List.filterMap_append, List.filterMap_cons, List.filterMap_nil, choose_key, map_keys It.addon (fun _ => rfl), map_keys It.tier (fun _ => rfl), List.append_nil, List.mem_append]
  have hb : asc "system" ∉ (bonusI G.n).filterMap It.key := fun h => absurd ((bonus_sub G.n).subset h) (by decide +kernel)
  have hd : asc "system" ∉ (daysI G.n).filterMap It.key := fun h => absurd ((days_sub G.n).subset h) (by decide +kernel)
  have hc : asc "system" ∉ [asc "choose"] := by decide +kernel
  have hs : asc "system" ∈ (optI (asc "system") (G.n 8) (G.n 2)).filterMap It.key ↔ G.n 8 ≠ G.n 2 := by
    rw [optI_keys]
    by_cases h : G.n 8 = G.n 2
    · rw [if_pos h]; simp [h]
    · rw [if_neg h]; simp [h]
  simp only [sys_opt _ _ _ (show asc "system" ≠ asc "extra" by decide +kernel), sys_opt _ _ _ (show asc "system" ≠ asc "price" by decide +kernel), sys_opt _ _ _ (show asc "system" ≠ asc "draws" by decide +kernel), sys_opt _ _ _ (show asc "system" ≠ asc "close" by decide +kernel),
    sys_opt _ _ _ (show asc "system" ≠ asc "cancel" by decide +kernel), sys_opt _ _ _ (show asc "system" ≠ asc "expiry" by decide +kernel), sys_opt _ _ _ (show asc "system" ≠ asc "pool" by decide +kernel), sys_opt _ _ _ (show asc "system" ≠ asc "reserve" by decide +kernel),
    sys_opt _ _ _ (show asc "system" ≠ asc "round" by decide +kernel), sys_opt _ _ _ (show asc "system" ≠ asc "cap" by decide +kernel), sys_opt _ _ _ (show asc "system" ≠ asc "rolls" by decide +kernel), hb, hd, hc, hs, false_or, or_false]
theorem bonus_eff (n : Nat → Int) (g : Gm) (h4 : g.n 4 = 0) (h5 : g.n 5 = 0) : (bonusI n).foldl It.eff g = { g with n := putN (putN g.n 4 (n 4)) 5 (n 5) } := by
  unfold bonusI
  by_cases h : n 4 ≠ 0 ∨ n 5 ≠ 0
  · rw [if_pos h, List.foldl_cons, List.foldl_nil]
    simp only [It.eff, ↓reduceIte]
  · rw [if_neg h, List.foldl_nil]
    have e4 : n 4 = 0 := Classical.byContradiction fun e => h (.inl e)
    have e5 : n 5 = 0 := Classical.byContradiction fun e => h (.inr e)
    have : putN (putN g.n 4 (n 4)) 5 (n 5) = g.n := by
      funext j
      unfold putN
      by_cases h5' : j = 5
      · rw [if_pos h5', h5', h5, e5]
      · rw [if_neg h5']
        by_cases h4' : j = 4
        · rw [if_pos h4', h4', h4, e4]
        · rw [if_neg h4']
    rw [this]
theorem days_eff (n : Nat → Int) (g : Gm) (h9 : g.n 9 = 0) (h10 : g.n 10 = 0) (hc : daysC n = true) : (daysI n).foldl It.eff g = { g with n := putN (putN g.n 9 (n 9)) 10 (n 10) } := by
  unfold daysC at hc
  simp only [Bool.and_eq_true, decide_eq_true_eq] at hc
  unfold daysI
  by_cases h : n 9 = 0
  · rw [if_pos h, List.foldl_nil]
    have e10 : n 10 = 0 := by simpa [h] using hc.2
    have : putN (putN g.n 9 (n 9)) 10 (n 10) = g.n := by
      funext j
      unfold putN
      by_cases h5' : j = 10
      · rw [if_pos h5', h5', h10, e10]
      · rw [if_neg h5']
        by_cases h4' : j = 9
        · rw [if_pos h4', h4', h9, h]
        · rw [if_neg h4']
    rw [this]
  · rw [if_neg h, List.foldl_cons, List.foldl_nil]
    simp only [It.eff]
    rw [show ((n 9).toNat : Int) = n 9 by omega]
theorem addons_eff : ∀ (l : List Ad) (g : Gm), (l.map It.addon).foldl It.eff g = { g with addons := g.addons ++ l }
  | [], g => by simp
  | a :: l, g => by
    rw [List.map_cons, List.foldl_cons, addons_eff l]
    simp only [It.eff, List.append_assoc, List.singleton_append]
theorem tiers_eff : ∀ (l : List Ti) (g : Gm), (l.map It.tier).foldl It.eff g = { g with tiers := g.tiers ++ l }
  | [], g => by simp
  | a :: l, g => by
    rw [List.map_cons, List.foldl_cons, tiers_eff l]
    simp only [It.eff, List.append_assoc, List.singleton_append]
set_option maxHeartbeats 2000000 in
/-- A printed game is read back. -/
theorem game_back {G : Gm} (hf : fineG G = true) {s : ByteArray} (hs : bs s = textG G) (hsz : s.size ≤ 32768) : (gmC (parseG s).1, (parseG s).2) = (gmC G, 0, 0) := by
  have hfine := hf
  unfold fineG at hf
  simp only [Bool.and_eq_true, Bool.or_eq_true, decide_eq_true_eq] at hf
  obtain ⟨⟨⟨hn, hk⟩, hd⟩, hi⟩ := hf
  have h09 : 0 ≤ G.n 9 := by
    unfold daysC at hd
    simp only [Bool.and_eq_true, decide_eq_true_eq] at hd
    omega
  rw [game_read (nm := G.name) (V := itemsG G) hs hsz hn hi (items_wok G) (items_days G h09) (keys_nodup G)]
  have hkk : (if (if G.n 0 = 1 then asc "choose" else asc "digits") = asc "digits" then (2 : Int) else 1) = G.n 0 := by
    rcases hk with h | h
    · rw [if_pos h, if_neg (by decide +kernel), h]
    · have h1 : ¬ G.n 0 = 1 := by omega
      rw [if_neg h1, if_pos rfl, h]
  have hF : ∃ N : Nat → Int, (itemsG G).foldl It.eff (gm0 G.name) = ⟨G.name, N, G.addons, G.tiers⟩ ∧ (∀ i, i < 19 → i ≠ 8 → N i = G.n i) ∧ (G.n 8 ≠ G.n 2 → N 8 = G.n 8) := by
    unfold itemsG optsI
    rw [headI_is]
    simp only [List.foldl_append, List.foldl_cons, List.foldl_nil]
    have e1 : It.eff (gm0 G.name) (.two (if G.n 0 = 1 then asc "choose" else asc "digits") (G.n 2) (G.n 3)) = ⟨G.name, putN (putN (putN (gm0 G.name).n 0 (G.n 0)) 2 (G.n 2)) 3 (G.n 3), [], []⟩ := by
      have hb : (if G.n 0 = 1 then asc "choose" else asc "digits") ≠ asc "bonus" := by
        by_cases h : G.n 0 = 1
        · rw [if_pos h]; decide +kernel
        · rw [if_neg h]; decide +kernel
      refine (if_neg hb).trans ?_
      rw [hkk]
      rfl
    rw [e1, bonus_eff _ _ (by simp [putN, gm0]) (by simp [putN, gm0])]
    rw [optI_eff (w := asc "extra") (i := 6) (by decide +kernel) _ _ _ (by simp [putN, gm0]), optI_eff (w := asc "price") (i := 1) (by decide +kernel) _ _ _ (by simp [putN, gm0]), optI_eff (w := asc "draws") (i := 7) (by decide +kernel) _ _ _ (by simp [putN, gm0])]
    have e8 : ∀ g : Gm, ∃ v, (optI (asc "system") (G.n 8) (G.n 2)).foldl It.eff g = { g with n := putN g.n 8 v } ∧ (G.n 8 ≠ G.n 2 → v = G.n 8) := fun g => by
      unfold optI
      by_cases h : G.n 8 = G.n 2
      · refine ⟨g.n 8, ?_, fun e => absurd h e⟩
        rw [if_pos h, List.foldl_nil]
        have : putN g.n 8 (g.n 8) = g.n := by
          funext j
          unfold putN
          by_cases hj : j = 8
          · rw [if_pos hj, hj]
          · rw [if_neg hj]
        rw [this]
      · refine ⟨G.n 8, ?_, fun _ => rfl⟩
        rw [if_neg h, List.foldl_cons, List.foldl_nil]
        have : simpleI (asc "system") = some 8 := by decide +kernel
        simp only [It.eff, this]
    obtain ⟨v, ev, hv⟩ := e8 { name := G.name, n := putN (putN (putN (putN (putN (putN (putN (putN (gm0 G.name).n 0 (G.n 0)) 2 (G.n 2)) 3 (G.n 3)) 4 (G.n 4)) 5 (G.n 5)) 6 (G.n 6)) 1 (G.n 1)) 7 (G.n 7), addons := [], tiers := [] }
    rw [ev, days_eff _ _ (by simp [putN, gm0]) (by simp [putN, gm0]) hd]
    rw [optI_eff (w := asc "close") (i := 11) (by decide +kernel) _ _ _ (by simp [putN, gm0]), optI_eff (w := asc "cancel") (i := 12) (by decide +kernel) _ _ _ (by simp [putN, gm0]), optI_eff (w := asc "expiry") (i := 13) (by decide +kernel) _ _ _ (by simp [putN, gm0]), optI_eff (w := asc "pool") (i := 14) (by decide +kernel) _ _ _ (by simp [putN, gm0]),
      optI_eff (w := asc "reserve") (i := 15) (by decide +kernel) _ _ _ (by simp [putN, gm0]), optI_eff (w := asc "round") (i := 16) (by decide +kernel) _ _ _ (by simp [putN, gm0]), optI_eff (w := asc "cap") (i := 17) (by decide +kernel) _ _ _ (by simp [putN, gm0]), optI_eff (w := asc "rolls") (i := 18) (by decide +kernel) _ _ _ (by simp [putN, gm0])]
    rw [addons_eff, tiers_eff]
    simp only [List.nil_append]
    refine ⟨_, rfl, fun i hi h8 => ?_, fun h => ?_⟩
    · have : i = 0 ∨ i = 1 ∨ i = 2 ∨ i = 3 ∨ i = 4 ∨ i = 5 ∨ i = 6 ∨ i = 7 ∨ i = 9 ∨ i = 10 ∨ i = 11 ∨ i = 12 ∨ i = 13 ∨ i = 14 ∨ i = 15 ∨ i = 16 ∨ i = 17 ∨ i = 18 := by omega
      rcases this with rfl | rfl | rfl | rfl | rfl | rfl | rfl | rfl | rfl | rfl | rfl | rfl | rfl | rfl | rfl | rfl | rfl | rfl <;> simp [putN]
    · rw [← hv h]; simp [putN]
  obtain ⟨N, eF, hN, h8⟩ := hF
  rw [eF]
  have hs2 := sys_mem G
  have hcut : ∀ N' : Nat → Int, (∀ i, i < 19 → N' i = G.n i) → gmC ⟨G.name, N', G.addons, G.tiers⟩ = gmC G := fun N' h => by
    unfold gmC
    simp only [Prod.mk.injEq, true_and, and_true]
    exact List.map_congr_left fun i hi => h i (List.mem_range.1 hi)
  by_cases h : G.n 8 = G.n 2
  · rw [if_neg (fun e => hs2.1 e h)]
    simp only [Prod.mk.injEq, and_true]
    refine hcut _ fun i hi => ?_
    unfold putN
    by_cases hi8 : i = 8
    · rw [if_pos hi8, hi8, h]; exact hN 2 (by decide) (by decide)
    · rw [if_neg hi8]; exact hN i hi hi8
  · rw [if_pos (hs2.2 h)]
    simp only [Prod.mk.injEq, and_true]
    refine hcut _ fun i hi => ?_
    by_cases hi8 : i = 8
    · rw [hi8]; exact h8 h
    · exact hN i hi hi8
end Go.Proofs.YtbdkggnajipdhaaDoor
/- Walks: the law's awake. -/
namespace Go.Proofs.YtbdkggnajipdhaaDoor
open Go.RowKit
set_option maxRecDepth 100000
theorem gmC_n {G q : Gm} (h : gmC G = gmC q) {i : Nat} (hi : i < 19) : G.n i = q.n i := by
  have := congrArg (fun x => x.2.1[i]?) h
  simp only [gmC, List.getElem?_map, List.getElem?_range hi, Option.map_some, Option.some.injEq] at this
  exact this
theorem gmV_C {G q : Gm} (h : gmC G = gmC q) (Va Vt : Value) : gmV G Va Vt = gmV q Va Vt := by
  have hn : G.name = q.name := congrArg Prod.fst h
  unfold gmV
  rw [hn, gmC_n h (i := 0) (by decide), gmC_n h (i := 1) (by decide), gmC_n h (i := 2) (by decide), gmC_n h (i := 3) (by decide), gmC_n h (i := 4) (by decide), gmC_n h (i := 5) (by decide), gmC_n h (i := 6) (by decide), gmC_n h (i := 7) (by decide), gmC_n h (i := 8) (by decide), gmC_n h (i := 9) (by decide), gmC_n h (i := 10) (by decide), gmC_n h (i := 11) (by decide), gmC_n h (i := 12) (by decide), gmC_n h (i := 13) (by decide), gmC_n h (i := 14) (by decide), gmC_n h (i := 15) (by decide), gmC_n h (i := 16) (by decide), gmC_n h (i := 17) (by decide), gmC_n h (i := 18) (by decide)]
theorem GmIn.C {w : World} {Va Vt : Value} {G q : Gm} (h : GmIn w Va Vt G) (e : gmC G = gmC q) : GmIn w Va Vt q := by
  have ha : G.addons = q.addons := congrArg (fun x => x.2.2.1) e
  have ht : G.tiers = q.tiers := congrArg (fun x => x.2.2.2) e
  unfold GmIn at h ⊢
  rw [ha, ht] at h
  exact h
theorem parse_ex {s : ByteArray} {q : Gm} {er ln : Int} (hs : s.size ≤ 1000000) {w : World} (hW : Laid w) (hw9 : 5 ≤ w.heap.size) (hp : (gmC (parseG s).1, (parseG s).2) = (gmC q, er, ln)) : Calls Tryd.prog 8 #[.string s] w fun e w' => Below w.heap.size w w' ∧
    ∃ Va Vt, e = .returned (.tuple #[.agg (gmV q Va Vt).toArray, .int .i64 er, .int .i64 ln]) ∧ GmIn w' Va Vt q := by
  simp only [Prod.mk.injEq] at hp
  obtain ⟨h1, h2⟩ := hp
  have h3 : (parseG s).2.1 = er := congrArg Prod.fst h2
  have h4 : (parseG s).2.2 = ln := congrArg Prod.snd h2
  refine (parse_any s w hs hW hw9).mono ?_
  rintro e w1 ⟨hB, Va, Vt, he, hG⟩
  rw [gmV_C h1, h3, h4] at he
  exact ⟨hB, Va, Vt, he, hG.C h1⟩
theorem W_gen {P : Program} {n : Nat} {c : Code} {Q : Exit → Sl → World → Prop} {σ : Sl} {w : World} (h : ∀ w2, w2 = w → W P n c Q σ w2) : W P n c Q σ w := h w rfl
set_option maxHeartbeats 4000000 in
theorem awake_any (w : World) (hW : Laid w) (hw9 : 5 ≤ w.heap.size) : Calls Tryd.prog 6 #[] w fun e w' => e = .returned (.bool true) ∧ Below w.heap.size w w' := by
  refine calls_W (l := []) Tryd.func6 rfl _ Tryd.ntmps6 (by simp) ?_
  refine W_piece fun K hK hX => ?_
  simp +contextual (maxSteps := 2000000) (disch := (first | omega | (simp only [SZ]; done) | (simp only [SZ]; omega) | (simp only [TS] at *; omega))) only [RZ, gval, gslot, fillL, ovw, numb, catL, ldN, agL, okC, oneC, init, Nat.reduceAdd, Nat.reduceMul, Nat.reduceSub, Nat.reduceEqDiff, Nat.reduceLT, ↓reduceIte, Int.reduceToNat, Int.reduceAdd, Int.reduceSub, Int.reduceMul, Int.reduceLT, Int.reduceLE, Int.reduceEq, Nat.reduceLeDiff]
  refine hK _ _ ?_
  clear hK hX K
  refine W_piece fun K hK hX => ?_
  simp +contextual (maxSteps := 2000000) (disch := (first | omega | (simp only [SZ]; done) | (simp only [SZ]; omega) | (simp only [TS] at *; omega))) only [RZ, gval, gslot, fillL, ovw, numb, catL, ldN, agL, okC, oneC, init, Nat.reduceAdd, Nat.reduceMul, Nat.reduceSub, Nat.reduceEqDiff, Nat.reduceLT, ↓reduceIte, Int.reduceToNat, Int.reduceAdd, Int.reduceSub, Int.reduceMul, Int.reduceLT, Int.reduceLE, Int.reduceEq, Nat.reduceLeDiff]
  refine (parse_ex (q := exT) (er := 0) (ln := 0) (by decide) hW hw9 (by kernel_rfl)).mono ?_
  rintro e w1 ⟨hB1, Va, Vt, rfl, hG1⟩
  refine ⟨_, rfl, ?_⟩
  obtain ⟨⟨Aa, ca, Vs, rfl, hAa, hads⟩, At, ct, rfl, hAt⟩ := id hG1
  have hz1 := hB1.size
  simp only [gmV]
  simp +contextual (maxSteps := 2000000) (disch := (first | omega | (simp only [SZ]; done) | (simp only [SZ]; omega) | (simp only [TS] at *; omega))) only [RZ, gval, gslot, fillL, ovw, numb, catL, ldN, agL, okC, oneC, init, Nat.reduceAdd, Nat.reduceMul, Nat.reduceSub, Nat.reduceEqDiff, Nat.reduceLT, ↓reduceIte, Int.reduceToNat, Int.reduceAdd, Int.reduceSub, Int.reduceMul, Int.reduceLT, Int.reduceLE, Int.reduceEq, Nat.reduceLeDiff]
  refine hK _ _ ?_
  clear hK hX K
  refine W_gen fun w2 hw2 => ?_
  have r1 : Row w2 w1.heap.size 25 (gmV exT (.slice Aa exT.addons.length ca) (.slice At exT.tiers.length ct)) := by rw [hw2]; exact Row.new w1 _ _
  have hB2 : Below w1.heap.size w1 w2 := by rw [hw2]; exact below_alloc w1 _
  clear hw2
  have hG2 := hG1.below hB2
  have hAt2 := hAt.below hB2
  have hAa2 := hAa.below hB2
  obtain ⟨b, o, rfl, hb, hcb⟩ := hAt2.at_ (enc := encTi) (k := 1) rfl
  obtain ⟨cv1, hcv⟩ : ∃ c, Vs[0]? = some c := ⟨_, List.getElem?_eq_getElem (by rw [hads.1]; decide)⟩
  obtain ⟨vf, vs, rfl, hvf, hvs⟩ := hads.2 0 _ ⟨toBA (asc "joker"), 2, 100, [], 2, [300, 5000]⟩ hcv rfl
  obtain ⟨As, cS, rfl, hAs⟩ := hvs
  obtain ⟨b3, o3, rfl, hb3, hc3⟩ := hAa2 (by rw [hads.1]; decide)
  have l5 : w2.cell? _ = _ := hc3 0 _ hcv 5 _ rfl
  have t0 : w2.cell? _ = _ := hcb 0 _ rfl
  have c1 : w2.cell? ⟨w1.heap.size, 1, none⟩ = some (.int .i64 2) := r1.cell (i := 1) rfl
  have c9 : w2.cell? ⟨w1.heap.size, 9, none⟩ = some (.int .i64 3) := r1.cell (i := 9) rfl
  have c10 : w2.cell? ⟨w1.heap.size, 10, none⟩ = some (.int .i64 36) := r1.cell (i := 10) rfl
  have c11 : w2.cell? ⟨w1.heap.size, 11, none⟩ = some (.int .i64 1230) := r1.cell (i := 11) rfl
  have c20 : w2.cell? ⟨w1.heap.size, 20, none⟩ = some (.slice (some ⟨b3, o3, none⟩) 1 ca) := r1.cell (i := 20) rfl
  have c21 : w2.cell? ⟨w1.heap.size, 21, none⟩ = some (.slice (some ⟨b, o, none⟩) 2 ct) := r1.cell (i := 21) rfl
  refine W_piece fun K hK hX => ?_
  refine W_piece fun K2 hK2 hX2 => ?_
  have n1 : decide (((0 : Nat) : Int) + 1 = 1) = true := rfl
  have n2 : decide (((0 : Nat) : Int) + 1 + 1 = 2) = true := rfl
  simp +contextual (maxSteps := 2000000) (disch := (first | omega | (simp only [SZ]; done) | (simp only [SZ]; omega) | (simp only [TS] at *; omega))) only [RZ, gval, gslot, fillL, ovw, numb, catL, ldN, agL, okC, oneC, init, Nat.reduceAdd, Nat.reduceMul, Nat.reduceSub, Nat.reduceEqDiff, Nat.reduceLT, ↓reduceIte, Int.reduceToNat, Int.reduceAdd, Int.reduceSub, Int.reduceMul, Int.reduceLT, Int.reduceLE, Int.reduceEq, Nat.reduceLeDiff,  c1, c9, c10, c11, c20, c21, l5, t0, n1, n2]
  have hbl := below_alloc w2 (.cells #[.int .i64 300, .int .i64 5000] 3)
  have hNew : Arr (w2.alloc (.cells #[.int .i64 300, .int .i64 5000] 3)) (some ⟨w2.heap.size, 0, none⟩) 1 (([300, 5000] : List Int).map fun n => [Value.int .i64 n]) :=
    arr_row (Vs := ([300, 5000] : List Int).map fun n => [Value.int .i64 n]) (Row.new w2 3 [.int .i64 300, .int .i64 5000]) (by simp)
  refine (ints_any [300, 5000] As (some ⟨w2.heap.size, 0, none⟩) cS 2 _ ((hAs.below hB2).below hbl) hNew (by decide)).mono ?_
  rintro e w3 ⟨rfl, hB3⟩
  refine ⟨_, rfl, ?_⟩
  have hB23 : Below w2.heap.size w2 w3 := hbl.trans (hB3.mono hbl.size)
  try simp +contextual (maxSteps := 2000000) (disch := (first | omega | (simp only [SZ]; done) | (simp only [SZ]; omega) | (simp only [TS] at *; omega))) only [RZ, gval, gslot, fillL, ovw, numb, catL, ldN, agL, okC, oneC, init, Nat.reduceAdd, Nat.reduceMul, Nat.reduceSub, Nat.reduceEqDiff, Nat.reduceLT, ↓reduceIte, Int.reduceToNat, Int.reduceAdd, Int.reduceSub, Int.reduceMul, Int.reduceLT, Int.reduceLE, Int.reduceEq, Nat.reduceLeDiff]
  refine hK2 _ _ ?_
  clear hK2 hX2 K2
  refine W_if_f (by rfl) ?_
  rw [W_skip]
  refine hK _ _ ?_
  clear hK hX K
  have hG3 := hG2.below hB23
  have r3 := r1.below hB23
  have hF3 : Below w.heap.size w w3 := hB1.trans ((hB2.trans (hB23.mono hB2.size)).mono hz1)
  have hW3 := hW.below hF3 hW.size
  have hz3 := hF3.size
  refine W_piece fun K hK hX => ?_
  simp +contextual (maxSteps := 2000000) (disch := (first | omega | (simp only [SZ]; done) | (simp only [SZ]; omega) | (simp only [TS] at *; omega))) only [RZ, gval, gslot, fillL, ovw, numb, catL, ldN, agL, okC, oneC, init, Nat.reduceAdd, Nat.reduceMul, Nat.reduceSub, Nat.reduceEqDiff, Nat.reduceLT, ↓reduceIte, Int.reduceToNat, Int.reduceAdd, Int.reduceSub, Int.reduceMul, Int.reduceLT, Int.reduceLE, Int.reduceEq, Nat.reduceLeDiff]
  refine (parse_ex (q := noGm) (er := 6) (ln := 2) (by decide) hW3 (by omega) (by kernel_rfl)).mono ?_
  rintro e w4 ⟨hB4, Va4, Vt4, rfl, hG4⟩
  refine ⟨_, rfl, ?_⟩
  obtain ⟨⟨Aa4, ca4, Vs4, rfl, _⟩, At4, ct4, rfl, _⟩ := id hG4
  simp only [gmV]
  simp +contextual (maxSteps := 2000000) (disch := (first | omega | (simp only [SZ]; done) | (simp only [SZ]; omega) | (simp only [TS] at *; omega))) only [RZ, gval, gslot, fillL, ovw, numb, catL, ldN, agL, okC, oneC, init, Nat.reduceAdd, Nat.reduceMul, Nat.reduceSub, Nat.reduceEqDiff, Nat.reduceLT, ↓reduceIte, Int.reduceToNat, Int.reduceAdd, Int.reduceSub, Int.reduceMul, Int.reduceLT, Int.reduceLE, Int.reduceEq, Nat.reduceLeDiff]
  refine hK _ _ ?_
  clear hK hX K
  refine W_gen fun w5 hw5 => ?_
  have hB5 : Below w4.heap.size w4 w5 := by rw [hw5]; exact below_alloc w4 _
  clear hw5
  have hB35 : Below w3.heap.size w3 w5 := hB4.trans (hB5.mono hB4.size)
  have hG5 := hG3.below hB35
  have r5 := r3.below hB35
  have hF5 := hF3.trans (hB35.mono hF3.size)
  have hl5 : vLoad Tryd.prog 25 (.pointer (some ⟨w1.heap.size, 0, none⟩)) w5 = .ok (.value (.agg (gmV exT (.slice (some ⟨b3, o3, none⟩) exT.addons.length ca) (.slice (some ⟨b, o, none⟩) exT.tiers.length ct)).toArray)) w5 :=
    vLoad_all (by kernel_rfl) (by rw [gmV_len]; kernel_rfl) (fun i v hv => by rw [Nat.zero_add]; exact r5.cell hv)
  refine W_piece fun K hK hX => ?_
  simp +contextual (maxSteps := 2000000) (disch := (first | omega | (simp only [SZ]; done) | (simp only [SZ]; omega) | (simp only [TS] at *; omega))) only [RZ, gval, gslot, fillL, ovw, numb, catL, ldN, agL, okC, oneC, init, Nat.reduceAdd, Nat.reduceMul, Nat.reduceSub, Nat.reduceEqDiff, Nat.reduceLT, ↓reduceIte, Int.reduceToNat, Int.reduceAdd, Int.reduceSub, Int.reduceMul, Int.reduceLT, Int.reduceLE, Int.reduceEq, Nat.reduceLeDiff,  hl5]
  refine (print_any exT _ _ w5 (hW.below hF5 hW.size) (by have := hF5.size; omega) hG5 (by unfold Gm.little; decide)).mono ?_
  rintro e w6 ⟨rfl, hB6⟩
  refine ⟨_, rfl, ?_⟩
  try simp +contextual (maxSteps := 2000000) (disch := (first | omega | (simp only [SZ]; done) | (simp only [SZ]; omega) | (simp only [TS] at *; omega))) only [RZ, gval, gslot, fillL, ovw, numb, catL, ldN, agL, okC, oneC, init, Nat.reduceAdd, Nat.reduceMul, Nat.reduceSub, Nat.reduceEqDiff, Nat.reduceLT, ↓reduceIte, Int.reduceToNat, Int.reduceAdd, Int.reduceSub, Int.reduceMul, Int.reduceLT, Int.reduceLE, Int.reduceEq, Nat.reduceLeDiff]
  refine hK _ _ ?_
  clear hK hX K
  simp +contextual (maxSteps := 2000000) (disch := (first | omega | (simp only [SZ]; done) | (simp only [SZ]; omega) | (simp only [TS] at *; omega))) only [RZ, gval, gslot, fillL, ovw, numb, catL, ldN, agL, okC, oneC, init, Nat.reduceAdd, Nat.reduceMul, Nat.reduceSub, Nat.reduceEqDiff, Nat.reduceLT, ↓reduceIte, Int.reduceToNat, Int.reduceAdd, Int.reduceSub, Int.reduceMul, Int.reduceLT, Int.reduceLE, Int.reduceEq, Nat.reduceLeDiff]
  refine ⟨congrArg (fun b => Ending.returned (.bool b)) (decide_eq_true (by decide +kernel)), hF5.trans (hB6.mono hF5.size)⟩
end Go.Proofs.YtbdkggnajipdhaaDoor
