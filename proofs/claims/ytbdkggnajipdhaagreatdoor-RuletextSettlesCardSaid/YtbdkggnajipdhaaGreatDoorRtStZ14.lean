/- Texts laid one behind the other: RwB, RwC, RwD, RfA, RpA, RpB. Each says at its head what it proves. -/
import Derived.Test.YtbdkggnajipdhaaGreatDoorRtStZ13
set_option linter.unusedSimpArgs false
/- Walk: the law's Same on equal games. -/
namespace Go.Proofs.YtbdkggnajipdhaaGreatDoor
open Nat (reduceAdd reduceMul reduceSub reduceEqDiff reduceLT reduceLeDiff)
open Go.RowKit
set_option maxRecDepth 100000
section
variable {P : Program} {T : TypeId} {w : World} {g : Nat}
theorem setCells_stW : ∀ (vs : List Value) (i : Nat) (w : World), w.setCells g i vs = stW g i vs w
  | [], _, _ => rfl
  | v :: r, i, w => setCells_stW r (i + 1) _
theorem okC_row : ∀ (vs : List Value) (i : Nat) (cs : List Value), Row w g T cs → i + vs.length ≤ cs.length → (∀ v ∈ vs, oneC v = true) → okC w g vs.length i vs = true
  | [], _, _, _, _, _ => rfl
  | v :: r, i, cs, h, hl, h1 => by
    rw [List.length_cons] at hl
    have ih := okC_row r (i + 1) cs h (by omega) fun v hv => h1 v (by simp [hv])
    have hc := h.cell (i := i) (v := cs[i]'(by omega)) (List.getElem?_eq_getElem (by omega))
    have hf := h.frozen i
    simp only [List.length_cons, okC, h1 v (by simp), hc, hf, ih, Option.isSome_some, Bool.not_false, Bool.and_self]
theorem vStore_row {c : Value} {cs cs0 : List Value} (hR : Row w g T cs0) (hl : (c :: cs).length = cs0.length) (hz : szOf P T = (c :: cs).length) (h1 : ∀ v ∈ c :: cs, oneC v = true) :
    vStore P T (.pointer (some ⟨g, 0, none⟩)) (.agg (c :: cs).toArray) w = .ok .skip (w.setCells g 0 (c :: cs)) := by
  rw [vStore_aggN, hz, okC_row (c :: cs) 0 cs0 hR (by omega) h1]
  rfl
theorem setCells_row {cs0 : List Value} (vs : List Value) (hR : Row w g T cs0) (hl : vs.length = cs0.length) : Row (w.setCells g 0 vs) g T vs := by
  have := stW_row vs 0 w cs0 hR (by omega)
  rw [← setCells_stW] at this
  exact this
theorem setCells_below {B : Nat} {a : World} (hB : B ≤ g) : ∀ (vs : List Value) (i : Nat) (w : World), Below B a w → Below B a (w.setCells g i vs)
  | [], _, _, h => h
  | v :: r, i, w, h => setCells_below hB r (i + 1) _ (h.setCell (p := ⟨g, i, none⟩) hB v)
theorem setCells_other {g' : Nat} {T' : TypeId} {cs' : List Value} (hg : g' ≠ g) : ∀ (vs : List Value) (i : Nat) (w : World), Row w g' T' cs' → Row (w.setCells g i vs) g' T' cs'
  | [], _, _, h => h
  | v :: r, i, w, h => setCells_other hg r (i + 1) _ (by
      obtain ⟨cur, hc, x⟩ := h
      exact ⟨cur, by simp [World.setCell, Array.getElem?_modify, Ne.symm hg, hc], x⟩)
end
def zAd : List Value := encAd ⟨ByteArray.empty, 0, 0, [], 0, []⟩ (.slice none 0 0) (.slice none 0 0)
/-- Two new add-ons, made in either order. -/
structure AB (w0 : World) (x y : Option Nat) (w' : World) : Prop where
  low : Below w0.heap.size w0 w'
  ra : ∀ g, x = some g → w0.heap.size ≤ g ∧ Row w' g 45 zAd
  rb : ∀ g, y = some g → w0.heap.size ≤ g ∧ Row w' g 45 zAd
  ne : ∀ g h, x = some g → y = some h → g ≠ h
theorem AB.putA {w0 w' : World} {y : Option Nat} (h : AB w0 none y w') : AB w0 (some w'.heap.size) y (w'.alloc (.cells zAd.toArray 45)) :=
  ⟨h.low.alloc h.low.size _, fun g e => by injection e with e; subst e; exact ⟨h.low.size, Row.new w' _ zAd⟩, fun g e => ⟨(h.rb g e).1, (h.rb g e).2.alloc _⟩,
    fun g k e1 e2 => by injection e1 with e1; have := (h.rb k e2).2.lt; omega⟩
theorem AB.putB {w0 w' : World} {x : Option Nat} (h : AB w0 x none w') : AB w0 x (some w'.heap.size) (w'.alloc (.cells zAd.toArray 45)) :=
  ⟨h.low.alloc h.low.size _, fun g e => ⟨(h.ra g e).1, (h.ra g e).2.alloc _⟩, fun g e => by injection e with e; subst e; exact ⟨h.low.size, Row.new w' _ zAd⟩,
    fun g k e1 e2 => by injection e2 with e2; have := (h.ra g e1).2.lt; omega⟩
set_option maxHeartbeats 8000000 in
theorem same_any (G : Gm) (Va Vt Va' Vt' : Value) (w : World) (hA : GmIn w Va Vt G) (hB : GmIn w Va' Vt' G) (hL : G.little) :
    Calls Tryz.prog 11 #[.agg (gmV G Va Vt).toArray, .agg (gmV G Va' Vt').toArray] w fun e w' => e = .returned (.bool true) ∧ Below w.heap.size w w' := by
  refine calls_W (l := [_, _]) Tryz.func11 rfl _ Tryz.ntmps11 (by simp) ?_
  obtain ⟨hnl, hal, htl, hadl⟩ := hL
  obtain ⟨⟨Aa, ca, Vs, rfl, hAa, hads⟩, At, ct, rfl, hAt⟩ := hA
  obtain ⟨⟨Ba, da, Us, rfl, hBa, hbds⟩, Bt, dt, rfl, hBt⟩ := hB
  have r0 := Row.new w 26 (gmV G (.slice Aa G.addons.length ca) (.slice At G.tiers.length ct))
  have b0 := below_alloc w (.cells (gmV G (.slice Aa G.addons.length ca) (.slice At G.tiers.length ct)).toArray 26)
  have z0 := World.size_alloc w (.cells (gmV G (.slice Aa G.addons.length ca) (.slice At G.tiers.length ct)).toArray 26)
  refine W_piece fun K hK hX => ?_
  simp +contextual (maxSteps := 2000000) (disch := first | omega | (simp only [SZ]; first | done | omega) | (simp only [TS] at *; omega)) only [RZ, ovw, oneC, reduceAdd, reduceMul, reduceSub, reduceEqDiff, reduceLT, ↓reduceIte, Int.reduceToNat, reduceLeDiff]
  refine hK _ _ ?_
  clear hK hX K
  generalize w.alloc (.cells (gmV G (.slice Aa G.addons.length ca) (.slice At G.tiers.length ct)).toArray 26) = w0 at r0 b0 z0 ⊢
  have r1 := Row.new w0 26 (gmV G (.slice Ba G.addons.length da) (.slice Bt G.tiers.length dt))
  have b1 := b0.trans ((below_alloc w0 (.cells (gmV G (.slice Ba G.addons.length da) (.slice Bt G.tiers.length dt)).toArray 26)).mono (by omega))
  have z1 := World.size_alloc w0 (.cells (gmV G (.slice Ba G.addons.length da) (.slice Bt G.tiers.length dt)).toArray 26)
  replace r0 := r0.alloc (.cells (gmV G (.slice Ba G.addons.length da) (.slice Bt G.tiers.length dt)).toArray 26)
  generalize w0.alloc (.cells (gmV G (.slice Ba G.addons.length da) (.slice Bt G.tiers.length dt)).toArray 26) = w1 at r0 r1 b1 z1 ⊢
  rw [z0] at r1 z1
  clear b0
  have c0 : w1.cell? ⟨w.heap.size, 0, none⟩ = some (.string G.name) := r0.cell (i := 0) rfl
  have d0 : w1.cell? ⟨w.heap.size + 1, 0, none⟩ = some (.string G.name) := r1.cell (i := 0) rfl
  have c1 : w1.cell? ⟨w.heap.size, 1, none⟩ = some (.int .i64 (G.n 0)) := r0.cell (i := 1) rfl
  have d1 : w1.cell? ⟨w.heap.size + 1, 1, none⟩ = some (.int .i64 (G.n 0)) := r1.cell (i := 1) rfl
  have c2 : w1.cell? ⟨w.heap.size, 2, none⟩ = some (.int .i64 (G.n 1)) := r0.cell (i := 2) rfl
  have d2 : w1.cell? ⟨w.heap.size + 1, 2, none⟩ = some (.int .i64 (G.n 1)) := r1.cell (i := 2) rfl
  have c3 : w1.cell? ⟨w.heap.size, 3, none⟩ = some (.int .i64 (G.n 2)) := r0.cell (i := 3) rfl
  have d3 : w1.cell? ⟨w.heap.size + 1, 3, none⟩ = some (.int .i64 (G.n 2)) := r1.cell (i := 3) rfl
  have c4 : w1.cell? ⟨w.heap.size, 4, none⟩ = some (.int .i64 (G.n 3)) := r0.cell (i := 4) rfl
  have d4 : w1.cell? ⟨w.heap.size + 1, 4, none⟩ = some (.int .i64 (G.n 3)) := r1.cell (i := 4) rfl
  have c5 : w1.cell? ⟨w.heap.size, 5, none⟩ = some (.int .i64 (G.n 4)) := r0.cell (i := 5) rfl
  have d5 : w1.cell? ⟨w.heap.size + 1, 5, none⟩ = some (.int .i64 (G.n 4)) := r1.cell (i := 5) rfl
  have c6 : w1.cell? ⟨w.heap.size, 6, none⟩ = some (.int .i64 (G.n 5)) := r0.cell (i := 6) rfl
  have d6 : w1.cell? ⟨w.heap.size + 1, 6, none⟩ = some (.int .i64 (G.n 5)) := r1.cell (i := 6) rfl
  have c7 : w1.cell? ⟨w.heap.size, 7, none⟩ = some (.int .i64 (G.n 6)) := r0.cell (i := 7) rfl
  have d7 : w1.cell? ⟨w.heap.size + 1, 7, none⟩ = some (.int .i64 (G.n 6)) := r1.cell (i := 7) rfl
  have c8 : w1.cell? ⟨w.heap.size, 8, none⟩ = some (.int .i64 (G.n 7)) := r0.cell (i := 8) rfl
  have d8 : w1.cell? ⟨w.heap.size + 1, 8, none⟩ = some (.int .i64 (G.n 7)) := r1.cell (i := 8) rfl
  have c9 : w1.cell? ⟨w.heap.size, 9, none⟩ = some (.int .i64 (G.n 8)) := r0.cell (i := 9) rfl
  have d9 : w1.cell? ⟨w.heap.size + 1, 9, none⟩ = some (.int .i64 (G.n 8)) := r1.cell (i := 9) rfl
  have c10 : w1.cell? ⟨w.heap.size, 10, none⟩ = some (.int .i64 (G.n 9)) := r0.cell (i := 10) rfl
  have d10 : w1.cell? ⟨w.heap.size + 1, 10, none⟩ = some (.int .i64 (G.n 9)) := r1.cell (i := 10) rfl
  have c11 : w1.cell? ⟨w.heap.size, 11, none⟩ = some (.int .i64 (G.n 10)) := r0.cell (i := 11) rfl
  have d11 : w1.cell? ⟨w.heap.size + 1, 11, none⟩ = some (.int .i64 (G.n 10)) := r1.cell (i := 11) rfl
  have c12 : w1.cell? ⟨w.heap.size, 12, none⟩ = some (.int .i64 (G.n 11)) := r0.cell (i := 12) rfl
  have d12 : w1.cell? ⟨w.heap.size + 1, 12, none⟩ = some (.int .i64 (G.n 11)) := r1.cell (i := 12) rfl
  have c13 : w1.cell? ⟨w.heap.size, 13, none⟩ = some (.int .i64 (G.n 12)) := r0.cell (i := 13) rfl
  have d13 : w1.cell? ⟨w.heap.size + 1, 13, none⟩ = some (.int .i64 (G.n 12)) := r1.cell (i := 13) rfl
  have c14 : w1.cell? ⟨w.heap.size, 14, none⟩ = some (.int .i64 (G.n 13)) := r0.cell (i := 14) rfl
  have d14 : w1.cell? ⟨w.heap.size + 1, 14, none⟩ = some (.int .i64 (G.n 13)) := r1.cell (i := 14) rfl
  have c15 : w1.cell? ⟨w.heap.size, 15, none⟩ = some (.int .i64 (G.n 14)) := r0.cell (i := 15) rfl
  have d15 : w1.cell? ⟨w.heap.size + 1, 15, none⟩ = some (.int .i64 (G.n 14)) := r1.cell (i := 15) rfl
  have c16 : w1.cell? ⟨w.heap.size, 16, none⟩ = some (.int .i64 (G.n 15)) := r0.cell (i := 16) rfl
  have d16 : w1.cell? ⟨w.heap.size + 1, 16, none⟩ = some (.int .i64 (G.n 15)) := r1.cell (i := 16) rfl
  have c17 : w1.cell? ⟨w.heap.size, 17, none⟩ = some (.int .i64 (G.n 16)) := r0.cell (i := 17) rfl
  have d17 : w1.cell? ⟨w.heap.size + 1, 17, none⟩ = some (.int .i64 (G.n 16)) := r1.cell (i := 17) rfl
  have c18 : w1.cell? ⟨w.heap.size, 18, none⟩ = some (.int .i64 (G.n 17)) := r0.cell (i := 18) rfl
  have d18 : w1.cell? ⟨w.heap.size + 1, 18, none⟩ = some (.int .i64 (G.n 17)) := r1.cell (i := 18) rfl
  have c19 : w1.cell? ⟨w.heap.size, 19, none⟩ = some (.int .i64 (G.n 18)) := r0.cell (i := 19) rfl
  have d19 : w1.cell? ⟨w.heap.size + 1, 19, none⟩ = some (.int .i64 (G.n 18)) := r1.cell (i := 19) rfl
  have c20 : w1.cell? ⟨w.heap.size, 20, none⟩ = some (.slice Aa G.addons.length ca) := r0.cell (i := 20) rfl
  have d20 : w1.cell? ⟨w.heap.size + 1, 20, none⟩ = some (.slice Ba G.addons.length da) := r1.cell (i := 20) rfl
  have c21 : w1.cell? ⟨w.heap.size, 21, none⟩ = some (.slice At G.tiers.length ct) := r0.cell (i := 21) rfl
  have d21 : w1.cell? ⟨w.heap.size + 1, 21, none⟩ = some (.slice Bt G.tiers.length dt) := r1.cell (i := 21) rfl
  refine W_piece fun K hK hX => ?_
  refine W_piece fun K2 hK2 hX2 => ?_
  simp +contextual (maxSteps := 2000000) (disch := first | omega | (simp only [SZ]; first | done | omega) | (simp only [TS] at *; omega)) only [RZ, ovw, oneC, reduceAdd, reduceMul, reduceSub, reduceEqDiff, reduceLT, ↓reduceIte, Int.reduceToNat, reduceLeDiff,  c0, d0, c1, d1, c2, d2, c3, d3, c4, d4, c5, d5, c6, d6, c7, d7]
  refine hK2 _ _ ?_
  clear hK2 hX2 K2
  refine W_if_f rfl ?_
  rw [W_skip]
  refine hK _ _ ?_
  clear hK hX K
  refine W_piece fun K hK hX => ?_
  refine W_piece fun K2 hK2 hX2 => ?_
  simp +contextual (maxSteps := 2000000) (disch := first | omega | (simp only [SZ]; first | done | omega) | (simp only [TS] at *; omega)) only [RZ, ovw, oneC, reduceAdd, reduceMul, reduceSub, reduceEqDiff, reduceLT, ↓reduceIte, Int.reduceToNat, reduceLeDiff,  c8, d8, c9, d9, c10, d10, c11, d11, c12, d12, c13, d13, c14, d14]
  refine hK2 _ _ ?_
  clear hK2 hX2 K2
  refine W_if_f rfl ?_
  rw [W_skip]
  refine hK _ _ ?_
  clear hK hX K
  refine W_piece fun K hK hX => ?_
  refine W_piece fun K2 hK2 hX2 => ?_
  simp +contextual (maxSteps := 2000000) (disch := first | omega | (simp only [SZ]; first | done | omega) | (simp only [TS] at *; omega)) only [RZ, ovw, oneC, reduceAdd, reduceMul, reduceSub, reduceEqDiff, reduceLT, ↓reduceIte, Int.reduceToNat, reduceLeDiff,  c15, d15, c16, d16, c17, d17, c18, d18, c19, d19, c20, d20, c21, d21]
  refine hK2 _ _ ?_
  clear hK2 hX2 K2
  refine W_if_f rfl ?_
  rw [W_skip]
  refine hK _ _ ?_
  clear hK hX K
  clear c0 d0 c1 d1 c2 d2 c3 d3 c4 d4 c5 d5 c6 d6 c7 d7 c8 d8 c9 d9 c10 d10 c11 d11 c12 d12 c13 d13 c14 d14 c15 d15 c16 d16 c17 d17 c18 d18 c19 d19 c20 d20 c21 d21
  have hAa1 := hAa.below b1
  have hBa1 := hBa.below b1
  have hAt1 := hAt.below b1
  have hBt1 := hBt.below b1
  have hads1 := hads.mono (P' := IntsR w1) fun v L hv => hv.below b1
  have hbds1 := hbds.mono (P' := IntsR w1) fun v L hv => hv.below b1
  clear hAa hBa hAt hBt hads hbds
  refine W_cutS (fun σ w2 => Below w1.heap.size w1 w2 ∧ σ 2 = .pointer (some ⟨w.heap.size, 0, none⟩) ∧ σ 3 = .pointer (some ⟨w.heap.size + 1, 0, none⟩)) ?_ ?_
  rotate_left
  · have c20 : w1.cell? ⟨w.heap.size, 20, none⟩ = some (.slice Aa G.addons.length ca) := r0.cell (i := 20) rfl
    refine W_piece fun K hK hX => ?_
    simp +contextual (maxSteps := 2000000) (disch := first | omega | (simp only [SZ]; first | done | omega) | (simp only [TS] at *; omega)) only [RZ, ovw, oneC, reduceAdd, reduceMul, reduceSub, reduceEqDiff, reduceLT, ↓reduceIte, Int.reduceToNat, reduceLeDiff,  c20]
    refine hK _ _ ?_
    clear hK hX K c20
    rw [W_block, W_loop]
    refine Raw_loop (fun σ w2 => Below w1.heap.size w1 w2 ∧ ∃ k : Nat, k ≤ G.addons.length ∧ σ 2 = .pointer (some ⟨w.heap.size, 0, none⟩) ∧ σ 3 = .pointer (some ⟨w.heap.size + 1, 0, none⟩) ∧ σ 163 = .int .i64 G.addons.length ∧ σ 164 = .int .i64 k) (fun σ _ => G.addons.length - (intOf (σ 164)).toNat) ?_ ?_
    · exact ⟨Below.refl _ _, 0, Nat.zero_le _, rfl, rfl, rfl, rfl⟩
    rintro σ w2 ⟨hb, k, hk, f2, f3, f163, f164⟩ K hK
    simp +contextual (maxSteps := 2000000) (disch := first | omega | (simp only [SZ]; first | done | omega) | (simp only [TS] at *; omega)) only [RZ, ovw, oneC, reduceAdd, reduceMul, reduceSub, reduceEqDiff, reduceLT, ↓reduceIte, Int.reduceToNat, reduceLeDiff,  f163, f164]
    (refine W_if rfl (fun hc => ?_) (fun hc => ?_) <;> (try simp only [TS] at hc))
    · have hkl : k < G.addons.length := by omega
      obtain ⟨a, ha⟩ : ∃ a, G.addons[k]? = some a := ⟨_, List.getElem?_eq_getElem hkl⟩
      obtain ⟨cv1, hcv⟩ : ∃ c, Vs[k]? = some c := ⟨_, List.getElem?_eq_getElem (by rw [hads1.1]; exact hkl)⟩
      obtain ⟨vf, vs, rfl, hvf, hvs⟩ := hads1.2 k _ a hcv ha
      obtain ⟨cv2, hcu⟩ : ∃ c, Us[k]? = some c := ⟨_, List.getElem?_eq_getElem (by rw [hbds1.1]; exact hkl)⟩
      obtain ⟨uf, us, rfl, huf, hus⟩ := hbds1.2 k _ a hcu ha
      obtain ⟨b2, o2, rfl, hb2, hc2⟩ := hAa1 (by rw [hads1.1]; omega)
      obtain ⟨b3, o3, rfl, hb3, hc3⟩ := hBa1 (by rw [hbds1.1]; omega)
      obtain ⟨m1, m2, m3⟩ := hadl a (List.mem_of_getElem? ha)
      simp +contextual (maxSteps := 2000000) (disch := first | omega | (simp only [SZ]; first | done | omega) | (simp only [TS] at *; omega)) only [RZ, ovw, oneC, reduceAdd, reduceMul, reduceSub, reduceEqDiff, reduceLT, ↓reduceIte, Int.reduceToNat, reduceLeDiff,  f2, f3, f163, f164]
      have hbd : Below w1.heap.size w1 w2.drew := below_drew hb
      have hlt1 := r0.lt
      have hlt2 := r1.lt
      have hsz2 := hb.size
      have p20 : ∀ w7, Below w2.heap.size w2.drew w7 → w7.cell? ⟨w.heap.size, 20, none⟩ = some (.slice (some ⟨b2, o2, none⟩) G.addons.length ca) := fun w7 h7 => (r0.below (hbd.trans (h7.mono hsz2))).cell (i := 20) rfl
      have q20 : ∀ w7, Below w2.heap.size w2.drew w7 → w7.cell? ⟨w.heap.size + 1, 20, none⟩ = some (.slice (some ⟨b3, o3, none⟩) G.addons.length da) := fun w7 h7 => (r1.below (hbd.trans (h7.mono hsz2))).cell (i := 20) rfl
      have hla : ∀ w7, Below w2.heap.size w2.drew w7 → vLoad Tryz.prog 45 (.pointer (some ⟨b2, o2 + k * 6, none⟩)) w7 = .ok (.value (.agg (encAd a vf vs).toArray)) w7 := fun w7 h7 => vLoad_all (by kernel_rfl) (by show _ = some 6; kernel_rfl) (fun i v hv => ((bcell (hbd.trans (h7.mono hsz2))).1 _ _ hb2).trans (hc2 k _ hcv i v hv))
      have hlb : ∀ w7, Below w2.heap.size w2.drew w7 → vLoad Tryz.prog 45 (.pointer (some ⟨b3, o3 + k * 6, none⟩)) w7 = .ok (.value (.agg (encAd a uf us).toArray)) w7 := fun w7 h7 => vLoad_all (by kernel_rfl) (by show _ = some 6; kernel_rfl) (fun i v hv => ((bcell (hbd.trans (h7.mono hsz2))).1 _ _ hb3).trans (hc3 k _ hcu i v hv))
      have hS : Below w2.heap.size w2.drew w2.drew := Below.refl _ _
      refine Raw_ord (fun w7 => Below w2.heap.size w2.drew w7) 14 rfl MX ?_
      refine Ord_reads (τ := ?ta) [0, 1, 2, 3, 4, 5, 6, 7, 8, 9] 4 rfl (by kernel_rfl) (by kernel_rfl) (fun _ _ _ h => h) hS (fun w7 h7 => ?_) ?_; rotate_left
      · simp only [opsL_cons, opsL_nil, List.getElem?_toArray, List.getElem?_cons_zero, List.getElem?_cons_succ, optL_some]
        simp +contextual (maxSteps := 2000000) (disch := first | omega | (simp only [SZ]; first | done | omega) | (simp only [TS] at *; omega)) only [RZ, ovw, oneC, reduceAdd, reduceMul, reduceSub, reduceEqDiff, reduceLT, ↓reduceIte, Int.reduceToNat, reduceLeDiff,  f2, f3, p20 w7 h7, q20 w7 h7, hla w7 h7, hlb w7 h7]
        exact rfl
      refine Ord_two (fun (x y : Option Nat) w7 => AB w2.drew x y w7) (fun g => .pointer (some ⟨g, 0, none⟩)) (fun g => .pointer (some ⟨g, 0, none⟩)) 10 11 6 7 rfl rfl (by decide) (by decide) (by decide) (by decide) (by kernel_rfl) (by kernel_rfl) (by kernel_rfl)
        ⟨Below.refl _ _, (fun g e => by cases e), (fun g e => by cases e), (fun g h e => by cases e)⟩ ?_ ?_ ?_
      · intro y w7 σ' hσ h7
        simp +contextual (maxSteps := 2000000) (disch := first | omega | (simp only [SZ]; first | done | omega) | (simp only [TS] at *; omega)) only [RZ, ovw, oneC, reduceAdd, reduceMul, reduceSub, reduceEqDiff, reduceLT, ↓reduceIte, Int.reduceToNat, reduceLeDiff]
        exact ⟨_, rfl, h7.putA.low, h7.putA⟩
      · intro x w7 σ' hσ h7
        simp +contextual (maxSteps := 2000000) (disch := first | omega | (simp only [SZ]; first | done | omega) | (simp only [TS] at *; omega)) only [RZ, ovw, oneC, reduceAdd, reduceMul, reduceSub, reduceEqDiff, reduceLT, ↓reduceIte, Int.reduceToNat, reduceLeDiff]
        exact ⟨_, rfl, h7.putB.low, h7.putB⟩
      intro x y w7 h7
      obtain ⟨hxl, hxr⟩ := h7.ra x rfl
      obtain ⟨hyl, hyr⟩ := h7.rb y rfl
      have hxy := h7.ne x y rfl rfl
      have hl7 := h7.low
      have st1 : vStore Tryz.prog 45 (.pointer (some ⟨x, 0, none⟩)) (.agg (encAd a vf vs).toArray) w7 = .ok .skip (w7.setCells x 0 (encAd a vf vs)) := by
        obtain ⟨Av, cv, rfl, _⟩ := id hvf
        obtain ⟨As, cS, rfl, _⟩ := id hvs
        exact vStore_row hxr rfl (by kernel_rfl) (by intro v hv; simp only [List.mem_cons, List.not_mem_nil, or_false] at hv; rcases hv with rfl | rfl | rfl | rfl | rfl | rfl <;> rfl)
      have hyr2 := setCells_other (Ne.symm hxy) (encAd a vf vs) 0 w7 hyr
      have hxr2 := setCells_row (encAd a vf vs) hxr rfl
      have hl8 := setCells_below hxl (encAd a vf vs) 0 w7 hl7
      refine Ord_one 12 (by kernel_rfl) rfl ?_
      simp +contextual (maxSteps := 2000000) (disch := first | omega | (simp only [SZ]; first | done | omega) | (simp only [TS] at *; omega)) only [RZ, ovw, oneC, reduceAdd, reduceMul, reduceSub, reduceEqDiff, reduceLT, ↓reduceIte, Int.reduceToNat, reduceLeDiff,  st1]
      generalize w7.setCells x 0 (encAd a vf vs) = w8 at hyr2 hxr2 hl8 ⊢
      have st2 : vStore Tryz.prog 45 (.pointer (some ⟨y, 0, none⟩)) (.agg (encAd a uf us).toArray) w8 = .ok .skip (w8.setCells y 0 (encAd a uf us)) := by
        obtain ⟨Av, cv, rfl, _⟩ := id huf
        obtain ⟨As, cS, rfl, _⟩ := id hus
        exact vStore_row hyr2 rfl (by kernel_rfl) (by intro v hv; simp only [List.mem_cons, List.not_mem_nil, or_false] at hv; rcases hv with rfl | rfl | rfl | rfl | rfl | rfl <;> rfl)
      have hxr3 := setCells_other hxy (encAd a uf us) 0 w8 hxr2
      have hyr3 := setCells_row (encAd a uf us) hyr2 rfl
      have hl9 := setCells_below hyl (encAd a uf us) 0 w8 hl8
      refine ⟨hl8, Ord_one 13 (by kernel_rfl) rfl ?_⟩
      simp +contextual (maxSteps := 2000000) (disch := first | omega | (simp only [SZ]; first | done | omega) | (simp only [TS] at *; omega)) only [RZ, ovw, oneC, reduceAdd, reduceMul, reduceSub, reduceEqDiff, reduceLT, ↓reduceIte, Int.reduceToNat, reduceLeDiff,  st2]
      generalize w8.setCells y 0 (encAd a uf us) = w9 at hyr3 hxr3 hl9 ⊢
      refine ⟨hl9, Ord_done (by kernel_rfl) ?_⟩
      clear st1 st2 hl8 hl7 hyr2 hxr2 h7
      have hl1w : Below w1.heap.size w1 w9 := hbd.trans (hl9.mono hsz2)
      have x0 : w9.cell? ⟨x, 0, none⟩ = some (.string a.name) := hxr3.cell (i := 0) rfl
      have x1 : w9.cell? ⟨x, 1, none⟩ = some (.int .i64 a.kind) := hxr3.cell (i := 1) rfl
      have x2 : w9.cell? ⟨x, 2, none⟩ = some (.int .i64 a.price) := hxr3.cell (i := 2) rfl
      have x3 : w9.cell? ⟨x, 3, none⟩ = some vf := hxr3.cell (i := 3) rfl
      have x4 : w9.cell? ⟨x, 4, none⟩ = some (.int .i64 a.digits) := hxr3.cell (i := 4) rfl
      have x5 : w9.cell? ⟨x, 5, none⟩ = some vs := hxr3.cell (i := 5) rfl
      have y0 : w9.cell? ⟨y, 0, none⟩ = some (.string a.name) := hyr3.cell (i := 0) rfl
      have y1 : w9.cell? ⟨y, 1, none⟩ = some (.int .i64 a.kind) := hyr3.cell (i := 1) rfl
      have y2 : w9.cell? ⟨y, 2, none⟩ = some (.int .i64 a.price) := hyr3.cell (i := 2) rfl
      have y3 : w9.cell? ⟨y, 3, none⟩ = some uf := hyr3.cell (i := 3) rfl
      have y4 : w9.cell? ⟨y, 4, none⟩ = some (.int .i64 a.digits) := hyr3.cell (i := 4) rfl
      have y5 : w9.cell? ⟨y, 5, none⟩ = some us := hyr3.cell (i := 5) rfl
      obtain ⟨Af, cf, rfl, hAf⟩ := id hvf
      obtain ⟨As, cS, rfl, hAs⟩ := id hvs
      obtain ⟨Bf, df, rfl, hBf⟩ := id huf
      obtain ⟨Bs, dS, rfl, hBs⟩ := id hus
      simp +contextual (maxSteps := 2000000) (disch := first | omega | (simp only [SZ]; first | done | omega) | (simp only [TS] at *; omega)) only [RZ, ovw, oneC, reduceAdd, reduceMul, reduceSub, reduceEqDiff, reduceLT, ↓reduceIte, Int.reduceToNat, reduceLeDiff,  f2, f3, f163, f164, x0, x1, x2, x3, x4, x5, y0, y1, y2, y3, y4, y5]
      refine (ints_any a.factors Af Bf cf df w9 (hAf.below hl1w) (hBf.below hl1w) (by omega)).mono ?_
      rintro e w10 ⟨rfl, h10⟩
      refine ⟨_, rfl, ?_⟩
      have x5 : w10.cell? ⟨x, 5, none⟩ = some (.slice As a.serials.length cS) := (hxr3.below h10).cell (i := 5) rfl
      have y5 : w10.cell? ⟨y, 5, none⟩ = some (.slice Bs a.serials.length dS) := (hyr3.below h10).cell (i := 5) rfl
      have h10w : Below w1.heap.size w1 w10 := hl1w.trans (h10.mono hl1w.size)
      try simp +contextual (maxSteps := 2000000) (disch := first | omega | (simp only [SZ]; first | done | omega) | (simp only [TS] at *; omega)) only [RZ, ovw, oneC, reduceAdd, reduceMul, reduceSub, reduceEqDiff, reduceLT, ↓reduceIte, Int.reduceToNat, reduceLeDiff,  f2, f3, f163, f164, x5, y5]
      refine (ints_any a.serials As Bs cS dS w10 (hAs.below h10w) (hBs.below h10w) (by omega)).mono ?_
      rintro e w11 ⟨rfl, h11⟩
      refine ⟨_, rfl, ?_⟩
      have h11w : Below w1.heap.size w1 w11 := h10w.trans (h11.mono h10w.size)
      try simp +contextual (maxSteps := 2000000) (disch := first | omega | (simp only [SZ]; first | done | omega) | (simp only [TS] at *; omega)) only [RZ, ovw, oneC, reduceAdd, reduceMul, reduceSub, reduceEqDiff, reduceLT, ↓reduceIte, Int.reduceToNat, reduceLeDiff,  f2, f3, f163, f164]
      refine W_if_f rfl ?_
      simp +contextual (maxSteps := 2000000) (disch := first | omega | (simp only [SZ]; first | done | omega) | (simp only [TS] at *; omega)) only [RZ, ovw, oneC, reduceAdd, reduceMul, reduceSub, reduceEqDiff, reduceLT, ↓reduceIte, Int.reduceToNat, reduceLeDiff,  f2, f3, f163, f164]
      refine hK _ _ ⟨h11w, k + 1, by omega, ?_⟩ ?_
      · simp +contextual (maxSteps := 2000000) (disch := first | omega | (simp only [SZ]; first | done | omega) | (simp only [TS] at *; omega)) only [RZ, ovw, oneC, reduceAdd, reduceMul, reduceSub, reduceEqDiff, reduceLT, ↓reduceIte, Int.reduceToNat, reduceLeDiff,  f2, f3, f163, f164]
      · simp +contextual (maxSteps := 2000000) (disch := first | omega | (simp only [SZ]; first | done | omega) | (simp only [TS] at *; omega)) only [RZ, ovw, oneC, reduceAdd, reduceMul, reduceSub, reduceEqDiff, reduceLT, ↓reduceIte, Int.reduceToNat, reduceLeDiff,  intOf, f164]
        omega
    · simp +contextual (maxSteps := 2000000) (disch := first | omega | (simp only [SZ]; first | done | omega) | (simp only [TS] at *; omega)) only [RZ, ovw, oneC, reduceAdd, reduceMul, reduceSub, reduceEqDiff, reduceLT, ↓reduceIte, Int.reduceToNat, reduceLeDiff,  f2, f3, f163, f164]
      exact hb
  rintro σ w2 ⟨hb, f2, f3⟩
  refine W_cutS (fun σ w3 => Below w1.heap.size w1 w3) ?_ ?_
  · intro σ w3 h3
    simp +contextual (maxSteps := 2000000) (disch := first | omega | (simp only [SZ]; first | done | omega) | (simp only [TS] at *; omega)) only [RZ, ovw, oneC, reduceAdd, reduceMul, reduceSub, reduceEqDiff, reduceLT, ↓reduceIte, Int.reduceToNat, reduceLeDiff]
    exact b1.trans (h3.mono b1.size)
  · have c21 : w2.cell? ⟨w.heap.size, 21, none⟩ = some (.slice At G.tiers.length ct) := (r0.below hb).cell (i := 21) rfl
    refine W_piece fun K hK hX => ?_
    simp +contextual (maxSteps := 2000000) (disch := first | omega | (simp only [SZ]; first | done | omega) | (simp only [TS] at *; omega)) only [RZ, ovw, oneC, reduceAdd, reduceMul, reduceSub, reduceEqDiff, reduceLT, ↓reduceIte, Int.reduceToNat, reduceLeDiff,  f2, f3, c21]
    refine hK _ _ ?_
    clear hK hX K c21
    rw [W_block, W_loop]
    refine Raw_loop (fun σ w2 => Below w1.heap.size w1 w2 ∧ ∃ k : Nat, k ≤ G.tiers.length ∧ σ 2 = .pointer (some ⟨w.heap.size, 0, none⟩) ∧ σ 3 = .pointer (some ⟨w.heap.size + 1, 0, none⟩) ∧ σ 222 = .int .i64 G.tiers.length ∧ σ 223 = .int .i64 k) (fun σ _ => G.tiers.length - (intOf (σ 223)).toNat) ?_ ?_
    · refine ⟨hb, 0, Nat.zero_le _, ?_⟩
      simp +contextual (maxSteps := 2000000) (disch := first | omega | (simp only [SZ]; first | done | omega) | (simp only [TS] at *; omega)) only [RZ, ovw, oneC, reduceAdd, reduceMul, reduceSub, reduceEqDiff, reduceLT, ↓reduceIte, Int.reduceToNat, reduceLeDiff,  f2, f3]
      rfl
    clear f2 f3 hb
    rintro σ w2 ⟨hb, k, hk, f2, f3, f222, f223⟩ K hK
    simp +contextual (maxSteps := 2000000) (disch := first | omega | (simp only [SZ]; first | done | omega) | (simp only [TS] at *; omega)) only [RZ, ovw, oneC, reduceAdd, reduceMul, reduceSub, reduceEqDiff, reduceLT, ↓reduceIte, Int.reduceToNat, reduceLeDiff,  f222, f223]
    (refine W_if rfl (fun hc => ?_) (fun hc => ?_) <;> (try simp only [TS] at hc))
    · have hkl : k < G.tiers.length := by omega
      obtain ⟨t, ht⟩ : ∃ t, G.tiers[k]? = some t := ⟨_, List.getElem?_eq_getElem hkl⟩
      have hbd : Below w1.heap.size w1 w2.drew := below_drew hb
      obtain ⟨b2, o2, rfl, hb2, hc2⟩ := (hAt1.below hbd).at_ (enc := encTi) ht
      obtain ⟨b3, o3, rfl, hb3, hc3⟩ := (hBt1.below hbd).at_ (enc := encTi) ht
      have hla : vLoad Tryz.prog 41 (.pointer (some ⟨b2, o2 + k * 6, none⟩)) w2.drew = .ok (.value (.agg (encTi t).toArray)) w2.drew := vLoad_all (by kernel_rfl) (by show _ = some 6; kernel_rfl) (fun i v hv => hc2 i v hv)
      have hlb : vLoad Tryz.prog 41 (.pointer (some ⟨b3, o3 + k * 6, none⟩)) w2.drew = .ok (.value (.agg (encTi t).toArray)) w2.drew := vLoad_all (by kernel_rfl) (by show _ = some 6; kernel_rfl) (fun i v hv => hc3 i v hv)
      have p21 : w2.drew.cell? ⟨w.heap.size, 21, none⟩ = some (.slice (some ⟨b2, o2, none⟩) G.tiers.length ct) := (r0.below hbd).cell (i := 21) rfl
      have q21 : w2.drew.cell? ⟨w.heap.size + 1, 21, none⟩ = some (.slice (some ⟨b3, o3, none⟩) G.tiers.length dt) := (r1.below hbd).cell (i := 21) rfl
      simp +contextual (maxSteps := 2000000) (disch := first | omega | (simp only [SZ]; first | done | omega) | (simp only [TS] at *; omega)) only [RZ, ovw, oneC, reduceAdd, reduceMul, reduceSub, reduceEqDiff, reduceLT, ↓reduceIte, Int.reduceToNat, reduceLeDiff,  f2, f3, f222, f223]
      refine Raw_still MX (by kernel_rfl) ?_
      simp +contextual (maxSteps := 2000000) (disch := first | omega | (simp only [SZ]; first | done | omega) | (simp only [TS] at *; omega)) only [RZ, ovw, oneC, reduceAdd, reduceMul, reduceSub, reduceEqDiff, reduceLT, ↓reduceIte, Int.reduceToNat, reduceLeDiff,  f2, f3, f222, f223, p21, q21, hla, hlb, ti_same]
      refine W_if_f rfl ?_
      simp +contextual (maxSteps := 2000000) (disch := first | omega | (simp only [SZ]; first | done | omega) | (simp only [TS] at *; omega)) only [RZ, ovw, oneC, reduceAdd, reduceMul, reduceSub, reduceEqDiff, reduceLT, ↓reduceIte, Int.reduceToNat, reduceLeDiff,  f2, f3, f222, f223]
      refine hK _ _ ⟨hbd, k + 1, by omega, ?_⟩ ?_
      · simp +contextual (maxSteps := 2000000) (disch := first | omega | (simp only [SZ]; first | done | omega) | (simp only [TS] at *; omega)) only [RZ, ovw, oneC, reduceAdd, reduceMul, reduceSub, reduceEqDiff, reduceLT, ↓reduceIte, Int.reduceToNat, reduceLeDiff,  f2, f3, f222, f223]
      · simp +contextual (maxSteps := 2000000) (disch := first | omega | (simp only [SZ]; first | done | omega) | (simp only [TS] at *; omega)) only [RZ, ovw, oneC, reduceAdd, reduceMul, reduceSub, reduceEqDiff, reduceLT, ↓reduceIte, Int.reduceToNat, reduceLeDiff,  intOf, f223]
        omega
    · simp +contextual (maxSteps := 2000000) (disch := first | omega | (simp only [SZ]; first | done | omega) | (simp only [TS] at *; omega)) only [RZ, ovw, oneC, reduceAdd, reduceMul, reduceSub, reduceEqDiff, reduceLT, ↓reduceIte, Int.reduceToNat, reduceLeDiff,  f2, f3, f222, f223]
      exact hb
end Go.Proofs.YtbdkggnajipdhaaGreatDoor
/- Walks: the law's few. -/
namespace Go.Proofs.YtbdkggnajipdhaaGreatDoor
open Go.RowKit
set_option maxRecDepth 100000
def fewA (a : Ad) : Bool := !(decide (200 < a.name.size) || decide (50 < a.factors.length) || decide (50 < a.serials.length))
end Go.Proofs.YtbdkggnajipdhaaGreatDoor
/- Walks: the law's awake. -/
namespace Go.Proofs.YtbdkggnajipdhaaGreatDoor
open Nat (reduceAdd reduceMul reduceSub reduceEqDiff reduceLT reduceLeDiff)
open Go.RowKit
set_option maxRecDepth 100000
theorem gmC_n {G q : Gm} (h : gmC G = gmC q) {i : Nat} (hi : i < 19) : G.n i = q.n i := by
  have := congrArg (fun x => x.2.1[i]?) h
  simp only [gmC, List.getElem?_map, List.getElem?_range hi, Option.map_some, Option.some.injEq] at this
  exact this
theorem gmV_C {G q : Gm} (h : gmC G = gmC q) (Va Vt : Value) : gmV G Va Vt = gmV q Va Vt := by
  have hn : G.name = q.name := congrArg Prod.fst h
  unfold gmV
  rw [hn, gmC_n h (i := 0) (by decide), gmC_n h (i := 1) (by decide), gmC_n h (i := 2) (by decide), gmC_n h (i := 3) (by decide), gmC_n h (i := 4) (by decide), gmC_n h (i := 5) (by decide), gmC_n h (i := 6) (by decide), gmC_n h (i := 7) (by decide), gmC_n h (i := 8) (by decide), gmC_n h (i := 9) (by decide), gmC_n h (i := 10) (by decide), gmC_n h (i := 11) (by decide), gmC_n h (i := 12) (by decide), gmC_n h (i := 13) (by decide), gmC_n h (i := 14) (by decide), gmC_n h (i := 15) (by decide), gmC_n h (i := 16) (by decide), gmC_n h (i := 17) (by decide), gmC_n h (i := 18) (by decide)]
theorem GmIn.C {w : World} {Va Vt : Value} {G q : Gm} (h : GmIn w Va Vt G) (e : gmC G = gmC q) : GmIn w Va Vt q := by
  have ha : G.addons = q.addons := congrArg (fun x => x.2.2.1) e
  have ht : G.tiers = q.tiers := congrArg (fun x => x.2.2.2) e
  unfold GmIn at h ⊢
  rw [ha, ht] at h
  exact h
theorem parse_ex {s : ByteArray} {q : Gm} {er ln : Int} (hs : s.size ≤ 1000000) {w : World} (hW : Laid w) (hw9 : 9 ≤ w.heap.size) (hp : (gmC (parseG s).1, (parseG s).2) = (gmC q, er, ln)) : Calls Tryz.prog 9 #[.string s] w fun e w' => Below w.heap.size w w' ∧
    ∃ Va Vt, e = .returned (.tuple #[.agg (gmV q Va Vt).toArray, .int .i64 er, .int .i64 ln]) ∧ GmIn w' Va Vt q := by
  simp only [Prod.mk.injEq] at hp
  obtain ⟨h1, h2⟩ := hp
  have h3 : (parseG s).2.1 = er := congrArg Prod.fst h2
  have h4 : (parseG s).2.2 = ln := congrArg Prod.snd h2
  refine (parse_any s w hs hW hw9).mono ?_
  rintro e w1 ⟨hB, Va, Vt, he, hG⟩
  rw [gmV_C h1, h3, h4] at he
  exact ⟨hB, Va, Vt, he, hG.C h1⟩
/-- A game boxed in memory. -/
theorem load_game {w : World} {b : Nat} {G : Gm} {Va Vt : Value} (h : Row w b 26 (gmV G Va Vt)) : vLoad Tryz.prog 26 (.pointer (some ⟨b, 0, none⟩)) w = .ok (.value (.agg (gmV G Va Vt).toArray)) w :=
  vLoad_all (by kernel_rfl) (by rw [gmV_len]; kernel_rfl) (fun i v hv => by rw [Nat.zero_add]; exact h.cell hv)
theorem W_gen {P : Program} {n : Nat} {c : Code} {Q : Exit → Sl → World → Prop} {σ : Sl} {w : World} (h : ∀ w2, w2 = w → W P n c Q σ w2) : W P n c Q σ w := h w rfl
set_option maxHeartbeats 4000000 in
theorem awake_any (w : World) (hW : Laid w) (hw9 : 9 ≤ w.heap.size) : Calls Tryz.prog 8 #[] w fun e w' => e = .returned (.bool true) ∧ Below w.heap.size w w' := by
  refine calls_W (l := []) Tryz.func8 rfl _ Tryz.ntmps8 (by simp) ?_
  refine W_piece fun K hK hX => ?_
  simp +contextual (maxSteps := 2000000) (disch := first | omega | (simp only [SZ]; first | done | omega) | (simp only [TS] at *; omega)) only [RZ, ovw, oneC, reduceAdd, reduceMul, reduceSub, reduceEqDiff, reduceLT, ↓reduceIte, Int.reduceToNat, reduceLeDiff]
  refine hK _ _ ?_
  clear hK hX K
  refine W_piece fun K hK hX => ?_
  simp +contextual (maxSteps := 2000000) (disch := first | omega | (simp only [SZ]; first | done | omega) | (simp only [TS] at *; omega)) only [RZ, ovw, oneC, reduceAdd, reduceMul, reduceSub, reduceEqDiff, reduceLT, ↓reduceIte, Int.reduceToNat, reduceLeDiff]
  refine (parse_ex (q := exT) (er := 0) (ln := 0) (by decide) hW hw9 (by kernel_rfl)).mono ?_
  rintro e w1 ⟨hB1, Va, Vt, rfl, hG1⟩
  refine ⟨_, rfl, ?_⟩
  obtain ⟨⟨Aa, ca, Vs, rfl, hAa, hads⟩, At, ct, rfl, hAt⟩ := id hG1
  have hz1 := hB1.size
  simp only [gmV]
  simp +contextual (maxSteps := 2000000) (disch := first | omega | (simp only [SZ]; first | done | omega) | (simp only [TS] at *; omega)) only [RZ, ovw, oneC, reduceAdd, reduceMul, reduceSub, reduceEqDiff, reduceLT, ↓reduceIte, Int.reduceToNat, reduceLeDiff]
  refine hK _ _ ?_
  clear hK hX K
  refine W_gen fun w2 hw2 => ?_
  have r1 : Row w2 w1.heap.size 26 (gmV exT (.slice Aa exT.addons.length ca) (.slice At exT.tiers.length ct)) := by rw [hw2]; exact Row.new w1 _ _
  have hB2 : Below w1.heap.size w1 w2 := by rw [hw2]; exact below_alloc w1 _
  clear hw2
  have hG2 := hG1.below hB2
  have hAt2 := hAt.below hB2
  have hAa2 := hAa.below hB2
  obtain ⟨b, o, rfl, hb, hcb⟩ := hAt2.at_ (enc := encTi) (k := 1) rfl
  obtain ⟨cv1, hcv⟩ : ∃ c, Vs[0]? = some c := ⟨_, List.getElem?_eq_getElem (by rw [hads.1]; decide)⟩
  obtain ⟨vf, vs, rfl, hvf, hvs⟩ := hads.2 0 _ ⟨toBA (asc "joker"), 2, 100, [], 2, [300, 5000]⟩ hcv rfl
  obtain ⟨As, cS, rfl, hAs⟩ := hvs
  obtain ⟨b3, o3, rfl, hb3, hc3⟩ := hAa2 (by rw [hads.1]; decide)
  have l5 : w2.cell? _ = _ := hc3 0 _ hcv 5 _ rfl
  have t0 : w2.cell? _ = _ := hcb 0 _ rfl
  have c1 : w2.cell? ⟨w1.heap.size, 1, none⟩ = some (.int .i64 2) := r1.cell (i := 1) rfl
  have c9 : w2.cell? ⟨w1.heap.size, 9, none⟩ = some (.int .i64 3) := r1.cell (i := 9) rfl
  have c10 : w2.cell? ⟨w1.heap.size, 10, none⟩ = some (.int .i64 36) := r1.cell (i := 10) rfl
  have c11 : w2.cell? ⟨w1.heap.size, 11, none⟩ = some (.int .i64 1230) := r1.cell (i := 11) rfl
  have c20 : w2.cell? ⟨w1.heap.size, 20, none⟩ = some (.slice (some ⟨b3, o3, none⟩) 1 ca) := r1.cell (i := 20) rfl
  have c21 : w2.cell? ⟨w1.heap.size, 21, none⟩ = some (.slice (some ⟨b, o, none⟩) 2 ct) := r1.cell (i := 21) rfl
  refine W_piece fun K hK hX => ?_
  refine W_piece fun K2 hK2 hX2 => ?_
  have n1 : decide (((0 : Nat) : Int) + 1 = 1) = true := rfl
  have n2 : decide (((0 : Nat) : Int) + 1 + 1 = 2) = true := rfl
  simp +contextual (maxSteps := 2000000) (disch := first | omega | (simp only [SZ]; first | done | omega) | (simp only [TS] at *; omega)) only [RZ, ovw, oneC, reduceAdd, reduceMul, reduceSub, reduceEqDiff, reduceLT, ↓reduceIte, Int.reduceToNat, reduceLeDiff,  c1, c9, c10, c11, c20, c21, l5, t0, n1, n2]
  have hbl := below_alloc w2 (.cells #[.int .i64 300, .int .i64 5000] 3)
  have hNew : Arr (w2.alloc (.cells #[.int .i64 300, .int .i64 5000] 3)) (some ⟨w2.heap.size, 0, none⟩) 1 (([300, 5000] : List Int).map fun n => [Value.int .i64 n]) :=
    arr_row (Vs := ([300, 5000] : List Int).map fun n => [Value.int .i64 n]) (Row.new w2 3 [.int .i64 300, .int .i64 5000]) (by simp)
  refine (ints_any [300, 5000] As (some ⟨w2.heap.size, 0, none⟩) cS 2 _ ((hAs.below hB2).below hbl) hNew (by decide)).mono ?_
  rintro e w3 ⟨rfl, hB3⟩
  refine ⟨_, rfl, ?_⟩
  have hB23 : Below w2.heap.size w2 w3 := hbl.trans (hB3.mono hbl.size)
  try simp +contextual (maxSteps := 2000000) (disch := first | omega | (simp only [SZ]; first | done | omega) | (simp only [TS] at *; omega)) only [RZ, ovw, oneC, reduceAdd, reduceMul, reduceSub, reduceEqDiff, reduceLT, ↓reduceIte, Int.reduceToNat, reduceLeDiff]
  refine hK2 _ _ ?_
  clear hK2 hX2 K2
  refine W_if_f (by rfl) ?_
  rw [W_skip]
  refine hK _ _ ?_
  clear hK hX K
  have hG3 := hG2.below hB23
  have r3 := r1.below hB23
  have hF3 : Below w.heap.size w w3 := hB1.trans ((hB2.trans (hB23.mono hB2.size)).mono hz1)
  have hW3 := hW.below hF3 hW.size
  have hz3 := hF3.size
  refine W_piece fun K hK hX => ?_
  simp +contextual (maxSteps := 2000000) (disch := first | omega | (simp only [SZ]; first | done | omega) | (simp only [TS] at *; omega)) only [RZ, ovw, oneC, reduceAdd, reduceMul, reduceSub, reduceEqDiff, reduceLT, ↓reduceIte, Int.reduceToNat, reduceLeDiff]
  refine (parse_ex (q := noGm) (er := 6) (ln := 2) (by decide) hW3 (by omega) (by kernel_rfl)).mono ?_
  rintro e w4 ⟨hB4, Va4, Vt4, rfl, hG4⟩
  refine ⟨_, rfl, ?_⟩
  obtain ⟨⟨Aa4, ca4, Vs4, rfl, _⟩, At4, ct4, rfl, _⟩ := id hG4
  simp only [gmV]
  simp +contextual (maxSteps := 2000000) (disch := first | omega | (simp only [SZ]; first | done | omega) | (simp only [TS] at *; omega)) only [RZ, ovw, oneC, reduceAdd, reduceMul, reduceSub, reduceEqDiff, reduceLT, ↓reduceIte, Int.reduceToNat, reduceLeDiff]
  refine hK _ _ ?_
  clear hK hX K
  refine W_gen fun w5 hw5 => ?_
  have hB5 : Below w4.heap.size w4 w5 := by rw [hw5]; exact below_alloc w4 _
  clear hw5
  have hB35 : Below w3.heap.size w3 w5 := hB4.trans (hB5.mono hB4.size)
  have hG5 := hG3.below hB35
  have r5 := r3.below hB35
  have hF5 := hF3.trans (hB35.mono hF3.size)
  have hl5 : vLoad Tryz.prog 26 (.pointer (some ⟨w1.heap.size, 0, none⟩)) w5 = .ok (.value (.agg (gmV exT (.slice (some ⟨b3, o3, none⟩) exT.addons.length ca) (.slice (some ⟨b, o, none⟩) exT.tiers.length ct)).toArray)) w5 :=
    vLoad_all (by kernel_rfl) (by rw [gmV_len]; kernel_rfl) (fun i v hv => by rw [Nat.zero_add]; exact r5.cell hv)
  refine W_piece fun K hK hX => ?_
  simp +contextual (maxSteps := 2000000) (disch := first | omega | (simp only [SZ]; first | done | omega) | (simp only [TS] at *; omega)) only [RZ, ovw, oneC, reduceAdd, reduceMul, reduceSub, reduceEqDiff, reduceLT, ↓reduceIte, Int.reduceToNat, reduceLeDiff,  hl5]
  refine (print_any exT _ _ w5 (hW.below hF5 hW.size) (by have := hF5.size; omega) hG5 (by unfold Gm.little; decide)).mono ?_
  rintro e w6 ⟨rfl, hB6⟩
  refine ⟨_, rfl, ?_⟩
  try simp +contextual (maxSteps := 2000000) (disch := first | omega | (simp only [SZ]; first | done | omega) | (simp only [TS] at *; omega)) only [RZ, ovw, oneC, reduceAdd, reduceMul, reduceSub, reduceEqDiff, reduceLT, ↓reduceIte, Int.reduceToNat, reduceLeDiff]
  refine hK _ _ ?_
  clear hK hX K
  simp +contextual (maxSteps := 2000000) (disch := first | omega | (simp only [SZ]; first | done | omega) | (simp only [TS] at *; omega)) only [RZ, ovw, oneC, reduceAdd, reduceMul, reduceSub, reduceEqDiff, reduceLT, ↓reduceIte, Int.reduceToNat, reduceLeDiff]
  refine ⟨congrArg (fun b => Ending.returned (.bool b)) (decide_eq_true (by decide +kernel)), hF5.trans (hB6.mono hF5.size)⟩
end Go.Proofs.YtbdkggnajipdhaaGreatDoor
/- Walks: the reference's Size, Format. -/
namespace Go.Proofs.YtbdkggnajipdhaaGreatDoor
open Nat (reduceAdd reduceMul reduceSub reduceEqDiff reduceLT reduceLeDiff)
open Go.RowKit
set_option maxRecDepth 100000
abbrev numR := nR
theorem app_toBA (s t : ByteArray) : s ++ t = toBA (bs s ++ bs t) := by
  have h : ∀ c ∈ bs s ++ bs t, c < 256 := fun c hc => by
    rcases List.mem_append.1 hc with h | h
    · exact bs_lt s c h
    · exact bs_lt t c h
  exact bs_inj (by rw [bs_toBA h, bs_append])
theorem toBA_size (l : List Nat) : (toBA l).size = l.length := by
  unfold toBA
  show (Array.size _) = _
  simp
theorem fmtI_len {n : Int} (h : numR n) : (fmtI n).length ≤ 21 := by unfold fmtI; rw [List.length_map]; exact Lib.itoa_length_le n h.1 h.2
theorem rsize_any (x : Int) (w : World) (hx : numR x) : Calls Tryz.prog 122 #[.int .i64 x] w fun e w' => e = .returned (.int .u64 (x.natAbs : Int)) ∧ w = w' := by
  refine calls_W (l := [_]) Tryz.func122 rfl _ Tryz.ntmps122 (by simp) ?_
  obtain ⟨h0, h1⟩ := hx
  simp +contextual (maxSteps := 2000000) (disch := first | omega | (simp only [SZ]; first | done | omega) | (simp only [TS] at *; omega)) only [RZ, ovw, oneC, reduceAdd, reduceMul, reduceSub, reduceEqDiff, reduceLT, ↓reduceIte, Int.reduceToNat, reduceLeDiff]
  (refine W_if rfl (fun hc => ?_) (fun hc => ?_) <;> (try simp only [TS] at hc))
  · simp +contextual (maxSteps := 2000000) (disch := first | omega | (simp only [SZ]; first | done | omega) | (simp only [TS] at *; omega)) only [RZ, ovw, oneC, reduceAdd, reduceMul, reduceSub, reduceEqDiff, reduceLT, ↓reduceIte, Int.reduceToNat, reduceLeDiff]
    exact ret_int (by omega)
  · simp +contextual (maxSteps := 2000000) (disch := first | omega | (simp only [SZ]; first | done | omega) | (simp only [TS] at *; omega)) only [RZ, ovw, oneC, reduceAdd, reduceMul, reduceSub, reduceEqDiff, reduceLT, ↓reduceIte, Int.reduceToNat, reduceLeDiff]
    exact ret_int (by omega)
theorem one_str (w : World) (x : Nat) (hx : x < 256) : vConvert Tryz.prog 65 9 (.slice (some ⟨w.heap.size, 0, none⟩) 1 1) (w.alloc (.cells #[.int .u8 (x : Int)] 5)) = .ok (.value (.string (toBA [x]))) (w.alloc (.cells #[.int .u8 (x : Int)] 5)) := by
  obtain ⟨s, h1, h2⟩ := bytes_str (w := w.alloc (.cells #[.int .u8 (x : Int)] 5)) (a := ⟨w.heap.size, 0, none⟩) (cap := 1) [x] (fun n hn => by simp at hn; omega) (fun j v hv => by
    rw [addr_add, Nat.zero_add, (new_block w _ _).1 j]
    simpa using hv)
  have e : s = toBA [x] := by rw [← toBA_bs s, h1]
  rw [← e]
  exact h2
theorem rformat_any (n : Int) (w : World) (hn : numR n) : Calls Tryz.prog 82 #[.int .i64 n] w fun e w' => e = .returned (.string (fmtB n)) ∧ Below w.heap.size w w' := by
  refine calls_W (l := [_]) Tryz.func82 rfl _ Tryz.ntmps82 (by simp) ?_
  simp +contextual (maxSteps := 2000000) (disch := first | omega | (simp only [SZ]; first | done | omega) | (simp only [TS] at *; omega)) only [RZ, ovw, oneC, reduceAdd, reduceMul, reduceSub, reduceEqDiff, reduceLT, ↓reduceIte, Int.reduceToNat, reduceLeDiff]
  refine (rsize_any n w hn).mono ?_
  rintro e w1 ⟨rfl, rfl⟩
  refine ⟨_, rfl, ?_⟩
  have hm0 : n.natAbs ≤ 9223372036854775808 := by have := hn.1; have := hn.2; omega
  have hdl : (dec n.natAbs).length ≤ 21 := by
    have h1 := fmtI_len hn
    by_cases h : n < 0
    · rw [fmtI_neg h] at h1; simp at h1; omega
    · rw [fmtI_nonneg (by omega)] at h1
      rwa [show n.toNat = n.natAbs by omega] at h1
  have hres : fmtI n = if n < 0 then 45 :: dec n.natAbs else dec n.natAbs := by
    by_cases h : n < 0
    · rw [if_pos h, fmtI_neg h]
    · rw [if_neg h, fmtI_nonneg (by omega), show n.toNat = n.natAbs by omega]
  generalize n.natAbs = m at *
  have e1 : (48 : Int) + (m : Int) % 10 = ((48 + m % 10 : Nat) : Int) := by omega
  have hst := one_str w (48 + m % 10) (by omega)
  simp +contextual (maxSteps := 2000000) (disch := first | omega | (simp only [SZ]; first | done | omega) | (simp only [TS] at *; omega)) only [RZ, ovw, oneC, reduceAdd, reduceMul, reduceSub, reduceEqDiff, reduceLT, ↓reduceIte, Int.reduceToNat, reduceLeDiff,  e1, hst]
  have hB1 := below_alloc w (.cells #[.int .u8 ((48 + m % 10 : Nat) : Int)] 5)
  have hs1 := hB1.size
  generalize w.alloc (.cells #[.int .u8 ((48 + m % 10 : Nat) : Int)] 5) = w1 at *
  clear hst e1
  refine Raw_loop (fun σ w2 => Below w.heap.size w w2 ∧ ∃ (i q : Nat) (Y : List Nat), i ≤ 20 ∧ q ≤ m ∧ q < 10 ^ (20 - i) ∧ (∀ d ∈ Y, d < 256) ∧ (if q < 10 then dec m = Y else dec m = dec (q / 10) ++ Y) ∧ σ 0 = .int .i64 n ∧ σ 3 = .int .u64 q ∧ σ 4 = .string (toBA Y) ∧ σ 5 = .int .i64 i) (fun σ _ => 20 - (intOf (σ 5)).toNat) ?_ ?_
  · simp +contextual (maxSteps := 2000000) (disch := first | omega | (simp only [SZ]; first | done | omega) | (simp only [TS] at *; omega)) only [RZ, ovw, oneC, reduceAdd, reduceMul, reduceSub, reduceEqDiff, reduceLT, ↓reduceIte, Int.reduceToNat, reduceLeDiff]
    refine ⟨hB1, 0, m, [48 + m % 10], by omega, by omega, by omega, by simp; omega, ?_, rfl, rfl, rfl⟩
    split
    · rw [dec_lt (by assumption), Nat.mod_eq_of_lt (by assumption)]
    · rw [dec_ge (by assumption)]
  clear hB1 hs1
  rintro σ w2 ⟨hB, i, q, Y, hi, hqm, hq, hY, hj, e0, e3, e4, e5⟩ K hK
  have hs2 := hB.size
  have hql : q ≤ 100000000000000000000 := by
    have h1 : 10 ^ (20 - i) ≤ 10 ^ 20 := Nat.pow_le_pow_right (by decide) (by omega)
    have h2 : 10 ^ 20 = 100000000000000000000 := by decide
    omega
  have hYl : Y.length ≤ 21 := by
    split at hj
    · rw [← hj]; exact hdl
    · have := congrArg List.length hj
      rw [List.length_append] at this
      omega
  have hz : (toBA Y).size = Y.length := toBA_size Y
  simp +contextual (maxSteps := 2000000) (disch := first | omega | (simp only [SZ]; first | done | omega) | (simp only [TS] at *; omega)) only [RZ, ovw, oneC, reduceAdd, reduceMul, reduceSub, reduceEqDiff, reduceLT, ↓reduceIte, Int.reduceToNat, reduceLeDiff,  e0, e3, e4, e5]
  (refine W_if rfl (fun hc => ?_) (fun hc => ?_) <;> (try simp only [TS] at hc))
  · have hq10 : ¬ q < 10 := by omega
    have hi20 : i < 20 := by omega
    clear hc
    rw [if_neg hq10] at hj
    have e6 : (48 : Int) + (q : Int) / 10 % 10 = ((48 + q / 10 % 10 : Nat) : Int) := by omega
    have hst := one_str w2 (48 + q / 10 % 10) (by omega)
    have e7 : (toBA [48 + q / 10 % 10] ++ toBA Y) = toBA ((48 + q / 10 % 10) :: Y) := by
      rw [app_toBA, bs_toBA hY, bs_toBA (by simp; omega)]; rfl
    have e8 : (toBA [48 + q / 10 % 10]).size = 1 := by rw [toBA_size]; rfl
    simp +contextual (maxSteps := 2000000) (disch := first | omega | (simp only [SZ]; first | done | omega) | (simp only [TS] at *; omega)) only [RZ, ovw, oneC, reduceAdd, reduceMul, reduceSub, reduceEqDiff, reduceLT, ↓reduceIte, Int.reduceToNat, reduceLeDiff,  e0, e3, e4, e5, e6, hst, e7]
    refine hK _ _ ⟨hB.trans ((below_alloc w2 _).mono hs2), i + 1, q / 10, (48 + q / 10 % 10) :: Y, by omega, by omega, ?_, ?_, ?_, ?_⟩ ?_
    · rw [show 20 - i = 20 - (i + 1) + 1 by omega, Nat.pow_succ] at hq
      omega
    · intro d hd
      rcases List.mem_cons.1 hd with rfl | hd
      · omega
      · exact hY d hd
    · split
      · rw [hj, dec_lt (by assumption), Nat.mod_eq_of_lt (by assumption)]; rfl
      · rw [hj, dec_ge (by assumption), List.append_assoc]; rfl
    · simp +contextual (maxSteps := 2000000) (disch := first | omega | (simp only [SZ]; first | done | omega) | (simp only [TS] at *; omega)) only [RZ, ovw, oneC, reduceAdd, reduceMul, reduceSub, reduceEqDiff, reduceLT, ↓reduceIte, Int.reduceToNat, reduceLeDiff,  e0, e3, e4, e5]
      exact congrArg (Value.int _) (by omega)
    · simp +contextual (maxSteps := 2000000) (disch := first | omega | (simp only [SZ]; first | done | omega) | (simp only [TS] at *; omega)) only [RZ, ovw, oneC, reduceAdd, reduceMul, reduceSub, reduceEqDiff, reduceLT, ↓reduceIte, Int.reduceToNat, reduceLeDiff,  intOf, e5]
      omega
  · have hq10 : q < 10 := by
      rcases Nat.lt_or_ge i 20 with h | h
      · omega
      · have h1 : 20 - i = 0 := by omega
        rw [h1] at hq
        omega
    rw [if_pos hq10] at hj
    clear hc
    simp +contextual (maxSteps := 2000000) (disch := first | omega | (simp only [SZ]; first | done | omega) | (simp only [TS] at *; omega)) only [RZ, ovw, oneC, reduceAdd, reduceMul, reduceSub, reduceEqDiff, reduceLT, ↓reduceIte, Int.reduceToNat, reduceLeDiff,  e0, e3, e4, e5]
    have e9 : (⟨#[45]⟩ : ByteArray) ++ toBA Y = toBA (45 :: Y) := by rw [app_toBA, bs_toBA hY]; rfl
    have e10 : (⟨#[45]⟩ : ByteArray).size = 1 := rfl
    have e11 : fmtB n = toBA (fmtI n) := by rw [← bs_fmtB, toBA_bs]
    (refine W_if rfl (fun hc => ?_) (fun hc => ?_) <;> (try simp only [TS] at hc))
    · rw [if_pos hc] at hres
      simp +contextual (maxSteps := 2000000) (disch := first | omega | (simp only [SZ]; first | done | omega) | (simp only [TS] at *; omega)) only [RZ, ovw, oneC, reduceAdd, reduceMul, reduceSub, reduceEqDiff, reduceLT, ↓reduceIte, Int.reduceToNat, reduceLeDiff,  e0, e3, e4, e5, e9]
      rw [e11, hres, hj]
      exact ⟨rfl, hB⟩
    · rw [if_neg (by omega)] at hres
      simp +contextual (maxSteps := 2000000) (disch := first | omega | (simp only [SZ]; first | done | omega) | (simp only [TS] at *; omega)) only [RZ, ovw, oneC, reduceAdd, reduceMul, reduceSub, reduceEqDiff, reduceLT, ↓reduceIte, Int.reduceToNat, reduceLeDiff,  e0, e3, e4, e5]
      rw [e11, hres, hj]
      exact ⟨rfl, hB⟩
end Go.Proofs.YtbdkggnajipdhaaGreatDoor
/- Walks: the reference's printer of games: Word, fine. -/
namespace Go.Proofs.YtbdkggnajipdhaaGreatDoor
open Nat (reduceAdd reduceMul reduceSub reduceEqDiff reduceLT reduceLeDiff)
open Go.RowKit
set_option maxRecDepth 100000
set_option maxHeartbeats 2000000 in
theorem rWord_any (s : ByteArray) (w : World) (hs : s.size ≤ 9223372036854775807) : Calls Tryz.prog 78 #[.string s] w fun e w' => e = .returned (.bool (wordL (bs s))) ∧ w = w' := by
  refine calls_W (l := [_]) Tryz.func78 rfl _ Tryz.ntmps78 (by simp) ?_
  generalize hwr : wordL (bs s) = rr
  refine W_piece fun K hK hX => ?_
  simp +contextual (maxSteps := 2000000) (disch := first | omega | (simp only [SZ]; first | done | omega) | (simp only [TS] at *; omega)) only [RZ, ovw, oneC, reduceAdd, reduceMul, reduceSub, reduceEqDiff, reduceLT, ↓reduceIte, Int.reduceToNat, reduceLeDiff]
  refine hK _ _ ?_
  clear hK hX K
  refine W_piece fun K hK hX => ?_
  refine W_piece fun K2 hK2 hX2 => ?_
  simp +contextual (maxSteps := 2000000) (disch := first | omega | (simp only [SZ]; first | done | omega) | (simp only [TS] at *; omega)) only [RZ, ovw, oneC, reduceAdd, reduceMul, reduceSub, reduceEqDiff, reduceLT, ↓reduceIte, Int.reduceToNat, reduceLeDiff]
  refine hK2 _ _ ?_
  clear hK2 hX2 K2
  by_cases h0 : s.size = 0
  · have hb : bs s = [] := List.eq_nil_of_length_eq_zero (by rw [bs_len]; exact h0)
    rw [hb] at hwr
    have hwr : rr = false := by rw [← hwr]; rfl
    subst hwr
    rw [show decide ((s.size : Int) = 0) = true by simp [h0]]
    refine W_if_t rfl ?_
    refine W_piece fun K2 hK2 hX2 => ?_
    simp +contextual (maxSteps := 2000000) (disch := first | omega | (simp only [SZ]; first | done | omega) | (simp only [TS] at *; omega)) only [RZ, ovw, oneC, reduceAdd, reduceMul, reduceSub, reduceEqDiff, reduceLT, ↓reduceIte, Int.reduceToNat, reduceLeDiff]
    refine hK2 _ _ ?_
    rw [W_ret]
    refine hX _ _ _ (fun h => by cases h) ?_
    simp +contextual (maxSteps := 2000000) (disch := first | omega | (simp only [SZ]; first | done | omega) | (simp only [TS] at *; omega)) only [RZ, ovw, oneC, reduceAdd, reduceMul, reduceSub, reduceEqDiff, reduceLT, ↓reduceIte, Int.reduceToNat, reduceLeDiff]
  rw [show decide ((s.size : Int) = 0) = false by simp [h0]]
  refine W_if_f rfl ?_
  rw [W_skip]
  refine hK _ _ ?_
  clear hK hX K
  have hsz : 0 < s.size := by omega
  have hb0 := bs_get hsz
  obtain ⟨r, hr⟩ : ∃ r, bs s = bt s 0 :: r := by
    cases hl : bs s with
    | nil => rw [hl] at hb0; cases hb0
    | cons c r => rw [hl] at hb0; simp only [List.getElem?_cons_zero, Option.some.injEq] at hb0; exact ⟨r, by rw [hb0]⟩
  have hwl : wordL (bs s) = (letterB (bt s 0) && (bs s).all wordB) := by rw [hr, wordL_cons]
  rw [hwl] at hwr
  refine W_cutS (fun σ w' => w' = w ∧ rr = true) ?_ ?_
  · rintro σ w' ⟨rfl, rfl⟩
    simp +contextual (maxSteps := 2000000) (disch := first | omega | (simp only [SZ]; first | done | omega) | (simp only [TS] at *; omega)) only [RZ, ovw, oneC, reduceAdd, reduceMul, reduceSub, reduceEqDiff, reduceLT, ↓reduceIte, Int.reduceToNat, reduceLeDiff]
  refine W_piece fun K hK hX => ?_
  simp +contextual (maxSteps := 2000000) (disch := first | omega | (simp only [SZ]; first | done | omega) | (simp only [TS] at *; omega)) only [RZ, ovw, oneC, reduceAdd, reduceMul, reduceSub, reduceEqDiff, reduceLT, ↓reduceIte, Int.reduceToNat, reduceLeDiff]
  refine hK _ _ ?_
  clear hK hX K
  rw [W_block, W_loop]
  refine Raw_loop (fun σ w' => w' = w ∧ ∃ k : Nat, k ≤ s.size ∧ (∀ j, j < k → wordB (bt s j) = true) ∧ (0 < k → letterB (bt s 0) = true) ∧ σ 0 = .string s ∧ σ 3 = .int .i64 k) (fun σ _ => s.size - (intOf (σ 3)).toNat) ?_ ?_
  · exact ⟨rfl, 0, Nat.zero_le _, fun j hj => absurd hj (Nat.not_lt_zero _), fun h => absurd h (Nat.lt_irrefl _), rfl, rfl⟩
  rintro σ w' ⟨rfl, k, hk, hal, hl0, f0, f3⟩ K hK
  refine W_piece fun K1 hK1 hX1 => ?_
  refine W_piece fun K2 hK2 hX2 => ?_
  simp +contextual (maxSteps := 2000000) (disch := first | omega | (simp only [SZ]; first | done | omega) | (simp only [TS] at *; omega)) only [RZ, ovw, oneC, reduceAdd, reduceMul, reduceSub, reduceEqDiff, reduceLT, ↓reduceIte, Int.reduceToNat, reduceLeDiff,  f0, f3]
  refine hK2 _ _ ?_
  clear hK2 hX2 K2
  (refine W_if rfl (fun hc => ?_) (fun hc => ?_) <;> (try simp only [TS] at hc))
  · have hkl : k < s.size := by omega
    rw [W_skip]
    refine hK1 _ _ ?_
    clear hK1 hX1 K1
    have b1 : (decide ((97 : Int) ≤ bt s k) && decide ((bt s k : Int) ≤ 122)) = letterB (bt s k) := by
      rw [Bool.eq_iff_iff]; unfold letterB; simp only [Bool.and_eq_true, decide_eq_true_eq]; omega
    have b2 : (decide ((48 : Int) ≤ bt s k) && decide ((bt s k : Int) ≤ 57)) = digitB (bt s k) := by
      rw [Bool.eq_iff_iff]; unfold digitB; simp only [Bool.and_eq_true, decide_eq_true_eq]; omega
    have b3 : decide ((bt s k : Int) = 45) = (bt s k == 45) := by
      rw [Bool.eq_iff_iff]; simp only [decide_eq_true_eq, beq_iff_eq]; omega
    have hwb : wordB (bt s k) = (letterB (bt s k) || digitB (bt s k) || (bt s k == 45)) := rfl
    refine W_piece fun K1 hK1 hX1 => ?_
    rw [W_block]
    refine W_piece fun K2 hK2 hX2 => ?_
    simp +contextual (maxSteps := 2000000) (disch := first | omega | (simp only [SZ]; first | done | omega) | (simp only [TS] at *; omega)) only [RZ, ovw, oneC, reduceAdd, reduceMul, reduceSub, reduceEqDiff, reduceLT, ↓reduceIte, Int.reduceToNat, reduceLeDiff,  f0, f3, Int.toNat_natCast]
    refine hK2 _ _ ?_
    clear hK2 hX2 K2
    refine W_piece fun K2 hK2 hX2 => ?_
    simp +contextual (maxSteps := 2000000) (disch := first | omega | (simp only [SZ]; first | done | omega) | (simp only [TS] at *; omega)) only [RZ, ovw, oneC, reduceAdd, reduceMul, reduceSub, reduceEqDiff, reduceLT, ↓reduceIte, Int.reduceToNat, reduceLeDiff,  f0, f3, Int.toNat_natCast]
    refine hK2 _ _ ?_
    clear hK2 hX2 K2
    refine W_piece fun K2 hK2 hX2 => ?_
    simp +contextual (maxSteps := 2000000) (disch := first | omega | (simp only [SZ]; first | done | omega) | (simp only [TS] at *; omega)) only [RZ, ovw, oneC, reduceAdd, reduceMul, reduceSub, reduceEqDiff, reduceLT, ↓reduceIte, Int.reduceToNat, reduceLeDiff,  f0, f3]
    refine hK2 _ _ ?_
    clear hK2 hX2 K2
    rw [b1, b2, b3]
    by_cases hbad : (!letterB (bt s k) && (decide ((k : Int) = 0) || !(digitB (bt s k) || (bt s k == 45)))) = true
    · refine W_if_t (congrArg Value.bool hbad) ?_
      refine W_piece fun K2 hK2 hX2 => ?_
      simp +contextual (maxSteps := 2000000) (disch := first | omega | (simp only [SZ]; first | done | omega) | (simp only [TS] at *; omega)) only [RZ, ovw, oneC, reduceAdd, reduceMul, reduceSub, reduceEqDiff, reduceLT, ↓reduceIte, Int.reduceToNat, reduceLeDiff]
      refine hK2 _ _ ?_
      rw [W_ret, inX_ret]
      refine hX1 _ _ _ (fun h => by cases h) ?_
      have hrr : rr = false := by
        rw [← hwr]
        simp only [Bool.and_eq_true, Bool.not_eq_true', Bool.or_eq_true, decide_eq_true_eq] at hbad
        obtain ⟨c1, c2⟩ := hbad
        by_cases hk0 : k = 0
        · subst hk0; rw [c1]; rfl
        · have c3 := c2.resolve_left (by omega)
          have : (bs s).all wordB = false := by
            rw [Bool.eq_false_iff]
            intro e
            have := List.all_eq_true.1 e _ (List.mem_of_getElem? (bs_get hkl))
            rw [hwb, c1] at this
            simp only [Bool.or_eq_false_iff] at c3
            rw [c3.1, c3.2] at this
            cases this
          rw [this, Bool.and_false]
      subst hrr
      simp +contextual (maxSteps := 2000000) (disch := first | omega | (simp only [SZ]; first | done | omega) | (simp only [TS] at *; omega)) only [RZ, ovw, oneC, reduceAdd, reduceMul, reduceSub, reduceEqDiff, reduceLT, ↓reduceIte, Int.reduceToNat, reduceLeDiff]
    · have hbad : (!letterB (bt s k) && (decide ((k : Int) = 0) || !(digitB (bt s k) || (bt s k == 45)))) = false := by simpa using hbad
      refine W_if_f (congrArg Value.bool hbad) ?_
      rw [W_skip, inX_normal]
      refine hK1 _ _ ?_
      clear hK1 hX1 K1
      simp +contextual (maxSteps := 2000000) (disch := first | omega | (simp only [SZ]; first | done | omega) | (simp only [TS] at *; omega)) only [RZ, ovw, oneC, reduceAdd, reduceMul, reduceSub, reduceEqDiff, reduceLT, ↓reduceIte, Int.reduceToNat, reduceLeDiff,  f0, f3]
      have hgo : wordB (bt s k) = true ∧ (k = 0 → letterB (bt s k) = true) := by
        rw [hwb]
        cases c1 : letterB (bt s k) with
        | true => exact ⟨rfl, fun _ => rfl⟩
        | false =>
          rw [c1] at hbad
          simp only [Bool.not_false, Bool.true_and, Bool.or_eq_false_iff, decide_eq_false_iff_not, Bool.not_eq_false'] at hbad
          exact ⟨hbad.2, fun e => absurd (by omega) hbad.1⟩
      refine hK _ _ ⟨rfl, k + 1, by omega, fun j hj => ?_, fun _ => ?_, ?_⟩ ?_
      · by_cases hjk : j = k
        · rw [hjk]; exact hgo.1
        · exact hal j (by omega)
      · by_cases hk0 : k = 0
        · have := hgo.2 hk0; rw [hk0] at this; exact this
        · exact hl0 (by omega)
      · simp +contextual (maxSteps := 2000000) (disch := first | omega | (simp only [SZ]; first | done | omega) | (simp only [TS] at *; omega)) only [RZ, ovw, oneC, reduceAdd, reduceMul, reduceSub, reduceEqDiff, reduceLT, ↓reduceIte, Int.reduceToNat, reduceLeDiff,  f0, f3]
      · simp +contextual (maxSteps := 2000000) (disch := first | omega | (simp only [SZ]; first | done | omega) | (simp only [TS] at *; omega)) only [RZ, ovw, oneC, reduceAdd, reduceMul, reduceSub, reduceEqDiff, reduceLT, ↓reduceIte, Int.reduceToNat, reduceLeDiff,  intOf, f3]
        omega
  · have hkz : k = s.size := by omega
    subst hkz
    simp +contextual (maxSteps := 2000000) (disch := first | omega | (simp only [SZ]; first | done | omega) | (simp only [TS] at *; omega)) only [RZ, ovw, oneC, reduceAdd, reduceMul, reduceSub, reduceEqDiff, reduceLT, ↓reduceIte, Int.reduceToNat, reduceLeDiff,  f0, f3]
    refine hX1 _ _ _ (fun h => by cases h) ?_
    simp +contextual (maxSteps := 2000000) (disch := first | omega | (simp only [SZ]; first | done | omega) | (simp only [TS] at *; omega)) only [RZ, ovw, oneC, reduceAdd, reduceMul, reduceSub, reduceEqDiff, reduceLT, ↓reduceIte, Int.reduceToNat, reduceLeDiff,  f0, f3]
    rw [← hwr, hl0 hsz, Bool.true_and, List.all_eq_true]
    intro c hc
    obtain ⟨j, hj⟩ := List.mem_iff_getElem?.1 hc
    have hjl : j < s.size := by have := (List.getElem?_eq_some_iff.1 hj).1; rwa [bs_len] at this
    rw [bs_get hjl] at hj
    injection hj with hj
    rw [← hj]
    exact hal j hjl
theorem rfine_any (L : List Int) (A : Option Addr) (c : Nat) (w : World) (hA : Arr w A 1 (L.map fun n => [Value.int .i64 n])) (hl : L.length ≤ 1000000000) : Calls Tryz.prog 79 #[.slice A L.length c] w fun e w' => e = .returned (.bool (L.all fitB)) ∧ w = w' := by
  refine calls_W (l := [_]) Tryz.func79 rfl _ Tryz.ntmps79 (by simp) ?_
  generalize hwr : L.all fitB = rr
  refine W_piece fun K hK hX => ?_
  simp +contextual (maxSteps := 2000000) (disch := first | omega | (simp only [SZ]; first | done | omega) | (simp only [TS] at *; omega)) only [RZ, ovw, oneC, reduceAdd, reduceMul, reduceSub, reduceEqDiff, reduceLT, ↓reduceIte, Int.reduceToNat, reduceLeDiff]
  refine hK _ _ ?_
  clear hK hX K
  refine W_cutS (fun σ w' => w' = w ∧ rr = true) ?_ ?_
  · rintro σ w' ⟨rfl, rfl⟩
    simp +contextual (maxSteps := 2000000) (disch := first | omega | (simp only [SZ]; first | done | omega) | (simp only [TS] at *; omega)) only [RZ, ovw, oneC, reduceAdd, reduceMul, reduceSub, reduceEqDiff, reduceLT, ↓reduceIte, Int.reduceToNat, reduceLeDiff]
  refine W_piece fun K hK hX => ?_
  simp +contextual (maxSteps := 2000000) (disch := first | omega | (simp only [SZ]; first | done | omega) | (simp only [TS] at *; omega)) only [RZ, ovw, oneC, reduceAdd, reduceMul, reduceSub, reduceEqDiff, reduceLT, ↓reduceIte, Int.reduceToNat, reduceLeDiff]
  refine hK _ _ ?_
  clear hK hX K
  rw [W_block, W_loop]
  refine Raw_loop (fun σ w' => w' = w ∧ ∃ k : Nat, k ≤ L.length ∧ (∀ j n, j < k → L[j]? = some n → fitB n = true) ∧ σ 0 = .slice A L.length c ∧ σ 3 = .int .i64 k) (fun σ _ => L.length - (intOf (σ 3)).toNat) ?_ ?_
  · exact ⟨rfl, 0, Nat.zero_le _, fun j n hj => absurd hj (Nat.not_lt_zero _), rfl, rfl⟩
  rintro σ w' ⟨rfl, k, hk, hal, f0, f3⟩ K hK
  refine W_piece fun K1 hK1 hX1 => ?_
  refine W_piece fun K2 hK2 hX2 => ?_
  simp +contextual (maxSteps := 2000000) (disch := first | omega | (simp only [SZ]; first | done | omega) | (simp only [TS] at *; omega)) only [RZ, ovw, oneC, reduceAdd, reduceMul, reduceSub, reduceEqDiff, reduceLT, ↓reduceIte, Int.reduceToNat, reduceLeDiff,  f0, f3]
  refine hK2 _ _ ?_
  clear hK2 hX2 K2
  (refine W_if rfl (fun hc => ?_) (fun hc => ?_) <;> (try simp only [TS] at hc))
  · have hkl : k < L.length := by omega
    obtain ⟨n, hn⟩ : ∃ n, L[k]? = some n := ⟨_, List.getElem?_eq_getElem hkl⟩
    obtain ⟨b, o, rfl, hb, hcell⟩ := hA.at_ (enc := fun n => [Value.int .i64 n]) hn
    have l0 := hcell 0 _ rfl
    rw [Nat.add_zero, Nat.mul_one] at l0
    rw [W_skip]
    refine hK1 _ _ ?_
    clear hK1 hX1 K1
    have hW : (decide (n < 0) || decide (999999999999999999 < n)) = !fitB n := by
      rw [Bool.eq_iff_iff]; unfold fitB; simp only [Bool.or_eq_true, decide_eq_true_eq, Bool.not_eq_true', Bool.and_eq_false_iff, decide_eq_false_iff_not]; omega
    refine W_piece fun K1 hK1 hX1 => ?_
    rw [W_block]
    refine W_piece fun K2 hK2 hX2 => ?_
    simp +contextual (maxSteps := 2000000) (disch := first | omega | (simp only [SZ]; first | done | omega) | (simp only [TS] at *; omega)) only [RZ, ovw, oneC, reduceAdd, reduceMul, reduceSub, reduceEqDiff, reduceLT, ↓reduceIte, Int.reduceToNat, reduceLeDiff,  f0, f3, l0]
    refine hK2 _ _ ?_
    clear hK2 hX2 K2
    rw [hW]
    cases hf : fitB n with
    | false =>
      refine W_if_t rfl ?_
      refine W_piece fun K2 hK2 hX2 => ?_
      simp +contextual (maxSteps := 2000000) (disch := first | omega | (simp only [SZ]; first | done | omega) | (simp only [TS] at *; omega)) only [RZ, ovw, oneC, reduceAdd, reduceMul, reduceSub, reduceEqDiff, reduceLT, ↓reduceIte, Int.reduceToNat, reduceLeDiff]
      refine hK2 _ _ ?_
      rw [W_ret, inX_ret]
      refine hX1 _ _ _ (fun h => by cases h) ?_
      have hrr : rr = false := by
        rw [← hwr, Bool.eq_false_iff]
        intro e
        have := List.all_eq_true.1 e n (List.mem_of_getElem? hn)
        rw [hf] at this
        cases this
      subst hrr
      simp +contextual (maxSteps := 2000000) (disch := first | omega | (simp only [SZ]; first | done | omega) | (simp only [TS] at *; omega)) only [RZ, ovw, oneC, reduceAdd, reduceMul, reduceSub, reduceEqDiff, reduceLT, ↓reduceIte, Int.reduceToNat, reduceLeDiff]
    | true =>
      refine W_if_f rfl ?_
      rw [W_skip, inX_normal]
      refine hK1 _ _ ?_
      clear hK1 hX1 K1
      simp +contextual (maxSteps := 2000000) (disch := first | omega | (simp only [SZ]; first | done | omega) | (simp only [TS] at *; omega)) only [RZ, ovw, oneC, reduceAdd, reduceMul, reduceSub, reduceEqDiff, reduceLT, ↓reduceIte, Int.reduceToNat, reduceLeDiff,  f0, f3]
      refine hK _ _ ⟨rfl, k + 1, by omega, fun j m hj hm => ?_, ?_⟩ ?_
      · by_cases hjk : j = k
        · subst hjk; rw [hn] at hm; injection hm with hm; subst hm; exact hf
        · exact hal j m (by omega) hm
      · simp +contextual (maxSteps := 2000000) (disch := first | omega | (simp only [SZ]; first | done | omega) | (simp only [TS] at *; omega)) only [RZ, ovw, oneC, reduceAdd, reduceMul, reduceSub, reduceEqDiff, reduceLT, ↓reduceIte, Int.reduceToNat, reduceLeDiff,  f0, f3]
      · simp +contextual (maxSteps := 2000000) (disch := first | omega | (simp only [SZ]; first | done | omega) | (simp only [TS] at *; omega)) only [RZ, ovw, oneC, reduceAdd, reduceMul, reduceSub, reduceEqDiff, reduceLT, ↓reduceIte, Int.reduceToNat, reduceLeDiff,  intOf, f3]
        omega
  · have hkz : k = L.length := by omega
    subst hkz
    simp +contextual (maxSteps := 2000000) (disch := first | omega | (simp only [SZ]; first | done | omega) | (simp only [TS] at *; omega)) only [RZ, ovw, oneC, reduceAdd, reduceMul, reduceSub, reduceEqDiff, reduceLT, ↓reduceIte, Int.reduceToNat, reduceLeDiff,  f0, f3]
    refine hX1 _ _ _ (fun h => by cases h) ?_
    simp +contextual (maxSteps := 2000000) (disch := first | omega | (simp only [SZ]; first | done | omega) | (simp only [TS] at *; omega)) only [RZ, ovw, oneC, reduceAdd, reduceMul, reduceSub, reduceEqDiff, reduceLT, ↓reduceIte, Int.reduceToNat, reduceLeDiff,  f0, f3]
    rw [← hwr, List.all_eq_true]
    intro n hn
    obtain ⟨j, hj⟩ := List.mem_iff_getElem?.1 hn
    exact hal j n (List.getElem?_eq_some_iff.1 hj).1 hj
end Go.Proofs.YtbdkggnajipdhaaGreatDoor
/- Walks: the reference's printer of games: put, of, row, hit. -/
namespace Go.Proofs.YtbdkggnajipdhaaGreatDoor
open Nat (reduceAdd reduceMul reduceSub reduceEqDiff reduceLT reduceLeDiff)
open Go.RowKit
set_option maxRecDepth 100000
theorem fmtB_size {n : Int} (h : numR n) : (fmtB n).size ≤ 21 := by rw [← bs_len, bs_fmtB]; exact fmtI_len h
theorem rput_any (s : ByteArray) (n std : Int) (w : World) (hs : s.size ≤ 1000000) (hn : numR n) : Calls Tryz.prog 42 #[.string s, .int .i64 n, .int .i64 std] w fun e w' =>
    Below w.heap.size w w' ∧ ∃ r, e = .returned (.string r) ∧ bs r = (optI (bs s) n std).flatMap lineG ∧ r.size ≤ s.size + 30 := by
  refine calls_W (l := [_, _, _]) Tryz.func42 rfl _ Tryz.ntmps42 (by simp) ?_
  refine W_piece fun K hK hX => ?_
  simp +contextual (maxSteps := 2000000) (disch := first | omega | (simp only [SZ]; first | done | omega) | (simp only [TS] at *; omega)) only [RZ, ovw, oneC, reduceAdd, reduceMul, reduceSub, reduceEqDiff, reduceLT, ↓reduceIte, Int.reduceToNat, reduceLeDiff]
  refine hK _ _ ?_
  clear hK hX K
  refine W_piece fun K hK hX => ?_
  refine W_piece fun K2 hK2 hX2 => ?_
  simp +contextual (maxSteps := 2000000) (disch := first | omega | (simp only [SZ]; first | done | omega) | (simp only [TS] at *; omega)) only [RZ, ovw, oneC, reduceAdd, reduceMul, reduceSub, reduceEqDiff, reduceLT, ↓reduceIte, Int.reduceToNat, reduceLeDiff]
  refine hK2 _ _ ?_
  clear hK2 hX2 K2
  by_cases h : n = std
  · rw [show decide (n = std) = true by simp [h]]
    refine W_if_t rfl ?_
    refine W_piece fun K2 hK2 hX2 => ?_
    simp +contextual (maxSteps := 2000000) (disch := first | omega | (simp only [SZ]; first | done | omega) | (simp only [TS] at *; omega)) only [RZ, ovw, oneC, reduceAdd, reduceMul, reduceSub, reduceEqDiff, reduceLT, ↓reduceIte, Int.reduceToNat, reduceLeDiff]
    refine hK2 _ _ ?_
    rw [W_ret]
    refine hX _ _ _ (fun h => by cases h) ?_
    simp +contextual (maxSteps := 2000000) (disch := first | omega | (simp only [SZ]; first | done | omega) | (simp only [TS] at *; omega)) only [RZ, ovw, oneC, reduceAdd, reduceMul, reduceSub, reduceEqDiff, reduceLT, ↓reduceIte, Int.reduceToNat, reduceLeDiff]
    refine ⟨Below.refl _ _, _, rfl, ?_, ?_⟩
    · unfold optI; rw [if_pos h]; rfl
    · exact Nat.zero_le _
  · rw [show decide (n = std) = false by simp [h]]
    refine W_if_f rfl ?_
    rw [W_skip]
    refine hK _ _ ?_
    clear hK hX K
    have hf := fmtB_size hn
    refine W_piece fun K hK hX => ?_
    simp +contextual (maxSteps := 2000000) (disch := first | omega | (simp only [SZ]; first | done | omega) | (simp only [TS] at *; omega)) only [RZ, ovw, oneC, reduceAdd, reduceMul, reduceSub, reduceEqDiff, reduceLT, ↓reduceIte, Int.reduceToNat, reduceLeDiff]
    refine (rformat_any n w hn).mono ?_
    rintro e w1 ⟨rfl, hB⟩
    refine ⟨_, rfl, ?_⟩
    try simp +contextual (maxSteps := 2000000) (disch := first | omega | (simp only [SZ]; first | done | omega) | (simp only [TS] at *; omega)) only [RZ, ovw, oneC, reduceAdd, reduceMul, reduceSub, reduceEqDiff, reduceLT, ↓reduceIte, Int.reduceToNat, reduceLeDiff]
    refine hK _ _ ?_
    clear hK hX K
    simp +contextual (maxSteps := 2000000) (disch := first | omega | (simp only [SZ]; first | done | omega) | (simp only [TS] at *; omega)) only [RZ, ovw, oneC, reduceAdd, reduceMul, reduceSub, reduceEqDiff, reduceLT, ↓reduceIte, Int.reduceToNat, reduceLeDiff]
    refine ⟨hB, _, rfl, ?_, ?_⟩
    · unfold optI
      rw [if_neg h]
      simp only [bs_append, bs_fmtB, lineG, It.words, show bs ⟨#[32, 32]⟩ = [32, 32] by decide +kernel, show bs ⟨#[32]⟩ = [32] by decide +kernel, show bs ⟨#[59, 10]⟩ = asc ";\n" by decide +kernel]
      simp [lineG, It.words]
    · simp only [SZ]; omega
theorem rof_any (s : ByteArray) (a b : Int) (w : World) (hs : s.size ≤ 1000000) (ha : numR a) (hb : numR b) : Calls Tryz.prog 41 #[.string s, .int .i64 a, .int .i64 b] w fun e w' =>
    Below w.heap.size w w' ∧ ∃ r, e = .returned (.string r) ∧ bs r = lineG (.two (bs s) a b) ∧ r.size ≤ s.size + 60 := by
  refine calls_W (l := [_, _, _]) Tryz.func41 rfl _ Tryz.ntmps41 (by simp) ?_
  have hf := fmtB_size ha
  have hf2 := fmtB_size hb
  simp +contextual (maxSteps := 2000000) (disch := first | omega | (simp only [SZ]; first | done | omega) | (simp only [TS] at *; omega)) only [RZ, ovw, oneC, reduceAdd, reduceMul, reduceSub, reduceEqDiff, reduceLT, ↓reduceIte, Int.reduceToNat, reduceLeDiff]
  refine (rformat_any a w ha).mono ?_
  rintro e w1 ⟨rfl, hB⟩
  refine ⟨_, rfl, ?_⟩
  simp +contextual (maxSteps := 2000000) (disch := first | omega | (simp only [SZ]; first | done | omega) | (simp only [TS] at *; omega)) only [RZ, ovw, oneC, reduceAdd, reduceMul, reduceSub, reduceEqDiff, reduceLT, ↓reduceIte, Int.reduceToNat, reduceLeDiff]
  refine (rformat_any b w1 hb).mono ?_
  rintro e w2 ⟨rfl, hB2⟩
  refine ⟨_, rfl, ?_⟩
  simp +contextual (maxSteps := 2000000) (disch := first | omega | (simp only [SZ]; first | done | omega) | (simp only [TS] at *; omega)) only [RZ, ovw, oneC, reduceAdd, reduceMul, reduceSub, reduceEqDiff, reduceLT, ↓reduceIte, Int.reduceToNat, reduceLeDiff]
  refine ⟨hB.trans (hB2.mono hB.size), _, rfl, ?_, ?_⟩
  · simp only [bs_append, bs_fmtB, lineG, It.words, show bs ⟨#[32, 32]⟩ = [32, 32] by decide +kernel, show bs ⟨#[32]⟩ = [32] by decide +kernel, show bs ⟨#[59, 10]⟩ = asc ";\n" by decide +kernel, show bs ⟨#[32, 111, 102, 32]⟩ = 32 :: (asc "of" ++ [32]) by decide +kernel]
    simp
  · simp only [SZ]; omega
theorem rhit_any (s : ByteArray) (n : Int) (w : World) (hs : s.size ≤ 1000000) (hn : numR n) : Calls Tryz.prog 85 #[.string s, .int .i64 n] w fun e w' =>
    Below w.heap.size w w' ∧ ∃ r, e = .returned (.string r) ∧ bs r = (hitW (bs s) n).flatMap (32 :: ·) ∧ r.size ≤ s.size + 30 := by
  refine calls_W (l := [_, _]) Tryz.func85 rfl _ Tryz.ntmps85 (by simp) ?_
  refine W_piece fun K hK hX => ?_
  simp +contextual (maxSteps := 2000000) (disch := first | omega | (simp only [SZ]; first | done | omega) | (simp only [TS] at *; omega)) only [RZ, ovw, oneC, reduceAdd, reduceMul, reduceSub, reduceEqDiff, reduceLT, ↓reduceIte, Int.reduceToNat, reduceLeDiff]
  refine hK _ _ ?_
  clear hK hX K
  refine W_piece fun K hK hX => ?_
  refine W_piece fun K2 hK2 hX2 => ?_
  simp +contextual (maxSteps := 2000000) (disch := first | omega | (simp only [SZ]; first | done | omega) | (simp only [TS] at *; omega)) only [RZ, ovw, oneC, reduceAdd, reduceMul, reduceSub, reduceEqDiff, reduceLT, ↓reduceIte, Int.reduceToNat, reduceLeDiff]
  refine hK2 _ _ ?_
  clear hK2 hX2 K2
  by_cases h : n = 0
  · rw [show decide (n = 0) = true by simp [h]]
    refine W_if_t rfl ?_
    refine W_piece fun K2 hK2 hX2 => ?_
    simp +contextual (maxSteps := 2000000) (disch := first | omega | (simp only [SZ]; first | done | omega) | (simp only [TS] at *; omega)) only [RZ, ovw, oneC, reduceAdd, reduceMul, reduceSub, reduceEqDiff, reduceLT, ↓reduceIte, Int.reduceToNat, reduceLeDiff]
    refine hK2 _ _ ?_
    rw [W_ret]
    refine hX _ _ _ (fun h => by cases h) ?_
    simp +contextual (maxSteps := 2000000) (disch := first | omega | (simp only [SZ]; first | done | omega) | (simp only [TS] at *; omega)) only [RZ, ovw, oneC, reduceAdd, reduceMul, reduceSub, reduceEqDiff, reduceLT, ↓reduceIte, Int.reduceToNat, reduceLeDiff]
    refine ⟨Below.refl _ _, _, rfl, ?_, ?_⟩
    · unfold hitW; rw [if_pos h]; rfl
    · exact Nat.zero_le _
  · rw [show decide (n = 0) = false by simp [h]]
    refine W_if_f rfl ?_
    rw [W_skip]
    refine hK _ _ ?_
    clear hK hX K
    have hf := fmtB_size hn
    refine W_piece fun K hK hX => ?_
    simp +contextual (maxSteps := 2000000) (disch := first | omega | (simp only [SZ]; first | done | omega) | (simp only [TS] at *; omega)) only [RZ, ovw, oneC, reduceAdd, reduceMul, reduceSub, reduceEqDiff, reduceLT, ↓reduceIte, Int.reduceToNat, reduceLeDiff]
    refine (rformat_any n w hn).mono ?_
    rintro e w1 ⟨rfl, hB⟩
    refine ⟨_, rfl, ?_⟩
    try simp +contextual (maxSteps := 2000000) (disch := first | omega | (simp only [SZ]; first | done | omega) | (simp only [TS] at *; omega)) only [RZ, ovw, oneC, reduceAdd, reduceMul, reduceSub, reduceEqDiff, reduceLT, ↓reduceIte, Int.reduceToNat, reduceLeDiff]
    refine hK _ _ ?_
    clear hK hX K
    simp +contextual (maxSteps := 2000000) (disch := first | omega | (simp only [SZ]; first | done | omega) | (simp only [TS] at *; omega)) only [RZ, ovw, oneC, reduceAdd, reduceMul, reduceSub, reduceEqDiff, reduceLT, ↓reduceIte, Int.reduceToNat, reduceLeDiff]
    refine ⟨hB, _, rfl, ?_, ?_⟩
    · unfold hitW
      rw [if_neg h]
      simp only [bs_append, bs_fmtB, show bs ⟨#[32]⟩ = [32] by decide +kernel]
      simp
    · simp only [SZ]; omega
theorem rrow_any (L : List Int) (A : Option Addr) (c : Nat) (w : World) (hA : Arr w A 1 (L.map fun n => [Value.int .i64 n])) (hl : L.length ≤ 1000000) (hn : ∀ n ∈ L, numR n) : Calls Tryz.prog 84 #[.slice A L.length c] w fun e w' =>
    Below w.heap.size w w' ∧ ∃ r, e = .returned (.string r) ∧ bs r = (L.map fmtI).flatMap (32 :: ·) ∧ r.size ≤ 22 * L.length := by
  refine calls_W (l := [_]) Tryz.func84 rfl _ Tryz.ntmps84 (by simp) ?_
  refine W_piece fun K hK hX => ?_
  simp +contextual (maxSteps := 2000000) (disch := first | omega | (simp only [SZ]; first | done | omega) | (simp only [TS] at *; omega)) only [RZ, ovw, oneC, reduceAdd, reduceMul, reduceSub, reduceEqDiff, reduceLT, ↓reduceIte, Int.reduceToNat, reduceLeDiff]
  refine hK _ _ ?_
  clear hK hX K
  refine W_piece fun K hK hX => ?_
  simp +contextual (maxSteps := 2000000) (disch := first | omega | (simp only [SZ]; first | done | omega) | (simp only [TS] at *; omega)) only [RZ, ovw, oneC, reduceAdd, reduceMul, reduceSub, reduceEqDiff, reduceLT, ↓reduceIte, Int.reduceToNat, reduceLeDiff]
  refine hK _ _ ?_
  clear hK hX K
  refine W_cutS (fun σ w' => Below w.heap.size w w' ∧ ∃ r, σ 3 = .string r ∧ bs r = (L.map fmtI).flatMap (32 :: ·) ∧ r.size ≤ 22 * L.length) ?_ ?_
  · rintro σ w' ⟨hB, r, f3, h1, h2⟩
    simp +contextual (maxSteps := 2000000) (disch := first | omega | (simp only [SZ]; first | done | omega) | (simp only [TS] at *; omega)) only [RZ, ovw, oneC, reduceAdd, reduceMul, reduceSub, reduceEqDiff, reduceLT, ↓reduceIte, Int.reduceToNat, reduceLeDiff,  f3]
    exact ⟨hB, _, rfl, h1, h2⟩
  refine W_piece fun K hK hX => ?_
  simp +contextual (maxSteps := 2000000) (disch := first | omega | (simp only [SZ]; first | done | omega) | (simp only [TS] at *; omega)) only [RZ, ovw, oneC, reduceAdd, reduceMul, reduceSub, reduceEqDiff, reduceLT, ↓reduceIte, Int.reduceToNat, reduceLeDiff]
  refine hK _ _ ?_
  clear hK hX K
  rw [W_block, W_loop]
  refine Raw_loop (fun σ w' => Below w.heap.size w w' ∧ ∃ (k : Nat) (r : ByteArray), k ≤ L.length ∧ bs r = ((L.take k).map fmtI).flatMap (32 :: ·) ∧ r.size ≤ 22 * k ∧ σ 0 = .slice A L.length c ∧ σ 3 = .string r ∧ σ 4 = .int .i64 k) (fun σ _ => L.length - (intOf (σ 4)).toNat) ?_ ?_
  · exact ⟨Below.refl _ _, 0, ⟨#[]⟩, Nat.zero_le _, by rw [List.take_zero]; rfl, Nat.zero_le _, rfl, rfl, rfl⟩
  rintro σ w' ⟨hB, k, r, hk, hr1, hr2, f0, f3, f4⟩ K hK
  refine W_piece fun K1 hK1 hX1 => ?_
  refine W_piece fun K2 hK2 hX2 => ?_
  simp +contextual (maxSteps := 2000000) (disch := first | omega | (simp only [SZ]; first | done | omega) | (simp only [TS] at *; omega)) only [RZ, ovw, oneC, reduceAdd, reduceMul, reduceSub, reduceEqDiff, reduceLT, ↓reduceIte, Int.reduceToNat, reduceLeDiff,  f0, f4]
  refine hK2 _ _ ?_
  clear hK2 hX2 K2
  (refine W_if rfl (fun hc => ?_) (fun hc => ?_) <;> (try simp only [TS] at hc))
  · have hkl : k < L.length := by omega
    obtain ⟨n, hnk⟩ : ∃ n, L[k]? = some n := ⟨_, List.getElem?_eq_getElem hkl⟩
    obtain ⟨b, o, rfl, hb, hcell⟩ := (hA.below hB).at_ (enc := fun n => [Value.int .i64 n]) hnk
    have l0 := hcell 0 _ rfl
    rw [Nat.add_zero, Nat.mul_one] at l0
    have hnn := hn n (List.mem_of_getElem? hnk)
    have hf := fmtB_size hnn
    rw [W_skip]
    refine hK1 _ _ ?_
    clear hK1 hX1 K1
    refine W_piece fun K1 hK1 hX1 => ?_
    rw [W_block]
    simp +contextual (maxSteps := 2000000) (disch := first | omega | (simp only [SZ]; first | done | omega) | (simp only [TS] at *; omega)) only [RZ, ovw, oneC, reduceAdd, reduceMul, reduceSub, reduceEqDiff, reduceLT, ↓reduceIte, Int.reduceToNat, reduceLeDiff,  f0, f3, f4, l0]
    refine (rformat_any n w' hnn).mono ?_
    rintro e w2 ⟨rfl, hB2⟩
    refine ⟨_, rfl, ?_⟩
    try simp +contextual (maxSteps := 2000000) (disch := first | omega | (simp only [SZ]; first | done | omega) | (simp only [TS] at *; omega)) only [RZ, ovw, oneC, reduceAdd, reduceMul, reduceSub, reduceEqDiff, reduceLT, ↓reduceIte, Int.reduceToNat, reduceLeDiff,  f0, f3, f4]
    refine hK1 _ _ ?_
    clear hK1 hX1 K1
    simp +contextual (maxSteps := 2000000) (disch := first | omega | (simp only [SZ]; first | done | omega) | (simp only [TS] at *; omega)) only [RZ, ovw, oneC, reduceAdd, reduceMul, reduceSub, reduceEqDiff, reduceLT, ↓reduceIte, Int.reduceToNat, reduceLeDiff,  f0, f3, f4]
    refine hK _ _ ⟨hB.trans (hB2.mono hB.size), k + 1, _, by omega, ?_, ?_, ?_, rfl, ?_⟩ ?_
    · rw [List.take_add_one, hnk]
      simp only [bs_append, bs_fmtB, show bs ⟨#[32]⟩ = [32] by decide +kernel, hr1]
      simp
    · simp only [SZ]; omega
    · simp +contextual (maxSteps := 2000000) (disch := first | omega | (simp only [SZ]; first | done | omega) | (simp only [TS] at *; omega)) only [RZ, ovw, oneC, reduceAdd, reduceMul, reduceSub, reduceEqDiff, reduceLT, ↓reduceIte, Int.reduceToNat, reduceLeDiff,  f0, f3, f4]
    · simp +contextual (maxSteps := 2000000) (disch := first | omega | (simp only [SZ]; first | done | omega) | (simp only [TS] at *; omega)) only [RZ, ovw, oneC, reduceAdd, reduceMul, reduceSub, reduceEqDiff, reduceLT, ↓reduceIte, Int.reduceToNat, reduceLeDiff,  f0, f3, f4]
    · simp +contextual (maxSteps := 2000000) (disch := first | omega | (simp only [SZ]; first | done | omega) | (simp only [TS] at *; omega)) only [RZ, ovw, oneC, reduceAdd, reduceMul, reduceSub, reduceEqDiff, reduceLT, ↓reduceIte, Int.reduceToNat, reduceLeDiff,  intOf, f4]
      omega
  · have hkz : k = L.length := by omega
    subst hkz
    rw [List.take_length] at hr1
    simp +contextual (maxSteps := 2000000) (disch := first | omega | (simp only [SZ]; first | done | omega) | (simp only [TS] at *; omega)) only [RZ, ovw, oneC, reduceAdd, reduceMul, reduceSub, reduceEqDiff, reduceLT, ↓reduceIte, Int.reduceToNat, reduceLeDiff,  f0, f3, f4]
    refine hX1 _ _ _ (fun h => by cases h) ?_
    simp +contextual (maxSteps := 2000000) (disch := first | omega | (simp only [SZ]; first | done | omega) | (simp only [TS] at *; omega)) only [RZ, ovw, oneC, reduceAdd, reduceMul, reduceSub, reduceEqDiff, reduceLT, ↓reduceIte, Int.reduceToNat, reduceLeDiff,  f0, f3, f4]
    exact ⟨hB, r, by first | exact ⟨rfl, hr1, hr2⟩ | exact ⟨hr1, hr2⟩⟩
end Go.Proofs.YtbdkggnajipdhaaGreatDoor
