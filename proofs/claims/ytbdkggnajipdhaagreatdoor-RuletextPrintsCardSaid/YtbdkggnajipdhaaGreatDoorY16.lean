/- Texts laid one behind the other: RwA, RwB, RwC, RwD. Each says at its head what it proves. -/
import Derived.Test.YtbdkggnajipdhaaGreatDoorY15
import Derived.ChangeKeysEq
set_option linter.unusedSimpArgs false
/- Walks: the law's comparisons: ints, Same. -/
namespace Go.Proofs.YtbdkggnajipdhaaGreatDoor
open Go.RowKit
set_option maxRecDepth 100000
theorem part_int {P : Program} {t : TypeId} {k : IntKind} (ht : P.underlying t = some (.int k)) {xs : Array Value} {o : Nat} {v : Value} (hx : xs[o]? = some v) (w : World) : (part t xs o).run P w = .ok v w := by
  simp [part, Sem.run_bind, isAgg_int ht, hx]
theorem eqF_int {P : Program} (w : World) (d : Nat) (xs ys : Array Value) (f : Field) (fs : List Field) {k : IntKind} {a b : Int} (hn : f.name ≠ "_") (ht : P.underlying f.type = some (.int k)) (hx : xs[f.offset]? = some (.int k a)) (hy : ys[f.offset]? = some (.int k b)) :
    (Op.eqFields (d + 1) xs ys (f :: fs)).run P w = if a = b then (Op.eqFields (d + 1) xs ys fs).run P w else .ok false w := by
  rw [Op.eqFields, if_pos hn]
  simp only [Sem.run_bind, part_int ht hx, part_int ht hy, Result.andThen_ok, run_equalIn_int w d f.type k k a b ht]
  by_cases h : a = b
  · simp [h]
  · simp [h]
theorem eqF_nil {P : Program} (w : World) (d : Nat) (xs ys : Array Value) : (Op.eqFields d xs ys []).run P w = .ok true w := by simp [Op.eqFields]
theorem ti_same (t : Ti) (x y : Operand) (w : World) : vBin Tryz.prog .neq 41 x y (.agg (encTi t).toArray) (.agg (encTi t).toArray) w = .ok (.value (.bool false)) w := by
  have hg : Tryz.prog.eqGuardType Tryz.prog.depth 41 = false := by kernel_rfl
  have hf : (Tryz.prog.fieldsOf 41).toList.map (fun f => (decide (f.name ≠ "_"), f.type, f.offset)) = [(true, 3, 0), (true, 3, 1), (true, 3, 2), (true, 3, 3), (true, 3, 4), (true, 3, 5)] := by
    unfold Program.fieldsOf
    rw [Tryz.underlying41]
    rfl
  have key : ∀ (fs : List Field), fs.map (fun f => (decide (f.name ≠ "_"), f.type, f.offset)) = [(true, 3, 0), (true, 3, 1), (true, 3, 2), (true, 3, 3), (true, 3, 4), (true, 3, 5)] → (Op.eqFields 9999 (encTi t).toArray (encTi t).toArray fs).run Tryz.prog w = .ok true w := by
    intro fs h
    have key2 : ∀ (fs : List Field), (∀ f ∈ fs, f.name ≠ "_" ∧ f.type = 3 ∧ f.offset < 6) → (Op.eqFields 9999 (encTi t).toArray (encTi t).toArray fs).run Tryz.prog w = .ok true w := by
      intro fs
      induction fs with
      | nil => intro _; exact eqF_nil _ _ _ _
      | cons f r ih =>
        intro hf
        obtain ⟨h1, h2, h3⟩ := hf f (by simp)
        obtain ⟨n, hn⟩ : ∃ n : Int, (encTi t).toArray[f.offset]? = some (.int .i64 n) := by
          have : f.offset = 0 ∨ f.offset = 1 ∨ f.offset = 2 ∨ f.offset = 3 ∨ f.offset = 4 ∨ f.offset = 5 := by omega
          rcases this with e | e | e | e | e | e <;> rw [e] <;> exact ⟨_, rfl⟩
        rw [show (9999 : Nat) = 9998 + 1 from rfl, eqF_int (k := .i64) w _ _ _ _ _ h1 (by rw [h2]; exact Tryz.underlying3) hn hn, if_pos rfl]
        exact ih fun f hf' => hf f (by simp [hf'])
    refine key2 fs fun f hf => ?_
    have hm := List.mem_map_of_mem (f := fun f : Field => (decide (f.name ≠ "_"), f.type, f.offset)) hf
    rw [h] at hm
    simp only [List.mem_cons, List.not_mem_nil, or_false, Prod.mk.injEq, decide_eq_true_eq] at hm
    rcases hm with ⟨a, b, c⟩ | ⟨a, b, c⟩ | ⟨a, b, c⟩ | ⟨a, b, c⟩ | ⟨a, b, c⟩ | ⟨a, b, c⟩ <;> exact ⟨a, b, by omega⟩
  have he : (Op.equalIn 10000 41 (.agg (encTi t).toArray) (.agg (encTi t).toArray)).run Tryz.prog w = .ok true w := by
    rw [show (10000 : Nat) = 9999 + 1 from rfl, run_equalIn_struct w 9999 41 _ _ (by unfold Program.fieldsOf; rw [Tryz.underlying41]) (by kernel_rfl)]
    exact key _ hf
  unfold vBin
  simp [Sem.run_bind, eqGuard, hg, binOp, Op.equal, Op.maxDepth, he]
theorem ints_any (L : List Int) (A B : Option Addr) (c d : Nat) (w : World) (hA : Arr w A 1 (L.map fun n => [Value.int .i64 n])) (hB : Arr w B 1 (L.map fun n => [Value.int .i64 n])) (hl : L.length ≤ 1000000000) :
    Calls Tryz.prog 18 #[.slice A L.length c, .slice B L.length d] w fun e w' => e = .returned (.bool true) ∧ Below w.heap.size w w' := by
  refine calls_W (l := [_, _]) Tryz.func18 rfl _ Tryz.ntmps18 (by simp) ?_
  refine W_piece fun K hK hX => ?_
  simp +contextual (maxSteps := 2000000) (disch := (first | omega | (simp only [SZ]; first | done | omega) | (simp only [TS] at *; omega))) only [RZ, ovw, oneC, Nat.reduceAdd, Nat.reduceMul, Nat.reduceSub, Nat.reduceEqDiff, Nat.reduceLT, ↓reduceIte, Int.reduceToNat, Nat.reduceLeDiff]
  refine hK _ _ ?_
  clear hK hX K
  refine W_piece fun K hK hX => ?_
  refine W_piece fun K2 hK2 hX2 => ?_
  simp +contextual (maxSteps := 2000000) (disch := (first | omega | (simp only [SZ]; first | done | omega) | (simp only [TS] at *; omega))) only [RZ, ovw, oneC, Nat.reduceAdd, Nat.reduceMul, Nat.reduceSub, Nat.reduceEqDiff, Nat.reduceLT, ↓reduceIte, Int.reduceToNat, Nat.reduceLeDiff]
  refine hK2 _ _ ?_
  clear hK2 hX2 K2
  refine W_if_f rfl ?_
  rw [W_skip]
  refine hK _ _ ?_
  clear hK hX K
  refine W_cutS (fun σ w1 => Below w.heap.size w w1) ?_ ?_
  · intro σ w1 h
    simp +contextual (maxSteps := 2000000) (disch := (first | omega | (simp only [SZ]; first | done | omega) | (simp only [TS] at *; omega))) only [RZ, ovw, oneC, Nat.reduceAdd, Nat.reduceMul, Nat.reduceSub, Nat.reduceEqDiff, Nat.reduceLT, ↓reduceIte, Int.reduceToNat, Nat.reduceLeDiff]
    exact h
  refine W_piece fun K hK hX => ?_
  simp +contextual (maxSteps := 2000000) (disch := (first | omega | (simp only [SZ]; first | done | omega) | (simp only [TS] at *; omega))) only [RZ, ovw, oneC, Nat.reduceAdd, Nat.reduceMul, Nat.reduceSub, Nat.reduceEqDiff, Nat.reduceLT, ↓reduceIte, Int.reduceToNat, Nat.reduceLeDiff]
  refine hK _ _ ?_
  clear hK hX K
  rw [W_block, W_loop]
  refine Raw_loop (fun σ w1 => Below w.heap.size w w1 ∧ ∃ k : Nat, k ≤ L.length ∧ σ 0 = .slice A L.length c ∧ σ 1 = .slice B L.length d ∧ σ 12 = .int .i64 L.length ∧ σ 13 = .int .i64 k) (fun σ _ => L.length - (intOf (σ 13)).toNat) ?_ ?_
  · exact ⟨Below.refl _ _, 0, Nat.zero_le _, rfl, rfl, rfl, rfl⟩
  rintro σ w1 ⟨hb, k, hk, f0, f1, f12, f13⟩ K hK
  simp +contextual (maxSteps := 2000000) (disch := (first | omega | (simp only [SZ]; first | done | omega) | (simp only [TS] at *; omega))) only [RZ, ovw, oneC, Nat.reduceAdd, Nat.reduceMul, Nat.reduceSub, Nat.reduceEqDiff, Nat.reduceLT, ↓reduceIte, Int.reduceToNat, Nat.reduceLeDiff,  f0, f1, f12, f13]
  (refine W_if rfl (fun hc => ?_) (fun hc => ?_) <;> (try simp only [TS] at hc))
  · obtain ⟨n, hn⟩ : ∃ n, L[k]? = some n := ⟨_, List.getElem?_eq_getElem (by omega)⟩
    obtain ⟨ba, oa, rfl, hba, hca⟩ := (hA.below hb).at_ (enc := fun n => [Value.int .i64 n]) hn
    obtain ⟨bb, ob, rfl, hbb, hcb⟩ := (hB.below hb).at_ (enc := fun n => [Value.int .i64 n]) hn
    have l0 : w1.drew.cell? _ = _ := hca 0 _ rfl
    rw [Nat.add_zero, Nat.mul_one] at l0
    have m0 : w1.drew.cell? _ = _ := hcb 0 _ rfl
    rw [Nat.add_zero, Nat.mul_one] at m0
    simp +contextual (maxSteps := 2000000) (disch := (first | omega | (simp only [SZ]; first | done | omega) | (simp only [TS] at *; omega))) only [RZ, ovw, oneC, Nat.reduceAdd, Nat.reduceMul, Nat.reduceSub, Nat.reduceEqDiff, Nat.reduceLT, ↓reduceIte, Int.reduceToNat, Nat.reduceLeDiff,  f0, f1, f12, f13]
    refine Raw_still MX (by kernel_rfl) ?_
    simp +contextual (maxSteps := 2000000) (disch := (first | omega | (simp only [SZ]; first | done | omega) | (simp only [TS] at *; omega))) only [RZ, ovw, oneC, Nat.reduceAdd, Nat.reduceMul, Nat.reduceSub, Nat.reduceEqDiff, Nat.reduceLT, ↓reduceIte, Int.reduceToNat, Nat.reduceLeDiff,  f0, f1, f12, f13, l0, m0]
    refine W_if_f rfl ?_
    simp +contextual (maxSteps := 2000000) (disch := (first | omega | (simp only [SZ]; first | done | omega) | (simp only [TS] at *; omega))) only [RZ, ovw, oneC, Nat.reduceAdd, Nat.reduceMul, Nat.reduceSub, Nat.reduceEqDiff, Nat.reduceLT, ↓reduceIte, Int.reduceToNat, Nat.reduceLeDiff,  f0, f1, f12, f13]
    refine hK _ _ ⟨below_drew hb, k + 1, by omega, ?_⟩ ?_
    · simp +contextual (maxSteps := 2000000) (disch := (first | omega | (simp only [SZ]; first | done | omega) | (simp only [TS] at *; omega))) only [RZ, ovw, oneC, Nat.reduceAdd, Nat.reduceMul, Nat.reduceSub, Nat.reduceEqDiff, Nat.reduceLT, ↓reduceIte, Int.reduceToNat, Nat.reduceLeDiff,  f0, f1, f12, f13]
    · simp +contextual (maxSteps := 2000000) (disch := (first | omega | (simp only [SZ]; first | done | omega) | (simp only [TS] at *; omega))) only [RZ, ovw, oneC, Nat.reduceAdd, Nat.reduceMul, Nat.reduceSub, Nat.reduceEqDiff, Nat.reduceLT, ↓reduceIte, Int.reduceToNat, Nat.reduceLeDiff,  intOf, f13]
      omega
  · simp +contextual (maxSteps := 2000000) (disch := (first | omega | (simp only [SZ]; first | done | omega) | (simp only [TS] at *; omega))) only [RZ, ovw, oneC, Nat.reduceAdd, Nat.reduceMul, Nat.reduceSub, Nat.reduceEqDiff, Nat.reduceLT, ↓reduceIte, Int.reduceToNat, Nat.reduceLeDiff,  f0, f1, f12, f13]
    exact hb

end Go.Proofs.YtbdkggnajipdhaaGreatDoor
/- Walk: the law's Same on equal games. -/
namespace Go.Proofs.YtbdkggnajipdhaaGreatDoor
open Go.RowKit
set_option maxRecDepth 100000
section
variable {P : Program} {T : TypeId} {w : World} {g : Nat}
theorem setCells_stW : ∀ (vs : List Value) (i : Nat) (w : World), w.setCells g i vs = stW g i vs w
  | [], _, _ => rfl
  | v :: r, i, w => setCells_stW r (i + 1) _
theorem okC_row : ∀ (vs : List Value) (i : Nat) (cs : List Value), Row w g T cs → i + vs.length ≤ cs.length → (∀ v ∈ vs, oneC v = true) → okC w g vs.length i vs = true
  | [], _, _, _, _, _ => rfl
  | v :: r, i, cs, h, hl, h1 => by
    rw [List.length_cons] at hl
    have ih := okC_row r (i + 1) cs h (by omega) fun v hv => h1 v (by simp [hv])
    have hc := h.cell (i := i) (v := cs[i]'(by omega)) (List.getElem?_eq_getElem (by omega))
    have hf := h.frozen i
    simp only [List.length_cons, okC, h1 v (by simp), hc, hf, ih, Option.isSome_some, Bool.not_false, Bool.and_self]
theorem vStore_row {c : Value} {cs cs0 : List Value} (hR : Row w g T cs0) (hl : (c :: cs).length = cs0.length) (hz : szOf P T = (c :: cs).length) (h1 : ∀ v ∈ c :: cs, oneC v = true) :
    vStore P T (.pointer (some ⟨g, 0, none⟩)) (.agg (c :: cs).toArray) w = .ok .skip (w.setCells g 0 (c :: cs)) := by
  rw [vStore_aggN, hz, okC_row (c :: cs) 0 cs0 hR (by omega) h1]
  rfl
theorem setCells_row {cs0 : List Value} (vs : List Value) (hR : Row w g T cs0) (hl : vs.length = cs0.length) : Row (w.setCells g 0 vs) g T vs := by
  have := stW_row vs 0 w cs0 hR (by omega)
  rw [← setCells_stW] at this
  exact this
theorem setCells_below {B : Nat} {a : World} (hB : B ≤ g) : ∀ (vs : List Value) (i : Nat) (w : World), Below B a w → Below B a (w.setCells g i vs)
  | [], _, _, h => h
  | v :: r, i, w, h => setCells_below hB r (i + 1) _ (h.setCell (p := ⟨g, i, none⟩) hB v)
theorem setCells_other {g' : Nat} {T' : TypeId} {cs' : List Value} (hg : g' ≠ g) : ∀ (vs : List Value) (i : Nat) (w : World), Row w g' T' cs' → Row (w.setCells g i vs) g' T' cs'
  | [], _, _, h => h
  | v :: r, i, w, h => setCells_other hg r (i + 1) _ (by
      obtain ⟨cur, hc, x⟩ := h
      exact ⟨cur, by simp [World.setCell, Array.getElem?_modify, Ne.symm hg, hc], x⟩)
theorem setCells_size : ∀ (vs : List Value) (i : Nat) (w : World), (w.setCells g i vs).heap.size = w.heap.size
  | [], _, _ => rfl
  | v :: r, i, w => (setCells_size r (i + 1) _).trans (by simp [World.setCell])
end
def zAd : List Value := encAd ⟨ByteArray.empty, 0, 0, [], 0, []⟩ (.slice none 0 0) (.slice none 0 0)
/-- Two new add-ons, made in either order. -/
structure AB (w0 : World) (x y : Option Nat) (w' : World) : Prop where
  low : Below w0.heap.size w0 w'
  ra : ∀ g, x = some g → w0.heap.size ≤ g ∧ Row w' g 45 zAd
  rb : ∀ g, y = some g → w0.heap.size ≤ g ∧ Row w' g 45 zAd
  ne : ∀ g h, x = some g → y = some h → g ≠ h
theorem AB.putA {w0 w' : World} {y : Option Nat} (h : AB w0 none y w') : AB w0 (some w'.heap.size) y (w'.alloc (.cells zAd.toArray 45)) :=
  ⟨h.low.alloc h.low.size _, fun g e => by injection e with e; subst e; exact ⟨h.low.size, Row.new w' _ zAd⟩, fun g e => ⟨(h.rb g e).1, (h.rb g e).2.alloc _⟩,
    fun g k e1 e2 => by injection e1 with e1; have := (h.rb k e2).2.lt; omega⟩
theorem AB.putB {w0 w' : World} {x : Option Nat} (h : AB w0 x none w') : AB w0 x (some w'.heap.size) (w'.alloc (.cells zAd.toArray 45)) :=
  ⟨h.low.alloc h.low.size _, fun g e => ⟨(h.ra g e).1, (h.ra g e).2.alloc _⟩, fun g e => by injection e with e; subst e; exact ⟨h.low.size, Row.new w' _ zAd⟩,
    fun g k e1 e2 => by injection e2 with e2; have := (h.ra g e1).2.lt; omega⟩
set_option maxHeartbeats 8000000 in
theorem same_any (G : Gm) (Va Vt Va' Vt' : Value) (w : World) (hA : GmIn w Va Vt G) (hB : GmIn w Va' Vt' G) (hL : G.little) :
    Calls Tryz.prog 11 #[.agg (gmV G Va Vt).toArray, .agg (gmV G Va' Vt').toArray] w fun e w' => e = .returned (.bool true) ∧ Below w.heap.size w w' := by
  refine calls_W (l := [_, _]) Tryz.func11 rfl _ Tryz.ntmps11 (by simp) ?_
  obtain ⟨hnl, hal, htl, hadl⟩ := hL
  obtain ⟨⟨Aa, ca, Vs, rfl, hAa, hads⟩, At, ct, rfl, hAt⟩ := hA
  obtain ⟨⟨Ba, da, Us, rfl, hBa, hbds⟩, Bt, dt, rfl, hBt⟩ := hB
  have r0 := Row.new w 26 (gmV G (.slice Aa G.addons.length ca) (.slice At G.tiers.length ct))
  have b0 := below_alloc w (.cells (gmV G (.slice Aa G.addons.length ca) (.slice At G.tiers.length ct)).toArray 26)
  have z0 := World.size_alloc w (.cells (gmV G (.slice Aa G.addons.length ca) (.slice At G.tiers.length ct)).toArray 26)
  refine W_piece fun K hK hX => ?_
  simp +contextual (maxSteps := 2000000) (disch := (first | omega | (simp only [SZ]; first | done | omega) | (simp only [TS] at *; omega))) only [RZ, ovw, oneC, Nat.reduceAdd, Nat.reduceMul, Nat.reduceSub, Nat.reduceEqDiff, Nat.reduceLT, ↓reduceIte, Int.reduceToNat, Nat.reduceLeDiff]
  refine hK _ _ ?_
  clear hK hX K
  generalize w.alloc (.cells (gmV G (.slice Aa G.addons.length ca) (.slice At G.tiers.length ct)).toArray 26) = w0 at r0 b0 z0 ⊢
  have r1 := Row.new w0 26 (gmV G (.slice Ba G.addons.length da) (.slice Bt G.tiers.length dt))
  have b1 := b0.trans ((below_alloc w0 (.cells (gmV G (.slice Ba G.addons.length da) (.slice Bt G.tiers.length dt)).toArray 26)).mono (by omega))
  have z1 := World.size_alloc w0 (.cells (gmV G (.slice Ba G.addons.length da) (.slice Bt G.tiers.length dt)).toArray 26)
  replace r0 := r0.alloc (.cells (gmV G (.slice Ba G.addons.length da) (.slice Bt G.tiers.length dt)).toArray 26)
  generalize w0.alloc (.cells (gmV G (.slice Ba G.addons.length da) (.slice Bt G.tiers.length dt)).toArray 26) = w1 at r0 r1 b1 z1 ⊢
  rw [z0] at r1 z1
  clear b0
  have c0 : w1.cell? ⟨w.heap.size, 0, none⟩ = some (.string G.name) := r0.cell (i := 0) rfl
  have d0 : w1.cell? ⟨w.heap.size + 1, 0, none⟩ = some (.string G.name) := r1.cell (i := 0) rfl
  have c1 : w1.cell? ⟨w.heap.size, 1, none⟩ = some (.int .i64 (G.n 0)) := r0.cell (i := 1) rfl
  have d1 : w1.cell? ⟨w.heap.size + 1, 1, none⟩ = some (.int .i64 (G.n 0)) := r1.cell (i := 1) rfl
  have c2 : w1.cell? ⟨w.heap.size, 2, none⟩ = some (.int .i64 (G.n 1)) := r0.cell (i := 2) rfl
  have d2 : w1.cell? ⟨w.heap.size + 1, 2, none⟩ = some (.int .i64 (G.n 1)) := r1.cell (i := 2) rfl
  have c3 : w1.cell? ⟨w.heap.size, 3, none⟩ = some (.int .i64 (G.n 2)) := r0.cell (i := 3) rfl
  have d3 : w1.cell? ⟨w.heap.size + 1, 3, none⟩ = some (.int .i64 (G.n 2)) := r1.cell (i := 3) rfl
  have c4 : w1.cell? ⟨w.heap.size, 4, none⟩ = some (.int .i64 (G.n 3)) := r0.cell (i := 4) rfl
  have d4 : w1.cell? ⟨w.heap.size + 1, 4, none⟩ = some (.int .i64 (G.n 3)) := r1.cell (i := 4) rfl
  have c5 : w1.cell? ⟨w.heap.size, 5, none⟩ = some (.int .i64 (G.n 4)) := r0.cell (i := 5) rfl
  have d5 : w1.cell? ⟨w.heap.size + 1, 5, none⟩ = some (.int .i64 (G.n 4)) := r1.cell (i := 5) rfl
  have c6 : w1.cell? ⟨w.heap.size, 6, none⟩ = some (.int .i64 (G.n 5)) := r0.cell (i := 6) rfl
  have d6 : w1.cell? ⟨w.heap.size + 1, 6, none⟩ = some (.int .i64 (G.n 5)) := r1.cell (i := 6) rfl
  have c7 : w1.cell? ⟨w.heap.size, 7, none⟩ = some (.int .i64 (G.n 6)) := r0.cell (i := 7) rfl
  have d7 : w1.cell? ⟨w.heap.size + 1, 7, none⟩ = some (.int .i64 (G.n 6)) := r1.cell (i := 7) rfl
  have c8 : w1.cell? ⟨w.heap.size, 8, none⟩ = some (.int .i64 (G.n 7)) := r0.cell (i := 8) rfl
  have d8 : w1.cell? ⟨w.heap.size + 1, 8, none⟩ = some (.int .i64 (G.n 7)) := r1.cell (i := 8) rfl
  have c9 : w1.cell? ⟨w.heap.size, 9, none⟩ = some (.int .i64 (G.n 8)) := r0.cell (i := 9) rfl
  have d9 : w1.cell? ⟨w.heap.size + 1, 9, none⟩ = some (.int .i64 (G.n 8)) := r1.cell (i := 9) rfl
  have c10 : w1.cell? ⟨w.heap.size, 10, none⟩ = some (.int .i64 (G.n 9)) := r0.cell (i := 10) rfl
  have d10 : w1.cell? ⟨w.heap.size + 1, 10, none⟩ = some (.int .i64 (G.n 9)) := r1.cell (i := 10) rfl
  have c11 : w1.cell? ⟨w.heap.size, 11, none⟩ = some (.int .i64 (G.n 10)) := r0.cell (i := 11) rfl
  have d11 : w1.cell? ⟨w.heap.size + 1, 11, none⟩ = some (.int .i64 (G.n 10)) := r1.cell (i := 11) rfl
  have c12 : w1.cell? ⟨w.heap.size, 12, none⟩ = some (.int .i64 (G.n 11)) := r0.cell (i := 12) rfl
  have d12 : w1.cell? ⟨w.heap.size + 1, 12, none⟩ = some (.int .i64 (G.n 11)) := r1.cell (i := 12) rfl
  have c13 : w1.cell? ⟨w.heap.size, 13, none⟩ = some (.int .i64 (G.n 12)) := r0.cell (i := 13) rfl
  have d13 : w1.cell? ⟨w.heap.size + 1, 13, none⟩ = some (.int .i64 (G.n 12)) := r1.cell (i := 13) rfl
  have c14 : w1.cell? ⟨w.heap.size, 14, none⟩ = some (.int .i64 (G.n 13)) := r0.cell (i := 14) rfl
  have d14 : w1.cell? ⟨w.heap.size + 1, 14, none⟩ = some (.int .i64 (G.n 13)) := r1.cell (i := 14) rfl
  have c15 : w1.cell? ⟨w.heap.size, 15, none⟩ = some (.int .i64 (G.n 14)) := r0.cell (i := 15) rfl
  have d15 : w1.cell? ⟨w.heap.size + 1, 15, none⟩ = some (.int .i64 (G.n 14)) := r1.cell (i := 15) rfl
  have c16 : w1.cell? ⟨w.heap.size, 16, none⟩ = some (.int .i64 (G.n 15)) := r0.cell (i := 16) rfl
  have d16 : w1.cell? ⟨w.heap.size + 1, 16, none⟩ = some (.int .i64 (G.n 15)) := r1.cell (i := 16) rfl
  have c17 : w1.cell? ⟨w.heap.size, 17, none⟩ = some (.int .i64 (G.n 16)) := r0.cell (i := 17) rfl
  have d17 : w1.cell? ⟨w.heap.size + 1, 17, none⟩ = some (.int .i64 (G.n 16)) := r1.cell (i := 17) rfl
  have c18 : w1.cell? ⟨w.heap.size, 18, none⟩ = some (.int .i64 (G.n 17)) := r0.cell (i := 18) rfl
  have d18 : w1.cell? ⟨w.heap.size + 1, 18, none⟩ = some (.int .i64 (G.n 17)) := r1.cell (i := 18) rfl
  have c19 : w1.cell? ⟨w.heap.size, 19, none⟩ = some (.int .i64 (G.n 18)) := r0.cell (i := 19) rfl
  have d19 : w1.cell? ⟨w.heap.size + 1, 19, none⟩ = some (.int .i64 (G.n 18)) := r1.cell (i := 19) rfl
  have c20 : w1.cell? ⟨w.heap.size, 20, none⟩ = some (.slice Aa G.addons.length ca) := r0.cell (i := 20) rfl
  have d20 : w1.cell? ⟨w.heap.size + 1, 20, none⟩ = some (.slice Ba G.addons.length da) := r1.cell (i := 20) rfl
  have c21 : w1.cell? ⟨w.heap.size, 21, none⟩ = some (.slice At G.tiers.length ct) := r0.cell (i := 21) rfl
  have d21 : w1.cell? ⟨w.heap.size + 1, 21, none⟩ = some (.slice Bt G.tiers.length dt) := r1.cell (i := 21) rfl
  refine W_piece fun K hK hX => ?_
  refine W_piece fun K2 hK2 hX2 => ?_
  simp +contextual (maxSteps := 2000000) (disch := (first | omega | (simp only [SZ]; first | done | omega) | (simp only [TS] at *; omega))) only [RZ, ovw, oneC, Nat.reduceAdd, Nat.reduceMul, Nat.reduceSub, Nat.reduceEqDiff, Nat.reduceLT, ↓reduceIte, Int.reduceToNat, Nat.reduceLeDiff,  c0, d0, c1, d1, c2, d2, c3, d3, c4, d4, c5, d5, c6, d6, c7, d7]
  refine hK2 _ _ ?_
  clear hK2 hX2 K2
  refine W_if_f rfl ?_
  rw [W_skip]
  refine hK _ _ ?_
  clear hK hX K
  refine W_piece fun K hK hX => ?_
  refine W_piece fun K2 hK2 hX2 => ?_
  simp +contextual (maxSteps := 2000000) (disch := (first | omega | (simp only [SZ]; first | done | omega) | (simp only [TS] at *; omega))) only [RZ, ovw, oneC, Nat.reduceAdd, Nat.reduceMul, Nat.reduceSub, Nat.reduceEqDiff, Nat.reduceLT, ↓reduceIte, Int.reduceToNat, Nat.reduceLeDiff,  c8, d8, c9, d9, c10, d10, c11, d11, c12, d12, c13, d13, c14, d14]
  refine hK2 _ _ ?_
  clear hK2 hX2 K2
  refine W_if_f rfl ?_
  rw [W_skip]
  refine hK _ _ ?_
  clear hK hX K
  refine W_piece fun K hK hX => ?_
  refine W_piece fun K2 hK2 hX2 => ?_
  simp +contextual (maxSteps := 2000000) (disch := (first | omega | (simp only [SZ]; first | done | omega) | (simp only [TS] at *; omega))) only [RZ, ovw, oneC, Nat.reduceAdd, Nat.reduceMul, Nat.reduceSub, Nat.reduceEqDiff, Nat.reduceLT, ↓reduceIte, Int.reduceToNat, Nat.reduceLeDiff,  c15, d15, c16, d16, c17, d17, c18, d18, c19, d19, c20, d20, c21, d21]
  refine hK2 _ _ ?_
  clear hK2 hX2 K2
  refine W_if_f rfl ?_
  rw [W_skip]
  refine hK _ _ ?_
  clear hK hX K
  clear c0 d0 c1 d1 c2 d2 c3 d3 c4 d4 c5 d5 c6 d6 c7 d7 c8 d8 c9 d9 c10 d10 c11 d11 c12 d12 c13 d13 c14 d14 c15 d15 c16 d16 c17 d17 c18 d18 c19 d19 c20 d20 c21 d21
  have hAa1 := hAa.below b1
  have hBa1 := hBa.below b1
  have hAt1 := hAt.below b1
  have hBt1 := hBt.below b1
  have hads1 := hads.mono (P' := IntsR w1) fun v L hv => hv.below b1
  have hbds1 := hbds.mono (P' := IntsR w1) fun v L hv => hv.below b1
  clear hAa hBa hAt hBt hads hbds
  refine W_cutS (fun σ w2 => Below w1.heap.size w1 w2 ∧ σ 2 = .pointer (some ⟨w.heap.size, 0, none⟩) ∧ σ 3 = .pointer (some ⟨w.heap.size + 1, 0, none⟩)) ?_ ?_
  rotate_left
  · have c20 : w1.cell? ⟨w.heap.size, 20, none⟩ = some (.slice Aa G.addons.length ca) := r0.cell (i := 20) rfl
    refine W_piece fun K hK hX => ?_
    simp +contextual (maxSteps := 2000000) (disch := (first | omega | (simp only [SZ]; first | done | omega) | (simp only [TS] at *; omega))) only [RZ, ovw, oneC, Nat.reduceAdd, Nat.reduceMul, Nat.reduceSub, Nat.reduceEqDiff, Nat.reduceLT, ↓reduceIte, Int.reduceToNat, Nat.reduceLeDiff,  c20]
    refine hK _ _ ?_
    clear hK hX K c20
    rw [W_block, W_loop]
    refine Raw_loop (fun σ w2 => Below w1.heap.size w1 w2 ∧ ∃ k : Nat, k ≤ G.addons.length ∧ σ 2 = .pointer (some ⟨w.heap.size, 0, none⟩) ∧ σ 3 = .pointer (some ⟨w.heap.size + 1, 0, none⟩) ∧ σ 163 = .int .i64 G.addons.length ∧ σ 164 = .int .i64 k) (fun σ _ => G.addons.length - (intOf (σ 164)).toNat) ?_ ?_
    · exact ⟨Below.refl _ _, 0, Nat.zero_le _, rfl, rfl, rfl, rfl⟩
    rintro σ w2 ⟨hb, k, hk, f2, f3, f163, f164⟩ K hK
    simp +contextual (maxSteps := 2000000) (disch := (first | omega | (simp only [SZ]; first | done | omega) | (simp only [TS] at *; omega))) only [RZ, ovw, oneC, Nat.reduceAdd, Nat.reduceMul, Nat.reduceSub, Nat.reduceEqDiff, Nat.reduceLT, ↓reduceIte, Int.reduceToNat, Nat.reduceLeDiff,  f163, f164]
    (refine W_if rfl (fun hc => ?_) (fun hc => ?_) <;> (try simp only [TS] at hc))
    · have hkl : k < G.addons.length := by omega
      obtain ⟨a, ha⟩ : ∃ a, G.addons[k]? = some a := ⟨_, List.getElem?_eq_getElem hkl⟩
      obtain ⟨cv1, hcv⟩ : ∃ c, Vs[k]? = some c := ⟨_, List.getElem?_eq_getElem (by rw [hads1.1]; exact hkl)⟩
      obtain ⟨vf, vs, rfl, hvf, hvs⟩ := hads1.2 k _ a hcv ha
      obtain ⟨cv2, hcu⟩ : ∃ c, Us[k]? = some c := ⟨_, List.getElem?_eq_getElem (by rw [hbds1.1]; exact hkl)⟩
      obtain ⟨uf, us, rfl, huf, hus⟩ := hbds1.2 k _ a hcu ha
      obtain ⟨b2, o2, rfl, hb2, hc2⟩ := hAa1 (by rw [hads1.1]; omega)
      obtain ⟨b3, o3, rfl, hb3, hc3⟩ := hBa1 (by rw [hbds1.1]; omega)
      obtain ⟨m1, m2, m3⟩ := hadl a (List.mem_of_getElem? ha)
      simp +contextual (maxSteps := 2000000) (disch := (first | omega | (simp only [SZ]; first | done | omega) | (simp only [TS] at *; omega))) only [RZ, ovw, oneC, Nat.reduceAdd, Nat.reduceMul, Nat.reduceSub, Nat.reduceEqDiff, Nat.reduceLT, ↓reduceIte, Int.reduceToNat, Nat.reduceLeDiff,  f2, f3, f163, f164]
      have hbd : Below w1.heap.size w1 w2.drew := below_drew hb
      have hlt1 := r0.lt
      have hlt2 := r1.lt
      have hsz2 := hb.size
      have p20 : ∀ w7, Below w2.heap.size w2.drew w7 → w7.cell? ⟨w.heap.size, 20, none⟩ = some (.slice (some ⟨b2, o2, none⟩) G.addons.length ca) := fun w7 h7 => (r0.below (hbd.trans (h7.mono hsz2))).cell (i := 20) rfl
      have q20 : ∀ w7, Below w2.heap.size w2.drew w7 → w7.cell? ⟨w.heap.size + 1, 20, none⟩ = some (.slice (some ⟨b3, o3, none⟩) G.addons.length da) := fun w7 h7 => (r1.below (hbd.trans (h7.mono hsz2))).cell (i := 20) rfl
      have hla : ∀ w7, Below w2.heap.size w2.drew w7 → vLoad Tryz.prog 45 (.pointer (some ⟨b2, o2 + k * 6, none⟩)) w7 = .ok (.value (.agg (encAd a vf vs).toArray)) w7 := fun w7 h7 => vLoad_all (by kernel_rfl) (by show _ = some 6; kernel_rfl) (fun i v hv => ((bcell (hbd.trans (h7.mono hsz2))).1 _ _ hb2).trans (hc2 k _ hcv i v hv))
      have hlb : ∀ w7, Below w2.heap.size w2.drew w7 → vLoad Tryz.prog 45 (.pointer (some ⟨b3, o3 + k * 6, none⟩)) w7 = .ok (.value (.agg (encAd a uf us).toArray)) w7 := fun w7 h7 => vLoad_all (by kernel_rfl) (by show _ = some 6; kernel_rfl) (fun i v hv => ((bcell (hbd.trans (h7.mono hsz2))).1 _ _ hb3).trans (hc3 k _ hcu i v hv))
      have hS : Below w2.heap.size w2.drew w2.drew := Below.refl _ _
      refine Raw_ord (fun w7 => Below w2.heap.size w2.drew w7) 14 rfl MX ?_
      refine Ord_reads (τ := ?ta) [0, 1, 2, 3, 4, 5, 6, 7, 8, 9] 4 rfl (by kernel_rfl) (by kernel_rfl) (fun _ _ _ h => h) hS (fun w7 h7 => ?_) ?_; rotate_left
      · simp only [opsL_cons, opsL_nil, List.getElem?_toArray, List.getElem?_cons_zero, List.getElem?_cons_succ, optL_some]
        simp +contextual (maxSteps := 2000000) (disch := (first | omega | (simp only [SZ]; first | done | omega) | (simp only [TS] at *; omega))) only [RZ, ovw, oneC, Nat.reduceAdd, Nat.reduceMul, Nat.reduceSub, Nat.reduceEqDiff, Nat.reduceLT, ↓reduceIte, Int.reduceToNat, Nat.reduceLeDiff,  f2, f3, p20 w7 h7, q20 w7 h7, hla w7 h7, hlb w7 h7]
        exact rfl
      refine Ord_two (fun (x y : Option Nat) w7 => AB w2.drew x y w7) (fun g => .pointer (some ⟨g, 0, none⟩)) (fun g => .pointer (some ⟨g, 0, none⟩)) 10 11 6 7 rfl rfl (by decide) (by decide) (by decide) (by decide) (by kernel_rfl) (by kernel_rfl) (by kernel_rfl)
        ⟨Below.refl _ _, (fun g e => by cases e), (fun g e => by cases e), (fun g h e => by cases e)⟩ ?_ ?_ ?_
      · intro y w7 σ' hσ h7
        simp +contextual (maxSteps := 2000000) (disch := (first | omega | (simp only [SZ]; first | done | omega) | (simp only [TS] at *; omega))) only [RZ, ovw, oneC, Nat.reduceAdd, Nat.reduceMul, Nat.reduceSub, Nat.reduceEqDiff, Nat.reduceLT, ↓reduceIte, Int.reduceToNat, Nat.reduceLeDiff]
        exact ⟨_, rfl, h7.putA.low, h7.putA⟩
      · intro x w7 σ' hσ h7
        simp +contextual (maxSteps := 2000000) (disch := (first | omega | (simp only [SZ]; first | done | omega) | (simp only [TS] at *; omega))) only [RZ, ovw, oneC, Nat.reduceAdd, Nat.reduceMul, Nat.reduceSub, Nat.reduceEqDiff, Nat.reduceLT, ↓reduceIte, Int.reduceToNat, Nat.reduceLeDiff]
        exact ⟨_, rfl, h7.putB.low, h7.putB⟩
      intro x y w7 h7
      obtain ⟨hxl, hxr⟩ := h7.ra x rfl
      obtain ⟨hyl, hyr⟩ := h7.rb y rfl
      have hxy := h7.ne x y rfl rfl
      have hl7 := h7.low
      have st1 : vStore Tryz.prog 45 (.pointer (some ⟨x, 0, none⟩)) (.agg (encAd a vf vs).toArray) w7 = .ok .skip (w7.setCells x 0 (encAd a vf vs)) := by
        obtain ⟨Av, cv, rfl, _⟩ := id hvf
        obtain ⟨As, cS, rfl, _⟩ := id hvs
        exact vStore_row hxr rfl (by kernel_rfl) (by intro v hv; simp only [List.mem_cons, List.not_mem_nil, or_false] at hv; rcases hv with rfl | rfl | rfl | rfl | rfl | rfl <;> rfl)
      have hyr2 := setCells_other (Ne.symm hxy) (encAd a vf vs) 0 w7 hyr
      have hxr2 := setCells_row (encAd a vf vs) hxr rfl
      have hl8 := setCells_below hxl (encAd a vf vs) 0 w7 hl7
      refine Ord_one 12 (by kernel_rfl) rfl ?_
      simp +contextual (maxSteps := 2000000) (disch := (first | omega | (simp only [SZ]; first | done | omega) | (simp only [TS] at *; omega))) only [RZ, ovw, oneC, Nat.reduceAdd, Nat.reduceMul, Nat.reduceSub, Nat.reduceEqDiff, Nat.reduceLT, ↓reduceIte, Int.reduceToNat, Nat.reduceLeDiff,  st1]
      generalize w7.setCells x 0 (encAd a vf vs) = w8 at hyr2 hxr2 hl8 ⊢
      have st2 : vStore Tryz.prog 45 (.pointer (some ⟨y, 0, none⟩)) (.agg (encAd a uf us).toArray) w8 = .ok .skip (w8.setCells y 0 (encAd a uf us)) := by
        obtain ⟨Av, cv, rfl, _⟩ := id huf
        obtain ⟨As, cS, rfl, _⟩ := id hus
        exact vStore_row hyr2 rfl (by kernel_rfl) (by intro v hv; simp only [List.mem_cons, List.not_mem_nil, or_false] at hv; rcases hv with rfl | rfl | rfl | rfl | rfl | rfl <;> rfl)
      have hxr3 := setCells_other hxy (encAd a uf us) 0 w8 hxr2
      have hyr3 := setCells_row (encAd a uf us) hyr2 rfl
      have hl9 := setCells_below hyl (encAd a uf us) 0 w8 hl8
      refine ⟨hl8, Ord_one 13 (by kernel_rfl) rfl ?_⟩
      simp +contextual (maxSteps := 2000000) (disch := (first | omega | (simp only [SZ]; first | done | omega) | (simp only [TS] at *; omega))) only [RZ, ovw, oneC, Nat.reduceAdd, Nat.reduceMul, Nat.reduceSub, Nat.reduceEqDiff, Nat.reduceLT, ↓reduceIte, Int.reduceToNat, Nat.reduceLeDiff,  st2]
      generalize w8.setCells y 0 (encAd a uf us) = w9 at hyr3 hxr3 hl9 ⊢
      refine ⟨hl9, Ord_done (by kernel_rfl) ?_⟩
      clear st1 st2 hl8 hl7 hyr2 hxr2 h7
      have hl1w : Below w1.heap.size w1 w9 := hbd.trans (hl9.mono hsz2)
      have x0 : w9.cell? ⟨x, 0, none⟩ = some (.string a.name) := hxr3.cell (i := 0) rfl
      have x1 : w9.cell? ⟨x, 1, none⟩ = some (.int .i64 a.kind) := hxr3.cell (i := 1) rfl
      have x2 : w9.cell? ⟨x, 2, none⟩ = some (.int .i64 a.price) := hxr3.cell (i := 2) rfl
      have x3 : w9.cell? ⟨x, 3, none⟩ = some vf := hxr3.cell (i := 3) rfl
      have x4 : w9.cell? ⟨x, 4, none⟩ = some (.int .i64 a.digits) := hxr3.cell (i := 4) rfl
      have x5 : w9.cell? ⟨x, 5, none⟩ = some vs := hxr3.cell (i := 5) rfl
      have y0 : w9.cell? ⟨y, 0, none⟩ = some (.string a.name) := hyr3.cell (i := 0) rfl
      have y1 : w9.cell? ⟨y, 1, none⟩ = some (.int .i64 a.kind) := hyr3.cell (i := 1) rfl
      have y2 : w9.cell? ⟨y, 2, none⟩ = some (.int .i64 a.price) := hyr3.cell (i := 2) rfl
      have y3 : w9.cell? ⟨y, 3, none⟩ = some uf := hyr3.cell (i := 3) rfl
      have y4 : w9.cell? ⟨y, 4, none⟩ = some (.int .i64 a.digits) := hyr3.cell (i := 4) rfl
      have y5 : w9.cell? ⟨y, 5, none⟩ = some us := hyr3.cell (i := 5) rfl
      obtain ⟨Af, cf, rfl, hAf⟩ := id hvf
      obtain ⟨As, cS, rfl, hAs⟩ := id hvs
      obtain ⟨Bf, df, rfl, hBf⟩ := id huf
      obtain ⟨Bs, dS, rfl, hBs⟩ := id hus
      simp +contextual (maxSteps := 2000000) (disch := (first | omega | (simp only [SZ]; first | done | omega) | (simp only [TS] at *; omega))) only [RZ, ovw, oneC, Nat.reduceAdd, Nat.reduceMul, Nat.reduceSub, Nat.reduceEqDiff, Nat.reduceLT, ↓reduceIte, Int.reduceToNat, Nat.reduceLeDiff,  f2, f3, f163, f164, x0, x1, x2, x3, x4, x5, y0, y1, y2, y3, y4, y5]
      refine (ints_any a.factors Af Bf cf df w9 (hAf.below hl1w) (hBf.below hl1w) (by omega)).mono ?_
      rintro e w10 ⟨rfl, h10⟩
      refine ⟨_, rfl, ?_⟩
      have x5 : w10.cell? ⟨x, 5, none⟩ = some (.slice As a.serials.length cS) := (hxr3.below h10).cell (i := 5) rfl
      have y5 : w10.cell? ⟨y, 5, none⟩ = some (.slice Bs a.serials.length dS) := (hyr3.below h10).cell (i := 5) rfl
      have h10w : Below w1.heap.size w1 w10 := hl1w.trans (h10.mono hl1w.size)
      try simp +contextual (maxSteps := 2000000) (disch := (first | omega | (simp only [SZ]; first | done | omega) | (simp only [TS] at *; omega))) only [RZ, ovw, oneC, Nat.reduceAdd, Nat.reduceMul, Nat.reduceSub, Nat.reduceEqDiff, Nat.reduceLT, ↓reduceIte, Int.reduceToNat, Nat.reduceLeDiff,  f2, f3, f163, f164, x5, y5]
      refine (ints_any a.serials As Bs cS dS w10 (hAs.below h10w) (hBs.below h10w) (by omega)).mono ?_
      rintro e w11 ⟨rfl, h11⟩
      refine ⟨_, rfl, ?_⟩
      have h11w : Below w1.heap.size w1 w11 := h10w.trans (h11.mono h10w.size)
      try simp +contextual (maxSteps := 2000000) (disch := (first | omega | (simp only [SZ]; first | done | omega) | (simp only [TS] at *; omega))) only [RZ, ovw, oneC, Nat.reduceAdd, Nat.reduceMul, Nat.reduceSub, Nat.reduceEqDiff, Nat.reduceLT, ↓reduceIte, Int.reduceToNat, Nat.reduceLeDiff,  f2, f3, f163, f164]
      refine W_if_f rfl ?_
      simp +contextual (maxSteps := 2000000) (disch := (first | omega | (simp only [SZ]; first | done | omega) | (simp only [TS] at *; omega))) only [RZ, ovw, oneC, Nat.reduceAdd, Nat.reduceMul, Nat.reduceSub, Nat.reduceEqDiff, Nat.reduceLT, ↓reduceIte, Int.reduceToNat, Nat.reduceLeDiff,  f2, f3, f163, f164]
      refine hK _ _ ⟨h11w, k + 1, by omega, ?_⟩ ?_
      · simp +contextual (maxSteps := 2000000) (disch := (first | omega | (simp only [SZ]; first | done | omega) | (simp only [TS] at *; omega))) only [RZ, ovw, oneC, Nat.reduceAdd, Nat.reduceMul, Nat.reduceSub, Nat.reduceEqDiff, Nat.reduceLT, ↓reduceIte, Int.reduceToNat, Nat.reduceLeDiff,  f2, f3, f163, f164]
      · simp +contextual (maxSteps := 2000000) (disch := (first | omega | (simp only [SZ]; first | done | omega) | (simp only [TS] at *; omega))) only [RZ, ovw, oneC, Nat.reduceAdd, Nat.reduceMul, Nat.reduceSub, Nat.reduceEqDiff, Nat.reduceLT, ↓reduceIte, Int.reduceToNat, Nat.reduceLeDiff,  intOf, f164]
        omega
    · simp +contextual (maxSteps := 2000000) (disch := (first | omega | (simp only [SZ]; first | done | omega) | (simp only [TS] at *; omega))) only [RZ, ovw, oneC, Nat.reduceAdd, Nat.reduceMul, Nat.reduceSub, Nat.reduceEqDiff, Nat.reduceLT, ↓reduceIte, Int.reduceToNat, Nat.reduceLeDiff,  f2, f3, f163, f164]
      exact hb
  rintro σ w2 ⟨hb, f2, f3⟩
  refine W_cutS (fun σ w3 => Below w1.heap.size w1 w3) ?_ ?_
  · intro σ w3 h3
    simp +contextual (maxSteps := 2000000) (disch := (first | omega | (simp only [SZ]; first | done | omega) | (simp only [TS] at *; omega))) only [RZ, ovw, oneC, Nat.reduceAdd, Nat.reduceMul, Nat.reduceSub, Nat.reduceEqDiff, Nat.reduceLT, ↓reduceIte, Int.reduceToNat, Nat.reduceLeDiff]
    exact b1.trans (h3.mono b1.size)
  · have c21 : w2.cell? ⟨w.heap.size, 21, none⟩ = some (.slice At G.tiers.length ct) := (r0.below hb).cell (i := 21) rfl
    refine W_piece fun K hK hX => ?_
    simp +contextual (maxSteps := 2000000) (disch := (first | omega | (simp only [SZ]; first | done | omega) | (simp only [TS] at *; omega))) only [RZ, ovw, oneC, Nat.reduceAdd, Nat.reduceMul, Nat.reduceSub, Nat.reduceEqDiff, Nat.reduceLT, ↓reduceIte, Int.reduceToNat, Nat.reduceLeDiff,  f2, f3, c21]
    refine hK _ _ ?_
    clear hK hX K c21
    rw [W_block, W_loop]
    refine Raw_loop (fun σ w2 => Below w1.heap.size w1 w2 ∧ ∃ k : Nat, k ≤ G.tiers.length ∧ σ 2 = .pointer (some ⟨w.heap.size, 0, none⟩) ∧ σ 3 = .pointer (some ⟨w.heap.size + 1, 0, none⟩) ∧ σ 222 = .int .i64 G.tiers.length ∧ σ 223 = .int .i64 k) (fun σ _ => G.tiers.length - (intOf (σ 223)).toNat) ?_ ?_
    · refine ⟨hb, 0, Nat.zero_le _, ?_⟩
      simp +contextual (maxSteps := 2000000) (disch := (first | omega | (simp only [SZ]; first | done | omega) | (simp only [TS] at *; omega))) only [RZ, ovw, oneC, Nat.reduceAdd, Nat.reduceMul, Nat.reduceSub, Nat.reduceEqDiff, Nat.reduceLT, ↓reduceIte, Int.reduceToNat, Nat.reduceLeDiff,  f2, f3]
      rfl
    clear f2 f3 hb
    rintro σ w2 ⟨hb, k, hk, f2, f3, f222, f223⟩ K hK
    simp +contextual (maxSteps := 2000000) (disch := (first | omega | (simp only [SZ]; first | done | omega) | (simp only [TS] at *; omega))) only [RZ, ovw, oneC, Nat.reduceAdd, Nat.reduceMul, Nat.reduceSub, Nat.reduceEqDiff, Nat.reduceLT, ↓reduceIte, Int.reduceToNat, Nat.reduceLeDiff,  f222, f223]
    (refine W_if rfl (fun hc => ?_) (fun hc => ?_) <;> (try simp only [TS] at hc))
    · have hkl : k < G.tiers.length := by omega
      obtain ⟨t, ht⟩ : ∃ t, G.tiers[k]? = some t := ⟨_, List.getElem?_eq_getElem hkl⟩
      have hbd : Below w1.heap.size w1 w2.drew := below_drew hb
      obtain ⟨b2, o2, rfl, hb2, hc2⟩ := (hAt1.below hbd).at_ (enc := encTi) ht
      obtain ⟨b3, o3, rfl, hb3, hc3⟩ := (hBt1.below hbd).at_ (enc := encTi) ht
      have hla : vLoad Tryz.prog 41 (.pointer (some ⟨b2, o2 + k * 6, none⟩)) w2.drew = .ok (.value (.agg (encTi t).toArray)) w2.drew := vLoad_all (by kernel_rfl) (by show _ = some 6; kernel_rfl) (fun i v hv => hc2 i v hv)
      have hlb : vLoad Tryz.prog 41 (.pointer (some ⟨b3, o3 + k * 6, none⟩)) w2.drew = .ok (.value (.agg (encTi t).toArray)) w2.drew := vLoad_all (by kernel_rfl) (by show _ = some 6; kernel_rfl) (fun i v hv => hc3 i v hv)
      have p21 : w2.drew.cell? ⟨w.heap.size, 21, none⟩ = some (.slice (some ⟨b2, o2, none⟩) G.tiers.length ct) := (r0.below hbd).cell (i := 21) rfl
      have q21 : w2.drew.cell? ⟨w.heap.size + 1, 21, none⟩ = some (.slice (some ⟨b3, o3, none⟩) G.tiers.length dt) := (r1.below hbd).cell (i := 21) rfl
      simp +contextual (maxSteps := 2000000) (disch := (first | omega | (simp only [SZ]; first | done | omega) | (simp only [TS] at *; omega))) only [RZ, ovw, oneC, Nat.reduceAdd, Nat.reduceMul, Nat.reduceSub, Nat.reduceEqDiff, Nat.reduceLT, ↓reduceIte, Int.reduceToNat, Nat.reduceLeDiff,  f2, f3, f222, f223]
      refine Raw_still MX (by kernel_rfl) ?_
      simp +contextual (maxSteps := 2000000) (disch := (first | omega | (simp only [SZ]; first | done | omega) | (simp only [TS] at *; omega))) only [RZ, ovw, oneC, Nat.reduceAdd, Nat.reduceMul, Nat.reduceSub, Nat.reduceEqDiff, Nat.reduceLT, ↓reduceIte, Int.reduceToNat, Nat.reduceLeDiff,  f2, f3, f222, f223, p21, q21, hla, hlb, ti_same]
      refine W_if_f rfl ?_
      simp +contextual (maxSteps := 2000000) (disch := (first | omega | (simp only [SZ]; first | done | omega) | (simp only [TS] at *; omega))) only [RZ, ovw, oneC, Nat.reduceAdd, Nat.reduceMul, Nat.reduceSub, Nat.reduceEqDiff, Nat.reduceLT, ↓reduceIte, Int.reduceToNat, Nat.reduceLeDiff,  f2, f3, f222, f223]
      refine hK _ _ ⟨hbd, k + 1, by omega, ?_⟩ ?_
      · simp +contextual (maxSteps := 2000000) (disch := (first | omega | (simp only [SZ]; first | done | omega) | (simp only [TS] at *; omega))) only [RZ, ovw, oneC, Nat.reduceAdd, Nat.reduceMul, Nat.reduceSub, Nat.reduceEqDiff, Nat.reduceLT, ↓reduceIte, Int.reduceToNat, Nat.reduceLeDiff,  f2, f3, f222, f223]
      · simp +contextual (maxSteps := 2000000) (disch := (first | omega | (simp only [SZ]; first | done | omega) | (simp only [TS] at *; omega))) only [RZ, ovw, oneC, Nat.reduceAdd, Nat.reduceMul, Nat.reduceSub, Nat.reduceEqDiff, Nat.reduceLT, ↓reduceIte, Int.reduceToNat, Nat.reduceLeDiff,  intOf, f223]
        omega
    · simp +contextual (maxSteps := 2000000) (disch := (first | omega | (simp only [SZ]; first | done | omega) | (simp only [TS] at *; omega))) only [RZ, ovw, oneC, Nat.reduceAdd, Nat.reduceMul, Nat.reduceSub, Nat.reduceEqDiff, Nat.reduceLT, ↓reduceIte, Int.reduceToNat, Nat.reduceLeDiff,  f2, f3, f222, f223]
      exact hb
end Go.Proofs.YtbdkggnajipdhaaGreatDoor
/- Walks: the law's few. -/
namespace Go.Proofs.YtbdkggnajipdhaaGreatDoor
open Go.RowKit
set_option maxRecDepth 100000
def fewA (a : Ad) : Bool := !(decide (200 < a.name.size) || decide (50 < a.factors.length) || decide (50 < a.serials.length))
def fewB (G : Gm) : Bool := !(decide (200 < G.name.size) || decide (50 < G.addons.length) || decide (50 < G.tiers.length)) && G.addons.all fewA
theorem lt_cast (a b : Nat) : decide ((a : Int) < (b : Int)) = decide (a < b) := by
  rw [Bool.eq_iff_iff, decide_eq_true_eq, decide_eq_true_eq]; omega
set_option maxHeartbeats 4000000 in
theorem few_any (G : Gm) (Va Vt : Value) (w : World) (hA : GmIn w Va Vt G) :
    Calls Tryz.prog 12 #[.agg (gmV G Va Vt).toArray] w fun e w' => e = .returned (.bool (fewB G)) ∧ Below w.heap.size w w' := by
  refine calls_W (l := [_]) Tryz.func12 rfl _ Tryz.ntmps12 (by simp) ?_
  obtain ⟨⟨Aa, ca, Vs, rfl, hAa, hads⟩, At, ct, rfl, hAt⟩ := hA
  generalize hrr : fewB G = rr
  unfold fewB at hrr
  have r0 := Row.new w 26 (gmV G (.slice Aa G.addons.length ca) (.slice At G.tiers.length ct))
  have b0 := below_alloc w (.cells (gmV G (.slice Aa G.addons.length ca) (.slice At G.tiers.length ct)).toArray 26)
  have z0 := World.size_alloc w (.cells (gmV G (.slice Aa G.addons.length ca) (.slice At G.tiers.length ct)).toArray 26)
  refine W_piece fun K hK hX => ?_
  simp +contextual (maxSteps := 2000000) (disch := (first | omega | (simp only [SZ]; first | done | omega) | (simp only [TS] at *; omega))) only [RZ, ovw, oneC, Nat.reduceAdd, Nat.reduceMul, Nat.reduceSub, Nat.reduceEqDiff, Nat.reduceLT, ↓reduceIte, Int.reduceToNat, Nat.reduceLeDiff]
  refine hK _ _ ?_
  clear hK hX K
  generalize w.alloc (.cells (gmV G (.slice Aa G.addons.length ca) (.slice At G.tiers.length ct)).toArray 26) = w1 at r0 b0 z0 ⊢
  have c0 : w1.cell? ⟨w.heap.size, 0, none⟩ = some (.string G.name) := r0.cell (i := 0) rfl
  have c20 : w1.cell? ⟨w.heap.size, 20, none⟩ = some (.slice Aa G.addons.length ca) := r0.cell (i := 20) rfl
  have c21 : w1.cell? ⟨w.heap.size, 21, none⟩ = some (.slice At G.tiers.length ct) := r0.cell (i := 21) rfl
  have e1 : decide ((200 : Int) < (G.name.size : Int)) = decide (200 < G.name.size) := lt_cast 200 _
  have e2 : decide ((50 : Int) < (G.addons.length : Int)) = decide (50 < G.addons.length) := lt_cast 50 _
  have e3 : decide ((50 : Int) < (G.tiers.length : Int)) = decide (50 < G.tiers.length) := lt_cast 50 _
  refine W_piece fun K hK hX => ?_
  refine W_piece fun K2 hK2 hX2 => ?_
  simp +contextual (maxSteps := 2000000) (disch := (first | omega | (simp only [SZ]; first | done | omega) | (simp only [TS] at *; omega))) only [RZ, ovw, oneC, Nat.reduceAdd, Nat.reduceMul, Nat.reduceSub, Nat.reduceEqDiff, Nat.reduceLT, ↓reduceIte, Int.reduceToNat, Nat.reduceLeDiff,  c0, c20, c21, e1, e2, e3]
  refine hK2 _ _ ?_
  clear hK2 hX2 K2
  cases hbb : (decide (200 < G.name.size) || decide (50 < G.addons.length) || decide (50 < G.tiers.length)) with
  | true =>
    rw [hbb, Bool.not_true, Bool.false_and] at hrr
    subst hrr
    refine W_if_t rfl ?_
    refine W_piece fun K2 hK2 hX2 => ?_
    simp +contextual (maxSteps := 2000000) (disch := (first | omega | (simp only [SZ]; first | done | omega) | (simp only [TS] at *; omega))) only [RZ, ovw, oneC, Nat.reduceAdd, Nat.reduceMul, Nat.reduceSub, Nat.reduceEqDiff, Nat.reduceLT, ↓reduceIte, Int.reduceToNat, Nat.reduceLeDiff]
    refine hK2 _ _ ?_
    rw [W_ret]
    refine hX _ _ _ (fun h => by cases h) ?_
    simp +contextual (maxSteps := 2000000) (disch := (first | omega | (simp only [SZ]; first | done | omega) | (simp only [TS] at *; omega))) only [RZ, ovw, oneC, Nat.reduceAdd, Nat.reduceMul, Nat.reduceSub, Nat.reduceEqDiff, Nat.reduceLT, ↓reduceIte, Int.reduceToNat, Nat.reduceLeDiff]
    exact b0
  | false =>
    rw [hbb, Bool.not_false, Bool.true_and] at hrr
    simp only [Bool.or_eq_false_iff, decide_eq_false_iff_not] at hbb
    refine W_if_f rfl ?_
    rw [W_skip]
    refine hK _ _ ?_
    clear hK hX K
    refine W_cutS (fun σ w2 => w2 = w1 ∧ G.addons.all fewA = true) ?_ ?_
    · rintro σ w2 ⟨rfl, hall⟩
      rw [hall] at hrr
      subst hrr
      simp +contextual (maxSteps := 2000000) (disch := (first | omega | (simp only [SZ]; first | done | omega) | (simp only [TS] at *; omega))) only [RZ, ovw, oneC, Nat.reduceAdd, Nat.reduceMul, Nat.reduceSub, Nat.reduceEqDiff, Nat.reduceLT, ↓reduceIte, Int.reduceToNat, Nat.reduceLeDiff]
      exact b0
    refine W_piece fun K hK hX => ?_
    simp +contextual (maxSteps := 2000000) (disch := (first | omega | (simp only [SZ]; first | done | omega) | (simp only [TS] at *; omega))) only [RZ, ovw, oneC, Nat.reduceAdd, Nat.reduceMul, Nat.reduceSub, Nat.reduceEqDiff, Nat.reduceLT, ↓reduceIte, Int.reduceToNat, Nat.reduceLeDiff,  c20]
    refine hK _ _ ?_
    clear hK hX K
    rw [W_block, W_loop]
    have hAa1 := hAa.below b0
    refine Raw_loop (fun σ w2 => w2 = w1 ∧ ∃ k : Nat, k ≤ G.addons.length ∧ (∀ j a, j < k → G.addons[j]? = some a → fewA a = true) ∧ σ 1 = .pointer (some ⟨w.heap.size, 0, none⟩) ∧ σ 22 = .int .i64 G.addons.length ∧ σ 23 = .int .i64 k) (fun σ _ => G.addons.length - (intOf (σ 23)).toNat) ?_ ?_
    · exact ⟨rfl, 0, Nat.zero_le _, fun j a hj => absurd hj (Nat.not_lt_zero _), rfl, rfl, rfl⟩
    rintro σ w2 ⟨rfl, k, hk, hal, f1, f22, f23⟩ K hK
    simp +contextual (maxSteps := 2000000) (disch := (first | omega | (simp only [SZ]; first | done | omega) | (simp only [TS] at *; omega))) only [RZ, ovw, oneC, Nat.reduceAdd, Nat.reduceMul, Nat.reduceSub, Nat.reduceEqDiff, Nat.reduceLT, ↓reduceIte, Int.reduceToNat, Nat.reduceLeDiff,  f1, f22, f23]
    (refine W_if rfl (fun hc => ?_) (fun hc => ?_) <;> (try simp only [TS] at hc))
    · have hkl : k < G.addons.length := by omega
      obtain ⟨a, ha⟩ : ∃ a, G.addons[k]? = some a := ⟨_, List.getElem?_eq_getElem hkl⟩
      obtain ⟨cv1, hcv⟩ : ∃ c, Vs[k]? = some c := ⟨_, List.getElem?_eq_getElem (by rw [hads.1]; exact hkl)⟩
      obtain ⟨vf, vs, rfl, hvf, hvs⟩ := hads.2 k _ a hcv ha
      obtain ⟨Af, cf, rfl, _⟩ := hvf
      obtain ⟨As, cS, rfl, _⟩ := hvs
      obtain ⟨b2, o2, rfl, hb2, hc2⟩ := hAa1 (by rw [hads.1]; omega)
      have l0 : w2.cell? ⟨b2, o2 + k * 6, none⟩ = some (.string a.name) := by have := hc2 k _ hcv 0 _ rfl; rw [Nat.add_zero] at this; exact this
      have l3 : w2.cell? ⟨b2, o2 + k * 6 + 3, none⟩ = some (.slice Af a.factors.length cf) := hc2 k _ hcv 3 _ rfl
      have l5 : w2.cell? ⟨b2, o2 + k * 6 + 5, none⟩ = some (.slice As a.serials.length cS) := hc2 k _ hcv 5 _ rfl
      have e1 : decide ((200 : Int) < (a.name.size : Int)) = decide (200 < a.name.size) := lt_cast 200 _
      have e2 : decide ((50 : Int) < (a.factors.length : Int)) = decide (50 < a.factors.length) := lt_cast 50 _
      have e3 : decide ((50 : Int) < (a.serials.length : Int)) = decide (50 < a.serials.length) := lt_cast 50 _
      have hfa : fewA a = !(decide (200 < a.name.size) || decide (50 < a.factors.length) || decide (50 < a.serials.length)) := rfl
      rw [W_skip, thenX_normal]
      refine W_piece fun K1 hK1 hX1 => ?_
      rw [W_block]
      refine W_piece fun K2 hK2 hX2 => ?_
      simp +contextual (maxSteps := 2000000) (disch := (first | omega | (simp only [SZ]; first | done | omega) | (simp only [TS] at *; omega))) only [RZ, ovw, oneC, Nat.reduceAdd, Nat.reduceMul, Nat.reduceSub, Nat.reduceEqDiff, Nat.reduceLT, ↓reduceIte, Int.reduceToNat, Nat.reduceLeDiff,  f1, f22, f23]
      refine hK2 _ _ ?_
      clear hK2 hX2 K2
      refine W_piece fun K2 hK2 hX2 => ?_
      simp +contextual (maxSteps := 2000000) (disch := (first | omega | (simp only [SZ]; first | done | omega) | (simp only [TS] at *; omega))) only [RZ, ovw, oneC, Nat.reduceAdd, Nat.reduceMul, Nat.reduceSub, Nat.reduceEqDiff, Nat.reduceLT, ↓reduceIte, Int.reduceToNat, Nat.reduceLeDiff,  f1, f22, f23, c20, l0, l3, l5, e1, e2, e3]
      refine hK2 _ _ ?_
      clear hK2 hX2 K2
      cases hbb : (decide (200 < a.name.size) || decide (50 < a.factors.length) || decide (50 < a.serials.length)) with
      | true =>
        have hff : fewA a = false := by rw [hfa, hbb]; rfl
        have hall : G.addons.all fewA = false := by
          rw [Bool.eq_false_iff]
          intro e
          have := List.all_eq_true.1 e a (List.mem_of_getElem? ha)
          rw [hff] at this
          cases this
        rw [hall] at hrr
        subst hrr
        refine W_if_t rfl ?_
        refine W_piece fun K2 hK2 hX2 => ?_
        simp +contextual (maxSteps := 2000000) (disch := (first | omega | (simp only [SZ]; first | done | omega) | (simp only [TS] at *; omega))) only [RZ, ovw, oneC, Nat.reduceAdd, Nat.reduceMul, Nat.reduceSub, Nat.reduceEqDiff, Nat.reduceLT, ↓reduceIte, Int.reduceToNat, Nat.reduceLeDiff]
        refine hK2 _ _ ?_
        rw [W_ret, inX_ret]
        refine hX1 _ _ _ (fun h => by cases h) ?_
        simp +contextual (maxSteps := 2000000) (disch := (first | omega | (simp only [SZ]; first | done | omega) | (simp only [TS] at *; omega))) only [RZ, ovw, oneC, Nat.reduceAdd, Nat.reduceMul, Nat.reduceSub, Nat.reduceEqDiff, Nat.reduceLT, ↓reduceIte, Int.reduceToNat, Nat.reduceLeDiff]
        exact b0
      | false =>
        refine W_if_f rfl ?_
        rw [W_skip, inX_normal]
        refine hK1 _ _ ?_
        clear hK1 hX1 K1
        simp +contextual (maxSteps := 2000000) (disch := (first | omega | (simp only [SZ]; first | done | omega) | (simp only [TS] at *; omega))) only [RZ, ovw, oneC, Nat.reduceAdd, Nat.reduceMul, Nat.reduceSub, Nat.reduceEqDiff, Nat.reduceLT, ↓reduceIte, Int.reduceToNat, Nat.reduceLeDiff,  f1, f22, f23]
        refine hK _ _ ⟨rfl, k + 1, by omega, fun j a' hj ha' => ?_, ?_⟩ ?_
        · by_cases hjk : j = k
          · subst hjk
            rw [ha] at ha'
            injection ha' with ha'
            subst ha'
            rw [hfa, hbb]; rfl
          · exact hal j a' (by omega) ha'
        · simp +contextual (maxSteps := 2000000) (disch := (first | omega | (simp only [SZ]; first | done | omega) | (simp only [TS] at *; omega))) only [RZ, ovw, oneC, Nat.reduceAdd, Nat.reduceMul, Nat.reduceSub, Nat.reduceEqDiff, Nat.reduceLT, ↓reduceIte, Int.reduceToNat, Nat.reduceLeDiff,  f1, f22, f23]
        · simp +contextual (maxSteps := 2000000) (disch := (first | omega | (simp only [SZ]; first | done | omega) | (simp only [TS] at *; omega))) only [RZ, ovw, oneC, Nat.reduceAdd, Nat.reduceMul, Nat.reduceSub, Nat.reduceEqDiff, Nat.reduceLT, ↓reduceIte, Int.reduceToNat, Nat.reduceLeDiff,  intOf, f23]
          omega
    · have hkz : k = G.addons.length := by omega
      subst hkz
      simp +contextual (maxSteps := 2000000) (disch := (first | omega | (simp only [SZ]; first | done | omega) | (simp only [TS] at *; omega))) only [RZ, ovw, oneC, Nat.reduceAdd, Nat.reduceMul, Nat.reduceSub, Nat.reduceEqDiff, Nat.reduceLT, ↓reduceIte, Int.reduceToNat, Nat.reduceLeDiff,  f1, f22, f23]
      rw [List.all_eq_true]
      intro a ha
      obtain ⟨j, hj⟩ := List.mem_iff_getElem?.1 ha
      exact hal j a (List.getElem?_eq_some_iff.1 hj).1 hj
/-- What a game that passes meets. -/
theorem few_is {G : Gm} (h : fewB G = true) : G.name.size ≤ 200 ∧ G.addons.length ≤ 50 ∧ G.tiers.length ≤ 50 ∧ ∀ a ∈ G.addons, a.name.size ≤ 200 ∧ a.factors.length ≤ 50 ∧ a.serials.length ≤ 50 := by
  unfold fewB at h
  simp only [Bool.and_eq_true, Bool.not_eq_true', Bool.or_eq_false_iff, decide_eq_false_iff_not] at h
  obtain ⟨⟨⟨h1, h2⟩, h3⟩, h4⟩ := h
  refine ⟨by omega, by omega, by omega, fun a ha => ?_⟩
  have := List.all_eq_true.1 h4 a ha
  unfold fewA at this
  simp only [Bool.not_eq_true', Bool.or_eq_false_iff, decide_eq_false_iff_not] at this
  omega
theorem few_little {G : Gm} (h : fewB G = true) : G.little := by
  obtain ⟨h1, h2, h3, h4⟩ := few_is h
  refine ⟨by omega, by omega, by omega, fun a ha => ?_⟩
  have := h4 a ha
  omega
end Go.Proofs.YtbdkggnajipdhaaGreatDoor
/- Walks: the law's awake. -/
namespace Go.Proofs.YtbdkggnajipdhaaGreatDoor
open Go.RowKit
set_option maxRecDepth 100000
theorem gmC_n {G q : Gm} (h : gmC G = gmC q) {i : Nat} (hi : i < 19) : G.n i = q.n i := by
  have := congrArg (fun x => x.2.1[i]?) h
  simp only [gmC, List.getElem?_map, List.getElem?_range hi, Option.map_some, Option.some.injEq] at this
  exact this
theorem gmV_C {G q : Gm} (h : gmC G = gmC q) (Va Vt : Value) : gmV G Va Vt = gmV q Va Vt := by
  have hn : G.name = q.name := congrArg Prod.fst h
  unfold gmV
  rw [hn, gmC_n h (i := 0) (by decide), gmC_n h (i := 1) (by decide), gmC_n h (i := 2) (by decide), gmC_n h (i := 3) (by decide), gmC_n h (i := 4) (by decide), gmC_n h (i := 5) (by decide), gmC_n h (i := 6) (by decide), gmC_n h (i := 7) (by decide), gmC_n h (i := 8) (by decide), gmC_n h (i := 9) (by decide), gmC_n h (i := 10) (by decide), gmC_n h (i := 11) (by decide), gmC_n h (i := 12) (by decide), gmC_n h (i := 13) (by decide), gmC_n h (i := 14) (by decide), gmC_n h (i := 15) (by decide), gmC_n h (i := 16) (by decide), gmC_n h (i := 17) (by decide), gmC_n h (i := 18) (by decide)]
theorem GmIn.C {w : World} {Va Vt : Value} {G q : Gm} (h : GmIn w Va Vt G) (e : gmC G = gmC q) : GmIn w Va Vt q := by
  have ha : G.addons = q.addons := congrArg (fun x => x.2.2.1) e
  have ht : G.tiers = q.tiers := congrArg (fun x => x.2.2.2) e
  unfold GmIn at h ⊢
  rw [ha, ht] at h
  exact h
theorem parse_ex {s : ByteArray} {q : Gm} {er ln : Int} (hs : s.size ≤ 1000000) {w : World} (hW : Laid w) (hw9 : 9 ≤ w.heap.size) (hp : (gmC (parseG s).1, (parseG s).2) = (gmC q, er, ln)) : Calls Tryz.prog 9 #[.string s] w fun e w' => Below w.heap.size w w' ∧
    ∃ Va Vt, e = .returned (.tuple #[.agg (gmV q Va Vt).toArray, .int .i64 er, .int .i64 ln]) ∧ GmIn w' Va Vt q := by
  simp only [Prod.mk.injEq] at hp
  obtain ⟨h1, h2⟩ := hp
  have h3 : (parseG s).2.1 = er := congrArg Prod.fst h2
  have h4 : (parseG s).2.2 = ln := congrArg Prod.snd h2
  refine (parse_any s w hs hW hw9).mono ?_
  rintro e w1 ⟨hB, Va, Vt, he, hG⟩
  rw [gmV_C h1, h3, h4] at he
  exact ⟨hB, Va, Vt, he, hG.C h1⟩
/-- A game boxed in memory. -/
theorem load_game {w : World} {b : Nat} {G : Gm} {Va Vt : Value} (h : Row w b 26 (gmV G Va Vt)) : vLoad Tryz.prog 26 (.pointer (some ⟨b, 0, none⟩)) w = .ok (.value (.agg (gmV G Va Vt).toArray)) w :=
  vLoad_all (by kernel_rfl) (by rw [gmV_len]; kernel_rfl) (fun i v hv => by rw [Nat.zero_add]; exact h.cell hv)
theorem W_gen {P : Program} {n : Nat} {c : Code} {Q : Exit → Sl → World → Prop} {σ : Sl} {w : World} (h : ∀ w2, w2 = w → W P n c Q σ w2) : W P n c Q σ w := h w rfl
set_option maxHeartbeats 4000000 in
theorem awake_any (w : World) (hW : Laid w) (hw9 : 9 ≤ w.heap.size) : Calls Tryz.prog 8 #[] w fun e w' => e = .returned (.bool true) ∧ Below w.heap.size w w' := by
  refine calls_W (l := []) Tryz.func8 rfl _ Tryz.ntmps8 (by simp) ?_
  refine W_piece fun K hK hX => ?_
  simp +contextual (maxSteps := 2000000) (disch := (first | omega | (simp only [SZ]; first | done | omega) | (simp only [TS] at *; omega))) only [RZ, ovw, oneC, Nat.reduceAdd, Nat.reduceMul, Nat.reduceSub, Nat.reduceEqDiff, Nat.reduceLT, ↓reduceIte, Int.reduceToNat, Nat.reduceLeDiff]
  refine hK _ _ ?_
  clear hK hX K
  refine W_piece fun K hK hX => ?_
  simp +contextual (maxSteps := 2000000) (disch := (first | omega | (simp only [SZ]; first | done | omega) | (simp only [TS] at *; omega))) only [RZ, ovw, oneC, Nat.reduceAdd, Nat.reduceMul, Nat.reduceSub, Nat.reduceEqDiff, Nat.reduceLT, ↓reduceIte, Int.reduceToNat, Nat.reduceLeDiff]
  refine (parse_ex (q := exT) (er := 0) (ln := 0) (by decide) hW hw9 (by kernel_rfl)).mono ?_
  rintro e w1 ⟨hB1, Va, Vt, rfl, hG1⟩
  refine ⟨_, rfl, ?_⟩
  obtain ⟨⟨Aa, ca, Vs, rfl, hAa, hads⟩, At, ct, rfl, hAt⟩ := id hG1
  have hz1 := hB1.size
  simp only [gmV]
  simp +contextual (maxSteps := 2000000) (disch := (first | omega | (simp only [SZ]; first | done | omega) | (simp only [TS] at *; omega))) only [RZ, ovw, oneC, Nat.reduceAdd, Nat.reduceMul, Nat.reduceSub, Nat.reduceEqDiff, Nat.reduceLT, ↓reduceIte, Int.reduceToNat, Nat.reduceLeDiff]
  refine hK _ _ ?_
  clear hK hX K
  refine W_gen fun w2 hw2 => ?_
  have r1 : Row w2 w1.heap.size 26 (gmV exT (.slice Aa exT.addons.length ca) (.slice At exT.tiers.length ct)) := by rw [hw2]; exact Row.new w1 _ _
  have hB2 : Below w1.heap.size w1 w2 := by rw [hw2]; exact below_alloc w1 _
  clear hw2
  have hG2 := hG1.below hB2
  have hAt2 := hAt.below hB2
  have hAa2 := hAa.below hB2
  obtain ⟨b, o, rfl, hb, hcb⟩ := hAt2.at_ (enc := encTi) (k := 1) rfl
  obtain ⟨cv1, hcv⟩ : ∃ c, Vs[0]? = some c := ⟨_, List.getElem?_eq_getElem (by rw [hads.1]; decide)⟩
  obtain ⟨vf, vs, rfl, hvf, hvs⟩ := hads.2 0 _ ⟨toBA (asc "joker"), 2, 100, [], 2, [300, 5000]⟩ hcv rfl
  obtain ⟨As, cS, rfl, hAs⟩ := hvs
  obtain ⟨b3, o3, rfl, hb3, hc3⟩ := hAa2 (by rw [hads.1]; decide)
  have l5 : w2.cell? _ = _ := hc3 0 _ hcv 5 _ rfl
  have t0 : w2.cell? _ = _ := hcb 0 _ rfl
  have c1 : w2.cell? ⟨w1.heap.size, 1, none⟩ = some (.int .i64 2) := r1.cell (i := 1) rfl
  have c9 : w2.cell? ⟨w1.heap.size, 9, none⟩ = some (.int .i64 3) := r1.cell (i := 9) rfl
  have c10 : w2.cell? ⟨w1.heap.size, 10, none⟩ = some (.int .i64 36) := r1.cell (i := 10) rfl
  have c11 : w2.cell? ⟨w1.heap.size, 11, none⟩ = some (.int .i64 1230) := r1.cell (i := 11) rfl
  have c20 : w2.cell? ⟨w1.heap.size, 20, none⟩ = some (.slice (some ⟨b3, o3, none⟩) 1 ca) := r1.cell (i := 20) rfl
  have c21 : w2.cell? ⟨w1.heap.size, 21, none⟩ = some (.slice (some ⟨b, o, none⟩) 2 ct) := r1.cell (i := 21) rfl
  refine W_piece fun K hK hX => ?_
  refine W_piece fun K2 hK2 hX2 => ?_
  have n1 : decide (((0 : Nat) : Int) + 1 = 1) = true := rfl
  have n2 : decide (((0 : Nat) : Int) + 1 + 1 = 2) = true := rfl
  simp +contextual (maxSteps := 2000000) (disch := (first | omega | (simp only [SZ]; first | done | omega) | (simp only [TS] at *; omega))) only [RZ, ovw, oneC, Nat.reduceAdd, Nat.reduceMul, Nat.reduceSub, Nat.reduceEqDiff, Nat.reduceLT, ↓reduceIte, Int.reduceToNat, Nat.reduceLeDiff,  c1, c9, c10, c11, c20, c21, l5, t0, n1, n2]
  have hbl := below_alloc w2 (.cells #[.int .i64 300, .int .i64 5000] 3)
  have hNew : Arr (w2.alloc (.cells #[.int .i64 300, .int .i64 5000] 3)) (some ⟨w2.heap.size, 0, none⟩) 1 (([300, 5000] : List Int).map fun n => [Value.int .i64 n]) :=
    arr_row (Vs := ([300, 5000] : List Int).map fun n => [Value.int .i64 n]) (Row.new w2 3 [.int .i64 300, .int .i64 5000]) (by simp)
  refine (ints_any [300, 5000] As (some ⟨w2.heap.size, 0, none⟩) cS 2 _ ((hAs.below hB2).below hbl) hNew (by decide)).mono ?_
  rintro e w3 ⟨rfl, hB3⟩
  refine ⟨_, rfl, ?_⟩
  have hB23 : Below w2.heap.size w2 w3 := hbl.trans (hB3.mono hbl.size)
  try simp +contextual (maxSteps := 2000000) (disch := (first | omega | (simp only [SZ]; first | done | omega) | (simp only [TS] at *; omega))) only [RZ, ovw, oneC, Nat.reduceAdd, Nat.reduceMul, Nat.reduceSub, Nat.reduceEqDiff, Nat.reduceLT, ↓reduceIte, Int.reduceToNat, Nat.reduceLeDiff]
  refine hK2 _ _ ?_
  clear hK2 hX2 K2
  refine W_if_f (by rfl) ?_
  rw [W_skip]
  refine hK _ _ ?_
  clear hK hX K
  have hG3 := hG2.below hB23
  have r3 := r1.below hB23
  have hF3 : Below w.heap.size w w3 := hB1.trans ((hB2.trans (hB23.mono hB2.size)).mono hz1)
  have hW3 := hW.below hF3 hW.size
  have hz3 := hF3.size
  refine W_piece fun K hK hX => ?_
  simp +contextual (maxSteps := 2000000) (disch := (first | omega | (simp only [SZ]; first | done | omega) | (simp only [TS] at *; omega))) only [RZ, ovw, oneC, Nat.reduceAdd, Nat.reduceMul, Nat.reduceSub, Nat.reduceEqDiff, Nat.reduceLT, ↓reduceIte, Int.reduceToNat, Nat.reduceLeDiff]
  refine (parse_ex (q := noGm) (er := 6) (ln := 2) (by decide) hW3 (by omega) (by kernel_rfl)).mono ?_
  rintro e w4 ⟨hB4, Va4, Vt4, rfl, hG4⟩
  refine ⟨_, rfl, ?_⟩
  obtain ⟨⟨Aa4, ca4, Vs4, rfl, _⟩, At4, ct4, rfl, _⟩ := id hG4
  simp only [gmV]
  simp +contextual (maxSteps := 2000000) (disch := (first | omega | (simp only [SZ]; first | done | omega) | (simp only [TS] at *; omega))) only [RZ, ovw, oneC, Nat.reduceAdd, Nat.reduceMul, Nat.reduceSub, Nat.reduceEqDiff, Nat.reduceLT, ↓reduceIte, Int.reduceToNat, Nat.reduceLeDiff]
  refine hK _ _ ?_
  clear hK hX K
  refine W_gen fun w5 hw5 => ?_
  have hB5 : Below w4.heap.size w4 w5 := by rw [hw5]; exact below_alloc w4 _
  clear hw5
  have hB35 : Below w3.heap.size w3 w5 := hB4.trans (hB5.mono hB4.size)
  have hG5 := hG3.below hB35
  have r5 := r3.below hB35
  have hF5 := hF3.trans (hB35.mono hF3.size)
  have hl5 : vLoad Tryz.prog 26 (.pointer (some ⟨w1.heap.size, 0, none⟩)) w5 = .ok (.value (.agg (gmV exT (.slice (some ⟨b3, o3, none⟩) exT.addons.length ca) (.slice (some ⟨b, o, none⟩) exT.tiers.length ct)).toArray)) w5 :=
    vLoad_all (by kernel_rfl) (by rw [gmV_len]; kernel_rfl) (fun i v hv => by rw [Nat.zero_add]; exact r5.cell hv)
  refine W_piece fun K hK hX => ?_
  simp +contextual (maxSteps := 2000000) (disch := (first | omega | (simp only [SZ]; first | done | omega) | (simp only [TS] at *; omega))) only [RZ, ovw, oneC, Nat.reduceAdd, Nat.reduceMul, Nat.reduceSub, Nat.reduceEqDiff, Nat.reduceLT, ↓reduceIte, Int.reduceToNat, Nat.reduceLeDiff,  hl5]
  refine (print_any exT _ _ w5 (hW.below hF5 hW.size) (by have := hF5.size; omega) hG5 (by unfold Gm.little; decide)).mono ?_
  rintro e w6 ⟨rfl, hB6⟩
  refine ⟨_, rfl, ?_⟩
  try simp +contextual (maxSteps := 2000000) (disch := (first | omega | (simp only [SZ]; first | done | omega) | (simp only [TS] at *; omega))) only [RZ, ovw, oneC, Nat.reduceAdd, Nat.reduceMul, Nat.reduceSub, Nat.reduceEqDiff, Nat.reduceLT, ↓reduceIte, Int.reduceToNat, Nat.reduceLeDiff]
  refine hK _ _ ?_
  clear hK hX K
  simp +contextual (maxSteps := 2000000) (disch := (first | omega | (simp only [SZ]; first | done | omega) | (simp only [TS] at *; omega))) only [RZ, ovw, oneC, Nat.reduceAdd, Nat.reduceMul, Nat.reduceSub, Nat.reduceEqDiff, Nat.reduceLT, ↓reduceIte, Int.reduceToNat, Nat.reduceLeDiff]
  refine ⟨congrArg (fun b => Ending.returned (.bool b)) (decide_eq_true (by decide +kernel)), hF5.trans (hB6.mono hF5.size)⟩
end Go.Proofs.YtbdkggnajipdhaaGreatDoor
