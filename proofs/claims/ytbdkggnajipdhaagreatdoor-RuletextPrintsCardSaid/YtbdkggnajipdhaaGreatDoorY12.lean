/- Texts laid one behind the other: PaJ, RtS, PaK, GmArgs, Byt, PbA. Each says at its head what it proves. -/
import Derived.Test.YtbdkggnajipdhaaGreatDoorY11
import Derived.Tactics
import Derived.Tactics2
import Derived.WideLaws
import Derived.Laws.BytesString
import Derived.Lib.AppendIntMem
import Derived.Lib.UnsafeStr
set_option linter.unusedSimpArgs false
/- Walks: ruletext.Parse's deferred closure. -/
namespace Go.Proofs.YtbdkggnajipdhaaGreatDoor
open Go.RowKit
set_option maxRecDepth 100000
theorem wpS_of_WX {P : Program} {n : Nat} {c : Code} {Q : Exit → Sl → World → Prop} {QS : Exit → Act → List Frame → World → Prop} {σ : Sl} {a : Act} {cs : List Frame} {w : World} (hf : FrD [] n σ a) (h : WX [] P n c Q σ w) (hQ : ∀ e σ a w, FrD [] n σ a → Q e σ w → QS e a cs w) : c.wpS P QS a cs w :=
  wpS_of_wp (wp_mono (WX_sound _ _ _ _ h a hf) fun e a' w' ⟨σ', hf', hq⟩ => hQ e σ' a' w' hf' hq)
/-- Values stored one behind the other. -/
def stW (g : Nat) : Nat → List Value → World → World
  | _, [], w => w
  | i, v :: r, w => stW g (i + 1) r (w.setCell ⟨g, i, none⟩ v)
theorem stW_row {g : Nat} {T : TypeId} : ∀ (vs : List Value) (i : Nat) (w : World) (cs : List Value), Row w g T cs → i + vs.length = cs.length → Row (stW g i vs w) g T (cs.take i ++ vs)
  | [], i, w, cs, h, hl => by
    rw [List.append_nil, List.take_of_length_le (by simp at hl; omega)]; exact h
  | v :: r, i, w, cs, h, hl => by
    rw [List.length_cons] at hl
    have h1 := stW_row r (i + 1) (w.setCell ⟨g, i, none⟩ v) (cs.set i v) (h.set_ (by omega) v) (by rw [List.length_set]; omega)
    have e : (cs.set i v).take (i + 1) = cs.take i ++ [v] := by
      rw [List.take_add_one, List.take_set_of_le (Nat.le_refl _), List.getElem?_set_self (by omega)]
      rfl
    rw [e, List.append_assoc] at h1
    exact h1
theorem stW_kept {X : List Nat} {g : Nat} (hg : g ∈ X) : ∀ (vs : List Value) (i : Nat) (w0 w : World), Kept X w0 w → Kept X w0 (stW g i vs w)
  | [], _, _, _, h => h
  | v :: r, i, w0, w, h => stW_kept hg r (i + 1) w0 _ (h.setCell (p := ⟨g, i, none⟩) hg v)
def vTA (P : Program) (u : Value) (T a : TypeId) (ok : Bool) (w : World) : Result Next := (do pure (.value (← Instr.typeAssert u T a ok)) : Sem Next).run P w
theorem r_ta (P : Program) (T a ty : TypeId) (x : Operand) (ok : Bool) (σ : Sl) (w : World) : run1 P (.typeAssert x T a ok) ty σ w = vTA P (ev σ x) T a ok w := nr rfl
def zeroGm : List Value := gmV noGm (.slice none 0 0) (.slice none 0 0)
set_option maxHeartbeats 1000000 in
theorem clo_pan {g1 g2 g3 : Nat} {en ln e0 l0 : Int} {w : World} {cs1 : List Value} (h1 : Row w g1 26 cs1) (hl1 : cs1.length = 22) (h2 : Row w g2 27 [.int .i64 e0]) (h3 : Row w g3 3 [.int .i64 l0]) (h12 : g1 ≠ g2) (h13 : g1 ≠ g3) (h23 : g2 ≠ g3) :
    CallsD Tryz.prog 21 #[.pointer (some ⟨g1, 0, none⟩), .pointer (some ⟨g2, 0, none⟩), .pointer (some ⟨g3, 0, none⟩)] (.panicking [{ v := failV en ln, recovered := false }]) w fun e u' w' =>
      e = .returned (.tuple #[]) ∧ u' = .panicking [{ v := failV en ln, recovered := true }] ∧ Row w' g1 26 zeroGm ∧ Row w' g2 27 [.int .i64 en] ∧ Row w' g3 3 [.int .i64 ln] ∧ Kept [g1, g2, g3] w w' := by
  refine callsD_of_wpS Tryz.func21 rfl fun c₀ cs hu => ?_
  apply wpS_seq
  apply wpS_region
  simp [wpOpsS, go_sem, recoverD, hu, Tryz.ntmps21, Exit.thenS, failV]
  have ne1 : ∀ (x y : Operand) (w : World), vBin Tryz.prog .neq 20 x y (.iface 51 (.agg #[.int .i64 en, .int .i64 ln])) .nilIface w = .ok (.value (.bool true)) w := fun x y w => by
    simp [vBin, eqGuard, run_neq_held_nil w 20 51 _ Tryz.underlying20]
  have ta1 : ∀ (w : World), vTA Tryz.prog (.iface 51 (.agg #[.int .i64 en, .int .i64 ln])) 20 51 true w = .ok (.value (.tuple #[.agg #[.int .i64 en, .int .i64 ln], .bool true])) w := fun w => by
    simp [vTA, Instr.typeAssert, Sem.run_bind, run_underlying Tryz.underlying51 w]
  refine wpS_of_WX (n := 22) (Q := fun e σ w' => (e = .normal) ∧ Row w' g1 26 zeroGm ∧ Row w' g2 27 [.int .i64 en] ∧ Row w' g3 3 [.int .i64 ln] ∧ Kept [g1, g2, g3] w w') ⟨by simp, rfl, fun i => rfl⟩ ?_ ?_
  · generalize hσ : (fun i => Array.getD _ i undef) = σ
    have s0 : σ 0 = .pointer (some ⟨g1, 0, none⟩) := by rw [← hσ]; simp [Array.getD_eq_getD_getElem?, Array.getElem?_append, Array.getElem?_setIfInBounds, Array.getElem?_replicate]
    have s1 : σ 1 = .pointer (some ⟨g2, 0, none⟩) := by rw [← hσ]; simp [Array.getD_eq_getD_getElem?, Array.getElem?_append, Array.getElem?_setIfInBounds, Array.getElem?_replicate]
    have s2 : σ 2 = .pointer (some ⟨g3, 0, none⟩) := by rw [← hσ]; simp [Array.getD_eq_getD_getElem?, Array.getElem?_append, Array.getElem?_setIfInBounds, Array.getElem?_replicate]
    have s3 : σ 3 = .iface 51 (.agg #[.int .i64 en, .int .i64 ln]) := by rw [← hσ]; simp [Array.getD_eq_getD_getElem?, Array.getElem?_append, Array.getElem?_setIfInBounds, Array.getElem?_replicate]
    clear hσ
    refine WX_piece fun K hK hX => ?_
    simp +contextual (maxSteps := 2000000) (disch := (first | omega | (simp only [SZ]; first | done | omega) | (simp only [TS] at *; omega))) only [PZ, RZ, ovw, oneC, Nat.reduceAdd, Nat.reduceMul, Nat.reduceSub, Nat.reduceEqDiff, Nat.reduceLT, ↓reduceIte, Int.reduceToNat, Nat.reduceLeDiff,  s0, s1, s2, s3, ne1]
    refine hK _ _ ?_
    clear hK hX K
    refine WX_if_t rfl ?_
    refine WX_piece fun K hK hX => ?_
    simp +contextual (maxSteps := 2000000) (disch := (first | omega | (simp only [SZ]; first | done | omega) | (simp only [TS] at *; omega))) only [PZ, RZ, ovw, oneC, Nat.reduceAdd, Nat.reduceMul, Nat.reduceSub, Nat.reduceEqDiff, Nat.reduceLT, ↓reduceIte, Int.reduceToNat, Nat.reduceLeDiff,  s0, s1, s2, s3, r_ta, ta1]
    have bx := Row.new w 51 [Value.int .i64 en, .int .i64 ln]
    have hB := below_alloc w (.cells #[Value.int .i64 en, .int .i64 ln] 51)
    replace bx : Row (w.alloc (.cells #[Value.int .i64 en, .int .i64 ln] 51)) _ _ _ := bx
    have k1 : Kept [g1, g2, g3] w _ := Kept.of_below hB
    have b1 := h1.below hB
    have b2 := h2.below hB
    have b3 := h3.below hB
    have l1 := h1.lt
    have l2 := h2.lt
    have l3 := h3.lt
    generalize hgb : w.heap.size = gb at *
    generalize w.alloc (.cells #[Value.int .i64 en, .int .i64 ln] 51) = w1 at *
    refine hK _ _ ?_
    clear hK hX K
    refine WX_piece fun K hK hX => ?_
    refine WX_piece fun K2 hK2 hX2 => ?_
    simp +contextual (maxSteps := 2000000) (disch := (first | omega | (simp only [SZ]; first | done | omega) | (simp only [TS] at *; omega))) only [PZ, RZ, ovw, oneC, Nat.reduceAdd, Nat.reduceMul, Nat.reduceSub, Nat.reduceEqDiff, Nat.reduceLT, ↓reduceIte, Int.reduceToNat, Nat.reduceLeDiff,  s0, s1, s2, s3]
    refine hK2 _ _ ?_
    clear hK2 hX2 K2
    refine WX_if_f rfl ?_
    simp +contextual (maxSteps := 2000000) (disch := (first | omega | (simp only [SZ]; first | done | omega) | (simp only [TS] at *; omega))) only [PZ, RZ, ovw, oneC, Nat.reduceAdd, Nat.reduceMul, Nat.reduceSub, Nat.reduceEqDiff, Nat.reduceLT, ↓reduceIte, Int.reduceToNat, Nat.reduceLeDiff,  s0, s1, s2, s3]
    refine hK _ _ ?_
    clear hK hX K
    try simp +contextual (maxSteps := 2000000) (disch := (first | omega | (simp only [SZ]; first | done | omega) | (simp only [TS] at *; omega))) only [PZ, RZ, ovw, oneC, Nat.reduceAdd, Nat.reduceMul, Nat.reduceSub, Nat.reduceEqDiff, Nat.reduceLT, ↓reduceIte, Int.reduceToNat, Nat.reduceLeDiff,  s0, s1, s2, s3]
    refine RawD_of (Raw_rcS (τ := ?ta) (fun w' => Row w' gb 51 [Value.int .i64 en, .int .i64 ln]) [0, 1, 2, 3, 4] [5, 6, 7] MX rfl (by kernel_rfl) (by kernel_rfl) (by kernel_rfl) (fun _ _ _ h => Exit.noConfusion h.1) bx (fun w7 h7 => ?_) ?_); rotate_left
    · have x0 := h7.cell (i := 0) rfl
      have x1 := h7.cell (i := 1) rfl
      simp only [opsL_cons, opsL_nil, List.getElem?_toArray, List.getElem?_cons_zero, List.getElem?_cons_succ, optL_some]
      simp +contextual (maxSteps := 2000000) (disch := (first | omega | (simp only [SZ]; first | done | omega) | (simp only [TS] at *; omega))) only [RZ, ovw, oneC, Nat.reduceAdd, Nat.reduceMul, Nat.reduceSub, Nat.reduceEqDiff, Nat.reduceLT, ↓reduceIte, Int.reduceToNat, Nat.reduceLeDiff,  s0, s1, s2, x0, x1]
      exact rfl
    replace b1 : Row w1.drew g1 26 cs1 := b1
    replace b2 : Row w1.drew g2 27 _ := b2
    replace b3 : Row w1.drew g3 3 _ := b3
    replace bx : Row w1.drew gb 51 _ := bx
    replace k1 : Kept [g1, g2, g3] w w1.drew := k1.drew
    generalize w1.drew = w2 at *
    have hy : ∀ i, i < 22 → ∃ v, w2.cell? ⟨g1, i, none⟩ = some v := fun i hi => ⟨_, b1.cell (List.getElem?_eq_getElem (show i < cs1.length by omega))⟩
    obtain ⟨v0, y0⟩ := hy 0 (by omega)
    have z0 := b1.frozen 0
    obtain ⟨v1, y1⟩ := hy 1 (by omega)
    have z1 := b1.frozen 1
    obtain ⟨v2, y2⟩ := hy 2 (by omega)
    have z2 := b1.frozen 2
    obtain ⟨v3, y3⟩ := hy 3 (by omega)
    have z3 := b1.frozen 3
    obtain ⟨v4, y4⟩ := hy 4 (by omega)
    have z4 := b1.frozen 4
    obtain ⟨v5, y5⟩ := hy 5 (by omega)
    have z5 := b1.frozen 5
    obtain ⟨v6, y6⟩ := hy 6 (by omega)
    have z6 := b1.frozen 6
    obtain ⟨v7, y7⟩ := hy 7 (by omega)
    have z7 := b1.frozen 7
    obtain ⟨v8, y8⟩ := hy 8 (by omega)
    have z8 := b1.frozen 8
    obtain ⟨v9, y9⟩ := hy 9 (by omega)
    have z9 := b1.frozen 9
    obtain ⟨v10, y10⟩ := hy 10 (by omega)
    have z10 := b1.frozen 10
    obtain ⟨v11, y11⟩ := hy 11 (by omega)
    have z11 := b1.frozen 11
    obtain ⟨v12, y12⟩ := hy 12 (by omega)
    have z12 := b1.frozen 12
    obtain ⟨v13, y13⟩ := hy 13 (by omega)
    have z13 := b1.frozen 13
    obtain ⟨v14, y14⟩ := hy 14 (by omega)
    have z14 := b1.frozen 14
    obtain ⟨v15, y15⟩ := hy 15 (by omega)
    have z15 := b1.frozen 15
    obtain ⟨v16, y16⟩ := hy 16 (by omega)
    have z16 := b1.frozen 16
    obtain ⟨v17, y17⟩ := hy 17 (by omega)
    have z17 := b1.frozen 17
    obtain ⟨v18, y18⟩ := hy 18 (by omega)
    have z18 := b1.frozen 18
    obtain ⟨v19, y19⟩ := hy 19 (by omega)
    have z19 := b1.frozen 19
    obtain ⟨v20, y20⟩ := hy 20 (by omega)
    have z20 := b1.frozen 20
    obtain ⟨v21, y21⟩ := hy 21 (by omega)
    have z21 := b1.frozen 21
    have c2 := b2.cell (i := 0) rfl
    have c2z := b2.frozen 0
    have c3 := b3.cell (i := 0) rfl
    have c3z := b3.frozen 0
    simp only [opsL_cons, opsL_nil, List.getElem?_toArray, List.getElem?_cons_zero, List.getElem?_cons_succ, optL_some]
    simp +contextual (maxSteps := 2000000) (disch := (first | omega | (simp only [SZ]; first | done | omega) | (simp only [TS] at *; omega))) only [RZ, ovw, oneC, Nat.reduceAdd, Nat.reduceMul, Nat.reduceSub, Nat.reduceEqDiff, Nat.reduceLT, ↓reduceIte, Int.reduceToNat, Nat.reduceLeDiff,  EC_op, EC_nil, s0, s1, s2, c2, c2z, c3, c3z, y0, z0, y1, z1, y2, z2, y3, z3, y4, z4, y5, z5, y6, z6, y7, z7, y8, z8, y9, z9, y10, z10, y11, z11, y12, z12, y13, z13, y14, z14, y15, z15, y16, z16, y17, z17, y18, z18, y19, z19, y20, z20, y21, z21]
    have R1 := stW_row (g := g1) (T := 26) [Value.string ByteArray.empty, .int .i64 0, .int .i64 0, .int .i64 0, .int .i64 0, .int .i64 0, .int .i64 0, .int .i64 0, .int .i64 0, .int .i64 0, .int .i64 0, .int .i64 0, .int .i64 0, .int .i64 0, .int .i64 0, .int .i64 0, .int .i64 0, .int .i64 0, .int .i64 0, .int .i64 0, .slice none 0 0, .slice none 0 0] 0 w2 cs1 b1 (by rw [hl1]; rfl)
    have kA := stW_kept (X := [g1]) (g := g1) (by simp) [Value.string ByteArray.empty, .int .i64 0, .int .i64 0, .int .i64 0, .int .i64 0, .int .i64 0, .int .i64 0, .int .i64 0, .int .i64 0, .int .i64 0, .int .i64 0, .int .i64 0, .int .i64 0, .int .i64 0, .int .i64 0, .int .i64 0, .int .i64 0, .int .i64 0, .int .i64 0, .int .i64 0, .slice none 0 0, .slice none 0 0] 0 w2 w2 (Kept.refl _ _)
    simp only [stW, Nat.reduceAdd, List.take_zero, List.nil_append] at R1 kA
    replace b2 := b2.kept kA (by simpa using Ne.symm h12)
    replace b3 := b3.kept kA (by simpa using Ne.symm h13)
    replace bx := bx.kept kA (by simp; omega)
    replace k1 := k1.trans (kA.less (Y := [g1, g2, g3]) fun k hk _ => by simp at hk ⊢; exact .inl hk)
    clear kA
    generalize w2.setCell ⟨g1, 0, none⟩ _ = u0 at *
    have R2 := b2.set_ (i := 0) (by simp) (.int .i64 en)
    have R3 := (b3.far (p := ⟨g2, 0, none⟩) (by exact Ne.symm h23) (.int .i64 en)).set_ (i := 0) (by simp) (.int .i64 ln)
    refine ⟨bx, bx.far (p := ⟨g2, 0, none⟩) (by show gb ≠ g2; omega) _, (bx.far (p := ⟨g2, 0, none⟩) (by show gb ≠ g2; omega) _).far (p := ⟨g3, 0, none⟩) (by show gb ≠ g3; omega) _, ?_⟩
    exact ⟨(R1.far (p := ⟨g2, 0, none⟩) (by exact h12) _).far (p := ⟨g3, 0, none⟩) (by exact h13) _, R2.far (p := ⟨g3, 0, none⟩) (by exact h23) _, R3, (k1.setCell (p := ⟨g2, 0, none⟩) (by simp) _).setCell (p := ⟨g3, 0, none⟩) (by simp) _⟩
  · rintro e σ a w' hf' ⟨rfl, q1, q2, q3, q4⟩
    have hres : resE Tryz.prog Tryz.f21.results σ w' (fun v => v = .tuple #[]) := by
      simp +contextual (maxSteps := 2000000) (disch := (first | omega | (simp only [SZ]; first | done | omega) | (simp only [TS] at *; omega))) only [RZ, ovw, oneC, Nat.reduceAdd, Nat.reduceMul, Nat.reduceSub, Nat.reduceEqDiff, Nat.reduceLT, ↓reduceIte, Int.reduceToNat, Nat.reduceLeDiff]
    obtain ⟨v, hv, rfl⟩ := resE_is hres (funext hf'.at_)
    exact ⟨hf'.defers, _, rfl, _, hv, rfl, rfl, q1, q2, q3, q4⟩
theorem clo_ret (g1 g2 g3 : Nat) (w : World) :
    CallsD Tryz.prog 21 #[.pointer (some ⟨g1, 0, none⟩), .pointer (some ⟨g2, 0, none⟩), .pointer (some ⟨g3, 0, none⟩)] .returning w fun e u' w' => e = .returned (.tuple #[]) ∧ u' = .returning ∧ w' = w := by
  refine callsD_of_wpS Tryz.func21 rfl fun c₀ cs hu => ?_
  apply wpS_seq
  apply wpS_region
  simp [wpOpsS, go_sem, recoverD, hu, Tryz.ntmps21, Exit.thenS]
  have ne1 : ∀ (x y : Operand) (w : World), vBin Tryz.prog .neq 20 x (.const .nilIface) .nilIface .nilIface w = .ok (.value (.bool false)) w := fun x y w => by
    simp [vBin, eqGuard_nil_constR, run_neq_nil_nil w 20 Tryz.underlying20]
  refine wpS_of_WX (n := 22) (Q := fun e σ w' => (e = .normal) ∧ w' = w) ⟨by simp, rfl, fun i => rfl⟩ ?_ ?_
  · generalize hσ : (fun i => Array.getD _ i undef) = σ
    have s3 : σ 3 = .nilIface := by rw [← hσ]; simp [Array.getD_eq_getD_getElem?, Array.getElem?_append, Array.getElem?_setIfInBounds, Array.getElem?_replicate]
    clear hσ
    refine WX_piece fun K hK hX => ?_
    simp +contextual (maxSteps := 2000000) (disch := (first | omega | (simp only [SZ]; first | done | omega) | (simp only [TS] at *; omega))) only [PZ, RZ, ovw, oneC, Nat.reduceAdd, Nat.reduceMul, Nat.reduceSub, Nat.reduceEqDiff, Nat.reduceLT, ↓reduceIte, Int.reduceToNat, Nat.reduceLeDiff,  s3, ne1]
    refine hK _ _ ?_
    clear hK hX K
    refine WX_if_f rfl ?_
    simp +contextual (maxSteps := 2000000) (disch := (first | omega | (simp only [SZ]; first | done | omega) | (simp only [TS] at *; omega))) only [PZ, RZ, ovw, oneC, Nat.reduceAdd, Nat.reduceMul, Nat.reduceSub, Nat.reduceEqDiff, Nat.reduceLT, ↓reduceIte, Int.reduceToNat, Nat.reduceLeDiff]
  · rintro e σ a w' hf' ⟨rfl, rfl⟩
    have hres : resE Tryz.prog Tryz.f21.results σ w' (fun v => v = .tuple #[]) := by
      simp +contextual (maxSteps := 2000000) (disch := (first | omega | (simp only [SZ]; first | done | omega) | (simp only [TS] at *; omega))) only [RZ, ovw, oneC, Nat.reduceAdd, Nat.reduceMul, Nat.reduceSub, Nat.reduceEqDiff, Nat.reduceLT, ↓reduceIte, Int.reduceToNat, Nat.reduceLeDiff]
    obtain ⟨v, hv, rfl⟩ := resE_is hres (funext hf'.at_)
    refine ⟨hf'.defers, .returning, ?_, _, hv, rfl, rfl, rfl⟩
    rw [← hu]
end Go.Proofs.YtbdkggnajipdhaaGreatDoor
/- Plain: chapter 11, what the tokens of a text are. -/
namespace Go.Proofs.YtbdkggnajipdhaaGreatDoor
open Go.RowKit
theorem sum_ge : ∀ (T : List (Nat × Nat × Nat)), (∀ t ∈ T, 1 ≤ t.2.2) → T.length ≤ (T.map (·.2.2)).sum
  | [], _ => Nat.le_refl _
  | t :: T, h => by
    have := sum_ge T fun x hx => h x (by simp [hx])
    have := h t (by simp)
    rw [List.map_cons, List.sum_cons, List.length_cons]
    omega
theorem scan_off {s : ByteArray} (h : (scanE s).1 ≠ 0) : 0 ≤ (scanE s).2.1 ∧ (scanE s).2.1 ≤ s.size := by
  unfold scanE at h ⊢
  split
  · exact ⟨Int.le_refl _, Int.natCast_nonneg _⟩
  · rename_i hs
    rw [if_neg hs] at h
    cases hl : lexR 0 (bs s) with
    | error e =>
      have := lexR_err _ _ 0 e (Nat.le_refl _) hl
      rw [bs_len] at this
      dsimp only
      omega
    | ok T => rw [hl] at h; exact absurd rfl h
theorem num_good2 {t : List Nat} (h : good 2 t) : (numE t).2 = 0 ∧ 0 ≤ (numE t).1 ∧ (numE t).1 ≤ 999999999999999999 := by
  rcases h with ⟨h, _⟩ | ⟨_, ⟨c, r, rfl, hb⟩, hall⟩ | ⟨h, _⟩
  · cases h
  · have hc := hall c (by simp)
    unfold digitB at hc
    simp only [Bool.and_eq_true, decide_eq_true_eq] at hc
    unfold badN at hb
    simp only [Bool.or_eq_false_iff, decide_eq_false_iff_not, Bool.and_eq_false_iff, beq_eq_false_iff_ne] at hb
    have hn : negB (c :: r) = false := by
      unfold negB
      split
      · rename_i e; injection e with e _; omega
      · rfl
    have hm : magL (c :: r) = c :: r := by unfold magL; rw [hn]; rfl
    have hd : decOK (c :: r) = true := by
      show ((c != 48 || r.isEmpty) && (c :: r).all digitB) = true
      rw [List.all_eq_true.2 hall, Bool.and_true]
      rcases hb.2 with h1 | h1
      · cases r with
        | nil => simp
        | cons d r => simp at h1
      · simp [h1]
    have hv : valD 0 (c :: r) < 1000000000000000000 := by
      have h1 := valD_bd (c :: r) 0 hall
      have h2 : 10 ^ (c :: r).length ≤ 10 ^ 18 := Nat.pow_le_pow_right (by decide) (by omega)
      have h3 : (10 : Nat) ^ 18 = 1000000000000000000 := by decide
      omega
    unfold numE
    rw [hm, hn, hd, if_neg (by simp), if_neg (by simp), if_neg (by omega)]
    dsimp only
    omega
  · cases h
theorem scan_tokOk {s : ByteArray} (h : (scanE s).1 = 0) : TokOk (scanE s).2.2 ∧ 0 < (scanE s).2.2.length := by
  unfold scanE at h ⊢
  split at h
  · cases h
  · rename_i hs
    rw [if_neg hs]
    cases hl : lexR 0 (bs s) with
    | error e => rw [hl] at h; cases h
    | ok T =>
      have hg := lexR_good _ _ 0 T (Nat.le_refl _) hl
      have hsum := lexR_sum _ _ 0 T (Nat.le_refl _) hl
      have hge := sum_ge T fun t ht => (hg t ht).2.1
      rw [bs_len] at hsum
      have key : ∀ x ∈ T, good x.1 (bs (tokOf s x).text) := fun x hx => by
        have := (hg x hx).2.2.2
        show good x.1 (bs (s.extract x.2.1 (x.2.1 + x.2.2)))
        rw [bs_extract, Nat.add_sub_cancel_left]
        simpa using this
      have hline : ∀ l : List Nat, l.length ≤ s.size → 0 ≤ (place l).1 ∧ (place l).1 ≤ 1000000 := fun l hl => by
        have := place_bd l
        omega
      refine ⟨⟨?_, ?_, ?_, ?_, ?_, ?_, ?_⟩, by simp⟩
      · simp; omega
      · intro t ht
        rcases List.mem_append.1 ht with ht | ht
        · obtain ⟨x, hx, rfl⟩ := List.mem_map.1 ht
          have := (hg x hx).2.2.1
          rw [bs_len] at this
          unfold tokOf
          rw [ByteArray.size_extract]
          omega
        · rw [List.mem_singleton.1 ht]
          show ByteArray.size ByteArray.empty ≤ _
          rw [ByteArray.size_empty]
          omega
      · intro t ht hk
        rcases List.mem_append.1 ht with ht | ht
        · obtain ⟨x, hx, rfl⟩ := List.mem_map.1 ht
          have hk' : (x.1 : Int) = 2 := hk
          have hx2 : x.1 = 2 := by omega
          have := key x hx
          rw [hx2] at this
          exact num_good2 this
        · rw [List.mem_singleton.1 ht] at hk
          cases hk
      · intro a t ha hk
        rw [List.length_append, List.length_map, List.length_singleton]
        rw [List.getElem?_append, List.length_map] at ha
        split at ha
        · omega
        · rename_i hn
          cases hd : a - T.length with
          | zero =>
            rw [hd] at ha
            simp only [List.getElem?_cons_zero, Option.some.injEq] at ha
            subst ha
            exact absurd rfl hk
          | succ n => rw [hd] at ha; simp at ha
      · intro a t ha hk
        rw [List.length_append, List.length_map, List.length_singleton]
        rw [List.getElem?_append, List.length_map] at ha
        split at ha
        · rename_i hn
          rw [List.getElem?_map] at ha
          obtain ⟨x, hx, rfl⟩ := Option.map_eq_some_iff.1 ha
          have := (good_kind (key x (List.mem_of_getElem? hx))).1
          have hk' : (x.1 : Int) = 0 := hk
          omega
        · rename_i hn
          cases hd : a - T.length with
          | zero => omega
          | succ n => rw [hd] at ha; simp at ha
      · intro t ht
        rcases List.mem_append.1 ht with ht | ht
        · obtain ⟨x, hx, rfl⟩ := List.mem_map.1 ht
          have := (good_kind (key x hx)).2
          show 0 ≤ (x.1 : Int) ∧ (x.1 : Int) ≤ 3
          omega
        · rw [List.mem_singleton.1 ht]
          show (0 : Int) ≤ 0 ∧ (0 : Int) ≤ 3
          omega
      · intro t ht
        rcases List.mem_append.1 ht with ht | ht
        · obtain ⟨x, hx, rfl⟩ := List.mem_map.1 ht
          refine hline _ ?_
          rw [List.length_take, bs_len]
          omega
        · rw [List.mem_singleton.1 ht]
          exact hline _ (by rw [bs_len]; omega)
end Go.Proofs.YtbdkggnajipdhaaGreatDoor
/- Walks: ruletext.Parse. -/
namespace Go.Proofs.YtbdkggnajipdhaaGreatDoor
open Go.RowKit
set_option maxRecDepth 100000
/-- Code in a frame that has deferred calls. -/
def WpD (ds : List Deferred) (P : Program) (n : Nat) (c : Code) (QQ : Exit → Act → World → Prop) (σ : Sl) (w : World) : Prop := ∀ a, FrD ds n σ a → c.wp P QQ a w
theorem WpD_seq {ds : List Deferred} {P : Program} {n : Nat} {x y : Code} {QQ : Exit → Act → World → Prop} {σ : Sl} {w : World} (Q : Exit → Sl → World → Prop) (hQ : ∀ e σ w a, FrD ds n σ a → Q e σ w → QQ e a w) (h : WX ds P n x (thenX (fun σ w => WpD ds P n y QQ σ w) Q) σ w) : WpD ds P n (x.seq y) QQ σ w := by
  intro a hf
  refine wp_seq (wp_mono (WX_sound _ _ _ _ h a hf) ?_)
  rintro e a' w' ⟨σ', hf', hq⟩
  cases e
  case normal => exact hq a' hf'
  all_goals exact hQ _ _ _ _ hf' hq
theorem WpD_of {ds : List Deferred} {P : Program} {n : Nat} {x : Code} {QQ : Exit → Act → World → Prop} {σ : Sl} {w : World} (Q : Exit → Sl → World → Prop) (hQ : ∀ e σ w a, FrD ds n σ a → Q e σ w → QQ e a w) (h : WX ds P n x Q σ w) : WpD ds P n x QQ σ w := by
  intro a hf
  refine wp_mono (WX_sound _ _ _ _ h a hf) ?_
  rintro e a' w' ⟨σ', hf', hq⟩
  exact hQ _ _ _ _ hf' hq
theorem calls_WpD {P : Program} {f : FuncId} {fn : Func} {c : Code} {l : List Value} {w : World} {R : Ending → World → Prop} (hf : P.funcs[f]? = some fn) (hb : fn.body = some c) (n : Nat) (hn : fn.ntmps = n) (hl : l.length ≤ n)
    (h : WpD [] P n c (bodyPostD P fn R) (init l 0 bot) w) : Calls P f l.toArray w R := by
  refine calls_of_wp_defers hf hb (h _ ⟨by simp [hn]; omega, rfl, fun i => ?_⟩)
  rw [getD_append_undef, init_at]
  by_cases hi : i < l.length
  · rw [if_pos ⟨Nat.zero_le _, by simpa using hi⟩]; rfl
  · rw [if_neg (by omega)]
    simp [bot, List.getD_eq_getElem?_getD, List.getElem?_eq_none (Nat.le_of_not_lt hi)]
/-- A closure is made and its call deferred. -/
theorem wp_mkdefer {P : Program} {n : Nat} {σ : Sl} {a : Act} {w : World} {ops : Array Oper} {Q : Exit → Act → World → Prop} {d : Nat} {f : FuncId} {caps : List Operand} {ty1 ty2 : TypeId} {p1 p2 : String} {af1 af2 : Array Edge} {ats : Array TypeId} (hf : FrD [] n σ a) (hd : d < n)
    (h : ∀ a', FrD [{ target := .fn (.func f) (caps.map (ev σ)).toArray, args := #[] }] n (upd σ d (.func (.func f) #[] (caps.map (ev σ)).toArray)) a' → Q .normal a' w) :
    wpList P ops Q [⟨some d, .makeFunc (.func f) #[] caps.toArray, ty1, p1, af1, none⟩, ⟨none, .defer ⟨.value (.tmp d), #[], ats⟩, ty2, p2, af2, none⟩] a w := by
  unfold wpList
  rw [if_pos (wanted_none rfl)]
  refine .inl ?_
  unfold Oper.wp
  have e1 : (execOp a.eval ⟨some d, .makeFunc (.func f) #[] caps.toArray, ty1, p1, af1, none⟩).run P w = .ok (.value (.func (.func f) #[] (caps.map (ev σ)).toArray)) w := by
    rw [hf.eval]
    exact r_makeFunc (P := P) (w := w) ty1 σ (.func f) [] caps
  rw [e1, Oper.upon_value]
  have hf2 := hf.put (some d) (.func (.func f) #[] (caps.map (ev σ)).toArray)
  rw [put_some, if_pos hd] at hf2
  unfold wpList
  rw [if_pos (wanted_none rfl)]
  refine .inl ?_
  unfold Oper.wp
  have e2 : (execOp (a.put (some d) (.func (.func f) #[] (caps.map (ev σ)).toArray)).eval ⟨none, .defer ⟨.value (.tmp d), #[], ats⟩, ty2, p2, af2, none⟩).run P w = .ok (.defer { target := .fn (.func f) (caps.map (ev σ)).toArray, args := #[] }) w := by
    rw [hf2.eval]
    simp [execOp, resolve, Deferred.ofValue, ev, upd_same]
  rw [e2, Oper.upon_defer]
  unfold wpList
  refine h _ ⟨hf2.size, ?_, hf2.at_⟩
  show _ :: (a.put (some d) _).defers = _
  rw [hf2.defers]
/-- The end without deferred calls. -/
theorem end_nil {P : Program} {fn : Func} {R : Ending → World → Prop} {n : Nat} : ∀ e σ w a, FrD [] n σ a → postX P fn R e σ w → bodyPostD P fn R e a w := by
  intro e σ w a hf hq
  have ht : (fun i => a.tmps.getD i undef) = σ := funext hf.at_
  cases e <;> simp only [postX] at hq
  case normal =>
    obtain ⟨v, hv, hR⟩ := resE_is hq ht
    show Leaves P fn a.tmps R a.defers .returning w
    rw [hf.defers]
    exact ⟨v, hv, hR⟩
  case ret =>
    obtain ⟨v, hv, hR⟩ := resE_is hq ht
    show Leaves P fn a.tmps R a.defers .returning w
    rw [hf.defers]
    exact ⟨v, hv, hR⟩
  case panic ch =>
    show Leaves P fn a.tmps R a.defers (.panicking ch) w
    rw [hf.defers]
    exact hq
/-- What is asked at the door: the deferred call, and then the results. -/
def doorX (P : Program) (fn : Func) (R : Ending → World → Prop) (f : FuncId) (args : Array Value) (u : FrameMode) (σ : Sl) (w : World) : Prop :=
  CallsD P f args u w fun e u' w' => (∃ v, e = .returned v) ∧ settle u' = .returning ∧ resE P fn.results σ w' fun v => R (.returned v) w'
def postD (P : Program) (fn : Func) (R : Ending → World → Prop) (f : FuncId) (args : Array Value) : Exit → Sl → World → Prop
  | .normal, σ, w | .ret, σ, w => doorX P fn R f args .returning σ w
  | .panic c, σ, w => doorX P fn R f args (.panicking c) σ w
  | _, _, _ => False
theorem postD_ret {P : Program} {fn : Func} {R : Ending → World → Prop} {f : FuncId} {args : Array Value} {σ : Sl} {w : World} : postD P fn R f args .ret σ w = doorX P fn R f args .returning σ w := nr rfl
theorem postD_pan {P : Program} {fn : Func} {R : Ending → World → Prop} {f : FuncId} {args : Array Value} {c : List PanicEntry} {σ : Sl} {w : World} : postD P fn R f args (.panic c) σ w = doorX P fn R f args (.panicking c) σ w := nr rfl
theorem door_leaves {P : Program} {fn : Func} {R : Ending → World → Prop} {f : FuncId} {args cap dargs : Array Value} {fv : Fn} {u : FrameMode} {σ : Sl} {w : World} {tmps : Array Value} (hu : u ≠ .run) (hi : (invoke (.fn fv cap) dargs).run P w = .ok (.enter f args) w)
    (ht : (fun i => tmps.getD i undef) = σ) (h : doorX P fn R f args u σ w) : Leaves P fn tmps R [{ target := .fn fv cap, args := dargs }] u w := by
  refine leaves_cons hu hi (h.mono fun e u' w' ⟨⟨v, he⟩, hs, hr⟩ => ?_)
  subst he
  show Leaves P fn tmps R [] (settle u') w'
  rw [hs]
  obtain ⟨v', hv, hR⟩ := resE_is hr ht
  exact ⟨v', hv, hR⟩
theorem end_one {P : Program} {fn : Func} {R : Ending → World → Prop} {n : Nat} {f : FuncId} {args cap dargs : Array Value} {fv : Fn} (hi : ∀ w, (invoke (.fn fv cap) dargs).run P w = .ok (.enter f args) w) :
    ∀ e σ w a, FrD [{ target := .fn fv cap, args := dargs }] n σ a → postD P fn R f args e σ w → bodyPostD P fn R e a w := by
  intro e σ w a hf hq
  have ht : (fun i => a.tmps.getD i undef) = σ := funext hf.at_
  cases e <;> simp only [postD] at hq
  case normal =>
    show Leaves P fn a.tmps R a.defers .returning w
    rw [hf.defers]
    exact door_leaves (by simp) (hi w) ht hq
  case ret =>
    show Leaves P fn a.tmps R a.defers .returning w
    rw [hf.defers]
    exact door_leaves (by simp) (hi w) ht hq
  case panic ch =>
    show Leaves P fn a.tmps R a.defers (.panicking ch) w
    rw [hf.defers]
    exact door_leaves (by simp) (hi w) ht hq
/-- Numbers that lie in memory. -/
def IntsR (w : World) (v : Value) (L : List Int) : Prop := ∃ (A : Option Addr) (c : Nat), v = .slice A L.length c ∧ Arr w A 1 (L.map fun n => [Value.int .i64 n])
theorem IntsT.read {lo : Nat} {w : World} {v : Value} {L : List Int} (h : IntsT lo w v L) : IntsR w v L := by
  obtain ⟨A, c, e, h⟩ := h
  refine ⟨A, c, e, fun hn => ?_⟩
  rw [List.length_map] at hn
  obtain ⟨b, hb, hr, _⟩ := h hn
  refine ⟨b, 0, hb, hr.lt, fun i l hl j u hu => ?_⟩
  rw [List.getElem?_map] at hl
  obtain ⟨n, hni, rfl⟩ := Option.map_eq_some_iff.1 hl
  cases j with
  | zero =>
    simp only [List.getElem?_cons_zero, Option.some.injEq] at hu
    subst hu
    rw [show 0 + i * 1 + 0 = i by omega]
    exact hr.cell (by unfold iW; rw [List.getElem?_map, hni]; rfl)
  | succ j => simp at hu
theorem IntsR.below {w w' : World} {v : Value} {L : List Int} (h : IntsR w v L) (k : Below w.heap.size w w') : IntsR w' v L := by
  obtain ⟨A, c, e, h⟩ := h
  exact ⟨A, c, e, h.below k⟩
/-- A game that lies in memory: its add-ons and tiers. -/
def GmIn (w : World) (Va Vt : Value) (G : Gm) : Prop := (∃ (A : Option Addr) (c : Nat) (Vs : List (List Value)), Va = .slice A G.addons.length c ∧ Arr w A 6 Vs ∧ AdsC (IntsR w) Vs G.addons) ∧ ∃ (A : Option Addr) (c : Nat), Vt = .slice A G.tiers.length c ∧ Arr w A 6 (G.tiers.map encTi)
theorem GmIn.below {w w' : World} {Va Vt : Value} {G : Gm} (h : GmIn w Va Vt G) (k : Below w.heap.size w w') : GmIn w' Va Vt G := by
  obtain ⟨⟨A, c, Vs, e, h1, h2⟩, A', c', e', h3⟩ := h
  exact ⟨⟨A, c, Vs, e, h1.below k, h2.mono fun v L hv => hv.below k⟩, A', c', e', h3.below k⟩
theorem GmIn.nil (w : World) : GmIn w (.slice none 0 0) (.slice none 0 0) noGm := ⟨⟨none, 0, [], rfl, fun h => absurd h (Nat.lt_irrefl _), rfl, fun i cs x h => by simp at h⟩, none, 0, rfl, fun h => absurd h (Nat.lt_irrefl _)⟩
theorem arr_row {w : World} {g sz : Nat} {T : TypeId} : ∀ {Vs : List (List Value)}, Row w g T Vs.flatten → (∀ v ∈ Vs, v.length = sz) → Arr w (some ⟨g, 0, none⟩) sz Vs := by
  intro Vs h hl hn
  refine ⟨g, 0, rfl, h.lt, fun i l hi j v hv => h.cell ?_⟩
  have key : ∀ (Vs : List (List Value)) (i : Nat), (∀ v ∈ Vs, v.length = sz) → Vs[i]? = some l → Vs.flatten[0 + i * sz + j]? = some v := by
    intro Vs
    induction Vs with
    | nil => intro i _ h; simp at h
    | cons x r ih =>
      intro i hl hi
      rw [List.flatten_cons]
      have hx := hl x (by simp)
      cases i with
      | zero =>
        simp only [List.getElem?_cons_zero, Option.some.injEq] at hi
        subst hi
        have hj := (List.getElem?_eq_some_iff.1 hv).1
        rw [List.getElem?_append_left (by omega), show 0 + 0 * sz + j = j by omega]
        exact hv
      | succ i =>
        rw [List.getElem?_cons_succ] at hi
        have := ih i (fun v hv => hl v (by simp [hv])) hi
        rw [List.getElem?_append_right (by rw [Nat.succ_mul]; omega), hx, show 0 + (i + 1) * sz + j - sz = 0 + i * sz + j by rw [Nat.succ_mul]; omega]
        exact this
  exact key Vs i hl hi
theorem AdsC.len {P : Value → List Int → Prop} {Vs : List (List Value)} {L : List Ad} (h : AdsC P Vs L) : ∀ v ∈ Vs, v.length = 6 := fun v hv => by
  obtain ⟨i, hi⟩ := List.mem_iff_getElem?.1 hv
  have hl := (List.getElem?_eq_some_iff.1 hi).1
  obtain ⟨_, _, rfl, _⟩ := h.2 i v _ hi (List.getElem?_eq_getElem (by rw [← h.1]; exact hl))
  rfl
theorem GmSt.game {base g gs c a : Nat} {A : Option Addr} {T : List Tk} {w : World} {G : Gm} {seen : List (List Nat)} {Va Vt : Value} {Vs : List (List Value)} (h : GmSt w base g gs A c T a G seen Va Vt Vs) : GmIn w Va Vt G := by
  constructor
  · rcases h.own.2 with ⟨hv, h0⟩ | ⟨g', cap, cur, hv, _⟩
    · refine ⟨none, 0, Vs, by rw [hv, ← h0], fun hn => ?_, h.ads.mono fun v L hv => hv.read⟩
      have := h.ads.1
      omega
    · refine ⟨_, _, Vs, hv, ?_, h.ads.mono fun v L hv => hv.read⟩
      have ho := h.own
      rw [hv] at ho
      intro hn
      have hl := h.ads.1
      obtain ⟨g2, e, _, hr, _⟩ := owns_row ho (by omega)
      injection e with e
      injection e with e
      subst e
      exact arr_row hr h.ads.len hn
  · rcases h.tis.2 with ⟨hv, h0⟩ | ⟨g', cap, cur, hv, _⟩
    · refine ⟨none, 0, by rw [hv, ← h0], fun hn => ?_⟩
      rw [List.length_map] at hn
      omega
    · refine ⟨_, _, hv, ?_⟩
      have ho := h.tis
      rw [hv] at ho
      intro hn
      rw [List.length_map] at hn
      obtain ⟨g2, e, _, hr, _⟩ := owns_row ho hn
      injection e with e
      injection e with e
      subst e
      exact hr.arr (fun _ => rfl) (by rw [List.length_map]; exact hn)
/-- A game whose cells stand. -/
theorem GmSt.game2 {base g gs c a : Nat} {A : Option Addr} {T : List Tk} {w w' : World} {G : Gm} {seen : List (List Nat)} {Va Vt : Value} {Vs : List (List Value)} (h : GmSt w base g gs A c T a G seen Va Vt Vs) (hsz : w.heap.size ≤ w'.heap.size) (hk : ∀ k, base ≤ k → k < w.heap.size → w'.heap[k]? = w.heap[k]?) (htk : Arr w' A 4 (T.map encTk)) : GmIn w' Va Vt G := by
  have hS : GmSt w' base g gs A c T a G seen Va Vt Vs := by
    obtain ⟨h1, h2, h3, h4, h5, h6, h7, h8, h9, h10⟩ := h
    refine ⟨⟨h1.lt, htk, h1.off, h1.row.of_block (hk g h10.2.1 h1.row.lt)⟩, ?_, h3.mono fun v L hv => hv.of_blocksL fun b cs hlo hr => hk b hlo hr.lt, ?_, ?_, h6, h7, h8, h9, h10⟩
    · obtain ⟨l, clk, hl, hkk⟩ := h2
      exact ⟨l, clk, (hk gs h10.2.2.1 (Array.getElem?_eq_some_iff.1 hl).1).trans hl, hkk⟩
    · exact owns_keep h4 fun b hb => hk b (owns_ge h4 hb).1 (owns_ge h4 hb).2
    · exact owns_keep h5 fun b hb => hk b (owns_ge h5 hb).1 (owns_ge h5 hb).2
  exact hS.game
end Go.Proofs.YtbdkggnajipdhaaGreatDoor
/- Arguments of chapter 11: a game. -/
namespace Go.Proofs.YtbdkggnajipdhaaGreatDoor
open Go.ChangeShapes Go.WideShapes Go.ChangeAt Go.RowKit Go.Joins Go.Deep
set_option maxRecDepth 100000
theorem list_of {α : Type} {P : Nat → α → Prop} : ∀ n, (∀ i, i < n → ∃ x, P i x) → ∃ L : List α, L.length = n ∧ ∀ i x, L[i]? = some x → P i x
  | 0, _ => ⟨[], rfl, fun i x h => by simp at h⟩
  | n + 1, h => by
    obtain ⟨L, h1, h2⟩ := list_of n fun i hi => h i (by omega)
    obtain ⟨x, hx⟩ := h n (by omega)
    refine ⟨L ++ [x], by simp [h1], fun i y hy => ?_⟩
    by_cases hi : i < n
    · rw [List.getElem?_append_left (by omega)] at hy; exact h2 i y hy
    · rw [List.getElem?_append_right (by omega)] at hy
      have : i - L.length = 0 := by have := (List.getElem?_eq_some_iff.1 hy).1; simp at this; omega
      rw [this] at hy
      simp only [List.getElem?_cons_zero, Option.some.injEq] at hy
      subst hy
      have : i = n := by omega
      subst this; exact hx
theorem arr_of {α : Type} {enc : α → List Value} {sz n : Nat} {W : World} {a : Addr} (Q : α → Prop) (hne : ∀ x, ∃ v, (enc x)[0]? = some v) (h : ∀ i, i < n → ∃ x : α, Q x ∧ ∀ j v, (enc x)[j]? = some v → W.cell? (a.add (i * sz + j)) = some v) :
    ∃ L : List α, L.length = n ∧ Arr W (some a) sz (L.map enc) ∧ ∀ x ∈ L, Q x := by
  obtain ⟨L, h1, h2⟩ := list_of n h
  refine ⟨L, h1, fun hpos => ?_, fun x hx => by obtain ⟨i, hi⟩ := List.mem_iff_getElem?.1 hx; exact (h2 i x hi).1⟩
  rw [List.length_map] at hpos
  obtain ⟨b, o, s⟩ := a
  obtain ⟨x, hx⟩ : ∃ x, L[0]? = some x := ⟨_, List.getElem?_eq_getElem hpos⟩
  obtain ⟨v, hv⟩ := hne x
  have hc := (h2 0 x hx).2 0 v hv
  rw [Nat.zero_mul, Nat.add_zero] at hc
  cases s with
  | some s =>
    have e : Addr.add ⟨b, o, some s⟩ 0 = ⟨b, o, some s⟩ := if_pos rfl
    rw [e] at hc
    simp only [World.cell?] at hc
    split at hc <;> simp at hc
  | none =>
    rw [addr_add, Nat.add_zero] at hc
    refine ⟨b, o, rfl, ?_, fun i l hl j u hu => ?_⟩
    · simp only [World.cell?] at hc
      cases hb : W.heap[b]? with
      | none => rw [hb] at hc; cases hc
      | some ob => exact (Array.getElem?_eq_some_iff.1 hb).1
    · rw [List.getElem?_map] at hl
      cases hy : L[i]? with
      | none => rw [hy] at hl; cases hl
      | some y =>
        rw [hy] at hl
        simp only [Option.map_some, Option.some.injEq] at hl
        subst hl
        have := (h2 i y hy).2 j u hu
        rw [addr_add] at this
        rw [Nat.add_assoc]; exact this
section
variable {H : Type} {enc : TypeId × Value → H} {P : Program} {w : World} {base : Nat} {spare : Nat → Bool} {held : Bool}
/-- A struct of many fields, one cell each. -/
theorem open_aggN {r : Reach} {b0 : Nat} {t : TypeId} {fs : Array Field} {v : Value} {d : DataW H} {p : List MemPlace} (hs : P.underlying t = some (.struct fs)) (hone : oneCellFields P fs = true) (hC : P.cellsOf t = fs.size)
    (hv : Value.okWide P w r b0 t v) (h : DataW.Trod enc P w base spare held t v d p) :
    ∃ (cs : List Value) (n : Nat), v = .agg cs.toArray ∧ cs.length = fs.size ∧ ∀ (j : Nat) (f : Field), fs[j]? = some f → ∃ (c : Value) (y : DataW H × List MemPlace), cs[j]? = some c ∧ DataW.trod enc P w base spare held n f.type [c] = some y := by
  obtain ⟨cs, rfl, hsz⟩ := okWide_struct hs hv
  obtain ⟨l⟩ := cs
  obtain ⟨fuel, hf⟩ := h
  obtain ⟨xs, n, _, hx, _, hlen, hg⟩ := DataW.trod_struct hs hf
  have hl : l.length = fs.size := hsz.trans hC
  refine ⟨l, n, rfl, hl, fun j f hj => ?_⟩
  obtain ⟨ho, hk⟩ := hone_of hone j f hj
  have hjl : j < fs.size := (Array.getElem?_eq_some_iff.1 hj).1
  have h1 := hg j f hj
  simp only [Value.cells] at h1
  rw [ho, hk] at h1
  have hone' : (l.drop j).take 1 = [l[j]'(by omega)] := by
    rw [List.drop_eq_getElem_cons (by omega)]
    rfl
  rw [hone'] at h1
  refine ⟨l[j]'(by omega), xs[j]'(by omega), List.getElem?_eq_getElem (by omega), h1.trans (List.getElem?_eq_getElem (by omega))⟩
end
section
variable {H : Type} {enc : TypeId × Value → H} {W : World} {base n : Nat} {sp : Nat → Bool} {held : Bool}
theorem open_nums {cs : List Value} {y : DataW H × List MemPlace} (h : DataW.trod enc Tryz.prog W base sp held n 43 cs = some y) : ∃ (v : Value) (L : List Int), cs = [v] ∧ IntsR W v L := by
  have hC : Tryz.prog.cellsOf 3 = 1 := by kernel_rfl
  rcases open_slice Tryz.underlying43 h with ⟨rfl, _⟩ | ⟨a, len, cap, m, k, D, Pl, rfl, _, hl, hc, hm, _, hi⟩
  · exact ⟨_, [], rfl, none, 0, rfl, fun h => by simp at h⟩
  · rw [hC] at hi
    obtain ⟨L, h1, h2, _⟩ := arr_of (enc := fun x : Int => [Value.int .i64 x]) (sz := 1) (n := len) (W := W) (a := a) (fun _ => True) (fun x => ⟨_, rfl⟩) fun i him => by
      obtain ⟨cs', hcs, ht⟩ := hi i (by rw [hm]; split <;> omega)
      obtain ⟨x, rfl, _, hwf⟩ := DataW.trod_int Tryz.underlying3 ht
      obtain ⟨_, _, hat⟩ := World.cells?_some hcs
      refine ⟨x, trivial, fun j v hv => ?_⟩
      match j, hv with
      | 0, hv => exact (hat 0 (by omega)).trans hv
      | j + 1, hv => simp at hv
    exact ⟨_, L, rfl, some a, cap, by rw [h1], h2⟩
def encA (p : Ad × Value × Value) : List Value := [.string p.1.name, .int .i64 p.1.kind, .int .i64 p.1.price, p.2.1, .int .i64 p.1.digits, p.2.2]
theorem open_addons {cs : List Value} {y : DataW H × List MemPlace} (h : DataW.trod enc Tryz.prog W base sp held n 23 cs = some y) :
    ∃ (A : Option Addr) (c : Nat) (Vs : List (List Value)) (L : List Ad), cs = [.slice A L.length c] ∧ Arr W A 6 Vs ∧ AdsC (IntsR W) Vs L := by
  rcases open_slice_fields Tryz.underlying23 Tryz.underlying45 (by kernel_rfl) (by kernel_rfl) h with ⟨rfl, _⟩ | ⟨a, len, cap, m, D, Pl, rfl, _, hl, hc, hm, _, hi⟩
  · exact ⟨none, 0, [], [], rfl, fun h => absurd h (Nat.lt_irrefl _), rfl, fun i cs x h => by simp at h⟩
  · obtain ⟨P, h1, h2, h3⟩ := arr_of (enc := encA) (sz := 6) (n := len) (W := W) (a := a) (fun p => IntsR W p.2.1 p.1.factors ∧ IntsR W p.2.2 p.1.serials) (fun x => ⟨_, rfl⟩) fun i him => by
      obtain ⟨ys, k, _, _, _, hf⟩ := hi i (by rw [hm]; split <;> omega)
      obtain ⟨v0, y0, c0, _, t0⟩ := hf 0 _ rfl
      obtain ⟨v1, y1, c1, _, t1⟩ := hf 1 _ rfl
      obtain ⟨v2, y2, c2, _, t2⟩ := hf 2 _ rfl
      obtain ⟨v3, y3, c3, _, t3⟩ := hf 3 _ rfl
      obtain ⟨v4, y4, c4, _, t4⟩ := hf 4 _ rfl
      obtain ⟨v5, y5, c5, _, t5⟩ := hf 5 _ rfl
      obtain ⟨a0, e0, _⟩ := DataW.trod_string Tryz.underlying9 t0
      obtain ⟨a1, e1, _⟩ := DataW.trod_int Tryz.underlying3 t1
      obtain ⟨a2, e2, _⟩ := DataW.trod_int Tryz.underlying3 t2
      obtain ⟨vf, Lf, e3, hF⟩ := open_nums t3
      obtain ⟨a4, e4, _⟩ := DataW.trod_int Tryz.underlying3 t4
      obtain ⟨vs, Ls, e5, hS⟩ := open_nums t5
      simp only [List.cons.injEq, and_true] at e0 e1 e2 e3 e4 e5
      subst e0 e1 e2 e3 e4 e5
      refine ⟨(⟨a0, a1, a2, Lf, a4, Ls⟩, v3, v5), ⟨hF, hS⟩, fun j v hv => ?_⟩
      match j, hv with
      | 0, hv => injection hv with hv; subst hv; exact c0
      | 1, hv => injection hv with hv; subst hv; exact c1
      | 2, hv => injection hv with hv; subst hv; exact c2
      | 3, hv => injection hv with hv; subst hv; exact c3
      | 4, hv => injection hv with hv; subst hv; exact c4
      | 5, hv => injection hv with hv; subst hv; exact c5
      | j + 6, hv => simp [encA] at hv
    refine ⟨some a, cap, P.map encA, P.map (·.1), by rw [List.length_map, h1], h2, by rw [List.length_map, List.length_map], fun i cs x hcs hx => ?_⟩
    rw [List.getElem?_map] at hcs hx
    cases hp : P[i]? with
    | none => rw [hp] at hcs; cases hcs
    | some p =>
      rw [hp] at hcs hx
      simp only [Option.map_some, Option.some.injEq] at hcs hx
      subst hcs hx
      exact ⟨p.2.1, p.2.2, rfl, h3 p (List.mem_of_getElem? hp)⟩
theorem open_tiers {cs : List Value} {y : DataW H × List MemPlace} (h : DataW.trod enc Tryz.prog W base sp held n 24 cs = some y) :
    ∃ (A : Option Addr) (c : Nat) (L : List Ti), cs = [.slice A L.length c] ∧ Arr W A 6 (L.map encTi) := by
  rcases open_slice_fields Tryz.underlying24 Tryz.underlying41 (by kernel_rfl) (by kernel_rfl) h with ⟨rfl, _⟩ | ⟨a, len, cap, m, D, Pl, rfl, _, hl, hc, hm, _, hi⟩
  · exact ⟨none, 0, [], rfl, fun h => by simp at h⟩
  · obtain ⟨L, h1, h2, _⟩ := arr_of (enc := encTi) (sz := 6) (n := len) (W := W) (a := a) (fun _ => True) (fun x => ⟨_, rfl⟩) fun i him => by
      obtain ⟨ys, k, _, _, _, hf⟩ := hi i (by rw [hm]; split <;> omega)
      obtain ⟨v0, y0, c0, _, t0⟩ := hf 0 _ rfl
      obtain ⟨v1, y1, c1, _, t1⟩ := hf 1 _ rfl
      obtain ⟨v2, y2, c2, _, t2⟩ := hf 2 _ rfl
      obtain ⟨v3, y3, c3, _, t3⟩ := hf 3 _ rfl
      obtain ⟨v4, y4, c4, _, t4⟩ := hf 4 _ rfl
      obtain ⟨v5, y5, c5, _, t5⟩ := hf 5 _ rfl
      obtain ⟨a0, e0, _⟩ := DataW.trod_int Tryz.underlying3 t0
      obtain ⟨a1, e1, _⟩ := DataW.trod_int Tryz.underlying3 t1
      obtain ⟨a2, e2, _⟩ := DataW.trod_int Tryz.underlying3 t2
      obtain ⟨a3, e3, _⟩ := DataW.trod_int Tryz.underlying3 t3
      obtain ⟨a4, e4, _⟩ := DataW.trod_int Tryz.underlying3 t4
      obtain ⟨a5, e5, _⟩ := DataW.trod_int Tryz.underlying3 t5
      simp only [List.cons.injEq, and_true] at e0 e1 e2 e3 e4 e5
      subst e0 e1 e2 e3 e4 e5
      refine ⟨⟨a0, a1, a2, a3, a4, a5⟩, trivial, fun j v hv => ?_⟩
      match j, hv with
      | 0, hv => injection hv with hv; subst hv; exact c0
      | 1, hv => injection hv with hv; subst hv; exact c1
      | 2, hv => injection hv with hv; subst hv; exact c2
      | 3, hv => injection hv with hv; subst hv; exact c3
      | 4, hv => injection hv with hv; subst hv; exact c4
      | 5, hv => injection hv with hv; subst hv; exact c5
      | j + 6, hv => simp [encTi] at hv
    exact ⟨some a, cap, L, by rw [h1], h2⟩
theorem open_game {r : Reach} {b0 : Nat} {v : Value} {d : DataW H} {p : List MemPlace} (hv : Value.okWide Tryz.prog W r b0 26 v) (h : DataW.Trod enc Tryz.prog W base sp held 26 v d p) :
    ∃ (G : Gm) (Va Vt : Value), v = .agg (gmV G Va Vt).toArray ∧ GmIn W Va Vt G := by
  obtain ⟨cs, k, rfl, hl, hf⟩ := open_aggN Tryz.underlying26 (by kernel_rfl) (by kernel_rfl) hv h
  match cs, hl with
  | [c0, c1, c2, c3, c4, c5, c6, c7, c8, c9, c10, c11, c12, c13, c14, c15, c16, c17, c18, c19, c20, c21], _ =>
    obtain ⟨x0, y0, g0, t0⟩ := hf 0 _ rfl
    simp only [List.getElem?_cons_succ, List.getElem?_cons_zero, Option.some.injEq] at g0
    subst g0
    obtain ⟨x1, y1, g1, t1⟩ := hf 1 _ rfl
    simp only [List.getElem?_cons_succ, List.getElem?_cons_zero, Option.some.injEq] at g1
    subst g1
    obtain ⟨x2, y2, g2, t2⟩ := hf 2 _ rfl
    simp only [List.getElem?_cons_succ, List.getElem?_cons_zero, Option.some.injEq] at g2
    subst g2
    obtain ⟨x3, y3, g3, t3⟩ := hf 3 _ rfl
    simp only [List.getElem?_cons_succ, List.getElem?_cons_zero, Option.some.injEq] at g3
    subst g3
    obtain ⟨x4, y4, g4, t4⟩ := hf 4 _ rfl
    simp only [List.getElem?_cons_succ, List.getElem?_cons_zero, Option.some.injEq] at g4
    subst g4
    obtain ⟨x5, y5, g5, t5⟩ := hf 5 _ rfl
    simp only [List.getElem?_cons_succ, List.getElem?_cons_zero, Option.some.injEq] at g5
    subst g5
    obtain ⟨x6, y6, g6, t6⟩ := hf 6 _ rfl
    simp only [List.getElem?_cons_succ, List.getElem?_cons_zero, Option.some.injEq] at g6
    subst g6
    obtain ⟨x7, y7, g7, t7⟩ := hf 7 _ rfl
    simp only [List.getElem?_cons_succ, List.getElem?_cons_zero, Option.some.injEq] at g7
    subst g7
    obtain ⟨x8, y8, g8, t8⟩ := hf 8 _ rfl
    simp only [List.getElem?_cons_succ, List.getElem?_cons_zero, Option.some.injEq] at g8
    subst g8
    obtain ⟨x9, y9, g9, t9⟩ := hf 9 _ rfl
    simp only [List.getElem?_cons_succ, List.getElem?_cons_zero, Option.some.injEq] at g9
    subst g9
    obtain ⟨x10, y10, g10, t10⟩ := hf 10 _ rfl
    simp only [List.getElem?_cons_succ, List.getElem?_cons_zero, Option.some.injEq] at g10
    subst g10
    obtain ⟨x11, y11, g11, t11⟩ := hf 11 _ rfl
    simp only [List.getElem?_cons_succ, List.getElem?_cons_zero, Option.some.injEq] at g11
    subst g11
    obtain ⟨x12, y12, g12, t12⟩ := hf 12 _ rfl
    simp only [List.getElem?_cons_succ, List.getElem?_cons_zero, Option.some.injEq] at g12
    subst g12
    obtain ⟨x13, y13, g13, t13⟩ := hf 13 _ rfl
    simp only [List.getElem?_cons_succ, List.getElem?_cons_zero, Option.some.injEq] at g13
    subst g13
    obtain ⟨x14, y14, g14, t14⟩ := hf 14 _ rfl
    simp only [List.getElem?_cons_succ, List.getElem?_cons_zero, Option.some.injEq] at g14
    subst g14
    obtain ⟨x15, y15, g15, t15⟩ := hf 15 _ rfl
    simp only [List.getElem?_cons_succ, List.getElem?_cons_zero, Option.some.injEq] at g15
    subst g15
    obtain ⟨x16, y16, g16, t16⟩ := hf 16 _ rfl
    simp only [List.getElem?_cons_succ, List.getElem?_cons_zero, Option.some.injEq] at g16
    subst g16
    obtain ⟨x17, y17, g17, t17⟩ := hf 17 _ rfl
    simp only [List.getElem?_cons_succ, List.getElem?_cons_zero, Option.some.injEq] at g17
    subst g17
    obtain ⟨x18, y18, g18, t18⟩ := hf 18 _ rfl
    simp only [List.getElem?_cons_succ, List.getElem?_cons_zero, Option.some.injEq] at g18
    subst g18
    obtain ⟨x19, y19, g19, t19⟩ := hf 19 _ rfl
    simp only [List.getElem?_cons_succ, List.getElem?_cons_zero, Option.some.injEq] at g19
    subst g19
    obtain ⟨x20, y20, g20, t20⟩ := hf 20 _ rfl
    simp only [List.getElem?_cons_succ, List.getElem?_cons_zero, Option.some.injEq] at g20
    subst g20
    obtain ⟨x21, y21, g21, t21⟩ := hf 21 _ rfl
    simp only [List.getElem?_cons_succ, List.getElem?_cons_zero, Option.some.injEq] at g21
    subst g21
    obtain ⟨a0, e0, _⟩ := DataW.trod_string Tryz.underlying9 t0
    obtain ⟨a1, e1, _⟩ := DataW.trod_int Tryz.underlying3 t1
    obtain ⟨a2, e2, _⟩ := DataW.trod_int Tryz.underlying3 t2
    obtain ⟨a3, e3, _⟩ := DataW.trod_int Tryz.underlying3 t3
    obtain ⟨a4, e4, _⟩ := DataW.trod_int Tryz.underlying3 t4
    obtain ⟨a5, e5, _⟩ := DataW.trod_int Tryz.underlying3 t5
    obtain ⟨a6, e6, _⟩ := DataW.trod_int Tryz.underlying3 t6
    obtain ⟨a7, e7, _⟩ := DataW.trod_int Tryz.underlying3 t7
    obtain ⟨a8, e8, _⟩ := DataW.trod_int Tryz.underlying3 t8
    obtain ⟨a9, e9, _⟩ := DataW.trod_int Tryz.underlying3 t9
    obtain ⟨a10, e10, _⟩ := DataW.trod_int Tryz.underlying3 t10
    obtain ⟨a11, e11, _⟩ := DataW.trod_int Tryz.underlying3 t11
    obtain ⟨a12, e12, _⟩ := DataW.trod_int Tryz.underlying3 t12
    obtain ⟨a13, e13, _⟩ := DataW.trod_int Tryz.underlying3 t13
    obtain ⟨a14, e14, _⟩ := DataW.trod_int Tryz.underlying3 t14
    obtain ⟨a15, e15, _⟩ := DataW.trod_int Tryz.underlying3 t15
    obtain ⟨a16, e16, _⟩ := DataW.trod_int Tryz.underlying3 t16
    obtain ⟨a17, e17, _⟩ := DataW.trod_int Tryz.underlying3 t17
    obtain ⟨a18, e18, _⟩ := DataW.trod_int Tryz.underlying3 t18
    obtain ⟨a19, e19, _⟩ := DataW.trod_int Tryz.underlying3 t19
    obtain ⟨Aa, ca, Vs, L, e20, hA, hads⟩ := open_addons t20
    obtain ⟨At, ct, M, e21, hT⟩ := open_tiers t21
    simp only [List.cons.injEq, and_true] at e0 e1 e2 e3 e4 e5 e6 e7 e8 e9 e10 e11 e12 e13 e14 e15 e16 e17 e18 e19 e20 e21
    subst e0 e1 e2 e3 e4 e5 e6 e7 e8 e9 e10 e11 e12 e13 e14 e15 e16 e17 e18 e19 e20 e21
    exact ⟨⟨a0, fun i => ([a1, a2, a3, a4, a5, a6, a7, a8, a9, a10, a11, a12, a13, a14, a15, a16, a17, a18, a19] : List Int).getD i 0, L, M⟩, _, _, rfl, ⟨Aa, ca, Vs, rfl, hA, hads⟩, At, ct, rfl, hT⟩
end
end Go.Proofs.YtbdkggnajipdhaaGreatDoor
/- Bytes in memory: rows that grow, and the strings that they become. -/
namespace Go.Proofs.YtbdkggnajipdhaaGreatDoor
open Go.RowKit
set_option maxRecDepth 100000
/-- Bytes that lie in memory become a string. -/
theorem bytes_str {w : World} {a : Addr} {cap : Nat} (ns : List Nat) (hn : ∀ n ∈ ns, n < 256) (h : ∀ j v, (ns.map fun (n : Nat) => Value.int .u8 (n : Int))[j]? = some v → w.cell? (a.add j) = some v) :
    ∃ s : ByteArray, bs s = ns ∧ vConvert Tryz.prog 65 9 (.slice (some a) ns.length cap) w = .ok (.value (.string s)) w := by
  have hl := run_loadCells_list (P := Tryz.prog) (w := w) a (ns.map fun (n : Nat) => Value.int .u8 (n : Int)) h
  rw [List.length_map] at hl
  have hr := run_bytesToString (P := Tryz.prog) w a ns.length cap (ns.map fun (n : Nat) => (n : Int)) (by rw [List.map_map]; exact hl)
  refine ⟨_, ?_, by simp only [vConvert, Sem.run_bind, run_convert_bytes_string w _ _ _ _ _ _ Tryz.underlying65 Tryz.underlying5 Tryz.underlying9, hr, Result.andThen, Sem.run_pure]; rfl⟩
  have key : ∀ (ns : List Nat) (s : ByteArray), (∀ n ∈ ns, n < 256) → bs ((ns.map fun (n : Nat) => (n : Int)).foldl (fun r n => r.push (UInt8.ofNat n.toNat)) s) = bs s ++ ns := by
    intro ns
    induction ns with
    | nil => intro s _; simp
    | cons n r ih =>
      intro s hs
      rw [List.map_cons, List.foldl_cons, ih _ fun m hm => hs m (by simp [hm])]
      have hn := hs n (by simp)
      have e : bs (s.push (UInt8.ofNat (n : Int).toNat)) = bs s ++ [n] := by
        unfold bs
        rw [ByteArray.data_push, Array.toList_push, List.map_append]
        simp [Nat.mod_eq_of_lt hn]
      rw [e, List.append_assoc]
      rfl
  rw [key ns _ hn, bs_empty, List.nil_append]
def byV (X : List Nat) : List Value := X.map fun (n : Nat) => Value.int .u8 (n : Int)
/-- A row of bytes that is nobody else's. -/
def BytIn (base : Nat) (w : World) (v : Value) (X : List Nat) : Prop := ∃ g c, v = .slice (some ⟨g, 0, none⟩) X.length c ∧ w.ownsRow base 5 1 v X.length (byV X) ∧ (∀ n ∈ X, n < 256) ∧ X.length ≤ 100000000
theorem BytIn.make (w : World) (base c : Nat) (hb : base ≤ w.heap.size) (hc : c ≤ 1000000000) : BytIn base (w.alloc (.cells (madeCells #[.int .u8 0] (c * 1)) 5)) (.slice (some ⟨w.heap.size, 0, none⟩) 0 c) [] :=
  ⟨_, _, rfl, make_own w base _ _ c hb (by unfold maxLen; omega), (fun n h => by cases h), by simp⟩
theorem BytIn.push {base : Nat} {w : World} {v : Value} {X : List Nat} (h : BytIn base w v X) (hb : base ≤ w.heap.size) (n : Nat) (hn : n < 256) (hl : X.length + 1 ≤ 100000000) :
    ∃ v' w2, vAppend Tryz.prog 65 65 65 v (.slice (some ⟨w.heap.size, 0, none⟩) 1 1) (w.alloc (.cells #[.int .u8 (n : Int)] 5)) = .ok (.value v') w2 ∧ BytIn base w2 v' (X ++ [n]) ∧ Below base w w2 ∧ w.heap.size ≤ w2.heap.size := by
  obtain ⟨g, c, rfl, ho, hx, _⟩ := h
  have hI : sliceI Tryz.prog 65 = some (5, 1, 1) := by kernel_rfl
  obtain ⟨A2, c2, w2, he, hown2, hb2, hs2⟩ := push1 (P := Tryz.prog) (T := 65) (ty := 65) (news := [.int .u8 (n : Int)]) ho hb hI rfl (fun u hu => by simp at hu; subst hu; rfl) (by omega) (by omega)
  obtain ⟨g2, rfl, _⟩ := owns_row hown2 (by omega)
  refine ⟨_, w2, he, ⟨g2, c2, by simp, ?_, fun m hm => ?_, by simp; omega⟩, hb2, hs2⟩
  · have : (X ++ [n]).length = X.length + 1 := by simp
    rw [this]
    unfold byV at *
    rw [List.map_append]
    exact hown2
  · rcases List.mem_append.1 hm with h | h
    · exact hx m h
    · simp at h; omega
theorem BytIn.str {base : Nat} {w : World} {v : Value} {X : List Nat} (h : BytIn base w v X) : ∃ s : ByteArray, bs s = X ∧ vConvert Tryz.prog 65 9 v w = .ok (.value (.string s)) w := by
  obtain ⟨g, c, rfl, ho, hx, _⟩ := h
  refine bytes_str X hx fun j u hu => ?_
  have hj : 0 < X.length := by
    have := (List.getElem?_eq_some_iff.1 hu).1
    rw [List.length_map] at this
    omega
  obtain ⟨g2, e, _, ⟨cur, hg, r, hr⟩, _⟩ := owns_row ho hj
  injection e with e
  injection e with e
  subst e
  rw [addr_add, Nat.zero_add, Lib.cell_of_heap hg]
  have hlt := (List.getElem?_eq_some_iff.1 hu).1
  rw [← Array.getElem?_toList, hr, List.getElem?_append_left (by unfold byV; exact hlt)]
  exact hu
end Go.Proofs.YtbdkggnajipdhaaGreatDoor
/- Walks: strings.Builder at the beginning of a printer: copyCheck, WriteByte, WriteString, Len, String. -/
namespace Go.Proofs.YtbdkggnajipdhaaGreatDoor
open Go.RowKit
set_option maxRecDepth 100000
theorem strCells_bs (s : ByteArray) : Lib.strCells s = byV (bs s) := by
  unfold Lib.strCells byV bs
  rw [List.map_map]
  rfl
theorem byV_len (X : List Nat) : (byV X).length = X.length := List.length_map ..
theorem byV_app (X Y : List Nat) : byV (X ++ Y) = byV X ++ byV Y := List.map_append
/-- The printer at block g: what is written so far, whether it is bad. -/
structure PbI (g : Nat) (w : World) (q A : Option Addr) (c : Nat) (p : Pr) : Prop where
  blk : w.heap[g]? = some (.cells #[.pointer q, .slice A p.X.length c, .bool p.bad] 69 (0, 0))
  q0 : q = none ∨ q = some ⟨g, 0, none⟩
  own : w.ownsRow (g + 1) 5 1 (.slice A p.X.length c) p.X.length (byV p.X)
  small : ∀ n ∈ p.X, n < 256
def PbIn (g : Nat) (w : World) (p : Pr) : Prop := ∃ q A c, PbI g w q A c p
/-- A printer's step turns its own block and rows of bytes. -/
def KB (g : Nat) (w w' : World) : Prop := Below g w w' ∧ Keeps g w w'
theorem KB.refl (g : Nat) (w : World) : KB g w w := ⟨Below.refl _ _, Keeps.refl _ _⟩
theorem KB.trans {g : Nat} {a b c : World} (h : KB g a b) (k : KB g b c) : KB g a c := ⟨h.1.trans k.1, h.2.trans k.2⟩
theorem KB.alloc {g : Nat} {a w : World} (h : KB g a w) (hg : g ≤ w.heap.size) (o : Obj) : KB g a (w.alloc o) := ⟨h.1.trans ((below_alloc w o).mono hg), h.2.trans (Keeps.alloc _ _ _)⟩
theorem KB.below {g : Nat} {a w w' : World} (h : KB g a w) (hg : g ≤ w.heap.size) (k : Below w.heap.size w w') : KB g a w' := ⟨h.1.trans (k.mono hg), h.2.trans fun i o _ ho _ => (k.block i (Array.getElem?_eq_some_iff.1 ho).1).trans ho⟩
theorem Row.kb {g b : Nat} {w w' : World} {T : TypeId} {cs : List Value} (h : Row w b T cs) (k : KB g w w') (hb : b ≠ g) (hT : T ≠ 5) : Row w' b T cs := by
  obtain ⟨cur, hc, r, hr⟩ := h
  exact ⟨cur, k.2 b _ hb hc (fun cs f e => by injection e with _ e; exact hT e), r, hr⟩
theorem PbI.row {g : Nat} {w : World} {q A : Option Addr} {c : Nat} {p : Pr} (h : PbI g w q A c p) : Row w g 69 [.pointer q, .slice A p.X.length c, .bool p.bad] := ⟨_, h.blk, [], by simp⟩
theorem PbIn.lt {g : Nat} {w : World} {p : Pr} (h : PbIn g w p) : g < w.heap.size := by obtain ⟨q, A, c, h⟩ := h; exact h.row.lt
theorem PbI.below {g : Nat} {w w' : World} {q A : Option Addr} {c : Nat} {p : Pr} (h : PbI g w q A c p) (k : Below w.heap.size w w') : PbI g w' q A c p :=
  ⟨(k.block g h.row.lt).trans h.blk, h.q0, owns_below h.own k, h.small⟩
theorem PbIn.below {g : Nat} {w w' : World} {p : Pr} (h : PbIn g w p) (k : Below w.heap.size w w') : PbIn g w' p := by obtain ⟨q, A, c, h⟩ := h; exact ⟨q, A, c, h.below k⟩
theorem PbIn.alloc {g : Nat} {w : World} {p : Pr} (h : PbIn g w p) (o : Obj) : PbIn g (w.alloc o) p := h.below (below_alloc w o)
theorem PbI.ne {g : Nat} {w : World} {q A : Option Addr} {c : Nat} {p : Pr} (h : PbI g w q A c p) : (Value.slice A p.X.length c).ownBlock ≠ some g := fun hb => by
  have := (owns_ge h.own hb).1
  omega
/-- The addressee of the builder is laid. -/
theorem PbI.used {g : Nat} {w : World} {q A : Option Addr} {c : Nat} {p : Pr} (h : PbI g w q A c p) : PbI g (w.setCell ⟨g, 0, none⟩ (.pointer (some ⟨g, 0, none⟩))) (some ⟨g, 0, none⟩) A c p :=
  ⟨by simp [World.setCell, Array.getElem?_modify, h.blk], .inr rfl, owns_keep h.own fun b hb => Below.heap_setCell _ _ _ _ (fun e => h.ne (by rw [hb]; exact congrArg some e)), h.small⟩
theorem bad_set {g : Nat} {w : World} {q A : Option Addr} {c : Nat} {p : Pr} (h : PbI g w q A c p) (b : Bool) : PbI g (w.setCell ⟨g, 2, none⟩ (.bool b)) q A c ⟨p.X, b⟩ :=
  ⟨by simp [World.setCell, Array.getElem?_modify, h.blk], h.q0, owns_keep h.own fun k hk => Below.heap_setCell _ _ _ _ (fun e => h.ne (by rw [hk]; exact congrArg some e)), h.small⟩
theorem pbCheck_any {g : Nat} {w : World} {q A : Option Addr} {c : Nat} {p : Pr} (h : PbI g w q A c p) : Calls Tryz.prog 71 #[.pointer (some ⟨g, 0, none⟩)] w fun e w' => e = .returned (.tuple #[]) ∧ PbI g w' (some ⟨g, 0, none⟩) A c p ∧ KB g w w' := by
  refine calls_W (l := [_]) Tryz.func71 rfl _ Tryz.ntmps71 (by simp) ?_
  obtain ⟨j, hj, hjs⟩ := Option.map_eq_some_iff.1 (show (Tryz.prog.info? 67).map (·.size) = some 2 by kernel_rfl)
  have ne : ∀ (x y : Operand) (w : World), vBin Tryz.prog .neq 64 x y (.pointer (some ⟨g, 0, none⟩)) (.pointer (some ⟨g, 0, none⟩)) w = .ok (.value (.bool false)) w := fun x y w => by
    simp only [vBin, eqGuard]
    simp [Lib.run_neq_ptr_same w _ Tryz.underlying64 hj]
  have hsh : w.shape? g = some (69, 3) := by simp [World.shape?, h.blk]
  rcases h.q0 with rfl | rfl
  · have c0 := h.row.cell (i := 0) rfl
    have z0 := h.row.frozen 0
    have cs : (w.setCell ⟨g, 0, none⟩ (.pointer (some ⟨g, 0, none⟩))).cell? ⟨g, 0, none⟩ = some (.pointer (some ⟨g, 0, none⟩)) := by rw [cS_same, c0]; rfl
    have cv1 : vConvert Tryz.prog 64 125 (.pointer (some ⟨g, 0, none⟩)) w = .ok (.value (.pointer (some ⟨g, 0, none⟩))) w := by
      simp [vConvert, Lib.run_to_unsafe w ⟨g, 0, none⟩ Tryz.underlying64 Tryz.underlying125 hj (by rw [hjs]; decide) hsh (Nat.zero_lt_succ 2)]
    have cv2 : vConvert Tryz.prog 125 64 (.pointer (some ⟨g, 0, none⟩)) w = .ok (.value (.pointer (some ⟨g, 0, none⟩))) w := by
      simp [vConvert, Lib.run_from_unsafe w ⟨g, 0, none⟩ Tryz.underlying125 Tryz.underlying64 hj hsh (by kernel_rfl)]
    have cl : vCall Tryz.prog 119 #[.pointer (some ⟨g, 0, none⟩)] w = .ok (.value (.pointer (some ⟨g, 0, none⟩))) w := by
      unfold vCall
      rw [run_callFunc_extern Tryz.func119 (by kernel_rfl) (by kernel_rfl) (by kernel_rfl) (e := Extern.AbiNoEscape.same) (by kernel_rfl), Lib.run_noEscape]
      rfl
    rw [vCall_at] at cl
    simp +contextual (maxSteps := 2000000) (disch := (first | omega | (simp only [SZ]; first | done | omega) | (simp only [TS] at *; omega))) only [RZ, ovw, oneC, Nat.reduceAdd, Nat.reduceMul, Nat.reduceSub, Nat.reduceEqDiff, Nat.reduceLT, ↓reduceIte, Int.reduceToNat, Nat.reduceLeDiff,  c0]
    refine W_if_t rfl ?_
    simp +contextual (maxSteps := 2000000) (disch := (first | omega | (simp only [SZ]; first | done | omega) | (simp only [TS] at *; omega))) only [RZ, ovw, oneC, Nat.reduceAdd, Nat.reduceMul, Nat.reduceSub, Nat.reduceEqDiff, Nat.reduceLT, ↓reduceIte, Int.reduceToNat, Nat.reduceLeDiff,  c0, z0, cv1, cv2, cl, cs, ne]
    exact ⟨h.used, (Below.refl _ w).setCell (p := ⟨g, 0, none⟩) (Nat.le_refl _) _, Keeps.setCell _ _ _ _⟩
  · have c0 := h.row.cell (i := 0) rfl
    simp +contextual (maxSteps := 2000000) (disch := (first | omega | (simp only [SZ]; first | done | omega) | (simp only [TS] at *; omega))) only [RZ, ovw, oneC, Nat.reduceAdd, Nat.reduceMul, Nat.reduceSub, Nat.reduceEqDiff, Nat.reduceLT, ↓reduceIte, Int.reduceToNat, Nat.reduceLeDiff,  c0]
    refine W_if_f rfl ?_
    simp +contextual (maxSteps := 2000000) (disch := (first | omega | (simp only [SZ]; first | done | omega) | (simp only [TS] at *; omega))) only [RZ, ovw, oneC, Nat.reduceAdd, Nat.reduceMul, Nat.reduceSub, Nat.reduceEqDiff, Nat.reduceLT, ↓reduceIte, Int.reduceToNat, Nat.reduceLeDiff,  c0, ne]
    refine W_if_f rfl ?_
    simp +contextual (maxSteps := 2000000) (disch := (first | omega | (simp only [SZ]; first | done | omega) | (simp only [TS] at *; omega))) only [RZ, ovw, oneC, Nat.reduceAdd, Nat.reduceMul, Nat.reduceSub, Nat.reduceEqDiff, Nat.reduceLT, ↓reduceIte, Int.reduceToNat, Nat.reduceLeDiff]
    exact ⟨h, KB.refl _ _⟩
theorem pbByte_any {g : Nat} {w : World} {p : Pr} (h : PbIn g w p) (n : Nat) (hn : n < 256) (hl : p.X.length + 1 ≤ 1000000000) :
    Calls Tryz.prog 120 #[.pointer (some ⟨g, 0, none⟩), .int .u8 n] w fun e w' => e = .returned .nilIface ∧ PbIn g w' (p.add [n]) ∧ KB g w w' := by
  refine calls_W (l := [_, _]) Tryz.func120 rfl _ Tryz.ntmps120 (by simp) ?_
  obtain ⟨q, A, c, h⟩ := h
  simp +contextual (maxSteps := 2000000) (disch := (first | omega | (simp only [SZ]; first | done | omega) | (simp only [TS] at *; omega))) only [RZ, ovw, oneC, Nat.reduceAdd, Nat.reduceMul, Nat.reduceSub, Nat.reduceEqDiff, Nat.reduceLT, ↓reduceIte, Int.reduceToNat, Nat.reduceLeDiff]
  refine (pbCheck_any h).mono ?_
  rintro e w1 ⟨rfl, h1, k1⟩
  refine ⟨_, rfl, ?_⟩
  have hI : sliceI Tryz.prog 65 = some (5, 1, 1) := by kernel_rfl
  have c1 := h1.row.cell (i := 1) rfl
  have hlt := h1.row.lt
  have hsz := k1.1.size
  obtain ⟨A', c', w2, he, hown2, hg2, _⟩ := vAppend_own (P := Tryz.prog) (T := 65) (ty := 65) (m := 1) (c := 1) (b := w1.heap.size) (o := 0) (news := [.int .u8 n]) hI (h1.own.alloc (.cells #[.int .u8 n] 5)) rfl
    (fun j u hu => by rw [Nat.zero_add, (new_block w1 #[.int .u8 n] 5).1 j]; simpa using hu) (fun u hu => by simp at hu; subst hu; rfl) (by omega) (by omega) (by rw [World.size_alloc]; omega)
  have hb2 : w2.heap[g]? = some (.cells #[.pointer (some ⟨g, 0, none⟩), .slice A p.X.length c, .bool p.bad] 69 (0, 0)) := by
    rw [hg2.block g (by simp; omega) (fun e => h1.ne e.symm), Lib.alloc_old w1 _ g hlt]
    exact h1.blk
  have d1 : w2.cell? ⟨g, 1, none⟩ = some (.slice A p.X.length c) := by rw [Lib.cell_of_heap hb2]; rfl
  have f1 : w2.frozen? ⟨g, 1, none⟩ = false := Lib.frozen_of_heap hb2 1
  simp +contextual (maxSteps := 2000000) (disch := (first | omega | (simp only [SZ]; first | done | omega) | (simp only [TS] at *; omega))) only [RZ, ovw, oneC, Nat.reduceAdd, Nat.reduceMul, Nat.reduceSub, Nat.reduceEqDiff, Nat.reduceLT, ↓reduceIte, Int.reduceToNat, Nat.reduceLeDiff,  c1, he, d1, f1]
  refine ⟨⟨some ⟨g, 0, none⟩, A', c', ?_, .inr rfl, ?_, ?_⟩, (k1.1.alloc (by omega) _).grown hg2 (by simp; omega) (fun k hk => by have := (h1.own.lt k hk).1; omega) |>.setCell (p := ⟨g, 1, none⟩) (Nat.le_refl _) _,
    ((k1.2.trans (Keeps.alloc _ _ _)).trans (Keeps.grown (h1.own.alloc _) hg2)).trans (Keeps.setCell _ _ _ _)⟩
  · simp [World.setCell, Array.getElem?_modify, hb2, Pr.add]
  · have : (byV (p.X ++ [n])) = byV p.X ++ [.int .u8 n] := byV_app _ _
    have h3 := owns_keep (w' := w2.setCell ⟨g, 1, none⟩ (.slice A' (p.X.length + 1) c')) hown2 fun b hb => Below.heap_setCell _ _ _ _ (by
      have := (owns_ge hown2 hb).1
      show b ≠ g
      omega)
    unfold Pr.add
    rw [this, List.length_append]
    exact h3
  · intro m hm
    rcases List.mem_append.1 hm with hm | hm
    · exact h.small m hm
    · simp at hm; omega
theorem pbStr_any {g : Nat} {w : World} {p : Pr} (h : PbIn g w p) (s : ByteArray) (hl : p.X.length + s.size ≤ 1000000000) :
    Calls Tryz.prog 30 #[.pointer (some ⟨g, 0, none⟩), .string s] w fun e w' => e = .returned (.tuple #[.int .i64 s.size, .nilIface]) ∧ PbIn g w' (p.add (bs s)) ∧ KB g w w' := by
  refine calls_W (l := [_, _]) Tryz.func30 rfl _ Tryz.ntmps30 (by simp) ?_
  obtain ⟨q, A, c, h⟩ := h
  simp +contextual (maxSteps := 2000000) (disch := (first | omega | (simp only [SZ]; first | done | omega) | (simp only [TS] at *; omega))) only [RZ, ovw, oneC, Nat.reduceAdd, Nat.reduceMul, Nat.reduceSub, Nat.reduceEqDiff, Nat.reduceLT, ↓reduceIte, Int.reduceToNat, Nat.reduceLeDiff]
  refine (pbCheck_any h).mono ?_
  rintro e w1 ⟨rfl, h1, k1⟩
  refine ⟨_, rfl, ?_⟩
  obtain ⟨i0, hi, hz0, hz1, hz2⟩ := info_parts (show (Tryz.prog.info? 5).map (fun i => (i.zero, i.size, i.bytes)) = some (some (.int .u8 0), 1, 1) by kernel_rfl)
  have c1 := h1.row.cell (i := 1) rfl
  have hlt := h1.row.lt
  have hsz := k1.1.size
  obtain ⟨v', w2, he0, hown2, hg2, _⟩ := Lib.run_append_own_string (P := Tryz.prog) (w := w1) (g + 1) 65 9 65 5 i0 Tryz.underlying65 Tryz.underlying9 hi hz0 hz1 hz2 (.slice A p.X.length c) p.X.length (byV p.X) h1.own s (by unfold maxLen; omega) (by omega) (by omega)
  have he : vAppend Tryz.prog 65 9 65 (.slice A p.X.length c) (.string s) w1 = .ok (.value v') w2 := by simp [vAppend, he0]
  obtain ⟨A', n', c', rfl, hn'⟩ : ∃ A n c, v' = .slice A n c ∧ n = p.X.length + s.size := by
    rcases hown2.2 with ⟨hv, h0⟩ | ⟨g, cap, cur, hv, _⟩
    · exact ⟨none, 0, 0, hv, h0.symm⟩
    · exact ⟨_, _, _, hv, rfl⟩
  subst hn'
  have hb2 : w2.heap[g]? = some (.cells #[.pointer (some ⟨g, 0, none⟩), .slice A p.X.length c, .bool p.bad] 69 (0, 0)) := by
    rw [hg2.block g hlt (fun e => h1.ne e.symm)]
    exact h1.blk
  have d1 : w2.cell? ⟨g, 1, none⟩ = some (.slice A p.X.length c) := by rw [Lib.cell_of_heap hb2]; rfl
  have f1 : w2.frozen? ⟨g, 1, none⟩ = false := Lib.frozen_of_heap hb2 1
  simp +contextual (maxSteps := 2000000) (disch := (first | omega | (simp only [SZ]; first | done | omega) | (simp only [TS] at *; omega))) only [RZ, ovw, oneC, Nat.reduceAdd, Nat.reduceMul, Nat.reduceSub, Nat.reduceEqDiff, Nat.reduceLT, ↓reduceIte, Int.reduceToNat, Nat.reduceLeDiff,  c1, he, d1, f1]
  refine ⟨⟨some ⟨g, 0, none⟩, A', c', ?_, .inr rfl, ?_, ?_⟩, (k1.1.grown hg2 (by omega) (fun k hk => by have := (h1.own.lt k hk).1; omega)).setCell (p := ⟨g, 1, none⟩) (Nat.le_refl _) _,
    (k1.2.trans (Keeps.grown h1.own hg2)).trans (Keeps.setCell _ _ _ _)⟩
  · simp [World.setCell, Array.getElem?_modify, hb2, Pr.add, bs_len]
  · have h3 := owns_keep (w' := w2.setCell ⟨g, 1, none⟩ (.slice A' (p.X.length + s.size) c')) hown2 fun b hb => Below.heap_setCell _ _ _ _ (by
      have := (owns_ge hown2 hb).1
      show b ≠ g
      omega)
    unfold Pr.add
    rw [List.length_append, bs_len, byV_app, ← strCells_bs]
    exact h3
  · intro m hm
    rcases List.mem_append.1 hm with hm | hm
    · exact h.small m hm
    · exact bs_lt s m hm
theorem pbLen_any {g : Nat} {w : World} {p : Pr} (h : PbIn g w p) : Calls Tryz.prog 38 #[.pointer (some ⟨g, 0, none⟩)] w fun e w' => e = .returned (.int .i64 p.X.length) ∧ w = w' := by
  refine calls_W (l := [_]) Tryz.func38 rfl _ Tryz.ntmps38 (by simp) ?_
  obtain ⟨q, A, c, h⟩ := h
  have c1 := h.row.cell (i := 1) rfl
  simp +contextual (maxSteps := 2000000) (disch := (first | omega | (simp only [SZ]; first | done | omega) | (simp only [TS] at *; omega))) only [RZ, ovw, oneC, Nat.reduceAdd, Nat.reduceMul, Nat.reduceSub, Nat.reduceEqDiff, Nat.reduceLT, ↓reduceIte, Int.reduceToNat, Nat.reduceLeDiff,  c1]
end Go.Proofs.YtbdkggnajipdhaaGreatDoor
