/- Texts laid one behind the other: PaL, RwA, RwB, RwC. Each says at its head what it proves. -/
import Derived.Test.YtbdkggnajipdhaaDoorRtBkZ12
import Derived.ChangeKeysEq
set_option linter.unusedSimpArgs false
/- Walks: ruletext.Parse. -/
namespace Go.Proofs.YtbdkggnajipdhaaDoor
open Nat (reduceAdd reduceMul reduceSub reduceEqDiff reduceLT reduceLeDiff)
open Go.RowKit
set_option maxRecDepth 100000
theorem invoke_clo (P : Program) (f : FuncId) (cap : List Value) (w : World) (hb : bodyB P f = true) : (invoke (.fn (.func f) cap.toArray) #[]).run P w = .ok (.enter f cap.toArray) w := by
  have := vCall_at (P := P) (f := f) (args := cap.toArray) (w := w)
  rw [hb, ifB_true] at this
  unfold vCall at this
  simpa [invoke] using this
set_option maxHeartbeats 4000000 in
theorem parse_any (s : ByteArray) (w : World) (hs : s.size ≤ 1000000) (hW : Laid w) (hw9 : 5 ≤ w.heap.size) : Calls Tryd.prog 8 #[.string s] w fun e w' => Below w.heap.size w w' ∧
    ∃ Va Vt, e = .returned (.tuple #[.agg (gmV (parseG s).1 Va Vt).toArray, .int .i64 (parseG s).2.1, .int .i64 (parseG s).2.2]) ∧ GmIn w' Va Vt (parseG s).1 := by
  refine calls_WpD (l := [_]) Tryd.func8 rfl _ Tryd.ntmps8 (by simp) ?_
  generalize hp : parseG s = r
  unfold parseG at hp
  generalize hPost : (fun (e : Ending) (w' : World) => Below w.heap.size w w' ∧ ∃ Va Vt, e = .returned (.tuple #[.agg (gmV r.1 Va Vt).toArray, .int .i64 r.2.1, .int .i64 r.2.2]) ∧ GmIn w' Va Vt r.1) = Post
  have hfin : ∀ {Va Vt : Value} {w' : World}, Below w.heap.size w w' → GmIn w' Va Vt r.1 → Post (.returned (.tuple #[.agg (gmV r.1 Va Vt).toArray, .int .i64 r.2.1, .int .i64 r.2.2])) w' := fun h1 h2 => by
    rw [← hPost]; exact ⟨h1, _, _, rfl, h2⟩
  refine WpD_seq (postX Tryd.prog Tryd.f8 Post) end_nil ?_
  simp +contextual (maxSteps := 2000000) (disch := first | omega | (simp only [SZ]; first | done | omega) | (simp only [TS] at *; omega)) only [PZ, RZ, ovw, oneC, reduceAdd, reduceMul, reduceSub, reduceEqDiff, reduceLT, ↓reduceIte, Int.reduceToNat, reduceLeDiff]
  have R1 := Row.new w 25 [Value.string ByteArray.empty, .int .i64 0, .int .i64 0, .int .i64 0, .int .i64 0, .int .i64 0, .int .i64 0, .int .i64 0, .int .i64 0, .int .i64 0, .int .i64 0, .int .i64 0, .int .i64 0, .int .i64 0, .int .i64 0, .int .i64 0, .int .i64 0, .int .i64 0, .int .i64 0, .int .i64 0, .slice none 0 0, .slice none 0 0]
  have R2 := Row.new (w.alloc (.cells #[Value.string ByteArray.empty, .int .i64 0, .int .i64 0, .int .i64 0, .int .i64 0, .int .i64 0, .int .i64 0, .int .i64 0, .int .i64 0, .int .i64 0, .int .i64 0, .int .i64 0, .int .i64 0, .int .i64 0, .int .i64 0, .int .i64 0, .int .i64 0, .int .i64 0, .int .i64 0, .int .i64 0, .slice none 0 0, .slice none 0 0] 25)) 29 [.int .i64 0]
  have R3 := Row.new ((w.alloc (.cells #[Value.string ByteArray.empty, .int .i64 0, .int .i64 0, .int .i64 0, .int .i64 0, .int .i64 0, .int .i64 0, .int .i64 0, .int .i64 0, .int .i64 0, .int .i64 0, .int .i64 0, .int .i64 0, .int .i64 0, .int .i64 0, .int .i64 0, .int .i64 0, .int .i64 0, .int .i64 0, .int .i64 0, .slice none 0 0, .slice none 0 0] 25)).alloc (.cells #[.int .i64 0] 29)) 3 [.int .i64 0]
  have hB0 := below_alloc w (.cells #[Value.string ByteArray.empty, .int .i64 0, .int .i64 0, .int .i64 0, .int .i64 0, .int .i64 0, .int .i64 0, .int .i64 0, .int .i64 0, .int .i64 0, .int .i64 0, .int .i64 0, .int .i64 0, .int .i64 0, .int .i64 0, .int .i64 0, .int .i64 0, .int .i64 0, .int .i64 0, .int .i64 0, .slice none 0 0, .slice none 0 0] 25)
  have z0 : ((w.alloc (.cells #[Value.string ByteArray.empty, .int .i64 0, .int .i64 0, .int .i64 0, .int .i64 0, .int .i64 0, .int .i64 0, .int .i64 0, .int .i64 0, .int .i64 0, .int .i64 0, .int .i64 0, .int .i64 0, .int .i64 0, .int .i64 0, .int .i64 0, .int .i64 0, .int .i64 0, .int .i64 0, .int .i64 0, .slice none 0 0, .slice none 0 0] 25)).alloc (.cells #[.int .i64 0] 29)).heap.size = w.heap.size + 1 + 1 := by rw [World.size_alloc, World.size_alloc]
  have z1 : (((w.alloc (.cells #[Value.string ByteArray.empty, .int .i64 0, .int .i64 0, .int .i64 0, .int .i64 0, .int .i64 0, .int .i64 0, .int .i64 0, .int .i64 0, .int .i64 0, .int .i64 0, .int .i64 0, .int .i64 0, .int .i64 0, .int .i64 0, .int .i64 0, .int .i64 0, .int .i64 0, .int .i64 0, .int .i64 0, .slice none 0 0, .slice none 0 0] 25)).alloc (.cells #[.int .i64 0] 29)).alloc (.cells #[.int .i64 0] 3)).heap.size = w.heap.size + 1 + 1 + 1 := by rw [World.size_alloc, z0]
  have hB1 := (hB0.trans ((below_alloc _ (.cells #[.int .i64 0] 29)).mono (by rw [World.size_alloc]; omega))).trans ((below_alloc _ (.cells #[.int .i64 0] 3)).mono (by rw [z0]; omega))
  replace R1 := (R1.alloc (.cells #[.int .i64 0] 29)).alloc (.cells #[.int .i64 0] 3)
  replace R2 := R2.alloc (.cells #[.int .i64 0] 3)
  rw [World.size_alloc] at R2
  rw [z0] at R3
  replace R1 : Row (((w.alloc (.cells #[Value.string ByteArray.empty, .int .i64 0, .int .i64 0, .int .i64 0, .int .i64 0, .int .i64 0, .int .i64 0, .int .i64 0, .int .i64 0, .int .i64 0, .int .i64 0, .int .i64 0, .int .i64 0, .int .i64 0, .int .i64 0, .int .i64 0, .int .i64 0, .int .i64 0, .int .i64 0, .int .i64 0, .slice none 0 0, .slice none 0 0] 25)).alloc (.cells #[.int .i64 0] 29)).alloc (.cells #[.int .i64 0] 3)) _ _ _ := R1
  replace R2 : Row (((w.alloc (.cells #[Value.string ByteArray.empty, .int .i64 0, .int .i64 0, .int .i64 0, .int .i64 0, .int .i64 0, .int .i64 0, .int .i64 0, .int .i64 0, .int .i64 0, .int .i64 0, .int .i64 0, .int .i64 0, .int .i64 0, .int .i64 0, .int .i64 0, .int .i64 0, .int .i64 0, .int .i64 0, .int .i64 0, .slice none 0 0, .slice none 0 0] 25)).alloc (.cells #[.int .i64 0] 29)).alloc (.cells #[.int .i64 0] 3)) _ _ _ := R2
  replace R3 : Row (((w.alloc (.cells #[Value.string ByteArray.empty, .int .i64 0, .int .i64 0, .int .i64 0, .int .i64 0, .int .i64 0, .int .i64 0, .int .i64 0, .int .i64 0, .int .i64 0, .int .i64 0, .int .i64 0, .int .i64 0, .int .i64 0, .int .i64 0, .int .i64 0, .int .i64 0, .int .i64 0, .int .i64 0, .int .i64 0, .slice none 0 0, .slice none 0 0] 25)).alloc (.cells #[.int .i64 0] 29)).alloc (.cells #[.int .i64 0] 3)) _ _ _ := R3
  clear hB0 z0
  generalize ((w.alloc (.cells #[Value.string ByteArray.empty, .int .i64 0, .int .i64 0, .int .i64 0, .int .i64 0, .int .i64 0, .int .i64 0, .int .i64 0, .int .i64 0, .int .i64 0, .int .i64 0, .int .i64 0, .int .i64 0, .int .i64 0, .int .i64 0, .int .i64 0, .int .i64 0, .int .i64 0, .int .i64 0, .int .i64 0, .slice none 0 0, .slice none 0 0] 25)).alloc (.cells #[.int .i64 0] 29)).alloc (.cells #[.int .i64 0] 3) = w0 at *
  generalize hn : w.heap.size = n at *
  refine WpD_seq (postX Tryd.prog Tryd.f8 Post) end_nil ?_
  simp +contextual (maxSteps := 2000000) (disch := first | omega | (simp only [SZ]; first | done | omega) | (simp only [TS] at *; omega)) only [PZ, RZ, ovw, oneC, reduceAdd, reduceMul, reduceSub, reduceEqDiff, reduceLT, ↓reduceIte, Int.reduceToNat, reduceLeDiff]
  refine (scan_any s w0 hs).mono ?_
  rintro e w1 ⟨hB2, v, rfl, A, c, rfl, hown⟩
  have htok := scan_tokOk (s := s)
  have hoff := scan_off (s := s)
  generalize hSC : scanE s = SC at *
  replace R1 := R1.below hB2
  replace R2 := R2.below hB2
  replace R3 := R3.below hB2
  have hF1 := hB1.trans (hB2.mono (by omega))
  have zz1 := hB2.size
  have e0 := R2.cell (i := 0) rfl
  have e0z := R2.frozen 0
  simp +contextual (maxSteps := 2000000) (disch := first | omega | (simp only [SZ]; first | done | omega) | (simp only [TS] at *; omega)) only [PZ, RZ, ovw, oneC, reduceAdd, reduceMul, reduceSub, reduceEqDiff, reduceLT, ↓reduceIte, Int.reduceToNat, reduceLeDiff,  e0, e0z]
  replace R1 := R1.far (p := ⟨n + 1, 0, none⟩) (by show n ≠ n + 1; omega) (.int .i64 SC.1)
  replace R3 := R3.far (p := ⟨n + 1, 0, none⟩) (by show n + 1 + 1 ≠ n + 1; omega) (.int .i64 SC.1)
  replace R2 := R2.set_ (i := 0) (by simp) (.int .i64 SC.1)
  replace R2 : Row (w1.setCell ⟨n + 1, 0, none⟩ (.int .i64 SC.1)) (n + 1) 29 [.int .i64 SC.1] := R2
  have hF2 : Below n w (w1.setCell ⟨n + 1, 0, none⟩ (.int .i64 SC.1)) := hF1.setCell (p := ⟨n + 1, 0, none⟩) (by show n ≤ n + 1; omega) _
  replace hown : (w1.setCell ⟨n + 1, 0, none⟩ (.int .i64 SC.1)).ownsRow w0.heap.size 38 4 (.slice A SC.2.2.length c) SC.2.2.length (SC.2.2.flatMap encTk) := owns_keep hown fun b hb => Below.heap_setCell _ _ _ _ (by have := (owns_ge hown hb).1; show b ≠ n + 1; omega)
  have zz2 : w1.heap.size ≤ (w1.setCell ⟨n + 1, 0, none⟩ (.int .i64 SC.1)).heap.size := by rw [World.size_setCell]; exact Nat.le_refl _
  generalize w1.setCell ⟨n + 1, 0, none⟩ (.int .i64 SC.1) = w2 at *
  clear e0 e0z
  have e0 := R2.cell (i := 0) rfl
  refine WpD_seq (postX Tryd.prog Tryd.f8 Post) end_nil ?_
  refine WX_piece fun K hK hX => ?_
  simp +contextual (maxSteps := 2000000) (disch := first | omega | (simp only [SZ]; first | done | omega) | (simp only [TS] at *; omega)) only [PZ, RZ, ovw, oneC, reduceAdd, reduceMul, reduceSub, reduceEqDiff, reduceLT, ↓reduceIte, Int.reduceToNat, reduceLeDiff,  e0]
  refine hK _ _ ?_
  clear hK hX K
  by_cases hc3 : SC.1 = 3
  · rw [if_pos hc3] at hp
    subst hp
    have hd3 : decide (SC.1 = 3) = true := by simpa using hc3
    refine WX_if_t (by rw [show ev _ (.tmp 15) = .bool (decide (SC.1 = 3)) from rfl, hd3]) ?_
    refine WX_piece fun K hK hX => ?_
    simp +contextual (maxSteps := 2000000) (disch := first | omega | (simp only [SZ]; first | done | omega) | (simp only [TS] at *; omega)) only [PZ, RZ, ovw, oneC, reduceAdd, reduceMul, reduceSub, reduceEqDiff, reduceLT, ↓reduceIte, Int.reduceToNat, reduceLeDiff]
    refine RawD_mono (Q := fun e σ w' => e = .normal ∧ Row w' n 25 [Value.string ByteArray.empty, .int .i64 0, .int .i64 0, .int .i64 0, .int .i64 0, .int .i64 0, .int .i64 0, .int .i64 0, .int .i64 0, .int .i64 0, .int .i64 0, .int .i64 0, .int .i64 0, .int .i64 0, .int .i64 0, .int .i64 0, .int .i64 0, .int .i64 0, .int .i64 0, .int .i64 0, .slice none 0 0, .slice none 0 0] ∧ Row w' (n + 1) 29 [.int .i64 SC.1] ∧ Row w' (n + 1 + 1) 3 [.int .i64 0] ∧ Below n w w' ∧ σ 2 = .pointer (some ⟨n, 0, none⟩) ∧ σ 3 = .pointer (some ⟨n + 1, 0, none⟩) ∧ σ 4 = .pointer (some ⟨n + 1 + 1, 0, none⟩)) ?_ ?_
    · rintro e σ w' ⟨rfl, q1, q2, q3, q4, f2, f3, f4⟩
      refine hK _ _ ?_
      have y0 := q1.cell (i := 0) rfl
      have y1 := q1.cell (i := 1) rfl
      have y2 := q1.cell (i := 2) rfl
      have y3 := q1.cell (i := 3) rfl
      have y4 := q1.cell (i := 4) rfl
      have y5 := q1.cell (i := 5) rfl
      have y6 := q1.cell (i := 6) rfl
      have y7 := q1.cell (i := 7) rfl
      have y8 := q1.cell (i := 8) rfl
      have y9 := q1.cell (i := 9) rfl
      have y10 := q1.cell (i := 10) rfl
      have y11 := q1.cell (i := 11) rfl
      have y12 := q1.cell (i := 12) rfl
      have y13 := q1.cell (i := 13) rfl
      have y14 := q1.cell (i := 14) rfl
      have y15 := q1.cell (i := 15) rfl
      have y16 := q1.cell (i := 16) rfl
      have y17 := q1.cell (i := 17) rfl
      have y18 := q1.cell (i := 18) rfl
      have y19 := q1.cell (i := 19) rfl
      have y20 := q1.cell (i := 20) rfl
      have y21 := q1.cell (i := 21) rfl
      have x0 := q2.cell (i := 0) rfl
      have l0 := q3.cell (i := 0) rfl
      simp +contextual (maxSteps := 2000000) (disch := first | omega | (simp only [SZ]; first | done | omega) | (simp only [TS] at *; omega)) only [PZ, RZ, ovw, oneC, reduceAdd, reduceMul, reduceSub, reduceEqDiff, reduceLT, ↓reduceIte, Int.reduceToNat, reduceLeDiff,  f2, f3, f4, x0, l0, y0, y1, y2, y3, y4, y5, y6, y7, y8, y9, y10, y11, y12, y13, y14, y15, y16, y17, y18, y19, y20, y21]
      have := hfin (Va := .slice none 0 0) (Vt := .slice none 0 0) q4 (GmIn.nil w')
      rw [hc3]
      exact this
    · clear hK hX K
      refine RawD_of (Raw_rcS (τ := ?ta) (fun w' => Row w' (n + 1) 29 [.int .i64 SC.1]) [0, 1] [2, 3, 4] MX rfl (by kernel_rfl) (by kernel_rfl) (by kernel_rfl) (fun _ _ _ h => Exit.noConfusion h.1) R2 (fun w7 h7 => ?_) ?_); rotate_left
      · have x0 := h7.cell (i := 0) rfl
        simp only [opsL_cons, opsL_nil, List.getElem?_toArray, List.getElem?_cons_zero, List.getElem?_cons_succ, optL_some]
        simp +contextual (maxSteps := 2000000) (disch := first | omega | (simp only [SZ]; first | done | omega) | (simp only [TS] at *; omega)) only [RZ, ovw, oneC, reduceAdd, reduceMul, reduceSub, reduceEqDiff, reduceLT, ↓reduceIte, Int.reduceToNat, reduceLeDiff,  x0]
        exact rfl
      replace R1 : Row w2.drew n 25 _ := R1
      replace R2 : Row w2.drew (n + 1) 29 _ := R2
      replace R3 : Row w2.drew (n + 1 + 1) 3 _ := R3
      replace hF2 : Below n w w2.drew := below_drew hF2
      generalize w2.drew = w3 at *
      have y0 := R1.cell (i := 0) rfl
      have yz0 := R1.frozen 0
      have y1 := R1.cell (i := 1) rfl
      have yz1 := R1.frozen 1
      have y2 := R1.cell (i := 2) rfl
      have yz2 := R1.frozen 2
      have y3 := R1.cell (i := 3) rfl
      have yz3 := R1.frozen 3
      have y4 := R1.cell (i := 4) rfl
      have yz4 := R1.frozen 4
      have y5 := R1.cell (i := 5) rfl
      have yz5 := R1.frozen 5
      have y6 := R1.cell (i := 6) rfl
      have yz6 := R1.frozen 6
      have y7 := R1.cell (i := 7) rfl
      have yz7 := R1.frozen 7
      have y8 := R1.cell (i := 8) rfl
      have yz8 := R1.frozen 8
      have y9 := R1.cell (i := 9) rfl
      have yz9 := R1.frozen 9
      have y10 := R1.cell (i := 10) rfl
      have yz10 := R1.frozen 10
      have y11 := R1.cell (i := 11) rfl
      have yz11 := R1.frozen 11
      have y12 := R1.cell (i := 12) rfl
      have yz12 := R1.frozen 12
      have y13 := R1.cell (i := 13) rfl
      have yz13 := R1.frozen 13
      have y14 := R1.cell (i := 14) rfl
      have yz14 := R1.frozen 14
      have y15 := R1.cell (i := 15) rfl
      have yz15 := R1.frozen 15
      have y16 := R1.cell (i := 16) rfl
      have yz16 := R1.frozen 16
      have y17 := R1.cell (i := 17) rfl
      have yz17 := R1.frozen 17
      have y18 := R1.cell (i := 18) rfl
      have yz18 := R1.frozen 18
      have y19 := R1.cell (i := 19) rfl
      have yz19 := R1.frozen 19
      have y20 := R1.cell (i := 20) rfl
      have yz20 := R1.frozen 20
      have y21 := R1.cell (i := 21) rfl
      have yz21 := R1.frozen 21
      have x0 := R2.cell (i := 0) rfl
      have x0z := R2.frozen 0
      have l0 := R3.cell (i := 0) rfl
      have l0z := R3.frozen 0
      simp only [opsL_cons, opsL_nil, List.getElem?_toArray, List.getElem?_cons_zero, List.getElem?_cons_succ, optL_some]
      simp +contextual (maxSteps := 2000000) (disch := first | omega | (simp only [SZ]; first | done | omega) | (simp only [TS] at *; omega)) only [RZ, ovw, oneC, reduceAdd, reduceMul, reduceSub, reduceEqDiff, reduceLT, ↓reduceIte, Int.reduceToNat, reduceLeDiff,  EC_op, EC_nil, x0, x0z, l0, l0z, y0, yz0, y1, yz1, y2, yz2, y3, yz3, y4, yz4, y5, yz5, y6, yz6, y7, yz7, y8, yz8, y9, yz9, y10, yz10, y11, yz11, y12, yz12, y13, yz13, y14, yz14, y15, yz15, y16, yz16, y17, yz17, y18, yz18, y19, yz19, y20, yz20, y21, yz21]
      have S1 := stW_row (g := n) (T := 25) [Value.string ByteArray.empty, .int .i64 0, .int .i64 0, .int .i64 0, .int .i64 0, .int .i64 0, .int .i64 0, .int .i64 0, .int .i64 0, .int .i64 0, .int .i64 0, .int .i64 0, .int .i64 0, .int .i64 0, .int .i64 0, .int .i64 0, .int .i64 0, .int .i64 0, .int .i64 0, .int .i64 0, .slice none 0 0, .slice none 0 0] 0 w3 _ R1 rfl
      have kA := stW_kept (X := [n]) (g := n) (by simp) [Value.string ByteArray.empty, .int .i64 0, .int .i64 0, .int .i64 0, .int .i64 0, .int .i64 0, .int .i64 0, .int .i64 0, .int .i64 0, .int .i64 0, .int .i64 0, .int .i64 0, .int .i64 0, .int .i64 0, .int .i64 0, .int .i64 0, .int .i64 0, .int .i64 0, .int .i64 0, .int .i64 0, .slice none 0 0, .slice none 0 0] 0 w3 w3 (Kept.refl _ _)
      simp only [stW, reduceAdd, List.take_zero, List.nil_append] at S1 kA
      have hFA : Below n w _ := hF2.trans ⟨kA.os, kA.tape, kA.output, kA.size, fun i hi => kA.block i (by have := hF2.size; omega) (by simp; omega)⟩
      replace R2 := R2.kept kA (by simp)
      replace R3 := R3.kept kA (by simp; omega)
      clear kA x0 x0z l0 l0z
      generalize w3.setCell ⟨n, 0, none⟩ _ = u0 at *
      have T2 := R2.set_ (i := 0) (by simp) (.int .i64 SC.1)
      have T3 := (R3.far (p := ⟨n + 1, 0, none⟩) (by show n + 1 + 1 ≠ n + 1; omega) (.int .i64 SC.1)).set_ (i := 0) (by simp) (.int .i64 0)
      refine ⟨R2, T2, T2.far (p := ⟨n + 1 + 1, 0, none⟩) (by show n + 1 ≠ n + 1 + 1; omega) _, (S1.far (p := ⟨n + 1, 0, none⟩) (by show n ≠ n + 1; omega) _).far (p := ⟨n + 1 + 1, 0, none⟩) (by show n ≠ n + 1 + 1; omega) _, T2.far (p := ⟨n + 1 + 1, 0, none⟩) (by show n + 1 ≠ n + 1 + 1; omega) _, T3, (hFA.setCell (p := ⟨n + 1, 0, none⟩) (by show n ≤ n + 1; omega) _).setCell (p := ⟨n + 1 + 1, 0, none⟩) (by show n ≤ n + 1 + 1; omega) _⟩
  rw [if_neg hc3] at hp
  have hd3 : decide (SC.1 = 3) = false := by simpa using hc3
  refine WX_if_f (by rw [show ev _ (.tmp 15) = .bool (decide (SC.1 = 3)) from rfl, hd3]) ?_
  rw [WX_skip, thenX_normal]
  refine WpD_seq (postX Tryd.prog Tryd.f8 Post) end_nil ?_
  refine WX_piece fun K hK hX => ?_
  simp +contextual (maxSteps := 2000000) (disch := first | omega | (simp only [SZ]; first | done | omega) | (simp only [TS] at *; omega)) only [PZ, RZ, ovw, oneC, reduceAdd, reduceMul, reduceSub, reduceEqDiff, reduceLT, ↓reduceIte, Int.reduceToNat, reduceLeDiff,  e0]
  refine hK _ _ ?_
  clear hK hX K
  by_cases hc0 : SC.1 = 0
  · rw [if_neg (fun h => h hc0)] at hp
    have hd0 : (!decide (SC.1 = 0)) = false := by simpa using hc0
    refine WX_if_f (by rw [show ev _ (.tmp 19) = .bool (!decide (SC.1 = 0)) from rfl, hd0]) ?_
    rw [WX_skip, thenX_normal]
    obtain ⟨hTk, hpos⟩ := htok hc0
    have hBF : bodyB Tryd.prog 25 = true := by kernel_rfl
    have hinv : ∀ w', (invoke (.fn (.func 25) #[.pointer (some ⟨n, 0, none⟩), .pointer (some ⟨n + 1, 0, none⟩), .pointer (some ⟨n + 1 + 1, 0, none⟩)]) #[]).run Tryd.prog w' = .ok (.enter 25 #[.pointer (some ⟨n, 0, none⟩), .pointer (some ⟨n + 1, 0, none⟩), .pointer (some ⟨n + 1 + 1, 0, none⟩)]) w' :=
      fun w' => invoke_clo Tryd.prog 25 [.pointer (some ⟨n, 0, none⟩), .pointer (some ⟨n + 1, 0, none⟩), .pointer (some ⟨n + 1 + 1, 0, none⟩)] w' hBF
    have hdoor := end_one (fn := Tryd.f8) (R := Post) (n := 34) hinv
    generalize hσ : upd _ 19 _ = σ5
    have s2 : σ5 2 = .pointer (some ⟨n, 0, none⟩) := by rw [← hσ]; rfl
    have s3 : σ5 3 = .pointer (some ⟨n + 1, 0, none⟩) := by rw [← hσ]; rfl
    have s4 : σ5 4 = .pointer (some ⟨n + 1 + 1, 0, none⟩) := by rw [← hσ]; rfl
    have s5 : σ5 5 = .slice A SC.2.2.length c := by rw [← hσ]; rfl
    clear hσ
    intro a hf
    refine wp_seq (wp_region_list (wp_mkdefer (caps := [.tmp 2, .tmp 3, .tmp 4]) hf (by omega) fun a' hf' => ?_))
    rw [show [Operand.tmp 2, .tmp 3, .tmp 4].map (ev σ5) = [σ5 2, σ5 3, σ5 4] from rfl, s2, s3, s4] at hf'
    refine WpD_of _ hdoor ?_ a' hf'
    clear hf hf' a a'
    have g2 : (upd σ5 27 (.func (.func 25) #[] #[.pointer (some ⟨n, 0, none⟩), .pointer (some ⟨n + 1, 0, none⟩), .pointer (some ⟨n + 1 + 1, 0, none⟩)])) 2 = .pointer (some ⟨n, 0, none⟩) := s2
    have g3 : (upd σ5 27 (.func (.func 25) #[] #[.pointer (some ⟨n, 0, none⟩), .pointer (some ⟨n + 1, 0, none⟩), .pointer (some ⟨n + 1 + 1, 0, none⟩)])) 3 = .pointer (some ⟨n + 1, 0, none⟩) := s3
    have g4 : (upd σ5 27 (.func (.func 25) #[] #[.pointer (some ⟨n, 0, none⟩), .pointer (some ⟨n + 1, 0, none⟩), .pointer (some ⟨n + 1 + 1, 0, none⟩)])) 4 = .pointer (some ⟨n + 1 + 1, 0, none⟩) := s4
    have g5 : (upd σ5 27 (.func (.func 25) #[] #[.pointer (some ⟨n, 0, none⟩), .pointer (some ⟨n + 1, 0, none⟩), .pointer (some ⟨n + 1 + 1, 0, none⟩)])) 5 = .slice A SC.2.2.length c := s5
    generalize upd σ5 27 _ = σ6 at *
    clear s2 s3 s4 s5
    refine WX_piece fun K hK hX => ?_
    simp +contextual (maxSteps := 2000000) (disch := first | omega | (simp only [SZ]; first | done | omega) | (simp only [TS] at *; omega)) only [PZ, RZ, ovw, oneC, reduceAdd, reduceMul, reduceSub, reduceEqDiff, reduceLT, ↓reduceIte, Int.reduceToNat, reduceLeDiff,  g2, g3, g4, g5]
    have hM := below_alloc w2 (.map #[] 0)
    have sn := SeenIn.new w2
    have zM : (w2.alloc (.map #[] 0)).heap.size = w2.heap.size + 1 := World.size_alloc _ _
    have pr := Row.new (w2.alloc (.map #[] 0)) 71 [.slice A SC.2.2.length c, .int .i64 0, .map (some w2.heap.size), .string ByteArray.empty, .int .i64 0, .int .i64 0, .int .i64 0, .int .i64 0, .int .i64 0, .int .i64 0, .int .i64 0, .int .i64 0, .int .i64 0, .int .i64 0, .int .i64 0, .int .i64 0, .int .i64 0, .int .i64 0, .int .i64 0, .int .i64 0, .int .i64 0, .int .i64 0, .int .i64 0, .slice none 0 0, .slice none 0 0]
    have hP := below_alloc (w2.alloc (.map #[] 0)) (.cells #[Value.slice A SC.2.2.length c, .int .i64 0, .map (some w2.heap.size), .string ByteArray.empty, .int .i64 0, .int .i64 0, .int .i64 0, .int .i64 0, .int .i64 0, .int .i64 0, .int .i64 0, .int .i64 0, .int .i64 0, .int .i64 0, .int .i64 0, .int .i64 0, .int .i64 0, .int .i64 0, .int .i64 0, .int .i64 0, .int .i64 0, .int .i64 0, .int .i64 0, .slice none 0 0, .slice none 0 0] 71)
    replace pr : Row ((w2.alloc (.map #[] 0)).alloc (.cells #[Value.slice A SC.2.2.length c, .int .i64 0, .map (some w2.heap.size), .string ByteArray.empty, .int .i64 0, .int .i64 0, .int .i64 0, .int .i64 0, .int .i64 0, .int .i64 0, .int .i64 0, .int .i64 0, .int .i64 0, .int .i64 0, .int .i64 0, .int .i64 0, .int .i64 0, .int .i64 0, .int .i64 0, .int .i64 0, .int .i64 0, .int .i64 0, .int .i64 0, .slice none 0 0, .slice none 0 0] 71)) _ _ _ := pr
    rw [zM] at pr
    have hB3 : Below w2.heap.size w2 _ := hM.trans (hP.mono (by omega))
    replace sn := sn.kept (Kept.of_below (X := []) hP) (by simp)
    have zP : ((w2.alloc (.map #[] 0)).alloc (.cells #[Value.slice A SC.2.2.length c, .int .i64 0, .map (some w2.heap.size), .string ByteArray.empty, .int .i64 0, .int .i64 0, .int .i64 0, .int .i64 0, .int .i64 0, .int .i64 0, .int .i64 0, .int .i64 0, .int .i64 0, .int .i64 0, .int .i64 0, .int .i64 0, .int .i64 0, .int .i64 0, .int .i64 0, .int .i64 0, .int .i64 0, .int .i64 0, .int .i64 0, .slice none 0 0, .slice none 0 0] 71)).heap.size = w2.heap.size + 1 + 1 := by rw [World.size_alloc, zM]
    clear hM hP zM
    generalize hw3 : (w2.alloc (.map #[] 0)).alloc (.cells #[Value.slice A SC.2.2.length c, .int .i64 0, .map (some w2.heap.size), .string ByteArray.empty, .int .i64 0, .int .i64 0, .int .i64 0, .int .i64 0, .int .i64 0, .int .i64 0, .int .i64 0, .int .i64 0, .int .i64 0, .int .i64 0, .int .i64 0, .int .i64 0, .int .i64 0, .int .i64 0, .int .i64 0, .int .i64 0, .int .i64 0, .int .i64 0, .int .i64 0, .slice none 0 0, .slice none 0 0] 71) = w3 at *
    clear hw3
    refine hK _ _ ?_
    clear hK hX K
    have hrow := owns_row hown hpos |>.choose_spec
    generalize (owns_row hown hpos).choose = gt at *
    obtain ⟨rfl, hgt, hrt, _, _⟩ := hrow
    have harr : Arr w2 (some ⟨gt, 0, none⟩) 4 (SC.2.2.map encTk) := hrt.arr (fun _ => rfl)
    have hgtl := hrt.lt
    have hF3 : Below n w w3 := hF2.trans (hB3.mono (by omega))
    have h0 : GmSt w3 w2.heap.size (w2.heap.size + 1) w2.heap.size (some ⟨gt, 0, none⟩) c SC.2.2 0 noGm [] (.slice none 0 0) (.slice none 0 0) [] := by
      refine ⟨⟨hpos, harr.below hB3, fun b o e => by injection e with e; injection e with e; omega, pr⟩, sn, ⟨rfl, fun i cs x h => by simp at h⟩, owns_nil _ _ _ _, owns_nil _ _ _ _, Nat.le_refl _, Nat.le_refl _, fun _ => rfl, fun b o e => by injection e with e; injection e with e; omega, by omega, by omega, Nat.le_refl _, by omega⟩
    have hW3 : Laid w3 := hW.below hF3 (by omega)
    have Q1 := R1.below hB3
    have Q2 := R2.below hB3
    have Q3 := R3.below hB3
    have hlts : n + 1 + 1 < w2.heap.size := R3.lt
    refine WX_piece fun K hK hX => ?_
    simp +contextual (maxSteps := 2000000) (disch := first | omega | (simp only [SZ]; first | done | omega) | (simp only [TS] at *; omega)) only [PZ, RZ, ovw, oneC, reduceAdd, reduceMul, reduceSub, reduceEqDiff, reduceLT, ↓reduceIte, Int.reduceToNat, reduceLeDiff,  g2, g3, g4, g5]
    refine (paRules_any h0 hTk hW3).mono ?_
    rintro e w4 ⟨hB4, he⟩
    have P1 := Q1.of_block (hB4.block n (by omega))
    have P2 := Q2.of_block (hB4.block (n + 1) (by omega))
    have P3 := Q3.of_block (hB4.block (n + 1 + 1) (by omega))
    have hF4 : Below n w w4 := hF3.trans (hB4.mono (by omega))
    cases hg : gameT SC.2.2 with
    | error x =>
      rw [hg] at he hp
      obtain ⟨en, L⟩ := x
      have he : e = _ := he
      subst he
      dsimp only at hp
      subst hp
      rw [Ends_pan]
      refine hX _ _ _ (fun h => by cases h) ?_
      rw [postD_pan]
      refine (clo_pan P1 rfl P2 P3 (by omega) (by omega) (by omega)).mono ?_
      rintro e u' w5 ⟨rfl, rfl, T1, T2, T3, k5⟩
      refine ⟨⟨_, rfl⟩, rfl, ?_⟩
      have hF5 : Below n w w5 := hF4.trans ⟨k5.os, k5.tape, k5.output, k5.size, fun i hi => k5.block i (by have := hF4.size; omega) (by simp; omega)⟩
      have y0 := T1.cell (i := 0) rfl
      have y1 := T1.cell (i := 1) rfl
      have y2 := T1.cell (i := 2) rfl
      have y3 := T1.cell (i := 3) rfl
      have y4 := T1.cell (i := 4) rfl
      have y5 := T1.cell (i := 5) rfl
      have y6 := T1.cell (i := 6) rfl
      have y7 := T1.cell (i := 7) rfl
      have y8 := T1.cell (i := 8) rfl
      have y9 := T1.cell (i := 9) rfl
      have y10 := T1.cell (i := 10) rfl
      have y11 := T1.cell (i := 11) rfl
      have y12 := T1.cell (i := 12) rfl
      have y13 := T1.cell (i := 13) rfl
      have y14 := T1.cell (i := 14) rfl
      have y15 := T1.cell (i := 15) rfl
      have y16 := T1.cell (i := 16) rfl
      have y17 := T1.cell (i := 17) rfl
      have y18 := T1.cell (i := 18) rfl
      have y19 := T1.cell (i := 19) rfl
      have y20 := T1.cell (i := 20) rfl
      have y21 := T1.cell (i := 21) rfl
      have x0 := T2.cell (i := 0) rfl
      have l0 := T3.cell (i := 0) rfl
      simp +contextual (maxSteps := 2000000) (disch := first | omega | (simp only [SZ]; first | done | omega) | (simp only [TS] at *; omega)) only [PZ, RZ, ovw, oneC, reduceAdd, reduceMul, reduceSub, reduceEqDiff, reduceLT, ↓reduceIte, Int.reduceToNat, reduceLeDiff,  g2, g3, g4, x0, l0, y0, y1, y2, y3, y4, y5, y6, y7, y8, y9, y10, y11, y12, y13, y14, y15, y16, y17, y18, y19, y20, y21]
      exact hfin (Va := .slice none 0 0) (Vt := .slice none 0 0) hF5 (GmIn.nil w5)
    | ok G =>
      rw [hg] at he hp
      obtain ⟨rfl, a8, seen8, Va, Vt, Vs, h8⟩ := he
      dsimp only at hp
      subst hp
      rw [Ends_ret]
      refine hK _ _ ?_
      clear hK hX K
      refine WX_piece fun K hK hX => ?_
      obtain ⟨⟨Aa, ca, Vs', rfl, _⟩, At, ct, rfl, _⟩ := h8.game
      have p0 := h8.pk.row.cell (i := 3) rfl
      have p1 := h8.pk.row.cell (i := 4) rfl
      have p2 := h8.pk.row.cell (i := 5) rfl
      have p3 := h8.pk.row.cell (i := 6) rfl
      have p4 := h8.pk.row.cell (i := 7) rfl
      have p5 := h8.pk.row.cell (i := 8) rfl
      have p6 := h8.pk.row.cell (i := 9) rfl
      have p7 := h8.pk.row.cell (i := 10) rfl
      have p8 := h8.pk.row.cell (i := 11) rfl
      have p9 := h8.pk.row.cell (i := 12) rfl
      have p10 := h8.pk.row.cell (i := 13) rfl
      have p11 := h8.pk.row.cell (i := 14) rfl
      have p12 := h8.pk.row.cell (i := 15) rfl
      have p13 := h8.pk.row.cell (i := 16) rfl
      have p14 := h8.pk.row.cell (i := 17) rfl
      have p15 := h8.pk.row.cell (i := 18) rfl
      have p16 := h8.pk.row.cell (i := 19) rfl
      have p17 := h8.pk.row.cell (i := 20) rfl
      have p18 := h8.pk.row.cell (i := 21) rfl
      have p19 := h8.pk.row.cell (i := 22) rfl
      have p20 := h8.pk.row.cell (i := 23) rfl
      have p21 := h8.pk.row.cell (i := 24) rfl
      have y0 := P1.cell (i := 0) rfl
      have yz0 := P1.frozen 0
      have y1 := P1.cell (i := 1) rfl
      have yz1 := P1.frozen 1
      have y2 := P1.cell (i := 2) rfl
      have yz2 := P1.frozen 2
      have y3 := P1.cell (i := 3) rfl
      have yz3 := P1.frozen 3
      have y4 := P1.cell (i := 4) rfl
      have yz4 := P1.frozen 4
      have y5 := P1.cell (i := 5) rfl
      have yz5 := P1.frozen 5
      have y6 := P1.cell (i := 6) rfl
      have yz6 := P1.frozen 6
      have y7 := P1.cell (i := 7) rfl
      have yz7 := P1.frozen 7
      have y8 := P1.cell (i := 8) rfl
      have yz8 := P1.frozen 8
      have y9 := P1.cell (i := 9) rfl
      have yz9 := P1.frozen 9
      have y10 := P1.cell (i := 10) rfl
      have yz10 := P1.frozen 10
      have y11 := P1.cell (i := 11) rfl
      have yz11 := P1.frozen 11
      have y12 := P1.cell (i := 12) rfl
      have yz12 := P1.frozen 12
      have y13 := P1.cell (i := 13) rfl
      have yz13 := P1.frozen 13
      have y14 := P1.cell (i := 14) rfl
      have yz14 := P1.frozen 14
      have y15 := P1.cell (i := 15) rfl
      have yz15 := P1.frozen 15
      have y16 := P1.cell (i := 16) rfl
      have yz16 := P1.frozen 16
      have y17 := P1.cell (i := 17) rfl
      have yz17 := P1.frozen 17
      have y18 := P1.cell (i := 18) rfl
      have yz18 := P1.frozen 18
      have y19 := P1.cell (i := 19) rfl
      have yz19 := P1.frozen 19
      have y20 := P1.cell (i := 20) rfl
      have yz20 := P1.frozen 20
      have y21 := P1.cell (i := 21) rfl
      have yz21 := P1.frozen 21
      have x0 := P2.cell (i := 0) rfl
      have x0z := P2.frozen 0
      have l0 := P3.cell (i := 0) rfl
      have l0z := P3.frozen 0
      simp +contextual (maxSteps := 2000000) (disch := first | omega | (simp only [SZ]; first | done | omega) | (simp only [TS] at *; omega)) only [PZ, RZ, ovw, oneC, reduceAdd, reduceMul, reduceSub, reduceEqDiff, reduceLT, ↓reduceIte, Int.reduceToNat, reduceLeDiff,  g2, g3, g4, x0, x0z, l0, l0z, p0, p1, p2, p3, p4, p5, p6, p7, p8, p9, p10, p11, p12, p13, p14, p15, p16, p17, p18, p19, p20, p21, y0, yz0, y1, yz1, y2, yz2, y3, yz3, y4, yz4, y5, yz5, y6, yz6, y7, yz7, y8, yz8, y9, yz9, y10, yz10, y11, yz11, y12, yz12, y13, yz13, y14, yz14, y15, yz15, y16, yz16, y17, yz17, y18, yz18, y19, yz19, y20, yz20, y21, yz21]
      have S1 := stW_row (g := n) (T := 25) [Value.string G.name, .int .i64 (G.n 0), .int .i64 (G.n 1), .int .i64 (G.n 2), .int .i64 (G.n 3), .int .i64 (G.n 4), .int .i64 (G.n 5), .int .i64 (G.n 6), .int .i64 (G.n 7), .int .i64 (G.n 8), .int .i64 (G.n 9), .int .i64 (G.n 10), .int .i64 (G.n 11), .int .i64 (G.n 12), .int .i64 (G.n 13), .int .i64 (G.n 14), .int .i64 (G.n 15), .int .i64 (G.n 16), .int .i64 (G.n 17), .int .i64 (G.n 18), .slice Aa G.addons.length ca, .slice At G.tiers.length ct] 0 w4 _ P1 rfl
      have kA := stW_kept (X := [n]) (g := n) (by simp) [Value.string G.name, .int .i64 (G.n 0), .int .i64 (G.n 1), .int .i64 (G.n 2), .int .i64 (G.n 3), .int .i64 (G.n 4), .int .i64 (G.n 5), .int .i64 (G.n 6), .int .i64 (G.n 7), .int .i64 (G.n 8), .int .i64 (G.n 9), .int .i64 (G.n 10), .int .i64 (G.n 11), .int .i64 (G.n 12), .int .i64 (G.n 13), .int .i64 (G.n 14), .int .i64 (G.n 15), .int .i64 (G.n 16), .int .i64 (G.n 17), .int .i64 (G.n 18), .slice Aa G.addons.length ca, .slice At G.tiers.length ct] 0 w4 w4 (Kept.refl _ _)
      simp only [stW, reduceAdd, List.take_zero, List.nil_append] at S1 kA
      replace P2 := P2.kept kA (by simp)
      replace P3 := P3.kept kA (by simp; omega)
      generalize w4.setCell ⟨n, 0, none⟩ _ = u0 at *
      have T2 := (P2.set_ (i := 0) (by simp) (.int .i64 0)).far (p := ⟨n + 1 + 1, 0, none⟩) (by show n + 1 ≠ n + 1 + 1; omega) (.int .i64 0)
      have T3 := (P3.far (p := ⟨n + 1, 0, none⟩) (by show n + 1 + 1 ≠ n + 1; omega) (.int .i64 0)).set_ (i := 0) (by simp) (.int .i64 0)
      have T1 := (S1.far (p := ⟨n + 1, 0, none⟩) (by show n ≠ n + 1; omega) (.int .i64 0)).far (p := ⟨n + 1 + 1, 0, none⟩) (by show n ≠ n + 1 + 1; omega) (.int .i64 0)
      have kB := ((kA.less (Y := [n, n + 1, n + 1 + 1]) fun k hk _ => by simp at hk ⊢; exact .inl hk).setCell (p := ⟨n + 1, 0, none⟩) (by simp) (.int .i64 0)).setCell (p := ⟨n + 1 + 1, 0, none⟩) (by simp) (.int .i64 0)
      clear kA S1 P2 P3 x0 x0z l0 l0z
      refine hK _ _ ?_
      clear hK hX K
      generalize World.setCell _ ⟨n + 1 + 1, 0, none⟩ _ = w5 at *
      have hF5 : Below n w w5 := hF4.trans ⟨kB.os, kB.tape, kB.output, kB.size, fun i hi => kB.block i (by have := hF4.size; omega) (by simp; omega)⟩
      have hgm : GmIn w5 (.slice Aa G.addons.length ca) (.slice At G.tiers.length ct) G := h8.game2 kB.size (fun k h1 h2 => kB.block k h2 (by simp; omega)) (h8.pk.arr.kept kB (fun b o e => by injection e with e; injection e with e; have := z1; simp; omega))
      rw [WX_ret, postD_ret]
      refine (clo_ret n (n + 1) (n + 1 + 1) w5).mono ?_
      rintro e u' w6 ⟨rfl, rfl, rfl⟩
      refine ⟨⟨_, rfl⟩, rfl, ?_⟩
      have y0 := T1.cell (i := 0) rfl
      have y1 := T1.cell (i := 1) rfl
      have y2 := T1.cell (i := 2) rfl
      have y3 := T1.cell (i := 3) rfl
      have y4 := T1.cell (i := 4) rfl
      have y5 := T1.cell (i := 5) rfl
      have y6 := T1.cell (i := 6) rfl
      have y7 := T1.cell (i := 7) rfl
      have y8 := T1.cell (i := 8) rfl
      have y9 := T1.cell (i := 9) rfl
      have y10 := T1.cell (i := 10) rfl
      have y11 := T1.cell (i := 11) rfl
      have y12 := T1.cell (i := 12) rfl
      have y13 := T1.cell (i := 13) rfl
      have y14 := T1.cell (i := 14) rfl
      have y15 := T1.cell (i := 15) rfl
      have y16 := T1.cell (i := 16) rfl
      have y17 := T1.cell (i := 17) rfl
      have y18 := T1.cell (i := 18) rfl
      have y19 := T1.cell (i := 19) rfl
      have y20 := T1.cell (i := 20) rfl
      have y21 := T1.cell (i := 21) rfl
      have x0 := T2.cell (i := 0) rfl
      have l0 := T3.cell (i := 0) rfl
      simp +contextual (maxSteps := 2000000) (disch := first | omega | (simp only [SZ]; first | done | omega) | (simp only [TS] at *; omega)) only [PZ, RZ, ovw, oneC, reduceAdd, reduceMul, reduceSub, reduceEqDiff, reduceLT, ↓reduceIte, Int.reduceToNat, reduceLeDiff,  g2, g3, g4, x0, l0, y0, y1, y2, y3, y4, y5, y6, y7, y8, y9, y10, y11, y12, y13, y14, y15, y16, y17, y18, y19, y20, y21]
      exact hfin hF5 hgm
  · rw [if_pos hc0] at hp
    subst hp
    have hd0 : (!decide (SC.1 = 0)) = true := by simpa using hc0
    refine WX_if_t (by rw [show ev _ (.tmp 19) = .bool (!decide (SC.1 = 0)) from rfl, hd0]) ?_
    obtain ⟨o0, o1⟩ := hoff hc0
    have hcn : Lib.countByte (s.extract 0 SC.2.1.toNat).data.toList 10 = ((bs s).take SC.2.1.toNat).count 10 := by
      rw [count_bs, bs_extract, Nat.sub_zero, List.drop_zero]
    have hcl : ((bs s).take SC.2.1.toNat).count 10 ≤ s.size := by
      have h1 := List.count_le_length (a := 10) (l := (bs s).take SC.2.1.toNat)
      have h2 := List.length_take_le SC.2.1.toNat (bs s)
      have h3 := bs_len s
      rw [List.length_take] at h1
      omega
    generalize ((bs s).take SC.2.1.toNat).count 10 = cn at *
    refine WX_piece fun K hK hX => ?_
    simp +contextual (maxSteps := 2000000) (disch := first | omega | (simp only [SZ]; first | done | omega) | (simp only [TS] at *; omega)) only [PZ, RZ, ovw, oneC, reduceAdd, reduceMul, reduceSub, reduceEqDiff, reduceLT, ↓reduceIte, Int.reduceToNat, reduceLeDiff]
    refine RawD_mono (Q := fun e σ w' => e = .normal ∧ Row w' n 25 [Value.string ByteArray.empty, .int .i64 0, .int .i64 0, .int .i64 0, .int .i64 0, .int .i64 0, .int .i64 0, .int .i64 0, .int .i64 0, .int .i64 0, .int .i64 0, .int .i64 0, .int .i64 0, .int .i64 0, .int .i64 0, .int .i64 0, .int .i64 0, .int .i64 0, .int .i64 0, .int .i64 0, .slice none 0 0, .slice none 0 0] ∧ Row w' (n + 1) 29 [.int .i64 SC.1] ∧ Row w' (n + 1 + 1) 3 [.int .i64 (1 + cn)] ∧ Below n w w' ∧ σ 2 = .pointer (some ⟨n, 0, none⟩) ∧ σ 3 = .pointer (some ⟨n + 1, 0, none⟩) ∧ σ 4 = .pointer (some ⟨n + 1 + 1, 0, none⟩)) ?_ ?_
    · rintro e σ w' ⟨rfl, q1, q2, q3, q4, f2, f3, f4⟩
      refine hK _ _ ?_
      have y0 := q1.cell (i := 0) rfl
      have y1 := q1.cell (i := 1) rfl
      have y2 := q1.cell (i := 2) rfl
      have y3 := q1.cell (i := 3) rfl
      have y4 := q1.cell (i := 4) rfl
      have y5 := q1.cell (i := 5) rfl
      have y6 := q1.cell (i := 6) rfl
      have y7 := q1.cell (i := 7) rfl
      have y8 := q1.cell (i := 8) rfl
      have y9 := q1.cell (i := 9) rfl
      have y10 := q1.cell (i := 10) rfl
      have y11 := q1.cell (i := 11) rfl
      have y12 := q1.cell (i := 12) rfl
      have y13 := q1.cell (i := 13) rfl
      have y14 := q1.cell (i := 14) rfl
      have y15 := q1.cell (i := 15) rfl
      have y16 := q1.cell (i := 16) rfl
      have y17 := q1.cell (i := 17) rfl
      have y18 := q1.cell (i := 18) rfl
      have y19 := q1.cell (i := 19) rfl
      have y20 := q1.cell (i := 20) rfl
      have y21 := q1.cell (i := 21) rfl
      have x0 := q2.cell (i := 0) rfl
      have l0 := q3.cell (i := 0) rfl
      simp +contextual (maxSteps := 2000000) (disch := first | omega | (simp only [SZ]; first | done | omega) | (simp only [TS] at *; omega)) only [PZ, RZ, ovw, oneC, reduceAdd, reduceMul, reduceSub, reduceEqDiff, reduceLT, ↓reduceIte, Int.reduceToNat, reduceLeDiff,  f2, f3, f4, x0, l0, y0, y1, y2, y3, y4, y5, y6, y7, y8, y9, y10, y11, y12, y13, y14, y15, y16, y17, y18, y19, y20, y21]
      exact hfin (Va := .slice none 0 0) (Vt := .slice none 0 0) q4 (GmIn.nil w')
    · clear hK hX K
      refine RawD_of (Raw_ord (fun w' => Row w' (n + 1) 29 [.int .i64 SC.1]) 10 rfl MX ?_)
      replace R1 : Row w2.drew n 25 _ := R1
      replace R2 : Row w2.drew (n + 1) 29 _ := R2
      replace R3 : Row w2.drew (n + 1 + 1) 3 _ := R3
      replace hF2 : Below n w w2.drew := below_drew hF2
      generalize w2.drew = w3 at *
      refine Ord_reads (τ := ?tc) [0, 1, 2, 3, 4] 5 rfl (by kernel_rfl) (by kernel_rfl) (fun _ _ _ h => Exit.noConfusion h.1) R2 (fun w7 h7 => ?_) ?_; rotate_left
      · have x0 := h7.cell (i := 0) rfl
        simp only [opsL_cons, opsL_nil, List.getElem?_toArray, List.getElem?_cons_zero, List.getElem?_cons_succ, optL_some]
        simp +contextual (maxSteps := 2000000) (disch := first | omega | (simp only [SZ]; first | done | omega) | (simp only [TS] at *; omega)) only [RZ, ovw, oneC, reduceAdd, reduceMul, reduceSub, reduceEqDiff, reduceLT, ↓reduceIte, Int.reduceToNat, reduceLeDiff,  x0]
        exact rfl
      refine Ord_one 5 (by kernel_rfl) rfl ?_
      simp +contextual (maxSteps := 2000000) (disch := first | omega | (simp only [SZ]; first | done | omega) | (simp only [TS] at *; omega)) only [RZ, ovw, oneC, reduceAdd, reduceMul, reduceSub, reduceEqDiff, reduceLT, ↓reduceIte, Int.reduceToNat, reduceLeDiff]
      refine (Tryd.strings_Count_one (s.extract 0 SC.2.1.toNat) 10 w3).mono ?_
      rintro e w4 ⟨rfl, rfl⟩
      refine ⟨_, rfl, ?_⟩
      rw [hcn]
      refine ⟨R2, ?_⟩
      refine Ord_reads (τ := ?td) [6] 3 rfl (by kernel_rfl) (by kernel_rfl) (fun _ _ _ h => Exit.noConfusion h.1) R2 (fun w7 h7 => ?_) ?_; rotate_left
      · simp only [opsL_cons, opsL_nil, List.getElem?_toArray, List.getElem?_cons_zero, List.getElem?_cons_succ, optL_some]
        simp +contextual (maxSteps := 2000000) (disch := first | omega | (simp only [SZ]; first | done | omega) | (simp only [TS] at *; omega)) only [RZ, ovw, oneC, reduceAdd, reduceMul, reduceSub, reduceEqDiff, reduceLT, ↓reduceIte, Int.reduceToNat, reduceLeDiff]
        exact rfl
      refine Ord_chainS _ [7, 8, 9] _ _ _ (by kernel_rfl) ?_
      have y0 := R1.cell (i := 0) rfl
      have yz0 := R1.frozen 0
      have y1 := R1.cell (i := 1) rfl
      have yz1 := R1.frozen 1
      have y2 := R1.cell (i := 2) rfl
      have yz2 := R1.frozen 2
      have y3 := R1.cell (i := 3) rfl
      have yz3 := R1.frozen 3
      have y4 := R1.cell (i := 4) rfl
      have yz4 := R1.frozen 4
      have y5 := R1.cell (i := 5) rfl
      have yz5 := R1.frozen 5
      have y6 := R1.cell (i := 6) rfl
      have yz6 := R1.frozen 6
      have y7 := R1.cell (i := 7) rfl
      have yz7 := R1.frozen 7
      have y8 := R1.cell (i := 8) rfl
      have yz8 := R1.frozen 8
      have y9 := R1.cell (i := 9) rfl
      have yz9 := R1.frozen 9
      have y10 := R1.cell (i := 10) rfl
      have yz10 := R1.frozen 10
      have y11 := R1.cell (i := 11) rfl
      have yz11 := R1.frozen 11
      have y12 := R1.cell (i := 12) rfl
      have yz12 := R1.frozen 12
      have y13 := R1.cell (i := 13) rfl
      have yz13 := R1.frozen 13
      have y14 := R1.cell (i := 14) rfl
      have yz14 := R1.frozen 14
      have y15 := R1.cell (i := 15) rfl
      have yz15 := R1.frozen 15
      have y16 := R1.cell (i := 16) rfl
      have yz16 := R1.frozen 16
      have y17 := R1.cell (i := 17) rfl
      have yz17 := R1.frozen 17
      have y18 := R1.cell (i := 18) rfl
      have yz18 := R1.frozen 18
      have y19 := R1.cell (i := 19) rfl
      have yz19 := R1.frozen 19
      have y20 := R1.cell (i := 20) rfl
      have yz20 := R1.frozen 20
      have y21 := R1.cell (i := 21) rfl
      have yz21 := R1.frozen 21
      have x0 := R2.cell (i := 0) rfl
      have x0z := R2.frozen 0
      have l0 := R3.cell (i := 0) rfl
      have l0z := R3.frozen 0
      simp only [opsL_cons, opsL_nil, List.getElem?_toArray, List.getElem?_cons_zero, List.getElem?_cons_succ, optL_some]
      simp +contextual (maxSteps := 2000000) (disch := first | omega | (simp only [SZ]; first | done | omega) | (simp only [TS] at *; omega)) only [RZ, ovw, oneC, reduceAdd, reduceMul, reduceSub, reduceEqDiff, reduceLT, ↓reduceIte, Int.reduceToNat, reduceLeDiff,  EC_op, EC_nil, x0, x0z, l0, l0z, y0, yz0, y1, yz1, y2, yz2, y3, yz3, y4, yz4, y5, yz5, y6, yz6, y7, yz7, y8, yz8, y9, yz9, y10, yz10, y11, yz11, y12, yz12, y13, yz13, y14, yz14, y15, yz15, y16, yz16, y17, yz17, y18, yz18, y19, yz19, y20, yz20, y21, yz21]
      have S1 := stW_row (g := n) (T := 25) [Value.string ByteArray.empty, .int .i64 0, .int .i64 0, .int .i64 0, .int .i64 0, .int .i64 0, .int .i64 0, .int .i64 0, .int .i64 0, .int .i64 0, .int .i64 0, .int .i64 0, .int .i64 0, .int .i64 0, .int .i64 0, .int .i64 0, .int .i64 0, .int .i64 0, .int .i64 0, .int .i64 0, .slice none 0 0, .slice none 0 0] 0 w4 _ R1 rfl
      have kA := stW_kept (X := [n]) (g := n) (by simp) [Value.string ByteArray.empty, .int .i64 0, .int .i64 0, .int .i64 0, .int .i64 0, .int .i64 0, .int .i64 0, .int .i64 0, .int .i64 0, .int .i64 0, .int .i64 0, .int .i64 0, .int .i64 0, .int .i64 0, .int .i64 0, .int .i64 0, .int .i64 0, .int .i64 0, .int .i64 0, .int .i64 0, .slice none 0 0, .slice none 0 0] 0 w4 w4 (Kept.refl _ _)
      simp only [stW, reduceAdd, List.take_zero, List.nil_append] at S1 kA
      have hFA : Below n w _ := hF2.trans ⟨kA.os, kA.tape, kA.output, kA.size, fun i hi => kA.block i (by have := hF2.size; omega) (by simp; omega)⟩
      replace R2 := R2.kept kA (by simp)
      replace R3 := R3.kept kA (by simp; omega)
      clear kA x0 x0z l0 l0z
      generalize w4.setCell ⟨n, 0, none⟩ _ = u0 at *
      have T2 := R2.set_ (i := 0) (by simp) (.int .i64 SC.1)
      have T3 := (R3.far (p := ⟨n + 1, 0, none⟩) (by show n + 1 + 1 ≠ n + 1; omega) (.int .i64 SC.1)).set_ (i := 0) (by simp) (.int .i64 (1 + cn))
      refine ⟨R2, T2, T2.far (p := ⟨n + 1 + 1, 0, none⟩) (by show n + 1 ≠ n + 1 + 1; omega) _, (S1.far (p := ⟨n + 1, 0, none⟩) (by show n ≠ n + 1; omega) _).far (p := ⟨n + 1 + 1, 0, none⟩) (by show n ≠ n + 1 + 1; omega) _, T2.far (p := ⟨n + 1 + 1, 0, none⟩) (by show n + 1 ≠ n + 1 + 1; omega) _, T3, (hFA.setCell (p := ⟨n + 1, 0, none⟩) (by show n ≤ n + 1; omega) _).setCell (p := ⟨n + 1 + 1, 0, none⟩) (by show n ≤ n + 1 + 1; omega) _⟩
end Go.Proofs.YtbdkggnajipdhaaDoor
/- Walks: the law's comparisons: ints, Same. -/
namespace Go.Proofs.YtbdkggnajipdhaaDoor
open Nat (reduceAdd reduceMul reduceSub reduceEqDiff reduceLT reduceLeDiff)
open Go.RowKit
set_option maxRecDepth 100000
theorem part_int {P : Program} {t : TypeId} {k : IntKind} (ht : P.underlying t = some (.int k)) {xs : Array Value} {o : Nat} {v : Value} (hx : xs[o]? = some v) (w : World) : (part t xs o).run P w = .ok v w := by
  simp [part, Sem.run_bind, isAgg_int ht, hx]
theorem eqF_int {P : Program} (w : World) (d : Nat) (xs ys : Array Value) (f : Field) (fs : List Field) {k : IntKind} {a b : Int} (hn : f.name ≠ "_") (ht : P.underlying f.type = some (.int k)) (hx : xs[f.offset]? = some (.int k a)) (hy : ys[f.offset]? = some (.int k b)) :
    (Op.eqFields (d + 1) xs ys (f :: fs)).run P w = if a = b then (Op.eqFields (d + 1) xs ys fs).run P w else .ok false w := by
  rw [Op.eqFields, if_pos hn]
  simp only [Sem.run_bind, part_int ht hx, part_int ht hy, Result.andThen_ok, run_equalIn_int w d f.type k k a b ht]
  by_cases h : a = b
  · simp [h]
  · simp [h]
theorem eqF_nil {P : Program} (w : World) (d : Nat) (xs ys : Array Value) : (Op.eqFields d xs ys []).run P w = .ok true w := by simp [Op.eqFields]
theorem ti_same (t : Ti) (x y : Operand) (w : World) : vBin Tryd.prog .neq 45 x y (.agg (encTi t).toArray) (.agg (encTi t).toArray) w = .ok (.value (.bool false)) w := by
  have hg : Tryd.prog.eqGuardType Tryd.prog.depth 45 = false := by kernel_rfl
  have hf : (Tryd.prog.fieldsOf 45).toList.map (fun f => (decide (f.name ≠ "_"), f.type, f.offset)) = [(true, 3, 0), (true, 3, 1), (true, 3, 2), (true, 3, 3), (true, 3, 4), (true, 3, 5)] := by
    unfold Program.fieldsOf
    rw [Tryd.underlying45]
    rfl
  have key : ∀ (fs : List Field), fs.map (fun f => (decide (f.name ≠ "_"), f.type, f.offset)) = [(true, 3, 0), (true, 3, 1), (true, 3, 2), (true, 3, 3), (true, 3, 4), (true, 3, 5)] → (Op.eqFields 9999 (encTi t).toArray (encTi t).toArray fs).run Tryd.prog w = .ok true w := by
    intro fs h
    have key2 : ∀ (fs : List Field), (∀ f ∈ fs, f.name ≠ "_" ∧ f.type = 3 ∧ f.offset < 6) → (Op.eqFields 9999 (encTi t).toArray (encTi t).toArray fs).run Tryd.prog w = .ok true w := by
      intro fs
      induction fs with
      | nil => intro _; exact eqF_nil _ _ _ _
      | cons f r ih =>
        intro hf
        obtain ⟨h1, h2, h3⟩ := hf f (by simp)
        obtain ⟨n, hn⟩ : ∃ n : Int, (encTi t).toArray[f.offset]? = some (.int .i64 n) := by
          have : f.offset = 0 ∨ f.offset = 1 ∨ f.offset = 2 ∨ f.offset = 3 ∨ f.offset = 4 ∨ f.offset = 5 := by omega
          rcases this with e | e | e | e | e | e <;> rw [e] <;> exact ⟨_, rfl⟩
        rw [show (9999 : Nat) = 9998 + 1 from rfl, eqF_int (k := .i64) w _ _ _ _ _ h1 (by rw [h2]; exact Tryd.underlying3) hn hn, if_pos rfl]
        exact ih fun f hf' => hf f (by simp [hf'])
    refine key2 fs fun f hf => ?_
    have hm := List.mem_map_of_mem (f := fun f : Field => (decide (f.name ≠ "_"), f.type, f.offset)) hf
    rw [h] at hm
    simp only [List.mem_cons, List.not_mem_nil, or_false, Prod.mk.injEq, decide_eq_true_eq] at hm
    rcases hm with ⟨a, b, c⟩ | ⟨a, b, c⟩ | ⟨a, b, c⟩ | ⟨a, b, c⟩ | ⟨a, b, c⟩ | ⟨a, b, c⟩ <;> exact ⟨a, b, by omega⟩
  have he : (Op.equalIn 10000 45 (.agg (encTi t).toArray) (.agg (encTi t).toArray)).run Tryd.prog w = .ok true w := by
    rw [show (10000 : Nat) = 9999 + 1 from rfl, run_equalIn_struct w 9999 45 _ _ (by unfold Program.fieldsOf; rw [Tryd.underlying45]) (by kernel_rfl)]
    exact key _ hf
  unfold vBin
  simp [Sem.run_bind, eqGuard, hg, binOp, Op.equal, Op.maxDepth, he]
theorem ints_any (L : List Int) (A B : Option Addr) (c d : Nat) (w : World) (hA : Arr w A 1 (L.map fun n => [Value.int .i64 n])) (hB : Arr w B 1 (L.map fun n => [Value.int .i64 n])) (hl : L.length ≤ 1000000000) :
    Calls Tryd.prog 12 #[.slice A L.length c, .slice B L.length d] w fun e w' => e = .returned (.bool true) ∧ Below w.heap.size w w' := by
  refine calls_W (l := [_, _]) Tryd.func12 rfl _ Tryd.ntmps12 (by simp) ?_
  refine W_piece fun K hK hX => ?_
  simp +contextual (maxSteps := 2000000) (disch := first | omega | (simp only [SZ]; first | done | omega) | (simp only [TS] at *; omega)) only [RZ, ovw, oneC, reduceAdd, reduceMul, reduceSub, reduceEqDiff, reduceLT, ↓reduceIte, Int.reduceToNat, reduceLeDiff]
  refine hK _ _ ?_
  clear hK hX K
  refine W_piece fun K hK hX => ?_
  refine W_piece fun K2 hK2 hX2 => ?_
  simp +contextual (maxSteps := 2000000) (disch := first | omega | (simp only [SZ]; first | done | omega) | (simp only [TS] at *; omega)) only [RZ, ovw, oneC, reduceAdd, reduceMul, reduceSub, reduceEqDiff, reduceLT, ↓reduceIte, Int.reduceToNat, reduceLeDiff]
  refine hK2 _ _ ?_
  clear hK2 hX2 K2
  refine W_if_f rfl ?_
  rw [W_skip]
  refine hK _ _ ?_
  clear hK hX K
  refine W_cutS (fun σ w1 => Below w.heap.size w w1) ?_ ?_
  · intro σ w1 h
    simp +contextual (maxSteps := 2000000) (disch := first | omega | (simp only [SZ]; first | done | omega) | (simp only [TS] at *; omega)) only [RZ, ovw, oneC, reduceAdd, reduceMul, reduceSub, reduceEqDiff, reduceLT, ↓reduceIte, Int.reduceToNat, reduceLeDiff]
    exact h
  refine W_piece fun K hK hX => ?_
  simp +contextual (maxSteps := 2000000) (disch := first | omega | (simp only [SZ]; first | done | omega) | (simp only [TS] at *; omega)) only [RZ, ovw, oneC, reduceAdd, reduceMul, reduceSub, reduceEqDiff, reduceLT, ↓reduceIte, Int.reduceToNat, reduceLeDiff]
  refine hK _ _ ?_
  clear hK hX K
  rw [W_block, W_loop]
  refine Raw_loop (fun σ w1 => Below w.heap.size w w1 ∧ ∃ k : Nat, k ≤ L.length ∧ σ 0 = .slice A L.length c ∧ σ 1 = .slice B L.length d ∧ σ 12 = .int .i64 L.length ∧ σ 13 = .int .i64 k) (fun σ _ => L.length - (intOf (σ 13)).toNat) ?_ ?_
  · exact ⟨Below.refl _ _, 0, Nat.zero_le _, rfl, rfl, rfl, rfl⟩
  rintro σ w1 ⟨hb, k, hk, f0, f1, f12, f13⟩ K hK
  simp +contextual (maxSteps := 2000000) (disch := first | omega | (simp only [SZ]; first | done | omega) | (simp only [TS] at *; omega)) only [RZ, ovw, oneC, reduceAdd, reduceMul, reduceSub, reduceEqDiff, reduceLT, ↓reduceIte, Int.reduceToNat, reduceLeDiff,  f0, f1, f12, f13]
  (refine W_if rfl (fun hc => ?_) (fun hc => ?_) <;> (try simp only [TS] at hc))
  · obtain ⟨n, hn⟩ : ∃ n, L[k]? = some n := ⟨_, List.getElem?_eq_getElem (by omega)⟩
    obtain ⟨ba, oa, rfl, hba, hca⟩ := (hA.below hb).at_ (enc := fun n => [Value.int .i64 n]) hn
    obtain ⟨bb, ob, rfl, hbb, hcb⟩ := (hB.below hb).at_ (enc := fun n => [Value.int .i64 n]) hn
    have l0 : w1.drew.cell? _ = _ := hca 0 _ rfl
    rw [Nat.add_zero, Nat.mul_one] at l0
    have m0 : w1.drew.cell? _ = _ := hcb 0 _ rfl
    rw [Nat.add_zero, Nat.mul_one] at m0
    simp +contextual (maxSteps := 2000000) (disch := first | omega | (simp only [SZ]; first | done | omega) | (simp only [TS] at *; omega)) only [RZ, ovw, oneC, reduceAdd, reduceMul, reduceSub, reduceEqDiff, reduceLT, ↓reduceIte, Int.reduceToNat, reduceLeDiff,  f0, f1, f12, f13]
    refine Raw_still MX (by kernel_rfl) ?_
    simp +contextual (maxSteps := 2000000) (disch := first | omega | (simp only [SZ]; first | done | omega) | (simp only [TS] at *; omega)) only [RZ, ovw, oneC, reduceAdd, reduceMul, reduceSub, reduceEqDiff, reduceLT, ↓reduceIte, Int.reduceToNat, reduceLeDiff,  f0, f1, f12, f13, l0, m0]
    refine W_if_f rfl ?_
    simp +contextual (maxSteps := 2000000) (disch := first | omega | (simp only [SZ]; first | done | omega) | (simp only [TS] at *; omega)) only [RZ, ovw, oneC, reduceAdd, reduceMul, reduceSub, reduceEqDiff, reduceLT, ↓reduceIte, Int.reduceToNat, reduceLeDiff,  f0, f1, f12, f13]
    refine hK _ _ ⟨below_drew hb, k + 1, by omega, ?_⟩ ?_
    · simp +contextual (maxSteps := 2000000) (disch := first | omega | (simp only [SZ]; first | done | omega) | (simp only [TS] at *; omega)) only [RZ, ovw, oneC, reduceAdd, reduceMul, reduceSub, reduceEqDiff, reduceLT, ↓reduceIte, Int.reduceToNat, reduceLeDiff,  f0, f1, f12, f13]
    · simp +contextual (maxSteps := 2000000) (disch := first | omega | (simp only [SZ]; first | done | omega) | (simp only [TS] at *; omega)) only [RZ, ovw, oneC, reduceAdd, reduceMul, reduceSub, reduceEqDiff, reduceLT, ↓reduceIte, Int.reduceToNat, reduceLeDiff,  intOf, f13]
      omega
  · simp +contextual (maxSteps := 2000000) (disch := first | omega | (simp only [SZ]; first | done | omega) | (simp only [TS] at *; omega)) only [RZ, ovw, oneC, reduceAdd, reduceMul, reduceSub, reduceEqDiff, reduceLT, ↓reduceIte, Int.reduceToNat, reduceLeDiff,  f0, f1, f12, f13]
    exact hb
end Go.Proofs.YtbdkggnajipdhaaDoor
/- Walk: the law's Same on equal games. -/
namespace Go.Proofs.YtbdkggnajipdhaaDoor
open Nat (reduceAdd reduceMul reduceSub reduceEqDiff reduceLT reduceLeDiff)
open Go.RowKit
set_option maxRecDepth 100000
section
variable {P : Program} {T : TypeId} {w : World} {g : Nat}
theorem setCells_stW : ∀ (vs : List Value) (i : Nat) (w : World), w.setCells g i vs = stW g i vs w
  | [], _, _ => rfl
  | v :: r, i, w => setCells_stW r (i + 1) _
theorem okC_row : ∀ (vs : List Value) (i : Nat) (cs : List Value), Row w g T cs → i + vs.length ≤ cs.length → (∀ v ∈ vs, oneC v = true) → okC w g vs.length i vs = true
  | [], _, _, _, _, _ => rfl
  | v :: r, i, cs, h, hl, h1 => by
    rw [List.length_cons] at hl
    have ih := okC_row r (i + 1) cs h (by omega) fun v hv => h1 v (by simp [hv])
    have hc := h.cell (i := i) (v := cs[i]'(by omega)) (List.getElem?_eq_getElem (by omega))
    have hf := h.frozen i
    simp only [List.length_cons, okC, h1 v (by simp), hc, hf, ih, Option.isSome_some, Bool.not_false, Bool.and_self]
theorem vStore_row {c : Value} {cs cs0 : List Value} (hR : Row w g T cs0) (hl : (c :: cs).length = cs0.length) (hz : szOf P T = (c :: cs).length) (h1 : ∀ v ∈ c :: cs, oneC v = true) :
    vStore P T (.pointer (some ⟨g, 0, none⟩)) (.agg (c :: cs).toArray) w = .ok .skip (w.setCells g 0 (c :: cs)) := by
  rw [vStore_aggN, hz, okC_row (c :: cs) 0 cs0 hR (by omega) h1]
  rfl
theorem setCells_row {cs0 : List Value} (vs : List Value) (hR : Row w g T cs0) (hl : vs.length = cs0.length) : Row (w.setCells g 0 vs) g T vs := by
  have := stW_row vs 0 w cs0 hR (by omega)
  rw [← setCells_stW] at this
  exact this
theorem setCells_below {B : Nat} {a : World} (hB : B ≤ g) : ∀ (vs : List Value) (i : Nat) (w : World), Below B a w → Below B a (w.setCells g i vs)
  | [], _, _, h => h
  | v :: r, i, w, h => setCells_below hB r (i + 1) _ (h.setCell (p := ⟨g, i, none⟩) hB v)
theorem setCells_other {g' : Nat} {T' : TypeId} {cs' : List Value} (hg : g' ≠ g) : ∀ (vs : List Value) (i : Nat) (w : World), Row w g' T' cs' → Row (w.setCells g i vs) g' T' cs'
  | [], _, _, h => h
  | v :: r, i, w, h => setCells_other hg r (i + 1) _ (by
      obtain ⟨cur, hc, x⟩ := h
      exact ⟨cur, by simp [World.setCell, Array.getElem?_modify, Ne.symm hg, hc], x⟩)
end
def zAd : List Value := encAd ⟨ByteArray.empty, 0, 0, [], 0, []⟩ (.slice none 0 0) (.slice none 0 0)
/-- Two new add-ons, made in either order. -/
structure AB (w0 : World) (x y : Option Nat) (w' : World) : Prop where
  low : Below w0.heap.size w0 w'
  ra : ∀ g, x = some g → w0.heap.size ≤ g ∧ Row w' g 43 zAd
  rb : ∀ g, y = some g → w0.heap.size ≤ g ∧ Row w' g 43 zAd
  ne : ∀ g h, x = some g → y = some h → g ≠ h
theorem AB.putA {w0 w' : World} {y : Option Nat} (h : AB w0 none y w') : AB w0 (some w'.heap.size) y (w'.alloc (.cells zAd.toArray 43)) :=
  ⟨h.low.alloc h.low.size _, fun g e => by injection e with e; subst e; exact ⟨h.low.size, Row.new w' _ zAd⟩, fun g e => ⟨(h.rb g e).1, (h.rb g e).2.alloc _⟩,
    fun g k e1 e2 => by injection e1 with e1; have := (h.rb k e2).2.lt; omega⟩
theorem AB.putB {w0 w' : World} {x : Option Nat} (h : AB w0 x none w') : AB w0 x (some w'.heap.size) (w'.alloc (.cells zAd.toArray 43)) :=
  ⟨h.low.alloc h.low.size _, fun g e => ⟨(h.ra g e).1, (h.ra g e).2.alloc _⟩, fun g e => by injection e with e; subst e; exact ⟨h.low.size, Row.new w' _ zAd⟩,
    fun g k e1 e2 => by injection e2 with e2; have := (h.ra g e1).2.lt; omega⟩
set_option maxHeartbeats 8000000 in
theorem same_any (G : Gm) (Va Vt Va' Vt' : Value) (w : World) (hA : GmIn w Va Vt G) (hB : GmIn w Va' Vt' G) (hL : G.little) :
    Calls Tryd.prog 9 #[.agg (gmV G Va Vt).toArray, .agg (gmV G Va' Vt').toArray] w fun e w' => e = .returned (.bool true) ∧ Below w.heap.size w w' := by
  refine calls_W (l := [_, _]) Tryd.func9 rfl _ Tryd.ntmps9 (by simp) ?_
  obtain ⟨hnl, hal, htl, hadl⟩ := hL
  obtain ⟨⟨Aa, ca, Vs, rfl, hAa, hads⟩, At, ct, rfl, hAt⟩ := hA
  obtain ⟨⟨Ba, da, Us, rfl, hBa, hbds⟩, Bt, dt, rfl, hBt⟩ := hB
  have r0 := Row.new w 25 (gmV G (.slice Aa G.addons.length ca) (.slice At G.tiers.length ct))
  have b0 := below_alloc w (.cells (gmV G (.slice Aa G.addons.length ca) (.slice At G.tiers.length ct)).toArray 25)
  have z0 := World.size_alloc w (.cells (gmV G (.slice Aa G.addons.length ca) (.slice At G.tiers.length ct)).toArray 25)
  refine W_piece fun K hK hX => ?_
  simp +contextual (maxSteps := 2000000) (disch := first | omega | (simp only [SZ]; first | done | omega) | (simp only [TS] at *; omega)) only [RZ, ovw, oneC, reduceAdd, reduceMul, reduceSub, reduceEqDiff, reduceLT, ↓reduceIte, Int.reduceToNat, reduceLeDiff]
  refine hK _ _ ?_
  clear hK hX K
  generalize w.alloc (.cells (gmV G (.slice Aa G.addons.length ca) (.slice At G.tiers.length ct)).toArray 25) = w0 at r0 b0 z0 ⊢
  have r1 := Row.new w0 25 (gmV G (.slice Ba G.addons.length da) (.slice Bt G.tiers.length dt))
  have b1 := b0.trans ((below_alloc w0 (.cells (gmV G (.slice Ba G.addons.length da) (.slice Bt G.tiers.length dt)).toArray 25)).mono (by omega))
  have z1 := World.size_alloc w0 (.cells (gmV G (.slice Ba G.addons.length da) (.slice Bt G.tiers.length dt)).toArray 25)
  replace r0 := r0.alloc (.cells (gmV G (.slice Ba G.addons.length da) (.slice Bt G.tiers.length dt)).toArray 25)
  generalize w0.alloc (.cells (gmV G (.slice Ba G.addons.length da) (.slice Bt G.tiers.length dt)).toArray 25) = w1 at r0 r1 b1 z1 ⊢
  rw [z0] at r1 z1
  clear b0
  have c0 : w1.cell? ⟨w.heap.size, 0, none⟩ = some (.string G.name) := r0.cell (i := 0) rfl
  have d0 : w1.cell? ⟨w.heap.size + 1, 0, none⟩ = some (.string G.name) := r1.cell (i := 0) rfl
  have c1 : w1.cell? ⟨w.heap.size, 1, none⟩ = some (.int .i64 (G.n 0)) := r0.cell (i := 1) rfl
  have d1 : w1.cell? ⟨w.heap.size + 1, 1, none⟩ = some (.int .i64 (G.n 0)) := r1.cell (i := 1) rfl
  have c2 : w1.cell? ⟨w.heap.size, 2, none⟩ = some (.int .i64 (G.n 1)) := r0.cell (i := 2) rfl
  have d2 : w1.cell? ⟨w.heap.size + 1, 2, none⟩ = some (.int .i64 (G.n 1)) := r1.cell (i := 2) rfl
  have c3 : w1.cell? ⟨w.heap.size, 3, none⟩ = some (.int .i64 (G.n 2)) := r0.cell (i := 3) rfl
  have d3 : w1.cell? ⟨w.heap.size + 1, 3, none⟩ = some (.int .i64 (G.n 2)) := r1.cell (i := 3) rfl
  have c4 : w1.cell? ⟨w.heap.size, 4, none⟩ = some (.int .i64 (G.n 3)) := r0.cell (i := 4) rfl
  have d4 : w1.cell? ⟨w.heap.size + 1, 4, none⟩ = some (.int .i64 (G.n 3)) := r1.cell (i := 4) rfl
  have c5 : w1.cell? ⟨w.heap.size, 5, none⟩ = some (.int .i64 (G.n 4)) := r0.cell (i := 5) rfl
  have d5 : w1.cell? ⟨w.heap.size + 1, 5, none⟩ = some (.int .i64 (G.n 4)) := r1.cell (i := 5) rfl
  have c6 : w1.cell? ⟨w.heap.size, 6, none⟩ = some (.int .i64 (G.n 5)) := r0.cell (i := 6) rfl
  have d6 : w1.cell? ⟨w.heap.size + 1, 6, none⟩ = some (.int .i64 (G.n 5)) := r1.cell (i := 6) rfl
  have c7 : w1.cell? ⟨w.heap.size, 7, none⟩ = some (.int .i64 (G.n 6)) := r0.cell (i := 7) rfl
  have d7 : w1.cell? ⟨w.heap.size + 1, 7, none⟩ = some (.int .i64 (G.n 6)) := r1.cell (i := 7) rfl
  have c8 : w1.cell? ⟨w.heap.size, 8, none⟩ = some (.int .i64 (G.n 7)) := r0.cell (i := 8) rfl
  have d8 : w1.cell? ⟨w.heap.size + 1, 8, none⟩ = some (.int .i64 (G.n 7)) := r1.cell (i := 8) rfl
  have c9 : w1.cell? ⟨w.heap.size, 9, none⟩ = some (.int .i64 (G.n 8)) := r0.cell (i := 9) rfl
  have d9 : w1.cell? ⟨w.heap.size + 1, 9, none⟩ = some (.int .i64 (G.n 8)) := r1.cell (i := 9) rfl
  have c10 : w1.cell? ⟨w.heap.size, 10, none⟩ = some (.int .i64 (G.n 9)) := r0.cell (i := 10) rfl
  have d10 : w1.cell? ⟨w.heap.size + 1, 10, none⟩ = some (.int .i64 (G.n 9)) := r1.cell (i := 10) rfl
  have c11 : w1.cell? ⟨w.heap.size, 11, none⟩ = some (.int .i64 (G.n 10)) := r0.cell (i := 11) rfl
  have d11 : w1.cell? ⟨w.heap.size + 1, 11, none⟩ = some (.int .i64 (G.n 10)) := r1.cell (i := 11) rfl
  have c12 : w1.cell? ⟨w.heap.size, 12, none⟩ = some (.int .i64 (G.n 11)) := r0.cell (i := 12) rfl
  have d12 : w1.cell? ⟨w.heap.size + 1, 12, none⟩ = some (.int .i64 (G.n 11)) := r1.cell (i := 12) rfl
  have c13 : w1.cell? ⟨w.heap.size, 13, none⟩ = some (.int .i64 (G.n 12)) := r0.cell (i := 13) rfl
  have d13 : w1.cell? ⟨w.heap.size + 1, 13, none⟩ = some (.int .i64 (G.n 12)) := r1.cell (i := 13) rfl
  have c14 : w1.cell? ⟨w.heap.size, 14, none⟩ = some (.int .i64 (G.n 13)) := r0.cell (i := 14) rfl
  have d14 : w1.cell? ⟨w.heap.size + 1, 14, none⟩ = some (.int .i64 (G.n 13)) := r1.cell (i := 14) rfl
  have c15 : w1.cell? ⟨w.heap.size, 15, none⟩ = some (.int .i64 (G.n 14)) := r0.cell (i := 15) rfl
  have d15 : w1.cell? ⟨w.heap.size + 1, 15, none⟩ = some (.int .i64 (G.n 14)) := r1.cell (i := 15) rfl
  have c16 : w1.cell? ⟨w.heap.size, 16, none⟩ = some (.int .i64 (G.n 15)) := r0.cell (i := 16) rfl
  have d16 : w1.cell? ⟨w.heap.size + 1, 16, none⟩ = some (.int .i64 (G.n 15)) := r1.cell (i := 16) rfl
  have c17 : w1.cell? ⟨w.heap.size, 17, none⟩ = some (.int .i64 (G.n 16)) := r0.cell (i := 17) rfl
  have d17 : w1.cell? ⟨w.heap.size + 1, 17, none⟩ = some (.int .i64 (G.n 16)) := r1.cell (i := 17) rfl
  have c18 : w1.cell? ⟨w.heap.size, 18, none⟩ = some (.int .i64 (G.n 17)) := r0.cell (i := 18) rfl
  have d18 : w1.cell? ⟨w.heap.size + 1, 18, none⟩ = some (.int .i64 (G.n 17)) := r1.cell (i := 18) rfl
  have c19 : w1.cell? ⟨w.heap.size, 19, none⟩ = some (.int .i64 (G.n 18)) := r0.cell (i := 19) rfl
  have d19 : w1.cell? ⟨w.heap.size + 1, 19, none⟩ = some (.int .i64 (G.n 18)) := r1.cell (i := 19) rfl
  have c20 : w1.cell? ⟨w.heap.size, 20, none⟩ = some (.slice Aa G.addons.length ca) := r0.cell (i := 20) rfl
  have d20 : w1.cell? ⟨w.heap.size + 1, 20, none⟩ = some (.slice Ba G.addons.length da) := r1.cell (i := 20) rfl
  have c21 : w1.cell? ⟨w.heap.size, 21, none⟩ = some (.slice At G.tiers.length ct) := r0.cell (i := 21) rfl
  have d21 : w1.cell? ⟨w.heap.size + 1, 21, none⟩ = some (.slice Bt G.tiers.length dt) := r1.cell (i := 21) rfl
  refine W_piece fun K hK hX => ?_
  refine W_piece fun K2 hK2 hX2 => ?_
  simp +contextual (maxSteps := 2000000) (disch := first | omega | (simp only [SZ]; first | done | omega) | (simp only [TS] at *; omega)) only [RZ, ovw, oneC, reduceAdd, reduceMul, reduceSub, reduceEqDiff, reduceLT, ↓reduceIte, Int.reduceToNat, reduceLeDiff,  c0, d0, c1, d1, c2, d2, c3, d3, c4, d4, c5, d5, c6, d6, c7, d7]
  refine hK2 _ _ ?_
  clear hK2 hX2 K2
  refine W_if_f rfl ?_
  rw [W_skip]
  refine hK _ _ ?_
  clear hK hX K
  refine W_piece fun K hK hX => ?_
  refine W_piece fun K2 hK2 hX2 => ?_
  simp +contextual (maxSteps := 2000000) (disch := first | omega | (simp only [SZ]; first | done | omega) | (simp only [TS] at *; omega)) only [RZ, ovw, oneC, reduceAdd, reduceMul, reduceSub, reduceEqDiff, reduceLT, ↓reduceIte, Int.reduceToNat, reduceLeDiff,  c8, d8, c9, d9, c10, d10, c11, d11, c12, d12, c13, d13, c14, d14]
  refine hK2 _ _ ?_
  clear hK2 hX2 K2
  refine W_if_f rfl ?_
  rw [W_skip]
  refine hK _ _ ?_
  clear hK hX K
  refine W_piece fun K hK hX => ?_
  refine W_piece fun K2 hK2 hX2 => ?_
  simp +contextual (maxSteps := 2000000) (disch := first | omega | (simp only [SZ]; first | done | omega) | (simp only [TS] at *; omega)) only [RZ, ovw, oneC, reduceAdd, reduceMul, reduceSub, reduceEqDiff, reduceLT, ↓reduceIte, Int.reduceToNat, reduceLeDiff,  c15, d15, c16, d16, c17, d17, c18, d18, c19, d19, c20, d20, c21, d21]
  refine hK2 _ _ ?_
  clear hK2 hX2 K2
  refine W_if_f rfl ?_
  rw [W_skip]
  refine hK _ _ ?_
  clear hK hX K
  clear c0 d0 c1 d1 c2 d2 c3 d3 c4 d4 c5 d5 c6 d6 c7 d7 c8 d8 c9 d9 c10 d10 c11 d11 c12 d12 c13 d13 c14 d14 c15 d15 c16 d16 c17 d17 c18 d18 c19 d19 c20 d20 c21 d21
  have hAa1 := hAa.below b1
  have hBa1 := hBa.below b1
  have hAt1 := hAt.below b1
  have hBt1 := hBt.below b1
  have hads1 := hads.mono (P' := IntsR w1) fun v L hv => hv.below b1
  have hbds1 := hbds.mono (P' := IntsR w1) fun v L hv => hv.below b1
  clear hAa hBa hAt hBt hads hbds
  refine W_cutS (fun σ w2 => Below w1.heap.size w1 w2 ∧ σ 2 = .pointer (some ⟨w.heap.size, 0, none⟩) ∧ σ 3 = .pointer (some ⟨w.heap.size + 1, 0, none⟩)) ?_ ?_
  rotate_left
  · have c20 : w1.cell? ⟨w.heap.size, 20, none⟩ = some (.slice Aa G.addons.length ca) := r0.cell (i := 20) rfl
    refine W_piece fun K hK hX => ?_
    simp +contextual (maxSteps := 2000000) (disch := first | omega | (simp only [SZ]; first | done | omega) | (simp only [TS] at *; omega)) only [RZ, ovw, oneC, reduceAdd, reduceMul, reduceSub, reduceEqDiff, reduceLT, ↓reduceIte, Int.reduceToNat, reduceLeDiff,  c20]
    refine hK _ _ ?_
    clear hK hX K c20
    rw [W_block, W_loop]
    refine Raw_loop (fun σ w2 => Below w1.heap.size w1 w2 ∧ ∃ k : Nat, k ≤ G.addons.length ∧ σ 2 = .pointer (some ⟨w.heap.size, 0, none⟩) ∧ σ 3 = .pointer (some ⟨w.heap.size + 1, 0, none⟩) ∧ σ 163 = .int .i64 G.addons.length ∧ σ 164 = .int .i64 k) (fun σ _ => G.addons.length - (intOf (σ 164)).toNat) ?_ ?_
    · exact ⟨Below.refl _ _, 0, Nat.zero_le _, rfl, rfl, rfl, rfl⟩
    rintro σ w2 ⟨hb, k, hk, f2, f3, f163, f164⟩ K hK
    simp +contextual (maxSteps := 2000000) (disch := first | omega | (simp only [SZ]; first | done | omega) | (simp only [TS] at *; omega)) only [RZ, ovw, oneC, reduceAdd, reduceMul, reduceSub, reduceEqDiff, reduceLT, ↓reduceIte, Int.reduceToNat, reduceLeDiff,  f163, f164]
    (refine W_if rfl (fun hc => ?_) (fun hc => ?_) <;> (try simp only [TS] at hc))
    · have hkl : k < G.addons.length := by omega
      obtain ⟨a, ha⟩ : ∃ a, G.addons[k]? = some a := ⟨_, List.getElem?_eq_getElem hkl⟩
      obtain ⟨cv1, hcv⟩ : ∃ c, Vs[k]? = some c := ⟨_, List.getElem?_eq_getElem (by rw [hads1.1]; exact hkl)⟩
      obtain ⟨vf, vs, rfl, hvf, hvs⟩ := hads1.2 k _ a hcv ha
      obtain ⟨cv2, hcu⟩ : ∃ c, Us[k]? = some c := ⟨_, List.getElem?_eq_getElem (by rw [hbds1.1]; exact hkl)⟩
      obtain ⟨uf, us, rfl, huf, hus⟩ := hbds1.2 k _ a hcu ha
      obtain ⟨b2, o2, rfl, hb2, hc2⟩ := hAa1 (by rw [hads1.1]; omega)
      obtain ⟨b3, o3, rfl, hb3, hc3⟩ := hBa1 (by rw [hbds1.1]; omega)
      obtain ⟨m1, m2, m3⟩ := hadl a (List.mem_of_getElem? ha)
      simp +contextual (maxSteps := 2000000) (disch := first | omega | (simp only [SZ]; first | done | omega) | (simp only [TS] at *; omega)) only [RZ, ovw, oneC, reduceAdd, reduceMul, reduceSub, reduceEqDiff, reduceLT, ↓reduceIte, Int.reduceToNat, reduceLeDiff,  f2, f3, f163, f164]
      have hbd : Below w1.heap.size w1 w2.drew := below_drew hb
      have hlt1 := r0.lt
      have hlt2 := r1.lt
      have hsz2 := hb.size
      have p20 : ∀ w7, Below w2.heap.size w2.drew w7 → w7.cell? ⟨w.heap.size, 20, none⟩ = some (.slice (some ⟨b2, o2, none⟩) G.addons.length ca) := fun w7 h7 => (r0.below (hbd.trans (h7.mono hsz2))).cell (i := 20) rfl
      have q20 : ∀ w7, Below w2.heap.size w2.drew w7 → w7.cell? ⟨w.heap.size + 1, 20, none⟩ = some (.slice (some ⟨b3, o3, none⟩) G.addons.length da) := fun w7 h7 => (r1.below (hbd.trans (h7.mono hsz2))).cell (i := 20) rfl
      have hla : ∀ w7, Below w2.heap.size w2.drew w7 → vLoad Tryd.prog 43 (.pointer (some ⟨b2, o2 + k * 6, none⟩)) w7 = .ok (.value (.agg (encAd a vf vs).toArray)) w7 := fun w7 h7 => vLoad_all (by kernel_rfl) (by show _ = some 6; kernel_rfl) (fun i v hv => ((bcell (hbd.trans (h7.mono hsz2))).1 _ _ hb2).trans (hc2 k _ hcv i v hv))
      have hlb : ∀ w7, Below w2.heap.size w2.drew w7 → vLoad Tryd.prog 43 (.pointer (some ⟨b3, o3 + k * 6, none⟩)) w7 = .ok (.value (.agg (encAd a uf us).toArray)) w7 := fun w7 h7 => vLoad_all (by kernel_rfl) (by show _ = some 6; kernel_rfl) (fun i v hv => ((bcell (hbd.trans (h7.mono hsz2))).1 _ _ hb3).trans (hc3 k _ hcu i v hv))
      have hS : Below w2.heap.size w2.drew w2.drew := Below.refl _ _
      refine Raw_ord (fun w7 => Below w2.heap.size w2.drew w7) 14 rfl MX ?_
      refine Ord_reads (τ := ?ta) [0, 1, 2, 3, 4, 5, 6, 7, 8, 9] 4 rfl (by kernel_rfl) (by kernel_rfl) (fun _ _ _ h => h) hS (fun w7 h7 => ?_) ?_; rotate_left
      · simp only [opsL_cons, opsL_nil, List.getElem?_toArray, List.getElem?_cons_zero, List.getElem?_cons_succ, optL_some]
        simp +contextual (maxSteps := 2000000) (disch := first | omega | (simp only [SZ]; first | done | omega) | (simp only [TS] at *; omega)) only [RZ, ovw, oneC, reduceAdd, reduceMul, reduceSub, reduceEqDiff, reduceLT, ↓reduceIte, Int.reduceToNat, reduceLeDiff,  f2, f3, p20 w7 h7, q20 w7 h7, hla w7 h7, hlb w7 h7]
        exact rfl
      refine Ord_two (fun (x y : Option Nat) w7 => AB w2.drew x y w7) (fun g => .pointer (some ⟨g, 0, none⟩)) (fun g => .pointer (some ⟨g, 0, none⟩)) 10 11 6 7 rfl rfl (by decide) (by decide) (by decide) (by decide) (by kernel_rfl) (by kernel_rfl) (by kernel_rfl)
        ⟨Below.refl _ _, (fun g e => by cases e), (fun g e => by cases e), (fun g h e => by cases e)⟩ ?_ ?_ ?_
      · intro y w7 σ' hσ h7
        simp +contextual (maxSteps := 2000000) (disch := first | omega | (simp only [SZ]; first | done | omega) | (simp only [TS] at *; omega)) only [RZ, ovw, oneC, reduceAdd, reduceMul, reduceSub, reduceEqDiff, reduceLT, ↓reduceIte, Int.reduceToNat, reduceLeDiff]
        exact ⟨_, rfl, h7.putA.low, h7.putA⟩
      · intro x w7 σ' hσ h7
        simp +contextual (maxSteps := 2000000) (disch := first | omega | (simp only [SZ]; first | done | omega) | (simp only [TS] at *; omega)) only [RZ, ovw, oneC, reduceAdd, reduceMul, reduceSub, reduceEqDiff, reduceLT, ↓reduceIte, Int.reduceToNat, reduceLeDiff]
        exact ⟨_, rfl, h7.putB.low, h7.putB⟩
      intro x y w7 h7
      obtain ⟨hxl, hxr⟩ := h7.ra x rfl
      obtain ⟨hyl, hyr⟩ := h7.rb y rfl
      have hxy := h7.ne x y rfl rfl
      have hl7 := h7.low
      have st1 : vStore Tryd.prog 43 (.pointer (some ⟨x, 0, none⟩)) (.agg (encAd a vf vs).toArray) w7 = .ok .skip (w7.setCells x 0 (encAd a vf vs)) := by
        obtain ⟨Av, cv, rfl, _⟩ := id hvf
        obtain ⟨As, cS, rfl, _⟩ := id hvs
        exact vStore_row hxr rfl (by kernel_rfl) (by intro v hv; simp only [List.mem_cons, List.not_mem_nil, or_false] at hv; rcases hv with rfl | rfl | rfl | rfl | rfl | rfl <;> rfl)
      have hyr2 := setCells_other (Ne.symm hxy) (encAd a vf vs) 0 w7 hyr
      have hxr2 := setCells_row (encAd a vf vs) hxr rfl
      have hl8 := setCells_below hxl (encAd a vf vs) 0 w7 hl7
      refine Ord_one 12 (by kernel_rfl) rfl ?_
      simp +contextual (maxSteps := 2000000) (disch := first | omega | (simp only [SZ]; first | done | omega) | (simp only [TS] at *; omega)) only [RZ, ovw, oneC, reduceAdd, reduceMul, reduceSub, reduceEqDiff, reduceLT, ↓reduceIte, Int.reduceToNat, reduceLeDiff,  st1]
      generalize w7.setCells x 0 (encAd a vf vs) = w8 at hyr2 hxr2 hl8 ⊢
      have st2 : vStore Tryd.prog 43 (.pointer (some ⟨y, 0, none⟩)) (.agg (encAd a uf us).toArray) w8 = .ok .skip (w8.setCells y 0 (encAd a uf us)) := by
        obtain ⟨Av, cv, rfl, _⟩ := id huf
        obtain ⟨As, cS, rfl, _⟩ := id hus
        exact vStore_row hyr2 rfl (by kernel_rfl) (by intro v hv; simp only [List.mem_cons, List.not_mem_nil, or_false] at hv; rcases hv with rfl | rfl | rfl | rfl | rfl | rfl <;> rfl)
      have hxr3 := setCells_other hxy (encAd a uf us) 0 w8 hxr2
      have hyr3 := setCells_row (encAd a uf us) hyr2 rfl
      have hl9 := setCells_below hyl (encAd a uf us) 0 w8 hl8
      refine ⟨hl8, Ord_one 13 (by kernel_rfl) rfl ?_⟩
      simp +contextual (maxSteps := 2000000) (disch := first | omega | (simp only [SZ]; first | done | omega) | (simp only [TS] at *; omega)) only [RZ, ovw, oneC, reduceAdd, reduceMul, reduceSub, reduceEqDiff, reduceLT, ↓reduceIte, Int.reduceToNat, reduceLeDiff,  st2]
      generalize w8.setCells y 0 (encAd a uf us) = w9 at hyr3 hxr3 hl9 ⊢
      refine ⟨hl9, Ord_done (by kernel_rfl) ?_⟩
      clear st1 st2 hl8 hl7 hyr2 hxr2 h7
      have hl1w : Below w1.heap.size w1 w9 := hbd.trans (hl9.mono hsz2)
      have x0 : w9.cell? ⟨x, 0, none⟩ = some (.string a.name) := hxr3.cell (i := 0) rfl
      have x1 : w9.cell? ⟨x, 1, none⟩ = some (.int .i64 a.kind) := hxr3.cell (i := 1) rfl
      have x2 : w9.cell? ⟨x, 2, none⟩ = some (.int .i64 a.price) := hxr3.cell (i := 2) rfl
      have x3 : w9.cell? ⟨x, 3, none⟩ = some vf := hxr3.cell (i := 3) rfl
      have x4 : w9.cell? ⟨x, 4, none⟩ = some (.int .i64 a.digits) := hxr3.cell (i := 4) rfl
      have x5 : w9.cell? ⟨x, 5, none⟩ = some vs := hxr3.cell (i := 5) rfl
      have y0 : w9.cell? ⟨y, 0, none⟩ = some (.string a.name) := hyr3.cell (i := 0) rfl
      have y1 : w9.cell? ⟨y, 1, none⟩ = some (.int .i64 a.kind) := hyr3.cell (i := 1) rfl
      have y2 : w9.cell? ⟨y, 2, none⟩ = some (.int .i64 a.price) := hyr3.cell (i := 2) rfl
      have y3 : w9.cell? ⟨y, 3, none⟩ = some uf := hyr3.cell (i := 3) rfl
      have y4 : w9.cell? ⟨y, 4, none⟩ = some (.int .i64 a.digits) := hyr3.cell (i := 4) rfl
      have y5 : w9.cell? ⟨y, 5, none⟩ = some us := hyr3.cell (i := 5) rfl
      obtain ⟨Af, cf, rfl, hAf⟩ := id hvf
      obtain ⟨As, cS, rfl, hAs⟩ := id hvs
      obtain ⟨Bf, df, rfl, hBf⟩ := id huf
      obtain ⟨Bs, dS, rfl, hBs⟩ := id hus
      simp +contextual (maxSteps := 2000000) (disch := first | omega | (simp only [SZ]; first | done | omega) | (simp only [TS] at *; omega)) only [RZ, ovw, oneC, reduceAdd, reduceMul, reduceSub, reduceEqDiff, reduceLT, ↓reduceIte, Int.reduceToNat, reduceLeDiff,  f2, f3, f163, f164, x0, x1, x2, x3, x4, x5, y0, y1, y2, y3, y4, y5]
      refine (ints_any a.factors Af Bf cf df w9 (hAf.below hl1w) (hBf.below hl1w) (by omega)).mono ?_
      rintro e w10 ⟨rfl, h10⟩
      refine ⟨_, rfl, ?_⟩
      have x5 : w10.cell? ⟨x, 5, none⟩ = some (.slice As a.serials.length cS) := (hxr3.below h10).cell (i := 5) rfl
      have y5 : w10.cell? ⟨y, 5, none⟩ = some (.slice Bs a.serials.length dS) := (hyr3.below h10).cell (i := 5) rfl
      have h10w : Below w1.heap.size w1 w10 := hl1w.trans (h10.mono hl1w.size)
      try simp +contextual (maxSteps := 2000000) (disch := first | omega | (simp only [SZ]; first | done | omega) | (simp only [TS] at *; omega)) only [RZ, ovw, oneC, reduceAdd, reduceMul, reduceSub, reduceEqDiff, reduceLT, ↓reduceIte, Int.reduceToNat, reduceLeDiff,  f2, f3, f163, f164, x5, y5]
      refine (ints_any a.serials As Bs cS dS w10 (hAs.below h10w) (hBs.below h10w) (by omega)).mono ?_
      rintro e w11 ⟨rfl, h11⟩
      refine ⟨_, rfl, ?_⟩
      have h11w : Below w1.heap.size w1 w11 := h10w.trans (h11.mono h10w.size)
      try simp +contextual (maxSteps := 2000000) (disch := first | omega | (simp only [SZ]; first | done | omega) | (simp only [TS] at *; omega)) only [RZ, ovw, oneC, reduceAdd, reduceMul, reduceSub, reduceEqDiff, reduceLT, ↓reduceIte, Int.reduceToNat, reduceLeDiff,  f2, f3, f163, f164]
      refine W_if_f rfl ?_
      simp +contextual (maxSteps := 2000000) (disch := first | omega | (simp only [SZ]; first | done | omega) | (simp only [TS] at *; omega)) only [RZ, ovw, oneC, reduceAdd, reduceMul, reduceSub, reduceEqDiff, reduceLT, ↓reduceIte, Int.reduceToNat, reduceLeDiff,  f2, f3, f163, f164]
      refine hK _ _ ⟨h11w, k + 1, by omega, ?_⟩ ?_
      · simp +contextual (maxSteps := 2000000) (disch := first | omega | (simp only [SZ]; first | done | omega) | (simp only [TS] at *; omega)) only [RZ, ovw, oneC, reduceAdd, reduceMul, reduceSub, reduceEqDiff, reduceLT, ↓reduceIte, Int.reduceToNat, reduceLeDiff,  f2, f3, f163, f164]
      · simp +contextual (maxSteps := 2000000) (disch := first | omega | (simp only [SZ]; first | done | omega) | (simp only [TS] at *; omega)) only [RZ, ovw, oneC, reduceAdd, reduceMul, reduceSub, reduceEqDiff, reduceLT, ↓reduceIte, Int.reduceToNat, reduceLeDiff,  intOf, f164]
        omega
    · simp +contextual (maxSteps := 2000000) (disch := first | omega | (simp only [SZ]; first | done | omega) | (simp only [TS] at *; omega)) only [RZ, ovw, oneC, reduceAdd, reduceMul, reduceSub, reduceEqDiff, reduceLT, ↓reduceIte, Int.reduceToNat, reduceLeDiff,  f2, f3, f163, f164]
      exact hb
  rintro σ w2 ⟨hb, f2, f3⟩
  refine W_cutS (fun σ w3 => Below w1.heap.size w1 w3) ?_ ?_
  · intro σ w3 h3
    simp +contextual (maxSteps := 2000000) (disch := first | omega | (simp only [SZ]; first | done | omega) | (simp only [TS] at *; omega)) only [RZ, ovw, oneC, reduceAdd, reduceMul, reduceSub, reduceEqDiff, reduceLT, ↓reduceIte, Int.reduceToNat, reduceLeDiff]
    exact b1.trans (h3.mono b1.size)
  · have c21 : w2.cell? ⟨w.heap.size, 21, none⟩ = some (.slice At G.tiers.length ct) := (r0.below hb).cell (i := 21) rfl
    refine W_piece fun K hK hX => ?_
    simp +contextual (maxSteps := 2000000) (disch := first | omega | (simp only [SZ]; first | done | omega) | (simp only [TS] at *; omega)) only [RZ, ovw, oneC, reduceAdd, reduceMul, reduceSub, reduceEqDiff, reduceLT, ↓reduceIte, Int.reduceToNat, reduceLeDiff,  f2, f3, c21]
    refine hK _ _ ?_
    clear hK hX K c21
    rw [W_block, W_loop]
    refine Raw_loop (fun σ w2 => Below w1.heap.size w1 w2 ∧ ∃ k : Nat, k ≤ G.tiers.length ∧ σ 2 = .pointer (some ⟨w.heap.size, 0, none⟩) ∧ σ 3 = .pointer (some ⟨w.heap.size + 1, 0, none⟩) ∧ σ 222 = .int .i64 G.tiers.length ∧ σ 223 = .int .i64 k) (fun σ _ => G.tiers.length - (intOf (σ 223)).toNat) ?_ ?_
    · refine ⟨hb, 0, Nat.zero_le _, ?_⟩
      simp +contextual (maxSteps := 2000000) (disch := first | omega | (simp only [SZ]; first | done | omega) | (simp only [TS] at *; omega)) only [RZ, ovw, oneC, reduceAdd, reduceMul, reduceSub, reduceEqDiff, reduceLT, ↓reduceIte, Int.reduceToNat, reduceLeDiff,  f2, f3]
      rfl
    clear f2 f3 hb
    rintro σ w2 ⟨hb, k, hk, f2, f3, f222, f223⟩ K hK
    simp +contextual (maxSteps := 2000000) (disch := first | omega | (simp only [SZ]; first | done | omega) | (simp only [TS] at *; omega)) only [RZ, ovw, oneC, reduceAdd, reduceMul, reduceSub, reduceEqDiff, reduceLT, ↓reduceIte, Int.reduceToNat, reduceLeDiff,  f222, f223]
    (refine W_if rfl (fun hc => ?_) (fun hc => ?_) <;> (try simp only [TS] at hc))
    · have hkl : k < G.tiers.length := by omega
      obtain ⟨t, ht⟩ : ∃ t, G.tiers[k]? = some t := ⟨_, List.getElem?_eq_getElem hkl⟩
      have hbd : Below w1.heap.size w1 w2.drew := below_drew hb
      obtain ⟨b2, o2, rfl, hb2, hc2⟩ := (hAt1.below hbd).at_ (enc := encTi) ht
      obtain ⟨b3, o3, rfl, hb3, hc3⟩ := (hBt1.below hbd).at_ (enc := encTi) ht
      have hla : vLoad Tryd.prog 45 (.pointer (some ⟨b2, o2 + k * 6, none⟩)) w2.drew = .ok (.value (.agg (encTi t).toArray)) w2.drew := vLoad_all (by kernel_rfl) (by show _ = some 6; kernel_rfl) (fun i v hv => hc2 i v hv)
      have hlb : vLoad Tryd.prog 45 (.pointer (some ⟨b3, o3 + k * 6, none⟩)) w2.drew = .ok (.value (.agg (encTi t).toArray)) w2.drew := vLoad_all (by kernel_rfl) (by show _ = some 6; kernel_rfl) (fun i v hv => hc3 i v hv)
      have p21 : w2.drew.cell? ⟨w.heap.size, 21, none⟩ = some (.slice (some ⟨b2, o2, none⟩) G.tiers.length ct) := (r0.below hbd).cell (i := 21) rfl
      have q21 : w2.drew.cell? ⟨w.heap.size + 1, 21, none⟩ = some (.slice (some ⟨b3, o3, none⟩) G.tiers.length dt) := (r1.below hbd).cell (i := 21) rfl
      simp +contextual (maxSteps := 2000000) (disch := first | omega | (simp only [SZ]; first | done | omega) | (simp only [TS] at *; omega)) only [RZ, ovw, oneC, reduceAdd, reduceMul, reduceSub, reduceEqDiff, reduceLT, ↓reduceIte, Int.reduceToNat, reduceLeDiff,  f2, f3, f222, f223]
      refine Raw_still MX (by kernel_rfl) ?_
      simp +contextual (maxSteps := 2000000) (disch := first | omega | (simp only [SZ]; first | done | omega) | (simp only [TS] at *; omega)) only [RZ, ovw, oneC, reduceAdd, reduceMul, reduceSub, reduceEqDiff, reduceLT, ↓reduceIte, Int.reduceToNat, reduceLeDiff,  f2, f3, f222, f223, p21, q21, hla, hlb, ti_same]
      refine W_if_f rfl ?_
      simp +contextual (maxSteps := 2000000) (disch := first | omega | (simp only [SZ]; first | done | omega) | (simp only [TS] at *; omega)) only [RZ, ovw, oneC, reduceAdd, reduceMul, reduceSub, reduceEqDiff, reduceLT, ↓reduceIte, Int.reduceToNat, reduceLeDiff,  f2, f3, f222, f223]
      refine hK _ _ ⟨hbd, k + 1, by omega, ?_⟩ ?_
      · simp +contextual (maxSteps := 2000000) (disch := first | omega | (simp only [SZ]; first | done | omega) | (simp only [TS] at *; omega)) only [RZ, ovw, oneC, reduceAdd, reduceMul, reduceSub, reduceEqDiff, reduceLT, ↓reduceIte, Int.reduceToNat, reduceLeDiff,  f2, f3, f222, f223]
      · simp +contextual (maxSteps := 2000000) (disch := first | omega | (simp only [SZ]; first | done | omega) | (simp only [TS] at *; omega)) only [RZ, ovw, oneC, reduceAdd, reduceMul, reduceSub, reduceEqDiff, reduceLT, ↓reduceIte, Int.reduceToNat, reduceLeDiff,  intOf, f223]
        omega
    · simp +contextual (maxSteps := 2000000) (disch := first | omega | (simp only [SZ]; first | done | omega) | (simp only [TS] at *; omega)) only [RZ, ovw, oneC, reduceAdd, reduceMul, reduceSub, reduceEqDiff, reduceLT, ↓reduceIte, Int.reduceToNat, reduceLeDiff,  f2, f3, f222, f223]
      exact hb
end Go.Proofs.YtbdkggnajipdhaaDoor
/- Walks: the law's few. -/
namespace Go.Proofs.YtbdkggnajipdhaaDoor
open Go.RowKit
set_option maxRecDepth 100000
def fewA (a : Ad) : Bool := !(decide (200 < a.name.size) || decide (50 < a.factors.length) || decide (50 < a.serials.length))
end Go.Proofs.YtbdkggnajipdhaaDoor
