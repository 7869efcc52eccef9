/- Texts laid one behind the other: PbE, PbF, PbG, PbH. Each says at its head what it proves. -/
import Derived.Test.YtbdkggnajipdhaaGreatDoorRtTwZ08
set_option linter.unusedSimpArgs false
/- Walk: the printer's head. -/
namespace Go.Proofs.YtbdkggnajipdhaaGreatDoor
open Nat (reduceAdd reduceMul reduceSub reduceEqDiff reduceLT reduceLeDiff)
open Go.RowKit
set_option maxRecDepth 100000
section
variable {g B : Nat} {w : World} {p : Pr}
set_option maxHeartbeats 4000000 in
theorem pbHead_any (h : PbIn g w p) (G : Gm) (Va Vt : Value) (hW : Laid w) (hg : 9 ≤ g) (hl : p.X.length ≤ B) (hlo : 32768 ≤ B) (hB : B ≤ 300000000) :
    Calls Tryz.prog 32 #[.pointer (some ⟨g, 0, none⟩), .agg (gmV G Va Vt).toArray] w fun e w' => e = .returned (.tuple #[]) ∧ Pst g w.heap.size 26 (gmV G Va Vt) w w' (p.head G.n) (B + 3000) := by
  refine calls_W (l := [_, _]) Tryz.func32 rfl _ Tryz.ntmps32 (by simp) ?_
  generalize hr : p.head G.n = r
  unfold Pr.head at hr
  have h0 := Pst.of_box (T := 26) (cs := gmV G Va Vt) h hW hg (by decide) hl hlo
  have b1 : w.cell? ⟨w.heap.size, 1, none⟩ = w.cell? ⟨w.heap.size, 1, none⟩ := rfl
  have k0 : (w.alloc (.cells (gmV G Va Vt).toArray 26)).cell? ⟨w.heap.size, 1, none⟩ = some (.int .i64 (G.n 0)) := h0.cell 1 rfl
  refine W_piece fun K hK hX => ?_
  simp +contextual (maxSteps := 2000000) (disch := first | omega | (simp only [SZ]; first | done | omega) | (simp only [TS] at *; omega)) only [RZ, ovw, oneC, reduceAdd, reduceMul, reduceSub, reduceEqDiff, reduceLT, ↓reduceIte, Int.reduceToNat, reduceLeDiff]
  refine hK _ _ ?_
  clear hK hX K b1
  generalize w.alloc (.cells (gmV G Va Vt).toArray 26) = w0 at h0 k0 ⊢
  have hlt : w.heap.size < w0.heap.size := h0.row.lt
  refine W_cutS (fun σ w1 => ∃ s : ByteArray, bs s = (if G.n 0 = 1 then asc "choose" else asc "digits") ∧ σ 0 = .pointer (some ⟨g, 0, none⟩) ∧ σ 3 = .pointer (some ⟨w.heap.size, 0, none⟩) ∧ (G.n 0 = 1 ∨ G.n 0 = 2) ∧ Pst g w.heap.size 26 (gmV G Va Vt) w w1 (p.begin (bs s)) (B + 102)) ?_ ?_
  rotate_left
  · refine W_piece fun K hK hX => ?_
    simp +contextual (maxSteps := 2000000) (disch := first | omega | (simp only [SZ]; first | done | omega) | (simp only [TS] at *; omega)) only [RZ, ovw, oneC, reduceAdd, reduceMul, reduceSub, reduceEqDiff, reduceLT, ↓reduceIte, Int.reduceToNat, reduceLeDiff,  k0]
    refine hK _ _ ?_
    clear hK hX K
    rw [W_block]
    refine W_piece fun K hK hX => ?_
    simp +contextual (maxSteps := 2000000) (disch := first | omega | (simp only [SZ]; first | done | omega) | (simp only [TS] at *; omega)) only [RZ, ovw, oneC, reduceAdd, reduceMul, reduceSub, reduceEqDiff, reduceLT, ↓reduceIte, Int.reduceToNat, reduceLeDiff]
    refine hK _ _ ?_
    clear hK hX K
    by_cases e1 : G.n 0 = 1
    · rw [show decide (G.n 0 = 1) = true by simp [e1]]
      refine W_if_t rfl ?_
      simp +contextual (maxSteps := 2000000) (disch := first | omega | (simp only [SZ]; first | done | omega) | (simp only [TS] at *; omega)) only [RZ, ovw, oneC, reduceAdd, reduceMul, reduceSub, reduceEqDiff, reduceLT, ↓reduceIte, Int.reduceToNat, reduceLeDiff]
      refine (qBegin h0 ⟨#[99, 104, 111, 111, 115, 101]⟩ (by decide) (by omega)).mono ?_
      rintro e w1 ⟨rfl, h1⟩
      refine ⟨_, rfl, ?_⟩
      try simp +contextual (maxSteps := 2000000) (disch := first | omega | (simp only [SZ]; first | done | omega) | (simp only [TS] at *; omega)) only [RZ, ovw, oneC, reduceAdd, reduceMul, reduceSub, reduceEqDiff, reduceLT, ↓reduceIte, Int.reduceToNat, reduceLeDiff]
      refine ⟨⟨#[99, 104, 111, 111, 115, 101]⟩, ?_, .inl e1, h1⟩
      rw [if_pos e1]; decide +kernel
    · rw [show decide (G.n 0 = 1) = false by simp [e1]]
      refine W_if_f rfl ?_
      refine W_piece fun K hK hX => ?_
      simp +contextual (maxSteps := 2000000) (disch := first | omega | (simp only [SZ]; first | done | omega) | (simp only [TS] at *; omega)) only [RZ, ovw, oneC, reduceAdd, reduceMul, reduceSub, reduceEqDiff, reduceLT, ↓reduceIte, Int.reduceToNat, reduceLeDiff]
      refine hK _ _ ?_
      clear hK hX K
      by_cases e2 : G.n 0 = 2
      · rw [show decide (G.n 0 = 2) = true by simp [e2]]
        refine W_if_t rfl ?_
        simp +contextual (maxSteps := 2000000) (disch := first | omega | (simp only [SZ]; first | done | omega) | (simp only [TS] at *; omega)) only [RZ, ovw, oneC, reduceAdd, reduceMul, reduceSub, reduceEqDiff, reduceLT, ↓reduceIte, Int.reduceToNat, reduceLeDiff]
        refine (qBegin h0 ⟨#[100, 105, 103, 105, 116, 115]⟩ (by decide) (by omega)).mono ?_
        rintro e w1 ⟨rfl, h1⟩
        refine ⟨_, rfl, ?_⟩
        try simp +contextual (maxSteps := 2000000) (disch := first | omega | (simp only [SZ]; first | done | omega) | (simp only [TS] at *; omega)) only [RZ, ovw, oneC, reduceAdd, reduceMul, reduceSub, reduceEqDiff, reduceLT, ↓reduceIte, Int.reduceToNat, reduceLeDiff]
        refine ⟨⟨#[100, 105, 103, 105, 116, 115]⟩, ?_, .inr e2, h1⟩
        rw [if_neg e1]; decide +kernel
      · rw [show decide (G.n 0 = 2) = false by simp [e2]]
        refine W_if_f rfl ?_
        obtain ⟨c2, d2, z2, h1⟩ := h0.spoil
        simp +contextual (maxSteps := 2000000) (disch := first | omega | (simp only [SZ]; first | done | omega) | (simp only [TS] at *; omega)) only [RZ, ovw, oneC, reduceAdd, reduceMul, reduceSub, reduceEqDiff, reduceLT, ↓reduceIte, Int.reduceToNat, reduceLeDiff,  d2, z2]
        rw [if_neg (fun e => e.elim e1 e2)] at hr
        subst hr
        exact h1.next h1.pb (KB.refl _ _) (Nat.le_trans h1.le (by omega)) (by omega)
  clear k0
  rintro σ w1 ⟨s, hs, f0, f3, hc, h1⟩
  rw [hs] at h1
  rw [if_pos hc] at hr
  dsimp only at hr
  clear hc
  have d1 : w1.cell? ⟨w.heap.size, 3, none⟩ = some (.int .i64 (G.n 2)) := h1.cell 3 rfl
  refine W_piece fun K hK hX => ?_
  simp +contextual (maxSteps := 2000000) (disch := first | omega | (simp only [SZ]; first | done | omega) | (simp only [TS] at *; omega)) only [RZ, ovw, oneC, reduceAdd, reduceMul, reduceSub, reduceEqDiff, reduceLT, ↓reduceIte, Int.reduceToNat, reduceLeDiff,  f0, f3, d1]
  refine (qNum h1 (G.n 2) (by omega)).mono ?_
  rintro e w2 ⟨rfl, h2⟩
  refine ⟨_, rfl, ?_⟩
  try simp +contextual (maxSteps := 2000000) (disch := first | omega | (simp only [SZ]; first | done | omega) | (simp only [TS] at *; omega)) only [RZ, ovw, oneC, reduceAdd, reduceMul, reduceSub, reduceEqDiff, reduceLT, ↓reduceIte, Int.reduceToNat, reduceLeDiff,  f0, f3, d1]
  refine hK _ _ ?_
  clear hK hX K
  refine W_piece fun K hK hX => ?_
  simp +contextual (maxSteps := 2000000) (disch := first | omega | (simp only [SZ]; first | done | omega) | (simp only [TS] at *; omega)) only [RZ, ovw, oneC, reduceAdd, reduceMul, reduceSub, reduceEqDiff, reduceLT, ↓reduceIte, Int.reduceToNat, reduceLeDiff,  f0, f3]
  refine (qWord h2 ⟨#[111, 102]⟩ (by decide) (by omega)).mono ?_
  rintro e w3 ⟨rfl, h3⟩
  refine ⟨_, rfl, ?_⟩
  rw [show bs ⟨#[111, 102]⟩ = asc "of" by decide +kernel] at h3
  try simp +contextual (maxSteps := 2000000) (disch := first | omega | (simp only [SZ]; first | done | omega) | (simp only [TS] at *; omega)) only [RZ, ovw, oneC, reduceAdd, reduceMul, reduceSub, reduceEqDiff, reduceLT, ↓reduceIte, Int.reduceToNat, reduceLeDiff,  f0, f3]
  refine hK _ _ ?_
  clear hK hX K
  have d2 : w3.cell? ⟨w.heap.size, 4, none⟩ = some (.int .i64 (G.n 3)) := h3.cell 4 rfl
  refine W_piece fun K hK hX => ?_
  simp +contextual (maxSteps := 2000000) (disch := first | omega | (simp only [SZ]; first | done | omega) | (simp only [TS] at *; omega)) only [RZ, ovw, oneC, reduceAdd, reduceMul, reduceSub, reduceEqDiff, reduceLT, ↓reduceIte, Int.reduceToNat, reduceLeDiff,  f0, f3, d2]
  refine (qNum h3 (G.n 3) (by omega)).mono ?_
  rintro e w4 ⟨rfl, h4⟩
  refine ⟨_, rfl, ?_⟩
  try simp +contextual (maxSteps := 2000000) (disch := first | omega | (simp only [SZ]; first | done | omega) | (simp only [TS] at *; omega)) only [RZ, ovw, oneC, reduceAdd, reduceMul, reduceSub, reduceEqDiff, reduceLT, ↓reduceIte, Int.reduceToNat, reduceLeDiff,  f0, f3, d2]
  refine hK _ _ ?_
  clear hK hX K
  refine W_piece fun K hK hX => ?_
  simp +contextual (maxSteps := 2000000) (disch := first | omega | (simp only [SZ]; first | done | omega) | (simp only [TS] at *; omega)) only [RZ, ovw, oneC, reduceAdd, reduceMul, reduceSub, reduceEqDiff, reduceLT, ↓reduceIte, Int.reduceToNat, reduceLeDiff,  f0, f3]
  refine (qEnd h4 (by omega)).mono ?_
  rintro e w5 ⟨rfl, h5⟩
  refine ⟨_, rfl, ?_⟩
  try simp +contextual (maxSteps := 2000000) (disch := first | omega | (simp only [SZ]; first | done | omega) | (simp only [TS] at *; omega)) only [RZ, ovw, oneC, reduceAdd, reduceMul, reduceSub, reduceEqDiff, reduceLT, ↓reduceIte, Int.reduceToNat, reduceLeDiff,  f0, f3]
  refine hK _ _ ?_
  clear hK hX K
  have e6 : (((((p.begin (if G.n 0 = 1 then asc "choose" else asc "digits")).nums [G.n 2]).ws [asc "of"]).nums [G.n 3]).fin) = p.two (if G.n 0 = 1 then asc "choose" else asc "digits") (G.n 2) (G.n 3) := rfl
  rw [e6] at h5
  clear e6
  generalize p.two (if G.n 0 = 1 then asc "choose" else asc "digits") (G.n 2) (G.n 3) = p1 at h5 hr
  refine W_cutS (fun σ w6 => σ 0 = .pointer (some ⟨g, 0, none⟩) ∧ σ 3 = .pointer (some ⟨w.heap.size, 0, none⟩) ∧ Pst g w.heap.size 26 (gmV G Va Vt) w w6 (if G.n 4 ≠ 0 ∨ G.n 5 ≠ 0 then p1.two (asc "bonus") (G.n 4) (G.n 5) else p1) (B + 1000)) ?_ ?_
  rotate_left
  have d5 : w5.cell? ⟨w.heap.size, 5, none⟩ = some (.int .i64 (G.n 4)) := h5.cell 5 rfl
  have d6 : w5.cell? ⟨w.heap.size, 6, none⟩ = some (.int .i64 (G.n 5)) := h5.cell 6 rfl
  · refine W_piece fun K hK hX => ?_
    simp +contextual (maxSteps := 2000000) (disch := first | omega | (simp only [SZ]; first | done | omega) | (simp only [TS] at *; omega)) only [RZ, ovw, oneC, reduceAdd, reduceMul, reduceSub, reduceEqDiff, reduceLT, ↓reduceIte, Int.reduceToNat, reduceLeDiff,  f0, f3, d5, d6]
    refine hK _ _ ?_
    clear hK hX K
    by_cases hc : G.n 4 ≠ 0 ∨ G.n 5 ≠ 0
    · rw [if_pos hc]
      refine W_if_t (by show Value.bool (!decide (G.n 4 = 0) || !decide (G.n 5 = 0)) = .bool true; rw [show (!decide (G.n 4 = 0) || !decide (G.n 5 = 0)) = true by simpa [Decidable.not_and_iff_not_or_not] using hc]) ?_
      refine W_piece fun K hK hX => ?_
      simp +contextual (maxSteps := 2000000) (disch := first | omega | (simp only [SZ]; first | done | omega) | (simp only [TS] at *; omega)) only [RZ, ovw, oneC, reduceAdd, reduceMul, reduceSub, reduceEqDiff, reduceLT, ↓reduceIte, Int.reduceToNat, reduceLeDiff,  f0, f3]
      refine (qBegin h5 ⟨#[98, 111, 110, 117, 115]⟩ (by decide) (by omega)).mono ?_
      rintro e w6 ⟨rfl, h6⟩
      refine ⟨_, rfl, ?_⟩
      rw [show bs ⟨#[98, 111, 110, 117, 115]⟩ = asc "bonus" by decide +kernel] at h6
      try simp +contextual (maxSteps := 2000000) (disch := first | omega | (simp only [SZ]; first | done | omega) | (simp only [TS] at *; omega)) only [RZ, ovw, oneC, reduceAdd, reduceMul, reduceSub, reduceEqDiff, reduceLT, ↓reduceIte, Int.reduceToNat, reduceLeDiff,  f0, f3]
      refine hK _ _ ?_
      clear hK hX K
      have d5 : w6.cell? ⟨w.heap.size, 5, none⟩ = some (.int .i64 (G.n 4)) := h6.cell 5 rfl
      refine W_piece fun K hK hX => ?_
      simp +contextual (maxSteps := 2000000) (disch := first | omega | (simp only [SZ]; first | done | omega) | (simp only [TS] at *; omega)) only [RZ, ovw, oneC, reduceAdd, reduceMul, reduceSub, reduceEqDiff, reduceLT, ↓reduceIte, Int.reduceToNat, reduceLeDiff,  f0, f3, d5]
      refine (qNum h6 (G.n 4) (by omega)).mono ?_
      rintro e w7 ⟨rfl, h7⟩
      refine ⟨_, rfl, ?_⟩
      try simp +contextual (maxSteps := 2000000) (disch := first | omega | (simp only [SZ]; first | done | omega) | (simp only [TS] at *; omega)) only [RZ, ovw, oneC, reduceAdd, reduceMul, reduceSub, reduceEqDiff, reduceLT, ↓reduceIte, Int.reduceToNat, reduceLeDiff,  f0, f3, d5]
      refine hK _ _ ?_
      clear hK hX K
      refine W_piece fun K hK hX => ?_
      simp +contextual (maxSteps := 2000000) (disch := first | omega | (simp only [SZ]; first | done | omega) | (simp only [TS] at *; omega)) only [RZ, ovw, oneC, reduceAdd, reduceMul, reduceSub, reduceEqDiff, reduceLT, ↓reduceIte, Int.reduceToNat, reduceLeDiff,  f0, f3]
      refine (qWord h7 ⟨#[111, 102]⟩ (by decide) (by omega)).mono ?_
      rintro e w8 ⟨rfl, h8⟩
      refine ⟨_, rfl, ?_⟩
      rw [show bs ⟨#[111, 102]⟩ = asc "of" by decide +kernel] at h8
      try simp +contextual (maxSteps := 2000000) (disch := first | omega | (simp only [SZ]; first | done | omega) | (simp only [TS] at *; omega)) only [RZ, ovw, oneC, reduceAdd, reduceMul, reduceSub, reduceEqDiff, reduceLT, ↓reduceIte, Int.reduceToNat, reduceLeDiff,  f0, f3]
      refine hK _ _ ?_
      clear hK hX K
      have d6 : w8.cell? ⟨w.heap.size, 6, none⟩ = some (.int .i64 (G.n 5)) := h8.cell 6 rfl
      refine W_piece fun K hK hX => ?_
      simp +contextual (maxSteps := 2000000) (disch := first | omega | (simp only [SZ]; first | done | omega) | (simp only [TS] at *; omega)) only [RZ, ovw, oneC, reduceAdd, reduceMul, reduceSub, reduceEqDiff, reduceLT, ↓reduceIte, Int.reduceToNat, reduceLeDiff,  f0, f3, d6]
      refine (qNum h8 (G.n 5) (by omega)).mono ?_
      rintro e w9 ⟨rfl, h9⟩
      refine ⟨_, rfl, ?_⟩
      try simp +contextual (maxSteps := 2000000) (disch := first | omega | (simp only [SZ]; first | done | omega) | (simp only [TS] at *; omega)) only [RZ, ovw, oneC, reduceAdd, reduceMul, reduceSub, reduceEqDiff, reduceLT, ↓reduceIte, Int.reduceToNat, reduceLeDiff,  f0, f3, d6]
      refine hK _ _ ?_
      clear hK hX K
      simp +contextual (maxSteps := 2000000) (disch := first | omega | (simp only [SZ]; first | done | omega) | (simp only [TS] at *; omega)) only [RZ, ovw, oneC, reduceAdd, reduceMul, reduceSub, reduceEqDiff, reduceLT, ↓reduceIte, Int.reduceToNat, reduceLeDiff,  f0, f3]
      refine (qEnd h9 (by omega)).mono ?_
      rintro e w10 ⟨rfl, h10⟩
      refine ⟨_, rfl, ?_⟩
      try simp +contextual (maxSteps := 2000000) (disch := first | omega | (simp only [SZ]; first | done | omega) | (simp only [TS] at *; omega)) only [RZ, ovw, oneC, reduceAdd, reduceMul, reduceSub, reduceEqDiff, reduceLT, ↓reduceIte, Int.reduceToNat, reduceLeDiff,  f0, f3]
      exact h10.next h10.pb (KB.refl _ _) (Nat.le_trans h10.le (by omega)) (by omega)
    · rw [if_neg hc]
      refine W_if_f (by show Value.bool (!decide (G.n 4 = 0) || !decide (G.n 5 = 0)) = .bool false; rw [show (!decide (G.n 4 = 0) || !decide (G.n 5 = 0)) = false by simpa using hc]) ?_
      rw [W_skip, thenX_normal]
      refine ⟨?_, ?_, h5.next h5.pb (KB.refl _ _) (Nat.le_trans h5.le (by omega)) (by omega)⟩
      · simp +contextual (maxSteps := 2000000) (disch := first | omega | (simp only [SZ]; first | done | omega) | (simp only [TS] at *; omega)) only [RZ, ovw, oneC, reduceAdd, reduceMul, reduceSub, reduceEqDiff, reduceLT, ↓reduceIte, Int.reduceToNat, reduceLeDiff,  f0]
      · simp +contextual (maxSteps := 2000000) (disch := first | omega | (simp only [SZ]; first | done | omega) | (simp only [TS] at *; omega)) only [RZ, ovw, oneC, reduceAdd, reduceMul, reduceSub, reduceEqDiff, reduceLT, ↓reduceIte, Int.reduceToNat, reduceLeDiff,  f3]
  clear h1 h2 h3 h4 h5 d1 d2
  generalize (if G.n 4 ≠ 0 ∨ G.n 5 ≠ 0 then p1.two (asc "bonus") (G.n 4) (G.n 5) else p1) = p2 at hr ⊢
  rintro σ w1 ⟨f0, f3, h1⟩
  have d7 : w1.cell? ⟨w.heap.size, 7, none⟩ = some (.int .i64 (G.n 6)) := h1.cell 7 rfl
  refine W_piece fun K hK hX => ?_
  simp +contextual (maxSteps := 2000000) (disch := first | omega | (simp only [SZ]; first | done | omega) | (simp only [TS] at *; omega)) only [RZ, ovw, oneC, reduceAdd, reduceMul, reduceSub, reduceEqDiff, reduceLT, ↓reduceIte, Int.reduceToNat, reduceLeDiff,  f0, f3, d7]
  refine (qOpt h1 ⟨#[101, 120, 116, 114, 97]⟩ (G.n 6) 0 (by decide) (by omega)).mono ?_
  rintro e w2 ⟨rfl, h2⟩
  refine ⟨_, rfl, ?_⟩
  rw [show bs ⟨#[101, 120, 116, 114, 97]⟩ = asc "extra" by decide +kernel] at h2
  try simp +contextual (maxSteps := 2000000) (disch := first | omega | (simp only [SZ]; first | done | omega) | (simp only [TS] at *; omega)) only [RZ, ovw, oneC, reduceAdd, reduceMul, reduceSub, reduceEqDiff, reduceLT, ↓reduceIte, Int.reduceToNat, reduceLeDiff,  f0, f3, d7]
  refine hK _ _ ?_
  clear hK hX K
  have d8 : w2.cell? ⟨w.heap.size, 2, none⟩ = some (.int .i64 (G.n 1)) := h2.cell 2 rfl
  refine W_piece fun K hK hX => ?_
  simp +contextual (maxSteps := 2000000) (disch := first | omega | (simp only [SZ]; first | done | omega) | (simp only [TS] at *; omega)) only [RZ, ovw, oneC, reduceAdd, reduceMul, reduceSub, reduceEqDiff, reduceLT, ↓reduceIte, Int.reduceToNat, reduceLeDiff,  f0, f3, d8]
  refine (qOpt h2 ⟨#[112, 114, 105, 99, 101]⟩ (G.n 1) 0 (by decide) (by omega)).mono ?_
  rintro e w3 ⟨rfl, h3⟩
  refine ⟨_, rfl, ?_⟩
  rw [show bs ⟨#[112, 114, 105, 99, 101]⟩ = asc "price" by decide +kernel] at h3
  try simp +contextual (maxSteps := 2000000) (disch := first | omega | (simp only [SZ]; first | done | omega) | (simp only [TS] at *; omega)) only [RZ, ovw, oneC, reduceAdd, reduceMul, reduceSub, reduceEqDiff, reduceLT, ↓reduceIte, Int.reduceToNat, reduceLeDiff,  f0, f3, d8]
  refine hK _ _ ?_
  clear hK hX K
  have d9 : w3.cell? ⟨w.heap.size, 8, none⟩ = some (.int .i64 (G.n 7)) := h3.cell 8 rfl
  refine W_piece fun K hK hX => ?_
  simp +contextual (maxSteps := 2000000) (disch := first | omega | (simp only [SZ]; first | done | omega) | (simp only [TS] at *; omega)) only [RZ, ovw, oneC, reduceAdd, reduceMul, reduceSub, reduceEqDiff, reduceLT, ↓reduceIte, Int.reduceToNat, reduceLeDiff,  f0, f3, d9]
  refine (qOpt h3 ⟨#[100, 114, 97, 119, 115]⟩ (G.n 7) 1 (by decide) (by omega)).mono ?_
  rintro e w4 ⟨rfl, h4⟩
  refine ⟨_, rfl, ?_⟩
  rw [show bs ⟨#[100, 114, 97, 119, 115]⟩ = asc "draws" by decide +kernel] at h4
  try simp +contextual (maxSteps := 2000000) (disch := first | omega | (simp only [SZ]; first | done | omega) | (simp only [TS] at *; omega)) only [RZ, ovw, oneC, reduceAdd, reduceMul, reduceSub, reduceEqDiff, reduceLT, ↓reduceIte, Int.reduceToNat, reduceLeDiff,  f0, f3, d9]
  refine hK _ _ ?_
  clear hK hX K
  have d10 : w4.cell? ⟨w.heap.size, 9, none⟩ = some (.int .i64 (G.n 8)) := h4.cell 9 rfl
  have d11 : w4.cell? ⟨w.heap.size, 3, none⟩ = some (.int .i64 (G.n 2)) := h4.cell 3 rfl
  simp +contextual (maxSteps := 2000000) (disch := first | omega | (simp only [SZ]; first | done | omega) | (simp only [TS] at *; omega)) only [RZ, ovw, oneC, reduceAdd, reduceMul, reduceSub, reduceEqDiff, reduceLT, ↓reduceIte, Int.reduceToNat, reduceLeDiff,  f0, f3, d10, d11]
  refine (qOpt h4 ⟨#[115, 121, 115, 116, 101, 109]⟩ (G.n 8) (G.n 2) (by decide) (by omega)).mono ?_
  rintro e w5 ⟨rfl, h5⟩
  refine ⟨_, rfl, ?_⟩
  rw [show bs ⟨#[115, 121, 115, 116, 101, 109]⟩ = asc "system" by decide +kernel] at h5
  try simp +contextual (maxSteps := 2000000) (disch := first | omega | (simp only [SZ]; first | done | omega) | (simp only [TS] at *; omega)) only [RZ, ovw, oneC, reduceAdd, reduceMul, reduceSub, reduceEqDiff, reduceLT, ↓reduceIte, Int.reduceToNat, reduceLeDiff,  f0, f3, d10, d11]
  subst hr
  exact h5.next h5.pb (KB.refl _ _) (Nat.le_trans h5.le (by omega)) (by omega)
end
end Go.Proofs.YtbdkggnajipdhaaGreatDoor
/- Walk: the printer's days. -/
namespace Go.Proofs.YtbdkggnajipdhaaGreatDoor
open Nat (reduceAdd reduceMul reduceSub reduceEqDiff reduceLT reduceLeDiff)
open Go.RowKit
set_option maxRecDepth 100000
section
variable {P : Program} {T : TypeId} {x y : Operand} {w : World}
theorem vBin_shrN {k : IntKind} {d i : Nat} (hi : i < 7) : vBin P .shr T x y (.int .i64 d) (.int k i) w = .ok (.value (.int .i64 ((d / 2 ^ i : Nat) : Int))) w := by
  have e : (d : Int).fdiv (2 ^ (min (i : Int).toNat IntKind.i64.bits)) = ((d / 2 ^ i : Nat) : Int) := by
    rw [show min (i : Int).toNat IntKind.i64.bits = i from by have : IntKind.i64.bits = 64 := by decide
                                                              omega]
    rw [Int.fdiv_eq_ediv_of_nonneg _ (Int.le_of_lt (Int.pow_pos (by decide)))]
    push_cast
    rfl
  simp [vBin, eqGuard, binOp, Op.shift, show ¬ ((i : Int) < 0) by omega]
  first | done | exact e | (rw [← e]; simp)
theorem vBin_and1 {d : Nat} (hd : d < 4611686018427387904) : vBin P .and T x y (.int .i64 d) (.int .i64 1) w = .ok (.value (.int .i64 ((d % 2 : Nat) : Int))) w := by
  have := vBin_andN (P := P) (T := T) (x := x) (y := y) (w := w) hd (show 1 < 4611686018427387904 by decide)
  rw [Nat.and_one_is_mod] at this
  exact this
def dayK (d k : Nat) : List (List Nat) := ((List.range k).filter fun i => d / 2 ^ i % 2 == 1).map fun i => dayW.getD i []
theorem dayK_succ (d k : Nat) : dayK d (k + 1) = dayK d k ++ if d / 2 ^ k % 2 = 1 then [dayW.getD k []] else [] := by
  unfold dayK
  rw [List.range_succ, List.filter_append, List.map_append]
  congr 1
  by_cases h : d / 2 ^ k % 2 = 1
  · rw [if_pos h]; simp [h]
  · rw [if_neg h]; simp [h]
end
section
variable {g B : Nat} {w : World} {p : Pr}
set_option maxHeartbeats 4000000 in
theorem pbDays_any (h : PbIn g w p) (G : Gm) (Va Vt : Value) (hW : Laid w) (hg : 9 ≤ g) (hl : p.X.length ≤ B) (hlo : 32768 ≤ B) (hB : B ≤ 300000000) :
    Calls Tryz.prog 33 #[.pointer (some ⟨g, 0, none⟩), .agg (gmV G Va Vt).toArray] w fun e w' => e = .returned (.tuple #[]) ∧ Pst g w.heap.size 26 (gmV G Va Vt) w w' (p.days G.n) (B + 4000) := by
  refine calls_W (l := [_, _]) Tryz.func33 rfl _ Tryz.ntmps33 (by simp) ?_
  generalize hr : p.days G.n = r
  unfold Pr.days at hr
  dsimp only at hr
  have h0 := Pst.of_box (T := 26) (cs := gmV G Va Vt) h hW hg (by decide) hl hlo
  refine W_piece fun K hK hX => ?_
  simp +contextual (maxSteps := 2000000) (disch := first | omega | (simp only [SZ]; first | done | omega) | (simp only [TS] at *; omega)) only [RZ, ovw, oneC, reduceAdd, reduceMul, reduceSub, reduceEqDiff, reduceLT, ↓reduceIte, Int.reduceToNat, reduceLeDiff]
  refine hK _ _ ?_
  clear hK hX K
  generalize w.alloc (.cells (gmV G Va Vt).toArray 26) = w0 at h0 ⊢
  have d9 : w0.cell? ⟨w.heap.size, 10, none⟩ = some (.int .i64 (G.n 9)) := h0.cell 10 rfl
  have d10 : w0.cell? ⟨w.heap.size, 11, none⟩ = some (.int .i64 (G.n 10)) := h0.cell 11 rfl
  refine W_piece fun K hK hX => ?_
  simp +contextual (maxSteps := 2000000) (disch := first | omega | (simp only [SZ]; first | done | omega) | (simp only [TS] at *; omega)) only [RZ, ovw, oneC, reduceAdd, reduceMul, reduceSub, reduceEqDiff, reduceLT, ↓reduceIte, Int.reduceToNat, reduceLeDiff,  d9, d10]
  refine (qReq h0 (decide (0 ≤ G.n 9) && decide (G.n 9 ≤ 127) && decide (0 ≤ G.n 10) && decide (G.n 10 ≤ 1439))).mono ?_
  rintro e w1 ⟨rfl, h1⟩
  refine ⟨_, rfl, ?_⟩
  try simp +contextual (maxSteps := 2000000) (disch := first | omega | (simp only [SZ]; first | done | omega) | (simp only [TS] at *; omega)) only [RZ, ovw, oneC, reduceAdd, reduceMul, reduceSub, reduceEqDiff, reduceLT, ↓reduceIte, Int.reduceToNat, reduceLeDiff,  d9, d10]
  refine hK _ _ ?_
  clear hK hX K
  clear d9 d10
  generalize hq : p.req (decide (0 ≤ G.n 9) && decide (G.n 9 ≤ 127) && decide (0 ≤ G.n 10) && decide (G.n 10 ≤ 1439)) = p1 at hr h1
  have d9 : w1.cell? ⟨w.heap.size, 10, none⟩ = some (.int .i64 (G.n 9)) := h1.cell 10 rfl
  have d10 : w1.cell? ⟨w.heap.size, 11, none⟩ = some (.int .i64 (G.n 10)) := h1.cell 11 rfl
  refine W_piece fun K hK hX => ?_
  refine W_piece fun K2 hK2 hX2 => ?_
  simp +contextual (maxSteps := 2000000) (disch := first | omega | (simp only [SZ]; first | done | omega) | (simp only [TS] at *; omega)) only [RZ, ovw, oneC, reduceAdd, reduceMul, reduceSub, reduceEqDiff, reduceLT, ↓reduceIte, Int.reduceToNat, reduceLeDiff,  d9]
  refine hK2 _ _ ?_
  clear hK2 hX2 K2
  by_cases e9 : G.n 9 = 0
  · rw [show decide (G.n 9 = 0) = true by simp [e9]]
    rw [if_pos e9] at hr
    subst hr
    refine W_if_t rfl ?_
    refine W_piece fun K2 hK2 hX2 => ?_
    simp +contextual (maxSteps := 2000000) (disch := first | omega | (simp only [SZ]; first | done | omega) | (simp only [TS] at *; omega)) only [RZ, ovw, oneC, reduceAdd, reduceMul, reduceSub, reduceEqDiff, reduceLT, ↓reduceIte, Int.reduceToNat, reduceLeDiff,  d10]
    refine (qReq h1 (decide (G.n 10 = 0))).mono ?_
    rintro e w2 ⟨rfl, h2⟩
    refine ⟨_, rfl, ?_⟩
    try simp +contextual (maxSteps := 2000000) (disch := first | omega | (simp only [SZ]; first | done | omega) | (simp only [TS] at *; omega)) only [RZ, ovw, oneC, reduceAdd, reduceMul, reduceSub, reduceEqDiff, reduceLT, ↓reduceIte, Int.reduceToNat, reduceLeDiff,  d10]
    refine hK2 _ _ ?_
    clear hK2 hX2 K2
    rw [W_ret]
    refine hX _ _ _ (fun h => by cases h) ?_
    simp +contextual (maxSteps := 2000000) (disch := first | omega | (simp only [SZ]; first | done | omega) | (simp only [TS] at *; omega)) only [RZ, ovw, oneC, reduceAdd, reduceMul, reduceSub, reduceEqDiff, reduceLT, ↓reduceIte, Int.reduceToNat, reduceLeDiff]
    exact h2.next h2.pb (KB.refl _ _) (Nat.le_trans h2.le (by omega)) (by omega)
  rw [show decide (G.n 9 = 0) = false by simp [e9]]
  rw [if_neg e9] at hr
  refine W_if_f rfl ?_
  rw [W_skip]
  refine hK _ _ ?_
  clear hK hX K
  have dbad := h1.bad
  refine W_piece fun K hK hX => ?_
  refine W_piece fun K2 hK2 hX2 => ?_
  simp +contextual (maxSteps := 2000000) (disch := first | omega | (simp only [SZ]; first | done | omega) | (simp only [TS] at *; omega)) only [RZ, ovw, oneC, reduceAdd, reduceMul, reduceSub, reduceEqDiff, reduceLT, ↓reduceIte, Int.reduceToNat, reduceLeDiff,  dbad]
  refine hK2 _ _ ?_
  clear hK2 hX2 K2
  cases hbd : p1.bad with
  | true =>
    rw [if_pos hbd] at hr
    subst hr
    refine W_if_t rfl ?_
    rw [W_ret]
    refine hX _ _ _ (fun h => by cases h) ?_
    simp +contextual (maxSteps := 2000000) (disch := first | omega | (simp only [SZ]; first | done | omega) | (simp only [TS] at *; omega)) only [RZ, ovw, oneC, reduceAdd, reduceMul, reduceSub, reduceEqDiff, reduceLT, ↓reduceIte, Int.reduceToNat, reduceLeDiff]
    exact h1.next h1.pb (KB.refl _ _) (Nat.le_trans h1.le (by omega)) (by omega)
  | false =>
    rw [if_neg (by rw [hbd]; simp)] at hr
    refine W_if_f rfl ?_
    rw [W_skip]
    refine hK _ _ ?_
    clear hK hX K dbad
    obtain ⟨hd0, hd1, ht0, ht1⟩ : 0 ≤ G.n 9 ∧ G.n 9 ≤ 127 ∧ 0 ≤ G.n 10 ∧ G.n 10 ≤ 1439 := by
      rw [← hq] at hbd
      unfold Pr.req at hbd
      simp only [Bool.or_eq_false_iff, Bool.not_eq_false', Bool.and_eq_true, decide_eq_true_eq] at hbd
      omega
    clear d9 d10 hq hbd
    obtain ⟨dd, hdd⟩ : ∃ d : Nat, G.n 9 = d := ⟨(G.n 9).toNat, by omega⟩
    rw [hdd, Int.toNat_natCast] at hr
    refine W_piece fun K hK hX => ?_
    simp +contextual (maxSteps := 2000000) (disch := first | omega | (simp only [SZ]; first | done | omega) | (simp only [TS] at *; omega)) only [RZ, ovw, oneC, reduceAdd, reduceMul, reduceSub, reduceEqDiff, reduceLT, ↓reduceIte, Int.reduceToNat, reduceLeDiff]
    refine (qBegin h1 ⟨#[100, 97, 121, 115]⟩ (by decide) (by omega)).mono ?_
    rintro e w2 ⟨rfl, h2⟩
    refine ⟨_, rfl, ?_⟩
    rw [show bs ⟨#[100, 97, 121, 115]⟩ = asc "days" by decide +kernel] at h2
    try simp +contextual (maxSteps := 2000000) (disch := first | omega | (simp only [SZ]; first | done | omega) | (simp only [TS] at *; omega)) only [RZ, ovw, oneC, reduceAdd, reduceMul, reduceSub, reduceEqDiff, reduceLT, ↓reduceIte, Int.reduceToNat, reduceLeDiff]
    refine hK _ _ ?_
    clear hK hX K
    have hld := h2.laid.load
    refine W_cutS (fun σ w3 => σ 0 = .pointer (some ⟨g, 0, none⟩) ∧ σ 3 = .pointer (some ⟨w.heap.size, 0, none⟩) ∧ Pst g w.heap.size 26 (gmV G Va Vt) w w3 ((p1.begin (asc "days")).dayw dd) (B + 102 + 301 * 7)) ?_ ?_
    rotate_left
    · refine W_piece fun K hK hX => ?_
      simp +contextual (maxSteps := 2000000) (disch := first | omega | (simp only [SZ]; first | done | omega) | (simp only [TS] at *; omega)) only [RZ, ovw, oneC, reduceAdd, reduceMul, reduceSub, reduceEqDiff, reduceLT, ↓reduceIte, Int.reduceToNat, reduceLeDiff,  hld]
      refine hK _ _ ?_
      clear hK hX K hld
      rw [W_block, W_loop]
      refine Raw_loop (fun σ w1 => ∃ k : Nat, k ≤ 7 ∧ Pst g w.heap.size 26 (gmV G Va Vt) w w1 ((dayK dd k).foldl (fun p w => p.ws [w]) (p1.begin (asc "days"))) (B + 102 + 301 * k) ∧ σ 0 = .pointer (some ⟨g, 0, none⟩) ∧ σ 3 = .pointer (some ⟨w.heap.size, 0, none⟩) ∧ σ 40 = .agg dayC.toArray ∧ σ 41 = .int .i64 k) (fun σ _ => 7 - (intOf (σ 41)).toNat) ?_ ?_
      · exact ⟨0, by omega, h2, rfl, rfl, rfl, rfl⟩
      rintro σ w3 ⟨k, hk, h3, f0, f3, f40, f41⟩ K hK
      simp +contextual (maxSteps := 2000000) (disch := first | omega | (simp only [SZ]; first | done | omega) | (simp only [TS] at *; omega)) only [RZ, ovw, oneC, reduceAdd, reduceMul, reduceSub, reduceEqDiff, reduceLT, ↓reduceIte, Int.reduceToNat, reduceLeDiff,  f0, f3, f40, f41]
      (refine W_if rfl (fun hc => ?_) (fun hc => ?_) <;> (try simp only [TS] at hc))
      · have hk7 : k < 7 := by omega
        obtain ⟨d, hd⟩ : ∃ d, dayW[k]? = some d := ⟨_, List.getElem?_eq_getElem (show k < 7 by omega)⟩
        have hx := day_index hd w3
        have hdb : bs (toBA d) = d := by
          have hall : dayW.all (fun d => d.all fun c => decide (c < 256)) = true := by decide +kernel
          have := List.all_eq_true.1 hall d (List.mem_of_getElem? hd)
          exact bs_toBA fun c hc => by have := List.all_eq_true.1 this c hc; simpa using this
        have hdl : (toBA d).size ≤ 300 := by
          have hall : dayW.all (fun d => decide ((toBA d).size ≤ 300)) = true := by decide +kernel
          have := List.all_eq_true.1 hall d (List.mem_of_getElem? hd)
          simpa using this
        have hgd : dayW.getD k [] = d := by rw [List.getD_eq_getElem?_getD, hd]; rfl
        have d9 : w3.cell? ⟨w.heap.size, 10, none⟩ = some (.int .i64 (G.n 9)) := h3.cell 10 rfl
        rw [hdd] at d9
        have hle : dd / 2 ^ k ≤ dd := Nat.div_le_self _ _
        have hshr : ∀ (x y : Operand) (w : World), vBin Tryz.prog .shr 3 x y (.int .i64 dd) (.int .i64 k) w = .ok (.value (.int .i64 ((dd / 2 ^ k : Nat) : Int))) w := fun x y w => vBin_shrN hk7
        have hand : ∀ (x y : Operand) (w : World), vBin Tryz.prog .and 3 x y (.int .i64 ((dd / 2 ^ k : Nat) : Int)) (.int .i64 1) w = .ok (.value (.int .i64 ((dd / 2 ^ k % 2 : Nat) : Int))) w := fun x y w => vBin_and1 (by omega)
        have hs := dayK_succ dd k
        generalize dd / 2 ^ k = dk at *
        rw [W_skip, thenX_normal]
        refine W_piece fun K1 hK1 hX1 => ?_
        rw [W_block]
        refine W_piece fun K2 hK2 hX2 => ?_
        simp +contextual (maxSteps := 2000000) (disch := first | omega | (simp only [SZ]; first | done | omega) | (simp only [TS] at *; omega)) only [RZ, ovw, oneC, reduceAdd, reduceMul, reduceSub, reduceEqDiff, reduceLT, ↓reduceIte, Int.reduceToNat, reduceLeDiff,  f0, f3, f40, f41, hx]
        refine hK2 _ _ ?_
        clear hK2 hX2 K2
        refine W_piece fun K2 hK2 hX2 => ?_
        simp +contextual (maxSteps := 2000000) (disch := first | omega | (simp only [SZ]; first | done | omega) | (simp only [TS] at *; omega)) only [RZ, ovw, oneC, reduceAdd, reduceMul, reduceSub, reduceEqDiff, reduceLT, ↓reduceIte, Int.reduceToNat, reduceLeDiff,  f0, f3, f40, f41, d9, hshr, hand]
        refine hK2 _ _ ?_
        clear hK2 hX2 K2
        by_cases hb : dk % 2 = 1
        · rw [show decide (((dk % 2 : Nat) : Int) = 1) = true by simp; omega]
          rw [if_pos hb, hgd] at hs
          refine W_if_t rfl ?_
          simp +contextual (maxSteps := 2000000) (disch := first | omega | (simp only [SZ]; first | done | omega) | (simp only [TS] at *; omega)) only [RZ, ovw, oneC, reduceAdd, reduceMul, reduceSub, reduceEqDiff, reduceLT, ↓reduceIte, Int.reduceToNat, reduceLeDiff,  f0, f3, f40, f41]
          refine (qWord h3 (toBA d) hdl (by omega)).mono ?_
          rintro e w4 ⟨rfl, h4⟩
          refine ⟨_, rfl, ?_⟩
          rw [hdb] at h4
          try simp +contextual (maxSteps := 2000000) (disch := first | omega | (simp only [SZ]; first | done | omega) | (simp only [TS] at *; omega)) only [RZ, ovw, oneC, reduceAdd, reduceMul, reduceSub, reduceEqDiff, reduceLT, ↓reduceIte, Int.reduceToNat, reduceLeDiff,  f0, f3, f40, f41]
          refine hK1 _ _ ?_
          clear hK1 hX1 K1
          simp +contextual (maxSteps := 2000000) (disch := first | omega | (simp only [SZ]; first | done | omega) | (simp only [TS] at *; omega)) only [RZ, ovw, oneC, reduceAdd, reduceMul, reduceSub, reduceEqDiff, reduceLT, ↓reduceIte, Int.reduceToNat, reduceLeDiff,  f0, f3, f40, f41]
          refine hK _ _ ⟨k + 1, by omega, ?_, ?_⟩ ?_
          · rw [hs, List.foldl_append]
            exact h4.next h4.pb (KB.refl _ _) (Nat.le_trans h4.le (by omega)) (by omega)
          · simp +contextual (maxSteps := 2000000) (disch := first | omega | (simp only [SZ]; first | done | omega) | (simp only [TS] at *; omega)) only [RZ, ovw, oneC, reduceAdd, reduceMul, reduceSub, reduceEqDiff, reduceLT, ↓reduceIte, Int.reduceToNat, reduceLeDiff,  f0, f3, f40, f41]
          · simp +contextual (maxSteps := 2000000) (disch := first | omega | (simp only [SZ]; first | done | omega) | (simp only [TS] at *; omega)) only [RZ, ovw, oneC, reduceAdd, reduceMul, reduceSub, reduceEqDiff, reduceLT, ↓reduceIte, Int.reduceToNat, reduceLeDiff,  intOf, f41]
            omega
        · rw [show decide (((dk % 2 : Nat) : Int) = 1) = false by simp; omega]
          rw [if_neg hb, List.append_nil] at hs
          refine W_if_f rfl ?_
          rw [W_skip, inX_normal]
          refine hK1 _ _ ?_
          clear hK1 hX1 K1
          simp +contextual (maxSteps := 2000000) (disch := first | omega | (simp only [SZ]; first | done | omega) | (simp only [TS] at *; omega)) only [RZ, ovw, oneC, reduceAdd, reduceMul, reduceSub, reduceEqDiff, reduceLT, ↓reduceIte, Int.reduceToNat, reduceLeDiff,  f0, f3, f40, f41]
          refine hK _ _ ⟨k + 1, by omega, ?_, ?_⟩ ?_
          · rw [hs]
            exact h3.next h3.pb (KB.refl _ _) (Nat.le_trans h3.le (by omega)) (by omega)
          · simp +contextual (maxSteps := 2000000) (disch := first | omega | (simp only [SZ]; first | done | omega) | (simp only [TS] at *; omega)) only [RZ, ovw, oneC, reduceAdd, reduceMul, reduceSub, reduceEqDiff, reduceLT, ↓reduceIte, Int.reduceToNat, reduceLeDiff,  f0, f3, f40, f41]
          · simp +contextual (maxSteps := 2000000) (disch := first | omega | (simp only [SZ]; first | done | omega) | (simp only [TS] at *; omega)) only [RZ, ovw, oneC, reduceAdd, reduceMul, reduceSub, reduceEqDiff, reduceLT, ↓reduceIte, Int.reduceToNat, reduceLeDiff,  intOf, f41]
            omega
      · have hk7 : k = 7 := by omega
        subst hk7
        simp +contextual (maxSteps := 2000000) (disch := first | omega | (simp only [SZ]; first | done | omega) | (simp only [TS] at *; omega)) only [RZ, ovw, oneC, reduceAdd, reduceMul, reduceSub, reduceEqDiff, reduceLT, ↓reduceIte, Int.reduceToNat, reduceLeDiff,  f0, f3, f40, f41]
        exact h3
    clear h2 hld
    generalize (p1.begin (asc "days")).dayw dd = p2 at hr ⊢
    rintro σ w1 ⟨f0, f3, h1⟩
    refine W_piece fun K hK hX => ?_
    simp +contextual (maxSteps := 2000000) (disch := first | omega | (simp only [SZ]; first | done | omega) | (simp only [TS] at *; omega)) only [RZ, ovw, oneC, reduceAdd, reduceMul, reduceSub, reduceEqDiff, reduceLT, ↓reduceIte, Int.reduceToNat, reduceLeDiff,  f0, f3]
    refine (qWord h1 ⟨#[97, 116]⟩ (by decide) (by omega)).mono ?_
    rintro e w2 ⟨rfl, h2⟩
    refine ⟨_, rfl, ?_⟩
    rw [show bs ⟨#[97, 116]⟩ = asc "at" by decide +kernel] at h2
    try simp +contextual (maxSteps := 2000000) (disch := first | omega | (simp only [SZ]; first | done | omega) | (simp only [TS] at *; omega)) only [RZ, ovw, oneC, reduceAdd, reduceMul, reduceSub, reduceEqDiff, reduceLT, ↓reduceIte, Int.reduceToNat, reduceLeDiff,  f0, f3]
    refine hK _ _ ?_
    clear hK hX K
    have d10 : w2.cell? ⟨w.heap.size, 11, none⟩ = some (.int .i64 (G.n 10)) := h2.cell 11 rfl
    refine W_piece fun K hK hX => ?_
    simp +contextual (maxSteps := 2000000) (disch := first | omega | (simp only [SZ]; first | done | omega) | (simp only [TS] at *; omega)) only [RZ, ovw, oneC, reduceAdd, reduceMul, reduceSub, reduceEqDiff, reduceLT, ↓reduceIte, Int.reduceToNat, reduceLeDiff,  f0, f3, d10]
    refine (qNum h2 (G.n 10 / 60) (by omega)).mono ?_
    rintro e w3 ⟨rfl, h3⟩
    refine ⟨_, rfl, ?_⟩
    try simp +contextual (maxSteps := 2000000) (disch := first | omega | (simp only [SZ]; first | done | omega) | (simp only [TS] at *; omega)) only [RZ, ovw, oneC, reduceAdd, reduceMul, reduceSub, reduceEqDiff, reduceLT, ↓reduceIte, Int.reduceToNat, reduceLeDiff,  f0, f3, d10]
    refine hK _ _ ?_
    clear hK hX K
    refine W_piece fun K hK hX => ?_
    simp +contextual (maxSteps := 2000000) (disch := first | omega | (simp only [SZ]; first | done | omega) | (simp only [TS] at *; omega)) only [RZ, ovw, oneC, reduceAdd, reduceMul, reduceSub, reduceEqDiff, reduceLT, ↓reduceIte, Int.reduceToNat, reduceLeDiff,  f0, f3]
    refine (qWord h3 ⟨#[58]⟩ (by decide) (by omega)).mono ?_
    rintro e w4 ⟨rfl, h4⟩
    refine ⟨_, rfl, ?_⟩
    rw [show bs ⟨#[58]⟩ = asc ":" by decide +kernel] at h4
    try simp +contextual (maxSteps := 2000000) (disch := first | omega | (simp only [SZ]; first | done | omega) | (simp only [TS] at *; omega)) only [RZ, ovw, oneC, reduceAdd, reduceMul, reduceSub, reduceEqDiff, reduceLT, ↓reduceIte, Int.reduceToNat, reduceLeDiff,  f0, f3]
    refine hK _ _ ?_
    clear hK hX K
    have d11 : w4.cell? ⟨w.heap.size, 11, none⟩ = some (.int .i64 (G.n 10)) := h4.cell 11 rfl
    refine W_piece fun K hK hX => ?_
    simp +contextual (maxSteps := 2000000) (disch := first | omega | (simp only [SZ]; first | done | omega) | (simp only [TS] at *; omega)) only [RZ, ovw, oneC, reduceAdd, reduceMul, reduceSub, reduceEqDiff, reduceLT, ↓reduceIte, Int.reduceToNat, reduceLeDiff,  f0, f3, d11]
    refine (qNum h4 (G.n 10 % 60) (by omega)).mono ?_
    rintro e w5 ⟨rfl, h5⟩
    refine ⟨_, rfl, ?_⟩
    try simp +contextual (maxSteps := 2000000) (disch := first | omega | (simp only [SZ]; first | done | omega) | (simp only [TS] at *; omega)) only [RZ, ovw, oneC, reduceAdd, reduceMul, reduceSub, reduceEqDiff, reduceLT, ↓reduceIte, Int.reduceToNat, reduceLeDiff,  f0, f3, d11]
    refine hK _ _ ?_
    clear hK hX K
    simp +contextual (maxSteps := 2000000) (disch := first | omega | (simp only [SZ]; first | done | omega) | (simp only [TS] at *; omega)) only [RZ, ovw, oneC, reduceAdd, reduceMul, reduceSub, reduceEqDiff, reduceLT, ↓reduceIte, Int.reduceToNat, reduceLeDiff,  f0, f3]
    refine (qEnd h5 (by omega)).mono ?_
    rintro e w6 ⟨rfl, h6⟩
    refine ⟨_, rfl, ?_⟩
    try simp +contextual (maxSteps := 2000000) (disch := first | omega | (simp only [SZ]; first | done | omega) | (simp only [TS] at *; omega)) only [RZ, ovw, oneC, reduceAdd, reduceMul, reduceSub, reduceEqDiff, reduceLT, ↓reduceIte, Int.reduceToNat, reduceLeDiff,  f0, f3]
    subst hr
    exact h6.next h6.pb (KB.refl _ _) (Nat.le_trans h6.le (by omega)) (by omega)
end
end Go.Proofs.YtbdkggnajipdhaaGreatDoor
/- Walks: the printer's add-on and tier. -/
namespace Go.Proofs.YtbdkggnajipdhaaGreatDoor
open Nat (reduceAdd reduceMul reduceSub reduceEqDiff reduceLT reduceLeDiff)
open Go.RowKit
set_option maxRecDepth 100000
/-- Numbers in memory that a printer's steps keep. -/
def Kin (g : Nat) (w : World) (v : Value) (L : List Int) : Prop := ∃ (A : Option Addr) (c : Nat), v = .slice A L.length c ∧ ∀ w', KB g w w' → Arr w' A 1 (L.map fun n => [Value.int .i64 n])
theorem Kin.kb {g : Nat} {w w1 : World} {v : Value} {L : List Int} (h : Kin g w v L) (k : KB g w w1) : Kin g w1 v L := by
  obtain ⟨A, c, e, h⟩ := h
  exact ⟨A, c, e, fun w' k' => h w' (k.trans k')⟩
def encAd (a : Ad) (vf vs : Value) : List Value := [.string a.name, .int .i64 a.kind, .int .i64 a.price, vf, .int .i64 a.digits, vs]
section
variable {g B : Nat} {w : World} {p : Pr}
set_option maxHeartbeats 4000000 in
theorem pbAddon_any (h : PbIn g w p) (a : Ad) (vf vs : Value) (hf : Kin g w vf a.factors) (hs : Kin g w vs a.serials) (hnl : a.name.size ≤ 1000000) (hfl : a.factors.length ≤ 1000000) (hsl : a.serials.length ≤ 1000000) (hW : Laid w) (hg : 9 ≤ g) (hl : p.X.length ≤ B) (hlo : 32768 ≤ B) (hB : B ≤ 300000000) :
    Calls Tryz.prog 35 #[.pointer (some ⟨g, 0, none⟩), .agg (encAd a vf vs).toArray] w fun e w' => e = .returned (.tuple #[]) ∧ Pst g w.heap.size 45 (encAd a vf vs) w w' (p.addon a) (B + 1002000) := by
  refine calls_W (l := [_, _]) Tryz.func35 rfl _ Tryz.ntmps35 (by simp) ?_
  generalize hr : p.addon a = r
  unfold Pr.addon at hr
  dsimp only at hr
  have h0 := Pst.of_box (T := 45) (cs := encAd a vf vs) h hW hg (by decide) hl hlo
  obtain ⟨Af, cf, rfl, hf⟩ := hf
  obtain ⟨As, cS, rfl, hs⟩ := hs
  refine W_piece fun K hK hX => ?_
  simp +contextual (maxSteps := 2000000) (disch := first | omega | (simp only [SZ]; first | done | omega) | (simp only [TS] at *; omega)) only [RZ, ovw, oneC, reduceAdd, reduceMul, reduceSub, reduceEqDiff, reduceLT, ↓reduceIte, Int.reduceToNat, reduceLeDiff]
  refine hK _ _ ?_
  clear hK hX K
  generalize w.alloc (.cells (encAd a (.slice Af a.factors.length cf) (.slice As a.serials.length cS)).toArray 45) = w0 at h0 ⊢
  refine W_piece fun K hK hX => ?_
  simp +contextual (maxSteps := 2000000) (disch := first | omega | (simp only [SZ]; first | done | omega) | (simp only [TS] at *; omega)) only [RZ, ovw, oneC, reduceAdd, reduceMul, reduceSub, reduceEqDiff, reduceLT, ↓reduceIte, Int.reduceToNat, reduceLeDiff]
  refine (qBegin h0 ⟨#[97, 100, 100, 111, 110]⟩ (by decide) (by omega)).mono ?_
  rintro e w1 ⟨rfl, h1⟩
  refine ⟨_, rfl, ?_⟩
  rw [show bs ⟨#[97, 100, 100, 111, 110]⟩ = asc "addon" by decide +kernel] at h1
  try simp +contextual (maxSteps := 2000000) (disch := first | omega | (simp only [SZ]; first | done | omega) | (simp only [TS] at *; omega)) only [RZ, ovw, oneC, reduceAdd, reduceMul, reduceSub, reduceEqDiff, reduceLT, ↓reduceIte, Int.reduceToNat, reduceLeDiff]
  refine hK _ _ ?_
  clear hK hX K
  have d0 : w1.cell? ⟨w.heap.size, 0, none⟩ = some (.string a.name) := h1.cell 0 rfl
  refine W_piece fun K hK hX => ?_
  simp +contextual (maxSteps := 2000000) (disch := first | omega | (simp only [SZ]; first | done | omega) | (simp only [TS] at *; omega)) only [RZ, ovw, oneC, reduceAdd, reduceMul, reduceSub, reduceEqDiff, reduceLT, ↓reduceIte, Int.reduceToNat, reduceLeDiff,  d0]
  refine (qName h1 a.name hnl (by omega)).mono ?_
  rintro e w2 ⟨rfl, h2⟩
  refine ⟨_, rfl, ?_⟩
  try simp +contextual (maxSteps := 2000000) (disch := first | omega | (simp only [SZ]; first | done | omega) | (simp only [TS] at *; omega)) only [RZ, ovw, oneC, reduceAdd, reduceMul, reduceSub, reduceEqDiff, reduceLT, ↓reduceIte, Int.reduceToNat, reduceLeDiff,  d0]
  refine hK _ _ ?_
  clear hK hX K
  generalize (p.begin (asc "addon")).nm a.name = p1 at hr h2
  clear h0 h1 d0
  refine W_cutS (fun σ w3 => σ 0 = .pointer (some ⟨g, 0, none⟩) ∧ Pst g w.heap.size 45 (encAd a (.slice Af a.factors.length cf) (.slice As a.serials.length cS)) w w3 (if a.kind = 1 then (((p1.req (decide (a.digits = 0) && decide (a.serials.length = 0))).ws [asc "factor"]).nums [a.price]).nums a.factors
   else if a.kind = 2 then (((p1.req (decide (a.factors.length = 0))).ws [asc "serial"]).nums [a.price, a.digits]).nums a.serials
   else ⟨p1.X, true⟩) (B + 1001500)) ?_ ?_
  rotate_left
  · have d1 : w2.cell? ⟨w.heap.size, 1, none⟩ = some (.int .i64 a.kind) := h2.cell 1 rfl
    refine W_piece fun K hK hX => ?_
    simp +contextual (maxSteps := 2000000) (disch := first | omega | (simp only [SZ]; first | done | omega) | (simp only [TS] at *; omega)) only [RZ, ovw, oneC, reduceAdd, reduceMul, reduceSub, reduceEqDiff, reduceLT, ↓reduceIte, Int.reduceToNat, reduceLeDiff,  d1]
    refine hK _ _ ?_
    clear hK hX K d1
    rw [W_block]
    refine W_piece fun K hK hX => ?_
    simp +contextual (maxSteps := 2000000) (disch := first | omega | (simp only [SZ]; first | done | omega) | (simp only [TS] at *; omega)) only [RZ, ovw, oneC, reduceAdd, reduceMul, reduceSub, reduceEqDiff, reduceLT, ↓reduceIte, Int.reduceToNat, reduceLeDiff]
    refine hK _ _ ?_
    clear hK hX K
    by_cases e1 : a.kind = 1
    · rw [show decide (a.kind = 1) = true by simp [e1], if_pos e1]
      refine W_if_t rfl ?_
      have es : decide ((a.serials.length : Int) = 0) = decide (a.serials.length = 0) := by simp
      have d4 : w2.cell? ⟨w.heap.size, 4, none⟩ = some (.int .i64 a.digits) := h2.cell 4 rfl
      have d5 : w2.cell? ⟨w.heap.size, 5, none⟩ = some (.slice As a.serials.length cS) := h2.cell 5 rfl
      refine W_piece fun K hK hX => ?_
      simp +contextual (maxSteps := 2000000) (disch := first | omega | (simp only [SZ]; first | done | omega) | (simp only [TS] at *; omega)) only [RZ, ovw, oneC, reduceAdd, reduceMul, reduceSub, reduceEqDiff, reduceLT, ↓reduceIte, Int.reduceToNat, reduceLeDiff,  d4, d5, es]
      refine (qReq h2 (decide (a.digits = 0) && decide (a.serials.length = 0))).mono ?_
      rintro e w3 ⟨rfl, h3⟩
      refine ⟨_, rfl, ?_⟩
      try simp +contextual (maxSteps := 2000000) (disch := first | omega | (simp only [SZ]; first | done | omega) | (simp only [TS] at *; omega)) only [RZ, ovw, oneC, reduceAdd, reduceMul, reduceSub, reduceEqDiff, reduceLT, ↓reduceIte, Int.reduceToNat, reduceLeDiff,  d4, d5, es]
      refine hK _ _ ?_
      clear hK hX K
      refine W_piece fun K hK hX => ?_
      simp +contextual (maxSteps := 2000000) (disch := first | omega | (simp only [SZ]; first | done | omega) | (simp only [TS] at *; omega)) only [RZ, ovw, oneC, reduceAdd, reduceMul, reduceSub, reduceEqDiff, reduceLT, ↓reduceIte, Int.reduceToNat, reduceLeDiff]
      refine (qWord h3 ⟨#[102, 97, 99, 116, 111, 114]⟩ (by decide) (by omega)).mono ?_
      rintro e w4 ⟨rfl, h4⟩
      refine ⟨_, rfl, ?_⟩
      rw [show bs ⟨#[102, 97, 99, 116, 111, 114]⟩ = asc "factor" by decide +kernel] at h4
      try simp +contextual (maxSteps := 2000000) (disch := first | omega | (simp only [SZ]; first | done | omega) | (simp only [TS] at *; omega)) only [RZ, ovw, oneC, reduceAdd, reduceMul, reduceSub, reduceEqDiff, reduceLT, ↓reduceIte, Int.reduceToNat, reduceLeDiff]
      refine hK _ _ ?_
      clear hK hX K
      have d2 : w4.cell? ⟨w.heap.size, 2, none⟩ = some (.int .i64 a.price) := h4.cell 2 rfl
      refine W_piece fun K hK hX => ?_
      simp +contextual (maxSteps := 2000000) (disch := first | omega | (simp only [SZ]; first | done | omega) | (simp only [TS] at *; omega)) only [RZ, ovw, oneC, reduceAdd, reduceMul, reduceSub, reduceEqDiff, reduceLT, ↓reduceIte, Int.reduceToNat, reduceLeDiff,  d2]
      refine (qNum h4 a.price (by omega)).mono ?_
      rintro e w5 ⟨rfl, h5⟩
      refine ⟨_, rfl, ?_⟩
      try simp +contextual (maxSteps := 2000000) (disch := first | omega | (simp only [SZ]; first | done | omega) | (simp only [TS] at *; omega)) only [RZ, ovw, oneC, reduceAdd, reduceMul, reduceSub, reduceEqDiff, reduceLT, ↓reduceIte, Int.reduceToNat, reduceLeDiff,  d2]
      refine hK _ _ ?_
      clear hK hX K
      have d3 : w5.cell? ⟨w.heap.size, 3, none⟩ = some (.slice Af a.factors.length cf) := h5.cell 3 rfl
      simp +contextual (maxSteps := 2000000) (disch := first | omega | (simp only [SZ]; first | done | omega) | (simp only [TS] at *; omega)) only [RZ, ovw, oneC, reduceAdd, reduceMul, reduceSub, reduceEqDiff, reduceLT, ↓reduceIte, Int.reduceToNat, reduceLeDiff,  d3]
      refine (qNumbers (A := Af) (c := cf) h5 (fun w' k => hf w' (h5.kb.trans k)) (by omega) (by omega)).mono ?_
      rintro e w6 ⟨rfl, h6⟩
      refine ⟨_, rfl, ?_⟩
      try simp +contextual (maxSteps := 2000000) (disch := first | omega | (simp only [SZ]; first | done | omega) | (simp only [TS] at *; omega)) only [RZ, ovw, oneC, reduceAdd, reduceMul, reduceSub, reduceEqDiff, reduceLT, ↓reduceIte, Int.reduceToNat, reduceLeDiff,  d3]
      exact h6.next h6.pb (KB.refl _ _) (Nat.le_trans h6.le (by omega)) (by omega)
    · rw [show decide (a.kind = 1) = false by simp [e1], if_neg e1]
      refine W_if_f rfl ?_
      refine W_piece fun K hK hX => ?_
      simp +contextual (maxSteps := 2000000) (disch := first | omega | (simp only [SZ]; first | done | omega) | (simp only [TS] at *; omega)) only [RZ, ovw, oneC, reduceAdd, reduceMul, reduceSub, reduceEqDiff, reduceLT, ↓reduceIte, Int.reduceToNat, reduceLeDiff]
      refine hK _ _ ?_
      clear hK hX K
      by_cases e2 : a.kind = 2
      · rw [show decide (a.kind = 2) = true by simp [e2], if_pos e2]
        refine W_if_t rfl ?_
        have es : decide ((a.factors.length : Int) = 0) = decide (a.factors.length = 0) := by simp
        have d3 : w2.cell? ⟨w.heap.size, 3, none⟩ = some (.slice Af a.factors.length cf) := h2.cell 3 rfl
        refine W_piece fun K hK hX => ?_
        simp +contextual (maxSteps := 2000000) (disch := first | omega | (simp only [SZ]; first | done | omega) | (simp only [TS] at *; omega)) only [RZ, ovw, oneC, reduceAdd, reduceMul, reduceSub, reduceEqDiff, reduceLT, ↓reduceIte, Int.reduceToNat, reduceLeDiff,  d3, es]
        refine (qReq h2 (decide (a.factors.length = 0))).mono ?_
        rintro e w3 ⟨rfl, h3⟩
        refine ⟨_, rfl, ?_⟩
        try simp +contextual (maxSteps := 2000000) (disch := first | omega | (simp only [SZ]; first | done | omega) | (simp only [TS] at *; omega)) only [RZ, ovw, oneC, reduceAdd, reduceMul, reduceSub, reduceEqDiff, reduceLT, ↓reduceIte, Int.reduceToNat, reduceLeDiff,  d3, es]
        refine hK _ _ ?_
        clear hK hX K
        refine W_piece fun K hK hX => ?_
        simp +contextual (maxSteps := 2000000) (disch := first | omega | (simp only [SZ]; first | done | omega) | (simp only [TS] at *; omega)) only [RZ, ovw, oneC, reduceAdd, reduceMul, reduceSub, reduceEqDiff, reduceLT, ↓reduceIte, Int.reduceToNat, reduceLeDiff]
        refine (qWord h3 ⟨#[115, 101, 114, 105, 97, 108]⟩ (by decide) (by omega)).mono ?_
        rintro e w4 ⟨rfl, h4⟩
        refine ⟨_, rfl, ?_⟩
        rw [show bs ⟨#[115, 101, 114, 105, 97, 108]⟩ = asc "serial" by decide +kernel] at h4
        try simp +contextual (maxSteps := 2000000) (disch := first | omega | (simp only [SZ]; first | done | omega) | (simp only [TS] at *; omega)) only [RZ, ovw, oneC, reduceAdd, reduceMul, reduceSub, reduceEqDiff, reduceLT, ↓reduceIte, Int.reduceToNat, reduceLeDiff]
        refine hK _ _ ?_
        clear hK hX K
        have d2 : w4.cell? ⟨w.heap.size, 2, none⟩ = some (.int .i64 a.price) := h4.cell 2 rfl
        have d4 : w4.cell? ⟨w.heap.size, 4, none⟩ = some (.int .i64 a.digits) := h4.cell 4 rfl
        refine W_piece fun K hK hX => ?_
        simp +contextual (maxSteps := 2000000) (disch := first | omega | (simp only [SZ]; first | done | omega) | (simp only [TS] at *; omega)) only [RZ, ovw, oneC, reduceAdd, reduceMul, reduceSub, reduceEqDiff, reduceLT, ↓reduceIte, Int.reduceToNat, reduceLeDiff,  d2, d4]
        refine (qNum2 h4 a.price a.digits (by omega)).mono ?_
        rintro e w5 ⟨rfl, h5⟩
        refine ⟨_, rfl, ?_⟩
        try simp +contextual (maxSteps := 2000000) (disch := first | omega | (simp only [SZ]; first | done | omega) | (simp only [TS] at *; omega)) only [RZ, ovw, oneC, reduceAdd, reduceMul, reduceSub, reduceEqDiff, reduceLT, ↓reduceIte, Int.reduceToNat, reduceLeDiff,  d2, d4]
        refine hK _ _ ?_
        clear hK hX K
        have d5 : w5.cell? ⟨w.heap.size, 5, none⟩ = some (.slice As a.serials.length cS) := h5.cell 5 rfl
        simp +contextual (maxSteps := 2000000) (disch := first | omega | (simp only [SZ]; first | done | omega) | (simp only [TS] at *; omega)) only [RZ, ovw, oneC, reduceAdd, reduceMul, reduceSub, reduceEqDiff, reduceLT, ↓reduceIte, Int.reduceToNat, reduceLeDiff,  d5]
        refine (qNumbers (A := As) (c := cS) h5 (fun w' k => hs w' (h5.kb.trans k)) (by omega) (by omega)).mono ?_
        rintro e w6 ⟨rfl, h6⟩
        refine ⟨_, rfl, ?_⟩
        try simp +contextual (maxSteps := 2000000) (disch := first | omega | (simp only [SZ]; first | done | omega) | (simp only [TS] at *; omega)) only [RZ, ovw, oneC, reduceAdd, reduceMul, reduceSub, reduceEqDiff, reduceLT, ↓reduceIte, Int.reduceToNat, reduceLeDiff,  d5]
        exact h6.next h6.pb (KB.refl _ _) (Nat.le_trans h6.le (by omega)) (by omega)
      · rw [show decide (a.kind = 2) = false by simp [e2], if_neg e2]
        refine W_if_f rfl ?_
        obtain ⟨c2, d2, z2, h1⟩ := h2.spoil
        simp +contextual (maxSteps := 2000000) (disch := first | omega | (simp only [SZ]; first | done | omega) | (simp only [TS] at *; omega)) only [RZ, ovw, oneC, reduceAdd, reduceMul, reduceSub, reduceEqDiff, reduceLT, ↓reduceIte, Int.reduceToNat, reduceLeDiff,  d2, z2]
        exact h1.next h1.pb (KB.refl _ _) (Nat.le_trans h1.le (by omega)) (by omega)
  rintro σ w1 ⟨f0, h1⟩
  simp +contextual (maxSteps := 2000000) (disch := first | omega | (simp only [SZ]; first | done | omega) | (simp only [TS] at *; omega)) only [RZ, ovw, oneC, reduceAdd, reduceMul, reduceSub, reduceEqDiff, reduceLT, ↓reduceIte, Int.reduceToNat, reduceLeDiff,  f0]
  refine (qEnd h1 (by omega)).mono ?_
  rintro e w2 ⟨rfl, h2⟩
  refine ⟨_, rfl, ?_⟩
  try simp +contextual (maxSteps := 2000000) (disch := first | omega | (simp only [SZ]; first | done | omega) | (simp only [TS] at *; omega)) only [RZ, ovw, oneC, reduceAdd, reduceMul, reduceSub, reduceEqDiff, reduceLT, ↓reduceIte, Int.reduceToNat, reduceLeDiff,  f0]
  subst hr
  exact h2.next h2.pb (KB.refl _ _) (Nat.le_trans h2.le (by omega)) (by omega)
set_option maxHeartbeats 4000000 in
theorem pbTier_any (h : PbIn g w p) (t : Ti) (hW : Laid w) (hg : 9 ≤ g) (hl : p.X.length ≤ B) (hlo : 32768 ≤ B) (hB : B ≤ 300000000) :
    Calls Tryz.prog 36 #[.pointer (some ⟨g, 0, none⟩), .agg (encTi t).toArray] w fun e w' => e = .returned (.tuple #[]) ∧ Pst g w.heap.size 41 (encTi t) w w' (p.tier t) (B + 2000) := by
  refine calls_W (l := [_, _]) Tryz.func36 rfl _ Tryz.ntmps36 (by simp) ?_
  generalize hr : p.tier t = r
  unfold Pr.tier at hr
  dsimp only at hr
  have h0 := Pst.of_box (T := 41) (cs := encTi t) h hW hg (by decide) hl hlo
  refine W_piece fun K hK hX => ?_
  simp +contextual (maxSteps := 2000000) (disch := first | omega | (simp only [SZ]; first | done | omega) | (simp only [TS] at *; omega)) only [RZ, ovw, oneC, reduceAdd, reduceMul, reduceSub, reduceEqDiff, reduceLT, ↓reduceIte, Int.reduceToNat, reduceLeDiff]
  refine hK _ _ ?_
  clear hK hX K
  generalize w.alloc (.cells (encTi t).toArray 41) = w0 at h0 ⊢
  refine W_piece fun K hK hX => ?_
  simp +contextual (maxSteps := 2000000) (disch := first | omega | (simp only [SZ]; first | done | omega) | (simp only [TS] at *; omega)) only [RZ, ovw, oneC, reduceAdd, reduceMul, reduceSub, reduceEqDiff, reduceLT, ↓reduceIte, Int.reduceToNat, reduceLeDiff]
  refine (qBegin h0 ⟨#[116, 105, 101, 114]⟩ (by decide) (by omega)).mono ?_
  rintro e w1 ⟨rfl, h1⟩
  refine ⟨_, rfl, ?_⟩
  rw [show bs ⟨#[116, 105, 101, 114]⟩ = asc "tier" by decide +kernel] at h1
  try simp +contextual (maxSteps := 2000000) (disch := first | omega | (simp only [SZ]; first | done | omega) | (simp only [TS] at *; omega)) only [RZ, ovw, oneC, reduceAdd, reduceMul, reduceSub, reduceEqDiff, reduceLT, ↓reduceIte, Int.reduceToNat, reduceLeDiff]
  refine hK _ _ ?_
  clear hK hX K
  generalize p.begin (asc "tier") = p1 at hr h1
  clear h0
  refine W_cutS (fun σ w3 => σ 0 = .pointer (some ⟨g, 0, none⟩) ∧ σ 3 = .pointer (some ⟨w.heap.size, 0, none⟩) ∧ Pst g w.heap.size 41 (encTi t) w w3 (p1.mode t) (B + 900)) ?_ ?_
  rotate_left
  · have d3 : w1.cell? ⟨w.heap.size, 3, none⟩ = some (.int .i64 t.mode) := h1.cell 3 rfl
    unfold Pr.mode
    refine W_piece fun K hK hX => ?_
    simp +contextual (maxSteps := 2000000) (disch := first | omega | (simp only [SZ]; first | done | omega) | (simp only [TS] at *; omega)) only [RZ, ovw, oneC, reduceAdd, reduceMul, reduceSub, reduceEqDiff, reduceLT, ↓reduceIte, Int.reduceToNat, reduceLeDiff,  d3]
    refine hK _ _ ?_
    clear hK hX K d3
    rw [W_block]
    refine W_piece fun K hK hX => ?_
    simp +contextual (maxSteps := 2000000) (disch := first | omega | (simp only [SZ]; first | done | omega) | (simp only [TS] at *; omega)) only [RZ, ovw, oneC, reduceAdd, reduceMul, reduceSub, reduceEqDiff, reduceLT, ↓reduceIte, Int.reduceToNat, reduceLeDiff]
    refine hK _ _ ?_
    clear hK hX K
    by_cases e0 : t.mode = 0
    · rw [show decide (t.mode = 0) = true by simp [e0], if_pos e0]
      refine W_if_t rfl ?_
      have d0 : w1.cell? ⟨w.heap.size, 0, none⟩ = some (.int .i64 t.main) := h1.cell 0 rfl
      refine W_piece fun K hK hX => ?_
      simp +contextual (maxSteps := 2000000) (disch := first | omega | (simp only [SZ]; first | done | omega) | (simp only [TS] at *; omega)) only [RZ, ovw, oneC, reduceAdd, reduceMul, reduceSub, reduceEqDiff, reduceLT, ↓reduceIte, Int.reduceToNat, reduceLeDiff,  d0]
      refine (qHits h1 ⟨#[109, 97, 105, 110]⟩ t.main (by decide) (by omega)).mono ?_
      rintro e w2 ⟨rfl, h2⟩
      refine ⟨_, rfl, ?_⟩
      rw [show bs ⟨#[109, 97, 105, 110]⟩ = asc "main" by decide +kernel] at h2
      try simp +contextual (maxSteps := 2000000) (disch := first | omega | (simp only [SZ]; first | done | omega) | (simp only [TS] at *; omega)) only [RZ, ovw, oneC, reduceAdd, reduceMul, reduceSub, reduceEqDiff, reduceLT, ↓reduceIte, Int.reduceToNat, reduceLeDiff,  d0]
      refine hK _ _ ?_
      clear hK hX K
      have d1 : w2.cell? ⟨w.heap.size, 1, none⟩ = some (.int .i64 t.bonus) := h2.cell 1 rfl
      refine W_piece fun K hK hX => ?_
      simp +contextual (maxSteps := 2000000) (disch := first | omega | (simp only [SZ]; first | done | omega) | (simp only [TS] at *; omega)) only [RZ, ovw, oneC, reduceAdd, reduceMul, reduceSub, reduceEqDiff, reduceLT, ↓reduceIte, Int.reduceToNat, reduceLeDiff,  d1]
      refine (qHits h2 ⟨#[98, 111, 110, 117, 115]⟩ t.bonus (by decide) (by omega)).mono ?_
      rintro e w3 ⟨rfl, h3⟩
      refine ⟨_, rfl, ?_⟩
      rw [show bs ⟨#[98, 111, 110, 117, 115]⟩ = asc "bonus" by decide +kernel] at h3
      try simp +contextual (maxSteps := 2000000) (disch := first | omega | (simp only [SZ]; first | done | omega) | (simp only [TS] at *; omega)) only [RZ, ovw, oneC, reduceAdd, reduceMul, reduceSub, reduceEqDiff, reduceLT, ↓reduceIte, Int.reduceToNat, reduceLeDiff,  d1]
      refine hK _ _ ?_
      clear hK hX K
      have d2 : w3.cell? ⟨w.heap.size, 2, none⟩ = some (.int .i64 t.extra) := h3.cell 2 rfl
      simp +contextual (maxSteps := 2000000) (disch := first | omega | (simp only [SZ]; first | done | omega) | (simp only [TS] at *; omega)) only [RZ, ovw, oneC, reduceAdd, reduceMul, reduceSub, reduceEqDiff, reduceLT, ↓reduceIte, Int.reduceToNat, reduceLeDiff,  d2]
      refine (qHits h3 ⟨#[101, 120, 116, 114, 97]⟩ t.extra (by decide) (by omega)).mono ?_
      rintro e w4 ⟨rfl, h4⟩
      refine ⟨_, rfl, ?_⟩
      rw [show bs ⟨#[101, 120, 116, 114, 97]⟩ = asc "extra" by decide +kernel] at h4
      try simp +contextual (maxSteps := 2000000) (disch := first | omega | (simp only [SZ]; first | done | omega) | (simp only [TS] at *; omega)) only [RZ, ovw, oneC, reduceAdd, reduceMul, reduceSub, reduceEqDiff, reduceLT, ↓reduceIte, Int.reduceToNat, reduceLeDiff,  d2]
      exact h4.next h4.pb (KB.refl _ _) (Nat.le_trans h4.le (by omega)) (by omega)
    rw [show decide (t.mode = 0) = false by simp [e0], if_neg e0]
    refine W_if_f rfl ?_
    refine W_cutS (fun σ w3 => σ 0 = .pointer (some ⟨g, 0, none⟩) ∧ σ 3 = .pointer (some ⟨w.heap.size, 0, none⟩) ∧ σ 7 = .int .i64 t.mode ∧ w3 = w1 ∧ σ 25 = .bool (decide (t.mode = 1 ∨ t.mode = 2))) ?_ ?_
    rotate_left
    · refine W_piece fun K hK hX => ?_
      simp +contextual (maxSteps := 2000000) (disch := first | omega | (simp only [SZ]; first | done | omega) | (simp only [TS] at *; omega)) only [RZ, ovw, oneC, reduceAdd, reduceMul, reduceSub, reduceEqDiff, reduceLT, ↓reduceIte, Int.reduceToNat, reduceLeDiff]
      refine hK _ _ ?_
      clear hK hX K
      by_cases e1 : t.mode = 1
      · rw [show decide (t.mode = 1) = true by simp [e1]]
        refine W_if_t rfl ?_
        rw [show decide (t.mode = 1 ∨ t.mode = 2) = true by simp [e1]]
        simp +contextual (maxSteps := 2000000) (disch := first | omega | (simp only [SZ]; first | done | omega) | (simp only [TS] at *; omega)) only [RZ, ovw, oneC, reduceAdd, reduceMul, reduceSub, reduceEqDiff, reduceLT, ↓reduceIte, Int.reduceToNat, reduceLeDiff]
      · rw [show decide (t.mode = 1) = false by simp [e1]]
        refine W_if_f rfl ?_
        rw [show decide (t.mode = 1 ∨ t.mode = 2) = decide (t.mode = 2) by simp [e1]]
        simp +contextual (maxSteps := 2000000) (disch := first | omega | (simp only [SZ]; first | done | omega) | (simp only [TS] at *; omega)) only [RZ, ovw, oneC, reduceAdd, reduceMul, reduceSub, reduceEqDiff, reduceLT, ↓reduceIte, Int.reduceToNat, reduceLeDiff]
    rintro σ w3 ⟨f0, f3, f7, rfl, f25⟩
    by_cases e1 : t.mode = 1 ∨ t.mode = 2
    · rw [if_pos e1]
      rw [show decide (t.mode = 1 ∨ t.mode = 2) = true by simpa using e1] at f25
      refine W_if_t (by simp +contextual (maxSteps := 2000000) (disch := first | omega | (simp only [SZ]; first | done | omega) | (simp only [TS] at *; omega)) only [RZ, ovw, oneC, reduceAdd, reduceMul, reduceSub, reduceEqDiff, reduceLT, ↓reduceIte, Int.reduceToNat, reduceLeDiff,  f25]) ?_
      have h1 := h1
      have h3 := h1
      have d0 : w3.cell? ⟨w.heap.size, 0, none⟩ = some (.int .i64 t.main) := h3.cell 0 rfl
      have d1 : w3.cell? ⟨w.heap.size, 1, none⟩ = some (.int .i64 t.bonus) := h3.cell 1 rfl
      have d2 : w3.cell? ⟨w.heap.size, 2, none⟩ = some (.int .i64 t.extra) := h3.cell 2 rfl
      refine W_piece fun K hK hX => ?_
      simp +contextual (maxSteps := 2000000) (disch := first | omega | (simp only [SZ]; first | done | omega) | (simp only [TS] at *; omega)) only [RZ, ovw, oneC, reduceAdd, reduceMul, reduceSub, reduceEqDiff, reduceLT, ↓reduceIte, Int.reduceToNat, reduceLeDiff,  f0, f3, d0, d1, d2]
      refine (qReq h3 (decide (t.main = 0) && decide (t.bonus = 0) && decide (t.extra = 0))).mono ?_
      rintro e w4 ⟨rfl, h4⟩
      refine ⟨_, rfl, ?_⟩
      try simp +contextual (maxSteps := 2000000) (disch := first | omega | (simp only [SZ]; first | done | omega) | (simp only [TS] at *; omega)) only [RZ, ovw, oneC, reduceAdd, reduceMul, reduceSub, reduceEqDiff, reduceLT, ↓reduceIte, Int.reduceToNat, reduceLeDiff,  f0, f3, d0, d1, d2]
      refine hK _ _ ?_
      clear hK hX K
      have d3 : w4.cell? ⟨w.heap.size, 3, none⟩ = some (.int .i64 t.mode) := h4.cell 3 rfl
      refine W_piece fun K hK hX => ?_
      simp +contextual (maxSteps := 2000000) (disch := first | omega | (simp only [SZ]; first | done | omega) | (simp only [TS] at *; omega)) only [RZ, ovw, oneC, reduceAdd, reduceMul, reduceSub, reduceEqDiff, reduceLT, ↓reduceIte, Int.reduceToNat, reduceLeDiff,  f3, d3]
      refine hK _ _ ?_
      clear hK hX K
      by_cases e2 : t.mode = 1
      · rw [show decide (t.mode = 1) = true by simp [e2], if_pos e2]
        refine W_if_t rfl ?_
        simp +contextual (maxSteps := 2000000) (disch := first | omega | (simp only [SZ]; first | done | omega) | (simp only [TS] at *; omega)) only [RZ, ovw, oneC, reduceAdd, reduceMul, reduceSub, reduceEqDiff, reduceLT, ↓reduceIte, Int.reduceToNat, reduceLeDiff,  f0]
        refine (qWord h4 ⟨#[101, 120, 97, 99, 116]⟩ (by decide) (by omega)).mono ?_
        rintro e w5 ⟨rfl, h5⟩
        refine ⟨_, rfl, ?_⟩
        rw [show bs ⟨#[101, 120, 97, 99, 116]⟩ = asc "exact" by decide +kernel] at h5
        try simp +contextual (maxSteps := 2000000) (disch := first | omega | (simp only [SZ]; first | done | omega) | (simp only [TS] at *; omega)) only [RZ, ovw, oneC, reduceAdd, reduceMul, reduceSub, reduceEqDiff, reduceLT, ↓reduceIte, Int.reduceToNat, reduceLeDiff,  f0]
        simp +contextual (maxSteps := 2000000) (disch := first | omega | (simp only [SZ]; first | done | omega) | (simp only [TS] at *; omega)) only [RZ, ovw, oneC, reduceAdd, reduceMul, reduceSub, reduceEqDiff, reduceLT, ↓reduceIte, Int.reduceToNat, reduceLeDiff,  f0, f3]
        exact h5.next h5.pb (KB.refl _ _) (Nat.le_trans h5.le (by omega)) (by omega)
      · rw [show decide (t.mode = 1) = false by simp [e2], if_neg e2]
        refine W_if_f rfl ?_
        simp +contextual (maxSteps := 2000000) (disch := first | omega | (simp only [SZ]; first | done | omega) | (simp only [TS] at *; omega)) only [RZ, ovw, oneC, reduceAdd, reduceMul, reduceSub, reduceEqDiff, reduceLT, ↓reduceIte, Int.reduceToNat, reduceLeDiff,  f0]
        refine (qWord h4 ⟨#[98, 111, 120]⟩ (by decide) (by omega)).mono ?_
        rintro e w5 ⟨rfl, h5⟩
        refine ⟨_, rfl, ?_⟩
        rw [show bs ⟨#[98, 111, 120]⟩ = asc "box" by decide +kernel] at h5
        try simp +contextual (maxSteps := 2000000) (disch := first | omega | (simp only [SZ]; first | done | omega) | (simp only [TS] at *; omega)) only [RZ, ovw, oneC, reduceAdd, reduceMul, reduceSub, reduceEqDiff, reduceLT, ↓reduceIte, Int.reduceToNat, reduceLeDiff,  f0]
        simp +contextual (maxSteps := 2000000) (disch := first | omega | (simp only [SZ]; first | done | omega) | (simp only [TS] at *; omega)) only [RZ, ovw, oneC, reduceAdd, reduceMul, reduceSub, reduceEqDiff, reduceLT, ↓reduceIte, Int.reduceToNat, reduceLeDiff,  f0, f3]
        exact h5.next h5.pb (KB.refl _ _) (Nat.le_trans h5.le (by omega)) (by omega)
    rw [if_neg e1]
    rw [show decide (t.mode = 1 ∨ t.mode = 2) = false by simpa using e1] at f25
    refine W_if_f (by simp +contextual (maxSteps := 2000000) (disch := first | omega | (simp only [SZ]; first | done | omega) | (simp only [TS] at *; omega)) only [RZ, ovw, oneC, reduceAdd, reduceMul, reduceSub, reduceEqDiff, reduceLT, ↓reduceIte, Int.reduceToNat, reduceLeDiff,  f25]) ?_
    clear f25
    refine W_cutS (fun σ w4 => σ 0 = .pointer (some ⟨g, 0, none⟩) ∧ σ 3 = .pointer (some ⟨w.heap.size, 0, none⟩) ∧ w4 = w3 ∧ σ 52 = .bool (decide (t.mode = 3 ∨ t.mode = 4))) ?_ ?_
    rotate_left
    · refine W_piece fun K hK hX => ?_
      simp +contextual (maxSteps := 2000000) (disch := first | omega | (simp only [SZ]; first | done | omega) | (simp only [TS] at *; omega)) only [RZ, ovw, oneC, reduceAdd, reduceMul, reduceSub, reduceEqDiff, reduceLT, ↓reduceIte, Int.reduceToNat, reduceLeDiff,  f7]
      refine hK _ _ ?_
      clear hK hX K
      by_cases e1 : t.mode = 3
      · rw [show decide (t.mode = 3) = true by simp [e1]]
        refine W_if_t rfl ?_
        rw [show decide (t.mode = 3 ∨ t.mode = 4) = true by simp [e1]]
        simp +contextual (maxSteps := 2000000) (disch := first | omega | (simp only [SZ]; first | done | omega) | (simp only [TS] at *; omega)) only [RZ, ovw, oneC, reduceAdd, reduceMul, reduceSub, reduceEqDiff, reduceLT, ↓reduceIte, Int.reduceToNat, reduceLeDiff,  f0, f3]
      · rw [show decide (t.mode = 3) = false by simp [e1]]
        refine W_if_f rfl ?_
        rw [show decide (t.mode = 3 ∨ t.mode = 4) = decide (t.mode = 4) by simp [e1]]
        simp +contextual (maxSteps := 2000000) (disch := first | omega | (simp only [SZ]; first | done | omega) | (simp only [TS] at *; omega)) only [RZ, ovw, oneC, reduceAdd, reduceMul, reduceSub, reduceEqDiff, reduceLT, ↓reduceIte, Int.reduceToNat, reduceLeDiff,  f0, f3, f7]
    clear f0 f3 f7
    rintro σ w4 ⟨f0, f3, rfl, f52⟩
    have h4 := h1
    by_cases e3 : t.mode = 3 ∨ t.mode = 4
    · rw [if_pos e3]
      rw [show decide (t.mode = 3 ∨ t.mode = 4) = true by simpa using e3] at f52
      refine W_if_t (by simp +contextual (maxSteps := 2000000) (disch := first | omega | (simp only [SZ]; first | done | omega) | (simp only [TS] at *; omega)) only [RZ, ovw, oneC, reduceAdd, reduceMul, reduceSub, reduceEqDiff, reduceLT, ↓reduceIte, Int.reduceToNat, reduceLeDiff,  f52]) ?_
      have d1 : w4.cell? ⟨w.heap.size, 1, none⟩ = some (.int .i64 t.bonus) := h4.cell 1 rfl
      have d2 : w4.cell? ⟨w.heap.size, 2, none⟩ = some (.int .i64 t.extra) := h4.cell 2 rfl
      refine W_piece fun K hK hX => ?_
      simp +contextual (maxSteps := 2000000) (disch := first | omega | (simp only [SZ]; first | done | omega) | (simp only [TS] at *; omega)) only [RZ, ovw, oneC, reduceAdd, reduceMul, reduceSub, reduceEqDiff, reduceLT, ↓reduceIte, Int.reduceToNat, reduceLeDiff,  f0, f3, d1, d2]
      refine (qReq h4 (decide (t.bonus = 0) && decide (t.extra = 0))).mono ?_
      rintro e w5 ⟨rfl, h5⟩
      refine ⟨_, rfl, ?_⟩
      try simp +contextual (maxSteps := 2000000) (disch := first | omega | (simp only [SZ]; first | done | omega) | (simp only [TS] at *; omega)) only [RZ, ovw, oneC, reduceAdd, reduceMul, reduceSub, reduceEqDiff, reduceLT, ↓reduceIte, Int.reduceToNat, reduceLeDiff,  f0, f3, d1, d2]
      refine hK _ _ ?_
      clear hK hX K
      have d3 : w5.cell? ⟨w.heap.size, 3, none⟩ = some (.int .i64 t.mode) := h5.cell 3 rfl
      refine W_cutS (fun σ w6 => σ 0 = .pointer (some ⟨g, 0, none⟩) ∧ σ 3 = .pointer (some ⟨w.heap.size, 0, none⟩) ∧ Pst g w.heap.size 41 (encTi t) w w6 ((p1.req (decide (t.bonus = 0) && decide (t.extra = 0))).ws [if t.mode = 3 then asc "front" else asc "back"]) (B + 500)) ?_ ?_
      rotate_left
      · refine W_piece fun K hK hX => ?_
        simp +contextual (maxSteps := 2000000) (disch := first | omega | (simp only [SZ]; first | done | omega) | (simp only [TS] at *; omega)) only [RZ, ovw, oneC, reduceAdd, reduceMul, reduceSub, reduceEqDiff, reduceLT, ↓reduceIte, Int.reduceToNat, reduceLeDiff,  f3, d3]
        refine hK _ _ ?_
        clear hK hX K
        by_cases e2 : t.mode = 3
        · rw [show decide (t.mode = 3) = true by simp [e2], if_pos e2]
          refine W_if_t rfl ?_
          simp +contextual (maxSteps := 2000000) (disch := first | omega | (simp only [SZ]; first | done | omega) | (simp only [TS] at *; omega)) only [RZ, ovw, oneC, reduceAdd, reduceMul, reduceSub, reduceEqDiff, reduceLT, ↓reduceIte, Int.reduceToNat, reduceLeDiff,  f0]
          refine (qWord h5 ⟨#[102, 114, 111, 110, 116]⟩ (by decide) (by omega)).mono ?_
          rintro e w6 ⟨rfl, h6⟩
          refine ⟨_, rfl, ?_⟩
          rw [show bs ⟨#[102, 114, 111, 110, 116]⟩ = asc "front" by decide +kernel] at h6
          try simp +contextual (maxSteps := 2000000) (disch := first | omega | (simp only [SZ]; first | done | omega) | (simp only [TS] at *; omega)) only [RZ, ovw, oneC, reduceAdd, reduceMul, reduceSub, reduceEqDiff, reduceLT, ↓reduceIte, Int.reduceToNat, reduceLeDiff,  f0]
          simp +contextual (maxSteps := 2000000) (disch := first | omega | (simp only [SZ]; first | done | omega) | (simp only [TS] at *; omega)) only [RZ, ovw, oneC, reduceAdd, reduceMul, reduceSub, reduceEqDiff, reduceLT, ↓reduceIte, Int.reduceToNat, reduceLeDiff,  f0, f3]
          exact h6.next h6.pb (KB.refl _ _) (Nat.le_trans h6.le (by omega)) (by omega)
        · rw [show decide (t.mode = 3) = false by simp [e2], if_neg e2]
          refine W_if_f rfl ?_
          simp +contextual (maxSteps := 2000000) (disch := first | omega | (simp only [SZ]; first | done | omega) | (simp only [TS] at *; omega)) only [RZ, ovw, oneC, reduceAdd, reduceMul, reduceSub, reduceEqDiff, reduceLT, ↓reduceIte, Int.reduceToNat, reduceLeDiff,  f0]
          refine (qWord h5 ⟨#[98, 97, 99, 107]⟩ (by decide) (by omega)).mono ?_
          rintro e w6 ⟨rfl, h6⟩
          refine ⟨_, rfl, ?_⟩
          rw [show bs ⟨#[98, 97, 99, 107]⟩ = asc "back" by decide +kernel] at h6
          try simp +contextual (maxSteps := 2000000) (disch := first | omega | (simp only [SZ]; first | done | omega) | (simp only [TS] at *; omega)) only [RZ, ovw, oneC, reduceAdd, reduceMul, reduceSub, reduceEqDiff, reduceLT, ↓reduceIte, Int.reduceToNat, reduceLeDiff,  f0]
          simp +contextual (maxSteps := 2000000) (disch := first | omega | (simp only [SZ]; first | done | omega) | (simp only [TS] at *; omega)) only [RZ, ovw, oneC, reduceAdd, reduceMul, reduceSub, reduceEqDiff, reduceLT, ↓reduceIte, Int.reduceToNat, reduceLeDiff,  f0, f3]
          exact h6.next h6.pb (KB.refl _ _) (Nat.le_trans h6.le (by omega)) (by omega)
      clear f0 f3
      rintro σ w6 ⟨f0, f3, h6⟩
      have d0 : w6.cell? ⟨w.heap.size, 0, none⟩ = some (.int .i64 t.main) := h6.cell 0 rfl
      simp +contextual (maxSteps := 2000000) (disch := first | omega | (simp only [SZ]; first | done | omega) | (simp only [TS] at *; omega)) only [RZ, ovw, oneC, reduceAdd, reduceMul, reduceSub, reduceEqDiff, reduceLT, ↓reduceIte, Int.reduceToNat, reduceLeDiff,  f0, f3, d0]
      refine (qNum h6 t.main (by omega)).mono ?_
      rintro e w7 ⟨rfl, h7⟩
      refine ⟨_, rfl, ?_⟩
      try simp +contextual (maxSteps := 2000000) (disch := first | omega | (simp only [SZ]; first | done | omega) | (simp only [TS] at *; omega)) only [RZ, ovw, oneC, reduceAdd, reduceMul, reduceSub, reduceEqDiff, reduceLT, ↓reduceIte, Int.reduceToNat, reduceLeDiff,  f0, f3, d0]
      try simp +contextual (maxSteps := 2000000) (disch := first | omega | (simp only [SZ]; first | done | omega) | (simp only [TS] at *; omega)) only [RZ, ovw, oneC, reduceAdd, reduceMul, reduceSub, reduceEqDiff, reduceLT, ↓reduceIte, Int.reduceToNat, reduceLeDiff,  f0, f3]
      exact h7.next h7.pb (KB.refl _ _) (Nat.le_trans h7.le (by omega)) (by omega)
    rw [if_neg e3]
    rw [show decide (t.mode = 3 ∨ t.mode = 4) = false by simpa using e3] at f52
    refine W_if_f (by simp +contextual (maxSteps := 2000000) (disch := first | omega | (simp only [SZ]; first | done | omega) | (simp only [TS] at *; omega)) only [RZ, ovw, oneC, reduceAdd, reduceMul, reduceSub, reduceEqDiff, reduceLT, ↓reduceIte, Int.reduceToNat, reduceLeDiff,  f52]) ?_
    obtain ⟨c2, d2, z2, h5⟩ := h4.spoil
    simp +contextual (maxSteps := 2000000) (disch := first | omega | (simp only [SZ]; first | done | omega) | (simp only [TS] at *; omega)) only [RZ, ovw, oneC, reduceAdd, reduceMul, reduceSub, reduceEqDiff, reduceLT, ↓reduceIte, Int.reduceToNat, reduceLeDiff,  f0, f3, d2, z2]
    exact h5.next h5.pb (KB.refl _ _) (Nat.le_trans h5.le (by omega)) (by omega)
  clear h1
  generalize p1.mode t = p2 at hr ⊢
  rintro σ w1 ⟨f0, f3, h1⟩
  refine W_cutS (fun σ w3 => σ 0 = .pointer (some ⟨g, 0, none⟩) ∧ σ 3 = .pointer (some ⟨w.heap.size, 0, none⟩) ∧ Pst g w.heap.size 41 (encTi t) w w3 (if t.kind = 1 then p2.ws [asc "fixed"] else if t.kind = 2 then p2.ws [asc "share"] else if t.kind = 3 then p2.ws [asc "jackpot"] else ⟨p2.X, true⟩) (B + 1400)) ?_ ?_
  rotate_left
  · have d4 : w1.cell? ⟨w.heap.size, 4, none⟩ = some (.int .i64 t.kind) := h1.cell 4 rfl
    refine W_piece fun K hK hX => ?_
    simp +contextual (maxSteps := 2000000) (disch := first | omega | (simp only [SZ]; first | done | omega) | (simp only [TS] at *; omega)) only [RZ, ovw, oneC, reduceAdd, reduceMul, reduceSub, reduceEqDiff, reduceLT, ↓reduceIte, Int.reduceToNat, reduceLeDiff,  f0, f3, d4]
    refine hK _ _ ?_
    clear hK hX K d4
    rw [W_block]
    refine W_piece fun K hK hX => ?_
    simp +contextual (maxSteps := 2000000) (disch := first | omega | (simp only [SZ]; first | done | omega) | (simp only [TS] at *; omega)) only [RZ, ovw, oneC, reduceAdd, reduceMul, reduceSub, reduceEqDiff, reduceLT, ↓reduceIte, Int.reduceToNat, reduceLeDiff]
    refine hK _ _ ?_
    clear hK hX K
    by_cases e1 : t.kind = 1
    · rw [show decide (t.kind = 1) = true by simp [e1], if_pos e1]
      refine W_if_t rfl ?_
      simp +contextual (maxSteps := 2000000) (disch := first | omega | (simp only [SZ]; first | done | omega) | (simp only [TS] at *; omega)) only [RZ, ovw, oneC, reduceAdd, reduceMul, reduceSub, reduceEqDiff, reduceLT, ↓reduceIte, Int.reduceToNat, reduceLeDiff,  f0]
      refine (qWord h1 ⟨#[102, 105, 120, 101, 100]⟩ (by decide) (by omega)).mono ?_
      rintro e w2 ⟨rfl, h2⟩
      refine ⟨_, rfl, ?_⟩
      rw [show bs ⟨#[102, 105, 120, 101, 100]⟩ = asc "fixed" by decide +kernel] at h2
      try simp +contextual (maxSteps := 2000000) (disch := first | omega | (simp only [SZ]; first | done | omega) | (simp only [TS] at *; omega)) only [RZ, ovw, oneC, reduceAdd, reduceMul, reduceSub, reduceEqDiff, reduceLT, ↓reduceIte, Int.reduceToNat, reduceLeDiff,  f0]
      try simp +contextual (maxSteps := 2000000) (disch := first | omega | (simp only [SZ]; first | done | omega) | (simp only [TS] at *; omega)) only [RZ, ovw, oneC, reduceAdd, reduceMul, reduceSub, reduceEqDiff, reduceLT, ↓reduceIte, Int.reduceToNat, reduceLeDiff,  f0, f3]
      exact h2.next h2.pb (KB.refl _ _) (Nat.le_trans h2.le (by omega)) (by omega)
    rw [show decide (t.kind = 1) = false by simp [e1], if_neg e1]
    refine W_if_f rfl ?_
    refine W_piece fun K hK hX => ?_
    simp +contextual (maxSteps := 2000000) (disch := first | omega | (simp only [SZ]; first | done | omega) | (simp only [TS] at *; omega)) only [RZ, ovw, oneC, reduceAdd, reduceMul, reduceSub, reduceEqDiff, reduceLT, ↓reduceIte, Int.reduceToNat, reduceLeDiff]
    refine hK _ _ ?_
    clear hK hX K
    by_cases e2 : t.kind = 2
    · rw [show decide (t.kind = 2) = true by simp [e2], if_pos e2]
      refine W_if_t rfl ?_
      simp +contextual (maxSteps := 2000000) (disch := first | omega | (simp only [SZ]; first | done | omega) | (simp only [TS] at *; omega)) only [RZ, ovw, oneC, reduceAdd, reduceMul, reduceSub, reduceEqDiff, reduceLT, ↓reduceIte, Int.reduceToNat, reduceLeDiff,  f0]
      refine (qWord h1 ⟨#[115, 104, 97, 114, 101]⟩ (by decide) (by omega)).mono ?_
      rintro e w2 ⟨rfl, h2⟩
      refine ⟨_, rfl, ?_⟩
      rw [show bs ⟨#[115, 104, 97, 114, 101]⟩ = asc "share" by decide +kernel] at h2
      try simp +contextual (maxSteps := 2000000) (disch := first | omega | (simp only [SZ]; first | done | omega) | (simp only [TS] at *; omega)) only [RZ, ovw, oneC, reduceAdd, reduceMul, reduceSub, reduceEqDiff, reduceLT, ↓reduceIte, Int.reduceToNat, reduceLeDiff,  f0]
      try simp +contextual (maxSteps := 2000000) (disch := first | omega | (simp only [SZ]; first | done | omega) | (simp only [TS] at *; omega)) only [RZ, ovw, oneC, reduceAdd, reduceMul, reduceSub, reduceEqDiff, reduceLT, ↓reduceIte, Int.reduceToNat, reduceLeDiff,  f0, f3]
      exact h2.next h2.pb (KB.refl _ _) (Nat.le_trans h2.le (by omega)) (by omega)
    rw [show decide (t.kind = 2) = false by simp [e2], if_neg e2]
    refine W_if_f rfl ?_
    refine W_piece fun K hK hX => ?_
    simp +contextual (maxSteps := 2000000) (disch := first | omega | (simp only [SZ]; first | done | omega) | (simp only [TS] at *; omega)) only [RZ, ovw, oneC, reduceAdd, reduceMul, reduceSub, reduceEqDiff, reduceLT, ↓reduceIte, Int.reduceToNat, reduceLeDiff]
    refine hK _ _ ?_
    clear hK hX K
    by_cases e3 : t.kind = 3
    · rw [show decide (t.kind = 3) = true by simp [e3], if_pos e3]
      refine W_if_t rfl ?_
      simp +contextual (maxSteps := 2000000) (disch := first | omega | (simp only [SZ]; first | done | omega) | (simp only [TS] at *; omega)) only [RZ, ovw, oneC, reduceAdd, reduceMul, reduceSub, reduceEqDiff, reduceLT, ↓reduceIte, Int.reduceToNat, reduceLeDiff,  f0]
      refine (qWord h1 ⟨#[106, 97, 99, 107, 112, 111, 116]⟩ (by decide) (by omega)).mono ?_
      rintro e w2 ⟨rfl, h2⟩
      refine ⟨_, rfl, ?_⟩
      rw [show bs ⟨#[106, 97, 99, 107, 112, 111, 116]⟩ = asc "jackpot" by decide +kernel] at h2
      try simp +contextual (maxSteps := 2000000) (disch := first | omega | (simp only [SZ]; first | done | omega) | (simp only [TS] at *; omega)) only [RZ, ovw, oneC, reduceAdd, reduceMul, reduceSub, reduceEqDiff, reduceLT, ↓reduceIte, Int.reduceToNat, reduceLeDiff,  f0]
      try simp +contextual (maxSteps := 2000000) (disch := first | omega | (simp only [SZ]; first | done | omega) | (simp only [TS] at *; omega)) only [RZ, ovw, oneC, reduceAdd, reduceMul, reduceSub, reduceEqDiff, reduceLT, ↓reduceIte, Int.reduceToNat, reduceLeDiff,  f0, f3]
      exact h2.next h2.pb (KB.refl _ _) (Nat.le_trans h2.le (by omega)) (by omega)
    rw [show decide (t.kind = 3) = false by simp [e3], if_neg e3]
    refine W_if_f rfl ?_
    obtain ⟨c2, d2, z2, h5⟩ := h1.spoil
    simp +contextual (maxSteps := 2000000) (disch := first | omega | (simp only [SZ]; first | done | omega) | (simp only [TS] at *; omega)) only [RZ, ovw, oneC, reduceAdd, reduceMul, reduceSub, reduceEqDiff, reduceLT, ↓reduceIte, Int.reduceToNat, reduceLeDiff,  f0, f3, d2, z2]
    exact h5.next h5.pb (KB.refl _ _) (Nat.le_trans h5.le (by omega)) (by omega)
  clear f0 f3 h1
  rintro σ w1 ⟨f0, f3, h1⟩
  have d5 : w1.cell? ⟨w.heap.size, 5, none⟩ = some (.int .i64 t.value) := h1.cell 5 rfl
  refine W_piece fun K hK hX => ?_
  simp +contextual (maxSteps := 2000000) (disch := first | omega | (simp only [SZ]; first | done | omega) | (simp only [TS] at *; omega)) only [RZ, ovw, oneC, reduceAdd, reduceMul, reduceSub, reduceEqDiff, reduceLT, ↓reduceIte, Int.reduceToNat, reduceLeDiff,  f0, f3, d5]
  refine (qNum h1 t.value (by omega)).mono ?_
  rintro e w2 ⟨rfl, h2⟩
  refine ⟨_, rfl, ?_⟩
  try simp +contextual (maxSteps := 2000000) (disch := first | omega | (simp only [SZ]; first | done | omega) | (simp only [TS] at *; omega)) only [RZ, ovw, oneC, reduceAdd, reduceMul, reduceSub, reduceEqDiff, reduceLT, ↓reduceIte, Int.reduceToNat, reduceLeDiff,  f0, f3, d5]
  refine hK _ _ ?_
  clear hK hX K
  simp +contextual (maxSteps := 2000000) (disch := first | omega | (simp only [SZ]; first | done | omega) | (simp only [TS] at *; omega)) only [RZ, ovw, oneC, reduceAdd, reduceMul, reduceSub, reduceEqDiff, reduceLT, ↓reduceIte, Int.reduceToNat, reduceLeDiff,  f0]
  refine (qEnd h2 (by omega)).mono ?_
  rintro e w3 ⟨rfl, h3⟩
  refine ⟨_, rfl, ?_⟩
  try simp +contextual (maxSteps := 2000000) (disch := first | omega | (simp only [SZ]; first | done | omega) | (simp only [TS] at *; omega)) only [RZ, ovw, oneC, reduceAdd, reduceMul, reduceSub, reduceEqDiff, reduceLT, ↓reduceIte, Int.reduceToNat, reduceLeDiff,  f0]
  subst hr
  exact h3.next h3.pb (KB.refl _ _) (Nat.le_trans h3.le (by omega)) (by omega)
end
end Go.Proofs.YtbdkggnajipdhaaGreatDoor
/- Walk: the printer's text as a string. -/
namespace Go.Proofs.YtbdkggnajipdhaaGreatDoor
open Nat (reduceAdd reduceMul reduceSub reduceEqDiff reduceLT reduceLeDiff)
open Go.RowKit
set_option maxRecDepth 100000
def vSD (P : Program) (T ty : TypeId) (u : Value) (w : World) : Result Next := (do pure (.value (← Builtin.unsafeSliceData_ #[T] ty #[u])) : Sem Next).run P w
def vUS (P : Program) (T1 T2 ty : TypeId) (u v : Value) (w : World) : Result Next := (do pure (.value (← Builtin.unsafeString_ #[T1, T2] ty #[u, v])) : Sem Next).run P w
section
variable {P : Program} {w : World} {σ : Sl} {ty : TypeId}
theorem r_sd (T : TypeId) (x : Operand) : run1 P (.call ⟨.builtin .unsafeSliceData, #[x], #[T]⟩) ty σ w = vSD P T ty (ev σ x) w := by simp [run1, execOp, resolve, invoke, builtin, vSD]
theorem r_us (T1 T2 : TypeId) (x y : Operand) : run1 P (.call ⟨.builtin .unsafeString, #[x, y], #[T1, T2]⟩) ty σ w = vUS P T1 T2 ty (ev σ x) (ev σ y) w := by simp [run1, execOp, resolve, invoke, builtin, vUS]
end
section
variable {g : Nat} {w : World} {p : Pr}
theorem pbString_any (h : PbIn g w p) (hne : p.X ≠ []) (hsz : p.X.length ≤ 1000000000) : Calls Tryz.prog 39 #[.pointer (some ⟨g, 0, none⟩)] w fun e w' => e = .returned (.string (toBA p.X)) ∧ Below g w w' := by
  refine calls_W (l := [_]) Tryz.func39 rfl _ Tryz.ntmps39 (by simp) ?_
  obtain ⟨q, A, c, h⟩ := h
  have hpos : 0 < p.X.length := List.length_pos_iff.2 hne
  obtain ⟨b, rfl, hb, hR, hc, hcm⟩ := owns_row h.own hpos
  have hlt := h.row.lt
  have c1 : w.drew.cell? ⟨g, 1, none⟩ = some (.slice (some ⟨b, 0, none⟩) p.X.length c) := h.row.cell (i := 1) rfl
  obtain ⟨inf, hi, hz⟩ := Option.map_eq_some_iff.1 (show (Tryz.prog.info? 5).map (·.size) = some 1 by kernel_rfl)
  have s1 : ∀ (w : World), vSD Tryz.prog 65 103 (.slice (some ⟨b, 0, none⟩) p.X.length c) w = .ok (.value (.pointer (some ⟨b, 0, none⟩))) w := fun w => by
    simp [vSD, Lib.run_unsafeSliceData_row (P := Tryz.prog) (w := w) #[65] 103 ⟨b, 0, none⟩ p.X.length c (by omega)]
  obtain ⟨cur, hcur, r, hr⟩ := hR
  have hlen : (p.X.map UInt8.ofNat).length = p.X.length := List.length_map ..
  have hcell : ∀ j x, (p.X.map UInt8.ofNat)[j]? = some x → w.drew.cell? ((⟨b, 0, none⟩ : Addr).add j) = some (.int .u8 x.toNat) := fun j x hx => by
    rw [List.getElem?_map] at hx
    obtain ⟨n, hn, rfl⟩ := Option.map_eq_some_iff.1 hx
    have hnl := h.small n (List.mem_of_getElem? hn)
    have := Row.cell (w := w) (g := b) (T := 5) (cs := byV p.X) ⟨cur, hcur, r, hr⟩ (i := j) (v := .int .u8 n) (by unfold byV; rw [List.getElem?_map, hn]; rfl)
    have e2 : ((⟨b, 0, none⟩ : Addr).add j) = ⟨b, j, none⟩ := by simp [Addr.add]; omega
    have c : w.drew.cell? ⟨b, j, none⟩ = _ := this
    rw [e2, c, UInt8.toNat_ofNat', Nat.mod_eq_of_lt hnl]
  have hsh : w.drew.shape? b = some (5, cur.size) := by
    show w.shape? b = _
    simp [World.shape?, hcur]
  have hcs : p.X.length ≤ cur.size := by
    have := congrArg List.length hr
    rw [List.length_append, byV_len] at this
    have h2 : cur.toList.length = cur.size := Array.length_toList
    omega
  have s2 : vUS Tryz.prog 103 3 9 (.pointer (some ⟨b, 0, none⟩)) (.int .i64 p.X.length) w.drew = .ok (.value (.string (toBA p.X))) (w.drew.freeze ⟨b, 0, none⟩ p.X.length) := by
    have := Lib.run_unsafeString_row (P := Tryz.prog) (w := w.drew) 103 3 9 5 Tryz.underlying103 (by kernel_rfl) b cur.size hsh (p.X.map UInt8.ofNat) (by simpa using hne) (by omega) (by omega) hcell
    rw [hlen] at this
    simp [vUS, this]
    rfl
  refine W_piece fun K hK hX => ?_
  simp +contextual (maxSteps := 2000000) (disch := first | omega | (simp only [SZ]; first | done | omega) | (simp only [TS] at *; omega)) only [RZ, ovw, oneC, reduceAdd, reduceMul, reduceSub, reduceEqDiff, reduceLT, ↓reduceIte, Int.reduceToNat, reduceLeDiff]
  refine hK _ _ ?_
  clear hK hX K
  refine W_piece fun K hK hX => ?_
  rw [W_draw]
  refine Raw_tail 10 MX (by kernel_rfl) ?_
  simp only [List.take_succ_cons, List.take_zero, List.drop_succ_cons, List.drop_zero]
  simp +contextual (maxSteps := 2000000) (disch := first | omega | (simp only [SZ]; first | done | omega) | (simp only [TS] at *; omega)) only [RZ, ovw, oneC, reduceAdd, reduceMul, reduceSub, reduceEqDiff, reduceLT, ↓reduceIte, Int.reduceToNat, reduceLeDiff,  c1, r_sd, s1, r_us, s2]
  refine hK _ _ ?_
  clear hK hX K
  simp +contextual (maxSteps := 2000000) (disch := first | omega | (simp only [SZ]; first | done | omega) | (simp only [TS] at *; omega)) only [RZ, ovw, oneC, reduceAdd, reduceMul, reduceSub, reduceEqDiff, reduceLT, ↓reduceIte, Int.reduceToNat, reduceLeDiff]
  exact Lib.below_freeze (below_drew (Below.refl _ w)) (by show g ≤ b; omega) _
end
end Go.Proofs.YtbdkggnajipdhaaGreatDoor
