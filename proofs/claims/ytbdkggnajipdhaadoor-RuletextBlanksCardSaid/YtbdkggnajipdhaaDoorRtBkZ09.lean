/- Texts laid one behind the other: PbG, PbH, PaF. Each says at its head what it proves. -/
import Derived.Test.YtbdkggnajipdhaaDoorRtBkZ08
set_option linter.unusedSimpArgs false
/- Walks: the printer's add-on and tier. -/
namespace Go.Proofs.YtbdkggnajipdhaaDoor
open Nat (reduceAdd reduceMul reduceSub reduceEqDiff reduceLT reduceLeDiff)
open Go.RowKit
set_option maxRecDepth 100000
/-- Numbers in memory that a printer's steps keep. -/
def Kin (g : Nat) (w : World) (v : Value) (L : List Int) : Prop := ∃ (A : Option Addr) (c : Nat), v = .slice A L.length c ∧ ∀ w', KB g w w' → Arr w' A 1 (L.map fun n => [Value.int .i64 n])
theorem Kin.kb {g : Nat} {w w1 : World} {v : Value} {L : List Int} (h : Kin g w v L) (k : KB g w w1) : Kin g w1 v L := by
  obtain ⟨A, c, e, h⟩ := h
  exact ⟨A, c, e, fun w' k' => h w' (k.trans k')⟩
def encAd (a : Ad) (vf vs : Value) : List Value := [.string a.name, .int .i64 a.kind, .int .i64 a.price, vf, .int .i64 a.digits, vs]
section
variable {g B : Nat} {w : World} {p : Pr}
set_option maxHeartbeats 4000000 in
theorem pbAddon_any (h : PbIn g w p) (a : Ad) (vf vs : Value) (hf : Kin g w vf a.factors) (hs : Kin g w vs a.serials) (hnl : a.name.size ≤ 1000000) (hfl : a.factors.length ≤ 1000000) (hsl : a.serials.length ≤ 1000000) (hW : Laid w) (hg : 5 ≤ g) (hl : p.X.length ≤ B) (hlo : 32768 ≤ B) (hB : B ≤ 300000000) :
    Calls Tryd.prog 18 #[.pointer (some ⟨g, 0, none⟩), .agg (encAd a vf vs).toArray] w fun e w' => e = .returned (.tuple #[]) ∧ Pst g w.heap.size 43 (encAd a vf vs) w w' (p.addon a) (B + 1002000) := by
  refine calls_W (l := [_, _]) Tryd.func18 rfl _ Tryd.ntmps18 (by simp) ?_
  generalize hr : p.addon a = r
  unfold Pr.addon at hr
  dsimp only at hr
  have h0 := Pst.of_box (T := 43) (cs := encAd a vf vs) h hW hg (by decide) hl hlo
  obtain ⟨Af, cf, rfl, hf⟩ := hf
  obtain ⟨As, cS, rfl, hs⟩ := hs
  refine W_piece fun K hK hX => ?_
  simp +contextual (maxSteps := 2000000) (disch := first | omega | (simp only [SZ]; first | done | omega) | (simp only [TS] at *; omega)) only [RZ, ovw, oneC, reduceAdd, reduceMul, reduceSub, reduceEqDiff, reduceLT, ↓reduceIte, Int.reduceToNat, reduceLeDiff]
  refine hK _ _ ?_
  clear hK hX K
  generalize w.alloc (.cells (encAd a (.slice Af a.factors.length cf) (.slice As a.serials.length cS)).toArray 43) = w0 at h0 ⊢
  refine W_piece fun K hK hX => ?_
  simp +contextual (maxSteps := 2000000) (disch := first | omega | (simp only [SZ]; first | done | omega) | (simp only [TS] at *; omega)) only [RZ, ovw, oneC, reduceAdd, reduceMul, reduceSub, reduceEqDiff, reduceLT, ↓reduceIte, Int.reduceToNat, reduceLeDiff]
  refine (qBegin h0 ⟨#[97, 100, 100, 111, 110]⟩ (by decide) (by omega)).mono ?_
  rintro e w1 ⟨rfl, h1⟩
  refine ⟨_, rfl, ?_⟩
  rw [show bs ⟨#[97, 100, 100, 111, 110]⟩ = asc "addon" by decide +kernel] at h1
  try simp +contextual (maxSteps := 2000000) (disch := first | omega | (simp only [SZ]; first | done | omega) | (simp only [TS] at *; omega)) only [RZ, ovw, oneC, reduceAdd, reduceMul, reduceSub, reduceEqDiff, reduceLT, ↓reduceIte, Int.reduceToNat, reduceLeDiff]
  refine hK _ _ ?_
  clear hK hX K
  have d0 : w1.cell? ⟨w.heap.size, 0, none⟩ = some (.string a.name) := h1.cell 0 rfl
  refine W_piece fun K hK hX => ?_
  simp +contextual (maxSteps := 2000000) (disch := first | omega | (simp only [SZ]; first | done | omega) | (simp only [TS] at *; omega)) only [RZ, ovw, oneC, reduceAdd, reduceMul, reduceSub, reduceEqDiff, reduceLT, ↓reduceIte, Int.reduceToNat, reduceLeDiff,  d0]
  refine (qName h1 a.name hnl (by omega)).mono ?_
  rintro e w2 ⟨rfl, h2⟩
  refine ⟨_, rfl, ?_⟩
  try simp +contextual (maxSteps := 2000000) (disch := first | omega | (simp only [SZ]; first | done | omega) | (simp only [TS] at *; omega)) only [RZ, ovw, oneC, reduceAdd, reduceMul, reduceSub, reduceEqDiff, reduceLT, ↓reduceIte, Int.reduceToNat, reduceLeDiff,  d0]
  refine hK _ _ ?_
  clear hK hX K
  generalize (p.begin (asc "addon")).nm a.name = p1 at hr h2
  clear h0 h1 d0
  refine W_cutS (fun σ w3 => σ 0 = .pointer (some ⟨g, 0, none⟩) ∧ Pst g w.heap.size 43 (encAd a (.slice Af a.factors.length cf) (.slice As a.serials.length cS)) w w3 (if a.kind = 1 then (((p1.req (decide (a.digits = 0) && decide (a.serials.length = 0))).ws [asc "factor"]).nums [a.price]).nums a.factors
   else if a.kind = 2 then (((p1.req (decide (a.factors.length = 0))).ws [asc "serial"]).nums [a.price, a.digits]).nums a.serials
   else ⟨p1.X, true⟩) (B + 1001500)) ?_ ?_
  rotate_left
  · have d1 : w2.cell? ⟨w.heap.size, 1, none⟩ = some (.int .i64 a.kind) := h2.cell 1 rfl
    refine W_piece fun K hK hX => ?_
    simp +contextual (maxSteps := 2000000) (disch := first | omega | (simp only [SZ]; first | done | omega) | (simp only [TS] at *; omega)) only [RZ, ovw, oneC, reduceAdd, reduceMul, reduceSub, reduceEqDiff, reduceLT, ↓reduceIte, Int.reduceToNat, reduceLeDiff,  d1]
    refine hK _ _ ?_
    clear hK hX K d1
    rw [W_block]
    refine W_piece fun K hK hX => ?_
    simp +contextual (maxSteps := 2000000) (disch := first | omega | (simp only [SZ]; first | done | omega) | (simp only [TS] at *; omega)) only [RZ, ovw, oneC, reduceAdd, reduceMul, reduceSub, reduceEqDiff, reduceLT, ↓reduceIte, Int.reduceToNat, reduceLeDiff]
    refine hK _ _ ?_
    clear hK hX K
    by_cases e1 : a.kind = 1
    · rw [show decide (a.kind = 1) = true by simp [e1], if_pos e1]
      refine W_if_t rfl ?_
      have es : decide ((a.serials.length : Int) = 0) = decide (a.serials.length = 0) := by simp
      have d4 : w2.cell? ⟨w.heap.size, 4, none⟩ = some (.int .i64 a.digits) := h2.cell 4 rfl
      have d5 : w2.cell? ⟨w.heap.size, 5, none⟩ = some (.slice As a.serials.length cS) := h2.cell 5 rfl
      refine W_piece fun K hK hX => ?_
      simp +contextual (maxSteps := 2000000) (disch := first | omega | (simp only [SZ]; first | done | omega) | (simp only [TS] at *; omega)) only [RZ, ovw, oneC, reduceAdd, reduceMul, reduceSub, reduceEqDiff, reduceLT, ↓reduceIte, Int.reduceToNat, reduceLeDiff,  d4, d5, es]
      refine (qReq h2 (decide (a.digits = 0) && decide (a.serials.length = 0))).mono ?_
      rintro e w3 ⟨rfl, h3⟩
      refine ⟨_, rfl, ?_⟩
      try simp +contextual (maxSteps := 2000000) (disch := first | omega | (simp only [SZ]; first | done | omega) | (simp only [TS] at *; omega)) only [RZ, ovw, oneC, reduceAdd, reduceMul, reduceSub, reduceEqDiff, reduceLT, ↓reduceIte, Int.reduceToNat, reduceLeDiff,  d4, d5, es]
      refine hK _ _ ?_
      clear hK hX K
      refine W_piece fun K hK hX => ?_
      simp +contextual (maxSteps := 2000000) (disch := first | omega | (simp only [SZ]; first | done | omega) | (simp only [TS] at *; omega)) only [RZ, ovw, oneC, reduceAdd, reduceMul, reduceSub, reduceEqDiff, reduceLT, ↓reduceIte, Int.reduceToNat, reduceLeDiff]
      refine (qWord h3 ⟨#[102, 97, 99, 116, 111, 114]⟩ (by decide) (by omega)).mono ?_
      rintro e w4 ⟨rfl, h4⟩
      refine ⟨_, rfl, ?_⟩
      rw [show bs ⟨#[102, 97, 99, 116, 111, 114]⟩ = asc "factor" by decide +kernel] at h4
      try simp +contextual (maxSteps := 2000000) (disch := first | omega | (simp only [SZ]; first | done | omega) | (simp only [TS] at *; omega)) only [RZ, ovw, oneC, reduceAdd, reduceMul, reduceSub, reduceEqDiff, reduceLT, ↓reduceIte, Int.reduceToNat, reduceLeDiff]
      refine hK _ _ ?_
      clear hK hX K
      have d2 : w4.cell? ⟨w.heap.size, 2, none⟩ = some (.int .i64 a.price) := h4.cell 2 rfl
      refine W_piece fun K hK hX => ?_
      simp +contextual (maxSteps := 2000000) (disch := first | omega | (simp only [SZ]; first | done | omega) | (simp only [TS] at *; omega)) only [RZ, ovw, oneC, reduceAdd, reduceMul, reduceSub, reduceEqDiff, reduceLT, ↓reduceIte, Int.reduceToNat, reduceLeDiff,  d2]
      refine (qNum h4 a.price (by omega)).mono ?_
      rintro e w5 ⟨rfl, h5⟩
      refine ⟨_, rfl, ?_⟩
      try simp +contextual (maxSteps := 2000000) (disch := first | omega | (simp only [SZ]; first | done | omega) | (simp only [TS] at *; omega)) only [RZ, ovw, oneC, reduceAdd, reduceMul, reduceSub, reduceEqDiff, reduceLT, ↓reduceIte, Int.reduceToNat, reduceLeDiff,  d2]
      refine hK _ _ ?_
      clear hK hX K
      have d3 : w5.cell? ⟨w.heap.size, 3, none⟩ = some (.slice Af a.factors.length cf) := h5.cell 3 rfl
      simp +contextual (maxSteps := 2000000) (disch := first | omega | (simp only [SZ]; first | done | omega) | (simp only [TS] at *; omega)) only [RZ, ovw, oneC, reduceAdd, reduceMul, reduceSub, reduceEqDiff, reduceLT, ↓reduceIte, Int.reduceToNat, reduceLeDiff,  d3]
      refine (qNumbers (A := Af) (c := cf) h5 (fun w' k => hf w' (h5.kb.trans k)) (by omega) (by omega)).mono ?_
      rintro e w6 ⟨rfl, h6⟩
      refine ⟨_, rfl, ?_⟩
      try simp +contextual (maxSteps := 2000000) (disch := first | omega | (simp only [SZ]; first | done | omega) | (simp only [TS] at *; omega)) only [RZ, ovw, oneC, reduceAdd, reduceMul, reduceSub, reduceEqDiff, reduceLT, ↓reduceIte, Int.reduceToNat, reduceLeDiff,  d3]
      exact h6.next h6.pb (KB.refl _ _) (Nat.le_trans h6.le (by omega)) (by omega)
    · rw [show decide (a.kind = 1) = false by simp [e1], if_neg e1]
      refine W_if_f rfl ?_
      refine W_piece fun K hK hX => ?_
      simp +contextual (maxSteps := 2000000) (disch := first | omega | (simp only [SZ]; first | done | omega) | (simp only [TS] at *; omega)) only [RZ, ovw, oneC, reduceAdd, reduceMul, reduceSub, reduceEqDiff, reduceLT, ↓reduceIte, Int.reduceToNat, reduceLeDiff]
      refine hK _ _ ?_
      clear hK hX K
      by_cases e2 : a.kind = 2
      · rw [show decide (a.kind = 2) = true by simp [e2], if_pos e2]
        refine W_if_t rfl ?_
        have es : decide ((a.factors.length : Int) = 0) = decide (a.factors.length = 0) := by simp
        have d3 : w2.cell? ⟨w.heap.size, 3, none⟩ = some (.slice Af a.factors.length cf) := h2.cell 3 rfl
        refine W_piece fun K hK hX => ?_
        simp +contextual (maxSteps := 2000000) (disch := first | omega | (simp only [SZ]; first | done | omega) | (simp only [TS] at *; omega)) only [RZ, ovw, oneC, reduceAdd, reduceMul, reduceSub, reduceEqDiff, reduceLT, ↓reduceIte, Int.reduceToNat, reduceLeDiff,  d3, es]
        refine (qReq h2 (decide (a.factors.length = 0))).mono ?_
        rintro e w3 ⟨rfl, h3⟩
        refine ⟨_, rfl, ?_⟩
        try simp +contextual (maxSteps := 2000000) (disch := first | omega | (simp only [SZ]; first | done | omega) | (simp only [TS] at *; omega)) only [RZ, ovw, oneC, reduceAdd, reduceMul, reduceSub, reduceEqDiff, reduceLT, ↓reduceIte, Int.reduceToNat, reduceLeDiff,  d3, es]
        refine hK _ _ ?_
        clear hK hX K
        refine W_piece fun K hK hX => ?_
        simp +contextual (maxSteps := 2000000) (disch := first | omega | (simp only [SZ]; first | done | omega) | (simp only [TS] at *; omega)) only [RZ, ovw, oneC, reduceAdd, reduceMul, reduceSub, reduceEqDiff, reduceLT, ↓reduceIte, Int.reduceToNat, reduceLeDiff]
        refine (qWord h3 ⟨#[115, 101, 114, 105, 97, 108]⟩ (by decide) (by omega)).mono ?_
        rintro e w4 ⟨rfl, h4⟩
        refine ⟨_, rfl, ?_⟩
        rw [show bs ⟨#[115, 101, 114, 105, 97, 108]⟩ = asc "serial" by decide +kernel] at h4
        try simp +contextual (maxSteps := 2000000) (disch := first | omega | (simp only [SZ]; first | done | omega) | (simp only [TS] at *; omega)) only [RZ, ovw, oneC, reduceAdd, reduceMul, reduceSub, reduceEqDiff, reduceLT, ↓reduceIte, Int.reduceToNat, reduceLeDiff]
        refine hK _ _ ?_
        clear hK hX K
        have d2 : w4.cell? ⟨w.heap.size, 2, none⟩ = some (.int .i64 a.price) := h4.cell 2 rfl
        have d4 : w4.cell? ⟨w.heap.size, 4, none⟩ = some (.int .i64 a.digits) := h4.cell 4 rfl
        refine W_piece fun K hK hX => ?_
        simp +contextual (maxSteps := 2000000) (disch := first | omega | (simp only [SZ]; first | done | omega) | (simp only [TS] at *; omega)) only [RZ, ovw, oneC, reduceAdd, reduceMul, reduceSub, reduceEqDiff, reduceLT, ↓reduceIte, Int.reduceToNat, reduceLeDiff,  d2, d4]
        refine (qNum2 h4 a.price a.digits (by omega)).mono ?_
        rintro e w5 ⟨rfl, h5⟩
        refine ⟨_, rfl, ?_⟩
        try simp +contextual (maxSteps := 2000000) (disch := first | omega | (simp only [SZ]; first | done | omega) | (simp only [TS] at *; omega)) only [RZ, ovw, oneC, reduceAdd, reduceMul, reduceSub, reduceEqDiff, reduceLT, ↓reduceIte, Int.reduceToNat, reduceLeDiff,  d2, d4]
        refine hK _ _ ?_
        clear hK hX K
        have d5 : w5.cell? ⟨w.heap.size, 5, none⟩ = some (.slice As a.serials.length cS) := h5.cell 5 rfl
        simp +contextual (maxSteps := 2000000) (disch := first | omega | (simp only [SZ]; first | done | omega) | (simp only [TS] at *; omega)) only [RZ, ovw, oneC, reduceAdd, reduceMul, reduceSub, reduceEqDiff, reduceLT, ↓reduceIte, Int.reduceToNat, reduceLeDiff,  d5]
        refine (qNumbers (A := As) (c := cS) h5 (fun w' k => hs w' (h5.kb.trans k)) (by omega) (by omega)).mono ?_
        rintro e w6 ⟨rfl, h6⟩
        refine ⟨_, rfl, ?_⟩
        try simp +contextual (maxSteps := 2000000) (disch := first | omega | (simp only [SZ]; first | done | omega) | (simp only [TS] at *; omega)) only [RZ, ovw, oneC, reduceAdd, reduceMul, reduceSub, reduceEqDiff, reduceLT, ↓reduceIte, Int.reduceToNat, reduceLeDiff,  d5]
        exact h6.next h6.pb (KB.refl _ _) (Nat.le_trans h6.le (by omega)) (by omega)
      · rw [show decide (a.kind = 2) = false by simp [e2], if_neg e2]
        refine W_if_f rfl ?_
        obtain ⟨c2, d2, z2, h1⟩ := h2.spoil
        simp +contextual (maxSteps := 2000000) (disch := first | omega | (simp only [SZ]; first | done | omega) | (simp only [TS] at *; omega)) only [RZ, ovw, oneC, reduceAdd, reduceMul, reduceSub, reduceEqDiff, reduceLT, ↓reduceIte, Int.reduceToNat, reduceLeDiff,  d2, z2]
        exact h1.next h1.pb (KB.refl _ _) (Nat.le_trans h1.le (by omega)) (by omega)
  rintro σ w1 ⟨f0, h1⟩
  simp +contextual (maxSteps := 2000000) (disch := first | omega | (simp only [SZ]; first | done | omega) | (simp only [TS] at *; omega)) only [RZ, ovw, oneC, reduceAdd, reduceMul, reduceSub, reduceEqDiff, reduceLT, ↓reduceIte, Int.reduceToNat, reduceLeDiff,  f0]
  refine (qEnd h1 (by omega)).mono ?_
  rintro e w2 ⟨rfl, h2⟩
  refine ⟨_, rfl, ?_⟩
  try simp +contextual (maxSteps := 2000000) (disch := first | omega | (simp only [SZ]; first | done | omega) | (simp only [TS] at *; omega)) only [RZ, ovw, oneC, reduceAdd, reduceMul, reduceSub, reduceEqDiff, reduceLT, ↓reduceIte, Int.reduceToNat, reduceLeDiff,  f0]
  subst hr
  exact h2.next h2.pb (KB.refl _ _) (Nat.le_trans h2.le (by omega)) (by omega)
set_option maxHeartbeats 4000000 in
theorem pbTier_any (h : PbIn g w p) (t : Ti) (hW : Laid w) (hg : 5 ≤ g) (hl : p.X.length ≤ B) (hlo : 32768 ≤ B) (hB : B ≤ 300000000) :
    Calls Tryd.prog 19 #[.pointer (some ⟨g, 0, none⟩), .agg (encTi t).toArray] w fun e w' => e = .returned (.tuple #[]) ∧ Pst g w.heap.size 45 (encTi t) w w' (p.tier t) (B + 2000) := by
  refine calls_W (l := [_, _]) Tryd.func19 rfl _ Tryd.ntmps19 (by simp) ?_
  generalize hr : p.tier t = r
  unfold Pr.tier at hr
  dsimp only at hr
  have h0 := Pst.of_box (T := 45) (cs := encTi t) h hW hg (by decide) hl hlo
  refine W_piece fun K hK hX => ?_
  simp +contextual (maxSteps := 2000000) (disch := first | omega | (simp only [SZ]; first | done | omega) | (simp only [TS] at *; omega)) only [RZ, ovw, oneC, reduceAdd, reduceMul, reduceSub, reduceEqDiff, reduceLT, ↓reduceIte, Int.reduceToNat, reduceLeDiff]
  refine hK _ _ ?_
  clear hK hX K
  generalize w.alloc (.cells (encTi t).toArray 45) = w0 at h0 ⊢
  refine W_piece fun K hK hX => ?_
  simp +contextual (maxSteps := 2000000) (disch := first | omega | (simp only [SZ]; first | done | omega) | (simp only [TS] at *; omega)) only [RZ, ovw, oneC, reduceAdd, reduceMul, reduceSub, reduceEqDiff, reduceLT, ↓reduceIte, Int.reduceToNat, reduceLeDiff]
  refine (qBegin h0 ⟨#[116, 105, 101, 114]⟩ (by decide) (by omega)).mono ?_
  rintro e w1 ⟨rfl, h1⟩
  refine ⟨_, rfl, ?_⟩
  rw [show bs ⟨#[116, 105, 101, 114]⟩ = asc "tier" by decide +kernel] at h1
  try simp +contextual (maxSteps := 2000000) (disch := first | omega | (simp only [SZ]; first | done | omega) | (simp only [TS] at *; omega)) only [RZ, ovw, oneC, reduceAdd, reduceMul, reduceSub, reduceEqDiff, reduceLT, ↓reduceIte, Int.reduceToNat, reduceLeDiff]
  refine hK _ _ ?_
  clear hK hX K
  generalize p.begin (asc "tier") = p1 at hr h1
  clear h0
  refine W_cutS (fun σ w3 => σ 0 = .pointer (some ⟨g, 0, none⟩) ∧ σ 3 = .pointer (some ⟨w.heap.size, 0, none⟩) ∧ Pst g w.heap.size 45 (encTi t) w w3 (p1.mode t) (B + 900)) ?_ ?_
  rotate_left
  · have d3 : w1.cell? ⟨w.heap.size, 3, none⟩ = some (.int .i64 t.mode) := h1.cell 3 rfl
    unfold Pr.mode
    refine W_piece fun K hK hX => ?_
    simp +contextual (maxSteps := 2000000) (disch := first | omega | (simp only [SZ]; first | done | omega) | (simp only [TS] at *; omega)) only [RZ, ovw, oneC, reduceAdd, reduceMul, reduceSub, reduceEqDiff, reduceLT, ↓reduceIte, Int.reduceToNat, reduceLeDiff,  d3]
    refine hK _ _ ?_
    clear hK hX K d3
    rw [W_block]
    refine W_piece fun K hK hX => ?_
    simp +contextual (maxSteps := 2000000) (disch := first | omega | (simp only [SZ]; first | done | omega) | (simp only [TS] at *; omega)) only [RZ, ovw, oneC, reduceAdd, reduceMul, reduceSub, reduceEqDiff, reduceLT, ↓reduceIte, Int.reduceToNat, reduceLeDiff]
    refine hK _ _ ?_
    clear hK hX K
    by_cases e0 : t.mode = 0
    · rw [show decide (t.mode = 0) = true by simp [e0], if_pos e0]
      refine W_if_t rfl ?_
      have d0 : w1.cell? ⟨w.heap.size, 0, none⟩ = some (.int .i64 t.main) := h1.cell 0 rfl
      refine W_piece fun K hK hX => ?_
      simp +contextual (maxSteps := 2000000) (disch := first | omega | (simp only [SZ]; first | done | omega) | (simp only [TS] at *; omega)) only [RZ, ovw, oneC, reduceAdd, reduceMul, reduceSub, reduceEqDiff, reduceLT, ↓reduceIte, Int.reduceToNat, reduceLeDiff,  d0]
      refine (qHits h1 ⟨#[109, 97, 105, 110]⟩ t.main (by decide) (by omega)).mono ?_
      rintro e w2 ⟨rfl, h2⟩
      refine ⟨_, rfl, ?_⟩
      rw [show bs ⟨#[109, 97, 105, 110]⟩ = asc "main" by decide +kernel] at h2
      try simp +contextual (maxSteps := 2000000) (disch := first | omega | (simp only [SZ]; first | done | omega) | (simp only [TS] at *; omega)) only [RZ, ovw, oneC, reduceAdd, reduceMul, reduceSub, reduceEqDiff, reduceLT, ↓reduceIte, Int.reduceToNat, reduceLeDiff,  d0]
      refine hK _ _ ?_
      clear hK hX K
      have d1 : w2.cell? ⟨w.heap.size, 1, none⟩ = some (.int .i64 t.bonus) := h2.cell 1 rfl
      refine W_piece fun K hK hX => ?_
      simp +contextual (maxSteps := 2000000) (disch := first | omega | (simp only [SZ]; first | done | omega) | (simp only [TS] at *; omega)) only [RZ, ovw, oneC, reduceAdd, reduceMul, reduceSub, reduceEqDiff, reduceLT, ↓reduceIte, Int.reduceToNat, reduceLeDiff,  d1]
      refine (qHits h2 ⟨#[98, 111, 110, 117, 115]⟩ t.bonus (by decide) (by omega)).mono ?_
      rintro e w3 ⟨rfl, h3⟩
      refine ⟨_, rfl, ?_⟩
      rw [show bs ⟨#[98, 111, 110, 117, 115]⟩ = asc "bonus" by decide +kernel] at h3
      try simp +contextual (maxSteps := 2000000) (disch := first | omega | (simp only [SZ]; first | done | omega) | (simp only [TS] at *; omega)) only [RZ, ovw, oneC, reduceAdd, reduceMul, reduceSub, reduceEqDiff, reduceLT, ↓reduceIte, Int.reduceToNat, reduceLeDiff,  d1]
      refine hK _ _ ?_
      clear hK hX K
      have d2 : w3.cell? ⟨w.heap.size, 2, none⟩ = some (.int .i64 t.extra) := h3.cell 2 rfl
      simp +contextual (maxSteps := 2000000) (disch := first | omega | (simp only [SZ]; first | done | omega) | (simp only [TS] at *; omega)) only [RZ, ovw, oneC, reduceAdd, reduceMul, reduceSub, reduceEqDiff, reduceLT, ↓reduceIte, Int.reduceToNat, reduceLeDiff,  d2]
      refine (qHits h3 ⟨#[101, 120, 116, 114, 97]⟩ t.extra (by decide) (by omega)).mono ?_
      rintro e w4 ⟨rfl, h4⟩
      refine ⟨_, rfl, ?_⟩
      rw [show bs ⟨#[101, 120, 116, 114, 97]⟩ = asc "extra" by decide +kernel] at h4
      try simp +contextual (maxSteps := 2000000) (disch := first | omega | (simp only [SZ]; first | done | omega) | (simp only [TS] at *; omega)) only [RZ, ovw, oneC, reduceAdd, reduceMul, reduceSub, reduceEqDiff, reduceLT, ↓reduceIte, Int.reduceToNat, reduceLeDiff,  d2]
      exact h4.next h4.pb (KB.refl _ _) (Nat.le_trans h4.le (by omega)) (by omega)
    rw [show decide (t.mode = 0) = false by simp [e0], if_neg e0]
    refine W_if_f rfl ?_
    refine W_cutS (fun σ w3 => σ 0 = .pointer (some ⟨g, 0, none⟩) ∧ σ 3 = .pointer (some ⟨w.heap.size, 0, none⟩) ∧ σ 7 = .int .i64 t.mode ∧ w3 = w1 ∧ σ 25 = .bool (decide (t.mode = 1 ∨ t.mode = 2))) ?_ ?_
    rotate_left
    · refine W_piece fun K hK hX => ?_
      simp +contextual (maxSteps := 2000000) (disch := first | omega | (simp only [SZ]; first | done | omega) | (simp only [TS] at *; omega)) only [RZ, ovw, oneC, reduceAdd, reduceMul, reduceSub, reduceEqDiff, reduceLT, ↓reduceIte, Int.reduceToNat, reduceLeDiff]
      refine hK _ _ ?_
      clear hK hX K
      by_cases e1 : t.mode = 1
      · rw [show decide (t.mode = 1) = true by simp [e1]]
        refine W_if_t rfl ?_
        rw [show decide (t.mode = 1 ∨ t.mode = 2) = true by simp [e1]]
        simp +contextual (maxSteps := 2000000) (disch := first | omega | (simp only [SZ]; first | done | omega) | (simp only [TS] at *; omega)) only [RZ, ovw, oneC, reduceAdd, reduceMul, reduceSub, reduceEqDiff, reduceLT, ↓reduceIte, Int.reduceToNat, reduceLeDiff]
      · rw [show decide (t.mode = 1) = false by simp [e1]]
        refine W_if_f rfl ?_
        rw [show decide (t.mode = 1 ∨ t.mode = 2) = decide (t.mode = 2) by simp [e1]]
        simp +contextual (maxSteps := 2000000) (disch := first | omega | (simp only [SZ]; first | done | omega) | (simp only [TS] at *; omega)) only [RZ, ovw, oneC, reduceAdd, reduceMul, reduceSub, reduceEqDiff, reduceLT, ↓reduceIte, Int.reduceToNat, reduceLeDiff]
    rintro σ w3 ⟨f0, f3, f7, rfl, f25⟩
    by_cases e1 : t.mode = 1 ∨ t.mode = 2
    · rw [if_pos e1]
      rw [show decide (t.mode = 1 ∨ t.mode = 2) = true by simpa using e1] at f25
      refine W_if_t (by simp +contextual (maxSteps := 2000000) (disch := first | omega | (simp only [SZ]; first | done | omega) | (simp only [TS] at *; omega)) only [RZ, ovw, oneC, reduceAdd, reduceMul, reduceSub, reduceEqDiff, reduceLT, ↓reduceIte, Int.reduceToNat, reduceLeDiff,  f25]) ?_
      have h1 := h1
      have h3 := h1
      have d0 : w3.cell? ⟨w.heap.size, 0, none⟩ = some (.int .i64 t.main) := h3.cell 0 rfl
      have d1 : w3.cell? ⟨w.heap.size, 1, none⟩ = some (.int .i64 t.bonus) := h3.cell 1 rfl
      have d2 : w3.cell? ⟨w.heap.size, 2, none⟩ = some (.int .i64 t.extra) := h3.cell 2 rfl
      refine W_piece fun K hK hX => ?_
      simp +contextual (maxSteps := 2000000) (disch := first | omega | (simp only [SZ]; first | done | omega) | (simp only [TS] at *; omega)) only [RZ, ovw, oneC, reduceAdd, reduceMul, reduceSub, reduceEqDiff, reduceLT, ↓reduceIte, Int.reduceToNat, reduceLeDiff,  f0, f3, d0, d1, d2]
      refine (qReq h3 (decide (t.main = 0) && decide (t.bonus = 0) && decide (t.extra = 0))).mono ?_
      rintro e w4 ⟨rfl, h4⟩
      refine ⟨_, rfl, ?_⟩
      try simp +contextual (maxSteps := 2000000) (disch := first | omega | (simp only [SZ]; first | done | omega) | (simp only [TS] at *; omega)) only [RZ, ovw, oneC, reduceAdd, reduceMul, reduceSub, reduceEqDiff, reduceLT, ↓reduceIte, Int.reduceToNat, reduceLeDiff,  f0, f3, d0, d1, d2]
      refine hK _ _ ?_
      clear hK hX K
      have d3 : w4.cell? ⟨w.heap.size, 3, none⟩ = some (.int .i64 t.mode) := h4.cell 3 rfl
      refine W_piece fun K hK hX => ?_
      simp +contextual (maxSteps := 2000000) (disch := first | omega | (simp only [SZ]; first | done | omega) | (simp only [TS] at *; omega)) only [RZ, ovw, oneC, reduceAdd, reduceMul, reduceSub, reduceEqDiff, reduceLT, ↓reduceIte, Int.reduceToNat, reduceLeDiff,  f3, d3]
      refine hK _ _ ?_
      clear hK hX K
      by_cases e2 : t.mode = 1
      · rw [show decide (t.mode = 1) = true by simp [e2], if_pos e2]
        refine W_if_t rfl ?_
        simp +contextual (maxSteps := 2000000) (disch := first | omega | (simp only [SZ]; first | done | omega) | (simp only [TS] at *; omega)) only [RZ, ovw, oneC, reduceAdd, reduceMul, reduceSub, reduceEqDiff, reduceLT, ↓reduceIte, Int.reduceToNat, reduceLeDiff,  f0]
        refine (qWord h4 ⟨#[101, 120, 97, 99, 116]⟩ (by decide) (by omega)).mono ?_
        rintro e w5 ⟨rfl, h5⟩
        refine ⟨_, rfl, ?_⟩
        rw [show bs ⟨#[101, 120, 97, 99, 116]⟩ = asc "exact" by decide +kernel] at h5
        try simp +contextual (maxSteps := 2000000) (disch := first | omega | (simp only [SZ]; first | done | omega) | (simp only [TS] at *; omega)) only [RZ, ovw, oneC, reduceAdd, reduceMul, reduceSub, reduceEqDiff, reduceLT, ↓reduceIte, Int.reduceToNat, reduceLeDiff,  f0]
        simp +contextual (maxSteps := 2000000) (disch := first | omega | (simp only [SZ]; first | done | omega) | (simp only [TS] at *; omega)) only [RZ, ovw, oneC, reduceAdd, reduceMul, reduceSub, reduceEqDiff, reduceLT, ↓reduceIte, Int.reduceToNat, reduceLeDiff,  f0, f3]
        exact h5.next h5.pb (KB.refl _ _) (Nat.le_trans h5.le (by omega)) (by omega)
      · rw [show decide (t.mode = 1) = false by simp [e2], if_neg e2]
        refine W_if_f rfl ?_
        simp +contextual (maxSteps := 2000000) (disch := first | omega | (simp only [SZ]; first | done | omega) | (simp only [TS] at *; omega)) only [RZ, ovw, oneC, reduceAdd, reduceMul, reduceSub, reduceEqDiff, reduceLT, ↓reduceIte, Int.reduceToNat, reduceLeDiff,  f0]
        refine (qWord h4 ⟨#[98, 111, 120]⟩ (by decide) (by omega)).mono ?_
        rintro e w5 ⟨rfl, h5⟩
        refine ⟨_, rfl, ?_⟩
        rw [show bs ⟨#[98, 111, 120]⟩ = asc "box" by decide +kernel] at h5
        try simp +contextual (maxSteps := 2000000) (disch := first | omega | (simp only [SZ]; first | done | omega) | (simp only [TS] at *; omega)) only [RZ, ovw, oneC, reduceAdd, reduceMul, reduceSub, reduceEqDiff, reduceLT, ↓reduceIte, Int.reduceToNat, reduceLeDiff,  f0]
        simp +contextual (maxSteps := 2000000) (disch := first | omega | (simp only [SZ]; first | done | omega) | (simp only [TS] at *; omega)) only [RZ, ovw, oneC, reduceAdd, reduceMul, reduceSub, reduceEqDiff, reduceLT, ↓reduceIte, Int.reduceToNat, reduceLeDiff,  f0, f3]
        exact h5.next h5.pb (KB.refl _ _) (Nat.le_trans h5.le (by omega)) (by omega)
    rw [if_neg e1]
    rw [show decide (t.mode = 1 ∨ t.mode = 2) = false by simpa using e1] at f25
    refine W_if_f (by simp +contextual (maxSteps := 2000000) (disch := first | omega | (simp only [SZ]; first | done | omega) | (simp only [TS] at *; omega)) only [RZ, ovw, oneC, reduceAdd, reduceMul, reduceSub, reduceEqDiff, reduceLT, ↓reduceIte, Int.reduceToNat, reduceLeDiff,  f25]) ?_
    clear f25
    refine W_cutS (fun σ w4 => σ 0 = .pointer (some ⟨g, 0, none⟩) ∧ σ 3 = .pointer (some ⟨w.heap.size, 0, none⟩) ∧ w4 = w3 ∧ σ 52 = .bool (decide (t.mode = 3 ∨ t.mode = 4))) ?_ ?_
    rotate_left
    · refine W_piece fun K hK hX => ?_
      simp +contextual (maxSteps := 2000000) (disch := first | omega | (simp only [SZ]; first | done | omega) | (simp only [TS] at *; omega)) only [RZ, ovw, oneC, reduceAdd, reduceMul, reduceSub, reduceEqDiff, reduceLT, ↓reduceIte, Int.reduceToNat, reduceLeDiff,  f7]
      refine hK _ _ ?_
      clear hK hX K
      by_cases e1 : t.mode = 3
      · rw [show decide (t.mode = 3) = true by simp [e1]]
        refine W_if_t rfl ?_
        rw [show decide (t.mode = 3 ∨ t.mode = 4) = true by simp [e1]]
        simp +contextual (maxSteps := 2000000) (disch := first | omega | (simp only [SZ]; first | done | omega) | (simp only [TS] at *; omega)) only [RZ, ovw, oneC, reduceAdd, reduceMul, reduceSub, reduceEqDiff, reduceLT, ↓reduceIte, Int.reduceToNat, reduceLeDiff,  f0, f3]
      · rw [show decide (t.mode = 3) = false by simp [e1]]
        refine W_if_f rfl ?_
        rw [show decide (t.mode = 3 ∨ t.mode = 4) = decide (t.mode = 4) by simp [e1]]
        simp +contextual (maxSteps := 2000000) (disch := first | omega | (simp only [SZ]; first | done | omega) | (simp only [TS] at *; omega)) only [RZ, ovw, oneC, reduceAdd, reduceMul, reduceSub, reduceEqDiff, reduceLT, ↓reduceIte, Int.reduceToNat, reduceLeDiff,  f0, f3, f7]
    clear f0 f3 f7
    rintro σ w4 ⟨f0, f3, rfl, f52⟩
    have h4 := h1
    by_cases e3 : t.mode = 3 ∨ t.mode = 4
    · rw [if_pos e3]
      rw [show decide (t.mode = 3 ∨ t.mode = 4) = true by simpa using e3] at f52
      refine W_if_t (by simp +contextual (maxSteps := 2000000) (disch := first | omega | (simp only [SZ]; first | done | omega) | (simp only [TS] at *; omega)) only [RZ, ovw, oneC, reduceAdd, reduceMul, reduceSub, reduceEqDiff, reduceLT, ↓reduceIte, Int.reduceToNat, reduceLeDiff,  f52]) ?_
      have d1 : w4.cell? ⟨w.heap.size, 1, none⟩ = some (.int .i64 t.bonus) := h4.cell 1 rfl
      have d2 : w4.cell? ⟨w.heap.size, 2, none⟩ = some (.int .i64 t.extra) := h4.cell 2 rfl
      refine W_piece fun K hK hX => ?_
      simp +contextual (maxSteps := 2000000) (disch := first | omega | (simp only [SZ]; first | done | omega) | (simp only [TS] at *; omega)) only [RZ, ovw, oneC, reduceAdd, reduceMul, reduceSub, reduceEqDiff, reduceLT, ↓reduceIte, Int.reduceToNat, reduceLeDiff,  f0, f3, d1, d2]
      refine (qReq h4 (decide (t.bonus = 0) && decide (t.extra = 0))).mono ?_
      rintro e w5 ⟨rfl, h5⟩
      refine ⟨_, rfl, ?_⟩
      try simp +contextual (maxSteps := 2000000) (disch := first | omega | (simp only [SZ]; first | done | omega) | (simp only [TS] at *; omega)) only [RZ, ovw, oneC, reduceAdd, reduceMul, reduceSub, reduceEqDiff, reduceLT, ↓reduceIte, Int.reduceToNat, reduceLeDiff,  f0, f3, d1, d2]
      refine hK _ _ ?_
      clear hK hX K
      have d3 : w5.cell? ⟨w.heap.size, 3, none⟩ = some (.int .i64 t.mode) := h5.cell 3 rfl
      refine W_cutS (fun σ w6 => σ 0 = .pointer (some ⟨g, 0, none⟩) ∧ σ 3 = .pointer (some ⟨w.heap.size, 0, none⟩) ∧ Pst g w.heap.size 45 (encTi t) w w6 ((p1.req (decide (t.bonus = 0) && decide (t.extra = 0))).ws [if t.mode = 3 then asc "front" else asc "back"]) (B + 500)) ?_ ?_
      rotate_left
      · refine W_piece fun K hK hX => ?_
        simp +contextual (maxSteps := 2000000) (disch := first | omega | (simp only [SZ]; first | done | omega) | (simp only [TS] at *; omega)) only [RZ, ovw, oneC, reduceAdd, reduceMul, reduceSub, reduceEqDiff, reduceLT, ↓reduceIte, Int.reduceToNat, reduceLeDiff,  f3, d3]
        refine hK _ _ ?_
        clear hK hX K
        by_cases e2 : t.mode = 3
        · rw [show decide (t.mode = 3) = true by simp [e2], if_pos e2]
          refine W_if_t rfl ?_
          simp +contextual (maxSteps := 2000000) (disch := first | omega | (simp only [SZ]; first | done | omega) | (simp only [TS] at *; omega)) only [RZ, ovw, oneC, reduceAdd, reduceMul, reduceSub, reduceEqDiff, reduceLT, ↓reduceIte, Int.reduceToNat, reduceLeDiff,  f0]
          refine (qWord h5 ⟨#[102, 114, 111, 110, 116]⟩ (by decide) (by omega)).mono ?_
          rintro e w6 ⟨rfl, h6⟩
          refine ⟨_, rfl, ?_⟩
          rw [show bs ⟨#[102, 114, 111, 110, 116]⟩ = asc "front" by decide +kernel] at h6
          try simp +contextual (maxSteps := 2000000) (disch := first | omega | (simp only [SZ]; first | done | omega) | (simp only [TS] at *; omega)) only [RZ, ovw, oneC, reduceAdd, reduceMul, reduceSub, reduceEqDiff, reduceLT, ↓reduceIte, Int.reduceToNat, reduceLeDiff,  f0]
          simp +contextual (maxSteps := 2000000) (disch := first | omega | (simp only [SZ]; first | done | omega) | (simp only [TS] at *; omega)) only [RZ, ovw, oneC, reduceAdd, reduceMul, reduceSub, reduceEqDiff, reduceLT, ↓reduceIte, Int.reduceToNat, reduceLeDiff,  f0, f3]
          exact h6.next h6.pb (KB.refl _ _) (Nat.le_trans h6.le (by omega)) (by omega)
        · rw [show decide (t.mode = 3) = false by simp [e2], if_neg e2]
          refine W_if_f rfl ?_
          simp +contextual (maxSteps := 2000000) (disch := first | omega | (simp only [SZ]; first | done | omega) | (simp only [TS] at *; omega)) only [RZ, ovw, oneC, reduceAdd, reduceMul, reduceSub, reduceEqDiff, reduceLT, ↓reduceIte, Int.reduceToNat, reduceLeDiff,  f0]
          refine (qWord h5 ⟨#[98, 97, 99, 107]⟩ (by decide) (by omega)).mono ?_
          rintro e w6 ⟨rfl, h6⟩
          refine ⟨_, rfl, ?_⟩
          rw [show bs ⟨#[98, 97, 99, 107]⟩ = asc "back" by decide +kernel] at h6
          try simp +contextual (maxSteps := 2000000) (disch := first | omega | (simp only [SZ]; first | done | omega) | (simp only [TS] at *; omega)) only [RZ, ovw, oneC, reduceAdd, reduceMul, reduceSub, reduceEqDiff, reduceLT, ↓reduceIte, Int.reduceToNat, reduceLeDiff,  f0]
          simp +contextual (maxSteps := 2000000) (disch := first | omega | (simp only [SZ]; first | done | omega) | (simp only [TS] at *; omega)) only [RZ, ovw, oneC, reduceAdd, reduceMul, reduceSub, reduceEqDiff, reduceLT, ↓reduceIte, Int.reduceToNat, reduceLeDiff,  f0, f3]
          exact h6.next h6.pb (KB.refl _ _) (Nat.le_trans h6.le (by omega)) (by omega)
      clear f0 f3
      rintro σ w6 ⟨f0, f3, h6⟩
      have d0 : w6.cell? ⟨w.heap.size, 0, none⟩ = some (.int .i64 t.main) := h6.cell 0 rfl
      simp +contextual (maxSteps := 2000000) (disch := first | omega | (simp only [SZ]; first | done | omega) | (simp only [TS] at *; omega)) only [RZ, ovw, oneC, reduceAdd, reduceMul, reduceSub, reduceEqDiff, reduceLT, ↓reduceIte, Int.reduceToNat, reduceLeDiff,  f0, f3, d0]
      refine (qNum h6 t.main (by omega)).mono ?_
      rintro e w7 ⟨rfl, h7⟩
      refine ⟨_, rfl, ?_⟩
      try simp +contextual (maxSteps := 2000000) (disch := first | omega | (simp only [SZ]; first | done | omega) | (simp only [TS] at *; omega)) only [RZ, ovw, oneC, reduceAdd, reduceMul, reduceSub, reduceEqDiff, reduceLT, ↓reduceIte, Int.reduceToNat, reduceLeDiff,  f0, f3, d0]
      try simp +contextual (maxSteps := 2000000) (disch := first | omega | (simp only [SZ]; first | done | omega) | (simp only [TS] at *; omega)) only [RZ, ovw, oneC, reduceAdd, reduceMul, reduceSub, reduceEqDiff, reduceLT, ↓reduceIte, Int.reduceToNat, reduceLeDiff,  f0, f3]
      exact h7.next h7.pb (KB.refl _ _) (Nat.le_trans h7.le (by omega)) (by omega)
    rw [if_neg e3]
    rw [show decide (t.mode = 3 ∨ t.mode = 4) = false by simpa using e3] at f52
    refine W_if_f (by simp +contextual (maxSteps := 2000000) (disch := first | omega | (simp only [SZ]; first | done | omega) | (simp only [TS] at *; omega)) only [RZ, ovw, oneC, reduceAdd, reduceMul, reduceSub, reduceEqDiff, reduceLT, ↓reduceIte, Int.reduceToNat, reduceLeDiff,  f52]) ?_
    obtain ⟨c2, d2, z2, h5⟩ := h4.spoil
    simp +contextual (maxSteps := 2000000) (disch := first | omega | (simp only [SZ]; first | done | omega) | (simp only [TS] at *; omega)) only [RZ, ovw, oneC, reduceAdd, reduceMul, reduceSub, reduceEqDiff, reduceLT, ↓reduceIte, Int.reduceToNat, reduceLeDiff,  f0, f3, d2, z2]
    exact h5.next h5.pb (KB.refl _ _) (Nat.le_trans h5.le (by omega)) (by omega)
  clear h1
  generalize p1.mode t = p2 at hr ⊢
  rintro σ w1 ⟨f0, f3, h1⟩
  refine W_cutS (fun σ w3 => σ 0 = .pointer (some ⟨g, 0, none⟩) ∧ σ 3 = .pointer (some ⟨w.heap.size, 0, none⟩) ∧ Pst g w.heap.size 45 (encTi t) w w3 (if t.kind = 1 then p2.ws [asc "fixed"] else if t.kind = 2 then p2.ws [asc "share"] else if t.kind = 3 then p2.ws [asc "jackpot"] else ⟨p2.X, true⟩) (B + 1400)) ?_ ?_
  rotate_left
  · have d4 : w1.cell? ⟨w.heap.size, 4, none⟩ = some (.int .i64 t.kind) := h1.cell 4 rfl
    refine W_piece fun K hK hX => ?_
    simp +contextual (maxSteps := 2000000) (disch := first | omega | (simp only [SZ]; first | done | omega) | (simp only [TS] at *; omega)) only [RZ, ovw, oneC, reduceAdd, reduceMul, reduceSub, reduceEqDiff, reduceLT, ↓reduceIte, Int.reduceToNat, reduceLeDiff,  f0, f3, d4]
    refine hK _ _ ?_
    clear hK hX K d4
    rw [W_block]
    refine W_piece fun K hK hX => ?_
    simp +contextual (maxSteps := 2000000) (disch := first | omega | (simp only [SZ]; first | done | omega) | (simp only [TS] at *; omega)) only [RZ, ovw, oneC, reduceAdd, reduceMul, reduceSub, reduceEqDiff, reduceLT, ↓reduceIte, Int.reduceToNat, reduceLeDiff]
    refine hK _ _ ?_
    clear hK hX K
    by_cases e1 : t.kind = 1
    · rw [show decide (t.kind = 1) = true by simp [e1], if_pos e1]
      refine W_if_t rfl ?_
      simp +contextual (maxSteps := 2000000) (disch := first | omega | (simp only [SZ]; first | done | omega) | (simp only [TS] at *; omega)) only [RZ, ovw, oneC, reduceAdd, reduceMul, reduceSub, reduceEqDiff, reduceLT, ↓reduceIte, Int.reduceToNat, reduceLeDiff,  f0]
      refine (qWord h1 ⟨#[102, 105, 120, 101, 100]⟩ (by decide) (by omega)).mono ?_
      rintro e w2 ⟨rfl, h2⟩
      refine ⟨_, rfl, ?_⟩
      rw [show bs ⟨#[102, 105, 120, 101, 100]⟩ = asc "fixed" by decide +kernel] at h2
      try simp +contextual (maxSteps := 2000000) (disch := first | omega | (simp only [SZ]; first | done | omega) | (simp only [TS] at *; omega)) only [RZ, ovw, oneC, reduceAdd, reduceMul, reduceSub, reduceEqDiff, reduceLT, ↓reduceIte, Int.reduceToNat, reduceLeDiff,  f0]
      try simp +contextual (maxSteps := 2000000) (disch := first | omega | (simp only [SZ]; first | done | omega) | (simp only [TS] at *; omega)) only [RZ, ovw, oneC, reduceAdd, reduceMul, reduceSub, reduceEqDiff, reduceLT, ↓reduceIte, Int.reduceToNat, reduceLeDiff,  f0, f3]
      exact h2.next h2.pb (KB.refl _ _) (Nat.le_trans h2.le (by omega)) (by omega)
    rw [show decide (t.kind = 1) = false by simp [e1], if_neg e1]
    refine W_if_f rfl ?_
    refine W_piece fun K hK hX => ?_
    simp +contextual (maxSteps := 2000000) (disch := first | omega | (simp only [SZ]; first | done | omega) | (simp only [TS] at *; omega)) only [RZ, ovw, oneC, reduceAdd, reduceMul, reduceSub, reduceEqDiff, reduceLT, ↓reduceIte, Int.reduceToNat, reduceLeDiff]
    refine hK _ _ ?_
    clear hK hX K
    by_cases e2 : t.kind = 2
    · rw [show decide (t.kind = 2) = true by simp [e2], if_pos e2]
      refine W_if_t rfl ?_
      simp +contextual (maxSteps := 2000000) (disch := first | omega | (simp only [SZ]; first | done | omega) | (simp only [TS] at *; omega)) only [RZ, ovw, oneC, reduceAdd, reduceMul, reduceSub, reduceEqDiff, reduceLT, ↓reduceIte, Int.reduceToNat, reduceLeDiff,  f0]
      refine (qWord h1 ⟨#[115, 104, 97, 114, 101]⟩ (by decide) (by omega)).mono ?_
      rintro e w2 ⟨rfl, h2⟩
      refine ⟨_, rfl, ?_⟩
      rw [show bs ⟨#[115, 104, 97, 114, 101]⟩ = asc "share" by decide +kernel] at h2
      try simp +contextual (maxSteps := 2000000) (disch := first | omega | (simp only [SZ]; first | done | omega) | (simp only [TS] at *; omega)) only [RZ, ovw, oneC, reduceAdd, reduceMul, reduceSub, reduceEqDiff, reduceLT, ↓reduceIte, Int.reduceToNat, reduceLeDiff,  f0]
      try simp +contextual (maxSteps := 2000000) (disch := first | omega | (simp only [SZ]; first | done | omega) | (simp only [TS] at *; omega)) only [RZ, ovw, oneC, reduceAdd, reduceMul, reduceSub, reduceEqDiff, reduceLT, ↓reduceIte, Int.reduceToNat, reduceLeDiff,  f0, f3]
      exact h2.next h2.pb (KB.refl _ _) (Nat.le_trans h2.le (by omega)) (by omega)
    rw [show decide (t.kind = 2) = false by simp [e2], if_neg e2]
    refine W_if_f rfl ?_
    refine W_piece fun K hK hX => ?_
    simp +contextual (maxSteps := 2000000) (disch := first | omega | (simp only [SZ]; first | done | omega) | (simp only [TS] at *; omega)) only [RZ, ovw, oneC, reduceAdd, reduceMul, reduceSub, reduceEqDiff, reduceLT, ↓reduceIte, Int.reduceToNat, reduceLeDiff]
    refine hK _ _ ?_
    clear hK hX K
    by_cases e3 : t.kind = 3
    · rw [show decide (t.kind = 3) = true by simp [e3], if_pos e3]
      refine W_if_t rfl ?_
      simp +contextual (maxSteps := 2000000) (disch := first | omega | (simp only [SZ]; first | done | omega) | (simp only [TS] at *; omega)) only [RZ, ovw, oneC, reduceAdd, reduceMul, reduceSub, reduceEqDiff, reduceLT, ↓reduceIte, Int.reduceToNat, reduceLeDiff,  f0]
      refine (qWord h1 ⟨#[106, 97, 99, 107, 112, 111, 116]⟩ (by decide) (by omega)).mono ?_
      rintro e w2 ⟨rfl, h2⟩
      refine ⟨_, rfl, ?_⟩
      rw [show bs ⟨#[106, 97, 99, 107, 112, 111, 116]⟩ = asc "jackpot" by decide +kernel] at h2
      try simp +contextual (maxSteps := 2000000) (disch := first | omega | (simp only [SZ]; first | done | omega) | (simp only [TS] at *; omega)) only [RZ, ovw, oneC, reduceAdd, reduceMul, reduceSub, reduceEqDiff, reduceLT, ↓reduceIte, Int.reduceToNat, reduceLeDiff,  f0]
      try simp +contextual (maxSteps := 2000000) (disch := first | omega | (simp only [SZ]; first | done | omega) | (simp only [TS] at *; omega)) only [RZ, ovw, oneC, reduceAdd, reduceMul, reduceSub, reduceEqDiff, reduceLT, ↓reduceIte, Int.reduceToNat, reduceLeDiff,  f0, f3]
      exact h2.next h2.pb (KB.refl _ _) (Nat.le_trans h2.le (by omega)) (by omega)
    rw [show decide (t.kind = 3) = false by simp [e3], if_neg e3]
    refine W_if_f rfl ?_
    obtain ⟨c2, d2, z2, h5⟩ := h1.spoil
    simp +contextual (maxSteps := 2000000) (disch := first | omega | (simp only [SZ]; first | done | omega) | (simp only [TS] at *; omega)) only [RZ, ovw, oneC, reduceAdd, reduceMul, reduceSub, reduceEqDiff, reduceLT, ↓reduceIte, Int.reduceToNat, reduceLeDiff,  f0, f3, d2, z2]
    exact h5.next h5.pb (KB.refl _ _) (Nat.le_trans h5.le (by omega)) (by omega)
  clear f0 f3 h1
  rintro σ w1 ⟨f0, f3, h1⟩
  have d5 : w1.cell? ⟨w.heap.size, 5, none⟩ = some (.int .i64 t.value) := h1.cell 5 rfl
  refine W_piece fun K hK hX => ?_
  simp +contextual (maxSteps := 2000000) (disch := first | omega | (simp only [SZ]; first | done | omega) | (simp only [TS] at *; omega)) only [RZ, ovw, oneC, reduceAdd, reduceMul, reduceSub, reduceEqDiff, reduceLT, ↓reduceIte, Int.reduceToNat, reduceLeDiff,  f0, f3, d5]
  refine (qNum h1 t.value (by omega)).mono ?_
  rintro e w2 ⟨rfl, h2⟩
  refine ⟨_, rfl, ?_⟩
  try simp +contextual (maxSteps := 2000000) (disch := first | omega | (simp only [SZ]; first | done | omega) | (simp only [TS] at *; omega)) only [RZ, ovw, oneC, reduceAdd, reduceMul, reduceSub, reduceEqDiff, reduceLT, ↓reduceIte, Int.reduceToNat, reduceLeDiff,  f0, f3, d5]
  refine hK _ _ ?_
  clear hK hX K
  simp +contextual (maxSteps := 2000000) (disch := first | omega | (simp only [SZ]; first | done | omega) | (simp only [TS] at *; omega)) only [RZ, ovw, oneC, reduceAdd, reduceMul, reduceSub, reduceEqDiff, reduceLT, ↓reduceIte, Int.reduceToNat, reduceLeDiff,  f0]
  refine (qEnd h2 (by omega)).mono ?_
  rintro e w3 ⟨rfl, h3⟩
  refine ⟨_, rfl, ?_⟩
  try simp +contextual (maxSteps := 2000000) (disch := first | omega | (simp only [SZ]; first | done | omega) | (simp only [TS] at *; omega)) only [RZ, ovw, oneC, reduceAdd, reduceMul, reduceSub, reduceEqDiff, reduceLT, ↓reduceIte, Int.reduceToNat, reduceLeDiff,  f0]
  subst hr
  exact h3.next h3.pb (KB.refl _ _) (Nat.le_trans h3.le (by omega)) (by omega)
end
end Go.Proofs.YtbdkggnajipdhaaDoor
/- Walk: the printer's text as a string. -/
namespace Go.Proofs.YtbdkggnajipdhaaDoor
open Nat (reduceAdd reduceMul reduceSub reduceEqDiff reduceLT reduceLeDiff)
open Go.RowKit
set_option maxRecDepth 100000
def vSD (P : Program) (T ty : TypeId) (u : Value) (w : World) : Result Next := (do pure (.value (← Builtin.unsafeSliceData_ #[T] ty #[u])) : Sem Next).run P w
def vUS (P : Program) (T1 T2 ty : TypeId) (u v : Value) (w : World) : Result Next := (do pure (.value (← Builtin.unsafeString_ #[T1, T2] ty #[u, v])) : Sem Next).run P w
section
variable {P : Program} {w : World} {σ : Sl} {ty : TypeId}
theorem r_sd (T : TypeId) (x : Operand) : run1 P (.call ⟨.builtin .unsafeSliceData, #[x], #[T]⟩) ty σ w = vSD P T ty (ev σ x) w := by simp [run1, execOp, resolve, invoke, builtin, vSD]
theorem r_us (T1 T2 : TypeId) (x y : Operand) : run1 P (.call ⟨.builtin .unsafeString, #[x, y], #[T1, T2]⟩) ty σ w = vUS P T1 T2 ty (ev σ x) (ev σ y) w := by simp [run1, execOp, resolve, invoke, builtin, vUS]
end
section
variable {g : Nat} {w : World} {p : Pr}
theorem pbString_any (h : PbIn g w p) (hne : p.X ≠ []) (hsz : p.X.length ≤ 1000000000) : Calls Tryd.prog 22 #[.pointer (some ⟨g, 0, none⟩)] w fun e w' => e = .returned (.string (toBA p.X)) ∧ Below g w w' := by
  refine calls_W (l := [_]) Tryd.func22 rfl _ Tryd.ntmps22 (by simp) ?_
  obtain ⟨q, A, c, h⟩ := h
  have hpos : 0 < p.X.length := List.length_pos_iff.2 hne
  obtain ⟨b, rfl, hb, hR, hc, hcm⟩ := owns_row h.own hpos
  have hlt := h.row.lt
  have c1 : w.drew.cell? ⟨g, 1, none⟩ = some (.slice (some ⟨b, 0, none⟩) p.X.length c) := h.row.cell (i := 1) rfl
  obtain ⟨inf, hi, hz⟩ := Option.map_eq_some_iff.1 (show (Tryd.prog.info? 5).map (·.size) = some 1 by kernel_rfl)
  have s1 : ∀ (w : World), vSD Tryd.prog 48 81 (.slice (some ⟨b, 0, none⟩) p.X.length c) w = .ok (.value (.pointer (some ⟨b, 0, none⟩))) w := fun w => by
    simp [vSD, Lib.run_unsafeSliceData_row (P := Tryd.prog) (w := w) #[48] 81 ⟨b, 0, none⟩ p.X.length c (by omega)]
  obtain ⟨cur, hcur, r, hr⟩ := hR
  have hlen : (p.X.map UInt8.ofNat).length = p.X.length := List.length_map ..
  have hcell : ∀ j x, (p.X.map UInt8.ofNat)[j]? = some x → w.drew.cell? ((⟨b, 0, none⟩ : Addr).add j) = some (.int .u8 x.toNat) := fun j x hx => by
    rw [List.getElem?_map] at hx
    obtain ⟨n, hn, rfl⟩ := Option.map_eq_some_iff.1 hx
    have hnl := h.small n (List.mem_of_getElem? hn)
    have := Row.cell (w := w) (g := b) (T := 5) (cs := byV p.X) ⟨cur, hcur, r, hr⟩ (i := j) (v := .int .u8 n) (by unfold byV; rw [List.getElem?_map, hn]; rfl)
    have e2 : ((⟨b, 0, none⟩ : Addr).add j) = ⟨b, j, none⟩ := by simp [Addr.add]; omega
    have c : w.drew.cell? ⟨b, j, none⟩ = _ := this
    rw [e2, c, UInt8.toNat_ofNat', Nat.mod_eq_of_lt hnl]
  have hsh : w.drew.shape? b = some (5, cur.size) := by
    show w.shape? b = _
    simp [World.shape?, hcur]
  have hcs : p.X.length ≤ cur.size := by
    have := congrArg List.length hr
    rw [List.length_append, byV_len] at this
    have h2 : cur.toList.length = cur.size := Array.length_toList
    omega
  have s2 : vUS Tryd.prog 81 3 9 (.pointer (some ⟨b, 0, none⟩)) (.int .i64 p.X.length) w.drew = .ok (.value (.string (toBA p.X))) (w.drew.freeze ⟨b, 0, none⟩ p.X.length) := by
    have := Lib.run_unsafeString_row (P := Tryd.prog) (w := w.drew) 81 3 9 5 Tryd.underlying81 (by kernel_rfl) b cur.size hsh (p.X.map UInt8.ofNat) (by simpa using hne) (by omega) (by omega) hcell
    rw [hlen] at this
    simp [vUS, this]
    rfl
  refine W_piece fun K hK hX => ?_
  simp +contextual (maxSteps := 2000000) (disch := first | omega | (simp only [SZ]; first | done | omega) | (simp only [TS] at *; omega)) only [RZ, ovw, oneC, reduceAdd, reduceMul, reduceSub, reduceEqDiff, reduceLT, ↓reduceIte, Int.reduceToNat, reduceLeDiff]
  refine hK _ _ ?_
  clear hK hX K
  refine W_piece fun K hK hX => ?_
  rw [W_draw]
  refine Raw_tail 10 MX (by kernel_rfl) ?_
  simp only [List.take_succ_cons, List.take_zero, List.drop_succ_cons, List.drop_zero]
  simp +contextual (maxSteps := 2000000) (disch := first | omega | (simp only [SZ]; first | done | omega) | (simp only [TS] at *; omega)) only [RZ, ovw, oneC, reduceAdd, reduceMul, reduceSub, reduceEqDiff, reduceLT, ↓reduceIte, Int.reduceToNat, reduceLeDiff,  c1, r_sd, s1, r_us, s2]
  refine hK _ _ ?_
  clear hK hX K
  simp +contextual (maxSteps := 2000000) (disch := first | omega | (simp only [SZ]; first | done | omega) | (simp only [TS] at *; omega)) only [RZ, ovw, oneC, reduceAdd, reduceMul, reduceSub, reduceEqDiff, reduceLT, ↓reduceIte, Int.reduceToNat, reduceLeDiff]
  exact Lib.below_freeze (below_drew (Below.refl _ w)) (by show g ≤ b; omega) _
end
end Go.Proofs.YtbdkggnajipdhaaDoor
/- Walks: the reader of a game's tokens: addon. -/
namespace Go.Proofs.YtbdkggnajipdhaaDoor
open Nat (reduceAdd reduceMul reduceSub reduceEqDiff reduceLT reduceLeDiff)
open Go.RowKit
set_option maxRecDepth 100000
theorem wordT_ok {L L' : List Tk} {s : ByteArray} (h : wordT L = .ok (s, L')) : (hdT L).kind = 1 ∧ s = (hdT L).text ∧ L' = nxT L := by
  unfold wordT at h
  split at h
  · rename_i hk; injection h with h; injection h with h1 h2; exact ⟨hk, h1.symm, h2.symm⟩
  · cases h
theorem wordT_err {L L' : List Tk} {e : Int} (h : wordT L = .error (e, L')) : ¬ (hdT L).kind = 1 ∧ e = 1 ∧ L' = L := by
  unfold wordT at h
  split at h
  · cases h
  · rename_i hk; injection h with h; injection h with h1 h2; exact ⟨hk, h1.symm, h2.symm⟩
theorem nums_len : ∀ (f : Nat) (L : List Tk), (numsT f L).2.length ≤ L.length
  | 0, L => Nat.le_refl _
  | f + 1, L => by
    unfold numsT
    cases h : numT L with
    | none => exact Nat.le_refl _
    | some a => exact Nat.le_trans (nums_len f a.2) (num_len h)
section
variable {base g gs c a : Nat} {A : Option Addr} {T : List Tk} {w : World} {G : Gm} {seen : List (List Nat)} {Va Vt : Value} {Vs : List (List Value)}
theorem drop_mono {a a' : Nat} {L : List Tk} (h : L.length ≤ (T.drop a).length) (e : L = T.drop a') (ha' : a' < T.length) (ha : a < T.length) : a ≤ a' := by
  subst e
  rw [List.length_drop, List.length_drop] at h
  omega
theorem nx_at (hT : TokOk T) (ha : a < T.length) (hk : (hdT (T.drop a)).kind ≠ 0) : a + 1 < T.length ∧ nxT (T.drop a) = T.drop (a + 1) := by
  have hst := List.getElem?_eq_getElem ha
  have hhd := hdT_drop hst
  have hl := hT.last a _ hst (by rw [← hhd]; exact hk)
  exact ⟨hl, nxT_drop hl⟩
/-- A box of the part's own is written. -/
theorem stBox {w' : World} {ga : Nat} {cs : List Value} {Ty : TypeId} (h : GmSt w base g gs A c T a G seen Va Vt Vs) (k : Kept [ga] w w') (hr : Row w ga Ty cs) (h1 : Ty ≠ 3) (hg : base ≤ ga) (hgn : ga ≠ g) (hgs : ga ≠ gs) (hva : Va.ownBlock ≠ some ga) (hvt : Vt.ownBlock ≠ some ga) : GmSt w' base g gs A c T a G seen Va Vt Vs := by
  obtain ⟨q1, q2, q3, q4, q5, q6, q7, q8, q9, q10⟩ := h
  refine ⟨q1.kept k (by simpa using Ne.symm hgn) (fun b o e => by have := q9 b o e; simp; omega), q2.kept k (by simpa using Ne.symm hgs), q3.mono fun v L hv => hv.of_blocks fun b cs' hb => k.block b hb.lt (fun hx => ?_), ?_, ?_, q6, q7, q8, q9, q10⟩
  · simp at hx
    subst hx
    obtain ⟨c1, e1, _⟩ := hr
    obtain ⟨c2, e2, _⟩ := hb
    rw [e1] at e2
    injection e2 with e2
    injection e2 with _ e2
    exact h1 e2
  · exact owns_keep q4 fun b hb => k.block b (owns_ge q4 hb).2 (fun hx => by simp at hx; subst hx; exact hva hb)
  · exact owns_keep q5 fun b hb => k.block b (owns_ge q5 hb).2 (fun hx => by simp at hx; subst hx; exact hvt hb)
theorem stSet {w0 : World} {ga i : Nat} {cs : List Value} {Ty : TypeId} {v : Value} (h : GmSt w base g gs A c T a G seen Va Vt Vs) (K : Below base w0 w) (hr : Row w ga Ty cs) (h1 : Ty ≠ 3) (hg : base ≤ ga) (hgn : ga ≠ g) (hgs : ga ≠ gs) (hva : Va.ownBlock ≠ some ga) (hvt : Vt.ownBlock ≠ some ga) (hi : i < cs.length) :
    GmSt (w.setCell ⟨ga, i, none⟩ v) base g gs A c T a G seen Va Vt Vs ∧ Below base w0 (w.setCell ⟨ga, i, none⟩ v) ∧ Row (w.setCell ⟨ga, i, none⟩ v) ga Ty (cs.set i v) :=
  ⟨stBox h ((Kept.refl [ga] w).setCell (p := ⟨ga, i, none⟩) (by simp) v) hr h1 hg hgn hgs hva hvt, K.setCell (p := ⟨ga, i, none⟩) hg v, hr.set_ hi v⟩
set_option maxHeartbeats 1000000 in
theorem paAddon_any (h : GmSt w base g gs A c T a G seen Va Vt Vs) (hT : TokOk T) : Calls Tryd.prog 70 #[.pointer (some ⟨g, 0, none⟩)] w
    (ResG base g gs A c T w (bindT (addonT (T.drop a)) fun x => .ok (({ G with addons := G.addons ++ [x.1] }, seen), x.2))) := by
  refine calls_WX (l := [_]) Tryd.func70 rfl _ Tryd.ntmps70 (by simp) ?_
  generalize hr : (bindT (addonT (T.drop a)) fun x => Except.ok (({ G with addons := G.addons ++ [x.1] }, seen), x.2)) = r
  unfold addonT at hr
  have hlt := h.pk.lt
  have hbig := hT.big
  obtain ⟨hb9, hbg, hbs, hne⟩ := h.hg
  simp +contextual (maxSteps := 2000000) (disch := first | omega | (simp only [SZ]; first | done | omega) | (simp only [TS] at *; omega)) only [PZ, RZ, ovw, oneC, reduceAdd, reduceMul, reduceSub, reduceEqDiff, reduceLT, ↓reduceIte, Int.reduceToNat, reduceLeDiff]
  refine Res.use (paWord_any h.pk hT) (fun nm a1 w1 e1 k1 p1 => ?_) (fun e L w1 e1 k1 => ?_); rotate_left
  · obtain ⟨q1, rfl, rfl⟩ := wordT_err e1
    rw [if_pos q1] at hr
    exact ResG.err hr.symm (h.keptB k1 (by simpa using hbg))
  obtain ⟨q1, rfl, q3⟩ := wordT_ok e1
  obtain ⟨l1, n1⟩ := nx_at hT hlt (by omega)
  rw [if_neg (fun h => h q1), n1] at hr
  rw [n1] at q3
  obtain rfl : a1 = a + 1 := drop_same q3.symm p1.lt l1
  have h1 := h.leaf k1 p1 (by omega)
  have K1 := h.keptB k1 (by simpa using hbg)
  generalize (hdT (T.drop a)).text = nm at *
  clear e1
  try simp +contextual (maxSteps := 2000000) (disch := first | omega | (simp only [SZ]; first | done | omega) | (simp only [TS] at *; omega)) only [PZ, RZ, ovw, oneC, reduceAdd, reduceMul, reduceSub, reduceEqDiff, reduceLT, ↓reduceIte, Int.reduceToNat, reduceLeDiff]
  have h2 := h1.below (below_alloc w1 (.cells #[Value.string nm, .int .i64 0, .int .i64 0, .slice none 0 0, .int .i64 0, .slice none 0 0] 43))
  have K2 := K1.trans ((below_alloc w1 (.cells #[Value.string nm, .int .i64 0, .int .i64 0, .slice none 0 0, .int .i64 0, .slice none 0 0] 43)).mono (by have := h1.pk.row.lt; omega))
  have r2 := Row.new w1 43 [Value.string nm, .int .i64 0, .int .i64 0, .slice none 0 0, .int .i64 0, .slice none 0 0]
  replace r2 : Row (w1.alloc (.cells #[Value.string nm, .int .i64 0, .int .i64 0, .slice none 0 0, .int .i64 0, .slice none 0 0] 43)) _ _ _ := r2
  have hgl : g < w1.heap.size := h1.pk.row.lt
  generalize hga : w1.heap.size = ga at *
  generalize w1.alloc (.cells #[Value.string nm, .int .i64 0, .int .i64 0, .slice none 0 0, .int .i64 0, .slice none 0 0] 43) = w2 at *
  refine Res.use (paTake_any 1 h2.pk hT) (fun t a2 w3 e3 k3 p3 => ?_) (fun e L w3 e3 k3 => ?_); rotate_left
  · obtain ⟨q1, rfl, rfl⟩ := takeT_err e3
    rw [if_pos q1] at hr
    exact ResG.err hr.symm (K2.trans (h2.keptB k3 (by simpa using hbg)))
  obtain ⟨u1, ht, u3⟩ := takeT_ok e3
  obtain ⟨l2, n2⟩ := nx_at hT l1 (by omega)
  rw [if_neg (fun h => h u1), n2] at hr
  rw [n2] at u3
  obtain rfl : a2 = a + 1 + 1 := drop_same u3.symm p3.lt l2
  have h3 := h2.leaf k3 p3 (by omega)
  have K3 := K2.trans (h2.keptB k3 (by simpa using hbg))
  have r3 := r2.kept k3 (by simp; omega)
  rw [← ht] at hr u1
  have hlnT : (hdT (T.drop (a + 1))).line = t.line := by rw [← ht]
  clear e3 ht
  rw [show (encTk t).toArray = #[.int .i64 t.kind, .int .i64 t.line, .int .i64 t.col, .string t.text] from rfl]
  try simp +contextual (maxSteps := 2000000) (disch := first | omega | (simp only [SZ]; first | done | omega) | (simp only [TS] at *; omega)) only [PZ, RZ, ovw, oneC, reduceAdd, reduceMul, reduceSub, reduceEqDiff, reduceLT, ↓reduceIte, Int.reduceToNat, reduceLeDiff]
  have h4 := h3.below (below_alloc w3 (.cells #[Value.int .i64 t.kind, .int .i64 t.line, .int .i64 t.col, .string t.text] 38))
  have K4 := K3.trans ((below_alloc w3 (.cells #[Value.int .i64 t.kind, .int .i64 t.line, .int .i64 t.col, .string t.text] 38)).mono (by have := h3.pk.row.lt; omega))
  have r4 := r3.alloc (.cells #[Value.int .i64 t.kind, .int .i64 t.line, .int .i64 t.col, .string t.text] 38)
  have q4 := Row.new w3 38 [Value.int .i64 t.kind, .int .i64 t.line, .int .i64 t.col, .string t.text]
  replace q4 : Row (w3.alloc (.cells #[Value.int .i64 t.kind, .int .i64 t.line, .int .i64 t.col, .string t.text] 38)) _ _ _ := q4
  generalize w3.alloc (.cells #[Value.int .i64 t.kind, .int .i64 t.line, .int .i64 t.col, .string t.text] 38) = w4 at *
  have c0 := q4.cell (i := 0) rfl
  have c1 := q4.cell (i := 1) rfl
  have c2 := q4.cell (i := 2) rfl
  have c3 := q4.cell (i := 3) rfl
  try simp +contextual (maxSteps := 2000000) (disch := first | omega | (simp only [SZ]; first | done | omega) | (simp only [TS] at *; omega)) only [PZ, RZ, ovw, oneC, reduceAdd, reduceMul, reduceSub, reduceEqDiff, reduceLT, ↓reduceIte, Int.reduceToNat, reduceLeDiff,  c3]
  have hf : bs ⟨#[102, 97, 99, 116, 111, 114]⟩ = asc "factor" := by decide +kernel
  have hs : bs ⟨#[115, 101, 114, 105, 97, 108]⟩ = asc "serial" := by decide +kernel
  refine WX_joinX (fun σ w5 => ∃ (x : Ad) (a3 : Nat) (cs : List Value), r = .ok (({ G with addons := G.addons ++ [x] }, seen), T.drop a3) ∧ a < a3 ∧ σ 0 = .pointer (some ⟨g, 0, none⟩) ∧ σ 2 = .pointer (some ⟨ga, 0, none⟩) ∧ Row w5 ga 43 cs ∧ AdC (IntsT base w5) cs x ∧ GmSt w5 base g gs A c T a3 G seen Va Vt Vs ∧ Below base w w5)
    (fun ch w5 => ResG base g gs A c T w r (.panicked ch) w5) ?_ (fun _ _ _ h => h) ?_
  · rintro σ w5 ⟨x, a3, cs, hrx, ha3, f0, f2, r5, hx, h5, K5⟩
    have hgl5 := h5.pk.row.lt
    have hra := r5.lt
    have hlt5 := h5.pk.lt
    have hva : ∀ b, Va.ownBlock = some b → b < ga := fun b hb => by have := (owns_ge h1.own hb).2; omega
    obtain ⟨vf, vs, rfl, hx1, hx2⟩ := hx
    obtain ⟨Aa, na, ca, hVa, hna⟩ : ∃ Aa na ca, Va = .slice Aa na ca ∧ na = G.addons.length := by
      rcases h5.own.2 with ⟨hv, h0⟩ | ⟨g', cap, cur, hv, _⟩
      · exact ⟨none, 0, 0, hv, h0.symm⟩
      · exact ⟨_, _, _, hv, rfl⟩
    subst hVa hna
    have hI : sliceI Tryd.prog 22 = some (43, 6, 88) := by kernel_rfl
    have p23 := h5.pk.row.cell (i := 23) rfl
    have p23z := h5.pk.row.frozen 23
    have x0 := r5.cell (i := 0) rfl
    have x1 := r5.cell (i := 1) rfl
    have x2 := r5.cell (i := 2) rfl
    have x3 := r5.cell (i := 3) rfl
    have x4 := r5.cell (i := 4) rfl
    have x5 := r5.cell (i := 5) rfl
    try simp +contextual (maxSteps := 2000000) (disch := first | omega | (simp only [SZ]; first | done | omega) | (simp only [TS] at *; omega)) only [PZ, RZ, ovw, oneC, reduceAdd, reduceMul, reduceSub, reduceEqDiff, reduceLT, ↓reduceIte, Int.reduceToNat, reduceLeDiff]
    refine RawD_np (Raw_ordX [1, 2, 3, 4, 5, 6, 7] (fun w' => w'.cell? ⟨g, 23, none⟩ = some (.slice Aa G.addons.length ca) ∧ Row w' ga 43 [.string x.name, .int .i64 x.kind, .int .i64 x.price, vf, .int .i64 x.digits, vs]) 13 rfl MX ?_)
    have h6 := h5.leaf (w' := w5.drew) (Kept.refl [g] w5).drew (h5.pk.kept (X := []) (Kept.refl [] w5).drew (by simp) (by simp)) (Nat.le_refl _)
    have K6 : Below base w w5.drew := below_drew K5
    have r6 : Row w5.drew ga 43 _ := r5
    have d23 : w5.drew.cell? _ = _ := p23
    have d23z : w5.drew.frozen? ⟨g, 23, none⟩ = false := p23z
    have hx1' := hx1.kt (KT.of_kept (Kept.refl [] w5).drew) (by simp)
    have hx2' := hx2.kt (KT.of_kept (Kept.refl [] w5).drew) (by simp)
    have hgl6 : g < w5.drew.heap.size := hgl5
    have hra6 : ga < w5.drew.heap.size := hra
    generalize w5.drew = w6 at *
    have hvf1 : vf.oneCell' = true := by obtain ⟨_, _, e, _⟩ := hx1; rw [e]; rfl
    have hvs1 : vs.oneCell' = true := by obtain ⟨_, _, e, _⟩ := hx2; rw [e]; rfl
    obtain ⟨A', c', w7, he, hown7, hb7, hs7, hk7⟩ := push2 (P := Tryd.prog) (T2 := 22) (ty := 22) (news := [.string x.name, .int .i64 x.kind, .int .i64 x.price, vf, .int .i64 x.digits, vs]) h6.own (by omega) hI rfl
      (fun u hu => by simp only [List.mem_cons, List.not_mem_nil, or_false] at hu; rcases hu with rfl | rfl | rfl | rfl | rfl | rfl <;> first | rfl | assumption) (by have := h6.fewA; omega) (by decide)
    refine OrdX_readsU (τ := ?tz) [0] 12 rfl (by kernel_rfl) (by kernel_rfl) (by kernel_rfl) noP_pan (fun w' => ?_) ?_; rotate_left
    · simp only [opsL_cons, opsL_nil, List.getElem?_toArray, List.getElem?_cons_zero, List.getElem?_cons_succ, optL_some]
      simp +contextual (maxSteps := 2000000) (disch := first | omega | (simp only [SZ]; first | done | omega) | (simp only [TS] at *; omega)) only [RZ, ovw, oneC, reduceAdd, reduceMul, reduceSub, reduceEqDiff, reduceLT, ↓reduceIte, Int.reduceToNat, reduceLeDiff,  f0]
      exact rfl
    refine OrdX_reads (τ := ?ta) [1, 2, 3, 4, 5, 6] 6 rfl (by kernel_rfl) (by kernel_rfl) noP_pan ⟨d23, r6⟩ (fun w8 h8 => ?_) ?_; rotate_left
    · obtain ⟨h8a, h8r⟩ := h8
      have x0 := h8r.cell (i := 0) rfl
      have x1 := h8r.cell (i := 1) rfl
      have x2 := h8r.cell (i := 2) rfl
      have x3 := h8r.cell (i := 3) rfl
      have x4 := h8r.cell (i := 4) rfl
      have x5 := h8r.cell (i := 5) rfl
      simp only [opsL_cons, opsL_nil, List.getElem?_toArray, List.getElem?_cons_zero, List.getElem?_cons_succ, optL_some]
      simp +contextual (maxSteps := 2000000) (disch := first | omega | (simp only [SZ]; first | done | omega) | (simp only [TS] at *; omega)) only [RZ, ovw, oneC, reduceAdd, reduceMul, reduceSub, reduceEqDiff, reduceLT, ↓reduceIte, Int.reduceToNat, reduceLeDiff,  f0, f2, h8a, x0, x1, x2, x3, x4, x5]
      exact rfl
    refine OrdX_one 7 (by kernel_rfl) rfl ?_
    simp +contextual (maxSteps := 2000000) (disch := first | omega | (simp only [SZ]; first | done | omega) | (simp only [TS] at *; omega)) only [RZ, ovw, oneC, reduceAdd, reduceMul, reduceSub, reduceEqDiff, reduceLT, ↓reduceIte, Int.reduceToNat, reduceLeDiff]
    refine ⟨⟨d23, r6.alloc _⟩, ?_⟩
    refine OrdX_chain [8, 9, 10, 11, 12] _ _ _ (by kernel_rfl) (by kernel_rfl) ?_
    simp only [opsL_cons, opsL_nil, List.getElem?_toArray, List.getElem?_cons_zero, List.getElem?_cons_succ, optL_some]
    have hb7g := hk7 g hgl6 (own_ne h6.own h6.pk.row (by decide))
    have d7 : w7.cell? ⟨g, 23, none⟩ = some (.slice Aa G.addons.length ca) := (World.cell?_of_block (w := w6) hb7g).trans d23
    have y7 : w7.frozen? ⟨g, 23, none⟩ = false := (World.frozen?_of_block (w := w6) hb7g).trans d23z
    simp +contextual (maxSteps := 2000000) (disch := first | omega | (simp only [SZ]; first | done | omega) | (simp only [TS] at *; omega)) only [RZ, ovw, oneC, reduceAdd, reduceMul, reduceSub, reduceEqDiff, reduceLT, ↓reduceIte, Int.reduceToNat, reduceLeDiff,  f0, f2, he, d7, y7]
    have hR7 := h6.pk.row.of_block hb7g
    have hS7 : SeenIn w7 gs seen := by
      obtain ⟨l, clk, hl, hk⟩ := h6.sn
      exact ⟨l, clk, (hk7 gs (Array.getElem?_eq_some_iff.1 hl).1 (own_ne_seen h6.own h6.sn)).trans hl, hk⟩
    have hI7 : ∀ {v : Value} {L : List Int}, IntsT base w6 v L → IntsT base (w7.setCell ⟨g, 23, none⟩ (.slice A' (G.addons.length + 1) c')) v L := fun hv => hv.of_blocks fun b cs hr => by
      have hbg : b ≠ g := fun e => by subst e; obtain ⟨cur, hc, _⟩ := hr; exact not_int_parser h6.pk.row _ hc _ _ rfl
      rw [Below.heap_setCell _ _ _ _ (by exact hbg)]
      exact hk7 b hr.lt (own_ne h6.own hr (by decide))
    refine ResG.ok (Va := .slice A' (G.addons.length + 1) c') (Vt := Vt) (Vs := Vs ++ [[.string x.name, .int .i64 x.kind, .int .i64 x.price, vf, .int .i64 x.digits, vs]]) hrx ((K6.trans hb7).setCell (p := ⟨g, 23, none⟩) hbg _) ?_
    refine ⟨?_, ?_, ?_, ?_, ?_, ?_, ?_, h6.days, h6.toks, h6.hg⟩
    · refine ⟨h6.pk.lt, ?_, h6.pk.off, hR7.set_ (i := 23) (by simp [gmV]) _⟩
      have hkt : Kept [g] w6 w6 := Kept.refl _ _
      intro hn
      obtain ⟨b, o, e, hb, hc⟩ := h6.pk.arr hn
      have hbb := h6.toks b o e
      refine ⟨b, o, e, by simp; omega, fun i l hl j v hv => ?_⟩
      have hne : b ≠ g := by omega
      rw [World.cell?_of_block (w := w7) (Below.heap_setCell _ _ _ _ (by exact hne)), World.cell?_of_block (w := w6) (hb7.block b hbb)]
      exact hc i l hl j v hv
    · obtain ⟨l, clk, hl, hk⟩ := hS7
      exact ⟨l, clk, (Below.heap_setCell _ _ _ _ (by exact hne)).trans hl, hk⟩
    · exact (h6.ads.mono fun v L hv => hI7 hv).snoc ⟨vf, vs, rfl, hI7 hx1', hI7 hx2'⟩
    · have := owns_keep (w' := w7.setCell ⟨g, 23, none⟩ (.slice A' (G.addons.length + 1) c')) hown7 (fun b hb => Below.heap_setCell _ _ _ _ (by
        intro e
        rw [show b = g from e] at hb
        exact own_ne hown7 hR7 (by decide) hb))
      rw [List.length_append, List.flatten_append]
      simpa using this
    · refine owns_keep h6.tis fun b hb => ?_
      have hbg : b ≠ g := fun e => own_ne h6.tis h6.pk.row (by decide) (e ▸ hb)
      rw [Below.heap_setCell _ _ _ _ (by exact hbg)]
      exact hk7 b (owns_ge h6.tis hb).2 (own_ne_own h6.own h6.tis (by decide) hb)
    · rw [List.length_append]; have := h.fewA; simp; omega
    · exact h6.fewT
  · have hgn : g ≠ ga := by omega
    have hgsl := h1.sn.lt
    have hva : Va.ownBlock ≠ some ga := fun hb => by have := (owns_ge h1.own hb).2; omega
    have hvt : Vt.ownBlock ≠ some ga := fun hb => by have := (owns_ge h1.tis hb).2; omega
    by_cases hx : t.text = ⟨#[102, 97, 99, 116, 111, 114]⟩
    · have e1 : (t.text = ⟨#[102, 97, 99, 116, 111, 114]⟩) = True := eq_true hx
      rw [hx, hf, if_pos rfl] at hr
      simp +contextual (maxSteps := 2000000) (disch := first | omega | (simp only [SZ]; first | done | omega) | (simp only [TS] at *; omega)) only [PZ, RZ, ovw, oneC, reduceAdd, reduceMul, reduceSub, reduceEqDiff, reduceLT, ↓reduceIte, Int.reduceToNat, reduceLeDiff,  e1]
      refine WX_if_t rfl ?_
      have z1 := r4.cell (i := 1) rfl
      have z1z := r4.frozen 1
      simp +contextual (maxSteps := 2000000) (disch := first | omega | (simp only [SZ]; first | done | omega) | (simp only [TS] at *; omega)) only [PZ, RZ, ovw, oneC, reduceAdd, reduceMul, reduceSub, reduceEqDiff, reduceLT, ↓reduceIte, Int.reduceToNat, reduceLeDiff,  z1, z1z]
      obtain ⟨h5, K5, r5⟩ := stSet (v := .int .i64 1) (i := 1) h4 K4 r4 (by decide) (by omega) (by omega) (by omega) hva hvt (by simp)
      replace r5 : Row (w4.setCell ⟨ga, 1, none⟩ (.int .i64 1)) ga 43 [Value.string nm, .int .i64 1, .int .i64 0, .slice none 0 0, .int .i64 0, .slice none 0 0] := r5
      generalize w4.setCell ⟨ga, 1, none⟩ (.int .i64 1) = w5 at *
      refine Res.use (paAny_any h5.pk hT) (fun x1 a6 w6 e6 k6 p6 => ?_) (fun e L w6 e6 k6 => ?_); rotate_left
      · obtain ⟨q, rfl, rfl⟩ := anyT_err e6
        rw [q] at hr
        exact ResG.err hr.symm (K5.trans (h5.keptB k6 (by simpa using hbg)))
      have q6 := anyT_ok e6
      rw [q6] at hr
      dsimp only [thenT] at hr
      have m6 := drop_mono (num_len q6) rfl p6.lt h5.pk.lt
      have h6 := h5.leaf k6 p6 m6
      have K6 := K5.trans (h5.keptB k6 (by simpa using hbg))
      have r6 := r5.kept k6 (by simp; omega)
      have z2 := r6.cell (i := 2) rfl
      have z2z := r6.frozen 2
      try simp +contextual (maxSteps := 2000000) (disch := first | omega | (simp only [SZ]; first | done | omega) | (simp only [TS] at *; omega)) only [PZ, RZ, ovw, oneC, reduceAdd, reduceMul, reduceSub, reduceEqDiff, reduceLT, ↓reduceIte, Int.reduceToNat, reduceLeDiff,  z2, z2z]
      obtain ⟨h7, K7, r7⟩ := stSet (v := .int .i64 x1) (i := 2) h6 K6 r6 (by decide) (by omega) (by omega) (by omega) hva hvt (by simp)
      replace r7 : Row (w6.setCell ⟨ga, 2, none⟩ (.int .i64 x1)) ga 43 [Value.string nm, .int .i64 1, .int .i64 x1, .slice none 0 0, .int .i64 0, .slice none 0 0] := r7
      generalize w6.setCell ⟨ga, 2, none⟩ (.int .i64 x1) = w7 at *
      refine (paNumbers_any h7.pk hT).mono ?_
      rintro e w8 ⟨k8, A8, c8, a8, rfl, q8, p8, o8⟩
      generalize hZ : numsT (T.drop a6).length (T.drop a6) = Z at *
      have m8 := drop_mono (T := T) (a := a6) (L := Z.2) (by rw [← hZ]; exact nums_len _ _) q8 p8.lt h7.pk.lt
      rw [q8] at hr
      have h8 := h7.leaf k8 p8 m8
      have K8 := K7.trans (h7.keptB k8 (by simpa using hbg))
      have r8 := r7.kept k8 (by simp; omega)
      have i8 := IntsT.of_owns (lo := base) o8 (by have := h7.pk.row.lt; omega)
      have z3 := r8.cell (i := 3) rfl
      have z3z := r8.frozen 3
      simp +contextual (maxSteps := 2000000) (disch := first | omega | (simp only [SZ]; first | done | omega) | (simp only [TS] at *; omega)) only [PZ, RZ, ovw, oneC, reduceAdd, reduceMul, reduceSub, reduceEqDiff, reduceLT, ↓reduceIte, Int.reduceToNat, reduceLeDiff,  z3, z3z]
      obtain ⟨h9, K9, r9⟩ := stSet (v := .slice A8 Z.1.length c8) (i := 3) h8 K8 r8 (by decide) (by omega) (by omega) (by omega) hva hvt (by simp)
      have i9 := i8.of_blocks (w' := w8.setCell ⟨ga, 3, none⟩ (.slice A8 Z.1.length c8)) (fun b cs hb => Below.heap_setCell _ _ _ _ (by
        intro e
        have e : b = ga := e
        subst e
        obtain ⟨c1, e1, _⟩ := r8
        obtain ⟨c2, e2, _⟩ := hb
        rw [e1] at e2
        injection e2 with e2
        injection e2 with _ e2
        exact absurd e2 (by decide)))
      exact ⟨_, a8, _, hr.symm, by omega, r9, ⟨_, _, rfl, i9, IntsT.nil _⟩, h9, K9⟩
    · have e1 : (t.text = ⟨#[102, 97, 99, 116, 111, 114]⟩) = False := eq_false hx
      rw [if_neg (fun h => hx (bs_inj (h.trans hf.symm)))] at hr
      simp +contextual (maxSteps := 2000000) (disch := first | omega | (simp only [SZ]; first | done | omega) | (simp only [TS] at *; omega)) only [PZ, RZ, ovw, oneC, reduceAdd, reduceMul, reduceSub, reduceEqDiff, reduceLT, ↓reduceIte, Int.reduceToNat, reduceLeDiff,  e1]
      refine WX_if_f rfl ?_
      by_cases hy : t.text = ⟨#[115, 101, 114, 105, 97, 108]⟩
      · have e2 : (t.text = ⟨#[115, 101, 114, 105, 97, 108]⟩) = True := eq_true hy
        rw [hy, hs, if_pos rfl] at hr
        simp +contextual (maxSteps := 2000000) (disch := first | omega | (simp only [SZ]; first | done | omega) | (simp only [TS] at *; omega)) only [PZ, RZ, ovw, oneC, reduceAdd, reduceMul, reduceSub, reduceEqDiff, reduceLT, ↓reduceIte, Int.reduceToNat, reduceLeDiff,  e2]
        refine WX_if_t rfl ?_
        have z1 := r4.cell (i := 1) rfl
        have z1z := r4.frozen 1
        simp +contextual (maxSteps := 2000000) (disch := first | omega | (simp only [SZ]; first | done | omega) | (simp only [TS] at *; omega)) only [PZ, RZ, ovw, oneC, reduceAdd, reduceMul, reduceSub, reduceEqDiff, reduceLT, ↓reduceIte, Int.reduceToNat, reduceLeDiff,  z1, z1z]
        obtain ⟨h5, K5, r5⟩ := stSet (v := .int .i64 2) (i := 1) h4 K4 r4 (by decide) (by omega) (by omega) (by omega) hva hvt (by simp)
        replace r5 : Row (w4.setCell ⟨ga, 1, none⟩ (.int .i64 2)) ga 43 [Value.string nm, .int .i64 2, .int .i64 0, .slice none 0 0, .int .i64 0, .slice none 0 0] := r5
        generalize w4.setCell ⟨ga, 1, none⟩ (.int .i64 2) = w5 at *
        refine Res.use (paAny_any h5.pk hT) (fun x1 a6 w6 e6 k6 p6 => ?_) (fun e L w6 e6 k6 => ?_); rotate_left
        · obtain ⟨q, rfl, rfl⟩ := anyT_err e6
          rw [q] at hr
          exact ResG.err hr.symm (K5.trans (h5.keptB k6 (by simpa using hbg)))
        have q6 := anyT_ok e6
        rw [q6] at hr
        dsimp only [thenT] at hr
        have m6 := drop_mono (num_len q6) rfl p6.lt h5.pk.lt
        have h6 := h5.leaf k6 p6 m6
        have K6 := K5.trans (h5.keptB k6 (by simpa using hbg))
        have r6 := r5.kept k6 (by simp; omega)
        have z2 := r6.cell (i := 2) rfl
        have z2z := r6.frozen 2
        try simp +contextual (maxSteps := 2000000) (disch := first | omega | (simp only [SZ]; first | done | omega) | (simp only [TS] at *; omega)) only [PZ, RZ, ovw, oneC, reduceAdd, reduceMul, reduceSub, reduceEqDiff, reduceLT, ↓reduceIte, Int.reduceToNat, reduceLeDiff,  z2, z2z]
        obtain ⟨h7, K7, r7⟩ := stSet (v := .int .i64 x1) (i := 2) h6 K6 r6 (by decide) (by omega) (by omega) (by omega) hva hvt (by simp)
        replace r7 : Row (w6.setCell ⟨ga, 2, none⟩ (.int .i64 x1)) ga 43 [Value.string nm, .int .i64 2, .int .i64 x1, .slice none 0 0, .int .i64 0, .slice none 0 0] := r7
        generalize w6.setCell ⟨ga, 2, none⟩ (.int .i64 x1) = w7 at *
        refine Res.use (paAny_any h7.pk hT) (fun x2 a8 w8 e8 k8 p8 => ?_) (fun e L w8 e8 k8 => ?_); rotate_left
        · obtain ⟨q, rfl, rfl⟩ := anyT_err e8
          rw [q] at hr
          exact ResG.err hr.symm (K7.trans (h7.keptB k8 (by simpa using hbg)))
        have q8 := anyT_ok e8
        rw [q8] at hr
        dsimp only at hr
        have m8 := drop_mono (num_len q8) rfl p8.lt h7.pk.lt
        have h8 := h7.leaf k8 p8 m8
        have K8 := K7.trans (h7.keptB k8 (by simpa using hbg))
        have r8 := r7.kept k8 (by simp; omega)
        have z4 := r8.cell (i := 4) rfl
        have z4z := r8.frozen 4
        try simp +contextual (maxSteps := 2000000) (disch := first | omega | (simp only [SZ]; first | done | omega) | (simp only [TS] at *; omega)) only [PZ, RZ, ovw, oneC, reduceAdd, reduceMul, reduceSub, reduceEqDiff, reduceLT, ↓reduceIte, Int.reduceToNat, reduceLeDiff,  z4, z4z]
        obtain ⟨h9, K9, r9⟩ := stSet (v := .int .i64 x2) (i := 4) h8 K8 r8 (by decide) (by omega) (by omega) (by omega) hva hvt (by simp)
        replace r9 : Row (w8.setCell ⟨ga, 4, none⟩ (.int .i64 x2)) ga 43 [Value.string nm, .int .i64 2, .int .i64 x1, .slice none 0 0, .int .i64 x2, .slice none 0 0] := r9
        generalize w8.setCell ⟨ga, 4, none⟩ (.int .i64 x2) = w9 at *
        refine (paNumbers_any h9.pk hT).mono ?_
        rintro e w10 ⟨k10, A10, c10, a10, rfl, q10, p10, o10⟩
        generalize hZ : numsT (T.drop a8).length (T.drop a8) = Z at *
        have m10 := drop_mono (T := T) (a := a8) (L := Z.2) (by rw [← hZ]; exact nums_len _ _) q10 p10.lt h9.pk.lt
        rw [q10] at hr
        have h10 := h9.leaf k10 p10 m10
        have K10 := K9.trans (h9.keptB k10 (by simpa using hbg))
        have r10 := r9.kept k10 (by simp; omega)
        have i10 := IntsT.of_owns (lo := base) o10 (by have := h9.pk.row.lt; omega)
        have z5 := r10.cell (i := 5) rfl
        have z5z := r10.frozen 5
        simp +contextual (maxSteps := 2000000) (disch := first | omega | (simp only [SZ]; first | done | omega) | (simp only [TS] at *; omega)) only [PZ, RZ, ovw, oneC, reduceAdd, reduceMul, reduceSub, reduceEqDiff, reduceLT, ↓reduceIte, Int.reduceToNat, reduceLeDiff,  z5, z5z]
        obtain ⟨h11, K11, r11⟩ := stSet (v := .slice A10 Z.1.length c10) (i := 5) h10 K10 r10 (by decide) (by omega) (by omega) (by omega) hva hvt (by simp)
        have i11 := i10.of_blocks (w' := w10.setCell ⟨ga, 5, none⟩ (.slice A10 Z.1.length c10)) (fun b cs hb => Below.heap_setCell _ _ _ _ (by
          intro e
          have e : b = ga := e
          subst e
          obtain ⟨c1, e1, _⟩ := r10
          obtain ⟨c2, e2, _⟩ := hb
          rw [e1] at e2
          injection e2 with e2
          injection e2 with _ e2
          exact absurd e2 (by decide)))
        exact ⟨_, a10, _, hr.symm, by omega, r11, ⟨_, _, rfl, IntsT.nil _, i11⟩, h11, K11⟩
      · have e2 : (t.text = ⟨#[115, 101, 114, 105, 97, 108]⟩) = False := eq_false hy
        rw [if_neg (fun h => hy (bs_inj (h.trans hs.symm)))] at hr
        simp +contextual (maxSteps := 2000000) (disch := first | omega | (simp only [SZ]; first | done | omega) | (simp only [TS] at *; omega)) only [PZ, RZ, ovw, oneC, reduceAdd, reduceMul, reduceSub, reduceEqDiff, reduceLT, ↓reduceIte, Int.reduceToNat, reduceLeDiff,  e2]
        refine WX_if_f rfl ?_
        simp +contextual (maxSteps := 2000000) (disch := first | omega | (simp only [SZ]; first | done | omega) | (simp only [TS] at *; omega)) only [PZ, RZ, ovw, oneC, reduceAdd, reduceMul, reduceSub, reduceEqDiff, reduceLT, ↓reduceIte, Int.reduceToNat, reduceLeDiff,  c0, c1, c2, c3]
        refine (paFail_any g 1 t w4).mono ?_
        rintro e w5 ⟨rfl, hB5⟩
        rw [Ends_pan]
        have := ResG.err (base := base) (g := g) (gs := gs) (A := A) (c := c) (T := T) hr.symm (K4.trans (hB5.mono (by have := h4.pk.row.lt; omega)))
        rw [hlnT] at this
        exact this
end
end Go.Proofs.YtbdkggnajipdhaaDoor
