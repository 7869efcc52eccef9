/- Texts laid one behind the other: PaH, PaI, PaJ. Each says at its head what it proves. -/
import Derived.Test.YtbdkggnajipdhaaDoorRtBkZ10
import Derived.Tactics
import Derived.Tactics2
import Derived.WideLaws
set_option linter.unusedSimpArgs false
/- Walks: the reader of a game's tokens: simple, item. -/
namespace Go.Proofs.YtbdkggnajipdhaaDoor
open Nat (reduceAdd reduceMul reduceSub reduceEqDiff reduceLT reduceLeDiff)
open Go.RowKit
set_option maxRecDepth 100000
set_option maxHeartbeats 1000000 in
theorem simple_any (g o : Nat) (s : ByteArray) (w : World) : Calls Tryd.prog 72 #[.pointer (some ⟨g, o, none⟩), .string s] w fun e w' => e = .returned (.pointer ((simpleI (bs s)).map fun i => ⟨g, o + (i + 1), none⟩)) ∧ w = w' := by
  refine calls_W (l := [_, _]) Tryd.func72 rfl _ Tryd.ntmps72 (by simp) ?_
  generalize hr : (Value.pointer ((simpleI (bs s)).map fun i => ⟨g, o + (i + 1), none⟩)) = r
  refine W_piece fun K hK hX => ?_
  simp +contextual (maxSteps := 2000000) (disch := first | omega | (simp only [SZ]; first | done | omega) | (simp only [TS] at *; omega)) only [RZ, ovw, oneC, reduceAdd, reduceMul, reduceSub, reduceEqDiff, reduceLT, ↓reduceIte, Int.reduceToNat, reduceLeDiff]
  refine hK _ _ ?_
  clear hK hX K
  rw [W_seq]
  refine W_piece fun K hK hX => ?_
  simp +contextual (maxSteps := 2000000) (disch := first | omega | (simp only [SZ]; first | done | omega) | (simp only [TS] at *; omega)) only [RZ, ovw, oneC, reduceAdd, reduceMul, reduceSub, reduceEqDiff, reduceLT, ↓reduceIte, Int.reduceToNat, reduceLeDiff]
  refine hK _ _ ?_
  clear hK hX K
  rw [W_block]
  have b0 : bs ⟨#[101, 120, 116, 114, 97]⟩ = asc "extra" := by decide +kernel
  have b1 : bs ⟨#[112, 114, 105, 99, 101]⟩ = asc "price" := by decide +kernel
  have b2 : bs ⟨#[100, 114, 97, 119, 115]⟩ = asc "draws" := by decide +kernel
  have b3 : bs ⟨#[115, 121, 115, 116, 101, 109]⟩ = asc "system" := by decide +kernel
  have b4 : bs ⟨#[99, 108, 111, 115, 101]⟩ = asc "close" := by decide +kernel
  have b5 : bs ⟨#[99, 97, 110, 99, 101, 108]⟩ = asc "cancel" := by decide +kernel
  have b6 : bs ⟨#[101, 120, 112, 105, 114, 121]⟩ = asc "expiry" := by decide +kernel
  have b7 : bs ⟨#[112, 111, 111, 108]⟩ = asc "pool" := by decide +kernel
  have b8 : bs ⟨#[114, 101, 115, 101, 114, 118, 101]⟩ = asc "reserve" := by decide +kernel
  have b9 : bs ⟨#[114, 111, 117, 110, 100]⟩ = asc "round" := by decide +kernel
  have b10 : bs ⟨#[99, 97, 112]⟩ = asc "cap" := by decide +kernel
  have b11 : bs ⟨#[114, 111, 108, 108, 115]⟩ = asc "rolls" := by decide +kernel
  refine W_piece fun K hK hX => ?_
  by_cases x0 : s = ⟨#[101, 120, 116, 114, 97]⟩
  · have e1 : (s = ⟨#[101, 120, 116, 114, 97]⟩) = True := eq_true x0
    simp +contextual (maxSteps := 2000000) (disch := first | omega | (simp only [SZ]; first | done | omega) | (simp only [TS] at *; omega)) only [RZ, ovw, oneC, reduceAdd, reduceMul, reduceSub, reduceEqDiff, reduceLT, ↓reduceIte, Int.reduceToNat, reduceLeDiff,  e1]
    refine hK _ _ ?_
    clear hK hX K
    refine W_if_t rfl ?_
    have hp : simpleI (bs s) = some 6 := by rw [x0, b0]; decide +kernel
    rw [hp] at hr
    simp +contextual (maxSteps := 2000000) (disch := first | omega | (simp only [SZ]; first | done | omega) | (simp only [TS] at *; omega)) only [RZ, ovw, oneC, reduceAdd, reduceMul, reduceSub, reduceEqDiff, reduceLT, ↓reduceIte, Int.reduceToNat, reduceLeDiff]
    exact congrArg Ending.returned hr
  have e20 : (s = ⟨#[101, 120, 116, 114, 97]⟩) = False := eq_false x0
  simp +contextual (maxSteps := 2000000) (disch := first | omega | (simp only [SZ]; first | done | omega) | (simp only [TS] at *; omega)) only [RZ, ovw, oneC, reduceAdd, reduceMul, reduceSub, reduceEqDiff, reduceLT, ↓reduceIte, Int.reduceToNat, reduceLeDiff,  e20]
  refine hK _ _ ?_
  clear hK hX K
  refine W_if_f rfl ?_
  refine W_piece fun K hK hX => ?_
  by_cases x1 : s = ⟨#[112, 114, 105, 99, 101]⟩
  · have e1 : (s = ⟨#[112, 114, 105, 99, 101]⟩) = True := eq_true x1
    simp +contextual (maxSteps := 2000000) (disch := first | omega | (simp only [SZ]; first | done | omega) | (simp only [TS] at *; omega)) only [RZ, ovw, oneC, reduceAdd, reduceMul, reduceSub, reduceEqDiff, reduceLT, ↓reduceIte, Int.reduceToNat, reduceLeDiff,  e1]
    refine hK _ _ ?_
    clear hK hX K
    refine W_if_t rfl ?_
    have hp : simpleI (bs s) = some 1 := by rw [x1, b1]; decide +kernel
    rw [hp] at hr
    simp +contextual (maxSteps := 2000000) (disch := first | omega | (simp only [SZ]; first | done | omega) | (simp only [TS] at *; omega)) only [RZ, ovw, oneC, reduceAdd, reduceMul, reduceSub, reduceEqDiff, reduceLT, ↓reduceIte, Int.reduceToNat, reduceLeDiff]
    exact congrArg Ending.returned hr
  have e21 : (s = ⟨#[112, 114, 105, 99, 101]⟩) = False := eq_false x1
  simp +contextual (maxSteps := 2000000) (disch := first | omega | (simp only [SZ]; first | done | omega) | (simp only [TS] at *; omega)) only [RZ, ovw, oneC, reduceAdd, reduceMul, reduceSub, reduceEqDiff, reduceLT, ↓reduceIte, Int.reduceToNat, reduceLeDiff,  e21]
  refine hK _ _ ?_
  clear hK hX K
  refine W_if_f rfl ?_
  refine W_piece fun K hK hX => ?_
  by_cases x2 : s = ⟨#[100, 114, 97, 119, 115]⟩
  · have e1 : (s = ⟨#[100, 114, 97, 119, 115]⟩) = True := eq_true x2
    simp +contextual (maxSteps := 2000000) (disch := first | omega | (simp only [SZ]; first | done | omega) | (simp only [TS] at *; omega)) only [RZ, ovw, oneC, reduceAdd, reduceMul, reduceSub, reduceEqDiff, reduceLT, ↓reduceIte, Int.reduceToNat, reduceLeDiff,  e1]
    refine hK _ _ ?_
    clear hK hX K
    refine W_if_t rfl ?_
    have hp : simpleI (bs s) = some 7 := by rw [x2, b2]; decide +kernel
    rw [hp] at hr
    simp +contextual (maxSteps := 2000000) (disch := first | omega | (simp only [SZ]; first | done | omega) | (simp only [TS] at *; omega)) only [RZ, ovw, oneC, reduceAdd, reduceMul, reduceSub, reduceEqDiff, reduceLT, ↓reduceIte, Int.reduceToNat, reduceLeDiff]
    exact congrArg Ending.returned hr
  have e22 : (s = ⟨#[100, 114, 97, 119, 115]⟩) = False := eq_false x2
  simp +contextual (maxSteps := 2000000) (disch := first | omega | (simp only [SZ]; first | done | omega) | (simp only [TS] at *; omega)) only [RZ, ovw, oneC, reduceAdd, reduceMul, reduceSub, reduceEqDiff, reduceLT, ↓reduceIte, Int.reduceToNat, reduceLeDiff,  e22]
  refine hK _ _ ?_
  clear hK hX K
  refine W_if_f rfl ?_
  refine W_piece fun K hK hX => ?_
  by_cases x3 : s = ⟨#[115, 121, 115, 116, 101, 109]⟩
  · have e1 : (s = ⟨#[115, 121, 115, 116, 101, 109]⟩) = True := eq_true x3
    simp +contextual (maxSteps := 2000000) (disch := first | omega | (simp only [SZ]; first | done | omega) | (simp only [TS] at *; omega)) only [RZ, ovw, oneC, reduceAdd, reduceMul, reduceSub, reduceEqDiff, reduceLT, ↓reduceIte, Int.reduceToNat, reduceLeDiff,  e1]
    refine hK _ _ ?_
    clear hK hX K
    refine W_if_t rfl ?_
    have hp : simpleI (bs s) = some 8 := by rw [x3, b3]; decide +kernel
    rw [hp] at hr
    simp +contextual (maxSteps := 2000000) (disch := first | omega | (simp only [SZ]; first | done | omega) | (simp only [TS] at *; omega)) only [RZ, ovw, oneC, reduceAdd, reduceMul, reduceSub, reduceEqDiff, reduceLT, ↓reduceIte, Int.reduceToNat, reduceLeDiff]
    exact congrArg Ending.returned hr
  have e23 : (s = ⟨#[115, 121, 115, 116, 101, 109]⟩) = False := eq_false x3
  simp +contextual (maxSteps := 2000000) (disch := first | omega | (simp only [SZ]; first | done | omega) | (simp only [TS] at *; omega)) only [RZ, ovw, oneC, reduceAdd, reduceMul, reduceSub, reduceEqDiff, reduceLT, ↓reduceIte, Int.reduceToNat, reduceLeDiff,  e23]
  refine hK _ _ ?_
  clear hK hX K
  refine W_if_f rfl ?_
  refine W_piece fun K hK hX => ?_
  by_cases x4 : s = ⟨#[99, 108, 111, 115, 101]⟩
  · have e1 : (s = ⟨#[99, 108, 111, 115, 101]⟩) = True := eq_true x4
    simp +contextual (maxSteps := 2000000) (disch := first | omega | (simp only [SZ]; first | done | omega) | (simp only [TS] at *; omega)) only [RZ, ovw, oneC, reduceAdd, reduceMul, reduceSub, reduceEqDiff, reduceLT, ↓reduceIte, Int.reduceToNat, reduceLeDiff,  e1]
    refine hK _ _ ?_
    clear hK hX K
    refine W_if_t rfl ?_
    have hp : simpleI (bs s) = some 11 := by rw [x4, b4]; decide +kernel
    rw [hp] at hr
    simp +contextual (maxSteps := 2000000) (disch := first | omega | (simp only [SZ]; first | done | omega) | (simp only [TS] at *; omega)) only [RZ, ovw, oneC, reduceAdd, reduceMul, reduceSub, reduceEqDiff, reduceLT, ↓reduceIte, Int.reduceToNat, reduceLeDiff]
    exact congrArg Ending.returned hr
  have e24 : (s = ⟨#[99, 108, 111, 115, 101]⟩) = False := eq_false x4
  simp +contextual (maxSteps := 2000000) (disch := first | omega | (simp only [SZ]; first | done | omega) | (simp only [TS] at *; omega)) only [RZ, ovw, oneC, reduceAdd, reduceMul, reduceSub, reduceEqDiff, reduceLT, ↓reduceIte, Int.reduceToNat, reduceLeDiff,  e24]
  refine hK _ _ ?_
  clear hK hX K
  refine W_if_f rfl ?_
  refine W_piece fun K hK hX => ?_
  by_cases x5 : s = ⟨#[99, 97, 110, 99, 101, 108]⟩
  · have e1 : (s = ⟨#[99, 97, 110, 99, 101, 108]⟩) = True := eq_true x5
    simp +contextual (maxSteps := 2000000) (disch := first | omega | (simp only [SZ]; first | done | omega) | (simp only [TS] at *; omega)) only [RZ, ovw, oneC, reduceAdd, reduceMul, reduceSub, reduceEqDiff, reduceLT, ↓reduceIte, Int.reduceToNat, reduceLeDiff,  e1]
    refine hK _ _ ?_
    clear hK hX K
    refine W_if_t rfl ?_
    have hp : simpleI (bs s) = some 12 := by rw [x5, b5]; decide +kernel
    rw [hp] at hr
    simp +contextual (maxSteps := 2000000) (disch := first | omega | (simp only [SZ]; first | done | omega) | (simp only [TS] at *; omega)) only [RZ, ovw, oneC, reduceAdd, reduceMul, reduceSub, reduceEqDiff, reduceLT, ↓reduceIte, Int.reduceToNat, reduceLeDiff]
    exact congrArg Ending.returned hr
  have e25 : (s = ⟨#[99, 97, 110, 99, 101, 108]⟩) = False := eq_false x5
  simp +contextual (maxSteps := 2000000) (disch := first | omega | (simp only [SZ]; first | done | omega) | (simp only [TS] at *; omega)) only [RZ, ovw, oneC, reduceAdd, reduceMul, reduceSub, reduceEqDiff, reduceLT, ↓reduceIte, Int.reduceToNat, reduceLeDiff,  e25]
  refine hK _ _ ?_
  clear hK hX K
  refine W_if_f rfl ?_
  refine W_piece fun K hK hX => ?_
  by_cases x6 : s = ⟨#[101, 120, 112, 105, 114, 121]⟩
  · have e1 : (s = ⟨#[101, 120, 112, 105, 114, 121]⟩) = True := eq_true x6
    simp +contextual (maxSteps := 2000000) (disch := first | omega | (simp only [SZ]; first | done | omega) | (simp only [TS] at *; omega)) only [RZ, ovw, oneC, reduceAdd, reduceMul, reduceSub, reduceEqDiff, reduceLT, ↓reduceIte, Int.reduceToNat, reduceLeDiff,  e1]
    refine hK _ _ ?_
    clear hK hX K
    refine W_if_t rfl ?_
    have hp : simpleI (bs s) = some 13 := by rw [x6, b6]; decide +kernel
    rw [hp] at hr
    simp +contextual (maxSteps := 2000000) (disch := first | omega | (simp only [SZ]; first | done | omega) | (simp only [TS] at *; omega)) only [RZ, ovw, oneC, reduceAdd, reduceMul, reduceSub, reduceEqDiff, reduceLT, ↓reduceIte, Int.reduceToNat, reduceLeDiff]
    exact congrArg Ending.returned hr
  have e26 : (s = ⟨#[101, 120, 112, 105, 114, 121]⟩) = False := eq_false x6
  simp +contextual (maxSteps := 2000000) (disch := first | omega | (simp only [SZ]; first | done | omega) | (simp only [TS] at *; omega)) only [RZ, ovw, oneC, reduceAdd, reduceMul, reduceSub, reduceEqDiff, reduceLT, ↓reduceIte, Int.reduceToNat, reduceLeDiff,  e26]
  refine hK _ _ ?_
  clear hK hX K
  refine W_if_f rfl ?_
  refine W_piece fun K hK hX => ?_
  by_cases x7 : s = ⟨#[112, 111, 111, 108]⟩
  · have e1 : (s = ⟨#[112, 111, 111, 108]⟩) = True := eq_true x7
    simp +contextual (maxSteps := 2000000) (disch := first | omega | (simp only [SZ]; first | done | omega) | (simp only [TS] at *; omega)) only [RZ, ovw, oneC, reduceAdd, reduceMul, reduceSub, reduceEqDiff, reduceLT, ↓reduceIte, Int.reduceToNat, reduceLeDiff,  e1]
    refine hK _ _ ?_
    clear hK hX K
    refine W_if_t rfl ?_
    have hp : simpleI (bs s) = some 14 := by rw [x7, b7]; decide +kernel
    rw [hp] at hr
    simp +contextual (maxSteps := 2000000) (disch := first | omega | (simp only [SZ]; first | done | omega) | (simp only [TS] at *; omega)) only [RZ, ovw, oneC, reduceAdd, reduceMul, reduceSub, reduceEqDiff, reduceLT, ↓reduceIte, Int.reduceToNat, reduceLeDiff]
    exact congrArg Ending.returned hr
  have e27 : (s = ⟨#[112, 111, 111, 108]⟩) = False := eq_false x7
  simp +contextual (maxSteps := 2000000) (disch := first | omega | (simp only [SZ]; first | done | omega) | (simp only [TS] at *; omega)) only [RZ, ovw, oneC, reduceAdd, reduceMul, reduceSub, reduceEqDiff, reduceLT, ↓reduceIte, Int.reduceToNat, reduceLeDiff,  e27]
  refine hK _ _ ?_
  clear hK hX K
  refine W_if_f rfl ?_
  refine W_piece fun K hK hX => ?_
  by_cases x8 : s = ⟨#[114, 101, 115, 101, 114, 118, 101]⟩
  · have e1 : (s = ⟨#[114, 101, 115, 101, 114, 118, 101]⟩) = True := eq_true x8
    simp +contextual (maxSteps := 2000000) (disch := first | omega | (simp only [SZ]; first | done | omega) | (simp only [TS] at *; omega)) only [RZ, ovw, oneC, reduceAdd, reduceMul, reduceSub, reduceEqDiff, reduceLT, ↓reduceIte, Int.reduceToNat, reduceLeDiff,  e1]
    refine hK _ _ ?_
    clear hK hX K
    refine W_if_t rfl ?_
    have hp : simpleI (bs s) = some 15 := by rw [x8, b8]; decide +kernel
    rw [hp] at hr
    simp +contextual (maxSteps := 2000000) (disch := first | omega | (simp only [SZ]; first | done | omega) | (simp only [TS] at *; omega)) only [RZ, ovw, oneC, reduceAdd, reduceMul, reduceSub, reduceEqDiff, reduceLT, ↓reduceIte, Int.reduceToNat, reduceLeDiff]
    exact congrArg Ending.returned hr
  have e28 : (s = ⟨#[114, 101, 115, 101, 114, 118, 101]⟩) = False := eq_false x8
  simp +contextual (maxSteps := 2000000) (disch := first | omega | (simp only [SZ]; first | done | omega) | (simp only [TS] at *; omega)) only [RZ, ovw, oneC, reduceAdd, reduceMul, reduceSub, reduceEqDiff, reduceLT, ↓reduceIte, Int.reduceToNat, reduceLeDiff,  e28]
  refine hK _ _ ?_
  clear hK hX K
  refine W_if_f rfl ?_
  refine W_piece fun K hK hX => ?_
  by_cases x9 : s = ⟨#[114, 111, 117, 110, 100]⟩
  · have e1 : (s = ⟨#[114, 111, 117, 110, 100]⟩) = True := eq_true x9
    simp +contextual (maxSteps := 2000000) (disch := first | omega | (simp only [SZ]; first | done | omega) | (simp only [TS] at *; omega)) only [RZ, ovw, oneC, reduceAdd, reduceMul, reduceSub, reduceEqDiff, reduceLT, ↓reduceIte, Int.reduceToNat, reduceLeDiff,  e1]
    refine hK _ _ ?_
    clear hK hX K
    refine W_if_t rfl ?_
    have hp : simpleI (bs s) = some 16 := by rw [x9, b9]; decide +kernel
    rw [hp] at hr
    simp +contextual (maxSteps := 2000000) (disch := first | omega | (simp only [SZ]; first | done | omega) | (simp only [TS] at *; omega)) only [RZ, ovw, oneC, reduceAdd, reduceMul, reduceSub, reduceEqDiff, reduceLT, ↓reduceIte, Int.reduceToNat, reduceLeDiff]
    exact congrArg Ending.returned hr
  have e29 : (s = ⟨#[114, 111, 117, 110, 100]⟩) = False := eq_false x9
  simp +contextual (maxSteps := 2000000) (disch := first | omega | (simp only [SZ]; first | done | omega) | (simp only [TS] at *; omega)) only [RZ, ovw, oneC, reduceAdd, reduceMul, reduceSub, reduceEqDiff, reduceLT, ↓reduceIte, Int.reduceToNat, reduceLeDiff,  e29]
  refine hK _ _ ?_
  clear hK hX K
  refine W_if_f rfl ?_
  refine W_piece fun K hK hX => ?_
  by_cases x10 : s = ⟨#[99, 97, 112]⟩
  · have e1 : (s = ⟨#[99, 97, 112]⟩) = True := eq_true x10
    simp +contextual (maxSteps := 2000000) (disch := first | omega | (simp only [SZ]; first | done | omega) | (simp only [TS] at *; omega)) only [RZ, ovw, oneC, reduceAdd, reduceMul, reduceSub, reduceEqDiff, reduceLT, ↓reduceIte, Int.reduceToNat, reduceLeDiff,  e1]
    refine hK _ _ ?_
    clear hK hX K
    refine W_if_t rfl ?_
    have hp : simpleI (bs s) = some 17 := by rw [x10, b10]; decide +kernel
    rw [hp] at hr
    simp +contextual (maxSteps := 2000000) (disch := first | omega | (simp only [SZ]; first | done | omega) | (simp only [TS] at *; omega)) only [RZ, ovw, oneC, reduceAdd, reduceMul, reduceSub, reduceEqDiff, reduceLT, ↓reduceIte, Int.reduceToNat, reduceLeDiff]
    exact congrArg Ending.returned hr
  have e30 : (s = ⟨#[99, 97, 112]⟩) = False := eq_false x10
  simp +contextual (maxSteps := 2000000) (disch := first | omega | (simp only [SZ]; first | done | omega) | (simp only [TS] at *; omega)) only [RZ, ovw, oneC, reduceAdd, reduceMul, reduceSub, reduceEqDiff, reduceLT, ↓reduceIte, Int.reduceToNat, reduceLeDiff,  e30]
  refine hK _ _ ?_
  clear hK hX K
  refine W_if_f rfl ?_
  refine W_piece fun K hK hX => ?_
  by_cases x11 : s = ⟨#[114, 111, 108, 108, 115]⟩
  · have e1 : (s = ⟨#[114, 111, 108, 108, 115]⟩) = True := eq_true x11
    simp +contextual (maxSteps := 2000000) (disch := first | omega | (simp only [SZ]; first | done | omega) | (simp only [TS] at *; omega)) only [RZ, ovw, oneC, reduceAdd, reduceMul, reduceSub, reduceEqDiff, reduceLT, ↓reduceIte, Int.reduceToNat, reduceLeDiff,  e1]
    refine hK _ _ ?_
    clear hK hX K
    refine W_if_t rfl ?_
    have hp : simpleI (bs s) = some 18 := by rw [x11, b11]; decide +kernel
    rw [hp] at hr
    simp +contextual (maxSteps := 2000000) (disch := first | omega | (simp only [SZ]; first | done | omega) | (simp only [TS] at *; omega)) only [RZ, ovw, oneC, reduceAdd, reduceMul, reduceSub, reduceEqDiff, reduceLT, ↓reduceIte, Int.reduceToNat, reduceLeDiff]
    exact congrArg Ending.returned hr
  have e31 : (s = ⟨#[114, 111, 108, 108, 115]⟩) = False := eq_false x11
  simp +contextual (maxSteps := 2000000) (disch := first | omega | (simp only [SZ]; first | done | omega) | (simp only [TS] at *; omega)) only [RZ, ovw, oneC, reduceAdd, reduceMul, reduceSub, reduceEqDiff, reduceLT, ↓reduceIte, Int.reduceToNat, reduceLeDiff,  e31]
  refine hK _ _ ?_
  clear hK hX K
  refine W_if_f rfl ?_
  have hp : simpleI (bs s) = none := by unfold simpleI; rw [if_neg (fun h => x0 (bs_inj (h.trans b0.symm))), if_neg (fun h => x1 (bs_inj (h.trans b1.symm))), if_neg (fun h => x2 (bs_inj (h.trans b2.symm))), if_neg (fun h => x3 (bs_inj (h.trans b3.symm))), if_neg (fun h => x4 (bs_inj (h.trans b4.symm))), if_neg (fun h => x5 (bs_inj (h.trans b5.symm))), if_neg (fun h => x6 (bs_inj (h.trans b6.symm))), if_neg (fun h => x7 (bs_inj (h.trans b7.symm))), if_neg (fun h => x8 (bs_inj (h.trans b8.symm))), if_neg (fun h => x9 (bs_inj (h.trans b9.symm))), if_neg (fun h => x10 (bs_inj (h.trans b10.symm))), if_neg (fun h => x11 (bs_inj (h.trans b11.symm)))]
  rw [hp] at hr
  simp +contextual (maxSteps := 2000000) (disch := first | omega | (simp only [SZ]; first | done | omega) | (simp only [TS] at *; omega)) only [RZ, ovw, oneC, reduceAdd, reduceMul, reduceSub, reduceEqDiff, reduceLT, ↓reduceIte, Int.reduceToNat, reduceLeDiff]
  exact congrArg Ending.returned hr
section
variable {base g gs c a : Nat} {A : Option Addr} {T : List Tk} {w : World} {G : Gm} {seen : List (List Nat)} {Va Vt : Value} {Vs : List (List Value)}
theorem pair_len {L L' : List Tk} {x : Int × Int} (h : pairT L = .ok (x, L')) : L'.length ≤ L.length := by
  unfold pairT at h
  obtain ⟨y, h1, h⟩ := then_ok h
  obtain ⟨L2, h2, h⟩ := then_ok h
  obtain ⟨z, h3, h⟩ := then_ok h
  have := num_len h1
  have := is_len h2
  have := num_len h3
  injection h with h
  injection h with _ h
  subst h
  omega
theorem less_len {m : Int} {L : List Tk} {x : Int × List Tk} (h : lessT m L = some x) : x.2.length ≤ L.length := by
  unfold lessT at h
  cases hn : numT L with
  | none => rw [hn] at h; cases h
  | some y =>
    rw [hn] at h
    dsimp only at h
    split at h
    · injection h with h; subst h; exact num_len hn
    · cases h
theorem bind_ok {α β : Type} {x : Except (Int × List Tk) α} {f : α → Except (Int × List Tk) β} {b : β} (h : bindT x f = .ok b) : ∃ a, x = .ok a ∧ f a = .ok b := by
  cases x with
  | ok a => exact ⟨a, rfl, h⟩
  | error e => cases h
theorem days_len : ∀ (f : Nat) (L : List Tk) (d : Nat) (x : Nat × List Tk), daysT f L d = .ok x → x.2.length ≤ L.length
  | 0, L, d, x, h => by cases h
  | f + 1, L, d, x, h => by
    unfold daysT at h
    split at h
    · injection h with h; subst h; exact nx_len L
    · split at h
      · cases h
      · cases hd : dayI (bs (hdT L).text) with
        | none => rw [hd] at h; cases h
        | some i =>
          rw [hd] at h
          dsimp only at h
          split at h
          · cases h
          · exact Nat.le_trans (days_len f _ _ x h) (nx_len L)
theorem day_len {L L' : List Tk} {x : Int × Int} (h : dayT L = .ok (x, L')) : L'.length ≤ L.length := by
  unfold dayT at h
  obtain ⟨d, h0, h⟩ := bind_ok h
  obtain ⟨y, h1, h⟩ := then_ok h
  obtain ⟨L2, h2, h⟩ := then_ok h
  obtain ⟨z, h3, h⟩ := then_ok h
  have := days_len _ _ _ _ h0
  have := less_len h1
  have := is_len h2
  have := less_len h3
  injection h with h
  injection h with _ h
  subst h
  omega
theorem simpleW_lt : (simpleW.all fun w => match simpleI w with | some i => decide (i < 19) && decide (i ≠ 9) | none => true) = true := by decide +kernel
theorem simple_lt {w : List Nat} {i : Nat} (h : simpleI w = some i) : i < 19 ∧ i ≠ 9 := by
  have := List.all_eq_true.1 simpleW_lt w (simple_mem (by rw [h]; rfl))
  rw [h] at this
  simpa using this
/-- A number is set. -/
theorem GmSt.setN (h : GmSt w base g gs A c T a G seen Va Vt Vs) {i : Nat} (hi : i < 19) (h9 : i ≠ 9) (v : Int) : GmSt (w.setCell ⟨g, i + 4, none⟩ (.int .i64 v)) base g gs A c T a { G with n := putN G.n i v } seen Va Vt Vs :=
  h.step ((Kept.refl [g] w).setCell (p := ⟨g, i + 4, none⟩) (by simp) _) (h.pk.setN hi v) (Nat.le_refl _) (fun e => by
    have := h.days e
    unfold putN
    rw [if_neg (fun e => h9 e.symm)]
    exact this)
theorem GmSt.cellN (h : GmSt w base g gs A c T a G seen Va Vt Vs) {i : Nat} (hi : i < 19) : w.cell? ⟨g, i + 4, none⟩ = some (.int .i64 (G.n i)) :=
  h.pk.row.cell (i := i + 4) (by
    rw [show i + 4 = i + 1 + 1 + 1 + 1 from rfl, List.getElem?_cons_succ, List.getElem?_cons_succ, List.getElem?_cons_succ]
    exact gmV_get G Va Vt hi)
/-- once, and what stands behind it. -/
theorem paOnceG {R : Value → World → Prop} {X : List PanicEntry → World → Prop} (h : GmSt w base g gs A c T a G seen Va Vt Vs) (hT : TokOk T) (t : Tk) (s : ByteArray)
    (h1 : ∀ w', bs s ∉ seen → Kept [gs] w w' → GmSt w' base g gs A c T a G (bs s :: seen) Va Vt Vs → R (.tuple #[]) w')
    (h2 : ∀ w', bs s ∈ seen → Kept [gs] w w' → X [{ v := failV 6 t.line, recovered := false }] w') :
    Calls Tryd.prog 67 #[.pointer (some ⟨g, 0, none⟩), .string s, .agg (encTk t).toArray] w (Ends R X) := by
  refine (paOnce_any h.pk hT h.sn h.hg.2.2.2 (fun b o e => by have := h.toks b o e; have := h.hg; omega) t s).mono fun e w' he => ?_
  by_cases hin : bs s ∈ seen
  · rw [if_pos hin] at he
    obtain ⟨rfl, k⟩ := he
    exact h2 w' hin k
  · rw [if_neg hin] at he
    obtain ⟨rfl, p, sn, k⟩ := he
    exact h1 w' hin k (h.once k sn p (fun e e' => e (List.mem_cons_of_mem _ e')))
theorem putN_twice (n : Nat → Int) (i : Nat) (u v : Int) : putN (putN n i u) i v = putN n i v := by
  funext j; unfold putN; split <;> rfl
set_option maxHeartbeats 4000000 in
theorem paItem_any (h : GmSt w base g gs A c T a G seen Va Vt Vs) (hT : TokOk T) (hW : Laid w) : Calls Tryd.prog 46 #[.pointer (some ⟨g, 0, none⟩)] w (ResG base g gs A c T w (itemG (T.drop a) G seen)) := by
  refine calls_WX (l := [_]) Tryd.func46 rfl _ Tryd.ntmps46 (by simp) ?_
  generalize hr : itemG (T.drop a) G seen = r
  unfold itemG at hr
  have hlt := h.pk.lt
  have hbig := hT.big
  obtain ⟨hb9, hbg, hbs, hne⟩ := h.hg
  have hgl0 := h.pk.row.lt
  have hgs0 := h.sn.lt
  refine WX_piece fun K hK hX => ?_
  simp +contextual (maxSteps := 2000000) (disch := first | omega | (simp only [SZ]; first | done | omega) | (simp only [TS] at *; omega)) only [PZ, RZ, ovw, oneC, reduceAdd, reduceMul, reduceSub, reduceEqDiff, reduceLT, ↓reduceIte, Int.reduceToNat, reduceLeDiff]
  refine Res.use (paTake_any 1 h.pk hT) (fun t a3 w3 e3 k3 p3 => ?_) (fun e L w3 e3 k3 => ?_); rotate_left
  · obtain ⟨u1, rfl, rfl⟩ := takeT_err e3
    rw [if_pos u1] at hr
    refine hX _ _ _ (fun h => by cases h) ?_
    exact ResG.err hr.symm (h.keptB k3 (by simpa using hbg))
  obtain ⟨u1, ht, u3⟩ := takeT_ok e3
  obtain ⟨l2, n2⟩ := nx_at hT h.pk.lt (by omega)
  rw [if_neg (fun h => h u1), n2] at hr
  rw [n2] at u3
  obtain rfl : a3 = a + 1 := drop_same u3.symm p3.lt l2
  have h3 := h.leaf k3 p3 (by omega)
  have K3 := h.keptB k3 (by simpa using hbg)
  have hlnT : (hdT (T.drop a)).line = t.line := by rw [← ht]
  rw [← ht] at hr u1
  clear e3 ht
  rw [show (encTk t).toArray = #[.int .i64 t.kind, .int .i64 t.line, .int .i64 t.col, .string t.text] from rfl]
  try simp +contextual (maxSteps := 2000000) (disch := first | omega | (simp only [SZ]; first | done | omega) | (simp only [TS] at *; omega)) only [PZ, RZ, ovw, oneC, reduceAdd, reduceMul, reduceSub, reduceEqDiff, reduceLT, ↓reduceIte, Int.reduceToNat, reduceLeDiff]
  have h4 := h3.below (below_alloc w3 (.cells #[Value.int .i64 t.kind, .int .i64 t.line, .int .i64 t.col, .string t.text] 38))
  have K4 := K3.trans ((below_alloc w3 (.cells #[Value.int .i64 t.kind, .int .i64 t.line, .int .i64 t.col, .string t.text] 38)).mono (by have := h3.pk.row.lt; omega))
  have q4 := Row.new w3 38 [Value.int .i64 t.kind, .int .i64 t.line, .int .i64 t.col, .string t.text]
  replace q4 : Row (w3.alloc (.cells #[Value.int .i64 t.kind, .int .i64 t.line, .int .i64 t.col, .string t.text] 38)) _ _ _ := q4
  have hgb : g < w3.heap.size := h3.pk.row.lt
  have hgsb : gs < w3.heap.size := h3.sn.lt
  generalize hbx : w3.heap.size = bx at *
  generalize w3.alloc (.cells #[Value.int .i64 t.kind, .int .i64 t.line, .int .i64 t.col, .string t.text] 38) = w4 at *
  have c0 := q4.cell (i := 0) rfl
  have c1 := q4.cell (i := 1) rfl
  have c2 := q4.cell (i := 2) rfl
  have c3 := q4.cell (i := 3) rfl
  have hgl4 := h4.pk.row.lt
  refine hK _ _ ?_
  clear hK hX K
  refine WX_piece fun K hK hX => ?_
  simp +contextual (maxSteps := 2000000) (disch := first | omega | (simp only [SZ]; first | done | omega) | (simp only [TS] at *; omega)) only [PZ, RZ, ovw, oneC, reduceAdd, reduceMul, reduceSub, reduceEqDiff, reduceLT, ↓reduceIte, Int.reduceToNat, reduceLeDiff,  c3]
  refine hK _ _ ?_
  clear hK hX K
  refine WX_piece fun K hK hX => ?_
  simp +contextual (maxSteps := 2000000) (disch := first | omega | (simp only [SZ]; first | done | omega) | (simp only [TS] at *; omega)) only [PZ, RZ, ovw, oneC, reduceAdd, reduceMul, reduceSub, reduceEqDiff, reduceLT, ↓reduceIte, Int.reduceToNat, reduceLeDiff,  c3]
  refine hK _ _ ?_
  clear hK hX K
  rw [WX_block]
  have herr : ∀ {e : Int} {w' : World}, r = .error (e, T.drop a) → Below base w w' → ResG base g gs A c T w r (.panicked [{ v := failV e t.line, recovered := false }]) w' := fun hm hB => by
    rw [← hlnT]; exact ResG.err hm hB
  have onb : ∀ {w' : World}, Kept [gs] w4 w' → Below base w w' := fun k => K4.trans (h4.keptB k (by simpa using hbs))
  have bC : bs ⟨#[99, 104, 111, 111, 115, 101]⟩ = asc "choose" := by decide +kernel
  have bD : bs ⟨#[100, 105, 103, 105, 116, 115]⟩ = asc "digits" := by decide +kernel
  have bB : bs ⟨#[98, 111, 110, 117, 115]⟩ = asc "bonus" := by decide +kernel
  have bY : bs ⟨#[100, 97, 121, 115]⟩ = asc "days" := by decide +kernel
  have bN : bs ⟨#[97, 100, 100, 111, 110]⟩ = asc "addon" := by decide +kernel
  have bR : bs ⟨#[116, 105, 101, 114]⟩ = asc "tier" := by decide +kernel
  refine WX_cut (fun σ w5 => w5 = w4 ∧ σ 0 = .pointer (some ⟨g, 0, none⟩) ∧ σ 2 = .pointer (some ⟨bx, 0, none⟩) ∧ σ 3 = .pointer (some ⟨g, 3, none⟩) ∧ σ 11 = .string t.text ∧ σ 30 = .bool (decide (t.text = ⟨#[99, 104, 111, 111, 115, 101]⟩) || decide (t.text = ⟨#[100, 105, 103, 105, 116, 115]⟩))) ?_ ?_; rotate_left
  · refine WX_piece fun K hK hX => ?_
    by_cases x1 : t.text = ⟨#[99, 104, 111, 111, 115, 101]⟩
    · have e1 : (t.text = ⟨#[99, 104, 111, 111, 115, 101]⟩) = True := eq_true x1
      simp +contextual (maxSteps := 2000000) (disch := first | omega | (simp only [SZ]; first | done | omega) | (simp only [TS] at *; omega)) only [PZ, RZ, ovw, oneC, reduceAdd, reduceMul, reduceSub, reduceEqDiff, reduceLT, ↓reduceIte, Int.reduceToNat, reduceLeDiff,  e1]
      refine hK _ _ ?_
      clear hK hX K
      refine WX_if_t rfl ?_
      simp +contextual (maxSteps := 2000000) (disch := first | omega | (simp only [SZ]; first | done | omega) | (simp only [TS] at *; omega)) only [PZ, RZ, ovw, oneC, reduceAdd, reduceMul, reduceSub, reduceEqDiff, reduceLT, ↓reduceIte, Int.reduceToNat, reduceLeDiff,  e1, Bool.true_or]
    · have e1 : (t.text = ⟨#[99, 104, 111, 111, 115, 101]⟩) = False := eq_false x1
      simp +contextual (maxSteps := 2000000) (disch := first | omega | (simp only [SZ]; first | done | omega) | (simp only [TS] at *; omega)) only [PZ, RZ, ovw, oneC, reduceAdd, reduceMul, reduceSub, reduceEqDiff, reduceLT, ↓reduceIte, Int.reduceToNat, reduceLeDiff,  e1]
      refine hK _ _ ?_
      clear hK hX K
      refine WX_if_f rfl ?_
      simp +contextual (maxSteps := 2000000) (disch := first | omega | (simp only [SZ]; first | done | omega) | (simp only [TS] at *; omega)) only [PZ, RZ, ovw, oneC, reduceAdd, reduceMul, reduceSub, reduceEqDiff, reduceLT, ↓reduceIte, Int.reduceToNat, reduceLeDiff,  e1, Bool.false_or]
  rintro σ5 w5 ⟨rfl, g0, g2, g3, g11, g30⟩
  by_cases hcd : t.text = ⟨#[99, 104, 111, 111, 115, 101]⟩ ∨ t.text = ⟨#[100, 105, 103, 105, 116, 115]⟩
  · have hx : (decide (t.text = ⟨#[99, 104, 111, 111, 115, 101]⟩) || decide (t.text = ⟨#[100, 105, 103, 105, 116, 115]⟩)) = true := by simpa using hcd
    rw [hx] at g30
    refine WX_if_t g30 ?_
    have hcd2 : bs t.text = asc "choose" ∨ bs t.text = asc "digits" := hcd.elim (fun e => .inl (by rw [e, bC])) (fun e => .inr (by rw [e, bD]))
    rw [if_pos hcd2] at hr
    refine WX_piece fun K hK hX => ?_
    simp +contextual (maxSteps := 2000000) (disch := first | omega | (simp only [SZ]; first | done | omega) | (simp only [TS] at *; omega)) only [PZ, RZ, ovw, oneC, reduceAdd, reduceMul, reduceSub, reduceEqDiff, reduceLT, ↓reduceIte, Int.reduceToNat, reduceLeDiff,  g0, g2, g3, g11, c0, c1, c2, c3]
    refine paOnceG h4 hT t _ (fun w6 hin k6 h6 => ?_) (fun w6 hin k6 => ?_); rotate_left
    · rw [bC] at hin
      rw [if_pos hin] at hr
      refine hX _ _ _ (fun h => by cases h) ?_
      exact herr hr.symm (onb k6)
    rw [bC] at hin h6
    rw [if_neg hin] at hr
    have K6 := onb k6
    have q6 := q4.kept k6 (by simp; omega)
    try simp +contextual (maxSteps := 2000000) (disch := first | omega | (simp only [SZ]; first | done | omega) | (simp only [TS] at *; omega)) only [PZ, RZ, ovw, oneC, reduceAdd, reduceMul, reduceSub, reduceEqDiff, reduceLT, ↓reduceIte, Int.reduceToNat, reduceLeDiff,  g0, g2, g3, g11]
    refine hK _ _ ?_
    clear hK hX K
    have z0 := h6.cellN (i := 0) (by omega)
    have z0z := h6.pk.row.frozen 4
    refine WX_piece fun K hK hX => ?_
    simp +contextual (maxSteps := 2000000) (disch := first | omega | (simp only [SZ]; first | done | omega) | (simp only [TS] at *; omega)) only [PZ, RZ, ovw, oneC, reduceAdd, reduceMul, reduceSub, reduceEqDiff, reduceLT, ↓reduceIte, Int.reduceToNat, reduceLeDiff,  g0, g2, g3, g11, z0, z0z]
    have h7 := h6.setN (i := 0) (by omega) (by omega) 1
    have K7 : Below base w (w6.setCell ⟨g, 0 + 4, none⟩ (.int .i64 1)) := K6.setCell (p := ⟨g, 0 + 4, none⟩) hbg _
    have q7 := q6.far (p := ⟨g, 0 + 4, none⟩) (by show bx ≠ g; omega) (.int .i64 1)
    rw [show (0 + 4 : Nat) = 4 from rfl] at h7 K7 q7
    generalize w6.setCell ⟨g, 4, none⟩ (.int .i64 1) = w7 at *
    refine hK _ _ ?_
    clear hK hX K
    refine WX_cut (fun σ w8 => σ 0 = .pointer (some ⟨g, 0, none⟩) ∧ σ 3 = .pointer (some ⟨g, 3, none⟩) ∧ GmSt w8 base g gs A c T (a + 1) { G with n := putN G.n 0 (if bs t.text = asc "digits" then 2 else 1) } (asc "choose" :: seen) Va Vt Vs ∧ Below base w w8) ?_ ?_; rotate_left
    · have d3 := q7.cell (i := 3) rfl
      refine WX_piece fun K hK hX => ?_
      by_cases x2 : t.text = ⟨#[100, 105, 103, 105, 116, 115]⟩
      · have e2 : (t.text = ⟨#[100, 105, 103, 105, 116, 115]⟩) = True := eq_true x2
        simp +contextual (maxSteps := 2000000) (disch := first | omega | (simp only [SZ]; first | done | omega) | (simp only [TS] at *; omega)) only [PZ, RZ, ovw, oneC, reduceAdd, reduceMul, reduceSub, reduceEqDiff, reduceLT, ↓reduceIte, Int.reduceToNat, reduceLeDiff,  g0, g2, g3, g11, d3, e2]
        refine hK _ _ ?_
        clear hK hX K
        refine WX_if_t rfl ?_
        have z1 := h7.cellN (i := 0) (by omega)
        have z1z := h7.pk.row.frozen 4
        simp +contextual (maxSteps := 2000000) (disch := first | omega | (simp only [SZ]; first | done | omega) | (simp only [TS] at *; omega)) only [PZ, RZ, ovw, oneC, reduceAdd, reduceMul, reduceSub, reduceEqDiff, reduceLT, ↓reduceIte, Int.reduceToNat, reduceLeDiff,  g0, g2, g3, g11, z1, z1z]
        rw [if_pos (by rw [x2, bD])]
        have h8 := h7.setN (i := 0) (by omega) (by omega) 2
        dsimp only at h8
        rw [putN_twice] at h8
        exact ⟨h8, K7.setCell (p := ⟨g, 4, none⟩) hbg _⟩
      · have e2 : (t.text = ⟨#[100, 105, 103, 105, 116, 115]⟩) = False := eq_false x2
        simp +contextual (maxSteps := 2000000) (disch := first | omega | (simp only [SZ]; first | done | omega) | (simp only [TS] at *; omega)) only [PZ, RZ, ovw, oneC, reduceAdd, reduceMul, reduceSub, reduceEqDiff, reduceLT, ↓reduceIte, Int.reduceToNat, reduceLeDiff,  g0, g2, g3, g11, d3, e2]
        refine hK _ _ ?_
        clear hK hX K
        refine WX_if_f rfl ?_
        simp +contextual (maxSteps := 2000000) (disch := first | omega | (simp only [SZ]; first | done | omega) | (simp only [TS] at *; omega)) only [PZ, RZ, ovw, oneC, reduceAdd, reduceMul, reduceSub, reduceEqDiff, reduceLT, ↓reduceIte, Int.reduceToNat, reduceLeDiff,  g0, g2, g3, g11]
        rw [if_neg (fun h => x2 (bs_inj (h.trans bD.symm)))]
        exact ⟨h7, K7⟩
    rintro σ8 w8 ⟨f0, f3, h8, K8⟩
    simp +contextual (maxSteps := 2000000) (disch := first | omega | (simp only [SZ]; first | done | omega) | (simp only [TS] at *; omega)) only [PZ, RZ, ovw, oneC, reduceAdd, reduceMul, reduceSub, reduceEqDiff, reduceLT, ↓reduceIte, Int.reduceToNat, reduceLeDiff,  f0, f3]
    refine Res.use (paPair_any h8.pk hT) (fun x a9 w9 e9 k9 p9 => ?_) (fun e L w9 e9 k9 => ?_); rotate_left
    · rw [e9] at hr
      exact ResG.err hr.symm (K8.trans (h8.keptB k9 (by simpa using hbg)))
    have m9 := drop_mono (pair_len e9) rfl p9.lt h8.pk.lt
    rw [e9] at hr
    dsimp only [bindT] at hr
    have h9 := h8.leaf k9 p9 m9
    have K9 := K8.trans (h8.keptB k9 (by simpa using hbg))
    obtain ⟨xa, xb⟩ := x
    have y2 := h9.cellN (i := 2) (by omega)
    have y2z := h9.pk.row.frozen 6
    have y3 := h9.cellN (i := 3) (by omega)
    have y3z := h9.pk.row.frozen 7
    try simp +contextual (maxSteps := 2000000) (disch := first | omega | (simp only [SZ]; first | done | omega) | (simp only [TS] at *; omega)) only [PZ, RZ, ovw, oneC, reduceAdd, reduceMul, reduceSub, reduceEqDiff, reduceLT, ↓reduceIte, Int.reduceToNat, reduceLeDiff,  f0, f3, y2, y2z, y3, y3z]
    have h10 := (h9.setN (i := 2) (by omega) (by omega) xa).setN (i := 3) (by omega) (by omega) xb
    exact ResG.ok hr.symm ((K9.setCell (p := ⟨g, 6, none⟩) hbg _).setCell (p := ⟨g, 7, none⟩) hbg _) h10
  have hx : (decide (t.text = ⟨#[99, 104, 111, 111, 115, 101]⟩) || decide (t.text = ⟨#[100, 105, 103, 105, 116, 115]⟩)) = false := by simpa using hcd
  rw [hx] at g30
  refine WX_if_f g30 ?_
  have hcd2 : ¬ (bs t.text = asc "choose" ∨ bs t.text = asc "digits") := fun h => hcd (h.elim (fun e => .inl (bs_inj (e.trans bC.symm))) (fun e => .inr (bs_inj (e.trans bD.symm))))
  rw [if_neg hcd2] at hr
  refine WX_piece fun K hK hX => ?_
  by_cases xB : t.text = ⟨#[98, 111, 110, 117, 115]⟩
  · have e1 : (t.text = ⟨#[98, 111, 110, 117, 115]⟩) = True := eq_true xB
    simp +contextual (maxSteps := 2000000) (disch := first | omega | (simp only [SZ]; first | done | omega) | (simp only [TS] at *; omega)) only [PZ, RZ, ovw, oneC, reduceAdd, reduceMul, reduceSub, reduceEqDiff, reduceLT, ↓reduceIte, Int.reduceToNat, reduceLeDiff,  g0, g2, g3, g11, e1]
    refine hK _ _ ?_
    clear hK hX K
    refine WX_if_t rfl ?_
    have hb : bs t.text = asc "bonus" := by rw [xB, bB]
    rw [if_pos hb] at hr
    refine WX_piece fun K hK hX => ?_
    simp +contextual (maxSteps := 2000000) (disch := first | omega | (simp only [SZ]; first | done | omega) | (simp only [TS] at *; omega)) only [PZ, RZ, ovw, oneC, reduceAdd, reduceMul, reduceSub, reduceEqDiff, reduceLT, ↓reduceIte, Int.reduceToNat, reduceLeDiff,  g0, g2, g3, g11, c0, c1, c2, c3]
    refine paOnceG h4 hT t _ (fun w6 hin k6 h6 => ?_) (fun w6 hin k6 => ?_); rotate_left
    · rw [hb] at hin
      rw [if_pos hin] at hr
      refine hX _ _ _ (fun h => by cases h) ?_
      exact herr hr.symm (onb k6)
    rw [hb] at hin h6
    rw [if_neg hin] at hr
    have K6 := onb k6
    try simp +contextual (maxSteps := 2000000) (disch := first | omega | (simp only [SZ]; first | done | omega) | (simp only [TS] at *; omega)) only [PZ, RZ, ovw, oneC, reduceAdd, reduceMul, reduceSub, reduceEqDiff, reduceLT, ↓reduceIte, Int.reduceToNat, reduceLeDiff,  g0, g2, g3, g11]
    refine hK _ _ ?_
    clear hK hX K
    simp +contextual (maxSteps := 2000000) (disch := first | omega | (simp only [SZ]; first | done | omega) | (simp only [TS] at *; omega)) only [PZ, RZ, ovw, oneC, reduceAdd, reduceMul, reduceSub, reduceEqDiff, reduceLT, ↓reduceIte, Int.reduceToNat, reduceLeDiff,  g0, g3]
    refine Res.use (paPair_any h6.pk hT) (fun x a9 w9 e9 k9 p9 => ?_) (fun e L w9 e9 k9 => ?_); rotate_left
    · rw [e9] at hr
      exact ResG.err hr.symm (K6.trans (h6.keptB k9 (by simpa using hbg)))
    have m9 := drop_mono (pair_len e9) rfl p9.lt h6.pk.lt
    rw [e9] at hr
    dsimp only [bindT] at hr
    have h9 := h6.leaf k9 p9 m9
    have K9 := K6.trans (h6.keptB k9 (by simpa using hbg))
    obtain ⟨xa, xb⟩ := x
    have y2 := h9.cellN (i := 4) (by omega)
    have y2z := h9.pk.row.frozen 8
    have y3 := h9.cellN (i := 5) (by omega)
    have y3z := h9.pk.row.frozen 9
    try simp +contextual (maxSteps := 2000000) (disch := first | omega | (simp only [SZ]; first | done | omega) | (simp only [TS] at *; omega)) only [PZ, RZ, ovw, oneC, reduceAdd, reduceMul, reduceSub, reduceEqDiff, reduceLT, ↓reduceIte, Int.reduceToNat, reduceLeDiff,  g0, g3, y2, y2z, y3, y3z]
    have h10 := (h9.setN (i := 4) (by omega) (by omega) xa).setN (i := 5) (by omega) (by omega) xb
    exact ResG.ok hr.symm ((K9.setCell (p := ⟨g, 8, none⟩) hbg _).setCell (p := ⟨g, 9, none⟩) hbg _) h10
  have eB : (t.text = ⟨#[98, 111, 110, 117, 115]⟩) = False := eq_false xB
  simp +contextual (maxSteps := 2000000) (disch := first | omega | (simp only [SZ]; first | done | omega) | (simp only [TS] at *; omega)) only [PZ, RZ, ovw, oneC, reduceAdd, reduceMul, reduceSub, reduceEqDiff, reduceLT, ↓reduceIte, Int.reduceToNat, reduceLeDiff,  g0, g2, g3, g11, eB]
  refine hK _ _ ?_
  clear hK hX K
  refine WX_if_f rfl ?_
  rw [if_neg (fun h => xB (bs_inj (h.trans bB.symm)))] at hr
  refine WX_piece fun K hK hX => ?_
  by_cases xY : t.text = ⟨#[100, 97, 121, 115]⟩
  · have e1 : (t.text = ⟨#[100, 97, 121, 115]⟩) = True := eq_true xY
    simp +contextual (maxSteps := 2000000) (disch := first | omega | (simp only [SZ]; first | done | omega) | (simp only [TS] at *; omega)) only [PZ, RZ, ovw, oneC, reduceAdd, reduceMul, reduceSub, reduceEqDiff, reduceLT, ↓reduceIte, Int.reduceToNat, reduceLeDiff,  g0, g2, g3, g11, e1]
    refine hK _ _ ?_
    clear hK hX K
    refine WX_if_t rfl ?_
    have hb : bs t.text = asc "days" := by rw [xY, bY]
    rw [if_pos hb] at hr
    refine WX_piece fun K hK hX => ?_
    simp +contextual (maxSteps := 2000000) (disch := first | omega | (simp only [SZ]; first | done | omega) | (simp only [TS] at *; omega)) only [PZ, RZ, ovw, oneC, reduceAdd, reduceMul, reduceSub, reduceEqDiff, reduceLT, ↓reduceIte, Int.reduceToNat, reduceLeDiff,  g0, g2, g3, g11, c0, c1, c2, c3]
    refine paOnceG h4 hT t _ (fun w6 hin k6 h6 => ?_) (fun w6 hin k6 => ?_); rotate_left
    · rw [hb] at hin
      rw [if_pos hin] at hr
      refine hX _ _ _ (fun h => by cases h) ?_
      exact herr hr.symm (onb k6)
    rw [hb] at hin h6
    rw [if_neg hin] at hr
    have K6 := onb k6
    try simp +contextual (maxSteps := 2000000) (disch := first | omega | (simp only [SZ]; first | done | omega) | (simp only [TS] at *; omega)) only [PZ, RZ, ovw, oneC, reduceAdd, reduceMul, reduceSub, reduceEqDiff, reduceLT, ↓reduceIte, Int.reduceToNat, reduceLeDiff,  g0, g2, g3, g11]
    refine hK _ _ ?_
    clear hK hX K
    simp +contextual (maxSteps := 2000000) (disch := first | omega | (simp only [SZ]; first | done | omega) | (simp only [TS] at *; omega)) only [PZ, RZ, ovw, oneC, reduceAdd, reduceMul, reduceSub, reduceEqDiff, reduceLT, ↓reduceIte, Int.reduceToNat, reduceLeDiff,  g0, g3]
    have hW6 : Laid w6 := hW.below K6 (by omega)
    refine ResQ.use (paDays_any h6.pk hT (h4.days hin) hW6 (Nat.le_refl _) (by omega)) (fun x a9 w9 e9 k9 p9 => ?_) (fun e L w9 e9 k9 => ?_); rotate_left
    · rw [e9] at hr
      exact ResG.err hr.symm (K6.trans (h6.keptB k9 (by simpa using hbg)))
    have m9 := drop_mono (day_len e9) rfl p9.lt h6.pk.lt
    rw [e9] at hr
    dsimp only [bindT] at hr
    have h9 := h6.step k9 p9 m9 (fun e => absurd List.mem_cons_self e)
    try simp +contextual (maxSteps := 2000000) (disch := first | omega | (simp only [SZ]; first | done | omega) | (simp only [TS] at *; omega)) only [PZ, RZ, ovw, oneC, reduceAdd, reduceMul, reduceSub, reduceEqDiff, reduceLT, ↓reduceIte, Int.reduceToNat, reduceLeDiff,  g0, g3]
    exact ResG.ok hr.symm (K6.trans (h6.keptB k9 (by simpa using hbg))) h9
  have eY : (t.text = ⟨#[100, 97, 121, 115]⟩) = False := eq_false xY
  simp +contextual (maxSteps := 2000000) (disch := first | omega | (simp only [SZ]; first | done | omega) | (simp only [TS] at *; omega)) only [PZ, RZ, ovw, oneC, reduceAdd, reduceMul, reduceSub, reduceEqDiff, reduceLT, ↓reduceIte, Int.reduceToNat, reduceLeDiff,  g0, g2, g3, g11, eY]
  refine hK _ _ ?_
  clear hK hX K
  refine WX_if_f rfl ?_
  rw [if_neg (fun h => xY (bs_inj (h.trans bY.symm)))] at hr
  refine WX_piece fun K hK hX => ?_
  by_cases xN : t.text = ⟨#[97, 100, 100, 111, 110]⟩
  · have e1 : (t.text = ⟨#[97, 100, 100, 111, 110]⟩) = True := eq_true xN
    simp +contextual (maxSteps := 2000000) (disch := first | omega | (simp only [SZ]; first | done | omega) | (simp only [TS] at *; omega)) only [PZ, RZ, ovw, oneC, reduceAdd, reduceMul, reduceSub, reduceEqDiff, reduceLT, ↓reduceIte, Int.reduceToNat, reduceLeDiff,  g0, g2, g3, g11, e1]
    refine hK _ _ ?_
    clear hK hX K
    refine WX_if_t rfl ?_
    have hb : bs t.text = asc "addon" := by rw [xN, bN]
    rw [if_pos hb] at hr
    simp +contextual (maxSteps := 2000000) (disch := first | omega | (simp only [SZ]; first | done | omega) | (simp only [TS] at *; omega)) only [PZ, RZ, ovw, oneC, reduceAdd, reduceMul, reduceSub, reduceEqDiff, reduceLT, ↓reduceIte, Int.reduceToNat, reduceLeDiff,  g0, g3]
    refine ResG.use (paAddon_any h4 hT) (fun G' seen' a' Va' Vt' Vs' w6 e6 k6 h6 => ?_) (fun e L w6 e6 k6 => ?_); rotate_left
    · rw [hr] at e6
      exact ResG.err e6 (K4.trans k6)
    rw [hr] at e6
    try simp +contextual (maxSteps := 2000000) (disch := first | omega | (simp only [SZ]; first | done | omega) | (simp only [TS] at *; omega)) only [PZ, RZ, ovw, oneC, reduceAdd, reduceMul, reduceSub, reduceEqDiff, reduceLT, ↓reduceIte, Int.reduceToNat, reduceLeDiff,  g0, g3]
    exact ResG.ok e6 (K4.trans k6) h6
  have eN : (t.text = ⟨#[97, 100, 100, 111, 110]⟩) = False := eq_false xN
  simp +contextual (maxSteps := 2000000) (disch := first | omega | (simp only [SZ]; first | done | omega) | (simp only [TS] at *; omega)) only [PZ, RZ, ovw, oneC, reduceAdd, reduceMul, reduceSub, reduceEqDiff, reduceLT, ↓reduceIte, Int.reduceToNat, reduceLeDiff,  g0, g2, g3, g11, eN]
  refine hK _ _ ?_
  clear hK hX K
  refine WX_if_f rfl ?_
  rw [if_neg (fun h => xN (bs_inj (h.trans bN.symm)))] at hr
  refine WX_piece fun K hK hX => ?_
  by_cases xR : t.text = ⟨#[116, 105, 101, 114]⟩
  · have e1 : (t.text = ⟨#[116, 105, 101, 114]⟩) = True := eq_true xR
    simp +contextual (maxSteps := 2000000) (disch := first | omega | (simp only [SZ]; first | done | omega) | (simp only [TS] at *; omega)) only [PZ, RZ, ovw, oneC, reduceAdd, reduceMul, reduceSub, reduceEqDiff, reduceLT, ↓reduceIte, Int.reduceToNat, reduceLeDiff,  g0, g2, g3, g11, e1]
    refine hK _ _ ?_
    clear hK hX K
    refine WX_if_t rfl ?_
    have hb : bs t.text = asc "tier" := by rw [xR, bR]
    rw [if_pos hb] at hr
    simp +contextual (maxSteps := 2000000) (disch := first | omega | (simp only [SZ]; first | done | omega) | (simp only [TS] at *; omega)) only [PZ, RZ, ovw, oneC, reduceAdd, reduceMul, reduceSub, reduceEqDiff, reduceLT, ↓reduceIte, Int.reduceToNat, reduceLeDiff,  g0, g3]
    refine ResG.use (paTier_any h4 hT) (fun G' seen' a' Va' Vt' Vs' w6 e6 k6 h6 => ?_) (fun e L w6 e6 k6 => ?_); rotate_left
    · rw [hr] at e6
      exact ResG.err e6 (K4.trans k6)
    rw [hr] at e6
    try simp +contextual (maxSteps := 2000000) (disch := first | omega | (simp only [SZ]; first | done | omega) | (simp only [TS] at *; omega)) only [PZ, RZ, ovw, oneC, reduceAdd, reduceMul, reduceSub, reduceEqDiff, reduceLT, ↓reduceIte, Int.reduceToNat, reduceLeDiff,  g0, g3]
    exact ResG.ok e6 (K4.trans k6) h6
  have eR : (t.text = ⟨#[116, 105, 101, 114]⟩) = False := eq_false xR
  simp +contextual (maxSteps := 2000000) (disch := first | omega | (simp only [SZ]; first | done | omega) | (simp only [TS] at *; omega)) only [PZ, RZ, ovw, oneC, reduceAdd, reduceMul, reduceSub, reduceEqDiff, reduceLT, ↓reduceIte, Int.reduceToNat, reduceLeDiff,  g0, g2, g3, g11, eR]
  refine hK _ _ ?_
  clear hK hX K
  refine WX_if_f rfl ?_
  rw [if_neg (fun h => xR (bs_inj (h.trans bR.symm)))] at hr
  refine WX_piece fun K hK hX => ?_
  simp +contextual (maxSteps := 2000000) (disch := first | omega | (simp only [SZ]; first | done | omega) | (simp only [TS] at *; omega)) only [PZ, RZ, ovw, oneC, reduceAdd, reduceMul, reduceSub, reduceEqDiff, reduceLT, ↓reduceIte, Int.reduceToNat, reduceLeDiff,  g0, g2, g3, g11, c3]
  refine (simple_any g 3 t.text w5).mono ?_
  rintro e w6 ⟨rfl, rfl⟩
  cases hsi : simpleI (bs t.text) with
  | none =>
    rw [hsi] at hr
    dsimp only [Option.map] at hr ⊢
    simp +contextual (maxSteps := 2000000) (disch := first | omega | (simp only [SZ]; first | done | omega) | (simp only [TS] at *; omega)) only [PZ, RZ, ovw, oneC, reduceAdd, reduceMul, reduceSub, reduceEqDiff, reduceLT, ↓reduceIte, Int.reduceToNat, reduceLeDiff,  g0, g2, g3, g11]
    refine hK _ _ ?_
    clear hK hX K
    rw [WX_seq]
    refine WX_piece fun K hK hX => ?_
    simp +contextual (maxSteps := 2000000) (disch := first | omega | (simp only [SZ]; first | done | omega) | (simp only [TS] at *; omega)) only [PZ, RZ, ovw, oneC, reduceAdd, reduceMul, reduceSub, reduceEqDiff, reduceLT, ↓reduceIte, Int.reduceToNat, reduceLeDiff,  g0, g2, g3, g11]
    refine hK _ _ ?_
    clear hK hX K
    refine WX_if_t rfl ?_
    simp +contextual (maxSteps := 2000000) (disch := first | omega | (simp only [SZ]; first | done | omega) | (simp only [TS] at *; omega)) only [PZ, RZ, ovw, oneC, reduceAdd, reduceMul, reduceSub, reduceEqDiff, reduceLT, ↓reduceIte, Int.reduceToNat, reduceLeDiff,  g0, g2, g3, g11, c0, c1, c2, c3]
    refine (paFail_any g 1 t w5).mono ?_
    rintro e w6 ⟨rfl, hB6⟩
    rw [Ends_pan]
    exact herr hr.symm (K4.trans (hB6.mono (by omega)))
  | some i =>
    rw [hsi] at hr
    dsimp only [Option.map] at hr ⊢
    have hi19 := simple_lt hsi
    rw [show 3 + (i + 1) = i + 4 by omega]
    simp +contextual (maxSteps := 2000000) (disch := first | omega | (simp only [SZ]; first | done | omega) | (simp only [TS] at *; omega)) only [PZ, RZ, ovw, oneC, reduceAdd, reduceMul, reduceSub, reduceEqDiff, reduceLT, ↓reduceIte, Int.reduceToNat, reduceLeDiff,  g0, g2, g3, g11]
    refine hK _ _ ?_
    clear hK hX K
    rw [WX_seq]
    refine WX_piece fun K hK hX => ?_
    simp +contextual (maxSteps := 2000000) (disch := first | omega | (simp only [SZ]; first | done | omega) | (simp only [TS] at *; omega)) only [PZ, RZ, ovw, oneC, reduceAdd, reduceMul, reduceSub, reduceEqDiff, reduceLT, ↓reduceIte, Int.reduceToNat, reduceLeDiff,  g0, g2, g3, g11]
    refine hK _ _ ?_
    clear hK hX K
    refine WX_if_f rfl ?_
    rw [WX_skip, thenX_normal]
    refine WX_piece fun K hK hX => ?_
    simp +contextual (maxSteps := 2000000) (disch := first | omega | (simp only [SZ]; first | done | omega) | (simp only [TS] at *; omega)) only [PZ, RZ, ovw, oneC, reduceAdd, reduceMul, reduceSub, reduceEqDiff, reduceLT, ↓reduceIte, Int.reduceToNat, reduceLeDiff,  g0, g2, g3, g11, c0, c1, c2, c3]
    refine paOnceG h4 hT t _ (fun w6 hin k6 h6 => ?_) (fun w6 hin k6 => ?_); rotate_left
    · rw [if_pos hin] at hr
      refine hX _ _ _ (fun h => by cases h) ?_
      exact herr hr.symm (onb k6)
    rw [if_neg hin] at hr
    have K6 := onb k6
    try simp +contextual (maxSteps := 2000000) (disch := first | omega | (simp only [SZ]; first | done | omega) | (simp only [TS] at *; omega)) only [PZ, RZ, ovw, oneC, reduceAdd, reduceMul, reduceSub, reduceEqDiff, reduceLT, ↓reduceIte, Int.reduceToNat, reduceLeDiff,  g0, g2, g3, g11]
    refine hK _ _ ?_
    clear hK hX K
    simp +contextual (maxSteps := 2000000) (disch := first | omega | (simp only [SZ]; first | done | omega) | (simp only [TS] at *; omega)) only [PZ, RZ, ovw, oneC, reduceAdd, reduceMul, reduceSub, reduceEqDiff, reduceLT, ↓reduceIte, Int.reduceToNat, reduceLeDiff,  g0, g2, g3, g11]
    refine Res.use (paAny_any h6.pk hT) (fun x a9 w9 e9 k9 p9 => ?_) (fun e L w9 e9 k9 => ?_); rotate_left
    · obtain ⟨q9, rfl, rfl⟩ := anyT_err e9
      rw [q9] at hr
      exact ResG.err hr.symm (K6.trans (h6.keptB k9 (by simpa using hbg)))
    have q9 := anyT_ok e9
    rw [q9] at hr
    dsimp only [thenT] at hr
    have m9 := drop_mono (num_len q9) rfl p9.lt h6.pk.lt
    have h9 := h6.leaf k9 p9 m9
    have K9 := K6.trans (h6.keptB k9 (by simpa using hbg))
    have y2 := h9.cellN hi19.1
    have y2z := h9.pk.row.frozen (i + 4)
    try simp +contextual (maxSteps := 2000000) (disch := first | omega | (simp only [SZ]; first | done | omega) | (simp only [TS] at *; omega)) only [PZ, RZ, ovw, oneC, reduceAdd, reduceMul, reduceSub, reduceEqDiff, reduceLT, ↓reduceIte, Int.reduceToNat, reduceLeDiff,  g0, g3, y2, y2z]
    exact ResG.ok hr.symm (K9.setCell (p := ⟨g, i + 4, none⟩) hbg _) (h9.setN hi19.1 hi19.2 x)
end
end Go.Proofs.YtbdkggnajipdhaaDoor
/- Walks: the reader of a game's tokens: rules. -/
namespace Go.Proofs.YtbdkggnajipdhaaDoor
open Nat (reduceAdd reduceMul reduceSub reduceEqDiff reduceLT reduceLeDiff)
open Go.RowKit
set_option maxRecDepth 100000
theorem hit_len {w : List Nat} {L : List Tk} {x : Int × List Tk} (h : hitT w L = .ok x) : x.2.length ≤ L.length := by
  unfold hitT at h
  cases hq : isT 1 w L with
  | none => rw [hq] at h; injection h with h; subst h; exact Nat.le_refl _
  | some L1 =>
    rw [hq] at h
    obtain ⟨y, h1, h⟩ := then_ok h
    injection h with h
    subst h
    exact Nat.le_trans (num_len h1) (is_len hq)
theorem mode_len {L : List Tk} {x : (Int × Int × Int × Int) × List Tk} (h : modeT L = .ok x) : x.2.length ≤ L.length := by
  unfold modeT at h
  cases h1 : isT 1 (asc "exact") L with
  | some L1 => rw [h1] at h; injection h with h; subst h; exact is_len h1
  | none =>
  rw [h1] at h
  cases h2 : isT 1 (asc "box") L with
  | some L1 => rw [h2] at h; injection h with h; subst h; exact is_len h2
  | none =>
  rw [h2] at h
  cases h3 : isT 1 (asc "front") L with
  | some L1 =>
    rw [h3] at h
    obtain ⟨y, e1, h⟩ := then_ok h
    injection h with h; subst h
    exact Nat.le_trans (num_len e1) (is_len h3)
  | none =>
  rw [h3] at h
  cases h4 : isT 1 (asc "back") L with
  | some L1 =>
    rw [h4] at h
    obtain ⟨y, e1, h⟩ := then_ok h
    injection h with h; subst h
    exact Nat.le_trans (num_len e1) (is_len h4)
  | none =>
  rw [h4] at h
  obtain ⟨y1, e1, h⟩ := bind_ok h
  obtain ⟨y2, e2, h⟩ := bind_ok h
  obtain ⟨y3, e3, h⟩ := bind_ok h
  injection h with h; subst h
  have := hit_len e1
  have := hit_len e2
  have := hit_len e3
  show y3.2.length ≤ _
  omega
theorem tier_len {L : List Tk} {x : Ti × List Tk} (h : tierT L = .ok x) : x.2.length ≤ L.length := by
  unfold tierT at h
  obtain ⟨m, e1, h⟩ := bind_ok h
  have := mode_len e1
  split at h
  · cases h
  · cases hp : prizeK (bs (hdT m.2).text) with
    | none => rw [hp] at h; cases h
    | some k =>
      rw [hp] at h
      obtain ⟨v, e2, h⟩ := then_ok h
      injection h with h; subst h
      have := num_len e2
      have := nx_len m.2
      show v.2.length ≤ _
      omega
theorem addon_len {L : List Tk} {x : Ad × List Tk} (h : addonT L = .ok x) : x.2.length ≤ L.length := by
  unfold addonT at h
  have n1 := nx_len L
  have n2 := nx_len (nxT L)
  split at h
  · cases h
  · split at h
    · cases h
    · split at h
      · obtain ⟨v, e2, h⟩ := then_ok h
        injection h with h; subst h
        have := num_len e2
        have := nums_len v.2.length v.2
        show (numsT v.2.length v.2).2.length ≤ _
        omega
      · split at h
        · obtain ⟨v, e2, h⟩ := then_ok h
          obtain ⟨u, e3, h⟩ := then_ok h
          injection h with h; subst h
          have := num_len e2
          have := num_len e3
          have := nums_len u.2.length u.2
          show (numsT u.2.length u.2).2.length ≤ _
          omega
        · cases h
theorem itemG_len {L : List Tk} {G : Gm} {seen : List (List Nat)} {x : (Gm × List (List Nat)) × List Tk} (h : itemG L G seen = .ok x) : x.2.length ≤ (nxT L).length := by
  unfold itemG at h
  split at h
  · cases h
  split at h
  · split at h
    · cases h
    · obtain ⟨y, e, h⟩ := bind_ok h
      injection h with h; subst h
      exact pair_len e
  split at h
  · split at h
    · cases h
    · obtain ⟨y, e, h⟩ := bind_ok h
      injection h with h; subst h
      exact pair_len e
  split at h
  · split at h
    · cases h
    · obtain ⟨y, e, h⟩ := bind_ok h
      injection h with h; subst h
      exact day_len e
  split at h
  · obtain ⟨y, e, h⟩ := bind_ok h
    injection h with h; subst h
    exact addon_len e
  split at h
  · obtain ⟨y, e, h⟩ := bind_ok h
    injection h with h; subst h
    exact tier_len e
  · cases hs : simpleI (bs (hdT L).text) with
    | none => rw [hs] at h; cases h
    | some i =>
      rw [hs] at h
      dsimp only at h
      split at h
      · cases h
      · obtain ⟨y, e, h⟩ := then_ok h
        injection h with h; subst h
        exact num_len e
section
variable {base g gs c a : Nat} {A : Option Addr} {T : List Tk} {w : World} {G : Gm} {seen : List (List Nat)} {Va Vt : Value} {Vs : List (List Value)}
/-- What the whole reader gives. -/
def ResR (base g gs : Nat) (A : Option Addr) (c : Nat) (T : List Tk) (w : World) (r : Except (Int × List Tk) Gm) (e : Ending) (w' : World) : Prop := Below base w w' ∧ match r with
  | .ok G => e = .returned (.tuple #[]) ∧ ∃ a' seen Va Vt Vs, GmSt w' base g gs A c T a' G seen Va Vt Vs
  | .error x => e = .panicked [{ v := failV x.1 (hdT x.2).line, recovered := false }]
theorem ResR.err {r : Except (Int × List Tk) Gm} {w' : World} {e : Int} {L : List Tk} (hr : r = .error (e, L)) (k : Below base w w') : ResR base g gs A c T w r (.panicked [{ v := failV e (hdT L).line, recovered := false }]) w' := by
  subst hr; exact ⟨k, rfl⟩
theorem ResR.ok {r : Except (Int × List Tk) Gm} {w' : World} {a' : Nat} (hr : r = .ok G) (k : Below base w w') (h : GmSt w' base g gs A c T a' G seen Va Vt Vs) : ResR base g gs A c T w r (.returned (.tuple #[])) w' := by
  subst hr; exact ⟨k, rfl, a', seen, Va, Vt, Vs, h⟩
theorem GmSt.setName (h : GmSt w base g gs A c T a G seen Va Vt Vs) (s : ByteArray) : GmSt (w.setCell ⟨g, 3, none⟩ (.string s)) base g gs A c T a { G with name := s } seen Va Vt Vs := by
  have k := (Kept.refl [g] w).setCell (p := ⟨g, 3, none⟩) (by simp) (.string s)
  obtain ⟨h1, h2, h3, h4, h5, h6, h7, h8, h9', h10⟩ := h
  have hne := h10.2.2.2
  refine ⟨h1.kept1 k h1.lt (h1.row.set_ (i := 3) (by simp [gmV]) _), h2.kept k (by simpa using hne), h3.mono fun v L hv => hv.kt (KT.of_kept k) (fun x hx => by simp at hx; subst hx; exact not_int_parser h1.row), ?_, ?_, h6, h7, h8, h9', h10⟩
  · refine owns_keep h4 fun b hb => k.block b (owns_ge h4 hb).2 fun hx => ?_
    simp at hx
    subst hx
    exact own_ne h4 h1.row (by decide) hb
  · refine owns_keep h5 fun b hb => k.block b (owns_ge h5 hb).2 fun hx => ?_
    simp at hx
    subst hx
    exact own_ne h5 h1.row (by decide) hb
set_option maxHeartbeats 2000000 in
theorem paRules_any (h : GmSt w base g gs A c T 0 noGm [] Va Vt Vs) (hT : TokOk T) (hW : Laid w) : Calls Tryd.prog 26 #[.pointer (some ⟨g, 0, none⟩)] w (ResR base g gs A c T w (gameT T)) := by
  refine calls_WX (l := [_]) Tryd.func26 rfl _ Tryd.ntmps26 (by simp) ?_
  generalize hr : gameT T = r
  unfold gameT at hr
  have hbig := hT.big
  obtain ⟨hb9, hbg, hbs, hne⟩ := h.hg
  have bg : bs ⟨#[103, 97, 109, 101]⟩ = asc "game" := by decide +kernel
  have bo : bs ⟨#[123]⟩ = asc "{" := by decide +kernel
  have bc : bs ⟨#[125]⟩ = asc "}" := by decide +kernel
  have bm : bs ⟨#[59]⟩ = asc ";" := by decide +kernel
  have by_ : bs ⟨#[115, 121, 115, 116, 101, 109]⟩ = asc "system" := by decide +kernel
  refine WX_piece fun K hK hX => ?_
  simp +contextual (maxSteps := 2000000) (disch := first | omega | (simp only [SZ]; first | done | omega) | (simp only [TS] at *; omega)) only [PZ, RZ, ovw, oneC, reduceAdd, reduceMul, reduceSub, reduceEqDiff, reduceLT, ↓reduceIte, Int.reduceToNat, reduceLeDiff]
  refine Res.use (paExpect_any 1 _ h.pk hT) (fun u a1 w1 e1 k1 p1 => ?_) (fun e L w1 e1 k1 => ?_); rotate_left
  · obtain ⟨q1, rfl, rfl⟩ := expT_err e1
    rw [bg, List.drop_zero] at q1
    rw [q1] at hr
    refine hX _ _ _ (fun h => by cases h) ?_
    exact ResR.err hr.symm (h.keptB k1 (by simpa using hbg))
  have q1 := expT_ok e1
  rw [bg, List.drop_zero] at q1
  rw [q1] at hr
  dsimp only [thenT] at hr
  have h1 := h.leaf k1 p1 (Nat.zero_le _)
  have K1 := h.keptB k1 (by simpa using hbg)
  try simp +contextual (maxSteps := 2000000) (disch := first | omega | (simp only [SZ]; first | done | omega) | (simp only [TS] at *; omega)) only [PZ, RZ, ovw, oneC, reduceAdd, reduceMul, reduceSub, reduceEqDiff, reduceLT, ↓reduceIte, Int.reduceToNat, reduceLeDiff]
  refine hK _ _ ?_
  clear hK hX K
  refine WX_piece fun K hK hX => ?_
  have y7 := h1.cellN (i := 7) (by omega)
  have y7z := h1.pk.row.frozen 11
  have y16 := h1.cellN (i := 16) (by omega)
  have y16z := h1.pk.row.frozen 20
  simp +contextual (maxSteps := 2000000) (disch := first | omega | (simp only [SZ]; first | done | omega) | (simp only [TS] at *; omega)) only [PZ, RZ, ovw, oneC, reduceAdd, reduceMul, reduceSub, reduceEqDiff, reduceLT, ↓reduceIte, Int.reduceToNat, reduceLeDiff,  y7, y7z, y16, y16z]
  have h2 := (h1.setN (i := 7) (by omega) (by omega) 1).setN (i := 16) (by omega) (by omega) 1
  have K2 : Below base w ((w1.setCell ⟨g, 11, none⟩ (.int .i64 1)).setCell ⟨g, 20, none⟩ (.int .i64 1)) := (K1.setCell (p := ⟨g, 11, none⟩) hbg _).setCell (p := ⟨g, 20, none⟩) hbg _
  replace h2 : GmSt ((w1.setCell ⟨g, 11, none⟩ (.int .i64 1)).setCell ⟨g, 20, none⟩ (.int .i64 1)) base g gs A c T a1 { noGm with n := putN (putN (fun _ => 0) 7 1) 16 1 } [] Va Vt Vs := h2
  generalize (w1.setCell ⟨g, 11, none⟩ (.int .i64 1)).setCell ⟨g, 20, none⟩ (.int .i64 1) = w2 at *
  refine hK _ _ ?_
  clear hK hX K
  refine WX_piece fun K hK hX => ?_
  simp +contextual (maxSteps := 2000000) (disch := first | omega | (simp only [SZ]; first | done | omega) | (simp only [TS] at *; omega)) only [PZ, RZ, ovw, oneC, reduceAdd, reduceMul, reduceSub, reduceEqDiff, reduceLT, ↓reduceIte, Int.reduceToNat, reduceLeDiff]
  refine Res.use (paWord_any h2.pk hT) (fun nm a3 w3 e3 k3 p3 => ?_) (fun e L w3 e3 k3 => ?_); rotate_left
  · obtain ⟨q3, rfl, rfl⟩ := wordT_err e3
    rw [if_pos q3] at hr
    refine hX _ _ _ (fun h => by cases h) ?_
    exact ResR.err hr.symm (K2.trans (h2.keptB k3 (by simpa using hbg)))
  obtain ⟨q3, rfl, q4⟩ := wordT_ok e3
  rw [if_neg (fun h => h q3), ← q4] at hr
  have m3 := drop_mono (T := T) (a := a1) (L := nxT (T.drop a1)) (nx_len _) q4.symm p3.lt h2.pk.lt
  have h3 := h2.leaf k3 p3 m3
  have K3 := K2.trans (h2.keptB k3 (by simpa using hbg))
  generalize (hdT (T.drop a1)).text = nm at *
  clear e3
  have y3 := h3.pk.row.cell (i := 3) rfl
  have y3z := h3.pk.row.frozen 3
  try simp +contextual (maxSteps := 2000000) (disch := first | omega | (simp only [SZ]; first | done | omega) | (simp only [TS] at *; omega)) only [PZ, RZ, ovw, oneC, reduceAdd, reduceMul, reduceSub, reduceEqDiff, reduceLT, ↓reduceIte, Int.reduceToNat, reduceLeDiff,  y3, y3z]
  have h4 := h3.setName nm
  have K4 : Below base w (w3.setCell ⟨g, 3, none⟩ (.string nm)) := K3.setCell (p := ⟨g, 3, none⟩) hbg _
  replace h4 : GmSt (w3.setCell ⟨g, 3, none⟩ (.string nm)) base g gs A c T a3 (gm0 nm) [] Va Vt Vs := h4
  generalize w3.setCell ⟨g, 3, none⟩ (.string nm) = w4 at *
  refine hK _ _ ?_
  clear hK hX K
  refine WX_piece fun K hK hX => ?_
  simp +contextual (maxSteps := 2000000) (disch := first | omega | (simp only [SZ]; first | done | omega) | (simp only [TS] at *; omega)) only [PZ, RZ, ovw, oneC, reduceAdd, reduceMul, reduceSub, reduceEqDiff, reduceLT, ↓reduceIte, Int.reduceToNat, reduceLeDiff]
  refine Res.use (paExpect_any 3 _ h4.pk hT) (fun u a5 w5 e5 k5 p5 => ?_) (fun e L w5 e5 k5 => ?_); rotate_left
  · obtain ⟨q5, rfl, rfl⟩ := expT_err e5
    rw [bo] at q5
    rw [q5] at hr
    refine hX _ _ _ (fun h => by cases h) ?_
    exact ResR.err hr.symm (K4.trans (h4.keptB k5 (by simpa using hbg)))
  have q5 := expT_ok e5
  rw [bo] at q5
  rw [q5] at hr
  dsimp only at hr
  rw [List.length_drop] at hr
  have m5 := drop_mono (T := T) (a := a3) (is_len q5) rfl p5.lt h4.pk.lt
  have h5 := h4.leaf k5 p5 m5
  have K5 := K4.trans (h4.keptB k5 (by simpa using hbg))
  try simp +contextual (maxSteps := 2000000) (disch := first | omega | (simp only [SZ]; first | done | omega) | (simp only [TS] at *; omega)) only [PZ, RZ, ovw, oneC, reduceAdd, reduceMul, reduceSub, reduceEqDiff, reduceLT, ↓reduceIte, Int.reduceToNat, reduceLeDiff]
  refine hK _ _ ?_
  clear hK hX K
  refine WX_cut (fun σ w6 => ∃ (a6 : Nat) (G6 : Gm) (seen6 : List (List Nat)) (Va6 Vt6 : Value) (Vs6 : List (List Value)), closeT ((G6, seen6), T.drop a6) = r ∧ σ 0 = .pointer (some ⟨g, 0, none⟩) ∧ GmSt w6 base g gs A c T a6 G6 seen6 Va6 Vt6 Vs6 ∧ Below base w w6) ?_ ?_; rotate_left
  · rw [WX_block, WX_loop]
    refine RawD_loop (fun σ w6 => ∃ (f a6 : Nat) (G6 : Gm) (seen6 : List (List Nat)) (Va6 Vt6 : Value) (Vs6 : List (List Value)), T.length - a6 ≤ f ∧ bindT (gitemsT f (T.drop a6) G6 seen6) closeT = r ∧ σ 0 = .pointer (some ⟨g, 0, none⟩) ∧ GmSt w6 base g gs A c T a6 G6 seen6 Va6 Vt6 Vs6 ∧ Below base w w6)
      (fun σ w6 => T.length - atOf w6 g) ?_ ?_
    · exact ⟨_, a5, _, _, _, _, _, Nat.le_refl _, hr, rfl, h5, K5⟩
    clear hr
    rintro σ w6 ⟨f, a6, G6, seen6, Va6, Vt6, Vs6, hf, hr, f0, h6, K6⟩ K hK
    have hlt6 := h6.pk.lt
    have hat6 := h6.pk.atOf
    obtain ⟨f', rfl⟩ : ∃ f', f = f' + 1 := ⟨f - 1, by omega⟩
    unfold gitemsT at hr
    refine WX_piece fun K1 hK1 hX1 => ?_
    refine WX_piece fun K2 hK2 hX2 => ?_
    simp +contextual (maxSteps := 2000000) (disch := first | omega | (simp only [SZ]; first | done | omega) | (simp only [TS] at *; omega)) only [PZ, RZ, ovw, oneC, reduceAdd, reduceMul, reduceSub, reduceEqDiff, reduceLT, ↓reduceIte, Int.reduceToNat, reduceLeDiff,  f0]
    refine (paPeek_any h6.pk hT).mono ?_
    rintro e w7 ⟨rfl, hB7⟩
    have h7 := h6.below hB7
    have K7 := K6.trans (hB7.mono (by have := h6.pk.row.lt; omega))
    generalize htd : hdT (T.drop a6) = t at *
    rw [show (encTk t).toArray = #[.int .i64 t.kind, .int .i64 t.line, .int .i64 t.col, .string t.text] from rfl]
    by_cases hk : t.kind = 1
    · have e1 : (t.kind = 1) = True := eq_true hk
      rw [if_pos hk] at hr
      simp +contextual (maxSteps := 2000000) (disch := first | omega | (simp only [SZ]; first | done | omega) | (simp only [TS] at *; omega)) only [PZ, RZ, ovw, oneC, reduceAdd, reduceMul, reduceSub, reduceEqDiff, reduceLT, ↓reduceIte, Int.reduceToNat, reduceLeDiff,  f0, tkKind, e1]
      refine hK2 _ _ ?_
      clear hK2 hX2 K2
      refine WX_if_t rfl ?_
      simp +contextual (maxSteps := 2000000) (disch := first | omega | (simp only [SZ]; first | done | omega) | (simp only [TS] at *; omega)) only [PZ, RZ, ovw, oneC, reduceAdd, reduceMul, reduceSub, reduceEqDiff, reduceLT, ↓reduceIte, Int.reduceToNat, reduceLeDiff]
      refine hK1 _ _ ?_
      clear hK1 hX1 K1
      rw [WX_block]
      refine WX_piece fun K1 hK1 hX1 => ?_
      have hW7 : Laid w7 := hW.below K7 (by omega)
      simp +contextual (maxSteps := 2000000) (disch := first | omega | (simp only [SZ]; first | done | omega) | (simp only [TS] at *; omega)) only [PZ, RZ, ovw, oneC, reduceAdd, reduceMul, reduceSub, reduceEqDiff, reduceLT, ↓reduceIte, Int.reduceToNat, reduceLeDiff,  f0]
      refine ResG.use (paItem_any h7 hT hW7) (fun G8 seen8 a8 Va8 Vt8 Vs8 w8 e8 k8 h8 => ?_) (fun e L w8 e8 k8 => ?_); rotate_left
      · rw [e8] at hr
        refine hX1 _ _ _ (fun h => by cases h) ?_
        exact ResR.err hr.symm (K7.trans k8)
      have hl8 := itemG_len e8
      rw [e8] at hr
      dsimp only [bindT] at hr
      have K8 := K7.trans k8
      obtain ⟨l6, n6⟩ := nx_at hT hlt6 (by rw [htd]; omega)
      rw [n6, List.length_drop, List.length_drop] at hl8
      have hlt8 := h8.pk.lt
      try simp +contextual (maxSteps := 2000000) (disch := first | omega | (simp only [SZ]; first | done | omega) | (simp only [TS] at *; omega)) only [PZ, RZ, ovw, oneC, reduceAdd, reduceMul, reduceSub, reduceEqDiff, reduceLT, ↓reduceIte, Int.reduceToNat, reduceLeDiff,  f0]
      refine hK1 _ _ ?_
      clear hK1 hX1 K1
      simp +contextual (maxSteps := 2000000) (disch := first | omega | (simp only [SZ]; first | done | omega) | (simp only [TS] at *; omega)) only [PZ, RZ, ovw, oneC, reduceAdd, reduceMul, reduceSub, reduceEqDiff, reduceLT, ↓reduceIte, Int.reduceToNat, reduceLeDiff,  f0]
      refine Res.use (paExpect_any 3 _ h8.pk hT) (fun u a9 w9 e9 k9 p9 => ?_) (fun e L w9 e9 k9 => ?_); rotate_left
      · obtain ⟨q9, rfl, rfl⟩ := expT_err e9
        rw [bm] at q9
        rw [q9] at hr
        exact ResR.err hr.symm (K8.trans (h8.keptB k9 (by simpa using hbg)))
      have q9 := expT_ok e9
      rw [bm] at q9
      rw [q9] at hr
      dsimp only [thenT] at hr
      have m9 := drop_mono (T := T) (a := a8) (is_len q9) rfl p9.lt h8.pk.lt
      have h9 := h8.leaf k9 p9 m9
      have K9 := K8.trans (h8.keptB k9 (by simpa using hbg))
      try simp +contextual (maxSteps := 2000000) (disch := first | omega | (simp only [SZ]; first | done | omega) | (simp only [TS] at *; omega)) only [PZ, RZ, ovw, oneC, reduceAdd, reduceMul, reduceSub, reduceEqDiff, reduceLT, ↓reduceIte, Int.reduceToNat, reduceLeDiff,  f0]
      have hat9 := h9.pk.atOf
      have hlt9 := h9.pk.lt
      refine hK _ _ ⟨f', a9, G8, seen8, Va8, Vt8, Vs8, by omega, ?_, ?_, h9, K9⟩ ?_
      · rw [← hr]; rfl
      · simp +contextual (maxSteps := 2000000) (disch := first | omega | (simp only [SZ]; first | done | omega) | (simp only [TS] at *; omega)) only [RZ, ovw, oneC, reduceAdd, reduceMul, reduceSub, reduceEqDiff, reduceLT, ↓reduceIte, Int.reduceToNat, reduceLeDiff,  f0]
      · rw [hat9, hat6]; omega
    · have e1 : (t.kind = 1) = False := eq_false hk
      rw [if_neg hk] at hr
      dsimp only [bindT] at hr
      simp +contextual (maxSteps := 2000000) (disch := first | omega | (simp only [SZ]; first | done | omega) | (simp only [TS] at *; omega)) only [PZ, RZ, ovw, oneC, reduceAdd, reduceMul, reduceSub, reduceEqDiff, reduceLT, ↓reduceIte, Int.reduceToNat, reduceLeDiff,  f0, tkKind, e1]
      refine hK2 _ _ ?_
      clear hK2 hX2 K2
      refine WX_if_f rfl ?_
      rw [WX_exit]
      refine hX1 _ _ _ (fun h => by cases h) ?_
      rw [thenX_exit, inX_exit_same, thenX_normal]
      refine ⟨a6, G6, seen6, Va6, Vt6, Vs6, hr, ?_, h7, K7⟩
      simp +contextual (maxSteps := 2000000) (disch := first | omega | (simp only [SZ]; first | done | omega) | (simp only [TS] at *; omega)) only [RZ, ovw, oneC, reduceAdd, reduceMul, reduceSub, reduceEqDiff, reduceLT, ↓reduceIte, Int.reduceToNat, reduceLeDiff,  f0]
  clear hr h h1 h2 h3 h4 h5 K1 K2 K3 K4 K5
  rintro σ w6 ⟨a6, G6, seen6, Va6, Vt6, Vs6, hr, f0, h6, K6⟩
  unfold closeT at hr
  dsimp only at hr
  refine WX_piece fun K hK hX => ?_
  simp +contextual (maxSteps := 2000000) (disch := first | omega | (simp only [SZ]; first | done | omega) | (simp only [TS] at *; omega)) only [PZ, RZ, ovw, oneC, reduceAdd, reduceMul, reduceSub, reduceEqDiff, reduceLT, ↓reduceIte, Int.reduceToNat, reduceLeDiff,  f0]
  refine Res.use (paExpect_any 3 _ h6.pk hT) (fun u a7 w7 e7 k7 p7 => ?_) (fun e L w7 e7 k7 => ?_); rotate_left
  · obtain ⟨q7, rfl, rfl⟩ := expT_err e7
    rw [bc] at q7
    rw [q7] at hr
    refine hX _ _ _ (fun h => by cases h) ?_
    exact ResR.err hr.symm (K6.trans (h6.keptB k7 (by simpa using hbg)))
  have q7 := expT_ok e7
  rw [bc] at q7
  rw [q7] at hr
  dsimp only [thenT] at hr
  have m7 := drop_mono (T := T) (a := a6) (is_len q7) rfl p7.lt h6.pk.lt
  have h7 := h6.leaf k7 p7 m7
  have K7 := K6.trans (h6.keptB k7 (by simpa using hbg))
  try simp +contextual (maxSteps := 2000000) (disch := first | omega | (simp only [SZ]; first | done | omega) | (simp only [TS] at *; omega)) only [PZ, RZ, ovw, oneC, reduceAdd, reduceMul, reduceSub, reduceEqDiff, reduceLT, ↓reduceIte, Int.reduceToNat, reduceLeDiff,  f0]
  refine hK _ _ ?_
  clear hK hX K
  refine WX_piece fun K hK hX => ?_
  simp +contextual (maxSteps := 2000000) (disch := first | omega | (simp only [SZ]; first | done | omega) | (simp only [TS] at *; omega)) only [PZ, RZ, ovw, oneC, reduceAdd, reduceMul, reduceSub, reduceEqDiff, reduceLT, ↓reduceIte, Int.reduceToNat, reduceLeDiff,  f0]
  refine Res.use (paTake_any 0 h7.pk hT) (fun t a8 w8 e8 k8 p8 => ?_) (fun e L w8 e8 k8 => ?_); rotate_left
  · obtain ⟨q8, rfl, rfl⟩ := takeT_err e8
    rw [if_neg q8] at hr
    refine hX _ _ _ (fun h => by cases h) ?_
    exact ResR.err hr.symm (K7.trans (h7.keptB k8 (by simpa using hbg)))
  obtain ⟨q8, rfl, q9⟩ := takeT_ok e8
  rw [if_pos q8] at hr
  have m8 := drop_mono (T := T) (a := a7) (L := nxT (T.drop a7)) (nx_len _) q9.symm p8.lt h7.pk.lt
  have h8 := h7.leaf k8 p8 m8
  have K8 := K7.trans (h7.keptB k8 (by simpa using hbg))
  clear e8
  try simp +contextual (maxSteps := 2000000) (disch := first | omega | (simp only [SZ]; first | done | omega) | (simp only [TS] at *; omega)) only [PZ, RZ, ovw, oneC, reduceAdd, reduceMul, reduceSub, reduceEqDiff, reduceLT, ↓reduceIte, Int.reduceToNat, reduceLeDiff,  f0]
  refine hK _ _ ?_
  clear hK hX K
  refine WX_piece fun K hK hX => ?_
  have y2 := h8.pk.row.cell (i := 2) rfl
  have hz : mapZ Tryd.prog 69 = some (.bool false) := by kernel_rfl
  obtain ⟨l, clk, hl, hkk⟩ := h8.sn
  have e1 := vLookup_str0 (P := Tryd.prog) (T := 69) (k := ⟨#[115, 121, 115, 116, 101, 109]⟩) hz hl
  have hks := hkk ⟨#[115, 121, 115, 116, 101, 109]⟩
  rw [by_] at hks
  by_cases hs : asc "system" ∈ seen6
  · rw [hks.1 hs] at e1
    rw [if_pos hs] at hr
    dsimp only [Option.getD] at e1
    simp +contextual (maxSteps := 2000000) (disch := first | omega | (simp only [SZ]; first | done | omega) | (simp only [TS] at *; omega)) only [PZ, RZ, ovw, oneC, reduceAdd, reduceMul, reduceSub, reduceEqDiff, reduceLT, ↓reduceIte, Int.reduceToNat, reduceLeDiff,  f0, y2, e1]
    refine hK _ _ ?_
    clear hK hX K
    refine WX_if_f rfl ?_
    simp +contextual (maxSteps := 2000000) (disch := first | omega | (simp only [SZ]; first | done | omega) | (simp only [TS] at *; omega)) only [PZ, RZ, ovw, oneC, reduceAdd, reduceMul, reduceSub, reduceEqDiff, reduceLT, ↓reduceIte, Int.reduceToNat, reduceLeDiff]
    exact ResR.ok hr.symm K8 h8
  · rw [hks.2 hs] at e1
    rw [if_neg hs] at hr
    dsimp only [Option.getD] at e1
    simp +contextual (maxSteps := 2000000) (disch := first | omega | (simp only [SZ]; first | done | omega) | (simp only [TS] at *; omega)) only [PZ, RZ, ovw, oneC, reduceAdd, reduceMul, reduceSub, reduceEqDiff, reduceLT, ↓reduceIte, Int.reduceToNat, reduceLeDiff,  f0, y2, e1]
    refine hK _ _ ?_
    clear hK hX K
    refine WX_if_t rfl ?_
    have z2 := h8.cellN (i := 2) (by omega)
    have z8 := h8.cellN (i := 8) (by omega)
    have z8z := h8.pk.row.frozen 12
    simp +contextual (maxSteps := 2000000) (disch := first | omega | (simp only [SZ]; first | done | omega) | (simp only [TS] at *; omega)) only [PZ, RZ, ovw, oneC, reduceAdd, reduceMul, reduceSub, reduceEqDiff, reduceLT, ↓reduceIte, Int.reduceToNat, reduceLeDiff,  f0, z2, z8, z8z]
    exact ResR.ok hr.symm (K8.setCell (p := ⟨g, 12, none⟩) hbg _) (h8.setN (i := 8) (by omega) (by omega) _)
end
end Go.Proofs.YtbdkggnajipdhaaDoor
/- Walks: ruletext.Parse's deferred closure. -/
namespace Go.Proofs.YtbdkggnajipdhaaDoor
open Nat (reduceAdd reduceMul reduceSub reduceEqDiff reduceLT reduceLeDiff)
open Go.RowKit
set_option maxRecDepth 100000
theorem wpS_of_WX {P : Program} {n : Nat} {c : Code} {Q : Exit → Sl → World → Prop} {QS : Exit → Act → List Frame → World → Prop} {σ : Sl} {a : Act} {cs : List Frame} {w : World} (hf : FrD [] n σ a) (h : WX [] P n c Q σ w) (hQ : ∀ e σ a w, FrD [] n σ a → Q e σ w → QS e a cs w) : c.wpS P QS a cs w :=
  wpS_of_wp (wp_mono (WX_sound _ _ _ _ h a hf) fun e a' w' ⟨σ', hf', hq⟩ => hQ e σ' a' w' hf' hq)
/-- Values stored one behind the other. -/
def stW (g : Nat) : Nat → List Value → World → World
  | _, [], w => w
  | i, v :: r, w => stW g (i + 1) r (w.setCell ⟨g, i, none⟩ v)
theorem stW_row {g : Nat} {T : TypeId} : ∀ (vs : List Value) (i : Nat) (w : World) (cs : List Value), Row w g T cs → i + vs.length = cs.length → Row (stW g i vs w) g T (cs.take i ++ vs)
  | [], i, w, cs, h, hl => by
    rw [List.append_nil, List.take_of_length_le (by simp at hl; omega)]; exact h
  | v :: r, i, w, cs, h, hl => by
    rw [List.length_cons] at hl
    have h1 := stW_row r (i + 1) (w.setCell ⟨g, i, none⟩ v) (cs.set i v) (h.set_ (by omega) v) (by rw [List.length_set]; omega)
    have e : (cs.set i v).take (i + 1) = cs.take i ++ [v] := by
      rw [List.take_add_one, List.take_set_of_le (Nat.le_refl _), List.getElem?_set_self (by omega)]
      rfl
    rw [e, List.append_assoc] at h1
    exact h1
theorem stW_kept {X : List Nat} {g : Nat} (hg : g ∈ X) : ∀ (vs : List Value) (i : Nat) (w0 w : World), Kept X w0 w → Kept X w0 (stW g i vs w)
  | [], _, _, _, h => h
  | v :: r, i, w0, w, h => stW_kept hg r (i + 1) w0 _ (h.setCell (p := ⟨g, i, none⟩) hg v)
def vTA (P : Program) (u : Value) (T a : TypeId) (ok : Bool) (w : World) : Result Next := (do pure (.value (← Instr.typeAssert u T a ok)) : Sem Next).run P w
theorem r_ta (P : Program) (T a ty : TypeId) (x : Operand) (ok : Bool) (σ : Sl) (w : World) : run1 P (.typeAssert x T a ok) ty σ w = vTA P (ev σ x) T a ok w := nr rfl
def zeroGm : List Value := gmV noGm (.slice none 0 0) (.slice none 0 0)
set_option maxHeartbeats 1000000 in
theorem clo_pan {g1 g2 g3 : Nat} {en ln e0 l0 : Int} {w : World} {cs1 : List Value} (h1 : Row w g1 25 cs1) (hl1 : cs1.length = 22) (h2 : Row w g2 29 [.int .i64 e0]) (h3 : Row w g3 3 [.int .i64 l0]) (h12 : g1 ≠ g2) (h13 : g1 ≠ g3) (h23 : g2 ≠ g3) :
    CallsD Tryd.prog 25 #[.pointer (some ⟨g1, 0, none⟩), .pointer (some ⟨g2, 0, none⟩), .pointer (some ⟨g3, 0, none⟩)] (.panicking [{ v := failV en ln, recovered := false }]) w fun e u' w' =>
      e = .returned (.tuple #[]) ∧ u' = .panicking [{ v := failV en ln, recovered := true }] ∧ Row w' g1 25 zeroGm ∧ Row w' g2 29 [.int .i64 en] ∧ Row w' g3 3 [.int .i64 ln] ∧ Kept [g1, g2, g3] w w' := by
  refine callsD_of_wpS Tryd.func25 rfl fun c₀ cs hu => ?_
  apply wpS_seq
  apply wpS_region
  simp [wpOpsS, go_sem, recoverD, hu, Tryd.ntmps25, Exit.thenS, failV]
  have ne1 : ∀ (x y : Operand) (w : World), vBin Tryd.prog .neq 20 x y (.iface 67 (.agg #[.int .i64 en, .int .i64 ln])) .nilIface w = .ok (.value (.bool true)) w := fun x y w => by
    simp [vBin, eqGuard, run_neq_held_nil w 20 67 _ Tryd.underlying20]
  have ta1 : ∀ (w : World), vTA Tryd.prog (.iface 67 (.agg #[.int .i64 en, .int .i64 ln])) 20 67 true w = .ok (.value (.tuple #[.agg #[.int .i64 en, .int .i64 ln], .bool true])) w := fun w => by
    simp [vTA, Instr.typeAssert, Sem.run_bind, run_underlying Tryd.underlying67 w]
  refine wpS_of_WX (n := 22) (Q := fun e σ w' => (e = .normal) ∧ Row w' g1 25 zeroGm ∧ Row w' g2 29 [.int .i64 en] ∧ Row w' g3 3 [.int .i64 ln] ∧ Kept [g1, g2, g3] w w') ⟨by simp, rfl, fun i => rfl⟩ ?_ ?_
  · generalize hσ : (fun i => Array.getD _ i undef) = σ
    have s0 : σ 0 = .pointer (some ⟨g1, 0, none⟩) := by rw [← hσ]; simp [Array.getD_eq_getD_getElem?, Array.getElem?_append, Array.getElem?_setIfInBounds, Array.getElem?_replicate]
    have s1 : σ 1 = .pointer (some ⟨g2, 0, none⟩) := by rw [← hσ]; simp [Array.getD_eq_getD_getElem?, Array.getElem?_append, Array.getElem?_setIfInBounds, Array.getElem?_replicate]
    have s2 : σ 2 = .pointer (some ⟨g3, 0, none⟩) := by rw [← hσ]; simp [Array.getD_eq_getD_getElem?, Array.getElem?_append, Array.getElem?_setIfInBounds, Array.getElem?_replicate]
    have s3 : σ 3 = .iface 67 (.agg #[.int .i64 en, .int .i64 ln]) := by rw [← hσ]; simp [Array.getD_eq_getD_getElem?, Array.getElem?_append, Array.getElem?_setIfInBounds, Array.getElem?_replicate]
    clear hσ
    refine WX_piece fun K hK hX => ?_
    simp +contextual (maxSteps := 2000000) (disch := first | omega | (simp only [SZ]; first | done | omega) | (simp only [TS] at *; omega)) only [PZ, RZ, ovw, oneC, reduceAdd, reduceMul, reduceSub, reduceEqDiff, reduceLT, ↓reduceIte, Int.reduceToNat, reduceLeDiff,  s0, s1, s2, s3, ne1]
    refine hK _ _ ?_
    clear hK hX K
    refine WX_if_t rfl ?_
    refine WX_piece fun K hK hX => ?_
    simp +contextual (maxSteps := 2000000) (disch := first | omega | (simp only [SZ]; first | done | omega) | (simp only [TS] at *; omega)) only [PZ, RZ, ovw, oneC, reduceAdd, reduceMul, reduceSub, reduceEqDiff, reduceLT, ↓reduceIte, Int.reduceToNat, reduceLeDiff,  s0, s1, s2, s3, r_ta, ta1]
    have bx := Row.new w 67 [Value.int .i64 en, .int .i64 ln]
    have hB := below_alloc w (.cells #[Value.int .i64 en, .int .i64 ln] 67)
    replace bx : Row (w.alloc (.cells #[Value.int .i64 en, .int .i64 ln] 67)) _ _ _ := bx
    have k1 : Kept [g1, g2, g3] w _ := Kept.of_below hB
    have b1 := h1.below hB
    have b2 := h2.below hB
    have b3 := h3.below hB
    have l1 := h1.lt
    have l2 := h2.lt
    have l3 := h3.lt
    generalize hgb : w.heap.size = gb at *
    generalize w.alloc (.cells #[Value.int .i64 en, .int .i64 ln] 67) = w1 at *
    refine hK _ _ ?_
    clear hK hX K
    refine WX_piece fun K hK hX => ?_
    refine WX_piece fun K2 hK2 hX2 => ?_
    simp +contextual (maxSteps := 2000000) (disch := first | omega | (simp only [SZ]; first | done | omega) | (simp only [TS] at *; omega)) only [PZ, RZ, ovw, oneC, reduceAdd, reduceMul, reduceSub, reduceEqDiff, reduceLT, ↓reduceIte, Int.reduceToNat, reduceLeDiff,  s0, s1, s2, s3]
    refine hK2 _ _ ?_
    clear hK2 hX2 K2
    refine WX_if_f rfl ?_
    simp +contextual (maxSteps := 2000000) (disch := first | omega | (simp only [SZ]; first | done | omega) | (simp only [TS] at *; omega)) only [PZ, RZ, ovw, oneC, reduceAdd, reduceMul, reduceSub, reduceEqDiff, reduceLT, ↓reduceIte, Int.reduceToNat, reduceLeDiff,  s0, s1, s2, s3]
    refine hK _ _ ?_
    clear hK hX K
    try simp +contextual (maxSteps := 2000000) (disch := first | omega | (simp only [SZ]; first | done | omega) | (simp only [TS] at *; omega)) only [PZ, RZ, ovw, oneC, reduceAdd, reduceMul, reduceSub, reduceEqDiff, reduceLT, ↓reduceIte, Int.reduceToNat, reduceLeDiff,  s0, s1, s2, s3]
    refine RawD_of (Raw_rcS (τ := ?ta) (fun w' => Row w' gb 67 [Value.int .i64 en, .int .i64 ln]) [0, 1, 2, 3, 4] [5, 6, 7] MX rfl (by kernel_rfl) (by kernel_rfl) (by kernel_rfl) (fun _ _ _ h => Exit.noConfusion h.1) bx (fun w7 h7 => ?_) ?_); rotate_left
    · have x0 := h7.cell (i := 0) rfl
      have x1 := h7.cell (i := 1) rfl
      simp only [opsL_cons, opsL_nil, List.getElem?_toArray, List.getElem?_cons_zero, List.getElem?_cons_succ, optL_some]
      simp +contextual (maxSteps := 2000000) (disch := first | omega | (simp only [SZ]; first | done | omega) | (simp only [TS] at *; omega)) only [RZ, ovw, oneC, reduceAdd, reduceMul, reduceSub, reduceEqDiff, reduceLT, ↓reduceIte, Int.reduceToNat, reduceLeDiff,  s0, s1, s2, x0, x1]
      exact rfl
    replace b1 : Row w1.drew g1 25 cs1 := b1
    replace b2 : Row w1.drew g2 29 _ := b2
    replace b3 : Row w1.drew g3 3 _ := b3
    replace bx : Row w1.drew gb 67 _ := bx
    replace k1 : Kept [g1, g2, g3] w w1.drew := k1.drew
    generalize w1.drew = w2 at *
    have hy : ∀ i, i < 22 → ∃ v, w2.cell? ⟨g1, i, none⟩ = some v := fun i hi => ⟨_, b1.cell (List.getElem?_eq_getElem (show i < cs1.length by omega))⟩
    obtain ⟨v0, y0⟩ := hy 0 (by omega)
    have z0 := b1.frozen 0
    obtain ⟨v1, y1⟩ := hy 1 (by omega)
    have z1 := b1.frozen 1
    obtain ⟨v2, y2⟩ := hy 2 (by omega)
    have z2 := b1.frozen 2
    obtain ⟨v3, y3⟩ := hy 3 (by omega)
    have z3 := b1.frozen 3
    obtain ⟨v4, y4⟩ := hy 4 (by omega)
    have z4 := b1.frozen 4
    obtain ⟨v5, y5⟩ := hy 5 (by omega)
    have z5 := b1.frozen 5
    obtain ⟨v6, y6⟩ := hy 6 (by omega)
    have z6 := b1.frozen 6
    obtain ⟨v7, y7⟩ := hy 7 (by omega)
    have z7 := b1.frozen 7
    obtain ⟨v8, y8⟩ := hy 8 (by omega)
    have z8 := b1.frozen 8
    obtain ⟨v9, y9⟩ := hy 9 (by omega)
    have z9 := b1.frozen 9
    obtain ⟨v10, y10⟩ := hy 10 (by omega)
    have z10 := b1.frozen 10
    obtain ⟨v11, y11⟩ := hy 11 (by omega)
    have z11 := b1.frozen 11
    obtain ⟨v12, y12⟩ := hy 12 (by omega)
    have z12 := b1.frozen 12
    obtain ⟨v13, y13⟩ := hy 13 (by omega)
    have z13 := b1.frozen 13
    obtain ⟨v14, y14⟩ := hy 14 (by omega)
    have z14 := b1.frozen 14
    obtain ⟨v15, y15⟩ := hy 15 (by omega)
    have z15 := b1.frozen 15
    obtain ⟨v16, y16⟩ := hy 16 (by omega)
    have z16 := b1.frozen 16
    obtain ⟨v17, y17⟩ := hy 17 (by omega)
    have z17 := b1.frozen 17
    obtain ⟨v18, y18⟩ := hy 18 (by omega)
    have z18 := b1.frozen 18
    obtain ⟨v19, y19⟩ := hy 19 (by omega)
    have z19 := b1.frozen 19
    obtain ⟨v20, y20⟩ := hy 20 (by omega)
    have z20 := b1.frozen 20
    obtain ⟨v21, y21⟩ := hy 21 (by omega)
    have z21 := b1.frozen 21
    have c2 := b2.cell (i := 0) rfl
    have c2z := b2.frozen 0
    have c3 := b3.cell (i := 0) rfl
    have c3z := b3.frozen 0
    simp only [opsL_cons, opsL_nil, List.getElem?_toArray, List.getElem?_cons_zero, List.getElem?_cons_succ, optL_some]
    simp +contextual (maxSteps := 2000000) (disch := first | omega | (simp only [SZ]; first | done | omega) | (simp only [TS] at *; omega)) only [RZ, ovw, oneC, reduceAdd, reduceMul, reduceSub, reduceEqDiff, reduceLT, ↓reduceIte, Int.reduceToNat, reduceLeDiff,  EC_op, EC_nil, s0, s1, s2, c2, c2z, c3, c3z, y0, z0, y1, z1, y2, z2, y3, z3, y4, z4, y5, z5, y6, z6, y7, z7, y8, z8, y9, z9, y10, z10, y11, z11, y12, z12, y13, z13, y14, z14, y15, z15, y16, z16, y17, z17, y18, z18, y19, z19, y20, z20, y21, z21]
    have R1 := stW_row (g := g1) (T := 25) [Value.string ByteArray.empty, .int .i64 0, .int .i64 0, .int .i64 0, .int .i64 0, .int .i64 0, .int .i64 0, .int .i64 0, .int .i64 0, .int .i64 0, .int .i64 0, .int .i64 0, .int .i64 0, .int .i64 0, .int .i64 0, .int .i64 0, .int .i64 0, .int .i64 0, .int .i64 0, .int .i64 0, .slice none 0 0, .slice none 0 0] 0 w2 cs1 b1 (by rw [hl1]; rfl)
    have kA := stW_kept (X := [g1]) (g := g1) (by simp) [Value.string ByteArray.empty, .int .i64 0, .int .i64 0, .int .i64 0, .int .i64 0, .int .i64 0, .int .i64 0, .int .i64 0, .int .i64 0, .int .i64 0, .int .i64 0, .int .i64 0, .int .i64 0, .int .i64 0, .int .i64 0, .int .i64 0, .int .i64 0, .int .i64 0, .int .i64 0, .int .i64 0, .slice none 0 0, .slice none 0 0] 0 w2 w2 (Kept.refl _ _)
    simp only [stW, reduceAdd, List.take_zero, List.nil_append] at R1 kA
    replace b2 := b2.kept kA (by simpa using Ne.symm h12)
    replace b3 := b3.kept kA (by simpa using Ne.symm h13)
    replace bx := bx.kept kA (by simp; omega)
    replace k1 := k1.trans (kA.less (Y := [g1, g2, g3]) fun k hk _ => by simp at hk ⊢; exact .inl hk)
    clear kA
    generalize w2.setCell ⟨g1, 0, none⟩ _ = u0 at *
    have R2 := b2.set_ (i := 0) (by simp) (.int .i64 en)
    have R3 := (b3.far (p := ⟨g2, 0, none⟩) (by exact Ne.symm h23) (.int .i64 en)).set_ (i := 0) (by simp) (.int .i64 ln)
    refine ⟨bx, bx.far (p := ⟨g2, 0, none⟩) (by show gb ≠ g2; omega) _, (bx.far (p := ⟨g2, 0, none⟩) (by show gb ≠ g2; omega) _).far (p := ⟨g3, 0, none⟩) (by show gb ≠ g3; omega) _, ?_⟩
    exact ⟨(R1.far (p := ⟨g2, 0, none⟩) (by exact h12) _).far (p := ⟨g3, 0, none⟩) (by exact h13) _, R2.far (p := ⟨g3, 0, none⟩) (by exact h23) _, R3, (k1.setCell (p := ⟨g2, 0, none⟩) (by simp) _).setCell (p := ⟨g3, 0, none⟩) (by simp) _⟩
  · rintro e σ a w' hf' ⟨rfl, q1, q2, q3, q4⟩
    have hres : resE Tryd.prog Tryd.f25.results σ w' (fun v => v = .tuple #[]) := by
      simp +contextual (maxSteps := 2000000) (disch := first | omega | (simp only [SZ]; first | done | omega) | (simp only [TS] at *; omega)) only [RZ, ovw, oneC, reduceAdd, reduceMul, reduceSub, reduceEqDiff, reduceLT, ↓reduceIte, Int.reduceToNat, reduceLeDiff]
    obtain ⟨v, hv, rfl⟩ := resE_is hres (funext hf'.at_)
    exact ⟨hf'.defers, _, rfl, _, hv, rfl, rfl, q1, q2, q3, q4⟩
theorem clo_ret (g1 g2 g3 : Nat) (w : World) :
    CallsD Tryd.prog 25 #[.pointer (some ⟨g1, 0, none⟩), .pointer (some ⟨g2, 0, none⟩), .pointer (some ⟨g3, 0, none⟩)] .returning w fun e u' w' => e = .returned (.tuple #[]) ∧ u' = .returning ∧ w' = w := by
  refine callsD_of_wpS Tryd.func25 rfl fun c₀ cs hu => ?_
  apply wpS_seq
  apply wpS_region
  simp [wpOpsS, go_sem, recoverD, hu, Tryd.ntmps25, Exit.thenS]
  have ne1 : ∀ (x y : Operand) (w : World), vBin Tryd.prog .neq 20 x (.const .nilIface) .nilIface .nilIface w = .ok (.value (.bool false)) w := fun x y w => by
    simp [vBin, eqGuard_nil_constR, run_neq_nil_nil w 20 Tryd.underlying20]
  refine wpS_of_WX (n := 22) (Q := fun e σ w' => (e = .normal) ∧ w' = w) ⟨by simp, rfl, fun i => rfl⟩ ?_ ?_
  · generalize hσ : (fun i => Array.getD _ i undef) = σ
    have s3 : σ 3 = .nilIface := by rw [← hσ]; simp [Array.getD_eq_getD_getElem?, Array.getElem?_append, Array.getElem?_setIfInBounds, Array.getElem?_replicate]
    clear hσ
    refine WX_piece fun K hK hX => ?_
    simp +contextual (maxSteps := 2000000) (disch := first | omega | (simp only [SZ]; first | done | omega) | (simp only [TS] at *; omega)) only [PZ, RZ, ovw, oneC, reduceAdd, reduceMul, reduceSub, reduceEqDiff, reduceLT, ↓reduceIte, Int.reduceToNat, reduceLeDiff,  s3, ne1]
    refine hK _ _ ?_
    clear hK hX K
    refine WX_if_f rfl ?_
    simp +contextual (maxSteps := 2000000) (disch := first | omega | (simp only [SZ]; first | done | omega) | (simp only [TS] at *; omega)) only [PZ, RZ, ovw, oneC, reduceAdd, reduceMul, reduceSub, reduceEqDiff, reduceLT, ↓reduceIte, Int.reduceToNat, reduceLeDiff]
  · rintro e σ a w' hf' ⟨rfl, rfl⟩
    have hres : resE Tryd.prog Tryd.f25.results σ w' (fun v => v = .tuple #[]) := by
      simp +contextual (maxSteps := 2000000) (disch := first | omega | (simp only [SZ]; first | done | omega) | (simp only [TS] at *; omega)) only [RZ, ovw, oneC, reduceAdd, reduceMul, reduceSub, reduceEqDiff, reduceLT, ↓reduceIte, Int.reduceToNat, reduceLeDiff]
    obtain ⟨v, hv, rfl⟩ := resE_is hres (funext hf'.at_)
    refine ⟨hf'.defers, .returning, ?_, _, hv, rfl, rfl, rfl⟩
    rw [← hu]
end Go.Proofs.YtbdkggnajipdhaaDoor
