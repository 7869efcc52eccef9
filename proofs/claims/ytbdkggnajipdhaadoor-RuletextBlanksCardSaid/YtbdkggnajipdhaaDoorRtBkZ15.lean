/- Texts laid one behind the other: JnA, JnB, BkP, BkQ. Each says at its head what it proves. -/
import Derived.Test.YtbdkggnajipdhaaDoorRtBkZ14
set_option linter.unusedSimpArgs false
/- Walks: strings.Builder's grow and Grow at a builder that has not been written; strings.Join. -/
namespace Go.Proofs.YtbdkggnajipdhaaDoor
open Nat (reduceAdd reduceMul reduceSub reduceEqDiff reduceLT reduceLeDiff)
open Go.RowKit
set_option maxRecDepth 100000
/-- A builder without a byte, with room. -/
theorem grow_any (b : Nat) (n : Nat) (w : World) (hbk : w.heap[b]? = some (.cells #[.pointer (some ⟨b, 0, none⟩), .slice none 0 0] 50 (0, 0))) (hn : n ≤ 1000000000) : Calls Tryd.prog 52 #[.pointer (some ⟨b, 0, none⟩), .int .i64 n] w fun e w' => (∃ v, e = .returned v) ∧ BldIn b w' [] ∧ Below b w w' := by
  refine calls_W (l := [_, _]) Tryd.func52 rfl _ Tryd.ntmps52 (by simp) ?_
  have h : Row w b 50 [.pointer (some ⟨b, 0, none⟩), .slice none 0 0] := ⟨_, hbk, [], by simp⟩
  have c1 := h.cell (i := 1) rfl
  have hcp : ∀ {ty : TypeId} {w : World} {a : Option Addr} {n c : Nat}, vCap Tryd.prog 48 ty (.slice a n c) w = .ok (.value (.int .i64 c)) w := fun {_ _ _ _ _} => vCap_slc Tryd.underlying48
  have hln : ∀ {w : World} {k n c : Nat}, vSlice Tryd.prog 48 (.slice (some ⟨k, 0, none⟩) n c) none (some (.int .i64 ((0 : Nat) : Int))) none w = .ok (.value (.slice (some ⟨k, 0, none⟩) 0 c)) w := fun {w k n c} => by
    rw [vSlice_to Tryd.underlying48 (sz := 1) (by kernel_rfl) (by omega) (by omega)]
    split <;> rfl
  have hcy : ∀ {ty : TypeId} {w : World} {d a : Option Addr} {m c c2 : Nat}, vCopy Tryd.prog 48 48 ty (.slice d m c) (.slice a 0 c2) w = .ok (.value (.int .i64 0)) w := fun {_ _ _ _ _ _ _} => vCopy_none Tryd.underlying48 (by kernel_rfl) (Nat.zero_min _)
  simp +contextual (maxSteps := 2000000) (disch := first | omega | (simp only [SZ]; first | done | omega) | (simp only [TS] at *; omega)) only [RZ, ovw, oneC, reduceAdd, reduceMul, reduceSub, reduceEqDiff, reduceLT, ↓reduceIte, Int.reduceToNat, reduceLeDiff]
  refine Raw_ord (fun w' => w'.cell? ⟨b, 1, none⟩ = some (.slice none 0 0)) 16 rfl MX ?_
  refine Ord_reads (τ := ?ta) [0, 1, 2, 3, 4, 5, 6, 7, 9, 10, 11, 12, 13] 3 rfl (by kernel_rfl) (by kernel_rfl) (fun _ _ _ h => h) c1 ?va ?_
  case va =>
    intro w7 h7
    simp only [opsL_cons, opsL_nil, List.getElem?_toArray, List.getElem?_cons_zero, List.getElem?_cons_succ, optL_some]
    simp +contextual (maxSteps := 2000000) (disch := first | omega | (simp only [SZ]; first | done | omega) | (simp only [TS] at *; omega)) only [RZ, ovw, oneC, reduceAdd, reduceMul, reduceSub, reduceEqDiff, reduceLT, ↓reduceIte, Int.reduceToNat, reduceLeDiff,  h7, r_cap, hcp]
    exact rfl
  obtain ⟨cs, hrun, hle, hmax⟩ := Lib.run_makeNoZero (P := Tryd.prog) w.drew #[3] 48 5 Tryd.underlying48 n (by omega)
  have cl : vCall Tryd.prog 74 #[.int .i64 n] w.drew = .ok (.value (.slice (some ⟨w.drew.heap.size, 0, none⟩) n cs.size)) (w.drew.drew.drew.alloc (.cells cs 5)) := by
    unfold vCall
    rw [run_callFunc_extern Tryd.func74 (by kernel_rfl) (by kernel_rfl) (by kernel_rfl) (e := Extern.BytealgMakeNoZero.makeNoZero #[3] #[48]) (by kernel_rfl), hrun]
    rfl
  rw [vCall_at] at cl
  refine Ord_one 8 (by kernel_rfl) rfl ?_
  have ea : ((2 : Int) * ((0 : Nat) : Int) + (n : Int)) = n := by simp
  have hbl := h.lt
  have rD : Row w.drew b 50 _ := h.kept (X := []) (Kept.refl [] w).drew (by simp)
  have rA : Row (w.drew.drew.drew.alloc (.cells cs 5)) b 50 [.pointer (some ⟨b, 0, none⟩), .slice none 0 0] := ((h.kept (X := []) ((Kept.refl [] w).drew.drew.drew) (by simp))).alloc _
  have eh : w.drew.drew.drew.heap.size = w.heap.size := rfl
  have ed : w.drew.heap.size = w.heap.size := rfl
  have ca := rA.cell (i := 1) rfl
  have cz := rA.frozen 1
  simp +contextual (maxSteps := 2000000) (disch := first | omega | (simp only [SZ]; first | done | omega) | (simp only [TS] at *; omega)) only [RZ, ovw, oneC, reduceAdd, reduceMul, reduceSub, reduceEqDiff, reduceLT, ↓reduceIte, Int.reduceToNat, reduceLeDiff,  ea, cl]
  refine ⟨c1, ?_⟩
  refine Ord_chainS _ [14, 15] _ _ _ (by kernel_rfl) ?_
  simp only [opsL_cons, opsL_nil, List.getElem?_toArray, List.getElem?_cons_zero, List.getElem?_cons_succ, optL_some]
  have ca : (w.alloc (.cells cs 5)).cell? ⟨b, 1, none⟩ = _ := ca
  have cz : (w.alloc (.cells cs 5)).frozen? ⟨b, 1, none⟩ = _ := cz
  simp +contextual (maxSteps := 2000000) (disch := first | omega | (simp only [SZ]; first | done | omega) | (simp only [TS] at *; omega)) only [RZ, ovw, oneC, reduceAdd, reduceMul, reduceSub, reduceEqDiff, reduceLT, ↓reduceIte, Int.reduceToNat, reduceLeDiff,  EC_op, EC_nil, hln, c1, ca, cz, r_copy, hcy]
  have hbl := h.lt
  have hb1 : (w.setCell ⟨b, 1, none⟩ (.slice (some ⟨w.heap.size, 0, none⟩) 0 cs.size)).heap[b]? = some (.cells #[.pointer (some ⟨b, 0, none⟩), .slice (some ⟨w.heap.size, 0, none⟩) 0 cs.size] 50 (0, 0)) := by
    simp [World.setCell, Array.getElem?_modify, hbk]
  have hz : (w.setCell ⟨b, 1, none⟩ (.slice (some ⟨w.heap.size, 0, none⟩) 0 cs.size)).heap.size = w.heap.size := World.size_setCell _ _ _
  have kB : Below b w ((w.setCell ⟨b, 1, none⟩ (.slice (some ⟨w.heap.size, 0, none⟩) 0 cs.size)).alloc (.cells cs 5)) := ((Below.refl b w).setCell (p := ⟨b, 1, none⟩) (Nat.le_refl _) _).trans ((below_alloc _ _).mono (by omega))
  generalize hw1 : w.setCell ⟨b, 1, none⟩ (.slice (some ⟨w.heap.size, 0, none⟩) 0 cs.size) = w1 at *
  have hb2 : (w1.alloc (.cells cs 5)).heap[b]? = _ := (Lib.alloc_old w1 _ b (by omega)).trans hb1
  have hown : (w1.alloc (.cells cs 5)).ownsRow b 5 1 (.slice (some ⟨w.heap.size, 0, none⟩) 0 cs.size) 0 [] :=
    ⟨rfl, .inr ⟨w.heap.size, cs.size, cs, rfl, Nat.le_of_lt hbl, by rw [← hz]; exact heap_alloc_new w1 _, Nat.zero_le _, hmax (by unfold maxLen; omega), (Nat.mul_one _).symm, rfl⟩⟩
  refine ⟨⟨_, rfl⟩, ⟨.inr ⟨Nat.le_refl _, _, hb2, hown, by simp [Value.ownBlock]; omega⟩, fun n h => by cases h⟩, ?_⟩
  exact ⟨kB.os, kB.tape, kB.output, kB.size, kB.block⟩
theorem copyCheck_fresh (b : Nat) (w : World) (hbk : w.heap[b]? = some (.cells #[.pointer none, .slice none 0 0] 50 (0, 0))) :
    Calls Tryd.prog 31 #[.pointer (some ⟨b, 0, none⟩)] w fun e w' => e = .returned (.tuple #[]) ∧ w' = w.setCell ⟨b, 0, none⟩ (.pointer (some ⟨b, 0, none⟩)) := by
  refine calls_W (l := [_]) Tryd.func31 rfl _ Tryd.ntmps31 (by simp) ?_
  obtain ⟨j, hj, hjs⟩ := Option.map_eq_some_iff.1 (show (Tryd.prog.info? 50).map (·.size) = some 2 by kernel_rfl)
  have ne : ∀ (x y : Operand) (w : World), vBin Tryd.prog .neq 47 x y (.pointer (some ⟨b, 0, none⟩)) (.pointer (some ⟨b, 0, none⟩)) w = .ok (.value (.bool false)) w := fun x y w => by
    simp only [vBin, eqGuard]
    simp [Lib.run_neq_ptr_same w _ Tryd.underlying47 hj]
  have h : Row w b 50 [.pointer none, .slice none 0 0] := ⟨_, hbk, [], by simp⟩
  have hsh : w.shape? b = some (50, 2) := by simp [World.shape?, hbk]
  have c0 := h.cell (i := 0) rfl
  have z0 := h.frozen 0
  have cs : (w.setCell ⟨b, 0, none⟩ (.pointer (some ⟨b, 0, none⟩))).cell? ⟨b, 0, none⟩ = some (.pointer (some ⟨b, 0, none⟩)) := by rw [cS_same, c0]; rfl
  have cv1 : vConvert Tryd.prog 47 90 (.pointer (some ⟨b, 0, none⟩)) w = .ok (.value (.pointer (some ⟨b, 0, none⟩))) w := by
    simp [vConvert, Lib.run_to_unsafe w ⟨b, 0, none⟩ Tryd.underlying47 Tryd.underlying90 hj (by rw [hjs]; decide) hsh (Nat.zero_lt_succ 1)]
  have cv2 : vConvert Tryd.prog 90 47 (.pointer (some ⟨b, 0, none⟩)) w = .ok (.value (.pointer (some ⟨b, 0, none⟩))) w := by
    simp [vConvert, Lib.run_from_unsafe w ⟨b, 0, none⟩ Tryd.underlying90 Tryd.underlying47 hj hsh (by kernel_rfl)]
  have cl : vCall Tryd.prog 53 #[.pointer (some ⟨b, 0, none⟩)] w = .ok (.value (.pointer (some ⟨b, 0, none⟩))) w := by
    unfold vCall
    rw [run_callFunc_extern Tryd.func53 (by kernel_rfl) (by kernel_rfl) (by kernel_rfl) (e := Extern.AbiNoEscape.same) (by kernel_rfl), Lib.run_noEscape]
    rfl
  rw [vCall_at] at cl
  simp +contextual (maxSteps := 2000000) (disch := first | omega | (simp only [SZ]; first | done | omega) | (simp only [TS] at *; omega)) only [RZ, ovw, oneC, reduceAdd, reduceMul, reduceSub, reduceEqDiff, reduceLT, ↓reduceIte, Int.reduceToNat, reduceLeDiff,  c0]
  refine W_if_t rfl ?_
  simp +contextual (maxSteps := 2000000) (disch := first | omega | (simp only [SZ]; first | done | omega) | (simp only [TS] at *; omega)) only [RZ, ovw, oneC, reduceAdd, reduceMul, reduceSub, reduceEqDiff, reduceLT, ↓reduceIte, Int.reduceToNat, reduceLeDiff,  c0, z0, cv1, cv2, cl, cs, ne]
theorem Grow_any (b n : Nat) (w : World) (hbk : w.heap[b]? = some (.cells #[.pointer none, .slice none 0 0] 50 (0, 0))) (hn : n ≤ 1000000000) : Calls Tryd.prog 30 #[.pointer (some ⟨b, 0, none⟩), .int .i64 n] w fun e w' => (∃ v, e = .returned v) ∧ BldIn b w' [] ∧ Below b w w' := by
  refine calls_W (l := [_, _]) Tryd.func30 rfl _ Tryd.ntmps30 (by simp) ?_
  have hcp : ∀ {ty : TypeId} {w : World} {a : Option Addr} {n c : Nat}, vCap Tryd.prog 48 ty (.slice a n c) w = .ok (.value (.int .i64 c)) w := fun {_ _ _ _ _} => vCap_slc Tryd.underlying48
  simp +contextual (maxSteps := 2000000) (disch := first | omega | (simp only [SZ]; first | done | omega) | (simp only [TS] at *; omega)) only [RZ, ovw, oneC, reduceAdd, reduceMul, reduceSub, reduceEqDiff, reduceLT, ↓reduceIte, Int.reduceToNat, reduceLeDiff]
  refine (copyCheck_fresh b w hbk).mono ?_
  rintro e w1 ⟨rfl, hw1⟩
  refine ⟨_, rfl, ?_⟩
  have hb1 : w1.heap[b]? = some (.cells #[.pointer (some ⟨b, 0, none⟩), .slice none 0 0] 50 (0, 0)) := by
    rw [hw1]; simp [World.setCell, Array.getElem?_modify, hbk]
  have k1 : Below b w w1 := by rw [hw1]; exact (Below.refl b w).setCell (p := ⟨b, 0, none⟩) (Nat.le_refl _) _
  clear hw1
  have h1 : Row w1 b 50 [.pointer (some ⟨b, 0, none⟩), .slice none 0 0] := ⟨_, hb1, [], by simp⟩
  have e0 : decide ((n : Int) < 0) = false := decide_eq_false (by omega)
  have c1 : w1.drew.cell? _ = _ := h1.cell (i := 1) rfl
  have hbd : w1.drew.heap[b]? = _ := hb1
  have kd : Below b w w1.drew := ⟨k1.os, k1.tape, k1.output, k1.size, k1.block⟩
  try simp +contextual (maxSteps := 2000000) (disch := first | omega | (simp only [SZ]; first | done | omega) | (simp only [TS] at *; omega)) only [RZ, ovw, oneC, reduceAdd, reduceMul, reduceSub, reduceEqDiff, reduceLT, ↓reduceIte, Int.reduceToNat, reduceLeDiff,  e0]
  refine W_if_f rfl ?_
  simp +contextual (maxSteps := 2000000) (disch := first | omega | (simp only [SZ]; first | done | omega) | (simp only [TS] at *; omega)) only [RZ, ovw, oneC, reduceAdd, reduceMul, reduceSub, reduceEqDiff, reduceLT, ↓reduceIte, Int.reduceToNat, reduceLeDiff]
  refine Raw_still MX (by kernel_rfl) ?_
  generalize w1.drew = w2 at *
  simp +contextual (maxSteps := 2000000) (disch := first | omega | (simp only [SZ]; first | done | omega) | (simp only [TS] at *; omega)) only [RZ, ovw, oneC, reduceAdd, reduceMul, reduceSub, reduceEqDiff, reduceLT, ↓reduceIte, Int.reduceToNat, reduceLeDiff,  c1, r_cap, hcp]
  by_cases hn0 : 0 < n
  · have e1 : decide (((0 : Nat) : Int) - ((0 : Nat) : Int) < (n : Int)) = true := decide_eq_true (by simp; omega)
    refine W_if_t (by simp +contextual (maxSteps := 2000000) (disch := first | omega | (simp only [SZ]; first | done | omega) | (simp only [TS] at *; omega)) only [RZ, ovw, oneC, reduceAdd, reduceMul, reduceSub, reduceEqDiff, reduceLT, ↓reduceIte, Int.reduceToNat, reduceLeDiff,  e1]) ?_
    simp +contextual (maxSteps := 2000000) (disch := first | omega | (simp only [SZ]; first | done | omega) | (simp only [TS] at *; omega)) only [RZ, ovw, oneC, reduceAdd, reduceMul, reduceSub, reduceEqDiff, reduceLT, ↓reduceIte, Int.reduceToNat, reduceLeDiff]
    refine (grow_any b n w2 hbd hn).mono ?_
    rintro e w3 ⟨⟨v, rfl⟩, h3, k3⟩
    refine ⟨_, rfl, ?_⟩
    try simp +contextual (maxSteps := 2000000) (disch := first | omega | (simp only [SZ]; first | done | omega) | (simp only [TS] at *; omega)) only [RZ, ovw, oneC, reduceAdd, reduceMul, reduceSub, reduceEqDiff, reduceLT, ↓reduceIte, Int.reduceToNat, reduceLeDiff]
    exact ⟨⟨_, rfl⟩, h3, kd.trans k3⟩
  · have e1 : decide (((0 : Nat) : Int) - ((0 : Nat) : Int) < (n : Int)) = false := decide_eq_false (by simp; omega)
    refine W_if_f (by simp +contextual (maxSteps := 2000000) (disch := first | omega | (simp only [SZ]; first | done | omega) | (simp only [TS] at *; omega)) only [RZ, ovw, oneC, reduceAdd, reduceMul, reduceSub, reduceEqDiff, reduceLT, ↓reduceIte, Int.reduceToNat, reduceLeDiff,  e1]) ?_
    simp +contextual (maxSteps := 2000000) (disch := first | omega | (simp only [SZ]; first | done | omega) | (simp only [TS] at *; omega)) only [RZ, ovw, oneC, reduceAdd, reduceMul, reduceSub, reduceEqDiff, reduceLT, ↓reduceIte, Int.reduceToNat, reduceLeDiff]
    exact ⟨⟨_, rfl⟩, ⟨.inr ⟨Nat.le_refl _, .slice none 0 0, hbd, World.ownsRow_nil _ _ _ _, by simp [Value.ownBlock]⟩, fun n h => by cases h⟩, kd⟩
end Go.Proofs.YtbdkggnajipdhaaDoor
/- Walk: strings.Join. -/
namespace Go.Proofs.YtbdkggnajipdhaaDoor
open Nat (reduceAdd reduceMul reduceSub reduceEqDiff reduceLT reduceLeDiff)
open Go.RowKit
set_option maxRecDepth 100000
/-- Texts with a separator between them. -/
def joinS (sep : List Nat) : List ByteArray → List Nat
  | [] => []
  | x :: r => bs x ++ r.flatMap fun y => sep ++ bs y
def sizeS : List ByteArray → Nat
  | [] => 0
  | x :: r => x.size + sizeS r
theorem flatS_len (sep : List Nat) : ∀ r : List ByteArray, (r.flatMap fun y => sep ++ bs y).length = sep.length * r.length + sizeS r
  | [] => rfl
  | y :: r => by
    rw [List.flatMap_cons, List.length_append, List.length_append, flatS_len sep r, bs_len, sizeS, List.length_cons, Nat.mul_succ]
    omega
theorem joinS_len (sep : List Nat) (L : List ByteArray) : (joinS sep L).length = sep.length * (L.length - 1) + sizeS L := by
  cases L with
  | nil => rfl
  | cons x r =>
    rw [joinS, List.length_append, flatS_len, bs_len, sizeS, List.length_cons, Nat.add_sub_cancel]
    omega
theorem sizeS_take : ∀ (L : List ByteArray) (k : Nat) (x : ByteArray), L[k]? = some x → sizeS (L.take (k + 1)) = sizeS (L.take k) + x.size
  | [], k, x, h => by simp at h
  | y :: L, 0, x, h => by
    simp only [List.getElem?_cons_zero, Option.some.injEq] at h
    subst h
    simp [sizeS]
  | y :: L, k + 1, x, h => by
    rw [List.getElem?_cons_succ] at h
    rw [List.take_succ_cons, List.take_succ_cons, sizeS, sizeS, sizeS_take L k x h]
    omega
theorem sizeS_le : ∀ (L : List ByteArray) (k : Nat), sizeS (L.take k) ≤ sizeS L
  | [], k => by simp [sizeS]
  | y :: L, 0 => Nat.zero_le _
  | y :: L, k + 1 => by
    rw [List.take_succ_cons, sizeS, sizeS]
    have := sizeS_le L k
    omega
theorem joinS_take (sep : List Nat) (L : List ByteArray) {k : Nat} {x : ByteArray} (h : L[k + 1]? = some x) : joinS sep (L.take (k + 2)) = joinS sep (L.take (k + 1)) ++ sep ++ bs x := by
  cases L with
  | nil => simp at h
  | cons y r =>
    rw [List.getElem?_cons_succ] at h
    rw [List.take_succ_cons, List.take_succ_cons, joinS, joinS, List.take_add_one, h]
    simp
theorem joinS_lt (sep : ByteArray) : ∀ L : List ByteArray, ∀ c ∈ joinS (bs sep) L, c < 256
  | [], c, h => by cases h
  | x :: r, c, h => by
    rcases List.mem_append.1 h with h | h
    · exact bs_lt x c h
    · obtain ⟨y, _, h⟩ := List.mem_flatMap.1 h
      rcases List.mem_append.1 h with h | h
      · exact bs_lt sep c h
      · exact bs_lt y c h
theorem joinS_one (sep : List Nat) {L : List ByteArray} {x : ByteArray} (h : L.length = 1) (h0 : L[0]? = some x) : toBA (joinS sep L) = x := by
  match L, h, h0 with
  | [y], _, h0 =>
    simp only [List.getElem?_cons_zero, Option.some.injEq] at h0
    subst h0
    show toBA (bs y ++ []) = y
    rw [List.append_nil]
    exact bs_inj (bs_toBA (bs_lt y))
set_option maxHeartbeats 1000000 in
theorem sjoin_any (L : List ByteArray) (sep : ByteArray) (A : Option Addr) (c : Nat) (w : World) (hA : Arr w A 1 (L.map fun s => [Value.string s])) (hc : L.length ≤ c) (hN : L.length ≤ 1000000) (hs : sep.size ≤ 1000) (hl : (joinS (bs sep) L).length ≤ 1000000000) :
    Calls Tryd.prog 11 #[.slice A L.length c, .string sep] w fun e w' => e = .returned (.string (toBA (joinS (bs sep) L))) ∧ Below w.heap.size w w' := by
  refine calls_W (l := [_, _]) Tryd.func11 rfl _ Tryd.ntmps11 (by simp) ?_
  refine W_piece fun K hK hX => ?_
  simp +contextual (maxSteps := 2000000) (disch := first | omega | (simp only [SZ]; first | done | omega) | (simp only [TS] at *; omega)) only [RZ, ovw, oneC, reduceAdd, reduceMul, reduceSub, reduceEqDiff, reduceLT, ↓reduceIte, Int.reduceToNat, reduceLeDiff]
  refine hK _ _ ?_
  clear hK hX K
  refine W_pieceP (fun _ _ _ h => h) fun K hK hX hP => ?_
  refine W_piece fun K2 hK2 hX2 => ?_
  simp +contextual (maxSteps := 2000000) (disch := first | omega | (simp only [SZ]; first | done | omega) | (simp only [TS] at *; omega)) only [RZ, ovw, oneC, reduceAdd, reduceMul, reduceSub, reduceEqDiff, reduceLT, ↓reduceIte, Int.reduceToNat, reduceLeDiff]
  refine hK2 _ _ ?_
  clear hK2 hX2 K2
  rw [W_block]
  by_cases h0 : L.length = 0
  · have hn : L = [] := List.length_eq_zero_iff.1 h0
    subst hn
    simp +contextual (maxSteps := 2000000) (disch := first | omega | (simp only [SZ]; first | done | omega) | (simp only [TS] at *; omega)) only [RZ, ovw, oneC, reduceAdd, reduceMul, reduceSub, reduceEqDiff, reduceLT, ↓reduceIte, Int.reduceToNat, reduceLeDiff]
    refine W_if_t rfl ?_
    refine W_piece fun K2 hK2 hX2 => ?_
    simp +contextual (maxSteps := 2000000) (disch := first | omega | (simp only [SZ]; first | done | omega) | (simp only [TS] at *; omega)) only [RZ, ovw, oneC, reduceAdd, reduceMul, reduceSub, reduceEqDiff, reduceLT, ↓reduceIte, Int.reduceToNat, reduceLeDiff]
    refine hK2 _ _ ?_
    clear hK2 hX2 K2
    rw [W_ret]
    refine hX _ _ _ (fun h => by cases h) ?_
    simp +contextual (maxSteps := 2000000) (disch := first | omega | (simp only [SZ]; first | done | omega) | (simp only [TS] at *; omega)) only [RZ, ovw, oneC, reduceAdd, reduceMul, reduceSub, reduceEqDiff, reduceLT, ↓reduceIte, Int.reduceToNat, reduceLeDiff]
    exact ⟨rfl, Below.refl _ _⟩
  have e0 : ((L.length : Int) = 0) = False := eq_false (by omega)
  refine W_piece fun K2 hK2 hX2 => ?_
  simp +contextual (maxSteps := 2000000) (disch := first | omega | (simp only [SZ]; first | done | omega) | (simp only [TS] at *; omega)) only [RZ, ovw, oneC, reduceAdd, reduceMul, reduceSub, reduceEqDiff, reduceLT, ↓reduceIte, Int.reduceToNat, reduceLeDiff,  e0]
  refine hK2 _ _ ?_
  clear hK2 hX2 K2
  refine W_if_f rfl ?_
  obtain ⟨x0, hx0⟩ : ∃ x, L[0]? = some x := ⟨_, List.getElem?_eq_getElem (by omega)⟩
  obtain ⟨bA, o, rfl, hbA, _⟩ := hA.at_ hx0
  have hcell : ∀ (k : Nat) (x : ByteArray), L[k]? = some x → w.cell? ⟨bA, o + k, none⟩ = some (.string x) := fun k x hx => by
    obtain ⟨b', o', e', _, hc'⟩ := hA.at_ hx
    injection e' with e'
    injection e' with e' e''
    subst e' e''
    have := hc' 0 _ rfl
    rw [Nat.mul_one, Nat.add_zero] at this
    exact this
  by_cases h1 : L.length = 1
  · have e1 : ((L.length : Int) = 1) = True := eq_true (by omega)
    have l0 := hcell 0 x0 hx0
    rw [Nat.add_zero] at l0
    refine W_piece fun K2 hK2 hX2 => ?_
    simp +contextual (maxSteps := 2000000) (disch := first | omega | (simp only [SZ]; first | done | omega) | (simp only [TS] at *; omega)) only [RZ, ovw, oneC, reduceAdd, reduceMul, reduceSub, reduceEqDiff, reduceLT, ↓reduceIte, Int.reduceToNat, reduceLeDiff,  e1]
    refine hK2 _ _ ?_
    clear hK2 hX2 K2
    refine W_if_t rfl ?_
    refine W_piece fun K2 hK2 hX2 => ?_
    simp +contextual (maxSteps := 2000000) (disch := first | omega | (simp only [SZ]; first | done | omega) | (simp only [TS] at *; omega)) only [RZ, ovw, oneC, reduceAdd, reduceMul, reduceSub, reduceEqDiff, reduceLT, ↓reduceIte, Int.reduceToNat, reduceLeDiff,  l0]
    refine hK2 _ _ ?_
    clear hK2 hX2 K2
    rw [W_ret]
    refine hX _ _ _ (fun h => by cases h) ?_
    have hj := joinS_one (bs sep) h1 hx0
    rw [hj]
    simp +contextual (maxSteps := 2000000) (disch := first | omega | (simp only [SZ]; first | done | omega) | (simp only [TS] at *; omega)) only [RZ, ovw, oneC, reduceAdd, reduceMul, reduceSub, reduceEqDiff, reduceLT, ↓reduceIte, Int.reduceToNat, reduceLeDiff]
    exact Below.refl _ _
  have e1 : ((L.length : Int) = 1) = False := eq_false (by omega)
  refine W_piece fun K2 hK2 hX2 => ?_
  simp +contextual (maxSteps := 2000000) (disch := first | omega | (simp only [SZ]; first | done | omega) | (simp only [TS] at *; omega)) only [RZ, ovw, oneC, reduceAdd, reduceMul, reduceSub, reduceEqDiff, reduceLT, ↓reduceIte, Int.reduceToNat, reduceLeDiff,  e1]
  refine hK2 _ _ ?_
  clear hK2 hX2 K2
  refine W_if_f rfl ?_
  rw [W_skip]
  refine hK _ _ ?_
  clear hK hX hP K
  -- the length
  obtain ⟨m, hm⟩ : ∃ m : Nat, L.length = m + 1 := ⟨L.length - 1, by omega⟩
  have hjl := joinS_len (bs sep) L
  rw [bs_len, hm, Nat.add_sub_cancel] at hjl
  refine W_piece fun K hK hX => ?_
  simp +contextual (maxSteps := 2000000) (disch := first | omega | (simp only [SZ]; first | done | omega) | (simp only [TS] at *; omega)) only [RZ, ovw, oneC, reduceAdd, reduceMul, reduceSub, reduceEqDiff, reduceLT, ↓reduceIte, Int.reduceToNat, reduceLeDiff]
  refine hK _ _ ?_
  clear hK hX K
  have hcm : ((L.length : Int) - 1) = (m : Int) := by omega
  have hq : (sep.size : Int) < 9223372036854775807 / (m : Int) := by
    have h2 : sep.size < 9223372036854775807 / m := by
      have : sep.size + 1 ≤ 9223372036854775807 / m := by
        rw [Nat.le_div_iff_mul_le (by omega)]
        have : (sep.size + 1) * m ≤ 1001 * 1000000 := Nat.mul_le_mul (by omega) (by omega)
        omega
      omega
    have e : (9223372036854775807 : Int) / (m : Int) = ((9223372036854775807 / m : Nat) : Int) := IntWalk.up_div (x := 9223372036854775807) rfl rfl
    rw [e]
    generalize 9223372036854775807 / m = q at *
    omega
  have hmul : sep.size * m ≤ 1000 * 1000000 := Nat.mul_le_mul (by omega) (by omega)
  refine W_cutS (fun σ w2 => w2 = w ∧ σ 0 = .slice (some ⟨bA, o, none⟩) L.length c ∧ σ 1 = .string sep ∧ σ 5 = .int .i64 ((sep.size * m : Nat) : Int)) ?_ ?_
  rotate_left
  · by_cases hs0 : 0 < sep.size
    · have e2 : decide ((0 : Int) < (sep.size : Int)) = true := decide_eq_true (by omega)
      refine W_piece fun K2 hK2 hX2 => ?_
      simp +contextual (maxSteps := 2000000) (disch := first | omega | (simp only [SZ]; first | done | omega) | (simp only [TS] at *; omega)) only [RZ, ovw, oneC, reduceAdd, reduceMul, reduceSub, reduceEqDiff, reduceLT, ↓reduceIte, Int.reduceToNat, reduceLeDiff]
      refine hK2 _ _ ?_
      clear hK2 hX2 K2
      refine W_if_t (by simp +contextual (maxSteps := 2000000) (disch := first | omega | (simp only [SZ]; first | done | omega) | (simp only [TS] at *; omega)) only [RZ, ovw, oneC, reduceAdd, reduceMul, reduceSub, reduceEqDiff, reduceLT, ↓reduceIte, Int.reduceToNat, reduceLeDiff,  e2]) ?_
      refine W_piece fun K2 hK2 hX2 => ?_
      refine W_piece fun K3 hK3 hX3 => ?_
      simp +contextual (maxSteps := 2000000) (disch := first | omega | (simp only [SZ]; first | done | omega) | (simp only [TS] at *; omega)) only [RZ, ovw, oneC, reduceAdd, reduceMul, reduceSub, reduceEqDiff, reduceLT, ↓reduceIte, Int.reduceToNat, reduceLeDiff,  hcm]
      refine hK3 _ _ ?_
      clear hK3 hX3 K3
      have e3 : decide ((9223372036854775807 : Int) / (m : Int) ≤ (sep.size : Int)) = false := decide_eq_false (by generalize (9223372036854775807 : Int) / (m : Int) = q at *; omega)
      refine W_if_f (by simp +contextual (maxSteps := 2000000) (disch := first | omega | (simp only [SZ]; first | done | omega) | (simp only [TS] at *; omega)) only [RZ, ovw, oneC, reduceAdd, reduceMul, reduceSub, reduceEqDiff, reduceLT, ↓reduceIte, Int.reduceToNat, reduceLeDiff,  e3]) ?_
      rw [W_skip]
      refine hK2 _ _ ?_
      clear hK2 hX2 K2
      have hp : (sep.size : Int) * (m : Int) = ((sep.size * m : Nat) : Int) := (Int.natCast_mul _ _).symm
      have hp0 : 0 ≤ (sep.size : Int) * (m : Int) := by rw [hp]; omega
      have hp1 : (sep.size : Int) * (m : Int) ≤ 1000000000 := by rw [hp]; omega
      simp +contextual (maxSteps := 2000000) (disch := first | omega | (simp only [SZ]; first | done | omega) | (simp only [TS] at *; omega)) only [RZ, ovw, oneC, reduceAdd, reduceMul, reduceSub, reduceEqDiff, reduceLT, ↓reduceIte, Int.reduceToNat, reduceLeDiff,  hcm]
      rw [← hp]
      congr 1
      omega
    · have e2 : decide ((0 : Int) < (sep.size : Int)) = false := decide_eq_false (by omega)
      refine W_piece fun K2 hK2 hX2 => ?_
      simp +contextual (maxSteps := 2000000) (disch := first | omega | (simp only [SZ]; first | done | omega) | (simp only [TS] at *; omega)) only [RZ, ovw, oneC, reduceAdd, reduceMul, reduceSub, reduceEqDiff, reduceLT, ↓reduceIte, Int.reduceToNat, reduceLeDiff]
      refine hK2 _ _ ?_
      clear hK2 hX2 K2
      refine W_if_f (by simp +contextual (maxSteps := 2000000) (disch := first | omega | (simp only [SZ]; first | done | omega) | (simp only [TS] at *; omega)) only [RZ, ovw, oneC, reduceAdd, reduceMul, reduceSub, reduceEqDiff, reduceLT, ↓reduceIte, Int.reduceToNat, reduceLeDiff,  e2]) ?_
      simp +contextual (maxSteps := 2000000) (disch := first | omega | (simp only [SZ]; first | done | omega) | (simp only [TS] at *; omega)) only [RZ, ovw, oneC, reduceAdd, reduceMul, reduceSub, reduceEqDiff, reduceLT, ↓reduceIte, Int.reduceToNat, reduceLeDiff]
      rw [show sep.size = 0 by omega, Nat.zero_mul]
      rfl
  clear hq hjl
  have hjl := joinS_len (bs sep) L
  rw [bs_len, hm, Nat.add_sub_cancel] at hjl
  rintro σ w2 ⟨rfl, f0, f1, f5⟩
  -- the sum of the lengths
  refine W_cutS (fun σ w3 => w3 = w2 ∧ σ 0 = .slice (some ⟨bA, o, none⟩) L.length c ∧ σ 1 = .string sep ∧ σ 5 = .int .i64 ((sep.size * m + sizeS L : Nat) : Int)) ?_ ?_
  rotate_left
  · refine W_piece fun K2 hK2 hX2 => ?_
    simp +contextual (maxSteps := 2000000) (disch := first | omega | (simp only [SZ]; first | done | omega) | (simp only [TS] at *; omega)) only [RZ, ovw, oneC, reduceAdd, reduceMul, reduceSub, reduceEqDiff, reduceLT, ↓reduceIte, Int.reduceToNat, reduceLeDiff,  f0]
    refine hK2 _ _ ?_
    clear hK2 hX2 K2
    simp +contextual (maxSteps := 2000000) (disch := first | omega | (simp only [SZ]; first | done | omega) | (simp only [TS] at *; omega)) only [RZ, ovw, oneC, reduceAdd, reduceMul, reduceSub, reduceEqDiff, reduceLT, ↓reduceIte, Int.reduceToNat, reduceLeDiff]
    refine Raw_loop (fun σ w3 => w3 = w2 ∧ ∃ k : Nat, k ≤ L.length ∧ σ 0 = .slice (some ⟨bA, o, none⟩) L.length c ∧ σ 1 = .string sep ∧ σ 5 = .int .i64 ((sep.size * m + sizeS (L.take k) : Nat) : Int) ∧ σ 39 = .slice (some ⟨bA, o, none⟩) L.length c ∧ σ 40 = .int .i64 L.length ∧ σ 41 = .int .i64 k) (fun σ _ => L.length - (intOf (σ 41)).toNat) ?_ ?_
    · simp +contextual (maxSteps := 2000000) (disch := first | omega | (simp only [SZ]; first | done | omega) | (simp only [TS] at *; omega)) only [RZ, ovw, oneC, reduceAdd, reduceMul, reduceSub, reduceEqDiff, reduceLT, ↓reduceIte, Int.reduceToNat, reduceLeDiff,  f0, f1, f5]
      exact ⟨0, Nat.zero_le _, rfl, rfl⟩
    rintro σ w3 ⟨rfl, k, hk, f0, f1, f5, f39, f40, f41⟩ K hK
    have hle := sizeS_le L k
    generalize hmm : sep.size * m = M at *
    by_cases hkl : k < L.length
    · have e2 : ((k : Int) < (L.length : Int)) = True := eq_true (by omega)
      obtain ⟨x, hx⟩ : ∃ x, L[k]? = some x := ⟨_, List.getElem?_eq_getElem hkl⟩
      have hst := sizeS_take L k x hx
      have hle2 := sizeS_le L (k + 1)
      have lk := hcell k x hx
      have e3 : ((9223372036854775807 : Int) - ((M + sizeS (L.take k) : Nat) : Int) < (x.size : Int)) = False := eq_false (by omega)
      simp +contextual (maxSteps := 2000000) (disch := first | omega | (simp only [SZ]; first | done | omega) | (simp only [TS] at *; omega)) only [RZ, ovw, oneC, reduceAdd, reduceMul, reduceSub, reduceEqDiff, reduceLT, ↓reduceIte, Int.reduceToNat, reduceLeDiff,  f39, f40, f41, e2]
      refine W_if_t rfl ?_
      rw [W_skip]
      simp +contextual (maxSteps := 2000000) (disch := first | omega | (simp only [SZ]; first | done | omega) | (simp only [TS] at *; omega)) only [RZ, ovw, oneC, reduceAdd, reduceMul, reduceSub, reduceEqDiff, reduceLT, ↓reduceIte, Int.reduceToNat, reduceLeDiff,  f0, f1, f5, f39, f41, lk, e3]
      refine W_if_f rfl ?_
      simp +contextual (maxSteps := 2000000) (disch := first | omega | (simp only [SZ]; first | done | omega) | (simp only [TS] at *; omega)) only [RZ, ovw, oneC, reduceAdd, reduceMul, reduceSub, reduceEqDiff, reduceLT, ↓reduceIte, Int.reduceToNat, reduceLeDiff,  f5, f41]
      refine hK _ _ ⟨rfl, k + 1, by omega, ?_⟩ ?_
      · simp +contextual (maxSteps := 2000000) (disch := first | omega | (simp only [SZ]; first | done | omega) | (simp only [TS] at *; omega)) only [RZ, ovw, oneC, reduceAdd, reduceMul, reduceSub, reduceEqDiff, reduceLT, ↓reduceIte, Int.reduceToNat, reduceLeDiff,  f0, f1, f39, f40]
        rw [hst]
        congr 1
        omega
      · simp +contextual (maxSteps := 2000000) (disch := first | omega | (simp only [SZ]; first | done | omega) | (simp only [TS] at *; omega)) only [RZ, ovw, oneC, reduceAdd, reduceMul, reduceSub, reduceEqDiff, reduceLT, ↓reduceIte, Int.reduceToNat, reduceLeDiff,  intOf, f41]
        omega
    · have e2 : ((k : Int) < (L.length : Int)) = False := eq_false (by omega)
      have hkk : L.take k = L := List.take_of_length_le (by omega)
      rw [hkk] at f5
      simp +contextual (maxSteps := 2000000) (disch := first | omega | (simp only [SZ]; first | done | omega) | (simp only [TS] at *; omega)) only [RZ, ovw, oneC, reduceAdd, reduceMul, reduceSub, reduceEqDiff, reduceLT, ↓reduceIte, Int.reduceToNat, reduceLeDiff,  f39, f40, f41, e2]
      refine W_if_f rfl ?_
      simp +contextual (maxSteps := 2000000) (disch := first | omega | (simp only [SZ]; first | done | omega) | (simp only [TS] at *; omega)) only [RZ, ovw, oneC, reduceAdd, reduceMul, reduceSub, reduceEqDiff, reduceLT, ↓reduceIte, Int.reduceToNat, reduceLeDiff,  f0, f1, f5]
  clear f0 f1 f5 σ
  rintro σ w2 ⟨rfl, f0, f1, f5⟩
  have hbl : bA < w2.heap.size := hbA
  have hszn : sep.size * m + sizeS L ≤ 1000000000 := by omega
  generalize hnn : sep.size * m + sizeS L = n at *
  refine W_piece fun K hK hX => ?_
  simp +contextual (maxSteps := 2000000) (disch := first | omega | (simp only [SZ]; first | done | omega) | (simp only [TS] at *; omega)) only [RZ, ovw, oneC, reduceAdd, reduceMul, reduceSub, reduceEqDiff, reduceLT, ↓reduceIte, Int.reduceToNat, reduceLeDiff,  f0, f1, f5]
  have hbk := heap_alloc_new w2 (.cells #[.pointer none, .slice none 0 0] 50)
  have hB3 := below_alloc w2 (.cells #[.pointer none, .slice none 0 0] 50)
  refine hK _ _ ?_
  clear hK hX K
  generalize w2.alloc (.cells #[.pointer none, .slice none 0 0] 50) = w3 at *
  refine W_piece fun K hK hX => ?_
  simp +contextual (maxSteps := 2000000) (disch := first | omega | (simp only [SZ]; first | done | omega) | (simp only [TS] at *; omega)) only [RZ, ovw, oneC, reduceAdd, reduceMul, reduceSub, reduceEqDiff, reduceLT, ↓reduceIte, Int.reduceToNat, reduceLeDiff,  f5]
  refine (Grow_any w2.heap.size n w3 hbk hszn).mono ?_
  rintro e w4 ⟨⟨v, rfl⟩, h4, hB4⟩
  refine ⟨_, rfl, ?_⟩
  have hF4 := hB3.trans hB4
  try simp +contextual (maxSteps := 2000000) (disch := first | omega | (simp only [SZ]; first | done | omega) | (simp only [TS] at *; omega)) only [RZ, ovw, oneC, reduceAdd, reduceMul, reduceSub, reduceEqDiff, reduceLT, ↓reduceIte, Int.reduceToNat, reduceLeDiff]
  refine hK _ _ ?_
  clear hK hX K hbk
  have lcell : ∀ (w' : World), Below w2.heap.size w2 w' → ∀ (k : Nat) (x : ByteArray), L[k]? = some x → w'.cell? ⟨bA, o + k, none⟩ = some (.string x) := fun w' hB k x hx => ((bcell hB).1 _ _ hbl).trans (hcell k x hx)
  have l0 := lcell w4 hF4 0 x0 hx0
  rw [Nat.add_zero] at l0
  have htk : ∀ k, (joinS (bs sep) (L.take k)).length ≤ 1000000000 := fun k => by
    rw [joinS_len, bs_len]
    have h1 := sizeS_le L k
    have h2 : sep.size * ((L.take k).length - 1) ≤ sep.size * m := Nat.mul_le_mul_left _ (by rw [List.length_take]; omega)
    omega
  refine W_piece fun K hK hX => ?_
  simp +contextual (maxSteps := 2000000) (disch := first | omega | (simp only [SZ]; first | done | omega) | (simp only [TS] at *; omega)) only [RZ, ovw, oneC, reduceAdd, reduceMul, reduceSub, reduceEqDiff, reduceLT, ↓reduceIte, Int.reduceToNat, reduceLeDiff,  f0, l0]
  have hx0l := htk 1
  have ht1 : joinS (bs sep) (L.take 1) = bs x0 := by
    rw [List.take_add_one, hx0]
    simp [joinS]
  rw [ht1, bs_len] at hx0l
  refine (h4.write x0 (by rw [List.length_nil]; omega)).mono ?_
  rintro e w5 ⟨rfl, h5, hB5, _⟩
  refine ⟨_, rfl, ?_⟩
  rw [List.nil_append, ← ht1] at h5
  have hF5 := hF4.trans hB5
  try simp +contextual (maxSteps := 2000000) (disch := first | omega | (simp only [SZ]; first | done | omega) | (simp only [TS] at *; omega)) only [RZ, ovw, oneC, reduceAdd, reduceMul, reduceSub, reduceEqDiff, reduceLT, ↓reduceIte, Int.reduceToNat, reduceLeDiff]
  refine hK _ _ ?_
  clear hK hX K
  have hsl : vSlice Tryd.prog 36 (.slice (some ⟨bA, o, none⟩) L.length c) (some (.int .i64 1)) none none w5 = .ok (.value (.slice (some ⟨bA, o + 1, none⟩) m (c - 1))) w5 := by
    rw [vSlice_from Tryd.underlying36 (sz := 1) (by kernel_rfl) (by omega) (by omega)]
    rw [if_neg (by simp; omega), hm]
    rfl
  refine W_cutS (fun σ w6 => Below w2.heap.size w2 w6 ∧ BldIn w2.heap.size w6 (joinS (bs sep) L) ∧ σ 8 = .pointer (some ⟨w2.heap.size, 0, none⟩)) ?_ ?_
  rotate_left
  · refine W_piece fun K2 hK2 hX2 => ?_
    simp +contextual (maxSteps := 2000000) (disch := first | omega | (simp only [SZ]; first | done | omega) | (simp only [TS] at *; omega)) only [RZ, ovw, oneC, reduceAdd, reduceMul, reduceSub, reduceEqDiff, reduceLT, ↓reduceIte, Int.reduceToNat, reduceLeDiff,  f0, hsl]
    refine hK2 _ _ ?_
    clear hK2 hX2 K2
    simp +contextual (maxSteps := 2000000) (disch := first | omega | (simp only [SZ]; first | done | omega) | (simp only [TS] at *; omega)) only [RZ, ovw, oneC, reduceAdd, reduceMul, reduceSub, reduceEqDiff, reduceLT, ↓reduceIte, Int.reduceToNat, reduceLeDiff]
    refine Raw_loop (fun σ w6 => Below w2.heap.size w2 w6 ∧ ∃ k : Nat, k ≤ m ∧ BldIn w2.heap.size w6 (joinS (bs sep) (L.take (k + 1))) ∧ σ 1 = .string sep ∧ σ 8 = .pointer (some ⟨w2.heap.size, 0, none⟩) ∧ σ 63 = .slice (some ⟨bA, o + 1, none⟩) m (c - 1) ∧ σ 64 = .int .i64 m ∧ σ 65 = .int .i64 k) (fun σ _ => m - (intOf (σ 65)).toNat) ?_ ?_
    · simp +contextual (maxSteps := 2000000) (disch := first | omega | (simp only [SZ]; first | done | omega) | (simp only [TS] at *; omega)) only [RZ, ovw, oneC, reduceAdd, reduceMul, reduceSub, reduceEqDiff, reduceLT, ↓reduceIte, Int.reduceToNat, reduceLeDiff,  f1]
      exact ⟨hF5, 0, Nat.zero_le _, h5, rfl⟩
    rintro σ w6 ⟨hF6, k, hk, h6, f1, f8, f63, f64, f65⟩ K hK
    by_cases hkm : k < m
    · have e2 : ((k : Int) < (m : Int)) = True := eq_true (by omega)
      obtain ⟨x, hx⟩ : ∃ x, L[k + 1]? = some x := ⟨_, List.getElem?_eq_getElem (by omega)⟩
      have lk := lcell w6 hF6 (k + 1) x hx
      rw [show o + (k + 1) = o + 1 + k by omega] at lk
      have hjt := joinS_take (bs sep) L hx
      have hl2 := htk (k + 2)
      rw [hjt, List.length_append, List.length_append, bs_len, bs_len] at hl2
      simp +contextual (maxSteps := 2000000) (disch := first | omega | (simp only [SZ]; first | done | omega) | (simp only [TS] at *; omega)) only [RZ, ovw, oneC, reduceAdd, reduceMul, reduceSub, reduceEqDiff, reduceLT, ↓reduceIte, Int.reduceToNat, reduceLeDiff,  f63, f64, f65, e2]
      refine W_if_t rfl ?_
      rw [W_skip]
      simp +contextual (maxSteps := 2000000) (disch := first | omega | (simp only [SZ]; first | done | omega) | (simp only [TS] at *; omega)) only [RZ, ovw, oneC, reduceAdd, reduceMul, reduceSub, reduceEqDiff, reduceLT, ↓reduceIte, Int.reduceToNat, reduceLeDiff,  f1, f8, f63, f65, lk]
      refine (h6.write sep (by omega)).mono ?_
      rintro e w7 ⟨rfl, h7, hB7, _⟩
      refine ⟨_, rfl, ?_⟩
      try simp +contextual (maxSteps := 2000000) (disch := first | omega | (simp only [SZ]; first | done | omega) | (simp only [TS] at *; omega)) only [RZ, ovw, oneC, reduceAdd, reduceMul, reduceSub, reduceEqDiff, reduceLT, ↓reduceIte, Int.reduceToNat, reduceLeDiff,  f8]
      refine (h7.write x (by rw [List.length_append, bs_len]; omega)).mono ?_
      rintro e w8 ⟨rfl, h8, hB8, _⟩
      refine ⟨_, rfl, ?_⟩
      rw [← hjt] at h8
      try simp +contextual (maxSteps := 2000000) (disch := first | omega | (simp only [SZ]; first | done | omega) | (simp only [TS] at *; omega)) only [RZ, ovw, oneC, reduceAdd, reduceMul, reduceSub, reduceEqDiff, reduceLT, ↓reduceIte, Int.reduceToNat, reduceLeDiff,  f65]
      refine hK _ _ ⟨(hF6.trans hB7).trans hB8, k + 1, by omega, h8, ?_⟩ ?_
      · simp +contextual (maxSteps := 2000000) (disch := first | omega | (simp only [SZ]; first | done | omega) | (simp only [TS] at *; omega)) only [RZ, ovw, oneC, reduceAdd, reduceMul, reduceSub, reduceEqDiff, reduceLT, ↓reduceIte, Int.reduceToNat, reduceLeDiff,  f1, f8, f63, f64, f65]
      · simp +contextual (maxSteps := 2000000) (disch := first | omega | (simp only [SZ]; first | done | omega) | (simp only [TS] at *; omega)) only [RZ, ovw, oneC, reduceAdd, reduceMul, reduceSub, reduceEqDiff, reduceLT, ↓reduceIte, Int.reduceToNat, reduceLeDiff,  intOf, f65]
        omega
    · have e2 : ((k : Int) < (m : Int)) = False := eq_false (by omega)
      have hkk : L.take (k + 1) = L := List.take_of_length_le (by omega)
      rw [hkk] at h6
      simp +contextual (maxSteps := 2000000) (disch := first | omega | (simp only [SZ]; first | done | omega) | (simp only [TS] at *; omega)) only [RZ, ovw, oneC, reduceAdd, reduceMul, reduceSub, reduceEqDiff, reduceLT, ↓reduceIte, Int.reduceToNat, reduceLeDiff,  f63, f64, f65, e2]
      refine W_if_f rfl ?_
      simp +contextual (maxSteps := 2000000) (disch := first | omega | (simp only [SZ]; first | done | omega) | (simp only [TS] at *; omega)) only [RZ, ovw, oneC, reduceAdd, reduceMul, reduceSub, reduceEqDiff, reduceLT, ↓reduceIte, Int.reduceToNat, reduceLeDiff,  f8]
      exact ⟨hF6, h6⟩
  clear f0 f1 f5 σ
  rintro σ w6 ⟨hF6, h6, f8⟩
  simp +contextual (maxSteps := 2000000) (disch := first | omega | (simp only [SZ]; first | done | omega) | (simp only [TS] at *; omega)) only [RZ, ovw, oneC, reduceAdd, reduceMul, reduceSub, reduceEqDiff, reduceLT, ↓reduceIte, Int.reduceToNat, reduceLeDiff,  f8]
  refine h6.str.mono ?_
  rintro e w7 ⟨rfl, hB7⟩
  refine ⟨_, rfl, ?_⟩
  try simp +contextual (maxSteps := 2000000) (disch := first | omega | (simp only [SZ]; first | done | omega) | (simp only [TS] at *; omega)) only [RZ, ovw, oneC, reduceAdd, reduceMul, reduceSub, reduceEqDiff, reduceLT, ↓reduceIte, Int.reduceToNat, reduceLeDiff]
  exact hF6.trans hB7
end Go.Proofs.YtbdkggnajipdhaaDoor
/- Plain: chapter 11, the same tokens with other blanks between them are read as the same game. No program in sight. -/
namespace Go.Proofs.YtbdkggnajipdhaaDoor
/-! Where a token stands matters to errors alone. -/
def erT (t : Tk) : Tk := ⟨t.kind, 0, 0, t.text⟩
def erL (L : List Tk) : List Tk := L.map erT
def mapO {α : Type} (x : Option (α × List Tk)) : Option (α × List Tk) := x.map fun y => (y.1, erL y.2)
def mapX {α : Type} (x : Except (Int × List Tk) (α × List Tk)) : Except (Int × List Tk) (α × List Tk) := match x with
  | .ok y => .ok (y.1, erL y.2)
  | .error e => .error (e.1, erL e.2)
def mapE {α : Type} (x : Except (Int × List Tk) α) : Except (Int × List Tk) α := match x with
  | .ok y => .ok y
  | .error e => .error (e.1, erL e.2)
theorem hd_er (L : List Tk) : (hdT (erL L)).kind = (hdT L).kind ∧ (hdT (erL L)).text = (hdT L).text := by
  cases L with
  | nil => exact ⟨rfl, rfl⟩
  | cons t r => exact ⟨rfl, rfl⟩
theorem nx_er (L : List Tk) : nxT (erL L) = erL (nxT L) := by
  match L with
  | [] => rfl
  | [_] => rfl
  | _ :: _ :: _ => rfl
theorem len_er (L : List Tk) : (erL L).length = L.length := List.length_map ..
theorem is_er (k : Int) (w : List Nat) (L : List Tk) : isT k w (erL L) = (isT k w L).map erL := by
  unfold isT
  rw [(hd_er L).1, (hd_er L).2, nx_er]
  split <;> rfl
theorem num_er (L : List Tk) : numT (erL L) = mapO (numT L) := by
  unfold numT
  rw [(hd_er L).1, (hd_er L).2, nx_er]
  split <;> rfl
theorem less_er (m : Int) (L : List Tk) : lessT m (erL L) = mapO (lessT m L) := by
  unfold lessT
  rw [num_er]
  cases numT L with
  | none => rfl
  | some x =>
    dsimp only [mapO, Option.map]
    split <;> rfl
theorem nums_er : ∀ (f : Nat) (L : List Tk), numsT f (erL L) = ((numsT f L).1, erL (numsT f L).2)
  | 0, L => rfl
  | f + 1, L => by
    unfold numsT
    rw [num_er]
    cases numT L with
    | none => rfl
    | some a =>
      dsimp only [mapO, Option.map]
      rw [nums_er f a.2]
theorem thenN_er {α β : Type} {x : Option (α × List Tk)} {L : List Tk} {f g : α × List Tk → Except (Int × List Tk) (β × List Tk)} (h : ∀ a L, g (a, erL L) = mapX (f (a, L))) : thenT (mapO x) (erL L) g = mapX (thenT x L f) := by
  cases x with
  | none => rfl
  | some y => exact h y.1 y.2
theorem thenI_er {β : Type} {x : Option (List Tk)} {L : List Tk} {f g : List Tk → Except (Int × List Tk) (β × List Tk)} (h : ∀ L, g (erL L) = mapX (f L)) : thenT (x.map erL) (erL L) g = mapX (thenT x L f) := by
  cases x with
  | none => rfl
  | some y => exact h y
theorem bind_er {α β : Type} {x : Except (Int × List Tk) (α × List Tk)} {f g : α × List Tk → Except (Int × List Tk) (β × List Tk)} (h : ∀ a L, g (a, erL L) = mapX (f (a, L))) : bindT (mapX x) g = mapX (bindT x f) := by
  cases x with
  | error e => rfl
  | ok y => exact h y.1 y.2
theorem pair_er (L : List Tk) : pairT (erL L) = mapX (pairT L) := by
  unfold pairT
  rw [num_er]
  refine thenN_er fun a L1 => ?_
  dsimp only
  rw [is_er]
  refine thenI_er fun L2 => ?_
  rw [num_er]
  exact thenN_er fun b L3 => rfl
theorem days_er : ∀ (f : Nat) (L : List Tk) (d : Nat), daysT f (erL L) d = mapX (daysT f L d)
  | 0, L, d => rfl
  | f + 1, L, d => by
    unfold daysT
    rw [(hd_er L).1, (hd_er L).2, nx_er]
    split
    · rfl
    split
    · rfl
    cases dayI (bs (hdT L).text) with
    | none => rfl
    | some i =>
      dsimp only
      split
      · rfl
      · exact days_er f _ _
theorem day_er (L : List Tk) : dayT (erL L) = mapX (dayT L) := by
  unfold dayT
  rw [len_er, days_er]
  refine bind_er fun d L1 => ?_
  dsimp only
  rw [less_er]
  refine thenN_er fun h L2 => ?_
  dsimp only
  rw [is_er]
  refine thenI_er fun L3 => ?_
  rw [less_er]
  exact thenN_er fun m L4 => rfl
theorem hit_er (w : List Nat) (L : List Tk) : hitT w (erL L) = mapX (hitT w L) := by
  unfold hitT
  rw [is_er]
  cases isT 1 w L with
  | none => rfl
  | some L1 =>
    dsimp only [Option.map]
    rw [num_er]
    exact thenN_er fun a L2 => rfl
theorem mode_er (L : List Tk) : modeT (erL L) = mapX (modeT L) := by
  unfold modeT
  rw [is_er, is_er, is_er, is_er]
  cases isT 1 (asc "exact") L with
  | some L1 => rfl
  | none =>
  cases isT 1 (asc "box") L with
  | some L1 => rfl
  | none =>
  cases isT 1 (asc "front") L with
  | some L1 =>
    dsimp only [Option.map]
    rw [num_er]
    exact thenN_er fun a L2 => rfl
  | none =>
  cases isT 1 (asc "back") L with
  | some L1 =>
    dsimp only [Option.map]
    rw [num_er]
    exact thenN_er fun a L2 => rfl
  | none =>
  dsimp only [Option.map]
  rw [hit_er]
  refine bind_er fun a L1 => ?_
  dsimp only
  rw [hit_er]
  refine bind_er fun b L2 => ?_
  dsimp only
  rw [hit_er]
  exact bind_er fun c L3 => rfl
theorem tier_er (L : List Tk) : tierT (erL L) = mapX (tierT L) := by
  unfold tierT
  rw [mode_er]
  refine bind_er fun m L1 => ?_
  dsimp only
  rw [(hd_er L1).1, (hd_er L1).2, nx_er]
  split
  · rfl
  cases prizeK (bs (hdT L1).text) with
  | none => rfl
  | some k =>
    dsimp only
    rw [num_er]
    exact thenN_er fun v L2 => rfl
theorem addon_er (L : List Tk) : addonT (erL L) = mapX (addonT L) := by
  unfold addonT
  rw [(hd_er L).1, (hd_er L).2, nx_er, (hd_er (nxT L)).1, (hd_er (nxT L)).2, nx_er]
  split
  · rfl
  split
  · rfl
  split
  · rw [num_er]
    refine thenN_er fun a L1 => ?_
    dsimp only
    rw [len_er, nums_er]
    rfl
  split
  · rw [num_er]
    refine thenN_er fun a L1 => ?_
    dsimp only
    rw [num_er]
    refine thenN_er fun b L2 => ?_
    dsimp only
    rw [len_er, nums_er]
    rfl
  · rfl
theorem item_er (L : List Tk) (g : Gm) (seen : List (List Nat)) : itemG (erL L) g seen = mapX (itemG L g seen) := by
  unfold itemG
  rw [(hd_er L).1, (hd_er L).2, nx_er]
  split
  · rfl
  split
  · split
    · rfl
    · rw [pair_er]; exact bind_er fun a L1 => rfl
  split
  · split
    · rfl
    · rw [pair_er]; exact bind_er fun a L1 => rfl
  split
  · split
    · rfl
    · rw [day_er]; exact bind_er fun a L1 => rfl
  split
  · rw [addon_er]; exact bind_er fun a L1 => rfl
  split
  · rw [tier_er]; exact bind_er fun a L1 => rfl
  cases simpleI (bs (hdT L).text) with
  | none => rfl
  | some i =>
    dsimp only
    split
    · rfl
    · rw [num_er]; exact thenN_er fun a L1 => rfl
theorem gitems_er : ∀ (f : Nat) (L : List Tk) (g : Gm) (seen : List (List Nat)), gitemsT f (erL L) g seen = mapX (gitemsT f L g seen)
  | 0, L, g, seen => rfl
  | f + 1, L, g, seen => by
    unfold gitemsT
    rw [(hd_er L).1]
    split
    · rw [item_er]
      refine bind_er fun a L1 => ?_
      dsimp only
      rw [is_er]
      exact thenI_er fun L2 => gitems_er f L2 _ _
    · rfl
theorem close_er (x : Gm × List (List Nat)) (L : List Tk) : closeT (x, erL L) = mapE (closeT (x, L)) := by
  unfold closeT
  dsimp only
  rw [is_er]
  cases isT 3 (asc "}") L with
  | none => rfl
  | some L1 =>
    dsimp only [Option.map, thenT]
    rw [(hd_er L1).1]
    split <;> rfl
theorem game_er (L : List Tk) : gameT (erL L) = mapE (gameT L) := by
  unfold gameT
  rw [is_er]
  cases isT 1 (asc "game") L with
  | none => rfl
  | some L1 =>
    dsimp only [Option.map, thenT]
    rw [(hd_er L1).1, (hd_er L1).2, nx_er]
    split
    · rfl
    rw [is_er]
    cases isT 3 (asc "{") (nxT L1) with
    | none => rfl
    | some L3 =>
      dsimp only [Option.map]
      rw [len_er, gitems_er]
      cases gitemsT L3.length L3 (gm0 (hdT L1).text) [] with
      | error e => rfl
      | ok y => exact close_er y.1 y.2
theorem er_of_Kt {L L' : List Tk} (h : L.map Kt = L'.map Kt) : erL L = erL L' := by
  induction L generalizing L' with
  | nil => cases L' with
    | nil => rfl
    | cons t r => cases h
  | cons t r ih => cases L' with
    | nil => cases h
    | cons t' r' =>
      simp only [List.map_cons, List.cons.injEq, Kt, Prod.mk.injEq] at h
      show erT t :: erL r = erT t' :: erL r'
      rw [ih h.2]
      unfold erT
      rw [h.1.1, bs_inj h.1.2]
/-! Where an error stands. -/
structure Cl (P : List Tk → Prop) : Prop where
  nx : ∀ L, P L → P (nxT L)
def okX {α : Type} (P : List Tk → Prop) (x : Except (Int × List Tk) (α × List Tk)) : Prop := match x with
  | .ok y => P y.2
  | .error e => e.1 ≠ 0 ∧ P e.2
theorem ne1 : (1 : Int) ≠ 0 := by decide
theorem ne6 : (6 : Int) ≠ 0 := by decide
theorem okX_bind {α β : Type} {P : List Tk → Prop} {x : Except (Int × List Tk) (α × List Tk)} {f : α × List Tk → Except (Int × List Tk) (β × List Tk)} (h : okX P x) (hf : ∀ y, P y.2 → okX P (f y)) : okX P (bindT x f) := by
  cases x with
  | ok y => exact hf y h
  | error e => exact h
theorem okX_num {β : Type} {P : List Tk → Prop} (hP : Cl P) {L L0 : List Tk} (h : P L) (h0 : P L0) {f : Int × List Tk → Except (Int × List Tk) (β × List Tk)} (hf : ∀ y, P y.2 → okX P (f y)) : okX P (thenT (numT L) L0 f) := by
  cases hn : numT L with
  | none => exact ⟨ne1, h0⟩
  | some y => exact hf y (by rw [(num_some (x := y.1) (L' := y.2) hn).2.2.2]; exact hP.nx L h)
theorem okX_less {β : Type} {P : List Tk → Prop} (hP : Cl P) {m : Int} {L L0 : List Tk} (h : P L) (h0 : P L0) {f : Int × List Tk → Except (Int × List Tk) (β × List Tk)} (hf : ∀ y, P y.2 → okX P (f y)) : okX P (thenT (lessT m L) L0 f) := by
  unfold lessT
  cases hn : numT L with
  | none => exact ⟨ne1, h0⟩
  | some y =>
    dsimp only
    split
    · exact hf y (by rw [(num_some (x := y.1) (L' := y.2) hn).2.2.2]; exact hP.nx L h)
    · exact ⟨ne1, h0⟩
theorem okX_is {β : Type} {P : List Tk → Prop} (hP : Cl P) {k : Int} {w : List Nat} {L L0 : List Tk} (h : P L) (h0 : P L0) {f : List Tk → Except (Int × List Tk) (β × List Tk)} (hf : ∀ L', P L' → okX P (f L')) : okX P (thenT (isT k w L) L0 f) := by
  cases hn : isT k w L with
  | none => exact ⟨ne1, h0⟩
  | some y => exact hf y (by rw [(is_some hn).2.2]; exact hP.nx L h)
theorem nums_cl {P : List Tk → Prop} (hP : Cl P) : ∀ (f : Nat) (L : List Tk), P L → P (numsT f L).2
  | 0, L, h => h
  | f + 1, L, h => by
    unfold numsT
    cases hn : numT L with
    | none => exact h
    | some a => exact nums_cl hP f a.2 (by rw [(num_some (x := a.1) (L' := a.2) hn).2.2.2]; exact hP.nx L h)
section
variable {P : List Tk → Prop} (hP : Cl P)
include hP
theorem pair_cl {L : List Tk} (h : P L) : okX P (pairT L) := okX_num hP h h fun _ h1 => okX_is hP h1 h1 fun _ h2 => okX_num hP h2 h2 fun _ h3 => h3
theorem days_cl : ∀ (f : Nat) (L : List Tk) (d : Nat), P L → okX P (daysT f L d)
  | 0, L, d, h => ⟨ne1, h⟩
  | f + 1, L, d, h => by
    unfold daysT
    split
    · exact hP.nx L h
    split
    · exact ⟨ne1, h⟩
    cases dayI (bs (hdT L).text) with
    | none => exact ⟨ne1, h⟩
    | some i =>
      dsimp only
      split
      · exact ⟨ne1, h⟩
      · exact days_cl f _ _ (hP.nx L h)
theorem day_cl {L : List Tk} (h : P L) : okX P (dayT L) := okX_bind (days_cl hP _ _ _ h) fun _ h1 => okX_less hP h1 h1 fun _ h2 => okX_is hP h2 h2 fun _ h3 => okX_less hP h3 h3 fun _ h4 => h4
theorem hit_cl {w : List Nat} {L : List Tk} (h : P L) : okX P (hitT w L) := by
  unfold hitT
  cases hi : isT 1 w L with
  | none => exact h
  | some L1 =>
    have h1 : P L1 := by rw [(is_some hi).2.2]; exact hP.nx L h
    exact okX_num hP h1 h1 fun _ h2 => h2
theorem mode_cl {L : List Tk} (h : P L) : okX P (modeT L) := by
  unfold modeT
  cases h1 : isT 1 (asc "exact") L with
  | some L1 => exact (by rw [(is_some h1).2.2]; exact hP.nx L h : P L1)
  | none =>
  cases h2 : isT 1 (asc "box") L with
  | some L1 => exact (by rw [(is_some h2).2.2]; exact hP.nx L h : P L1)
  | none =>
  cases h3 : isT 1 (asc "front") L with
  | some L1 =>
    have h4 : P L1 := by rw [(is_some h3).2.2]; exact hP.nx L h
    exact okX_num hP h4 h4 fun _ h2 => h2
  | none =>
  cases h4 : isT 1 (asc "back") L with
  | some L1 =>
    have h5 : P L1 := by rw [(is_some h4).2.2]; exact hP.nx L h
    exact okX_num hP h5 h5 fun _ h2 => h2
  | none => exact okX_bind (hit_cl hP h) fun _ h1 => okX_bind (hit_cl hP h1) fun _ h2 => okX_bind (hit_cl hP h2) fun _ h3 => h3
theorem tier_cl {L : List Tk} (h : P L) : okX P (tierT L) := okX_bind (mode_cl hP h) fun m h1 => by
  split
  · exact ⟨ne1, h1⟩
  · cases prizeK (bs (hdT m.2).text) with
    | none => exact ⟨ne1, h1⟩
    | some k => exact okX_num hP (hP.nx _ h1) (hP.nx _ h1) fun _ h2 => h2
theorem addon_cl {L : List Tk} (h : P L) : okX P (addonT L) := by
  unfold addonT
  have h1 := hP.nx _ h
  have h2 := hP.nx _ h1
  split
  · exact ⟨ne1, h⟩
  split
  · exact ⟨ne1, h1⟩
  split
  · exact okX_num hP h2 h2 fun a h3 => nums_cl hP a.2.length a.2 h3
  split
  · exact okX_num hP h2 h2 fun a h3 => okX_num hP h3 h3 fun b h4 => nums_cl hP b.2.length b.2 h4
  · exact ⟨ne1, h1⟩
theorem itemG_cl {L : List Tk} {g : Gm} {seen : List (List Nat)} (h : P L) : okX P (itemG L g seen) := by
  unfold itemG
  have h1 := hP.nx _ h
  split
  · exact ⟨ne1, h⟩
  split
  · split
    · exact ⟨ne6, h⟩
    · exact okX_bind (pair_cl hP h1) fun _ h2 => h2
  split
  · split
    · exact ⟨ne6, h⟩
    · exact okX_bind (pair_cl hP h1) fun _ h2 => h2
  split
  · split
    · exact ⟨ne6, h⟩
    · exact okX_bind (day_cl hP h1) fun _ h2 => h2
  split
  · exact okX_bind (addon_cl hP h1) fun _ h2 => h2
  split
  · exact okX_bind (tier_cl hP h1) fun _ h2 => h2
  cases simpleI (bs (hdT L).text) with
  | none => exact ⟨ne1, h⟩
  | some i =>
    dsimp only
    split
    · exact ⟨ne6, h⟩
    · exact okX_num hP h1 h1 fun _ h2 => h2
theorem gitems_cl : ∀ (f : Nat) (L : List Tk) (g : Gm) (seen : List (List Nat)), P L → okX P (gitemsT f L g seen)
  | 0, L, g, seen, h => ⟨ne1, h⟩
  | f + 1, L, g, seen, h => by
    unfold gitemsT
    split
    · exact okX_bind (itemG_cl hP h) fun _ h1 => okX_is hP h1 h1 fun _ h2 => gitems_cl f _ _ _ h2
    · exact h
theorem game_cl {L : List Tk} (h : P L) {e : Int} {L' : List Tk} (he : gameT L = .error (e, L')) : e ≠ 0 ∧ P L' := by
  unfold gameT at he
  cases h1 : isT 1 (asc "game") L with
  | none => rw [h1] at he; injection he with he; injection he with he1 he2; subst he1 he2; exact ⟨by decide, h⟩
  | some L1 =>
    have p1 : P L1 := by rw [(is_some h1).2.2]; exact hP.nx L h
    rw [h1] at he
    dsimp only [thenT] at he
    split at he
    · injection he with he; injection he with he1 he2; subst he1 he2; exact ⟨by decide, p1⟩
    have p2 := hP.nx _ p1
    cases h3 : isT 3 (asc "{") (nxT L1) with
    | none => rw [h3] at he; injection he with he; injection he with he1 he2; subst he1 he2; exact ⟨by decide, p2⟩
    | some L3 =>
      have p3 : P L3 := by rw [(is_some h3).2.2]; exact hP.nx _ p2
      rw [h3] at he
      dsimp only at he
      have hg := gitems_cl hP L3.length L3 (gm0 (hdT L1).text) [] p3
      cases hgi : gitemsT L3.length L3 (gm0 (hdT L1).text) [] with
      | error z =>
        rw [hgi] at he hg
        injection he with he
        rw [he] at hg
        exact hg
      | ok y =>
        rw [hgi] at he hg
        have he : closeT y = _ := he
        unfold closeT at he
        cases h5 : isT 3 (asc "}") y.2 with
        | none => rw [h5] at he; injection he with he; injection he with he1 he2; subst he1 he2; exact ⟨by decide, hg⟩
        | some L5 =>
          have p5 : P L5 := by rw [(is_some h5).2.2]; exact hP.nx _ hg
          rw [h5] at he
          dsimp only [thenT] at he
          split at he
          · cases he
          · injection he with he; injection he with he1 he2; subst he1 he2; exact ⟨by decide, p5⟩
end
end Go.Proofs.YtbdkggnajipdhaaDoor
/- Plain: chapter 11, tokens joined with blanks or remarks between them. No program in sight. -/
namespace Go.Proofs.YtbdkggnajipdhaaDoor
def sepR : List Nat := [9, 35, 59, 125, 10, 32]
theorem Lx_rem {r : List Nat} {S : List (Nat × List Nat)} (h : Lx (10 :: r) S) : Lx (35 :: 59 :: 125 :: 10 :: r) S := fun at_ => by
  obtain ⟨T, h1, h2, h3⟩ := h (at_ + 3)
  have hs : spn remB (35 :: 59 :: 125 :: 10 :: r) = 3 := by
    rw [spn_cons_pos (by decide), spn_cons_pos (by decide), spn_cons_pos (by decide), spn_cons_neg (by decide)]
  refine ⟨T, ?_, fun t ht => by have := h2 t ht; omega, ?_⟩
  · rw [hash_one, hs]
    exact h1
  · rw [← h3]
    refine List.map_congr_left fun t ht => ?_
    have := h2 t ht
    rw [show t.2.1 - at_ = (t.2.1 - (at_ + 3)) + 3 by omega]
    rfl
def sepOk (sep : List Nat) : Prop := (∀ (r : List Nat) (S : List (Nat × List Nat)), Lx r S → Lx (sep ++ r) S) ∧ ∀ r c r', sep ++ r = c :: r' → wordB c = false ∧ digitB c = false
theorem sepR_ok : sepOk sepR := ⟨fun r S h => Lx_blank (by decide) (Lx_rem (Lx_blank (by decide) (Lx_blank (by decide) h))), fun r c r' e => by
  injection e with e _; subst e; exact ⟨by decide, by decide⟩⟩
theorem sepB_ok : sepOk [32] := ⟨fun r S h => Lx_blank (by decide) h, fun r c r' e => by injection e with e _; subst e; exact ⟨by decide, by decide⟩⟩
theorem Lx_seps {sep : List Nat} (hs : sepOk sep) : ∀ S : List (Nat × List Nat), (∀ x ∈ S, good x.1 x.2) → Lx ((S.flatMap fun x => sep ++ x.2) ++ (sep ++ [])) S
  | [], _ => by
    rw [List.flatMap_nil, List.nil_append]
    exact hs.1 _ _ Lx_nil
  | x :: S, h => by
    rw [List.flatMap_cons, List.append_assoc, List.append_assoc]
    refine hs.1 _ _ (Lx_tok (h x (by simp)) (fun c r' e => ?_) (Lx_seps hs S fun y hy => h y (by simp [hy])))
    cases S with
    | nil => exact hs.2 _ c r' e
    | cons y S =>
      rw [List.flatMap_cons, List.append_assoc, List.append_assoc] at e
      exact hs.2 _ c r' e
/-- The tokens' kinds and texts. -/
theorem scan_S {s : ByteArray} (h : (scanE s).1 = 0) : ∃ S : List (Nat × List Nat), (∀ x ∈ S, good x.1 x.2) ∧ (scanE s).2.2.map Kt = S.map (fun x => ((x.1 : Int), x.2)) ++ [(0, [])] ∧ (scanE s).2.2.map (fun t => bs t.text) = S.map (·.2) ++ [[]] ∧
    (S.map (·.2.length)).sum ≤ s.size ∧ S.length ≤ s.size := by
  unfold scanE at h ⊢
  split at h
  · cases h
  · rename_i hs
    rw [if_neg hs]
    cases hl : lexR 0 (bs s) with
    | error e => rw [hl] at h; cases h
    | ok T =>
      have hg := lexR_good _ _ 0 T (Nat.le_refl _) hl
      have hsum := lexR_sum _ _ 0 T (Nat.le_refl _) hl
      rw [bs_len] at hsum
      have hge := sum_ge T fun t ht => (hg t ht).2.1
      have ht : ∀ x ∈ T, bs (tokOf s x).text = ((bs s).drop x.2.1).take x.2.2 := fun x hx => by
        show bs (s.extract x.2.1 (x.2.1 + x.2.2)) = _
        rw [bs_extract, Nat.add_sub_cancel_left]
      refine ⟨T.map fun x => (x.1, ((bs s).drop x.2.1).take x.2.2), fun y hy => ?_, ?_, ?_, ?_, ?_⟩
      · obtain ⟨x, hx, rfl⟩ := List.mem_map.1 hy
        have := (hg x hx).2.2.2
        simpa using this
      · dsimp only
        rw [List.map_append, List.map_map, List.map_map]
        congr 1
        refine List.map_congr_left fun x hx => ?_
        show ((x.1 : Int), bs (tokOf s x).text) = _
        rw [ht x hx]
        rfl
      · dsimp only
        rw [List.map_append, List.map_map, List.map_map]
        congr 1
        exact List.map_congr_left fun x hx => ht x hx
      · rw [List.map_map]
        refine Nat.le_trans ?_ hsum
        have key : ∀ L : List (Nat × Nat × Nat), (L.map ((fun y : Nat × List Nat => y.2.length) ∘ fun x => (x.1, ((bs s).drop x.2.1).take x.2.2))).sum ≤ (L.map (·.2.2)).sum := fun L => by
          induction L with
          | nil => exact Nat.le_refl _
          | cons x L ih =>
            simp only [List.map_cons, List.sum_cons, Function.comp_apply]
            have : (((bs s).drop x.2.1).take x.2.2).length ≤ x.2.2 := List.length_take_le _ _
            omega
        exact key T
      · rw [List.length_map]
        omega
theorem flat_map_bs (sep : List Nat) : ∀ r : List ByteArray, (r.flatMap fun y => sep ++ bs y) = (r.map bs).flatMap fun y => sep ++ y
  | [] => rfl
  | y :: r => by rw [List.flatMap_cons, List.map_cons, List.flatMap_cons, flat_map_bs sep r]
theorem flat_map_S (sep : List Nat) : ∀ S : List (Nat × List Nat), ((S.map (·.2)).flatMap fun y => sep ++ y) = S.flatMap fun x => sep ++ x.2
  | [] => rfl
  | y :: r => by rw [List.map_cons, List.flatMap_cons, List.flatMap_cons, flat_map_S sep r]
theorem size_bs : ∀ L : List ByteArray, sizeS L = ((L.map bs).map List.length).sum
  | [] => rfl
  | x :: r => by rw [sizeS, List.map_cons, List.map_cons, List.sum_cons, bs_len, size_bs r]
/-- The texts of the tokens. -/
def partsT (T : List Tk) : List ByteArray := T.map (·.text)
theorem parts_bs (T : List Tk) : (partsT T).map bs = T.map fun t => bs t.text := by rw [partsT, List.map_map]; rfl
theorem join_scan {s sep : ByteArray} (hs : s.size ≤ 3000) (hsep : sep.size ≤ 6) (h : (scanE s).1 = 0) (hok : sepOk (bs sep)) :
    (joinS (bs sep) (partsT (scanE s).2.2)).length ≤ 32768 ∧ ∃ L, scanE (toBA (joinS (bs sep) (partsT (scanE s).2.2))) = (0, 0, L) ∧ L.map Kt = (scanE s).2.2.map Kt := by
  obtain ⟨S, hg, hK, hT, hsum, hlen⟩ := scan_S h
  generalize hTT : (scanE s).2.2 = T at *
  have hp := parts_bs T
  rw [hT] at hp
  have hpl : (partsT T).length = S.length + 1 := by
    have := congrArg List.length hp
    simpa using this
  have hsz : sizeS (partsT T) ≤ s.size := by
    rw [size_bs, hp, List.map_append, List.sum_append, List.map_map]
    simpa [Function.comp_def] using hsum
  have hjl : (joinS (bs sep) (partsT T)).length ≤ 32768 := by
    rw [joinS_len, bs_len, hpl, Nat.add_sub_cancel]
    have : sep.size * S.length ≤ 6 * 3000 := Nat.mul_le_mul hsep (by omega)
    omega
  refine ⟨hjl, ?_⟩
  have hb : bs (toBA (joinS (bs sep) (partsT T))) = joinS (bs sep) (partsT T) := bs_toBA (joinS_lt sep _)
  have hLx : Lx (joinS (bs sep) (partsT T)) S := by
    cases hpt : partsT T with
    | nil => rw [hpt] at hpl; simp at hpl
    | cons x r =>
      rw [hpt, List.map_cons] at hp
      rw [joinS, flat_map_bs]
      cases S with
      | nil =>
        simp only [List.map_nil, List.nil_append, List.cons.injEq] at hp
        rw [hp.1, hp.2]
        exact Lx_nil
      | cons y S =>
        simp only [List.map_cons, List.cons_append, List.cons.injEq] at hp
        rw [hp.1, hp.2, List.flatMap_append, flat_map_S]
        have e : ([[]] : List (List Nat)).flatMap (fun y => bs sep ++ y) = bs sep ++ [] := by simp
        rw [e]
        refine Lx_tok (hg y (by simp)) (fun c r' e => ?_) (Lx_seps hok S fun z hz => hg z (by simp [hz]))
        cases S with
        | nil => exact hok.2 _ c r' e
        | cons z S =>
          rw [List.flatMap_cons, List.append_assoc, List.append_assoc] at e
          exact hok.2 _ c r' e
  obtain ⟨L, h1, h2⟩ := scan_Lx (s := toBA (joinS (bs sep) (partsT T))) (by rw [← bs_len, hb]; exact hjl) (by rw [hb]; exact hLx)
  exact ⟨L, h1, by rw [h2, hK]⟩
theorem lines_one {u : ByteArray} {L : List Tk} (h : scanE u = (0, 0, L)) (hn : (bs u).count 10 = 0) : ∀ t ∈ L, t.line = 1 := by
  have hpl : ∀ l : List Nat, l.count 10 = 0 → (place l).1 = 1 := fun l hl => by
    unfold place
    rw [fold_line, hl]
    rfl
  unfold scanE at h
  split at h
  · cases h
  · cases hl : lexR 0 (bs u) with
    | error e => rw [hl] at h; injection h with h _; cases h
    | ok T =>
      rw [hl] at h
      injection h with _ h
      injection h with _ h
      subst h
      intro t ht
      rcases List.mem_append.1 ht with ht | ht
      · obtain ⟨x, _, rfl⟩ := List.mem_map.1 ht
        refine hpl _ ?_
        rw [List.count_eq_zero] at hn ⊢
        exact fun hm => hn (List.mem_of_mem_take hm)
      · rw [List.mem_singleton] at ht
        subst ht
        exact hpl _ hn
theorem good_no10 {k : Nat} {t : List Nat} (h : good k t) : 10 ∉ t := fun hm => by
  rcases h with ⟨_, _, h⟩ | ⟨_, _, h⟩ | ⟨_, d, rfl, h⟩
  · exact absurd (h 10 hm) (by decide)
  · exact absurd (h 10 hm) (by decide)
  · rw [List.mem_singleton] at hm
    subst hm
    exact absurd h (by decide)
/-- THE LAW, in plain words: the three readings. -/
theorem blanks_law {s r b : ByteArray} (hs : s.size ≤ 3000) (h : (scanE s).1 = 0) (hr : r.size ≤ 6) (hro : sepOk (bs r)) (hb : bs b = [32]) :
    (parseG (toBA (joinS (bs r) (partsT (scanE s).2.2)))).1 = (parseG s).1 ∧ (parseG (toBA (joinS (bs r) (partsT (scanE s).2.2)))).2.1 = (parseG s).2.1 ∧
    (parseG (toBA (joinS (bs b) (partsT (scanE s).2.2)))).1 = (parseG s).1 ∧ (parseG (toBA (joinS (bs b) (partsT (scanE s).2.2)))).2.1 = (parseG s).2.1 ∧
    (((parseG s).2.1 = 0 ∧ (parseG (toBA (joinS (bs b) (partsT (scanE s).2.2)))).2.2 = 0) ∨ ((parseG s).2.1 ≠ 0 ∧ (parseG (toBA (joinS (bs b) (partsT (scanE s).2.2)))).2.2 = 1)) := by
  have hb1 : b.size ≤ 6 := by rw [← bs_len, hb]; decide
  obtain ⟨_, Lr, r1, r2⟩ := join_scan hs hr h hro
  obtain ⟨_, Lb, b1, b2⟩ := join_scan hs hb1 h (hb ▸ sepB_ok)
  have hcnt : (bs (toBA (joinS (bs b) (partsT (scanE s).2.2)))).count 10 = 0 := by
    rw [bs_toBA (joinS_lt b _), List.count_eq_zero]
    obtain ⟨S, hg, hK, hT, _, _⟩ := scan_S h
    have hp := parts_bs (scanE s).2.2
    rw [hT] at hp
    have hno : ∀ x ∈ partsT (scanE s).2.2, 10 ∉ bs x := fun x hx hm => by
      have : bs x ∈ S.map (·.2) ++ [[]] := by rw [← hp]; exact List.mem_map.2 ⟨x, hx, rfl⟩
      rcases List.mem_append.1 this with h | h
      · obtain ⟨y, hy, e⟩ := List.mem_map.1 h
        exact good_no10 (hg y hy) (by rw [e]; exact hm)
      · rw [List.mem_singleton] at h; rw [h] at hm; cases hm
    cases hpt : partsT (scanE s).2.2 with
    | nil => intro hm; cases hm
    | cons x q =>
      rw [hpt] at hno
      intro hm
      rcases List.mem_append.1 hm with hm | hm
      · exact hno x (by simp) hm
      · obtain ⟨y, hy, hm⟩ := List.mem_flatMap.1 hm
        rcases List.mem_append.1 hm with hm | hm
        · rw [hb] at hm; simp at hm
        · exact hno y (by simp [hy]) hm
  have hl1 := lines_one b1 hcnt
  have hpar : ∀ {u : ByteArray} {L : List Tk}, scanE u = (0, 0, L) → parseG u = match gameT L with | .ok g => (g, 0, 0) | .error (e, L) => (noGm, e, (hdT L).line) := fun {u L} hu => by
    unfold parseG
    rw [hu]
    rfl
  have hs0 : parseG s = match gameT (scanE s).2.2 with | .ok g => (g, 0, 0) | .error (e, L) => (noGm, e, (hdT L).line) := by
    unfold parseG
    rw [if_neg (by rw [h]; decide), if_neg (fun hn => hn h)]
    cases gameT (scanE s).2.2 <;> rfl
  rw [hpar r1, hpar b1, hs0]
  have er := game_er (scanE s).2.2
  have err := game_er Lr
  have erb := game_er Lb
  rw [er_of_Kt r2, er] at err
  rw [er_of_Kt b2, er] at erb
  have hne : Lb ≠ [] := by
    intro hn
    rw [hn] at b2
    obtain ⟨S, _, hK, _⟩ := scan_S h
    rw [hK] at b2
    simp at b2
  have hnx : ∀ L : List Tk, L ≠ [] → nxT L ≠ [] := fun L hL => by
    match L with
    | [] => exact absurd rfl hL
    | [_] => exact fun e => by cases e
    | _ :: _ :: _ => exact fun e => by cases e
  have hP : Cl fun L => L ≠ [] ∧ ∀ t ∈ L, t.line = 1 := ⟨fun L hL => ⟨hnx L hL.1, fun t ht => hL.2 t (nx_sub L t ht)⟩⟩
  cases hg : gameT (scanE s).2.2 with
  | ok G =>
    rw [hg] at err erb
    cases hgr : gameT Lr with
    | error e => rw [hgr] at err; cases err
    | ok G1 =>
      cases hgb : gameT Lb with
      | error e => rw [hgb] at erb; cases erb
      | ok G2 =>
        rw [hgr] at err
        rw [hgb] at erb
        injection err with err
        injection erb with erb
        subst err erb
        exact ⟨rfl, rfl, rfl, rfl, .inl ⟨rfl, rfl⟩⟩
  | error e =>
    rw [hg] at err erb
    cases hgr : gameT Lr with
    | ok e => rw [hgr] at err; cases err
    | error e1 =>
      cases hgb : gameT Lb with
      | ok e => rw [hgb] at erb; cases erb
      | error e2 =>
        rw [hgr] at err
        rw [hgb] at erb
        injection err with err
        injection erb with erb
        injection err with err _
        injection erb with erb _
        obtain ⟨ea, La⟩ := e
        obtain ⟨eb, Lb2⟩ := e1
        obtain ⟨ec, Lc⟩ := e2
        dsimp only at err erb
        subst err erb
        obtain ⟨hne0, hL, hl⟩ := game_cl hP ⟨hne, hl1⟩ hgb
        refine ⟨rfl, rfl, rfl, rfl, .inr ⟨hne0, ?_⟩⟩
        cases Lc with
        | nil => exact absurd rfl hL
        | cons t q => exact hl t (by simp)
end Go.Proofs.YtbdkggnajipdhaaDoor
