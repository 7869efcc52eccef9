/- Texts laid one behind the other: JnA, JnB, OtA, OtW, OtB, OtX, RtV, OtC. Each says at its head what it proves. -/
import Derived.Test.YtbdkggnajipdhaaGreatDoorRtTwZ14
import Derived.Lib.Split
import Derived.Lib.Fields
import Derived.Lib.Strings
set_option linter.unusedSimpArgs false
/- Walks: strings.Builder's grow and Grow at a builder that has not been written; strings.Join. -/
namespace Go.Proofs.YtbdkggnajipdhaaGreatDoor
open Nat (reduceAdd reduceMul reduceSub reduceEqDiff reduceLT reduceLeDiff)
open Go.RowKit
set_option maxRecDepth 100000
/-- A builder without a byte, with room. -/
theorem grow_any (b : Nat) (n : Nat) (w : World) (hbk : w.heap[b]? = some (.cells #[.pointer (some ⟨b, 0, none⟩), .slice none 0 0] 67 (0, 0))) (hn : n ≤ 1000000000) : Calls Tryz.prog 90 #[.pointer (some ⟨b, 0, none⟩), .int .i64 n] w fun e w' => (∃ v, e = .returned v) ∧ BldIn b w' [] ∧ Below b w w' := by
  refine calls_W (l := [_, _]) Tryz.func90 rfl _ Tryz.ntmps90 (by simp) ?_
  have h : Row w b 67 [.pointer (some ⟨b, 0, none⟩), .slice none 0 0] := ⟨_, hbk, [], by simp⟩
  have c1 := h.cell (i := 1) rfl
  have hcp : ∀ {ty : TypeId} {w : World} {a : Option Addr} {n c : Nat}, vCap Tryz.prog 65 ty (.slice a n c) w = .ok (.value (.int .i64 c)) w := fun {_ _ _ _ _} => vCap_slc Tryz.underlying65
  have hln : ∀ {w : World} {k n c : Nat}, vSlice Tryz.prog 65 (.slice (some ⟨k, 0, none⟩) n c) none (some (.int .i64 ((0 : Nat) : Int))) none w = .ok (.value (.slice (some ⟨k, 0, none⟩) 0 c)) w := fun {w k n c} => by
    rw [vSlice_to Tryz.underlying65 (sz := 1) (by kernel_rfl) (by omega) (by omega)]
    split <;> rfl
  have hcy : ∀ {ty : TypeId} {w : World} {d a : Option Addr} {m c c2 : Nat}, vCopy Tryz.prog 65 65 ty (.slice d m c) (.slice a 0 c2) w = .ok (.value (.int .i64 0)) w := fun {_ _ _ _ _ _ _} => vCopy_none Tryz.underlying65 (by kernel_rfl) (Nat.zero_min _)
  simp +contextual (maxSteps := 2000000) (disch := first | omega | (simp only [SZ]; first | done | omega) | (simp only [TS] at *; omega)) only [RZ, ovw, oneC, reduceAdd, reduceMul, reduceSub, reduceEqDiff, reduceLT, ↓reduceIte, Int.reduceToNat, reduceLeDiff]
  refine Raw_ord (fun w' => w'.cell? ⟨b, 1, none⟩ = some (.slice none 0 0)) 16 rfl MX ?_
  refine Ord_reads (τ := ?ta) [0, 1, 2, 3, 4, 5, 6, 7, 9, 10, 11, 12, 13] 3 rfl (by kernel_rfl) (by kernel_rfl) (fun _ _ _ h => h) c1 ?va ?_
  case va =>
    intro w7 h7
    simp only [opsL_cons, opsL_nil, List.getElem?_toArray, List.getElem?_cons_zero, List.getElem?_cons_succ, optL_some]
    simp +contextual (maxSteps := 2000000) (disch := first | omega | (simp only [SZ]; first | done | omega) | (simp only [TS] at *; omega)) only [RZ, ovw, oneC, reduceAdd, reduceMul, reduceSub, reduceEqDiff, reduceLT, ↓reduceIte, Int.reduceToNat, reduceLeDiff,  h7, r_cap, hcp]
    exact rfl
  obtain ⟨cs, hrun, hle, hmax⟩ := Lib.run_makeNoZero (P := Tryz.prog) w.drew #[3] 65 5 Tryz.underlying65 n (by omega)
  have cl : vCall Tryz.prog 126 #[.int .i64 n] w.drew = .ok (.value (.slice (some ⟨w.drew.heap.size, 0, none⟩) n cs.size)) (w.drew.drew.drew.alloc (.cells cs 5)) := by
    unfold vCall
    rw [run_callFunc_extern Tryz.func126 (by kernel_rfl) (by kernel_rfl) (by kernel_rfl) (e := Extern.BytealgMakeNoZero.makeNoZero #[3] #[65]) (by kernel_rfl), hrun]
    rfl
  rw [vCall_at] at cl
  refine Ord_one 8 (by kernel_rfl) rfl ?_
  have ea : ((2 : Int) * ((0 : Nat) : Int) + (n : Int)) = n := by simp
  have hbl := h.lt
  have rD : Row w.drew b 67 _ := h.kept (X := []) (Kept.refl [] w).drew (by simp)
  have rA : Row (w.drew.drew.drew.alloc (.cells cs 5)) b 67 [.pointer (some ⟨b, 0, none⟩), .slice none 0 0] := ((h.kept (X := []) ((Kept.refl [] w).drew.drew.drew) (by simp))).alloc _
  have eh : w.drew.drew.drew.heap.size = w.heap.size := rfl
  have ed : w.drew.heap.size = w.heap.size := rfl
  have ca := rA.cell (i := 1) rfl
  have cz := rA.frozen 1
  simp +contextual (maxSteps := 2000000) (disch := first | omega | (simp only [SZ]; first | done | omega) | (simp only [TS] at *; omega)) only [RZ, ovw, oneC, reduceAdd, reduceMul, reduceSub, reduceEqDiff, reduceLT, ↓reduceIte, Int.reduceToNat, reduceLeDiff,  ea, cl]
  refine ⟨c1, ?_⟩
  refine Ord_chainS _ [14, 15] _ _ _ (by kernel_rfl) ?_
  simp only [opsL_cons, opsL_nil, List.getElem?_toArray, List.getElem?_cons_zero, List.getElem?_cons_succ, optL_some]
  have ca : (w.alloc (.cells cs 5)).cell? ⟨b, 1, none⟩ = _ := ca
  have cz : (w.alloc (.cells cs 5)).frozen? ⟨b, 1, none⟩ = _ := cz
  simp +contextual (maxSteps := 2000000) (disch := first | omega | (simp only [SZ]; first | done | omega) | (simp only [TS] at *; omega)) only [RZ, ovw, oneC, reduceAdd, reduceMul, reduceSub, reduceEqDiff, reduceLT, ↓reduceIte, Int.reduceToNat, reduceLeDiff,  EC_op, EC_nil, hln, c1, ca, cz, r_copy, hcy]
  have hbl := h.lt
  have hb1 : (w.setCell ⟨b, 1, none⟩ (.slice (some ⟨w.heap.size, 0, none⟩) 0 cs.size)).heap[b]? = some (.cells #[.pointer (some ⟨b, 0, none⟩), .slice (some ⟨w.heap.size, 0, none⟩) 0 cs.size] 67 (0, 0)) := by
    simp [World.setCell, Array.getElem?_modify, hbk]
  have hz : (w.setCell ⟨b, 1, none⟩ (.slice (some ⟨w.heap.size, 0, none⟩) 0 cs.size)).heap.size = w.heap.size := World.size_setCell _ _ _
  have kB : Below b w ((w.setCell ⟨b, 1, none⟩ (.slice (some ⟨w.heap.size, 0, none⟩) 0 cs.size)).alloc (.cells cs 5)) := ((Below.refl b w).setCell (p := ⟨b, 1, none⟩) (Nat.le_refl _) _).trans ((below_alloc _ _).mono (by omega))
  generalize hw1 : w.setCell ⟨b, 1, none⟩ (.slice (some ⟨w.heap.size, 0, none⟩) 0 cs.size) = w1 at *
  have hb2 : (w1.alloc (.cells cs 5)).heap[b]? = _ := (Lib.alloc_old w1 _ b (by omega)).trans hb1
  have hown : (w1.alloc (.cells cs 5)).ownsRow b 5 1 (.slice (some ⟨w.heap.size, 0, none⟩) 0 cs.size) 0 [] :=
    ⟨rfl, .inr ⟨w.heap.size, cs.size, cs, rfl, Nat.le_of_lt hbl, by rw [← hz]; exact heap_alloc_new w1 _, Nat.zero_le _, hmax (by unfold maxLen; omega), (Nat.mul_one _).symm, rfl⟩⟩
  refine ⟨⟨_, rfl⟩, ⟨.inr ⟨Nat.le_refl _, _, hb2, hown, by simp [Value.ownBlock]; omega⟩, fun n h => by cases h⟩, ?_⟩
  exact ⟨kB.os, kB.tape, kB.output, kB.size, kB.block⟩
theorem copyCheck_fresh (b : Nat) (w : World) (hbk : w.heap[b]? = some (.cells #[.pointer none, .slice none 0 0] 67 (0, 0))) :
    Calls Tryz.prog 71 #[.pointer (some ⟨b, 0, none⟩)] w fun e w' => e = .returned (.tuple #[]) ∧ w' = w.setCell ⟨b, 0, none⟩ (.pointer (some ⟨b, 0, none⟩)) := by
  refine calls_W (l := [_]) Tryz.func71 rfl _ Tryz.ntmps71 (by simp) ?_
  obtain ⟨j, hj, hjs⟩ := Option.map_eq_some_iff.1 (show (Tryz.prog.info? 67).map (·.size) = some 2 by kernel_rfl)
  have ne : ∀ (x y : Operand) (w : World), vBin Tryz.prog .neq 64 x y (.pointer (some ⟨b, 0, none⟩)) (.pointer (some ⟨b, 0, none⟩)) w = .ok (.value (.bool false)) w := fun x y w => by
    simp only [vBin, eqGuard]
    simp [Lib.run_neq_ptr_same w _ Tryz.underlying64 hj]
  have h : Row w b 67 [.pointer none, .slice none 0 0] := ⟨_, hbk, [], by simp⟩
  have hsh : w.shape? b = some (67, 2) := by simp [World.shape?, hbk]
  have c0 := h.cell (i := 0) rfl
  have z0 := h.frozen 0
  have cs : (w.setCell ⟨b, 0, none⟩ (.pointer (some ⟨b, 0, none⟩))).cell? ⟨b, 0, none⟩ = some (.pointer (some ⟨b, 0, none⟩)) := by rw [cS_same, c0]; rfl
  have cv1 : vConvert Tryz.prog 64 125 (.pointer (some ⟨b, 0, none⟩)) w = .ok (.value (.pointer (some ⟨b, 0, none⟩))) w := by
    simp [vConvert, Lib.run_to_unsafe w ⟨b, 0, none⟩ Tryz.underlying64 Tryz.underlying125 hj (by rw [hjs]; decide) hsh (Nat.zero_lt_succ 1)]
  have cv2 : vConvert Tryz.prog 125 64 (.pointer (some ⟨b, 0, none⟩)) w = .ok (.value (.pointer (some ⟨b, 0, none⟩))) w := by
    simp [vConvert, Lib.run_from_unsafe w ⟨b, 0, none⟩ Tryz.underlying125 Tryz.underlying64 hj hsh (by kernel_rfl)]
  have cl : vCall Tryz.prog 119 #[.pointer (some ⟨b, 0, none⟩)] w = .ok (.value (.pointer (some ⟨b, 0, none⟩))) w := by
    unfold vCall
    rw [run_callFunc_extern Tryz.func119 (by kernel_rfl) (by kernel_rfl) (by kernel_rfl) (e := Extern.AbiNoEscape.same) (by kernel_rfl), Lib.run_noEscape]
    rfl
  rw [vCall_at] at cl
  simp +contextual (maxSteps := 2000000) (disch := first | omega | (simp only [SZ]; first | done | omega) | (simp only [TS] at *; omega)) only [RZ, ovw, oneC, reduceAdd, reduceMul, reduceSub, reduceEqDiff, reduceLT, ↓reduceIte, Int.reduceToNat, reduceLeDiff,  c0]
  refine W_if_t rfl ?_
  simp +contextual (maxSteps := 2000000) (disch := first | omega | (simp only [SZ]; first | done | omega) | (simp only [TS] at *; omega)) only [RZ, ovw, oneC, reduceAdd, reduceMul, reduceSub, reduceEqDiff, reduceLT, ↓reduceIte, Int.reduceToNat, reduceLeDiff,  c0, z0, cv1, cv2, cl, cs, ne]
theorem Grow_any (b n : Nat) (w : World) (hbk : w.heap[b]? = some (.cells #[.pointer none, .slice none 0 0] 67 (0, 0))) (hn : n ≤ 1000000000) : Calls Tryz.prog 49 #[.pointer (some ⟨b, 0, none⟩), .int .i64 n] w fun e w' => (∃ v, e = .returned v) ∧ BldIn b w' [] ∧ Below b w w' := by
  refine calls_W (l := [_, _]) Tryz.func49 rfl _ Tryz.ntmps49 (by simp) ?_
  have hcp : ∀ {ty : TypeId} {w : World} {a : Option Addr} {n c : Nat}, vCap Tryz.prog 65 ty (.slice a n c) w = .ok (.value (.int .i64 c)) w := fun {_ _ _ _ _} => vCap_slc Tryz.underlying65
  simp +contextual (maxSteps := 2000000) (disch := first | omega | (simp only [SZ]; first | done | omega) | (simp only [TS] at *; omega)) only [RZ, ovw, oneC, reduceAdd, reduceMul, reduceSub, reduceEqDiff, reduceLT, ↓reduceIte, Int.reduceToNat, reduceLeDiff]
  refine (copyCheck_fresh b w hbk).mono ?_
  rintro e w1 ⟨rfl, hw1⟩
  refine ⟨_, rfl, ?_⟩
  have hb1 : w1.heap[b]? = some (.cells #[.pointer (some ⟨b, 0, none⟩), .slice none 0 0] 67 (0, 0)) := by
    rw [hw1]; simp [World.setCell, Array.getElem?_modify, hbk]
  have k1 : Below b w w1 := by rw [hw1]; exact (Below.refl b w).setCell (p := ⟨b, 0, none⟩) (Nat.le_refl _) _
  clear hw1
  have h1 : Row w1 b 67 [.pointer (some ⟨b, 0, none⟩), .slice none 0 0] := ⟨_, hb1, [], by simp⟩
  have e0 : decide ((n : Int) < 0) = false := decide_eq_false (by omega)
  have c1 : w1.drew.cell? _ = _ := h1.cell (i := 1) rfl
  have hbd : w1.drew.heap[b]? = _ := hb1
  have kd : Below b w w1.drew := ⟨k1.os, k1.tape, k1.output, k1.size, k1.block⟩
  try simp +contextual (maxSteps := 2000000) (disch := first | omega | (simp only [SZ]; first | done | omega) | (simp only [TS] at *; omega)) only [RZ, ovw, oneC, reduceAdd, reduceMul, reduceSub, reduceEqDiff, reduceLT, ↓reduceIte, Int.reduceToNat, reduceLeDiff,  e0]
  refine W_if_f rfl ?_
  simp +contextual (maxSteps := 2000000) (disch := first | omega | (simp only [SZ]; first | done | omega) | (simp only [TS] at *; omega)) only [RZ, ovw, oneC, reduceAdd, reduceMul, reduceSub, reduceEqDiff, reduceLT, ↓reduceIte, Int.reduceToNat, reduceLeDiff]
  refine Raw_still MX (by kernel_rfl) ?_
  generalize w1.drew = w2 at *
  simp +contextual (maxSteps := 2000000) (disch := first | omega | (simp only [SZ]; first | done | omega) | (simp only [TS] at *; omega)) only [RZ, ovw, oneC, reduceAdd, reduceMul, reduceSub, reduceEqDiff, reduceLT, ↓reduceIte, Int.reduceToNat, reduceLeDiff,  c1, r_cap, hcp]
  by_cases hn0 : 0 < n
  · have e1 : decide (((0 : Nat) : Int) - ((0 : Nat) : Int) < (n : Int)) = true := decide_eq_true (by simp; omega)
    refine W_if_t (by simp +contextual (maxSteps := 2000000) (disch := first | omega | (simp only [SZ]; first | done | omega) | (simp only [TS] at *; omega)) only [RZ, ovw, oneC, reduceAdd, reduceMul, reduceSub, reduceEqDiff, reduceLT, ↓reduceIte, Int.reduceToNat, reduceLeDiff,  e1]) ?_
    simp +contextual (maxSteps := 2000000) (disch := first | omega | (simp only [SZ]; first | done | omega) | (simp only [TS] at *; omega)) only [RZ, ovw, oneC, reduceAdd, reduceMul, reduceSub, reduceEqDiff, reduceLT, ↓reduceIte, Int.reduceToNat, reduceLeDiff]
    refine (grow_any b n w2 hbd hn).mono ?_
    rintro e w3 ⟨⟨v, rfl⟩, h3, k3⟩
    refine ⟨_, rfl, ?_⟩
    try simp +contextual (maxSteps := 2000000) (disch := first | omega | (simp only [SZ]; first | done | omega) | (simp only [TS] at *; omega)) only [RZ, ovw, oneC, reduceAdd, reduceMul, reduceSub, reduceEqDiff, reduceLT, ↓reduceIte, Int.reduceToNat, reduceLeDiff]
    exact ⟨⟨_, rfl⟩, h3, kd.trans k3⟩
  · have e1 : decide (((0 : Nat) : Int) - ((0 : Nat) : Int) < (n : Int)) = false := decide_eq_false (by simp; omega)
    refine W_if_f (by simp +contextual (maxSteps := 2000000) (disch := first | omega | (simp only [SZ]; first | done | omega) | (simp only [TS] at *; omega)) only [RZ, ovw, oneC, reduceAdd, reduceMul, reduceSub, reduceEqDiff, reduceLT, ↓reduceIte, Int.reduceToNat, reduceLeDiff,  e1]) ?_
    simp +contextual (maxSteps := 2000000) (disch := first | omega | (simp only [SZ]; first | done | omega) | (simp only [TS] at *; omega)) only [RZ, ovw, oneC, reduceAdd, reduceMul, reduceSub, reduceEqDiff, reduceLT, ↓reduceIte, Int.reduceToNat, reduceLeDiff]
    exact ⟨⟨_, rfl⟩, ⟨.inr ⟨Nat.le_refl _, .slice none 0 0, hbd, World.ownsRow_nil _ _ _ _, by simp [Value.ownBlock]⟩, fun n h => by cases h⟩, kd⟩
end Go.Proofs.YtbdkggnajipdhaaGreatDoor
/- Walk: strings.Join. -/
namespace Go.Proofs.YtbdkggnajipdhaaGreatDoor
open Nat (reduceAdd reduceMul reduceSub reduceEqDiff reduceLT reduceLeDiff)
open Go.RowKit
set_option maxRecDepth 100000
/-- Texts with a separator between them. -/
def joinS (sep : List Nat) : List ByteArray → List Nat
  | [] => []
  | x :: r => bs x ++ r.flatMap fun y => sep ++ bs y
def sizeS : List ByteArray → Nat
  | [] => 0
  | x :: r => x.size + sizeS r
theorem flatS_len (sep : List Nat) : ∀ r : List ByteArray, (r.flatMap fun y => sep ++ bs y).length = sep.length * r.length + sizeS r
  | [] => rfl
  | y :: r => by
    rw [List.flatMap_cons, List.length_append, List.length_append, flatS_len sep r, bs_len, sizeS, List.length_cons, Nat.mul_succ]
    omega
theorem joinS_len (sep : List Nat) (L : List ByteArray) : (joinS sep L).length = sep.length * (L.length - 1) + sizeS L := by
  cases L with
  | nil => rfl
  | cons x r =>
    rw [joinS, List.length_append, flatS_len, bs_len, sizeS, List.length_cons, Nat.add_sub_cancel]
    omega
theorem sizeS_take : ∀ (L : List ByteArray) (k : Nat) (x : ByteArray), L[k]? = some x → sizeS (L.take (k + 1)) = sizeS (L.take k) + x.size
  | [], k, x, h => by simp at h
  | y :: L, 0, x, h => by
    simp only [List.getElem?_cons_zero, Option.some.injEq] at h
    subst h
    simp [sizeS]
  | y :: L, k + 1, x, h => by
    rw [List.getElem?_cons_succ] at h
    rw [List.take_succ_cons, List.take_succ_cons, sizeS, sizeS, sizeS_take L k x h]
    omega
theorem sizeS_le : ∀ (L : List ByteArray) (k : Nat), sizeS (L.take k) ≤ sizeS L
  | [], k => by simp [sizeS]
  | y :: L, 0 => Nat.zero_le _
  | y :: L, k + 1 => by
    rw [List.take_succ_cons, sizeS, sizeS]
    have := sizeS_le L k
    omega
theorem joinS_take (sep : List Nat) (L : List ByteArray) {k : Nat} {x : ByteArray} (h : L[k + 1]? = some x) : joinS sep (L.take (k + 2)) = joinS sep (L.take (k + 1)) ++ sep ++ bs x := by
  cases L with
  | nil => simp at h
  | cons y r =>
    rw [List.getElem?_cons_succ] at h
    rw [List.take_succ_cons, List.take_succ_cons, joinS, joinS, List.take_add_one, h]
    simp
theorem joinS_lt (sep : ByteArray) : ∀ L : List ByteArray, ∀ c ∈ joinS (bs sep) L, c < 256
  | [], c, h => by cases h
  | x :: r, c, h => by
    rcases List.mem_append.1 h with h | h
    · exact bs_lt x c h
    · obtain ⟨y, _, h⟩ := List.mem_flatMap.1 h
      rcases List.mem_append.1 h with h | h
      · exact bs_lt sep c h
      · exact bs_lt y c h
theorem joinS_one (sep : List Nat) {L : List ByteArray} {x : ByteArray} (h : L.length = 1) (h0 : L[0]? = some x) : toBA (joinS sep L) = x := by
  match L, h, h0 with
  | [y], _, h0 =>
    simp only [List.getElem?_cons_zero, Option.some.injEq] at h0
    subst h0
    show toBA (bs y ++ []) = y
    rw [List.append_nil]
    exact bs_inj (bs_toBA (bs_lt y))
set_option maxHeartbeats 1000000 in
theorem sjoin_any (L : List ByteArray) (sep : ByteArray) (A : Option Addr) (c : Nat) (w : World) (hA : Arr w A 1 (L.map fun s => [Value.string s])) (hc : L.length ≤ c) (hN : L.length ≤ 1000000) (hs : sep.size ≤ 1000) (hl : (joinS (bs sep) L).length ≤ 1000000000) :
    Calls Tryz.prog 17 #[.slice A L.length c, .string sep] w fun e w' => e = .returned (.string (toBA (joinS (bs sep) L))) ∧ Below w.heap.size w w' := by
  refine calls_W (l := [_, _]) Tryz.func17 rfl _ Tryz.ntmps17 (by simp) ?_
  refine W_piece fun K hK hX => ?_
  simp +contextual (maxSteps := 2000000) (disch := first | omega | (simp only [SZ]; first | done | omega) | (simp only [TS] at *; omega)) only [RZ, ovw, oneC, reduceAdd, reduceMul, reduceSub, reduceEqDiff, reduceLT, ↓reduceIte, Int.reduceToNat, reduceLeDiff]
  refine hK _ _ ?_
  clear hK hX K
  refine W_pieceP (fun _ _ _ h => h) fun K hK hX hP => ?_
  refine W_piece fun K2 hK2 hX2 => ?_
  simp +contextual (maxSteps := 2000000) (disch := first | omega | (simp only [SZ]; first | done | omega) | (simp only [TS] at *; omega)) only [RZ, ovw, oneC, reduceAdd, reduceMul, reduceSub, reduceEqDiff, reduceLT, ↓reduceIte, Int.reduceToNat, reduceLeDiff]
  refine hK2 _ _ ?_
  clear hK2 hX2 K2
  rw [W_block]
  by_cases h0 : L.length = 0
  · have hn : L = [] := List.length_eq_zero_iff.1 h0
    subst hn
    simp +contextual (maxSteps := 2000000) (disch := first | omega | (simp only [SZ]; first | done | omega) | (simp only [TS] at *; omega)) only [RZ, ovw, oneC, reduceAdd, reduceMul, reduceSub, reduceEqDiff, reduceLT, ↓reduceIte, Int.reduceToNat, reduceLeDiff]
    refine W_if_t rfl ?_
    refine W_piece fun K2 hK2 hX2 => ?_
    simp +contextual (maxSteps := 2000000) (disch := first | omega | (simp only [SZ]; first | done | omega) | (simp only [TS] at *; omega)) only [RZ, ovw, oneC, reduceAdd, reduceMul, reduceSub, reduceEqDiff, reduceLT, ↓reduceIte, Int.reduceToNat, reduceLeDiff]
    refine hK2 _ _ ?_
    clear hK2 hX2 K2
    rw [W_ret]
    refine hX _ _ _ (fun h => by cases h) ?_
    simp +contextual (maxSteps := 2000000) (disch := first | omega | (simp only [SZ]; first | done | omega) | (simp only [TS] at *; omega)) only [RZ, ovw, oneC, reduceAdd, reduceMul, reduceSub, reduceEqDiff, reduceLT, ↓reduceIte, Int.reduceToNat, reduceLeDiff]
    exact ⟨rfl, Below.refl _ _⟩
  have e0 : ((L.length : Int) = 0) = False := eq_false (by omega)
  refine W_piece fun K2 hK2 hX2 => ?_
  simp +contextual (maxSteps := 2000000) (disch := first | omega | (simp only [SZ]; first | done | omega) | (simp only [TS] at *; omega)) only [RZ, ovw, oneC, reduceAdd, reduceMul, reduceSub, reduceEqDiff, reduceLT, ↓reduceIte, Int.reduceToNat, reduceLeDiff,  e0]
  refine hK2 _ _ ?_
  clear hK2 hX2 K2
  refine W_if_f rfl ?_
  obtain ⟨x0, hx0⟩ : ∃ x, L[0]? = some x := ⟨_, List.getElem?_eq_getElem (by omega)⟩
  obtain ⟨bA, o, rfl, hbA, _⟩ := hA.at_ hx0
  have hcell : ∀ (k : Nat) (x : ByteArray), L[k]? = some x → w.cell? ⟨bA, o + k, none⟩ = some (.string x) := fun k x hx => by
    obtain ⟨b', o', e', _, hc'⟩ := hA.at_ hx
    injection e' with e'
    injection e' with e' e''
    subst e' e''
    have := hc' 0 _ rfl
    rw [Nat.mul_one, Nat.add_zero] at this
    exact this
  by_cases h1 : L.length = 1
  · have e1 : ((L.length : Int) = 1) = True := eq_true (by omega)
    have l0 := hcell 0 x0 hx0
    rw [Nat.add_zero] at l0
    refine W_piece fun K2 hK2 hX2 => ?_
    simp +contextual (maxSteps := 2000000) (disch := first | omega | (simp only [SZ]; first | done | omega) | (simp only [TS] at *; omega)) only [RZ, ovw, oneC, reduceAdd, reduceMul, reduceSub, reduceEqDiff, reduceLT, ↓reduceIte, Int.reduceToNat, reduceLeDiff,  e1]
    refine hK2 _ _ ?_
    clear hK2 hX2 K2
    refine W_if_t rfl ?_
    refine W_piece fun K2 hK2 hX2 => ?_
    simp +contextual (maxSteps := 2000000) (disch := first | omega | (simp only [SZ]; first | done | omega) | (simp only [TS] at *; omega)) only [RZ, ovw, oneC, reduceAdd, reduceMul, reduceSub, reduceEqDiff, reduceLT, ↓reduceIte, Int.reduceToNat, reduceLeDiff,  l0]
    refine hK2 _ _ ?_
    clear hK2 hX2 K2
    rw [W_ret]
    refine hX _ _ _ (fun h => by cases h) ?_
    have hj := joinS_one (bs sep) h1 hx0
    rw [hj]
    simp +contextual (maxSteps := 2000000) (disch := first | omega | (simp only [SZ]; first | done | omega) | (simp only [TS] at *; omega)) only [RZ, ovw, oneC, reduceAdd, reduceMul, reduceSub, reduceEqDiff, reduceLT, ↓reduceIte, Int.reduceToNat, reduceLeDiff]
    exact Below.refl _ _
  have e1 : ((L.length : Int) = 1) = False := eq_false (by omega)
  refine W_piece fun K2 hK2 hX2 => ?_
  simp +contextual (maxSteps := 2000000) (disch := first | omega | (simp only [SZ]; first | done | omega) | (simp only [TS] at *; omega)) only [RZ, ovw, oneC, reduceAdd, reduceMul, reduceSub, reduceEqDiff, reduceLT, ↓reduceIte, Int.reduceToNat, reduceLeDiff,  e1]
  refine hK2 _ _ ?_
  clear hK2 hX2 K2
  refine W_if_f rfl ?_
  rw [W_skip]
  refine hK _ _ ?_
  clear hK hX hP K
  -- the length
  obtain ⟨m, hm⟩ : ∃ m : Nat, L.length = m + 1 := ⟨L.length - 1, by omega⟩
  have hjl := joinS_len (bs sep) L
  rw [bs_len, hm, Nat.add_sub_cancel] at hjl
  refine W_piece fun K hK hX => ?_
  simp +contextual (maxSteps := 2000000) (disch := first | omega | (simp only [SZ]; first | done | omega) | (simp only [TS] at *; omega)) only [RZ, ovw, oneC, reduceAdd, reduceMul, reduceSub, reduceEqDiff, reduceLT, ↓reduceIte, Int.reduceToNat, reduceLeDiff]
  refine hK _ _ ?_
  clear hK hX K
  have hcm : ((L.length : Int) - 1) = (m : Int) := by omega
  have hq : (sep.size : Int) < 9223372036854775807 / (m : Int) := by
    have h2 : sep.size < 9223372036854775807 / m := by
      have : sep.size + 1 ≤ 9223372036854775807 / m := by
        rw [Nat.le_div_iff_mul_le (by omega)]
        have : (sep.size + 1) * m ≤ 1001 * 1000000 := Nat.mul_le_mul (by omega) (by omega)
        omega
      omega
    have e : (9223372036854775807 : Int) / (m : Int) = ((9223372036854775807 / m : Nat) : Int) := IntWalk.up_div (x := 9223372036854775807) rfl rfl
    rw [e]
    generalize 9223372036854775807 / m = q at *
    omega
  have hmul : sep.size * m ≤ 1000 * 1000000 := Nat.mul_le_mul (by omega) (by omega)
  refine W_cutS (fun σ w2 => w2 = w ∧ σ 0 = .slice (some ⟨bA, o, none⟩) L.length c ∧ σ 1 = .string sep ∧ σ 5 = .int .i64 ((sep.size * m : Nat) : Int)) ?_ ?_
  rotate_left
  · by_cases hs0 : 0 < sep.size
    · have e2 : decide ((0 : Int) < (sep.size : Int)) = true := decide_eq_true (by omega)
      refine W_piece fun K2 hK2 hX2 => ?_
      simp +contextual (maxSteps := 2000000) (disch := first | omega | (simp only [SZ]; first | done | omega) | (simp only [TS] at *; omega)) only [RZ, ovw, oneC, reduceAdd, reduceMul, reduceSub, reduceEqDiff, reduceLT, ↓reduceIte, Int.reduceToNat, reduceLeDiff]
      refine hK2 _ _ ?_
      clear hK2 hX2 K2
      refine W_if_t (by simp +contextual (maxSteps := 2000000) (disch := first | omega | (simp only [SZ]; first | done | omega) | (simp only [TS] at *; omega)) only [RZ, ovw, oneC, reduceAdd, reduceMul, reduceSub, reduceEqDiff, reduceLT, ↓reduceIte, Int.reduceToNat, reduceLeDiff,  e2]) ?_
      refine W_piece fun K2 hK2 hX2 => ?_
      refine W_piece fun K3 hK3 hX3 => ?_
      simp +contextual (maxSteps := 2000000) (disch := first | omega | (simp only [SZ]; first | done | omega) | (simp only [TS] at *; omega)) only [RZ, ovw, oneC, reduceAdd, reduceMul, reduceSub, reduceEqDiff, reduceLT, ↓reduceIte, Int.reduceToNat, reduceLeDiff,  hcm]
      refine hK3 _ _ ?_
      clear hK3 hX3 K3
      have e3 : decide ((9223372036854775807 : Int) / (m : Int) ≤ (sep.size : Int)) = false := decide_eq_false (by generalize (9223372036854775807 : Int) / (m : Int) = q at *; omega)
      refine W_if_f (by simp +contextual (maxSteps := 2000000) (disch := first | omega | (simp only [SZ]; first | done | omega) | (simp only [TS] at *; omega)) only [RZ, ovw, oneC, reduceAdd, reduceMul, reduceSub, reduceEqDiff, reduceLT, ↓reduceIte, Int.reduceToNat, reduceLeDiff,  e3]) ?_
      rw [W_skip]
      refine hK2 _ _ ?_
      clear hK2 hX2 K2
      have hp : (sep.size : Int) * (m : Int) = ((sep.size * m : Nat) : Int) := (Int.natCast_mul _ _).symm
      have hp0 : 0 ≤ (sep.size : Int) * (m : Int) := by rw [hp]; omega
      have hp1 : (sep.size : Int) * (m : Int) ≤ 1000000000 := by rw [hp]; omega
      simp +contextual (maxSteps := 2000000) (disch := first | omega | (simp only [SZ]; first | done | omega) | (simp only [TS] at *; omega)) only [RZ, ovw, oneC, reduceAdd, reduceMul, reduceSub, reduceEqDiff, reduceLT, ↓reduceIte, Int.reduceToNat, reduceLeDiff,  hcm]
      rw [← hp]
      congr 1
      omega
    · have e2 : decide ((0 : Int) < (sep.size : Int)) = false := decide_eq_false (by omega)
      refine W_piece fun K2 hK2 hX2 => ?_
      simp +contextual (maxSteps := 2000000) (disch := first | omega | (simp only [SZ]; first | done | omega) | (simp only [TS] at *; omega)) only [RZ, ovw, oneC, reduceAdd, reduceMul, reduceSub, reduceEqDiff, reduceLT, ↓reduceIte, Int.reduceToNat, reduceLeDiff]
      refine hK2 _ _ ?_
      clear hK2 hX2 K2
      refine W_if_f (by simp +contextual (maxSteps := 2000000) (disch := first | omega | (simp only [SZ]; first | done | omega) | (simp only [TS] at *; omega)) only [RZ, ovw, oneC, reduceAdd, reduceMul, reduceSub, reduceEqDiff, reduceLT, ↓reduceIte, Int.reduceToNat, reduceLeDiff,  e2]) ?_
      simp +contextual (maxSteps := 2000000) (disch := first | omega | (simp only [SZ]; first | done | omega) | (simp only [TS] at *; omega)) only [RZ, ovw, oneC, reduceAdd, reduceMul, reduceSub, reduceEqDiff, reduceLT, ↓reduceIte, Int.reduceToNat, reduceLeDiff]
      rw [show sep.size = 0 by omega, Nat.zero_mul]
      rfl
  clear hq hjl
  have hjl := joinS_len (bs sep) L
  rw [bs_len, hm, Nat.add_sub_cancel] at hjl
  rintro σ w2 ⟨rfl, f0, f1, f5⟩
  -- the sum of the lengths
  refine W_cutS (fun σ w3 => w3 = w2 ∧ σ 0 = .slice (some ⟨bA, o, none⟩) L.length c ∧ σ 1 = .string sep ∧ σ 5 = .int .i64 ((sep.size * m + sizeS L : Nat) : Int)) ?_ ?_
  rotate_left
  · refine W_piece fun K2 hK2 hX2 => ?_
    simp +contextual (maxSteps := 2000000) (disch := first | omega | (simp only [SZ]; first | done | omega) | (simp only [TS] at *; omega)) only [RZ, ovw, oneC, reduceAdd, reduceMul, reduceSub, reduceEqDiff, reduceLT, ↓reduceIte, Int.reduceToNat, reduceLeDiff,  f0]
    refine hK2 _ _ ?_
    clear hK2 hX2 K2
    simp +contextual (maxSteps := 2000000) (disch := first | omega | (simp only [SZ]; first | done | omega) | (simp only [TS] at *; omega)) only [RZ, ovw, oneC, reduceAdd, reduceMul, reduceSub, reduceEqDiff, reduceLT, ↓reduceIte, Int.reduceToNat, reduceLeDiff]
    refine Raw_loop (fun σ w3 => w3 = w2 ∧ ∃ k : Nat, k ≤ L.length ∧ σ 0 = .slice (some ⟨bA, o, none⟩) L.length c ∧ σ 1 = .string sep ∧ σ 5 = .int .i64 ((sep.size * m + sizeS (L.take k) : Nat) : Int) ∧ σ 39 = .slice (some ⟨bA, o, none⟩) L.length c ∧ σ 40 = .int .i64 L.length ∧ σ 41 = .int .i64 k) (fun σ _ => L.length - (intOf (σ 41)).toNat) ?_ ?_
    · simp +contextual (maxSteps := 2000000) (disch := first | omega | (simp only [SZ]; first | done | omega) | (simp only [TS] at *; omega)) only [RZ, ovw, oneC, reduceAdd, reduceMul, reduceSub, reduceEqDiff, reduceLT, ↓reduceIte, Int.reduceToNat, reduceLeDiff,  f0, f1, f5]
      exact ⟨0, Nat.zero_le _, rfl, rfl⟩
    rintro σ w3 ⟨rfl, k, hk, f0, f1, f5, f39, f40, f41⟩ K hK
    have hle := sizeS_le L k
    generalize hmm : sep.size * m = M at *
    by_cases hkl : k < L.length
    · have e2 : ((k : Int) < (L.length : Int)) = True := eq_true (by omega)
      obtain ⟨x, hx⟩ : ∃ x, L[k]? = some x := ⟨_, List.getElem?_eq_getElem hkl⟩
      have hst := sizeS_take L k x hx
      have hle2 := sizeS_le L (k + 1)
      have lk := hcell k x hx
      have e3 : ((9223372036854775807 : Int) - ((M + sizeS (L.take k) : Nat) : Int) < (x.size : Int)) = False := eq_false (by omega)
      simp +contextual (maxSteps := 2000000) (disch := first | omega | (simp only [SZ]; first | done | omega) | (simp only [TS] at *; omega)) only [RZ, ovw, oneC, reduceAdd, reduceMul, reduceSub, reduceEqDiff, reduceLT, ↓reduceIte, Int.reduceToNat, reduceLeDiff,  f39, f40, f41, e2]
      refine W_if_t rfl ?_
      rw [W_skip]
      simp +contextual (maxSteps := 2000000) (disch := first | omega | (simp only [SZ]; first | done | omega) | (simp only [TS] at *; omega)) only [RZ, ovw, oneC, reduceAdd, reduceMul, reduceSub, reduceEqDiff, reduceLT, ↓reduceIte, Int.reduceToNat, reduceLeDiff,  f0, f1, f5, f39, f41, lk, e3]
      refine W_if_f rfl ?_
      simp +contextual (maxSteps := 2000000) (disch := first | omega | (simp only [SZ]; first | done | omega) | (simp only [TS] at *; omega)) only [RZ, ovw, oneC, reduceAdd, reduceMul, reduceSub, reduceEqDiff, reduceLT, ↓reduceIte, Int.reduceToNat, reduceLeDiff,  f5, f41]
      refine hK _ _ ⟨rfl, k + 1, by omega, ?_⟩ ?_
      · simp +contextual (maxSteps := 2000000) (disch := first | omega | (simp only [SZ]; first | done | omega) | (simp only [TS] at *; omega)) only [RZ, ovw, oneC, reduceAdd, reduceMul, reduceSub, reduceEqDiff, reduceLT, ↓reduceIte, Int.reduceToNat, reduceLeDiff,  f0, f1, f39, f40]
        rw [hst]
        congr 1
        omega
      · simp +contextual (maxSteps := 2000000) (disch := first | omega | (simp only [SZ]; first | done | omega) | (simp only [TS] at *; omega)) only [RZ, ovw, oneC, reduceAdd, reduceMul, reduceSub, reduceEqDiff, reduceLT, ↓reduceIte, Int.reduceToNat, reduceLeDiff,  intOf, f41]
        omega
    · have e2 : ((k : Int) < (L.length : Int)) = False := eq_false (by omega)
      have hkk : L.take k = L := List.take_of_length_le (by omega)
      rw [hkk] at f5
      simp +contextual (maxSteps := 2000000) (disch := first | omega | (simp only [SZ]; first | done | omega) | (simp only [TS] at *; omega)) only [RZ, ovw, oneC, reduceAdd, reduceMul, reduceSub, reduceEqDiff, reduceLT, ↓reduceIte, Int.reduceToNat, reduceLeDiff,  f39, f40, f41, e2]
      refine W_if_f rfl ?_
      simp +contextual (maxSteps := 2000000) (disch := first | omega | (simp only [SZ]; first | done | omega) | (simp only [TS] at *; omega)) only [RZ, ovw, oneC, reduceAdd, reduceMul, reduceSub, reduceEqDiff, reduceLT, ↓reduceIte, Int.reduceToNat, reduceLeDiff,  f0, f1, f5]
  clear f0 f1 f5 σ
  rintro σ w2 ⟨rfl, f0, f1, f5⟩
  have hbl : bA < w2.heap.size := hbA
  have hszn : sep.size * m + sizeS L ≤ 1000000000 := by omega
  generalize hnn : sep.size * m + sizeS L = n at *
  refine W_piece fun K hK hX => ?_
  simp +contextual (maxSteps := 2000000) (disch := first | omega | (simp only [SZ]; first | done | omega) | (simp only [TS] at *; omega)) only [RZ, ovw, oneC, reduceAdd, reduceMul, reduceSub, reduceEqDiff, reduceLT, ↓reduceIte, Int.reduceToNat, reduceLeDiff,  f0, f1, f5]
  have hbk := heap_alloc_new w2 (.cells #[.pointer none, .slice none 0 0] 67)
  have hB3 := below_alloc w2 (.cells #[.pointer none, .slice none 0 0] 67)
  refine hK _ _ ?_
  clear hK hX K
  generalize w2.alloc (.cells #[.pointer none, .slice none 0 0] 67) = w3 at *
  refine W_piece fun K hK hX => ?_
  simp +contextual (maxSteps := 2000000) (disch := first | omega | (simp only [SZ]; first | done | omega) | (simp only [TS] at *; omega)) only [RZ, ovw, oneC, reduceAdd, reduceMul, reduceSub, reduceEqDiff, reduceLT, ↓reduceIte, Int.reduceToNat, reduceLeDiff,  f5]
  refine (Grow_any w2.heap.size n w3 hbk hszn).mono ?_
  rintro e w4 ⟨⟨v, rfl⟩, h4, hB4⟩
  refine ⟨_, rfl, ?_⟩
  have hF4 := hB3.trans hB4
  try simp +contextual (maxSteps := 2000000) (disch := first | omega | (simp only [SZ]; first | done | omega) | (simp only [TS] at *; omega)) only [RZ, ovw, oneC, reduceAdd, reduceMul, reduceSub, reduceEqDiff, reduceLT, ↓reduceIte, Int.reduceToNat, reduceLeDiff]
  refine hK _ _ ?_
  clear hK hX K hbk
  have lcell : ∀ (w' : World), Below w2.heap.size w2 w' → ∀ (k : Nat) (x : ByteArray), L[k]? = some x → w'.cell? ⟨bA, o + k, none⟩ = some (.string x) := fun w' hB k x hx => ((bcell hB).1 _ _ hbl).trans (hcell k x hx)
  have l0 := lcell w4 hF4 0 x0 hx0
  rw [Nat.add_zero] at l0
  have htk : ∀ k, (joinS (bs sep) (L.take k)).length ≤ 1000000000 := fun k => by
    rw [joinS_len, bs_len]
    have h1 := sizeS_le L k
    have h2 : sep.size * ((L.take k).length - 1) ≤ sep.size * m := Nat.mul_le_mul_left _ (by rw [List.length_take]; omega)
    omega
  refine W_piece fun K hK hX => ?_
  simp +contextual (maxSteps := 2000000) (disch := first | omega | (simp only [SZ]; first | done | omega) | (simp only [TS] at *; omega)) only [RZ, ovw, oneC, reduceAdd, reduceMul, reduceSub, reduceEqDiff, reduceLT, ↓reduceIte, Int.reduceToNat, reduceLeDiff,  f0, l0]
  have hx0l := htk 1
  have ht1 : joinS (bs sep) (L.take 1) = bs x0 := by
    rw [List.take_add_one, hx0]
    simp [joinS]
  rw [ht1, bs_len] at hx0l
  refine (h4.write x0 (by rw [List.length_nil]; omega)).mono ?_
  rintro e w5 ⟨rfl, h5, hB5, _⟩
  refine ⟨_, rfl, ?_⟩
  rw [List.nil_append, ← ht1] at h5
  have hF5 := hF4.trans hB5
  try simp +contextual (maxSteps := 2000000) (disch := first | omega | (simp only [SZ]; first | done | omega) | (simp only [TS] at *; omega)) only [RZ, ovw, oneC, reduceAdd, reduceMul, reduceSub, reduceEqDiff, reduceLT, ↓reduceIte, Int.reduceToNat, reduceLeDiff]
  refine hK _ _ ?_
  clear hK hX K
  have hsl : vSlice Tryz.prog 35 (.slice (some ⟨bA, o, none⟩) L.length c) (some (.int .i64 1)) none none w5 = .ok (.value (.slice (some ⟨bA, o + 1, none⟩) m (c - 1))) w5 := by
    rw [vSlice_from Tryz.underlying35 (sz := 1) (by kernel_rfl) (by omega) (by omega)]
    rw [if_neg (by simp; omega), hm]
    rfl
  refine W_cutS (fun σ w6 => Below w2.heap.size w2 w6 ∧ BldIn w2.heap.size w6 (joinS (bs sep) L) ∧ σ 8 = .pointer (some ⟨w2.heap.size, 0, none⟩)) ?_ ?_
  rotate_left
  · refine W_piece fun K2 hK2 hX2 => ?_
    simp +contextual (maxSteps := 2000000) (disch := first | omega | (simp only [SZ]; first | done | omega) | (simp only [TS] at *; omega)) only [RZ, ovw, oneC, reduceAdd, reduceMul, reduceSub, reduceEqDiff, reduceLT, ↓reduceIte, Int.reduceToNat, reduceLeDiff,  f0, hsl]
    refine hK2 _ _ ?_
    clear hK2 hX2 K2
    simp +contextual (maxSteps := 2000000) (disch := first | omega | (simp only [SZ]; first | done | omega) | (simp only [TS] at *; omega)) only [RZ, ovw, oneC, reduceAdd, reduceMul, reduceSub, reduceEqDiff, reduceLT, ↓reduceIte, Int.reduceToNat, reduceLeDiff]
    refine Raw_loop (fun σ w6 => Below w2.heap.size w2 w6 ∧ ∃ k : Nat, k ≤ m ∧ BldIn w2.heap.size w6 (joinS (bs sep) (L.take (k + 1))) ∧ σ 1 = .string sep ∧ σ 8 = .pointer (some ⟨w2.heap.size, 0, none⟩) ∧ σ 63 = .slice (some ⟨bA, o + 1, none⟩) m (c - 1) ∧ σ 64 = .int .i64 m ∧ σ 65 = .int .i64 k) (fun σ _ => m - (intOf (σ 65)).toNat) ?_ ?_
    · simp +contextual (maxSteps := 2000000) (disch := first | omega | (simp only [SZ]; first | done | omega) | (simp only [TS] at *; omega)) only [RZ, ovw, oneC, reduceAdd, reduceMul, reduceSub, reduceEqDiff, reduceLT, ↓reduceIte, Int.reduceToNat, reduceLeDiff,  f1]
      exact ⟨hF5, 0, Nat.zero_le _, h5, rfl⟩
    rintro σ w6 ⟨hF6, k, hk, h6, f1, f8, f63, f64, f65⟩ K hK
    by_cases hkm : k < m
    · have e2 : ((k : Int) < (m : Int)) = True := eq_true (by omega)
      obtain ⟨x, hx⟩ : ∃ x, L[k + 1]? = some x := ⟨_, List.getElem?_eq_getElem (by omega)⟩
      have lk := lcell w6 hF6 (k + 1) x hx
      rw [show o + (k + 1) = o + 1 + k by omega] at lk
      have hjt := joinS_take (bs sep) L hx
      have hl2 := htk (k + 2)
      rw [hjt, List.length_append, List.length_append, bs_len, bs_len] at hl2
      simp +contextual (maxSteps := 2000000) (disch := first | omega | (simp only [SZ]; first | done | omega) | (simp only [TS] at *; omega)) only [RZ, ovw, oneC, reduceAdd, reduceMul, reduceSub, reduceEqDiff, reduceLT, ↓reduceIte, Int.reduceToNat, reduceLeDiff,  f63, f64, f65, e2]
      refine W_if_t rfl ?_
      rw [W_skip]
      simp +contextual (maxSteps := 2000000) (disch := first | omega | (simp only [SZ]; first | done | omega) | (simp only [TS] at *; omega)) only [RZ, ovw, oneC, reduceAdd, reduceMul, reduceSub, reduceEqDiff, reduceLT, ↓reduceIte, Int.reduceToNat, reduceLeDiff,  f1, f8, f63, f65, lk]
      refine (h6.write sep (by omega)).mono ?_
      rintro e w7 ⟨rfl, h7, hB7, _⟩
      refine ⟨_, rfl, ?_⟩
      try simp +contextual (maxSteps := 2000000) (disch := first | omega | (simp only [SZ]; first | done | omega) | (simp only [TS] at *; omega)) only [RZ, ovw, oneC, reduceAdd, reduceMul, reduceSub, reduceEqDiff, reduceLT, ↓reduceIte, Int.reduceToNat, reduceLeDiff,  f8]
      refine (h7.write x (by rw [List.length_append, bs_len]; omega)).mono ?_
      rintro e w8 ⟨rfl, h8, hB8, _⟩
      refine ⟨_, rfl, ?_⟩
      rw [← hjt] at h8
      try simp +contextual (maxSteps := 2000000) (disch := first | omega | (simp only [SZ]; first | done | omega) | (simp only [TS] at *; omega)) only [RZ, ovw, oneC, reduceAdd, reduceMul, reduceSub, reduceEqDiff, reduceLT, ↓reduceIte, Int.reduceToNat, reduceLeDiff,  f65]
      refine hK _ _ ⟨(hF6.trans hB7).trans hB8, k + 1, by omega, h8, ?_⟩ ?_
      · simp +contextual (maxSteps := 2000000) (disch := first | omega | (simp only [SZ]; first | done | omega) | (simp only [TS] at *; omega)) only [RZ, ovw, oneC, reduceAdd, reduceMul, reduceSub, reduceEqDiff, reduceLT, ↓reduceIte, Int.reduceToNat, reduceLeDiff,  f1, f8, f63, f64, f65]
      · simp +contextual (maxSteps := 2000000) (disch := first | omega | (simp only [SZ]; first | done | omega) | (simp only [TS] at *; omega)) only [RZ, ovw, oneC, reduceAdd, reduceMul, reduceSub, reduceEqDiff, reduceLT, ↓reduceIte, Int.reduceToNat, reduceLeDiff,  intOf, f65]
        omega
    · have e2 : ((k : Int) < (m : Int)) = False := eq_false (by omega)
      have hkk : L.take (k + 1) = L := List.take_of_length_le (by omega)
      rw [hkk] at h6
      simp +contextual (maxSteps := 2000000) (disch := first | omega | (simp only [SZ]; first | done | omega) | (simp only [TS] at *; omega)) only [RZ, ovw, oneC, reduceAdd, reduceMul, reduceSub, reduceEqDiff, reduceLT, ↓reduceIte, Int.reduceToNat, reduceLeDiff,  f63, f64, f65, e2]
      refine W_if_f rfl ?_
      simp +contextual (maxSteps := 2000000) (disch := first | omega | (simp only [SZ]; first | done | omega) | (simp only [TS] at *; omega)) only [RZ, ovw, oneC, reduceAdd, reduceMul, reduceSub, reduceEqDiff, reduceLT, ↓reduceIte, Int.reduceToNat, reduceLeDiff,  f8]
      exact ⟨hF6, h6⟩
  clear f0 f1 f5 σ
  rintro σ w6 ⟨hF6, h6, f8⟩
  simp +contextual (maxSteps := 2000000) (disch := first | omega | (simp only [SZ]; first | done | omega) | (simp only [TS] at *; omega)) only [RZ, ovw, oneC, reduceAdd, reduceMul, reduceSub, reduceEqDiff, reduceLT, ↓reduceIte, Int.reduceToNat, reduceLeDiff,  f8]
  refine h6.str.mono ?_
  rintro e w7 ⟨rfl, hB7⟩
  refine ⟨_, rfl, ?_⟩
  try simp +contextual (maxSteps := 2000000) (disch := first | omega | (simp only [SZ]; first | done | omega) | (simp only [TS] at *; omega)) only [RZ, ovw, oneC, reduceAdd, reduceMul, reduceSub, reduceEqDiff, reduceLT, ↓reduceIte, Int.reduceToNat, reduceLeDiff]
  exact hF6.trans hB7
end Go.Proofs.YtbdkggnajipdhaaGreatDoor
/- Plain: chapter 11, a printed text's lines and their first words. No program in sight. -/
namespace Go.Proofs.YtbdkggnajipdhaaGreatDoor
def nlB : ByteArray := ⟨#[10]⟩
theorem index_none1 : ∀ l : List UInt8, (10 : UInt8) ∉ l → Lib.index l [10] = -1
  | [], _ => rfl
  | b :: l, h => by
    have hb : b ≠ 10 := fun e => h (by simp [e])
    have hl : (10 : UInt8) ∉ l := fun e => h (List.mem_cons_of_mem _ e)
    have hp : ([10] : List UInt8).isPrefixOf (b :: l) = false := by
      simp [List.isPrefixOf, Ne.symm hb]
    unfold Lib.index
    rw [hp, index_none1 l hl]
    rfl
theorem index_at1 (r : List UInt8) : ∀ l : List UInt8, (10 : UInt8) ∉ l → Lib.index (l ++ 10 :: r) [10] = l.length
  | [], _ => by
    rw [List.nil_append]
    unfold Lib.index
    rw [if_pos (by simp [List.isPrefixOf])]
    rfl
  | b :: l, h => by
    have hb : b ≠ 10 := fun e => h (by simp [e])
    have hl : (10 : UInt8) ∉ l := fun e => h (List.mem_cons_of_mem _ e)
    have hp : ([10] : List UInt8).isPrefixOf (b :: (l ++ 10 :: r)) = false := by
      simp [List.isPrefixOf, Ne.symm hb]
    rw [List.cons_append]
    unfold Lib.index
    rw [hp, index_at1 r l hl, if_neg (by simp), if_neg (by simp only [beq_iff_eq]; omega), List.length_cons]
    omega
theorem mem_u8 {l : List UInt8} (h : 10 ∉ l.map UInt8.toNat) : (10 : UInt8) ∉ l := fun e => h (List.mem_map.2 ⟨10, e, rfl⟩)
theorem idx_none {s : ByteArray} (h : 10 ∉ bs s) : Lib.indexB s nlB = -1 := index_none1 _ (mem_u8 h)
theorem idx_at {s : ByteArray} {l r : List Nat} (h : bs s = l ++ 10 :: r) (hl : 10 ∉ l) : Lib.indexB s nlB = l.length := by
  obtain ⟨l', r', e, e1, e2⟩ := List.map_eq_append_iff.1 h
  obtain ⟨c, r'', rfl, e3, _⟩ := List.map_eq_cons_iff.1 e2
  have hc : c = 10 := UInt8.toNat_inj.1 e3
  subst hc
  subst e1
  show Lib.index s.data.toList [10] = _
  rw [e, index_at1 _ _ (mem_u8 hl), List.length_map]
theorem split_join : ∀ (L : List ByteArray) (x s : ByteArray), (∀ y ∈ x :: L, 10 ∉ bs y) → bs s = joinS [10] (x :: L) → Lib.countB s nlB = L.length ∧ Lib.splitB nlB 0 L.length s = x :: L
  | [], x, s, h, e => by
    have e' : bs s = bs x := by rw [e, joinS, List.flatMap_nil, List.append_nil]
    have hx := idx_none (s := s) (by rw [e']; exact h x (by simp))
    exact ⟨Lib.countB_miss _ _ hx, by rw [Lib.splitB_miss _ _ _ _ hx, bs_inj e']⟩
  | y :: L, x, s, h, e => by
    have e' : bs s = bs x ++ 10 :: joinS [10] (y :: L) := by rw [e]; simp [joinS]
    have hi := idx_at e' (h x (by simp))
    have hlen : (bs s).length = (bs x).length + 1 + (joinS [10] (y :: L)).length := by rw [e', List.length_append, List.length_cons]; omega
    rw [bs_len] at hlen
    have hr : bs (s.extract ((bs x).length + 1) s.size) = joinS [10] (y :: L) := by
      rw [bs_extract, e', List.drop_append, List.drop_eq_nil_of_le (by omega), List.nil_append, show (bs x).length + 1 - (bs x).length = 1 by omega, List.drop_succ_cons, List.drop_zero, List.take_of_length_le (by omega)]
    have hf : s.extract 0 (bs x).length = x := by
      refine bs_inj ?_
      rw [bs_extract, e', List.drop_zero, Nat.sub_zero, List.take_left]
    obtain ⟨h1, h2⟩ := split_join L y _ (fun z hz => h z (List.mem_cons_of_mem _ hz)) hr
    refine ⟨?_, ?_⟩
    · rw [Lib.countB_hit _ _ _ (by decide) hi]
      show 1 + Lib.countB (s.extract ((bs x).length + 1) s.size) nlB = _
      rw [h1, List.length_cons]; omega
    · rw [List.length_cons, Lib.splitB_hit _ _ _ _ _ hi]
      show s.extract 0 ((bs x).length + 0) :: Lib.splitB nlB 0 L.length (s.extract ((bs x).length + 1) s.size) = _
      rw [h2, Nat.add_zero, hf]
theorem trim_nl {s : ByteArray} {l : List Nat} (h : bs s = l ++ [10]) : bs ⟨(Lib.trimSuffix s.data.toList nlB.data.toList).toArray⟩ = l := by
  obtain ⟨l', r', e, e1, e2⟩ := List.map_eq_append_iff.1 h
  obtain ⟨c, r'', rfl, e3, e4⟩ := List.map_eq_cons_iff.1 e2
  obtain rfl := List.map_eq_nil_iff.1 e4
  have hc : c = 10 := UInt8.toNat_inj.1 e3
  subst hc
  show ((Lib.trimSuffix s.data.toList [10]).toArray.toList).map UInt8.toNat = l
  rw [e]
  unfold Lib.trimSuffix Lib.hasSuffix
  rw [if_pos (by rw [List.isSuffixOf_iff_suffix]; exact List.suffix_append _ _)]
  simp [e1]
theorem sp_word {c : Nat} (h : wordB c = true) (u : UInt8) (hu : u.toNat = c) : Lib.isSp u = false := by
  unfold wordB letterB digitB at h
  simp only [Bool.or_eq_true, Bool.and_eq_true, decide_eq_true_eq, beq_iff_eq] at h
  unfold Lib.isSp
  have : ∀ k : UInt8, k.toNat < 45 → (u == k) = false := fun k hk => by
    rw [beq_eq_false_iff_ne]
    rintro rfl
    omega
  simp [this 9 (by decide), this 10 (by decide), this 11 (by decide), this 12 (by decide), this 13 (by decide), this 32 (by decide)]
theorem fields_go : ∀ (w : List UInt8) (cur r : List UInt8), cur ++ w ≠ [] → (∀ c ∈ w, Lib.isSp c = false) → Lib.fieldsGo cur (w ++ 32 :: r) = (cur ++ w) :: Lib.fieldsGo [] r
  | [], cur, r, hne, _ => by
    rw [List.append_nil] at hne
    rw [List.nil_append, Lib.fieldsGo_end _ _ _ (by decide) hne, List.append_nil]
  | c :: w, cur, r, hne, h => by
    rw [List.cons_append, Lib.fieldsGo_more _ _ _ (h c (by simp)), fields_go w (cur ++ [c]) r (by simp) (fun d hd => h d (by simp [hd]))]
    simp
/-- The first word of a line. -/
theorem fields_first {s : ByteArray} {w r : List Nat} (h : bs s = 32 :: 32 :: (w ++ 32 :: r)) (hne : w ≠ []) (hw : ∀ c ∈ w, wordB c = true) : ∃ x R, Lib.fields s.data.toList = x :: R ∧ bs ⟨x.toArray⟩ = w := by
  obtain ⟨a, l1, e1, ha, h⟩ := List.map_eq_cons_iff.1 h
  obtain ⟨b, l2, rfl, hb, h⟩ := List.map_eq_cons_iff.1 h
  obtain ⟨x, l3, rfl, hx, h⟩ := List.map_eq_append_iff.1 h
  obtain ⟨c, R, rfl, hc, _⟩ := List.map_eq_cons_iff.1 h
  obtain rfl : a = 32 := UInt8.toNat_inj.1 ha
  obtain rfl : b = 32 := UInt8.toNat_inj.1 hb
  obtain rfl : c = 32 := UInt8.toNat_inj.1 hc
  refine ⟨x, Lib.fieldsGo [] R, ?_, hx⟩
  rw [e1]
  unfold Lib.fields
  rw [Lib.fieldsGo_sp _ _ (by decide), Lib.fieldsGo_sp _ _ (by decide), fields_go x [] R (by intro e; rw [List.nil_append] at e; subst e; exact hne hx.symm) (fun u hu => sp_word (hw u.toNat (by rw [← hx]; exact List.mem_map.2 ⟨u, hu, rfl⟩)) u rfl)]
  rfl
/-! The lines of a printed game. -/
def headC (n : List Nat) : List Nat := asc "game" ++ (32 :: n) ++ asc " {"
def lineC (i : It) : List Nat := 32 :: (i.words.flatMap (32 :: ·) ++ [59])
theorem lineG_C (i : It) : lineG i = lineC i ++ [10] := by
  unfold lineG lineC
  rw [show asc ";\n" = [59] ++ [10] by decide +kernel]
  simp
def rowsG (n : List Nat) (V : List It) : List (List Nat) := headC n :: (V.map lineC ++ [asc "}"])
def rowsB (n : List Nat) (V : List It) : List ByteArray := (rowsG n V).map toBA
theorem good_lt7 {k : Nat} {t : List Nat} (h : good k t) : ∀ c ∈ t, c < 128 ∧ c ≠ 10 := by
  intro c hc
  rcases h with ⟨_, _, h⟩ | ⟨_, _, h⟩ | ⟨_, d, rfl, h⟩
  · have := h c hc
    unfold wordB letterB digitB at this
    simp only [Bool.or_eq_true, Bool.and_eq_true, decide_eq_true_eq, beq_iff_eq] at this
    omega
  · have := h c hc
    unfold digitB at this
    simp only [Bool.and_eq_true, decide_eq_true_eq] at this
    omega
  · rw [List.mem_singleton] at hc
    subst hc
    unfold markB at h
    simp only [Bool.or_eq_true, beq_iff_eq] at h
    omega
theorem lineC_lt {i : It} (hf : i.fine = true) (hw : i.wok = true) : ∀ c ∈ lineC i, c < 128 ∧ c ≠ 10 := by
  obtain ⟨h1, h2⟩ := item_words hf hw
  intro c hc
  unfold lineC at hc
  rw [← h1] at hc
  rcases List.mem_cons.1 hc with rfl | hc
  · decide
  · rcases List.mem_append.1 hc with hc | hc
    · obtain ⟨w, hwm, hc⟩ := List.mem_flatMap.1 hc
      obtain ⟨x, hx, rfl⟩ := List.mem_map.1 hwm
      rcases List.mem_cons.1 hc with rfl | hc
      · decide
      · exact good_lt7 (h2 x hx) c hc
    · rw [List.mem_singleton.1 hc]; decide
theorem rows_lt {n : List Nat} (hn : wordL n = true) {V : List It} (hf : V.all It.fine = true) (hw : V.all It.wok = true) : ∀ x ∈ rowsG n V, ∀ c ∈ x, c < 128 ∧ c ≠ 10 := by
  intro x hx c hc
  rcases List.mem_cons.1 hx with rfl | hx
  · unfold headC at hc
    rcases List.mem_append.1 hc with hc | hc
    · rcases List.mem_append.1 hc with hc | hc
      · have : ∀ c ∈ asc "game", c < 128 ∧ c ≠ 10 := by decide +kernel
        exact this c hc
      · rcases List.mem_cons.1 hc with rfl | hc
        · decide
        · exact good_lt7 (good_word hn) c hc
    · have : ∀ c ∈ asc " {", c < 128 ∧ c ≠ 10 := by decide +kernel
      exact this c hc
  · rcases List.mem_append.1 hx with hx | hx
    · obtain ⟨i, hi, rfl⟩ := List.mem_map.1 hx
      exact lineC_lt (List.all_eq_true.1 hf i hi) (List.all_eq_true.1 hw i hi) c hc
    · rw [List.mem_singleton.1 hx] at hc
      have : ∀ c ∈ asc "}", c < 128 ∧ c ≠ 10 := by decide +kernel
      exact this c hc
theorem join_map : ∀ (L : List (List Nat)), (∀ x ∈ L, ∀ c ∈ x, c < 128 ∧ c ≠ 10) → ∀ sep : List Nat, ((L.map toBA).flatMap fun y => sep ++ bs y) = L.flatMap fun y => sep ++ y
  | [], _, _ => rfl
  | x :: L, h, sep => by
    rw [List.map_cons, List.flatMap_cons, List.flatMap_cons, join_map L (fun y hy => h y (by simp [hy])), bs_toBA (fun c hc => by have := (h x (by simp) c hc).1; omega)]
theorem flat_lines : ∀ V : List It, (V.map lineC).flatMap (fun y => [10] ++ y) ++ [10] = [10] ++ V.flatMap lineG
  | [] => rfl
  | i :: V => by
    rw [List.map_cons, List.flatMap_cons, List.flatMap_cons, lineG_C, List.append_assoc, flat_lines V]
    simp
def gameY (n : List Nat) (V : List It) : List Nat := headC n ++ [10] ++ V.flatMap lineG ++ asc "}"
theorem gameX_Y (n : List Nat) (V : List It) : gameX n V = gameY n V ++ [10] := by
  unfold gameX gameY headC
  rw [show asc " {\n" = asc " {" ++ [10] by decide +kernel, show asc "}\n" = asc "}" ++ [10] by decide +kernel]
  simp only [List.append_assoc]
theorem join_rows {n : List Nat} (hn : wordL n = true) {V : List It} (hf : V.all It.fine = true) (hw : V.all It.wok = true) : joinS [10] (rowsB n V) = gameY n V := by
  have hr := rows_lt hn hf hw
  unfold rowsB rowsG gameY
  rw [List.map_cons, joinS, bs_toBA (fun c hc => by have := (hr _ (by unfold rowsG; simp) c hc).1; omega), join_map _ (fun x hx => hr x (by unfold rowsG; exact List.mem_cons_of_mem _ hx)), List.flatMap_append, List.flatMap_cons, List.flatMap_nil, List.append_nil,
    ← List.append_assoc, ← List.append_assoc, List.append_assoc (headC n), flat_lines V]
  simp only [List.append_assoc]
theorem rows_bs {n : List Nat} (hn : wordL n = true) {V : List It} (hf : V.all It.fine = true) (hw : V.all It.wok = true) : ∀ y ∈ rowsB n V, 10 ∉ bs y ∧ ∀ c ∈ bs y, c < 128 := by
  intro y hy
  obtain ⟨x, hx, rfl⟩ := List.mem_map.1 hy
  have hr := rows_lt hn hf hw x hx
  rw [bs_toBA (fun c hc => by have := (hr c hc).1; omega)]
  exact ⟨fun h => (hr 10 h).2 rfl, fun c hc => (hr c hc).1⟩
/-- A printed game's text without its last line feed, split at line feeds. -/
theorem rows_split {n : List Nat} (hn : wordL n = true) {V : List It} (hf : V.all It.fine = true) (hw : V.all It.wok = true) {s : ByteArray} (hs : bs s = gameY n V) : Lib.countB s nlB = V.length + 1 ∧ Lib.splitB nlB 0 (V.length + 1) s = rowsB n V := by
  have h := split_join ((V.map lineC ++ [asc "}"]).map toBA) (toBA (headC n)) s (fun y hy => (rows_bs hn hf hw y hy).1) (hs.trans (join_rows hn hf hw).symm)
  have e : ((V.map lineC ++ [asc "}"]).map toBA).length = V.length + 1 := by simp
  rw [e] at h
  exact h
/-- The first word of an item. -/
def firstW : It → List Nat
  | .two w _ _ => w
  | .num w _ => w
  | .days _ _ => asc "days"
  | .addon _ => asc "addon"
  | .tier _ => asc "tier"
theorem line_first (i : It) : ∃ r, lineC i = 32 :: 32 :: (firstW i ++ 32 :: r) := by
  have key : ∀ (w : List Nat) (x : List Nat) (R : List (List Nat)), 32 :: ((w :: x :: R).flatMap (32 :: ·) ++ [59]) = 32 :: 32 :: (w ++ 32 :: (x ++ R.flatMap (32 :: ·) ++ [59])) := fun w x R => by simp
  have key2 : ∀ i : It, (∃ x R, i.words = firstW i :: x :: R) → ∃ r, lineC i = 32 :: 32 :: (firstW i ++ 32 :: r) := fun i ⟨x, R, e⟩ => by
    unfold lineC
    rw [e]
    exact ⟨_, key _ _ _⟩
  refine key2 i ?_
  cases i with
  | two w a b => exact ⟨fmtI a, [asc "of", fmtI b], rfl⟩
  | num w n => exact ⟨fmtI n, [], rfl⟩
  | days d t =>
    show ∃ x R, [asc "days"] ++ dayL d ++ [asc "at", fmtI (t / 60), asc ":", fmtI (t % 60)] = asc "days" :: x :: R
    cases dayL d with
    | nil => exact ⟨_, _, rfl⟩
    | cons x r => exact ⟨x, r ++ [asc "at", fmtI (t / 60), asc ":", fmtI (t % 60)], rfl⟩
  | addon a =>
    unfold It.words firstW
    by_cases h : a.kind = 1
    · simp only [if_pos h]; exact ⟨_, _, rfl⟩
    · simp only [if_neg h]; exact ⟨_, _, rfl⟩
  | tier t =>
    show ∃ x R, [asc "tier"] ++ modeW t ++ [kindW t.kind, fmtI t.value] = asc "tier" :: x :: R
    cases modeW t with
    | nil => exact ⟨_, _, rfl⟩
    | cons x r => exact ⟨x, r ++ [kindW t.kind, fmtI t.value], rfl⟩
theorem first_word {i : It} (hw : i.wok = true) : firstW i ≠ [] ∧ ∀ c ∈ firstW i, wordB c = true := by
  have key : ∀ w : List Nat, wordL w = true → w ≠ [] ∧ ∀ c ∈ w, wordB c = true := fun w h => by
    unfold wordL at h
    rw [Bool.and_eq_true] at h
    refine ⟨?_, fun c hc => List.all_eq_true.1 h.2 c hc⟩
    rintro rfl
    cases h.1
  cases i with
  | two w a b =>
    have : w = asc "choose" ∨ w = asc "digits" ∨ w = asc "bonus" := by simpa [It.wok, or_assoc] using hw
    refine key w ?_
    rcases this with rfl | rfl | rfl <;> decide +kernel
  | num w n => exact key w (List.all_eq_true.1 simpleW_word w (simple_mem hw))
  | days d t => exact key (asc "days") (by decide +kernel)
  | addon a => exact key (asc "addon") (by decide +kernel)
  | tier t => exact key (asc "tier") (by decide +kernel)
theorem line_fields {i : It} (hf : i.fine = true) (hw : i.wok = true) : ∃ x R, Lib.fields (toBA (lineC i)).data.toList = x :: R ∧ bs ⟨x.toArray⟩ = firstW i := by
  obtain ⟨r, e⟩ := line_first i
  exact fields_first (r := r) (by rw [bs_toBA (fun c hc => by have := (lineC_lt hf hw c hc).1; omega), e]) (first_word hw).1 (first_word hw).2
end Go.Proofs.YtbdkggnajipdhaaGreatDoor
/- Walk: lotterylaw11.lines and item. -/
namespace Go.Proofs.YtbdkggnajipdhaaGreatDoor
open Nat (reduceAdd reduceMul reduceSub reduceEqDiff reduceLT reduceLeDiff)
open Go.RowKit
set_option maxRecDepth 100000
def trimB (s : ByteArray) : ByteArray := ⟨(Lib.trimSuffix s.data.toList nlB.data.toList).toArray⟩
theorem trimB_size (s : ByteArray) : (trimB s).size ≤ s.size := by
  unfold trimB Lib.trimSuffix
  split
  · show (List.take _ _).toArray.size ≤ s.data.size
    simp
  · exact Nat.le_refl _
theorem lines_any (s : ByteArray) (w : World) (hS : LaidS w) (hs : s.size ≤ 1000000) : Calls Tryz.prog 15 #[.string s] w fun e w' =>
    e = .returned (.slice (some ⟨w.heap.size, 0, none⟩) (Lib.countB (trimB s) nlB + 1) (Lib.countB (trimB s) nlB + 1)) ∧ w' = w.alloc (.cells ((Lib.splitB nlB 0 (Lib.countB (trimB s) nlB) (trimB s)).map Value.string).toArray 9) := by
  obtain ⟨m, hm⟩ := hS.max
  refine calls_W (l := [_]) Tryz.func15 rfl _ Tryz.ntmps15 (by simp) ?_
  simp +contextual (maxSteps := 2000000) (disch := first | omega | (simp only [SZ]; first | done | omega) | (simp only [TS] at *; omega)) only [RZ, ovw, oneC, reduceAdd, reduceMul, reduceSub, reduceEqDiff, reduceLT, ↓reduceIte, Int.reduceToNat, reduceLeDiff]
  refine (Tryz.strings_TrimSuffix s nlB w (by omega)).mono ?_
  rintro e w1 ⟨rfl, hw1⟩
  rw [hw1]
  clear hw1 w1
  refine ⟨_, rfl, ?_⟩
  have hz := trimB_size s
  refine (Tryz.strings_Split (trimB s) nlB m w (by omega) hm (by decide)).mono ?_
  rintro e w1 ⟨rfl, rfl⟩
  refine ⟨_, rfl, ?_⟩
  try simp +contextual (maxSteps := 2000000) (disch := first | omega | (simp only [SZ]; first | done | omega) | (simp only [TS] at *; omega)) only [RZ, ovw, oneC, reduceAdd, reduceMul, reduceSub, reduceEqDiff, reduceLT, ↓reduceIte, Int.reduceToNat, reduceLeDiff]
theorem item_any (s : ByteArray) (x : List UInt8) (R : List (List UInt8)) (w : World) (hS : LaidS w) (hs : s.size ≤ 1000000) (ha : ∀ c ∈ bs s, c < 128) (hF : Lib.fields s.data.toList = x :: R) : Calls Tryz.prog 16 #[.string s] w fun e w' =>
    e = .returned (.string ⟨x.toArray⟩) ∧ Below w.heap.size w w' := by
  refine calls_W (l := [_]) Tryz.func16 rfl _ Tryz.ntmps16 (by simp) ?_
  simp +contextual (maxSteps := 2000000) (disch := first | omega | (simp only [SZ]; first | done | omega) | (simp only [TS] at *; omega)) only [RZ, ovw, oneC, reduceAdd, reduceMul, reduceSub, reduceEqDiff, reduceLT, ↓reduceIte, Int.reduceToNat, reduceLeDiff]
  refine (Tryz.strings_Fields s w (by omega) (fun j b h => ha b.toNat (List.mem_map.2 ⟨b, List.mem_of_getElem? h, rfl⟩)) hS.spc).mono ?_
  rw [hF]
  rintro e w1 ⟨rfl, rfl⟩
  refine ⟨_, rfl, ?_⟩
  have hR : ((R.length : Int) + 1 = 0) = False := eq_false (by omega)
  have b0 := below_alloc w (.cells ((x :: R).map fun l => Value.string ⟨l.toArray⟩).toArray 9)
  have r0 := Row.new w 9 ((x :: R).map fun l => Value.string ⟨l.toArray⟩)
  have c0 := r0.cell (i := 0) (v := .string ⟨x.toArray⟩) rfl
  generalize w.alloc (.cells ((x :: R).map fun l => Value.string ⟨l.toArray⟩).toArray 9) = w1 at *
  simp +contextual (maxSteps := 2000000) (disch := first | omega | (simp only [SZ]; first | done | omega) | (simp only [TS] at *; omega)) only [RZ, ovw, oneC, reduceAdd, reduceMul, reduceSub, reduceEqDiff, reduceLT, ↓reduceIte, Int.reduceToNat, reduceLeDiff,  hR]
  refine W_if_f rfl ?_
  simp +contextual (maxSteps := 2000000) (disch := first | omega | (simp only [SZ]; first | done | omega) | (simp only [TS] at *; omega)) only [RZ, ovw, oneC, reduceAdd, reduceMul, reduceSub, reduceEqDiff, reduceLT, ↓reduceIte, Int.reduceToNat, reduceLeDiff,  c0]
  exact b0
end Go.Proofs.YtbdkggnajipdhaaGreatDoor
/- Plain: chapter 11, neighbouring items exchanged. No program in sight. -/
namespace Go.Proofs.YtbdkggnajipdhaaGreatDoor
theorem game_LxY {n : List Nat} (hn : wordL n = true) {V : List It} (hf : V.all It.fine = true) (hw : V.all It.wok = true) : Lx (gameY n V) (gameS n V) := by
  have h := Lx_lines V hf hw (Lx_tok (k := 3) (t := asc "}") (r := []) (gm (by decide)) (fun c r' e => by cases e) Lx_nil)
  have h1 := Lx_tok (k := 3) (t := asc "{") (gm (by decide)) sep10 (Lx_blank (b := 10) (by decide) h)
  have h2 := Lx_tok (good_word hn) sep32 (Lx_blank (b := 32) (by decide) h1)
  have h3 := Lx_tok (k := 1) (t := asc "game") (good_word (by decide +kernel)) sep32 (Lx_blank (b := 32) (by decide) h2)
  have e : gameY n V = asc "game" ++ 32 :: (n ++ 32 :: (asc "{" ++ 10 :: (V.flatMap lineG ++ (asc "}" ++ [])))) := by
    unfold gameY headC
    rw [show asc " {" = 32 :: (asc "{") by decide +kernel]
    simp only [List.append_assoc, List.cons_append, List.nil_append, List.append_nil]
  rw [e]
  exact h3
/-- A text of items is read. -/
theorem game_readL {s nm : ByteArray} {V : List It} (hs : Lx (bs s) (gameS (bs nm) V)) (hsz : s.size ≤ 32768) (hf : V.all It.fine = true) (hw : V.all It.wok = true) (hz : ∀ i ∈ V, ∀ d t, i = .days d t → d ≠ 0) (hnd : (V.filterMap It.key).Nodup) :
    parseG s = ((if asc "system" ∈ V.filterMap It.key then V.foldl It.eff (gm0 nm) else { V.foldl It.eff (gm0 nm) with n := putN (V.foldl It.eff (gm0 nm)).n 8 ((V.foldl It.eff (gm0 nm)).n 2) }), 0, 0) := by
  obtain ⟨L, e, hL⟩ := scan_Lx hsz hs
  have h' : L.map Kt = (1, asc "game") :: (1, bs nm) :: (3, asc "{") :: (inK (itemsS V) ++ [(3, asc "}"), (0, [])]) := by
    rw [hL]; simp [gameS, inK, List.map_append]
  obtain ⟨e1, h1⟩ := st_is h' (by simp)
  obtain ⟨n1, n2, n3⟩ := st_next h1 (by simp)
  obtain ⟨e3, h3⟩ := st_is n3 (by simp)
  obtain ⟨L', e4, h4⟩ := gitems_read (M := [(3, asc "}"), (0, [])]) (by simp) (by simp) V (nxT (nxT (nxT L))) (nxT (nxT (nxT L))).length (gm0 nm) [] hf hw hz hnd (fun k _ h => by cases h) h3 (by
    have := itemsS_len V
    rw [st_len h3, List.length_append]
    unfold inK
    rw [List.length_map]
    simp only [List.length_cons, List.length_nil]
    omega)
  have hnm : (hdT (nxT L)).text = nm := bs_inj n2
  have hg : gameT L = .ok (if asc "system" ∈ seeL V [] then V.foldl It.eff (gm0 nm) else { V.foldl It.eff (gm0 nm) with n := putN (V.foldl It.eff (gm0 nm)).n 8 ((V.foldl It.eff (gm0 nm)).n 2) }) := by
    unfold gameT
    rw [thenT_some e1, if_neg (fun h => h n1), thenT_some e3, hnm, bindT_ok e4, closeT_ok h4]
  unfold parseG
  rw [e, if_neg (by show (0 : Int) ≠ 3; decide), if_neg (fun h => h rfl), hg]
  have : asc "system" ∈ seeL V [] ↔ asc "system" ∈ V.filterMap It.key := by rw [see_mem]; simp
  by_cases hm : asc "system" ∈ V.filterMap It.key
  · rw [if_pos hm, if_pos (this.2 hm)]
  · rw [if_neg hm, if_neg (fun h => hm (this.1 h))]
/-- What an item does: numbers put at places. -/
def It.puts : It → List (Nat × Int)
  | .two w a b => if w = asc "bonus" then [(4, a), (5, b)] else [(0, if w = asc "digits" then 2 else 1), (2, a), (3, b)]
  | .num w n => match simpleI w with | some i => [(i, n)] | none => []
  | .days d t => [(9, (d : Int)), (10, t)]
  | _ => []
def It.adds : It → List Ad
  | .addon a => [a]
  | _ => []
def It.tiers : It → List Ti
  | .tier t => [t]
  | _ => []
def putsN (n : Nat → Int) (P : List (Nat × Int)) : Nat → Int := P.foldl (fun n p => putN n p.1 p.2) n
theorem eff_is (g : Gm) (i : It) : i.eff g = ⟨g.name, putsN g.n i.puts, g.addons ++ i.adds, g.tiers ++ i.tiers⟩ := by
  cases i with
  | two w a b =>
    unfold It.eff It.puts It.adds It.tiers
    by_cases h : w = asc "bonus"
    · simp only [if_pos h, List.append_nil]; rfl
    · simp only [if_neg h, List.append_nil]; rfl
  | num w n =>
    cases h : simpleI w with
    | none => simp only [It.eff, It.puts, It.adds, It.tiers, h, List.append_nil]; rfl
    | some k => simp only [It.eff, It.puts, It.adds, It.tiers, h, List.append_nil]; rfl
  | days d t => simp only [It.eff, It.puts, It.adds, It.tiers, List.append_nil]; rfl
  | addon a => simp only [It.eff, It.puts, It.adds, It.tiers, List.append_nil]; rfl
  | tier t => simp only [It.eff, It.puts, It.adds, It.tiers, List.append_nil]; rfl
/-- The same first word: the same key. -/
theorem first_key {i j : It} (hi : i.wok = true) (hj : j.wok = true) (hw : firstW i = firstW j) : i.key = j.key := by
  have hs : ∀ {w : List Nat}, (It.num w 0).wok = true → w ≠ asc "choose" ∧ w ≠ asc "digits" ∧ w ≠ asc "bonus" ∧ w ≠ asc "days" ∧ w ≠ asc "addon" ∧ w ≠ asc "tier" := fun h => simple_ne h
  have h2 : ∀ {w : List Nat} {a b : Int}, (It.two w a b).wok = true → w = asc "choose" ∨ w = asc "digits" ∨ w = asc "bonus" := fun h => by simpa [It.wok, or_assoc] using h
  have d1 : asc "choose" ≠ asc "days" ∧ asc "digits" ≠ asc "days" ∧ asc "bonus" ≠ asc "days" ∧ asc "choose" ≠ asc "addon" ∧ asc "digits" ≠ asc "addon" ∧ asc "bonus" ≠ asc "addon" ∧ asc "choose" ≠ asc "tier" ∧ asc "digits" ≠ asc "tier" ∧ asc "bonus" ≠ asc "tier" ∧ asc "days" ≠ asc "addon" ∧ asc "days" ≠ asc "tier" ∧ asc "addon" ≠ asc "tier" := by decide +kernel
  obtain ⟨c1, c2, c3, c4, c5, c6, c7, c8, c9, c10, c11, c12⟩ := d1
  cases i with
  | two w a b =>
    have hx := h2 hi
    cases j with
    | two v c d => have hw : w = v := hw; rw [hw]; rfl
    | num v n =>
      have hw : w = v := hw
      obtain ⟨n1, n2, n3, _⟩ := simple_ne hj
      subst hw
      rcases hx with rfl | rfl | rfl
      · exact absurd rfl n1
      · exact absurd rfl n2
      · exact absurd rfl n3
    | days d t => have hw : w = asc "days" := hw; subst hw; rcases hx with h | h | h; exact absurd h.symm c1; exact absurd h.symm c2; exact absurd h.symm c3
    | addon a => have hw : w = asc "addon" := hw; subst hw; rcases hx with h | h | h; exact absurd h.symm c4; exact absurd h.symm c5; exact absurd h.symm c6
    | tier t => have hw : w = asc "tier" := hw; subst hw; rcases hx with h | h | h; exact absurd h.symm c7; exact absurd h.symm c8; exact absurd h.symm c9
  | num w n =>
    obtain ⟨n1, n2, n3, n4, n5, n6⟩ := simple_ne hi
    cases j with
    | two v c d =>
      have hw : w = v := hw
      subst hw
      rcases h2 hj with rfl | rfl | rfl
      · exact absurd rfl n1
      · exact absurd rfl n2
      · exact absurd rfl n3
    | num v m => have hw : w = v := hw; rw [hw]; rfl
    | days d t => exact absurd hw n4
    | addon a => exact absurd hw n5
    | tier t => exact absurd hw n6
  | days d t =>
    cases j with
    | two v c d => have hw : asc "days" = v := hw; subst hw; rcases h2 hj with h | h | h; exact absurd h.symm c1; exact absurd h.symm c2; exact absurd h.symm c3
    | num v m => exact absurd hw.symm (simple_ne hj).2.2.2.1
    | days d2 t2 => rfl
    | addon a => exact absurd hw c10
    | tier t => exact absurd hw c11
  | addon a =>
    cases j with
    | two v c d => have hw : asc "addon" = v := hw; subst hw; rcases h2 hj with h | h | h; exact absurd h.symm c4; exact absurd h.symm c5; exact absurd h.symm c6
    | num v m => exact absurd hw.symm (simple_ne hj).2.2.2.2.1
    | days d t => exact absurd hw.symm c10
    | addon a => rfl
    | tier t => rfl
  | tier t =>
    cases j with
    | two v c d => have hw : asc "tier" = v := hw; subst hw; rcases h2 hj with h | h | h; exact absurd h.symm c7; exact absurd h.symm c8; exact absurd h.symm c9
    | num v m => exact absurd hw.symm (simple_ne hj).2.2.2.2.2
    | days d t => exact absurd hw.symm c11
    | addon a => rfl
    | tier t => rfl
theorem key_first {i : It} (h : i.key = none) : firstW i = asc "addon" ∨ firstW i = asc "tier" := by
  cases i with
  | two w a b => cases h
  | num w n => cases h
  | days d t => cases h
  | addon a => exact .inl rfl
  | tier t => exact .inr rfl
theorem first_none {i : It} (hw : i.wok = true) (h : firstW i = asc "addon" ∨ firstW i = asc "tier") : i.key = none := by
  rcases h with h | h
  · exact (first_key (j := .addon ⟨ByteArray.empty, 0, 0, [], 0, []⟩) hw rfl h)
  · exact (first_key (j := .tier ⟨0, 0, 0, 0, 0, 0⟩) hw rfl h)
/-- What a printed game is. -/
theorem printed {G : Gm} (hne : printG G ≠ []) : ∃ V, V = itemsG G ∧ printG G = gameX (bs G.name) V ∧ wordL (bs G.name) = true ∧ V.all It.fine = true ∧ V.all It.wok = true ∧ (∀ i ∈ V, ∀ d t, i = .days d t → d ≠ 0) ∧ (V.filterMap It.key).Nodup ∧ (gameX (bs G.name) V).length ≤ 32768 ∧ 1 ≤ V.length := by
  have hp := printG_is G
  by_cases h : fineG G = true ∧ (textG G).length ≤ 32768
  · rw [if_pos h] at hp
    obtain ⟨hf, hl⟩ := h
    unfold fineG at hf
    simp only [Bool.and_eq_true, Bool.or_eq_true, decide_eq_true_eq] at hf
    obtain ⟨⟨⟨hn, hk⟩, hd⟩, hi⟩ := hf
    have h09 : 0 ≤ G.n 9 := by
      unfold daysC at hd
      simp only [Bool.and_eq_true, decide_eq_true_eq] at hd
      omega
    refine ⟨_, rfl, hp, hn, hi, items_wok G, items_days G h09, keys_nodup G, hl, ?_⟩
    unfold itemsG headI
    simp only [List.length_append, List.length_cons, List.length_nil]
    omega
  · rw [if_neg h] at hp
    exact absurd hp hne
end Go.Proofs.YtbdkggnajipdhaaGreatDoor
/- Walk: the law RuletextOrders. -/
namespace Go.Proofs.YtbdkggnajipdhaaGreatDoor
open Go.RowKit
set_option maxRecDepth 100000
theorem lines_len : ∀ V : List It, V.length ≤ (V.flatMap lineG).length
  | [] => Nat.zero_le _
  | x :: V => by
    have := lines_len V
    have h1 : 1 ≤ (lineG x).length := by unfold lineG; rw [List.length_cons]; omega
    rw [List.flatMap_cons, List.length_append, List.length_cons]
    omega
theorem line_le {z : It} : ∀ {V : List It}, z ∈ V → (lineG z).length ≤ (V.flatMap lineG).length
  | v :: V, h => by
    rw [List.flatMap_cons, List.length_append]
    rcases List.mem_cons.1 h with rfl | h
    · omega
    · have := line_le h
      omega
end Go.Proofs.YtbdkggnajipdhaaGreatDoor
/- Plain: chapter 11, what was read is small. No program in sight. -/
namespace Go.Proofs.YtbdkggnajipdhaaGreatDoor
theorem nx_suf (L : List Tk) : nxT L <:+ L := by
  match L with
  | [] => exact List.suffix_refl _
  | [_] => exact List.suffix_refl _
  | a :: b :: r => exact List.suffix_cons a (b :: r)
theorem num_suf {L : List Tk} {x : Int × List Tk} (h : numT L = some x) : x.2 <:+ L := by rw [(num_some (x := x.1) (L' := x.2) h).2.2.2]; exact nx_suf L
theorem is_suf {k : Int} {w : List Nat} {L L' : List Tk} (h : isT k w L = some L') : L' <:+ L := by rw [(is_some h).2.2]; exact nx_suf L
theorem nums_suf : ∀ (f : Nat) (L : List Tk), (numsT f L).2 <:+ L ∧ (numsT f L).1.length ≤ f
  | 0, L => ⟨List.suffix_refl _, Nat.le_refl _⟩
  | f + 1, L => by
    unfold numsT
    cases h : numT L with
    | none => exact ⟨List.suffix_refl _, Nat.zero_le _⟩
    | some a => exact ⟨(nums_suf f a.2).1.trans (num_suf h), by simp only [List.length_cons]; have := (nums_suf f a.2).2; omega⟩
theorem pair_suf {L L' : List Tk} {x : Int × Int} (h : pairT L = .ok (x, L')) : L' <:+ L := by
  unfold pairT at h
  obtain ⟨y, h1, h⟩ := then_ok h
  obtain ⟨L2, h2, h⟩ := then_ok h
  obtain ⟨z, h3, h⟩ := then_ok h
  injection h with h
  injection h with _ h
  subst h
  exact ((num_suf h3).trans (is_suf h2)).trans (num_suf h1)
theorem less_suf {m : Int} {L : List Tk} {x : Int × List Tk} (h : lessT m L = some x) : x.2 <:+ L := by
  unfold lessT at h
  cases hn : numT L with
  | none => rw [hn] at h; cases h
  | some y =>
    rw [hn] at h
    dsimp only at h
    split at h
    · injection h with h; subst h; exact num_suf hn
    · cases h
theorem days_suf : ∀ (f : Nat) (L : List Tk) (d : Nat) (x : Nat × List Tk), daysT f L d = .ok x → x.2 <:+ L
  | 0, L, d, x, h => by cases h
  | f + 1, L, d, x, h => by
    unfold daysT at h
    split at h
    · injection h with h; subst h; exact nx_suf L
    · split at h
      · cases h
      · cases hd : dayI (bs (hdT L).text) with
        | none => rw [hd] at h; cases h
        | some i =>
          rw [hd] at h
          dsimp only at h
          split at h
          · cases h
          · exact (days_suf f _ _ x h).trans (nx_suf L)
theorem day_suf {L L' : List Tk} {x : Int × Int} (h : dayT L = .ok (x, L')) : L' <:+ L := by
  unfold dayT at h
  obtain ⟨d, h0, h⟩ := bind_ok h
  obtain ⟨y, h1, h⟩ := then_ok h
  obtain ⟨L2, h2, h⟩ := then_ok h
  obtain ⟨z, h3, h⟩ := then_ok h
  injection h with h
  injection h with _ h
  subst h
  exact (((less_suf h3).trans (is_suf h2)).trans (less_suf h1)).trans (days_suf _ _ _ _ h0)
theorem hit_suf {w : List Nat} {L : List Tk} {x : Int × List Tk} (h : hitT w L = .ok x) : x.2 <:+ L := by
  unfold hitT at h
  cases hq : isT 1 w L with
  | none => rw [hq] at h; injection h with h; subst h; exact List.suffix_refl _
  | some L1 =>
    rw [hq] at h
    obtain ⟨y, h1, h⟩ := then_ok h
    injection h with h
    subst h
    exact (num_suf h1).trans (is_suf hq)
theorem mode_suf {L : List Tk} {x : (Int × Int × Int × Int) × List Tk} (h : modeT L = .ok x) : x.2 <:+ L := by
  unfold modeT at h
  cases h1 : isT 1 (asc "exact") L with
  | some L1 => rw [h1] at h; injection h with h; subst h; exact is_suf h1
  | none =>
  rw [h1] at h
  cases h2 : isT 1 (asc "box") L with
  | some L1 => rw [h2] at h; injection h with h; subst h; exact is_suf h2
  | none =>
  rw [h2] at h
  cases h3 : isT 1 (asc "front") L with
  | some L1 =>
    rw [h3] at h
    obtain ⟨y, e1, h⟩ := then_ok h
    injection h with h; subst h
    exact (num_suf e1).trans (is_suf h3)
  | none =>
  rw [h3] at h
  cases h4 : isT 1 (asc "back") L with
  | some L1 =>
    rw [h4] at h
    obtain ⟨y, e1, h⟩ := then_ok h
    injection h with h; subst h
    exact (num_suf e1).trans (is_suf h4)
  | none =>
  rw [h4] at h
  obtain ⟨y1, e1, h⟩ := bind_ok h
  obtain ⟨y2, e2, h⟩ := bind_ok h
  obtain ⟨y3, e3, h⟩ := bind_ok h
  injection h with h; subst h
  exact ((hit_suf e3).trans (hit_suf e2)).trans (hit_suf e1)
theorem tier_suf {L : List Tk} {x : Ti × List Tk} (h : tierT L = .ok x) : x.2 <:+ L := by
  unfold tierT at h
  obtain ⟨m, e1, h⟩ := bind_ok h
  have s1 := mode_suf e1
  split at h
  · cases h
  · cases hp : prizeK (bs (hdT m.2).text) with
    | none => rw [hp] at h; cases h
    | some k =>
      rw [hp] at h
      obtain ⟨v, e2, h⟩ := then_ok h
      injection h with h; subst h
      exact ((num_suf e2).trans (nx_suf m.2)).trans s1
theorem addon_suf {L : List Tk} {x : Ad × List Tk} (h : addonT L = .ok x) : x.2 <:+ L ∧ x.1.name = (hdT L).text ∧ x.1.factors.length ≤ L.length ∧ x.1.serials.length ≤ L.length := by
  unfold addonT at h
  have n1 := nx_suf L
  have n2 := nx_suf (nxT L)
  split at h
  · cases h
  · split at h
    · cases h
    · split at h
      · obtain ⟨v, e2, h⟩ := then_ok h
        injection h with h; subst h
        have s := (num_suf e2).trans (n2.trans n1)
        have s2 := nums_suf v.2.length v.2
        exact ⟨s2.1.trans s, rfl, Nat.le_trans s2.2 s.length_le, Nat.zero_le _⟩
      · split at h
        · obtain ⟨v, e2, h⟩ := then_ok h
          obtain ⟨u, e3, h⟩ := then_ok h
          injection h with h; subst h
          have s := (num_suf e3).trans ((num_suf e2).trans (n2.trans n1))
          have s2 := nums_suf u.2.length u.2
          exact ⟨s2.1.trans s, rfl, Nat.zero_le _, Nat.le_trans s2.2 s.length_le⟩
        · cases h
end Go.Proofs.YtbdkggnajipdhaaGreatDoor
/- Plain: chapter 11, an item that stands twice. No program in sight. -/
namespace Go.Proofs.YtbdkggnajipdhaaGreatDoor
/-! Add-ons and tiers may stand again. -/
theorem none_one {i : It} (h : i.key = none) : i.adds.length + i.tiers.length = 1 := by
  cases i with
  | two w a b => cases h
  | num w n => cases h
  | days d t => cases h
  | addon a => rfl
  | tier t => rfl
theorem all_snoc {V : List It} {i : It} {q : It → Bool} (h : V.all q = true) (hi : i ∈ V) : (V ++ [i]).all q = true := by
  rw [List.all_append, h]
  simp [List.all_eq_true.1 h i hi]
theorem twice_ok {G : Gm} (hne : printG G ≠ []) {i : It} (hi : i ∈ itemsG G) (hk : i.key = none) {s : ByteArray} (hs : bs s = gameY (bs G.name) (itemsG G ++ [i])) (hsz : s.size ≤ 32768) :
    (parseG s).2 = (0, 0) ∧ (parseG s).1.addons.length + (parseG s).1.tiers.length = G.addons.length + G.tiers.length + 1 := by
  obtain ⟨V, hVV, hpr, hn, hf, hwk, hz, hnd, hl, _⟩ := printed hne
  rw [← hVV] at hi hs
  have hback := print_back hne
  have hkeys : (V ++ [i]).filterMap It.key = V.filterMap It.key := by
    rw [List.filterMap_append, List.filterMap_cons, hk]
    simp
  have hfi := List.all_eq_true.1 hf i hi
  have hwi := List.all_eq_true.1 hwk i hi
  have hf2 := all_snoc hf hi
  have hw2 := all_snoc hwk hi
  have e1 := game_readL (s := s) (nm := G.name) (V := V ++ [i]) (by rw [hs]; exact game_LxY hn hf2 hw2) hsz hf2 hw2 (fun x hx => by
    rcases List.mem_append.1 hx with hx | hx
    · exact hz x hx
    · rw [List.mem_singleton.1 hx]; exact hz i hi) (by rw [hkeys]; exact hnd)
  have hb : bs (toBA (printG G)) = printG G := bs_toBA (printG_lt G)
  have e2 := game_readL (s := toBA (printG G)) (nm := G.name) (by rw [hb, hpr]; exact game_Lx hn hf hwk) (print_size G) hf hwk hz hnd
  rw [e2] at hback
  rw [hkeys, List.foldl_append, List.foldl_cons, List.foldl_nil, eff_is] at e1
  generalize V.foldl It.eff (gm0 G.name) = F at *
  have hF : F.addons = G.addons ∧ F.tiers = G.tiers := by
    by_cases h : asc "system" ∈ V.filterMap It.key
    · rw [if_pos h] at hback
      exact ⟨congrArg (fun x => x.1.2.2.1) hback, congrArg (fun x => x.1.2.2.2) hback⟩
    · rw [if_neg h] at hback
      exact ⟨congrArg (fun x => x.1.2.2.1) hback, congrArg (fun x => x.1.2.2.2) hback⟩
  have h1 := none_one hk
  rw [e1]
  refine ⟨rfl, ?_⟩
  by_cases h : asc "system" ∈ V.filterMap It.key
  · rw [if_pos h]
    dsimp only
    rw [List.length_append, List.length_append, hF.1, hF.2]
    omega
  · rw [if_neg h]
    dsimp only
    rw [List.length_append, List.length_append, hF.1, hF.2]
    omega
/-! All others are refused. -/
theorem item_dup {i : It} (hw : i.wok = true) {kk : List Nat} (hk : i.key = some kk) {L : List Tk} {M : List (Int × List Nat)} (hM : M ≠ []) (h : L.map Kt = inK i.toks ++ M) {g : Gm} {seen : List (List Nat)} (hs : kk ∈ seen) : itemG L g seen = .error (6, L) := by
  cases i with
  | two w a b =>
    have h' : L.map Kt = (1, w) :: (2, dec a.toNat) :: (1, asc "of") :: (2, dec b.toNat) :: M := h
    obtain ⟨n1, n2, _⟩ := st_next h' (by simp)
    have hk' : (if w = asc "bonus" then asc "bonus" else asc "choose") = kk := Option.some.inj hk
    unfold itemG
    rw [if_neg (fun e => e n1), n2]
    by_cases hb : w = asc "bonus"
    · subst hb
      rw [if_pos rfl] at hk'
      subst hk'
      rw [if_neg (by decide +kernel), if_pos rfl, if_pos hs]
    · have hcd : w = asc "choose" ∨ w = asc "digits" := by simpa [It.wok, hb] using hw
      rw [if_neg hb] at hk'
      subst hk'
      rw [if_pos hcd, if_pos hs]
  | num w n =>
    have h' : L.map Kt = (1, w) :: (2, dec n.toNat) :: M := h
    obtain ⟨n1, n2, _⟩ := st_next h' (by simp)
    obtain rfl : w = kk := Option.some.inj hk
    obtain ⟨w1, w2, w3, w4, w5, w6⟩ := simple_ne hw
    obtain ⟨j, hj⟩ : ∃ j, simpleI w = some j := Option.isSome_iff_exists.1 hw
    unfold itemG
    rw [if_neg (fun e => e n1), n2, if_neg (fun e => e.elim w1 w2), if_neg w3, if_neg w4, if_neg w5, if_neg w6, hj]
    dsimp only
    rw [if_pos hs]
  | days d t =>
    have h' : L.map Kt = (1, asc "days") :: (inK (dayX (dayB d)) ++ (1, asc "at") :: (2, dec (t / 60).toNat) :: (3, asc ":") :: (2, dec (t % 60).toNat) :: M) := by
      rw [h]; simp [It.toks, inK, List.map_append]
    obtain ⟨n1, n2, _⟩ := st_next h' (by simp)
    obtain rfl : asc "days" = kk := Option.some.inj hk
    unfold itemG
    rw [if_neg (fun e => e n1), n2, if_neg (by decide +kernel), if_neg (by decide +kernel), if_pos rfl, if_pos hs]
  | addon a => cases hk
  | tier t => cases hk
theorem item_suf {L : List Tk} {G : Gm} {seen : List (List Nat)} {x : (Gm × List (List Nat)) × List Tk} (h : itemG L G seen = .ok x) : x.2 <:+ L := by
  have n1 := nx_suf L
  unfold itemG at h
  split at h
  · cases h
  split at h
  · split at h
    · cases h
    · obtain ⟨y, e, h⟩ := bind_ok h
      injection h with h; subst h
      exact (pair_suf e).trans n1
  split at h
  · split at h
    · cases h
    · obtain ⟨y, e, h⟩ := bind_ok h
      injection h with h; subst h
      exact (pair_suf e).trans n1
  split at h
  · split at h
    · cases h
    · obtain ⟨y, e, h⟩ := bind_ok h
      injection h with h; subst h
      exact (day_suf e).trans n1
  split at h
  · obtain ⟨y, e, h⟩ := bind_ok h
    injection h with h; subst h
    exact (addon_suf e).1.trans n1
  split at h
  · obtain ⟨y, e, h⟩ := bind_ok h
    injection h with h; subst h
    exact (tier_suf e).trans n1
  · cases hs : simpleI (bs (hdT L).text) with
    | none => rw [hs] at h; cases h
    | some i =>
      rw [hs] at h
      dsimp only at h
      split at h
      · cases h
      · obtain ⟨y, e, h⟩ := then_ok h
        injection h with h; subst h
        exact (num_suf e).trans n1
theorem toks_word {i : It} (M : List (Int × List Nat)) (hM : M ≠ []) : ∃ w R, inK i.toks ++ M = (1, w) :: R ∧ R ≠ [] := by
  cases i with
  | two w a b => exact ⟨_, _, rfl, by simp⟩
  | num w n => exact ⟨_, _, rfl, by simp⟩
  | days d t => exact ⟨_, _, rfl, by simp⟩
  | addon a =>
    by_cases ha : a.kind = 1
    · simp only [It.toks, if_pos ha]; exact ⟨_, _, rfl, by simp⟩
    · simp only [It.toks, if_neg ha]; exact ⟨_, _, rfl, by simp⟩
  | tier t => exact ⟨_, _, rfl, by simp⟩
/-- Items, and then one of them again. -/
theorem gitems_dup {M : List (Int × List Nat)} (hM : M ≠ []) {i : It} (hwi : i.wok = true) {kk : List Nat} (hk : i.key = some kk) : ∀ (V : List It) (L : List Tk) (f : Nat) (g : Gm) (seen : List (List Nat)), V.all It.fine = true → V.all It.wok = true → (∀ i ∈ V, ∀ d t, i = .days d t → d ≠ 0) →
    (V.filterMap It.key).Nodup → (∀ k ∈ V.filterMap It.key, k ∉ seen) → (kk ∈ V.filterMap It.key ∨ kk ∈ seen) → L.map Kt = inK (itemsS V) ++ (inK i.toks ++ M) → V.length < f → ∃ L', gitemsT f L g seen = .error (6, L') ∧ L'.map Kt = inK i.toks ++ M ∧ L' <:+ L
  | [], L, f + 1, g, seen, _, _, _, _, _, hs, h, _ => by
    have h : L.map Kt = inK i.toks ++ M := h
    have hs : kk ∈ seen := hs.resolve_left (by simp)
    refine ⟨L, ?_, h, List.suffix_refl _⟩
    obtain ⟨w, R, eR, hR⟩ := toks_word (i := i) M hM
    have hkind := (st_next (h.trans eR) hR).1
    unfold gitemsT
    rw [if_pos hkind, item_dup hwi hk hM h hs]
    rfl
  | j :: V, L, f + 1, g, seen, hf, hw, hz, hn, hs, hkk, h, hl => by
    rw [List.all_cons, Bool.and_eq_true] at hf hw
    have h' : L.map Kt = inK j.toks ++ ((3, asc ";") :: (inK (itemsS V) ++ (inK i.toks ++ M))) := by
      rw [h]; simp [itemsS, inK, List.map_append]
    have hk1 : ∀ k, j.key = some k → k ∉ seen := fun k e => hs k (by rw [List.filterMap_cons, e]; simp)
    obtain ⟨L1, e1, h1⟩ := item_read hf.1 hw.1 (hz j (by simp)) (by simp) (by simp) h' (g := g) hk1
    obtain ⟨e2, h2⟩ := st_is h1 (by intro e; exact hM (List.append_eq_nil_iff.1 (List.append_eq_nil_iff.1 e).2).2)
    have hn' : (V.filterMap It.key).Nodup := by
      rw [List.filterMap_cons] at hn
      cases e : j.key with
      | none => rw [e] at hn; exact hn
      | some q => rw [e] at hn; exact (List.nodup_cons.1 hn).2
    have hkk' : kk ∈ V.filterMap It.key ∨ kk ∈ It.see seen j := by
      unfold It.see
      rw [List.filterMap_cons] at hkk
      cases e : j.key with
      | none => rw [e] at hkk; exact hkk
      | some q =>
        rw [e] at hkk
        rcases hkk with hkk | hkk
        · rcases List.mem_cons.1 hkk with rfl | hkk
          · exact .inr (by simp)
          · exact .inl hkk
        · exact .inr (List.mem_cons_of_mem _ hkk)
    obtain ⟨L', e3, h3, h4⟩ := gitems_dup hM hwi hk V (nxT L1) f (j.eff g) (It.see seen j) hf.2 hw.2 (fun j hj => hz j (by simp [hj])) hn' (fun k hkm => by
      have hks := hs k (by
        rw [List.filterMap_cons]
        cases j.key with
        | none => exact hkm
        | some q => exact List.mem_cons_of_mem _ hkm)
      unfold It.see
      cases e : j.key with
      | none => exact hks
      | some q =>
        rw [List.filterMap_cons, e] at hn
        intro hc
        rcases List.mem_cons.1 hc with rfl | hc
        · exact (List.nodup_cons.1 hn).1 hkm
        · exact hks hc) hkk' h2 (by rw [List.length_cons] at hl; omega)
    refine ⟨L', ?_, h3, h4.trans ((nx_suf L1).trans (item_suf e1))⟩
    obtain ⟨w, R, eR, hR⟩ := toks_word (i := j) ((3, asc ";") :: (inK (itemsS V) ++ (inK i.toks ++ M))) (by simp)
    have hkind := (st_next (h'.trans eR) hR).1
    unfold gitemsT
    rw [if_pos hkind, bindT_ok e1, thenT_some e2]
    exact e3
end Go.Proofs.YtbdkggnajipdhaaGreatDoor
