/- The engine's rules for memory that is written. -/
import Derived.Test.YthadhnmbddddbaaRules
import Derived.Deep.WholeRow
import Derived.Laws.IdiomCopy
namespace Go.Proofs.Ythadhnmbddddbaa
open Go.RowKit
section
variable {P : Program} {T : TypeId} {w : World} {b o : Nat}
def oneC : Value → Bool
  | .agg _ | .tuple _ => false
  | _ => true
theorem oneC_is {v : Value} (h : oneC v = true) : v.oneCell' = true ∧ v.cells = #[v] := by
  cases v <;> first | exact ⟨rfl, rfl⟩ | cases h
def soT (n : Nat) (c : Option Value) (f : Bool) (b o : Nat) (v : Value) (w : World) (j : Result Next) : Result Next := match n, c, f with
  | 1, some _, false => .ok .skip (w.setCell ⟨b, o, none⟩ v)
  | _, _, _ => j
theorem soT_ok (u v : Value) (j : Result Next) : soT 1 (some u) false b o v w j = .ok .skip (w.setCell ⟨b, o, none⟩ v) := nr rfl
def jStore (P : Program) (T : TypeId) (b o : Nat) (v : Value) (w : World) : Result Next := vStore P T (.pointer (some ⟨b, o, none⟩)) v w
theorem vStore_any {v : Value} (hv : oneC v = true) : vStore P T (.pointer (some ⟨b, o, none⟩)) v w = soT (szOf P T) (w.cell? ⟨b, o, none⟩) (w.frozen? ⟨b, o, none⟩) b o v w (jStore P T b o v w) := by
  obtain ⟨h1, h2⟩ := oneC_is hv
  unfold jStore
  by_cases hs : szOf P T = 1
  · rw [hs]
    cases hc : w.cell? ⟨b, o, none⟩ with
    | none => rfl
    | some u =>
      cases hf : w.frozen? ⟨b, o, none⟩ with
      | true => rfl
      | false =>
        rw [soT_ok]
        unfold szOf at hs
        cases hq : P.info? T with
        | none => rw [hq] at hs; cases hs
        | some inf =>
          have hz : inf.size = 1 := by simpa [hq] using hs
          simp [vStore, Instr.storeAt, Instr.sureAddr, storeVar, sizeOf, typeInfo, hq, hz, h2, storeCells, addr_add, run_store P _ _ _ _ h1, stored, hc, hf]
  · unfold soT
    split
    · exact absurd ‹_› hs
    · rfl
theorem vStore_int {k : IntKind} {n : Int} : vStore P T (.pointer (some ⟨b, o, none⟩)) (.int k n) w = soT (szOf P T) (w.cell? ⟨b, o, none⟩) (w.frozen? ⟨b, o, none⟩) b o (.int k n) w (jStore P T b o (.int k n) w) := vStore_any rfl
theorem vStore_bool {t : Bool} : vStore P T (.pointer (some ⟨b, o, none⟩)) (.bool t) w = soT (szOf P T) (w.cell? ⟨b, o, none⟩) (w.frozen? ⟨b, o, none⟩) b o (.bool t) w (jStore P T b o (.bool t) w) := vStore_any rfl
theorem vStore_str {s : ByteArray} : vStore P T (.pointer (some ⟨b, o, none⟩)) (.string s) w = soT (szOf P T) (w.cell? ⟨b, o, none⟩) (w.frozen? ⟨b, o, none⟩) b o (.string s) w (jStore P T b o (.string s) w) := vStore_any rfl
theorem vStore_ptr {p : Option Addr} : vStore P T (.pointer (some ⟨b, o, none⟩)) (.pointer p) w = soT (szOf P T) (w.cell? ⟨b, o, none⟩) (w.frozen? ⟨b, o, none⟩) b o (.pointer p) w (jStore P T b o (.pointer p) w) := vStore_any rfl
theorem vStore_slc {a : Option Addr} {n c : Nat} : vStore P T (.pointer (some ⟨b, o, none⟩)) (.slice a n c) w = soT (szOf P T) (w.cell? ⟨b, o, none⟩) (w.frozen? ⟨b, o, none⟩) b o (.slice a n c) w (jStore P T b o (.slice a n c) w) := vStore_any rfl
theorem vStore_map {a : Option Nat} : vStore P T (.pointer (some ⟨b, o, none⟩)) (.map a) w = soT (szOf P T) (w.cell? ⟨b, o, none⟩) (w.frozen? ⟨b, o, none⟩) b o (.map a) w (jStore P T b o (.map a) w) := vStore_any rfl
/-- A whole struct into the block that was just made for it. -/
def agL : Nat → List Value → List Value → Bool
  | 0, [], [] => true
  | n + 1, _ :: zs, v :: cs => oneC v && agL n zs cs
  | _, _, _ => false
theorem agL_is : ∀ (n : Nat) (zs cs : List Value), agL n zs cs = true → zs.length = n ∧ cs.length = n ∧ ∀ v ∈ cs, v.oneCell' = true
  | 0, [], [], _ => ⟨rfl, rfl, fun v hv => by cases hv⟩
  | n + 1, _ :: zs, v :: cs, h => by
    simp only [agL, Bool.and_eq_true] at h
    obtain ⟨h1, h2, h3⟩ := agL_is n zs cs h.2
    refine ⟨by simp [h1], by simp [h2], fun u hu => ?_⟩
    rcases List.mem_cons.1 hu with rfl | hu
    · exact (oneC_is h.1).1
    · exact h3 u hu
  | 0, _ :: _, _, h => by simp [agL] at h
  | 0, [], _ :: _, h => by simp [agL] at h
  | _ + 1, [], _, h => by simp [agL] at h
  | _ + 1, _ :: _, [], h => by simp [agL] at h
def jStoreA (P : Program) (T : TypeId) (b : Nat) (cs : List Value) (w : World) : Result Next := vStore P T (.pointer (some ⟨b, 0, none⟩)) (.agg cs.toArray) w
theorem vStore_agg {z c : Value} {zs cs : List Value} (hb : b = w.heap.size) : vStore P T (.pointer (some ⟨b, 0, none⟩)) (.agg (c :: cs).toArray) (w.alloc (.cells (z :: zs).toArray T)) =
    ifB (agL (szOf P T) (z :: zs) (c :: cs)) (.ok .skip (w.alloc (.cells (c :: cs).toArray T))) (jStoreA P T b (c :: cs) (w.alloc (.cells (z :: zs).toArray T))) := by
  subst hb
  refine ifB_of (fun h => ?_) rfl
  obtain ⟨h1, h2, h3⟩ := agL_is _ _ _ h
  have hi : (P.info? T).map (·.size) = some (c :: cs).toArray.size := by
    unfold szOf at h2
    cases hq : P.info? T with
    | none => rw [hq] at h2; simp at h2
    | some inf => rw [hq] at h2; simp at h2 ⊢; omega
  have := run_storeVar_new (P := P) w T (z :: zs).toArray (c :: cs).toArray hi (by rw [List.size_toArray, List.size_toArray, h1, h2]) (by rw [List.all_toArray, List.all_eq_true]; exact h3)
  simp only [vStore, Instr.storeAt, Instr.sureAddr, Sem.run_bind, Sem.run_pure, Result.andThen, this]
/-- A struct into memory that is there. -/
def okC (w : World) (b : Nat) : Nat → Nat → List Value → Bool
  | 0, _, [] => true
  | n + 1, o, v :: r => oneC v && ((w.cell? ⟨b, o, none⟩).isSome && (!(w.frozen? ⟨b, o, none⟩) && okC w b n (o + 1) r))
  | _, _, _ => false
theorem okC_is : ∀ (n o : Nat) (cs : List Value), okC w b n o cs = true → cs.length = n ∧ (∀ j, j < cs.length → (w.cell? ⟨b, o + j, none⟩).isSome = true) ∧ (∀ j, j < cs.length → w.frozen? ⟨b, o + j, none⟩ = false) ∧ ∀ v ∈ cs, v.oneCell' = true
  | 0, o, [], _ => ⟨rfl, fun j h => absurd h (Nat.not_lt_zero _), fun j h => absurd h (Nat.not_lt_zero _), fun v h => by cases h⟩
  | n + 1, o, v :: r, h => by
    simp only [okC, Bool.and_eq_true, Bool.not_eq_true'] at h
    obtain ⟨h1, h2, h3, h4⟩ := h
    obtain ⟨k1, k2, k3, k4⟩ := okC_is n (o + 1) r h4
    refine ⟨by simp [k1], fun j hj => ?_, fun j hj => ?_, fun u hu => ?_⟩
    · cases j with
      | zero => exact h2
      | succ j => rw [show o + (j + 1) = o + 1 + j from by omega]; exact k2 j (by simpa using hj)
    · cases j with
      | zero => exact h3
      | succ j => rw [show o + (j + 1) = o + 1 + j from by omega]; exact k3 j (by simpa using hj)
    · rcases List.mem_cons.1 hu with rfl | hu
      · exact (oneC_is h1).1
      · exact k4 u hu
  | 0, _, _ :: _, h => by simp [okC] at h
  | _ + 1, _, [], h => by simp [okC] at h
def jStoreN (P : Program) (T : TypeId) (b o : Nat) (cs : List Value) (w : World) : Result Next := vStore P T (.pointer (some ⟨b, o, none⟩)) (.agg cs.toArray) w
theorem setCells_nil (w : World) (b o : Nat) : w.setCells b o [] = w := nr rfl
theorem setCells_cons (w : World) (b o : Nat) (v : Value) (r : List Value) : w.setCells b o (v :: r) = (w.setCell ⟨b, o, none⟩ v).setCells b (o + 1) r := nr rfl
theorem vStore_aggN {c : Value} {cs : List Value} : vStore P T (.pointer (some ⟨b, o, none⟩)) (.agg (c :: cs).toArray) w =
    ifB (okC w b (szOf P T) o (c :: cs)) (.ok .skip (w.setCells b o (c :: cs))) (jStoreN P T b o (c :: cs) w) := by
  refine ifB_of (fun h => ?_) rfl
  obtain ⟨h1, h2, h3, h4⟩ := okC_is _ _ _ h
  cases hq : P.info? T with
  | none => unfold szOf at h1; rw [hq] at h1; simp at h1
  | some inf =>
    have hz : inf.size = (c :: cs).length := by unfold szOf at h1; rw [hq] at h1; simpa using h1.symm
    have hst := run_storeCells_cells (P := P) b o (c :: cs) 0 w (by simpa using h2) (by simpa using h3) h4
    simp only [Nat.add_zero] at hst
    simp only [vStore, Instr.storeAt, Instr.sureAddr, storeVar, sizeOf, typeInfo, Sem.run_bind, Sem.run_pure, run_program, Result.andThen, hq, Value.cells, List.size_toArray, hz]
    simp [hst]
/-- Cells behind a store. -/
theorem cS_same (v : Value) : (w.setCell ⟨b, o, none⟩ v).cell? ⟨b, o, none⟩ = (w.cell? ⟨b, o, none⟩).map fun _ => v := by
  cases h : w.cell? ⟨b, o, none⟩ with
  | none =>
    rw [Option.map_none]
    unfold World.cell? World.setCell at *
    simp only [Array.getElem?_modify] at *
    simp only [if_true]
    cases hb : w.heap[b]? with
    | none => simp
    | some ob => rw [hb] at h; cases ob <;> simp_all
  | some u => rw [Option.map_some]; exact World.cell?_setCell_same' w _ v (by rw [h]; rfl)
theorem cS_other {b' o' : Nat} (v : Value) (h : b ≠ b' ∨ o ≠ o') : (w.setCell ⟨b, o, none⟩ v).cell? ⟨b', o', none⟩ = w.cell? ⟨b', o', none⟩ :=
  World.cell?_setCell_other _ _ _ _ (fun e => by
    injection e with e1 e2
    rcases h with h | h
    · exact h e1
    · exact h e2)
end
end Go.Proofs.Ythadhnmbddddbaa
