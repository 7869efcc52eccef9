/- The engine's rules for maps with string keys; quotients; make, build, append. -/
import Derived.Test.YthadhnmbddddbaaOnly
import Derived.Carry
namespace Go.Proofs.Ythadhnmbddddbaa
open Go.RowKit
section
variable {P : Program} {T : TypeId} {w : World} {g : Nat} {k : ByteArray}
theorem vBin_quo {x y : Operand} {a b : Int} (h0 : 0 ≤ a) (h1 : 0 < b) (h2 : a ≤ 9223372036854775807) : vBin P .quo T x y (.int .i64 a) (.int .i64 b) w = .ok (.value (.int .i64 (a / b))) w := by
  have h3 : 0 ≤ a / b := Int.ediv_nonneg h0 (by omega)
  have h4 : a / b ≤ a := Int.ediv_le_self b h0
  have h5 := IntWalk.i64_in (a / b) ⟨by omega, by omega⟩
  simp [vBin, eqGuard, binOp, Op.intDiv, show ¬ b = 0 by omega, Int.tdiv_eq_ediv_of_nonneg h0, h5]
theorem vBin_rem {x y : Operand} {a b : Int} (h0 : 0 ≤ a) (h1 : 0 < b) : vBin P .rem T x y (.int .i64 a) (.int .i64 b) w = .ok (.value (.int .i64 (a % b))) w := by
  simp [vBin, eqGuard, binOp, Op.intDiv, show ¬ b = 0 by omega, Int.tmod_eq_emod_of_nonneg h0]
theorem equal_bool {a b : Bool} (h : P.underlying T = some .bool) : (Op.equal T (.bool a) (.bool b)).run P w = .ok (a == b) w := by
  have e : ∀ d, (Op.equalIn (d + 1) T (.bool a) (.bool b)).run P w = .ok (a == b) w := fun d => by simp [Op.equalIn, run_underlying h w]
  exact e 9999
def booB (P : Program) (T : TypeId) : Bool := match P.underlying T with
  | some .bool => true
  | _ => false
theorem booB_is (h : booB P T = true) : P.underlying T = some .bool := by
  unfold booB at h
  cases hd : P.underlying T with
  | none => rw [hd] at h; cases h
  | some d => rw [hd] at h; cases d <;> first | rfl | cases h
/-- Pointers against nil. -/
def ptB (P : Program) (T : TypeId) : Bool := match P.underlying T with
  | some (.pointer _) => true
  | _ => false
theorem ptB_is (h : ptB P T = true) : ∃ e, P.underlying T = some (.pointer e) := by
  unfold ptB at h
  cases hd : P.underlying T with
  | none => rw [hd] at h; cases h
  | some d => rw [hd] at h; cases d <;> first | exact ⟨_, rfl⟩ | cases h
theorem equal_nil {p : Option Addr} (h : ptB P T = true) : (Op.equal T (.pointer p) (.pointer none)).run P w = .ok p.isNone w := by
  obtain ⟨el, hd⟩ := ptB_is h
  have e : ∀ d, (Op.equalIn (d + 1) T (.pointer p) (.pointer none)).run P w = .ok p.isNone w := fun d => by cases p <;> simp [Op.equalIn, run_underlying hd w]
  exact e 9999
def jBin (P : Program) (op : BinOp) (T : TypeId) (u v : Value) (w : World) : Result Next := (do pure (.value (← binOp op T u v)) : Sem Next).run P w
theorem vBin_enil {x y : Operand} {p : Option Addr} : vBin P .eql T x y (.pointer p) (.pointer none) w = ifB (ptB P T) (.ok (.value (.bool p.isNone)) w) (jBin P .eql T (.pointer p) (.pointer none) w) := by
  refine ifB_of (fun h => ?_) ?_
  · simp only [vBin, eqGuard, binOp]
    simp [equal_nil h]
  · simp [vBin, eqGuard, jBin]
theorem vBin_nnil {x y : Operand} {p : Option Addr} : vBin P .neq T x y (.pointer p) (.pointer none) w = ifB (ptB P T) (.ok (.value (.bool p.isSome)) w) (jBin P .neq T (.pointer p) (.pointer none) w) := by
  refine ifB_of (fun h => ?_) ?_
  · simp only [vBin, eqGuard, binOp]
    cases p <;> simp [equal_nil h]
  · simp [vBin, eqGuard, jBin]
theorem vBin_eqlb {x y : Operand} {a b : Bool} : vBin P .eql T x y (.bool a) (.bool b) w = ifB (booB P T) (.ok (.value (.bool (a == b))) w) (jBin P .eql T (.bool a) (.bool b) w) := by
  refine ifB_of (fun h => ?_) ?_
  · simp only [vBin, eqGuard, binOp]
    simp [equal_bool (booB_is h)]
  · simp [vBin, eqGuard, jBin]
theorem vBin_neqb {x y : Operand} {a b : Bool} : vBin P .neq T x y (.bool a) (.bool b) w = ifB (booB P T) (.ok (.value (.bool (!(a == b)))) w) (jBin P .neq T (.bool a) (.bool b) w) := by
  refine ifB_of (fun h => ?_) ?_
  · simp only [vBin, eqGuard, binOp]
    simp [equal_bool (booB_is h)]
  · simp [vBin, eqGuard, jBin]
/-- Maps. -/
def vMakeMap (P : Program) (T : TypeId) (w : World) : Result Next := (do pure (.value (← Instr.makeMap T none)) : Sem Next).run P w
def vLookup (P : Program) (T : TypeId) (m i : Value) (ok : Bool) (w : World) : Result Next := (do pure (.value (← Instr.lookup T m i ok)) : Sem Next).run P w
def vMapUpdate (P : Program) (T : TypeId) (m i v : Value) (w : World) : Result Next := (do Instr.mapUpdate T m i v; pure .skip : Sem Next).run P w
theorem r_makeMap (ty : TypeId) (σ : Sl) : run1 P (.makeMap T none) ty σ w = vMakeMap P T w := nr rfl
theorem r_lookup (ty : TypeId) (σ : Sl) (x i : Operand) (ok : Bool) : run1 P (.lookup T x i ok) ty σ w = vLookup P T (ev σ x) (ev σ i) ok w := nr rfl
theorem r_mapUpdate (ty : TypeId) (σ : Sl) (x i v : Operand) : run1 P (.mapUpdate T x i v) ty σ w = vMapUpdate P T (ev σ x) (ev σ i) (ev σ v) w := nr rfl
theorem vMakeMap_at : vMakeMap P T w = .ok (.value (.map (some w.heap.size))) (w.alloc (.map #[] 0)) := by
  simp [vMakeMap, Instr.makeMap, newObj, Sem.run_bind, Sem.run]
theorem bytes_beq (a b : ByteArray) : (a == b) = decide (a = b) := by
  rw [beq_toListBytes, Bool.eq_iff_iff]; simp only [beq_iff_eq, decide_eq_true_eq]
  exact ⟨fun h => ByteArray.ext (Array.ext' (by simpa [ByteArray.toList_eq] using h)), fun h => by rw [h]⟩
theorem run_checkKey_str {K : TypeId} {e : Bool} (h : P.underlying K = some .string) : (Instr.checkKey e 10000 K (.string k)).run P w = .ok () w := by
  have key : ∀ d, (Instr.checkKey e (d + 1) K (.string k)).run P w = .ok () w := fun d => by simp [Instr.checkKey, run_underlying h w]
  exact key 9999
/-- A map with string keys, as a list: key, value, birth. -/
def mkS (l : List (ByteArray × Value × Nat)) : Array MapEntry := (l.map fun p => ({ key := .string p.1, val := p.2.1, born := p.2.2 } : MapEntry)).toArray
def sfind (k : ByteArray) : Nat → List (ByteArray × Value × Nat) → Option (Nat × Value)
  | _, [] => none
  | i, (k', v, _) :: r => if k = k' then some (i, v) else sfind k (i + 1) r
def sget (k : ByteArray) (l : List (ByteArray × Value × Nat)) : Option Value := (sfind k 0 l).map (·.2)
theorem findNow_str : ∀ (l : List (ByteArray × Value × Nat)) (i : Nat), Instr.findNow .string (.string k) (l.map fun p => ({ key := .string p.1, val := p.2.1, born := p.2.2 } : MapEntry)) i = some (sfind k i l)
  | [], i => rfl
  | (k', v, b) :: r, i => by
    rw [List.map_cons, Instr.findNow, sfind]
    by_cases h : k = k'
    · subst h
      have : (k == k) = true := by rw [bytes_beq]; simp
      simp [Instr.sameNow, this]
    · have : (k == k') = false := by rw [bytes_beq]; simpa using h
      simp only [Instr.sameNow, this, if_neg h]
      exact findNow_str r (i + 1)
def mapZ (P : Program) (T : TypeId) : Option Value := match P.underlying T with
  | some (.map K E) => match P.underlying K with
    | some .string => (P.info? E).bind (·.zero)
    | _ => none
  | _ => none
theorem mapZ_is {z : Value} (h : mapZ P T = some z) : ∃ K E inf, P.underlying T = some (.map K E) ∧ P.underlying K = some .string ∧ P.info? E = some inf ∧ inf.zero = some z := by
  unfold mapZ at h
  cases hd : P.underlying T with
  | none => rw [hd] at h; cases h
  | some d =>
    rw [hd] at h
    cases d with
    | map K E =>
      simp only at h
      cases hk : P.underlying K with
      | none => rw [hk] at h; cases h
      | some dk =>
        rw [hk] at h
        cases dk with
        | string =>
          cases hi : P.info? E with
          | none => rw [hi] at h; cases h
          | some inf => rw [hi] at h; exact ⟨K, E, inf, rfl, hk, hi, h⟩
        | _ => cases h
    | _ => cases h
theorem vLookup_str {l : List (ByteArray × Value × Nat)} {clk : Nat} {z : Value} (hz : mapZ P T = some z) (hg : w.heap[g]? = some (.map (mkS l) clk)) :
    vLookup P T (.map (some g)) (.string k) true w = .ok (.value (.tuple #[(sget k l).getD z, .bool (sget k l).isSome])) w := by
  obtain ⟨K, E, inf, hT, hK, hE, hzz⟩ := mapZ_is hz
  have hf := findNow_str (k := k) l 0
  cases hs : sfind k 0 l with
  | none =>
    rw [hs] at hf
    simp [vLookup, Instr.lookup, Sem.run_bind, run_underlying hT w, getObj, Sem.run, hg, run_checkKey_str hK, run_underlying hK w, Instr.findKey, mkS, hf, zeroValue, typeInfo, hE, hzz, sget, hs]
  | some p =>
    rw [hs] at hf
    simp [vLookup, Instr.lookup, Sem.run_bind, run_underlying hT w, getObj, Sem.run, hg, run_checkKey_str hK, run_underlying hK w, Instr.findKey, mkS, hf, sget, hs]
def setO (w : World) (g : Nat) (o : Obj) : World := { w with heap := w.heap.setIfInBounds g o }
theorem vMapUpdate_new {l : List (ByteArray × Value × Nat)} {clk : Nat} {z v : Value} (hz : mapZ P T = some z) (hg : w.heap[g]? = some (.map (mkS l) clk)) (hn : sget k l = none) :
    vMapUpdate P T (.map (some g)) (.string k) v w = .ok .skip (setO w g (.map (mkS (l ++ [(k, v, clk)])) (clk + 1))) := by
  obtain ⟨K, E, inf, hT, hK, hE, hzz⟩ := mapZ_is hz
  have hf := findNow_str (k := k) l 0
  have hs : sfind k 0 l = none := by
    unfold sget at hn
    cases h : sfind k 0 l with
    | none => rfl
    | some p => rw [h] at hn; cases hn
  rw [hs] at hf
  simp [vMapUpdate, Instr.mapUpdate, Sem.run_bind, run_underlying hT w, getObj, setObj, Sem.run, hg, run_checkKey_str hK, run_underlying hK w, Instr.findKey, mkS, hf, setO]
theorem setO_size (o : Obj) : (setO w g o).heap.size = w.heap.size := by simp [setO]
theorem setO_at (o : Obj) (h : g < w.heap.size) : (setO w g o).heap[g]? = some o := by simp [setO, h]
theorem setO_block (o : Obj) {i : Nat} (h : i ≠ g) : (setO w g o).heap[i]? = w.heap[i]? := by simp [setO, Array.getElem?_setIfInBounds, Ne.symm h]
theorem setO_below {B : Nat} {a : World} (h : Below B a w) (hB : B ≤ g) (o : Obj) : Below B a (setO w g o) :=
  h.trans ⟨rfl, rfl, rfl, by simp [setO], fun i hi => setO_block o (by omega)⟩
end
end Go.Proofs.Ythadhnmbddddbaa
