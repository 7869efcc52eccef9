/- The engine's rules for strings: cutting, joining, ranges; conversions; calls of a value; small kinds of integers. -/
import Derived.Test.YthadhnmbddddbaaBuild
import Derived.Laws.RangeString
import Derived.Laws.Slices
namespace Go.Proofs.Ythadhnmbddddbaa
open Go.RowKit
section
variable {P : Program} {T : TypeId} {w : World}
/-- A call of a function that lies in a slot. -/
def vCallv (P : Program) (v : Value) (args : Array Value) (w : World) : Result Next := (do let d ← Deferred.ofValue v args; invoke d.target d.args : Sem Next).run P w
theorem r_callv (ty : TypeId) (σ : Sl) (t : Nat) (xs : List Operand) (ts : Array TypeId) : run1 P (.call ⟨.value (.tmp t), xs.toArray, ts⟩) ty σ w = vCallv P (σ t) (xs.map (ev σ)).toArray w := by
  simp [run1, execOp, resolve, ev, vCallv]
theorem vCallv_func {f : FuncId} {args : Array Value} : vCallv P (.func (.func f) #[] #[]) args w = vCall P f args w := by
  simp [vCallv, Deferred.ofValue, invoke, vCall]
/-- Cutting. -/
def vSlice (P : Program) (T : TypeId) (x : Value) (lo hi mx : Option Value) (w : World) : Result Next := (do pure (.value (← Instr.sliceAt T x lo hi mx)) : Sem Next).run P w
theorem r_slice (ty : TypeId) (σ : Sl) (x : Operand) (lo hi mx : Option Operand) : run1 P (.slice T x lo hi mx) ty σ w = vSlice P T (ev σ x) (lo.map (ev σ)) (hi.map (ev σ)) (mx.map (ev σ)) w := nr rfl
def slT (x : Bool) (s : ByteArray) (a b : Int) (w : World) (j : Result Next) : Result Next := match x with
  | true => if 0 ≤ a ∧ a ≤ b ∧ b ≤ s.size then .ok (.value (.string (s.extract a.toNat b.toNat))) w else j
  | false => j
theorem slT_true {s : ByteArray} {a b : Int} (h0 : 0 ≤ a) (h1 : a ≤ b) (h2 : b ≤ s.size) (j : Result Next) : slT true s a b w j = .ok (.value (.string (s.extract a.toNat b.toNat))) w := by
  simp only [slT]; rw [if_pos ⟨h0, h1, h2⟩]
def jSlice (P : Program) (T : TypeId) (x : Value) (lo hi : Option Value) (w : World) : Result Next := vSlice P T x lo hi none w
theorem strB_is (h : strB P T = true) : P.underlying T = some .string := by
  unfold strB at h
  cases hd : P.underlying T with
  | none => rw [hd] at h; cases h
  | some d => rw [hd] at h; cases d <;> first | rfl | cases h
theorem slice_str {s : ByteArray} {lo hi : Option Value} {a b : Int} (hT : strB P T = true) (hlo : (match lo with | some v => ∃ k, v = .int k a | none => a = 0)) (hhi : (match hi with | some v => ∃ k, v = .int k b | none => b = s.size))
    (h0 : 0 ≤ a) (h1 : a ≤ b) (h2 : b ≤ s.size) : vSlice P T (.string s) lo hi none w = .ok (.value (.string (s.extract a.toNat b.toNat))) w := by
  have hu := strB_is hT
  have key : ∀ (x y : Nat) (k : IntKind) (i : Int) (code : BoundsCode), 0 ≤ i → i ≤ y → (Instr.sliceBound (.int k i) y code).run P w = .ok i.toNat w := fun x y k i code h h' => by
    simp [Instr.sliceBound, asIntOf, h, h']
  cases lo with
  | none =>
    subst hlo
    cases hi with
    | none =>
      subst hhi
      simp [vSlice, Instr.sliceAt, Instr.slice, run_underlying hu, Instr.sliceBounds]
    | some v =>
      obtain ⟨k, rfl⟩ := hhi
      simp [vSlice, Instr.sliceAt, Instr.slice, run_underlying hu, Instr.sliceBounds, key 0 s.size k b _ (by omega) h2]
  | some u =>
    obtain ⟨k', rfl⟩ := hlo
    cases hi with
    | none =>
      subst hhi
      simp [vSlice, Instr.sliceAt, Instr.slice, run_underlying hu, Instr.sliceBounds, key 0 s.size k' a _ h0 h1]
    | some v =>
      obtain ⟨k, rfl⟩ := hhi
      simp [vSlice, Instr.sliceAt, Instr.slice, run_underlying hu, Instr.sliceBounds, key 0 s.size k b _ (by omega) h2, key 0 b.toNat k' a _ h0 (by omega)]
theorem vSlice_lh {s : ByteArray} {k k' : IntKind} {a b : Int} : vSlice P T (.string s) (some (.int k a)) (some (.int k' b)) none w = slT (strB P T) s a b w (jSlice P T (.string s) (some (.int k a)) (some (.int k' b)) w) := by
  unfold slT jSlice
  cases hT : strB P T with
  | false => rfl
  | true =>
    simp only
    split
    · rename_i h; exact slice_str hT ⟨_, rfl⟩ ⟨_, rfl⟩ h.1 h.2.1 h.2.2
    · rfl
theorem vSlice_l {s : ByteArray} {k : IntKind} {a : Int} : vSlice P T (.string s) (some (.int k a)) none none w = slT (strB P T) s a s.size w (jSlice P T (.string s) (some (.int k a)) none w) := by
  unfold slT jSlice
  cases hT : strB P T with
  | false => rfl
  | true =>
    simp only
    split
    · rename_i h; exact slice_str hT ⟨_, rfl⟩ rfl h.1 h.2.1 h.2.2
    · rfl
theorem vSlice_h {s : ByteArray} {k : IntKind} {b : Int} : vSlice P T (.string s) none (some (.int k b)) none w = slT (strB P T) s 0 b w (jSlice P T (.string s) none (some (.int k b)) w) := by
  unfold slT jSlice
  cases hT : strB P T with
  | false => rfl
  | true =>
    simp only
    split
    · rename_i h; exact slice_str hT rfl ⟨_, rfl⟩ h.1 h.2.1 h.2.2
    · rfl
/-- The head of a slice. -/
def shT (x : Option Nat) (A : Option Addr) (c : Nat) (b : Int) (w : World) (j : Result Next) : Result Next := match x with
  | some _ => if 0 ≤ b ∧ b ≤ c then .ok (.value (.slice A b.toNat c)) w else j
  | none => j
theorem shT_some {A : Option Addr} {c : Nat} {b : Int} (h0 : 0 ≤ b) (h1 : b ≤ c) (s : Nat) (j : Result Next) : shT (some s) A c b w j = .ok (.value (.slice A b.toNat c)) w := by
  simp only [shT]; rw [if_pos ⟨h0, h1⟩]
theorem add_zero (a : Addr) : a.add 0 = a := if_pos rfl
theorem vSlice_sh {A : Option Addr} {n c : Nat} {k : IntKind} {b : Int} : vSlice P T (.slice A n c) none (some (.int k b)) none w = shT (eSz P T) A c b w (jSlice P T (.slice A n c) none (some (.int k b)) w) := by
  unfold shT jSlice
  cases hT : eSz P T with
  | none => rfl
  | some s =>
    simp only
    split
    · rename_i h
      unfold eSz at hT
      cases hd : P.underlying T with
      | none => rw [hd] at hT; cases hT
      | some d =>
        rw [hd] at hT
        cases d with
        | slice e =>
          simp only at hT
          cases hi : P.info? e with
          | none => rw [hi] at hT; cases hT
          | some inf =>
            have key : (Instr.sliceBound (.int k b) c .sliceAcap).run P w = .ok b.toNat w := by simp [Instr.sliceBound, asIntOf, h.1, h.2]
            have hA : (A.map fun a => a.add 0) = A := by cases A <;> simp [add_zero]
            simp [vSlice, Instr.sliceAt, Instr.slice, run_underlying hd, Instr.sliceBounds, key, sizeOf, typeInfo, hi, hA]
        | _ => cases hT
    · rfl
/-- Joining. -/
theorem vBin_adds {x y : Operand} {s t : ByteArray} (h : (s.size : Int) + t.size ≤ 9223372036854775807) : vBin P .add T x y (.string s) (.string t) w = .ok (.value (.string (s ++ t))) w := by
  have e : ¬ (IntKind.i64.max < (s.size : Int) + t.size) := by
    have : IntKind.i64.max = 9223372036854775807 := by decide
    omega
  simp [vBin, eqGuard, binOp, Op.stringOp, e]
  exact h
/-- Conversions to an integer. -/
def okT (P : Program) (T : TypeId) : Bool := (P.underlying T).isSome
def ikT (P : Program) (T : TypeId) : Option IntKind := match P.underlying T with
  | some (.int k) => some k
  | _ => none
def cvT (x : Bool) (y : Option IntKind) (n : Int) (w : World) (j : Result Next) : Result Next := match x, y with
  | true, some k => .ok (.value (.int k (k.wrap n))) w
  | _, _ => j
theorem cvT_ok (k : IntKind) (n : Int) (j : Result Next) : cvT true (some k) n w j = .ok (.value (.int k (k.wrap n))) w := nr rfl
def jConv (P : Program) (a b : TypeId) (v : Value) (w : World) : Result Next := vConvert P a b v w
theorem vConvert_int {a b : TypeId} {k' : IntKind} {n : Int} : vConvert P a b (.int k' n) w = cvT (okT P a) (ikT P b) n w (jConv P a b (.int k' n) w) := by
  unfold jConv
  cases h1 : okT P a with
  | false => rfl
  | true =>
    cases h2 : ikT P b with
    | none => rfl
    | some k =>
      rw [cvT_ok]
      unfold okT at h1
      unfold ikT at h2
      obtain ⟨d, hd⟩ := Option.isSome_iff_exists.1 h1
      cases hb : P.underlying b with
      | none => rw [hb] at h2; cases h2
      | some e =>
        rw [hb] at h2
        cases e with
        | int k2 =>
          simp only [Option.some.injEq] at h2
          subst h2
          simp [vConvert, convert, run_underlying hd, run_underlying hb, Conv.intToInt]
        | _ => cases h2
theorem wrap_i32 {n : Int} (h0 : -2147483648 ≤ n) (h1 : n ≤ 2147483647) : IntKind.i32.wrap n = n := IntWalk.i32_in n ⟨h0, h1⟩
theorem wrap_i64 {n : Int} (h0 : -9223372036854775808 ≤ n) (h1 : n ≤ 9223372036854775807) : IntKind.i64.wrap n = n := IntWalk.i64_in n ⟨h0, h1⟩
theorem wrap_u8 {n : Int} (h0 : 0 ≤ n) (h1 : n ≤ 255) : IntKind.u8.wrap n = n := IntWalk.u8_in n ⟨h0, h1⟩
theorem vBin_rem8 {x y : Operand} {a b : Int} (h0 : 0 ≤ a) (h1 : 0 < b) : vBin P .rem T x y (.int .u8 a) (.int .u8 b) w = .ok (.value (.int .u8 (a % b))) w := by
  simp [vBin, eqGuard, binOp, Op.intDiv, show ¬ b = 0 by omega, Int.tmod_eq_emod_of_nonneg h0]
theorem vBin_add8 {x y : Operand} {a b : Int} (h1 : 0 ≤ a + b) (h2 : a + b ≤ 255) : vBin P .add T x y (.int .u8 a) (.int .u8 b) w = .ok (.value (.int .u8 (a + b))) w := by
  simp [vBin, eqGuard, binOp, Op.intArith, IntWalk.u8_in _ ⟨h1, h2⟩]
/-- A range over a string. -/
def vRange (P : Program) (T : TypeId) (u : Value) (w : World) : Result Next := (do pure (.value (← Instr.range T u)) : Sem Next).run P w
theorem r_range (ty : TypeId) (σ : Sl) (x : Operand) : run1 P (.range T x) ty σ w = vRange P T (ev σ x) w := nr rfl
def jRange (P : Program) (T : TypeId) (u : Value) (w : World) : Result Next := vRange P T u w
theorem vRange_str {s : ByteArray} : vRange P T (.string s) w = ifB (strB P T) (.ok (.value (.pointer (some ⟨w.heap.size, 0, none⟩))) (w.alloc (.stringIter s 0))) (jRange P T (.string s) w) := by
  refine ifB_of (fun h => ?_) rfl
  have := run_range_string w T s (strB_is h)
  simp only [vRange, Sem.run_bind, this, Result.andThen, Sem.run_pure]
  rfl
def vNext (P : Program) (u : Value) (b : Bool) (ty : TypeId) (w : World) : Result Next := (do pure (.value (← Instr.next u b ty)) : Sem Next).run P w
theorem r_next (ty : TypeId) (σ : Sl) (x : Operand) (b : Bool) : run1 P (.next x b) ty σ w = vNext P (ev σ x) b ty w := nr rfl
theorem vNext_some {s : ByteArray} {pos g : Nat} {ty : TypeId} (hg : w.heap[g]? = some (.stringIter s pos)) (h : pos < s.size) :
    vNext P (.pointer (some ⟨g, 0, none⟩)) true ty w = .ok (.value (.tuple #[.bool true, .int .i64 pos, .int .i32 (Utf8.decode s pos).1])) (setO w g (.stringIter s (pos + (Utf8.decode s pos).2))) := by
  simp [vNext, Instr.next, getObj, setObj, Sem.run_bind, Sem.run, hg, h, goInt, setO]
theorem vNext_end {s : ByteArray} {pos g : Nat} {ty : TypeId} (hg : w.heap[g]? = some (.stringIter s pos)) (h : ¬ pos < s.size) :
    vNext P (.pointer (some ⟨g, 0, none⟩)) true ty w = .ok (.value (.tuple #[.bool false])) w := by
  simp [vNext, Instr.next, getObj, Sem.run_bind, Sem.run, hg, h]
end
end Go.Proofs.Ythadhnmbddddbaa
