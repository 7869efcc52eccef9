/- The engine's rules: what each operation gives on values. -/
import Derived.Test.YthadhnmbddddbaaEng
namespace Go.Proofs.Ythadhnmbddddbaa
open Go.RowKit

/-! How simp goes through: what comes behind an operation is not looked at before the operation is run. -/
section
variable {P : Program} {n : Nat}
@[congr] theorem Okv_congr {R : Value → World → Prop} {r r' : Result Next} (h : r = r') : Okv P R r = Okv P R r' := by rw [h]
@[congr] theorem Oks_congr {R : Value → Prop} {w : World} {r r' : Result Next} (h : r = r') : Oks P w R r = Oks P w R r' := by rw [h]
@[congr] theorem E_congr {ops : Array Oper} {l : List Oper} {σ σ' : Sl} {w w' : World} {K : Sl → World → Prop} (h : σ = σ') (h' : w = w') : E P n ops l σ w K = E P n ops l σ' w' K := by rw [h, h']
@[congr] theorem S_congr {ops : Array Oper} {l : List Oper} {σ σ' : Sl} {w : World} {K : Sl → Prop} (h : σ = σ') : S P n ops w l σ K = S P n ops w l σ' K := by rw [h]
@[congr] theorem W_congr {c : Code} {Q : Exit → Sl → World → Prop} {σ σ' : Sl} {w w' : World} (h : σ = σ') (h' : w = w') : W P n c Q σ w = W P n c Q σ' w' := by rw [h, h']
@[congr] theorem Raw_congr {c : Code} {Q : Exit → Sl → World → Prop} {σ σ' : Sl} {w w' : World} (h : σ = σ') (h' : w = w') : Raw P n c Q σ w = Raw P n c Q σ' w' := by rw [h, h']
@[congr] theorem thenX_congr {K : Sl → World → Prop} {Q : Exit → Sl → World → Prop} {e : Exit} {σ σ' : Sl} {w w' : World} (h : σ = σ') (h' : w = w') : thenX K Q e σ w = thenX K Q e σ' w' := by rw [h, h']
theorem inX_exit_same {Q : Exit → Sl → World → Prop} {σ : Sl} {w : World} {id : Nat} : inX id Q (.exit id) σ w = Q .normal σ w := if_pos rfl
theorem inX_exit_ne {Q : Exit → Sl → World → Prop} {σ : Sl} {w : World} {id id' : Nat} (h : id' ≠ id) : inX id Q (.exit id') σ w = Q (.exit id') σ w := if_neg h
@[congr] theorem inX_congr {id : Nat} {Q : Exit → Sl → World → Prop} {e : Exit} {σ σ' : Sl} {w w' : World} (h : σ = σ') (h' : w = w') : inX id Q e σ w = inX id Q e σ' w' := by rw [h, h']
@[congr] theorem condX_congr {v v' : Value} {p q : Prop} (h : v = v') : condX v p q = condX v' p q := by rw [h]
end
/-! Readers of a drawn region, in one world. -/
def Okr (w : World) (R : Value → Prop) : Result Next → Prop
  | .ok (.value v) w' => w' = w ∧ R v
  | _ => False
theorem Okr_value (w : World) (R : Value → Prop) (v : Value) : Okr w R (.ok (.value v) w) = R v := by simp [Okr]
@[congr] theorem Okr_congr {R : Value → Prop} {w : World} {r r' : Result Next} (h : r = r') : Okr w R r = Okr w R r' := by rw [h]
/-- The readers, one behind the other, in one world. -/
def V (P : Program) (n : Nat) (w : World) : List Oper → Sl → (Sl → Prop) → Prop
  | [], σ, K => K σ
  | ⟨d, op, ty, _, _, _⟩ :: r, σ, K => Okr w (fun v => V P n w r (put n σ d v) K) (run1 P op ty σ w)
theorem V_nil (P : Program) (n : Nat) (σ : Sl) (w : World) (K : Sl → Prop) : V P n w [] σ K = K σ := nr rfl
theorem V_op (P : Program) (n : Nat) (d : Option Nat) (op : Op) (ty : TypeId) (p : String) (af : Array Edge) (g : Option (Nat × Bool)) (r : List Oper) (σ : Sl) (w : World) (K : Sl → Prop) :
    V P n w (⟨d, op, ty, p, af, g⟩ :: r) σ K = Okr w (fun v => V P n w r (put n σ d v) K) (run1 P op ty σ w) := nr rfl
@[congr] theorem V_congr {P : Program} {n : Nat} {l : List Oper} {σ σ' : Sl} {w : World} {K : Sl → Prop} (h : σ = σ') : V P n w l σ K = V P n w l σ' K := by rw [h]
/-- A value that stands in its slot only where c. -/
def cv (c : Bool) (v : Value) : Value := if c then v else undef
def pk (c : Bool) (x y : Value) : Value := if c then x else y
theorem cv_true (v : Value) : cv true v = v := nr rfl
theorem cv_false (v : Value) : cv false v = undef := nr rfl
theorem pk_true (x y : Value) : pk true x y = x := nr rfl
theorem pk_false (x y : Value) : pk false x y = y := nr rfl
theorem pk_or (c d : Bool) : pk c (.bool true) (cv (!c) (.bool d)) = .bool (c || d) := by cases c <;> rfl
theorem pk_and (c d : Bool) : pk c (cv c (.bool d)) (.bool false) = .bool (c && d) := by cases c <;> rfl
theorem pk_bool (c d e : Bool) : pk c (.bool d) (.bool e) = .bool (if c then d else e) := by cases c <;> rfl
theorem isB_bool (b c : Bool) : isB b (.bool c) = (c == b) := nr rfl
theorem isB_cv (b c d : Bool) : isB b (cv c (.bool d)) = (c && (d == b)) := by cases c <;> rfl
theorem isB_undef (b : Bool) : isB b undef = false := nr rfl
theorem beq_t (c : Bool) : (c == true) = c := by cases c <;> rfl
theorem beq_f (c : Bool) : (c == false) = !c := by cases c <;> rfl
section
variable {P : Program}
theorem Okv_value (R : Value → World → Prop) (v : Value) (w : World) : Okv P R (.ok (.value v) w) = R v w := nr rfl
theorem Okv_skip (R : Value → World → Prop) (w : World) : Okv P R (.ok .skip w) = R undef w := nr rfl
theorem Oks_value (R : Value → Prop) (v : Value) (w : World) : Oks P w R (.ok (.value v) w) = R v := by simp [Oks]
theorem GB_true (r : Result Next) (R : Value → World → Prop) (w : World) : GB P true r R w = Okv P R r := nr rfl
theorem GB_false (r : Result Next) (R : Value → World → Prop) (w : World) : GB P false r R w = R undef w := by simp [GB]
theorem GB_value (g : Bool) (v : Value) (R : Value → World → Prop) (w : World) : GB P g (.ok (.value v) w) R w = R (cv g v) w := by cases g <;> simp [GB, Okv, cv]
theorem GS_true (r : Result Next) (R : Value → Prop) (w : World) : GS P true r R w = Oks P w R r := nr rfl
theorem GS_false (r : Result Next) (R : Value → Prop) (w : World) : GS P false r R w = R undef := by simp [GS]
theorem GS_value (g : Bool) (v : Value) (R : Value → Prop) (w : World) : GS P g (.ok (.value v) w) R w = R (cv g v) := by cases g <;> simp [GS, Oks, cv]
@[congr] theorem GB_congr {g g' : Bool} {r r' : Result Next} {R : Value → World → Prop} {w : World} (hg : g = g') (hr : g' = true → r = r') : GB P g r R w = GB P g' r' R w := by
  subst hg; cases g
  · rfl
  · rw [hr rfl]
@[congr] theorem GS_congr {g g' : Bool} {r r' : Result Next} {R : Value → Prop} {w : World} (hg : g = g') (hr : g' = true → r = r') : GS P g r R w = GS P g' r' R w := by
  subst hg; cases g
  · rfl
  · rw [hr rfl]

theorem W_if_t {n : Nat} {Q : Exit → Sl → World → Prop} {σ : Sl} {w : World} {c : Operand} {x y : Code} (hc : ev σ c = .bool true) (h1 : W P n x Q σ w) : W P n (.cond c x y) Q σ w := by
  rw [W_cond, hc]; exact ⟨fun _ => h1, fun h => (by cases h)⟩
theorem W_if_f {n : Nat} {Q : Exit → Sl → World → Prop} {σ : Sl} {w : World} {c : Operand} {x y : Code} (hc : ev σ c = .bool false) (h1 : W P n y Q σ w) : W P n (.cond c x y) Q σ w := by
  rw [W_cond, hc]; exact ⟨fun h => (by cases h), fun _ => h1⟩
theorem W_if {n : Nat} {Q : Exit → Sl → World → Prop} {σ : Sl} {w : World} {c : Operand} {x y : Code} {t : Bool} (hc : ev σ c = .bool t) (h1 : t = true → W P n x Q σ w) (h2 : t = false → W P n y Q σ w) : W P n (.cond c x y) Q σ w := by
  rw [W_cond, hc]; exact ⟨h1, h2⟩
/-- Values: an operation's result. -/
def vPick (c x y : Value) (w : World) : Result Next := (do pure (.value (if ← asBool c then x else y)) : Sem Next).run default w
theorem vPick_bool (t : Bool) (x y : Value) (w : World) : vPick (.bool t) x y w = .ok (.value (pk t x y)) w := by simp [vPick, asBool, pk]
def vBin (P : Program) (op : BinOp) (T : TypeId) (x y : Operand) (u v : Value) (w : World) : Result Next := (do pure (.value (← (do eqGuard op T x y u v; binOp op T u v))) : Sem Next).run P w
def vUn (P : Program) (op : UnOp) (u : Value) (w : World) : Result Next := (do pure (.value (← Op.unary op u)) : Sem Next).run P w
def vLoad (P : Program) (T : TypeId) (u : Value) (w : World) : Result Next := (do pure (.value (← Instr.loadAt T u)) : Sem Next).run P w
def vStore (P : Program) (T : TypeId) (a u : Value) (w : World) : Result Next := (do Instr.storeAt T a u; pure .skip : Sem Next).run P w
def vFieldAddr (P : Program) (T : TypeId) (a : Value) (f : Nat) (w : World) : Result Next := (do pure (.value (← Instr.fieldAt T a f)) : Sem Next).run P w
def vIndexAddr (P : Program) (T : TypeId) (a i : Value) (w : World) : Result Next := (do pure (.value (← Instr.indexAt T a i)) : Sem Next).run P w
def vIndex (P : Program) (T : TypeId) (a i : Value) (w : World) : Result Next := (do pure (.value (← Instr.index T a i)) : Sem Next).run P w
def vField (P : Program) (T : TypeId) (a : Value) (f : Nat) (w : World) : Result Next := (do pure (.value (← Instr.field T a f)) : Sem Next).run P w
def vBox (P : Program) (T : TypeId) (u : Value) (w : World) : Result Next := (do pure (.value (← Instr.box T u)) : Sem Next).run P w
def vAlloc (P : Program) (T : TypeId) (w : World) : Result Next := (do pure (.value (← Instr.alloc T true (.tuple #[]))) : Sem Next).run P w
def vExtract (P : Program) (u : Value) (i : Nat) (w : World) : Result Next := (do pure (.value (← Instr.extract u i)) : Sem Next).run P w
def vLen (P : Program) (T : TypeId) (ty : TypeId) (u : Value) (w : World) : Result Next := (do pure (.value (← Builtin.len_ #[T] ty #[u])) : Sem Next).run P w
def vConvert (P : Program) (a b : TypeId) (u : Value) (w : World) : Result Next := (do pure (.value (← convert a b u)) : Sem Next).run P w
def vNil (P : Program) (u : Value) (w : World) : Result Next := (execOp (fun _ => u) ⟨none, .nilCheck (.tmp 0), 0, "", #[], none⟩).run P w
theorem vNil_some (a : Addr) (w : World) : vNil P (.pointer (some a)) w = .ok (.value (.pointer (some a))) w := by simp [vNil, execOp]
def vCall (P : Program) (f : FuncId) (args : Array Value) (w : World) : Result Next := (callFunc f args).run P w

section
variable (ty : TypeId) (σ : Sl) (w : World)
theorem r_move (x : Operand) : run1 P (.move x) ty σ w = .ok (.value (ev σ x)) w := nr rfl
theorem r_assign (x : Operand) : run1 P (.assign x) ty σ w = .ok (.value (ev σ x)) w := nr rfl
theorem r_pick (c x y : Operand) : run1 P (.pick c x y) ty σ w = vPick (ev σ c) (ev σ x) (ev σ y) w := by
  cases h : ev σ c <;> simp [run1, execOp, h, asBool, vPick, stuck, Sem.run]
theorem r_bin (op : BinOp) (T T2 : TypeId) (x y : Operand) : run1 P (.binOp op T x y T2) ty σ w = vBin P op T x y (ev σ x) (ev σ y) w := nr rfl
theorem r_un (op : UnOp) (T : TypeId) (x : Operand) : run1 P (.unOp op T x) ty σ w = vUn P op (ev σ x) w := nr rfl
theorem r_load (T : TypeId) (x : Operand) : run1 P (.load T x) ty σ w = vLoad P T (ev σ x) w := nr rfl
theorem r_store (T : TypeId) (x y : Operand) : run1 P (.store T x y) ty σ w = vStore P T (ev σ x) (ev σ y) w := nr rfl
theorem r_fieldAddr (T : TypeId) (x : Operand) (f : Nat) : run1 P (.fieldAddr T x f) ty σ w = vFieldAddr P T (ev σ x) f w := nr rfl
theorem r_indexAddr (T : TypeId) (x y : Operand) : run1 P (.indexAddr T x y) ty σ w = vIndexAddr P T (ev σ x) (ev σ y) w := nr rfl
theorem r_index (T : TypeId) (x y : Operand) : run1 P (.index T x y) ty σ w = vIndex P T (ev σ x) (ev σ y) w := nr rfl
theorem r_field (T : TypeId) (x : Operand) (f : Nat) : run1 P (.field T x f) ty σ w = vField P T (ev σ x) f w := nr rfl
theorem r_box (T : TypeId) (x : Operand) : run1 P (.box T x) ty σ w = vBox P T (ev σ x) w := nr rfl
theorem r_alloc (T : TypeId) : run1 P (.alloc T) ty σ w = vAlloc P T w := nr rfl
theorem r_extract (x : Operand) (i : Nat) : run1 P (.extract x i) ty σ w = vExtract P (ev σ x) i w := nr rfl
theorem r_convert (a b : TypeId) (x : Operand) : run1 P (.convert a b x) ty σ w = vConvert P a b (ev σ x) w := nr rfl
theorem r_nil (x : Operand) : run1 P (.nilCheck x) ty σ w = vNil P (ev σ x) w := nr rfl
theorem r_len (T : TypeId) (x : Operand) : run1 P (.call ⟨.builtin .len, #[x], #[T]⟩) ty σ w = vLen P T ty (ev σ x) w := by simp [run1, execOp, resolve, invoke, builtin, vLen]
theorem r_call (f : FuncId) (xs : List Operand) (ts : Array TypeId) : run1 P (.call ⟨.value (.func f), xs.toArray, ts⟩) ty σ w = vCall P f (xs.map (ev σ)).toArray w := by
  simp [run1, execOp, resolve, Deferred.ofValue, ev, invoke, vCall]
end

section
variable {T : TypeId} {x y : Operand} {w : World} {k : IntKind} {a b : Int}
theorem vBin_lss : vBin P .lss T x y (.int k a) (.int k b) w = .ok (.value (.bool (decide (a < b)))) w := by simp [vBin, eqGuard, binOp, Op.intCmp]
theorem vBin_leq : vBin P .leq T x y (.int k a) (.int k b) w = .ok (.value (.bool (decide (a ≤ b)))) w := by simp [vBin, eqGuard, binOp, Op.intCmp]
theorem vBin_gtr : vBin P .gtr T x y (.int k a) (.int k b) w = .ok (.value (.bool (decide (b < a)))) w := by simp [vBin, eqGuard, binOp, Op.intCmp]
theorem vBin_geq : vBin P .geq T x y (.int k a) (.int k b) w = .ok (.value (.bool (decide (b ≤ a)))) w := by simp [vBin, eqGuard, binOp, Op.intCmp]
theorem vBin_eql : vBin P .eql T x y (.int k a) (.int k b) w = .ok (.value (.bool (decide (a = b)))) w := by
  simp [vBin, eqGuard, binOp, Op.intCmp]; rfl
theorem vBin_neq : vBin P .neq T x y (.int k a) (.int k b) w = .ok (.value (.bool (!decide (a = b)))) w := by
  simp [vBin, eqGuard, binOp, Op.intCmp]; rfl
theorem vBin_add (h1 : -9223372036854775808 ≤ a + b) (h2 : a + b ≤ 9223372036854775807) : vBin P .add T x y (.int .i64 a) (.int .i64 b) w = .ok (.value (.int .i64 (a + b))) w := by
  simp [vBin, eqGuard, binOp, Op.intArith, IntWalk.i64_in _ ⟨h1, h2⟩]
theorem vBin_sub (h1 : -9223372036854775808 ≤ a - b) (h2 : a - b ≤ 9223372036854775807) : vBin P .sub T x y (.int .i64 a) (.int .i64 b) w = .ok (.value (.int .i64 (a - b))) w := by
  simp [vBin, eqGuard, binOp, Op.intArith, IntWalk.i64_in _ ⟨h1, h2⟩]
theorem vBin_mul (h1 : -9223372036854775808 ≤ a * b) (h2 : a * b ≤ 9223372036854775807) : vBin P .mul T x y (.int .i64 a) (.int .i64 b) w = .ok (.value (.int .i64 (a * b))) w := by
  simp [vBin, eqGuard, binOp, Op.intArith, IntWalk.i64_in _ ⟨h1, h2⟩]
theorem vUn_not {t : Bool} : vUn P .not (.bool t) w = .ok (.value (.bool (!t))) w := by simp [vUn, Op.unary]
theorem vBin_eqls {s t : ByteArray} : vBin P .eql T x y (.string s) (.string t) w = .ok (.value (.bool (decide (s = t)))) w := by
  have e : (s.toList == t.toList) = decide (s = t) := by
    rw [Bool.eq_iff_iff]; simp only [beq_iff_eq, decide_eq_true_eq]; exact ⟨fun h => ByteArray.ext (Array.ext' (by simpa [ByteArray.toList_eq] using h)), fun h => by rw [h]⟩
  simp [vBin, eqGuard, binOp, Op.stringOp, e]
theorem vBin_neqs {s t : ByteArray} : vBin P .neq T x y (.string s) (.string t) w = .ok (.value (.bool (!decide (s = t)))) w := by
  have e : (s.toList == t.toList) = decide (s = t) := by
    rw [Bool.eq_iff_iff]; simp only [beq_iff_eq, decide_eq_true_eq]; exact ⟨fun h => ByteArray.ext (Array.ext' (by simpa [ByteArray.toList_eq] using h)), fun h => by rw [h]⟩
  simp [vBin, eqGuard, binOp, Op.stringOp, e]
end

/-- Types. -/
def oneB (P : Program) (T : TypeId) : Bool := match P.underlying T with
  | some (.struct _) | some (.array _ _) | none => false
  | some _ => true
def szOf (P : Program) (T : TypeId) : Nat := ((P.info? T).map (·.size)).getD 0
def fOff (P : Program) (T : TypeId) (i : Nat) : Option Nat := match P.underlying T with
  | some (.struct fs) => (fs[i]?).bind fun f => (P.info? f.type).bind fun j => if j.size = 0 then none else some f.offset
  | _ => none
def eSz (P : Program) (T : TypeId) : Option Nat := match P.underlying T with
  | some (.slice e) => (P.info? e).map (·.size)
  | _ => none
def aggN (P : Program) (T : TypeId) : Option Nat := match P.underlying T with
  | some (.struct _) => (P.info? T).map (·.size)
  | _ => none
def zeroV (P : Program) (T : TypeId) : Option Value := (P.info? T).bind (·.zero)
def strB (P : Program) (T : TypeId) : Bool := match P.underlying T with
  | some .string => true
  | _ => false
def slcB (P : Program) (T : TypeId) : Bool := match P.underlying T with
  | some (.slice _) => true
  | _ => false
def bodyB (P : Program) (f : FuncId) : Bool := match P.funcs[f]? with
  | some fn => fn.body.isSome && !(fn.name == "runtime.NumGoroutine")
  | none => false

section
variable {T : TypeId} {w : World} {b o : Nat}
/-- Loads. -/
def lk (x : Option Value) (w : World) (j : Result Next) : Result Next := match x with
  | some v => .ok (.value v) w
  | none => j
theorem lk_some (v : Value) (w : World) (j : Result Next) : lk (some v) w j = .ok (.value v) w := nr rfl
def ldN (w : World) (b : Nat) : Nat → Nat → Option (List Value)
  | _, 0 => some []
  | o, k + 1 => match w.cell? ⟨b, o, none⟩, ldN w b (o + 1) k with
    | some v, some l => some (v :: l)
    | _, _ => none
def lkA (x : Option (List Value)) (w : World) (j : Result Next) : Result Next := match x with
  | some l => .ok (.value (.agg l.toArray)) w
  | none => j
theorem lkA_some (l : List Value) (w : World) (j : Result Next) : lkA (some l) w j = .ok (.value (.agg l.toArray)) w := nr rfl
def ldT (one : Bool) (n : Option Nat) (w : World) (b o : Nat) (j : Result Next) : Result Next := match one, n with
  | true, _ => lk (w.cell? ⟨b, o, none⟩) w j
  | false, some n => lkA (ldN w b o n) w j
  | false, none => j
theorem ldT_one (n : Option Nat) (j : Result Next) : ldT true n w b o j = lk (w.cell? ⟨b, o, none⟩) w j := nr rfl
theorem ldT_agg (n : Nat) (j : Result Next) : ldT false (some n) w b o j = lkA (ldN w b o n) w j := nr rfl
def jLoad (P : Program) (T : TypeId) (b o : Nat) (w : World) : Result Next := vLoad P T (.pointer (some ⟨b, o, none⟩)) w
theorem addr_add (b o i : Nat) : Addr.add ⟨b, o, none⟩ i = ⟨b, o + i, none⟩ := by
  unfold Addr.add; split
  · rename_i h; subst h; rfl
  · rfl
theorem run_loadCells_ldN (P : Program) (w : World) (b : Nat) : ∀ (n o i : Nat) (l : List Value) (acc : Array Value), ldN w b (o + i) n = some l →
    (loadCellsFrom ⟨b, o, none⟩ i n acc).run P w = .ok (acc ++ l.toArray) w
  | 0, o, i, l, acc, h => by
    simp only [ldN, Option.some.injEq] at h
    subst h
    simp [loadCellsFrom]
  | n + 1, o, i, l, acc, h => by
    rw [ldN] at h
    split at h
    · rename_i v l' hv hl
      simp only [Option.some.injEq] at h
      subst h
      have ih := run_loadCells_ldN P w b n o (i + 1) l' (acc.push v) (by rw [← hl]; rfl)
      simp only [loadCellsFrom, addr_add, load, Sem.run_bind, Sem.run, hv, Result.andThen, ih]
      simp
    · cases h
def rowD : TypeDesc → Bool
  | .struct _ | .array _ _ => true
  | _ => false
theorem oneB_desc {P : Program} {T : TypeId} (h : oneB P T = true) : ∃ d, P.underlying T = some d ∧ rowD d = false := by
  unfold oneB at h
  cases hd : P.underlying T with
  | none => rw [hd] at h; cases h
  | some d => rw [hd] at h; cases d <;> first | (cases h; done) | exact ⟨_, rfl, rfl⟩
theorem vLoad_at : vLoad P T (.pointer (some ⟨b, o, none⟩)) w = ldT (oneB P T) (aggN P T) w b o (jLoad P T b o w) := by
  unfold jLoad
  cases h1 : oneB P T with
  | true =>
    rw [ldT_one]
    cases hc : w.cell? ⟨b, o, none⟩ with
    | none => rfl
    | some v =>
      rw [lk_some]
      obtain ⟨d, hd, hr⟩ := oneB_desc h1
      have hagg : (isAgg T).run P w = .ok false w := by
        unfold isAgg
        rw [Sem.run_bind, run_underlying hd w]
        cases d <;> simp_all [rowD]
      simp [vLoad, Instr.loadAt, Instr.sureAddr, loadVar, Sem.run_bind, hagg, load, Sem.run, hc]
  | false =>
    cases h2 : aggN P T with
    | none => rfl
    | some n =>
      rw [ldT_agg]
      cases h3 : ldN w b o n with
      | none => rfl
      | some l =>
        rw [lkA_some]
        unfold aggN at h2
        cases hd : P.underlying T with
        | none => rw [hd] at h2; cases h2
        | some d =>
          rw [hd] at h2
          cases d with
          | struct fs =>
            cases hq : P.info? T with
            | none => rw [hq] at h2; cases h2
            | some inf =>
              rw [hq] at h2
              have hs : inf.size = n := by simpa using h2
              have hagg : (isAgg T).run P w = .ok true w := by
                unfold isAgg
                rw [Sem.run_bind, run_underlying hd w]
                simp
              have hl := run_loadCells_ldN P w b n o 0 l #[] h3
              simp [vLoad, Instr.loadAt, Instr.sureAddr, loadVar, Sem.run_bind, hagg, sizeOf, typeInfo, hq, hs, loadCells, hl]
          | _ => cases h2
/-- Addresses of fields, of elements. -/
def faT (x : Option Nat) (b o : Nat) (w : World) (j : Result Next) : Result Next := match x with
  | some k => .ok (.value (.pointer (some ⟨b, o + k, none⟩))) w
  | none => j
theorem faT_some (k : Nat) (j : Result Next) : faT (some k) b o w j = .ok (.value (.pointer (some ⟨b, o + k, none⟩))) w := nr rfl
def jField (P : Program) (T : TypeId) (b o f : Nat) (w : World) : Result Next := vFieldAddr P T (.pointer (some ⟨b, o, none⟩)) f w
theorem vFieldAddr_at {f : Nat} : vFieldAddr P T (.pointer (some ⟨b, o, none⟩)) f w = faT (fOff P T f) b o w (jField P T b o f w) := by
  unfold jField
  cases h : fOff P T f with
  | none => rfl
  | some k =>
    rw [faT_some]
    unfold fOff at h
    cases hd : P.underlying T with
    | none => rw [hd] at h; cases h
    | some d =>
      rw [hd] at h
      cases d with
      | struct fs =>
        cases hf : fs[f]? with
        | none => simp [hf] at h
        | some fl =>
          cases hi : P.info? fl.type with
          | none => simp [hf, hi] at h
          | some inf =>
            simp only [hf, hi, Option.bind_some] at h
            split at h
            · cases h
            · rename_i hz
              simp only [Option.some.injEq] at h
              simp [vFieldAddr, Instr.fieldAt, Sem.run_bind, run_underlying hd w, hf, Instr.sureAddr, fieldPlace, sizeOf, typeInfo, hi, hz, addr_add, h]
      | _ => cases h
def iaT (x : Option Nat) (b o n : Nat) (i : Int) (w : World) (j : Result Next) : Result Next := match x with
  | some s => if 0 ≤ i ∧ i < n then .ok (.value (.pointer (some ⟨b, o + i.toNat * s, none⟩))) w else j
  | none => j
theorem iaT_some {n : Nat} {i : Int} (h0 : 0 ≤ i) (h1 : i < n) (s : Nat) (j : Result Next) : iaT (some s) b o n i w j = .ok (.value (.pointer (some ⟨b, o + i.toNat * s, none⟩))) w := by
  simp only [iaT]; rw [if_pos ⟨h0, h1⟩]
def jIndex (P : Program) (T : TypeId) (b o n c : Nat) (k : IntKind) (i : Int) (w : World) : Result Next := vIndexAddr P T (.slice (some ⟨b, o, none⟩) n c) (.int k i) w
theorem vIndexAddr_at {n c : Nat} {k : IntKind} {i : Int} : vIndexAddr P T (.slice (some ⟨b, o, none⟩) n c) (.int k i) w = iaT (eSz P T) b o n i w (jIndex P T b o n c k i w) := by
  unfold jIndex
  cases h : eSz P T with
  | none => rfl
  | some s =>
    simp only [iaT]
    split
    · rename_i hi
      unfold eSz at h
      cases hd : P.underlying T with
      | none => rw [hd] at h; cases h
      | some d =>
        rw [hd] at h
        cases d with
        | slice e =>
          cases hq : P.info? e with
          | none => simp [hq] at h
          | some inf =>
            have hs : inf.size = s := by simpa [hq] using h
            simp [vIndexAddr, Instr.indexAt, asIntOf, Sem.run_bind, run_underlying hd w, hi, sizeOf, typeInfo, hq, hs, addr_add]
        | _ => cases h
    · rfl
/-- A string's byte. -/
def stT (x : Bool) (s : ByteArray) (i : Int) (w : World) (j : Result Next) : Result Next := match x with
  | true => if 0 ≤ i ∧ i < s.size then .ok (.value (.int .u8 (bt s i.toNat))) w else j
  | false => j
theorem stT_true {s : ByteArray} {i : Int} (h0 : 0 ≤ i) (h1 : i < s.size) (j : Result Next) : stT true s i w j = .ok (.value (.int .u8 (bt s i.toNat))) w := by
  simp only [stT]; rw [if_pos ⟨h0, h1⟩]
def jStr (P : Program) (T : TypeId) (s : ByteArray) (k : IntKind) (i : Int) (w : World) : Result Next := vIndex P T (.string s) (.int k i) w
theorem vIndex_str {s : ByteArray} {k : IntKind} {i : Int} : vIndex P T (.string s) (.int k i) w = stT (strB P T) s i w (jStr P T s k i w) := by
  unfold jStr
  cases h : strB P T with
  | false => rfl
  | true =>
    simp only [stT]
    split
    · rename_i hi
      unfold strB at h
      cases hd : P.underlying T with
      | none => rw [hd] at h; cases h
      | some d =>
        rw [hd] at h
        cases d with
        | string =>
          have hb : i.toNat < s.size := by omega
          have e1 : s[i.toNat]? = some (s.data.toList.getD i.toNat 0) := by
            rw [getElem?_pos s i.toNat hb, List.getD_eq_getElem?_getD, List.getElem?_eq_getElem (by simpa using hb)]; rfl
          simp [vIndex, Instr.index, asIntOf, Sem.run_bind, run_underlying hd w, hi.1, e1, bt]
        | _ => cases h
    · rfl
/-- Lengths. -/
def ifB (x : Bool) (r j : Result Next) : Result Next := match x with
  | true => r
  | false => j
theorem ifB_true (r j : Result Next) : ifB true r j = r := nr rfl
theorem ifB_of {x : Bool} {r j l : Result Next} (h1 : x = true → l = r) (h2 : l = j) : l = ifB x r j := by
  cases x
  · exact h2
  · exact h1 rfl
def jLen (P : Program) (T ty : TypeId) (u : Value) (w : World) : Result Next := vLen P T ty u w
theorem vLen_str {ty : TypeId} {s : ByteArray} : vLen P T ty (.string s) w = ifB (strB P T) (.ok (.value (.int .i64 s.size)) w) (jLen P T ty (.string s) w) := by
  refine ifB_of (fun h => ?_) rfl
  unfold strB at h
  cases hd : P.underlying T with
  | none => rw [hd] at h; cases h
  | some d =>
    rw [hd] at h
    cases d with
    | string => simp [vLen, Builtin.len_, Sem.run_bind, run_underlying hd w, goInt]
    | _ => cases h
theorem vLen_slc {ty : TypeId} {a : Option Addr} {n c : Nat} : vLen P T ty (.slice a n c) w = ifB (slcB P T) (.ok (.value (.int .i64 n)) w) (jLen P T ty (.slice a n c) w) := by
  refine ifB_of (fun h => ?_) rfl
  unfold slcB at h
  cases hd : P.underlying T with
  | none => rw [hd] at h; cases h
  | some d =>
    rw [hd] at h
    cases d with
    | slice e => simp [vLen, Builtin.len_, Sem.run_bind, run_underlying hd w, goInt]
    | _ => cases h
theorem cells_int (k : IntKind) (n : Int) : Value.cells (.int k n) = #[.int k n] := nr rfl
theorem cells_bool (t : Bool) : Value.cells (.bool t) = #[.bool t] := nr rfl
theorem cells_str (s : ByteArray) : Value.cells (.string s) = #[.string s] := nr rfl
theorem cells_ptr (p : Option Addr) : Value.cells (.pointer p) = #[.pointer p] := nr rfl
theorem cells_slc (a : Option Addr) (n c : Nat) : Value.cells (.slice a n c) = #[.slice a n c] := nr rfl
theorem cells_map (p : Option Nat) : Value.cells (.map p) = #[.map p] := nr rfl
theorem cells_agg (l : Array Value) : Value.cells (.agg l) = l := nr rfl
/-- New memory. -/
theorem vBox_at {v : Value} : vBox P T v w = .ok (.value (.pointer (some ⟨w.heap.size, 0, none⟩))) (w.alloc (.cells v.cells T)) := by
  simp [vBox, Instr.box, newVar, newRow, newObj, Sem.run_bind, Sem.run]
def alT (x : Option Value) (T : TypeId) (w : World) (j : Result Next) : Result Next := match x with
  | some z => .ok (.value (.pointer (some ⟨w.heap.size, 0, none⟩))) (w.alloc (.cells z.cells T))
  | none => j
theorem alT_some (z : Value) (j : Result Next) : alT (some z) T w j = .ok (.value (.pointer (some ⟨w.heap.size, 0, none⟩))) (w.alloc (.cells z.cells T)) := nr rfl
def jAlloc (P : Program) (T : TypeId) (w : World) : Result Next := vAlloc P T w
theorem vAlloc_at : vAlloc P T w = alT (zeroV P T) T w (jAlloc P T w) := by
  unfold jAlloc
  cases h : zeroV P T with
  | none => rfl
  | some z =>
    rw [alT_some]
    unfold zeroV at h
    cases hq : P.info? T with
    | none => rw [hq] at h; cases h
    | some inf =>
      rw [hq] at h
      have hz : inf.zero = some z := h
      simp [vAlloc, Instr.alloc, zeroValue, typeInfo, hq, hz, newVar, newRow, newObj, Sem.run_bind, Sem.run]
def jCall (P : Program) (f : FuncId) (args : Array Value) (w : World) : Result Next := vCall P f args w
theorem vCall_at {f : FuncId} {args : Array Value} : vCall P f args w = ifB (bodyB P f) (.ok (.enter f args) w) (jCall P f args w) := by
  refine ifB_of (fun h => ?_) rfl
  unfold bodyB at h
  cases hf : P.funcs[f]? with
  | none => rw [hf] at h; cases h
  | some fn =>
    rw [hf] at h
    simp only [Bool.and_eq_true, Bool.not_eq_true', Option.isSome_iff_ne_none, beq_eq_false_iff_ne] at h
    simp [vCall, callFunc, Sem.run_bind, program, Sem.run, hf, h.2, h.1]
theorem Okv_enter (R : Value → World → Prop) (f : FuncId) (args : Array Value) : Okv P R (.ok (.enter f args) w) = Calls P f args w (fun e w'' => ∃ v, e = .returned v ∧ R v w'') := nr rfl
theorem vExtract_at {l : List Value} {i : Nat} {v : Value} (h : l[i]? = some v) : vExtract P (.tuple l.toArray) i w = .ok (.value v) w := by
  simp [vExtract, Instr.extract, h]
theorem vExtract_0 {a : Value} {l : List Value} : vExtract P (.tuple (a :: l).toArray) 0 w = .ok (.value a) w := vExtract_at rfl
theorem vExtract_1 {a c : Value} {l : List Value} : vExtract P (.tuple (a :: c :: l).toArray) 1 w = .ok (.value c) w := vExtract_at rfl
theorem vExtract_2 {a c d : Value} {l : List Value} : vExtract P (.tuple (a :: c :: d :: l).toArray) 2 w = .ok (.value d) w := vExtract_at rfl
end
section
variable {σ : Sl} {w : World} {R : Value → Prop}
theorem resE_list (l : List ResultVar) : resE P l.toArray σ w R = resL P σ w l fun vs => R (one vs) := nr rfl
theorem resL_nil {R : List Value → Prop} : resL P σ w [] R = R [] := nr rfl
theorem resL_tmp {R : List Value → Prop} (t : Tmp) (r : List ResultVar) : resL P σ w (.tmp t :: r) R = resL P σ w r fun vs => R (σ t :: vs) := nr rfl
theorem resL_cell {R : List Value → Prop} (a : Tmp) (T : TypeId) (r : List ResultVar) : resL P σ w (.cell a T :: r) R = resC P T (σ a) w fun v => resL P σ w r fun vs => R (v :: vs) := nr rfl
theorem one_0 : one [] = .tuple #[] := nr rfl
theorem one_1 (v : Value) : one [v] = v := nr rfl
theorem one_2 (u v : Value) (r : List Value) : one (u :: v :: r) = .tuple (u :: v :: r).toArray := nr rfl
def resV (r : Result Next) (w : World) (R : Value → Prop) : Prop := match r with
  | .ok (.value v) w' => w' = w ∧ R v
  | _ => False
theorem resV_value (v : Value) : resV (.ok (.value v) w) w R = R v := by simp [resV]
theorem resC_at {T : TypeId} {b o : Nat} : resC P T (.pointer (some ⟨b, o, none⟩)) w R = resV (vLoad P T (.pointer (some ⟨b, o, none⟩)) w) w R := by
  have e : (do loadVar T (← asAddr (.pointer (some ⟨b, o, none⟩)))).run P w = (loadVar T ⟨b, o, none⟩).run P w := by simp [asAddr]
  unfold resC vLoad Instr.loadAt Instr.sureAddr
  rw [e]
  simp only [Sem.run_bind, Sem.run_pure, Result.andThen]
  cases h : (loadVar T ⟨b, o, none⟩).run P w with
  | ok v w' =>
    simp only [resV, Result.ok.injEq, eq_iff_iff]
    constructor
    · rintro ⟨u, ⟨rfl, rfl⟩, hR⟩; exact ⟨rfl, hR⟩
    · rintro ⟨rfl, hR⟩; exact ⟨v, ⟨rfl, rfl⟩, hR⟩
  | halt x w' => simp [resV]
@[congr] theorem resC_congr {T : TypeId} {u u' : Value} {w w' : World} {R : Value → Prop} (h : u = u') (h' : w = w') : resC P T u w R = resC P T u' w' R := by rw [h, h']
@[congr] theorem resV_congr {r r' : Result Next} {w w' : World} {R : Value → Prop} (h : r = r') (h' : w = w') : resV r w R = resV r' w' R := by rw [h, h']
end
theorem GB_call {f : FuncId} {args : Array Value} {g : Bool} {v : Value} {R : Value → World → Prop} {w : World} (hc : g = true → Calls P f args w (fun e w' => e = .returned v ∧ w = w')) (h : R (cv g v) w) :
    GB P g (.ok (.enter f args) w) R w := by
  cases g
  · rw [GB_false]; exact h
  · rw [GB_true, Okv_enter]; exact (hc rfl).mono fun e w' ⟨he, hw⟩ => ⟨v, he, by subst hw; exact h⟩
theorem GB_split {r : Result Next} {g : Bool} {R : Value → World → Prop} {w : World} (ht : g = true → Okv P R r) (hf : g = false → R undef w) : GB P g r R w := by
  cases g
  · rw [GB_false]; exact hf rfl
  · rw [GB_true]; exact ht rfl
theorem GS_call {f : FuncId} {args : Array Value} {g : Bool} {v : Value} {R : Value → Prop} {w : World} (hc : g = true → Calls P f args w (fun e w' => e = .returned v ∧ w = w')) (h : R (cv g v)) :
    GS P g (.ok (.enter f args) w) R w := by
  cases g
  · rw [GS_false]; exact h
  · rw [GS_true]; exact ⟨rfl, v, (hc rfl).mono fun e w' ⟨he, hw⟩ => ⟨he, hw.symm⟩, h⟩
theorem Okv_call {f : FuncId} {args : Array Value} {R : Value → World → Prop} {w : World} {C : Ending → World → Prop} (hc : Calls P f args w C) (h : ∀ e w', C e w' → ∃ v, e = .returned v ∧ R v w') :
    Okv P R (.ok (.enter f args) w) := hc.mono h
theorem Oks_call {f : FuncId} {args : Array Value} {v : Value} {R : Value → Prop} {w : World} (hc : Calls P f args w (fun e w' => e = .returned v ∧ w = w')) (h : R v) :
    Oks P w R (.ok (.enter f args) w) := ⟨rfl, v, hc.mono fun e w' ⟨he, hw⟩ => ⟨he, hw.symm⟩, h⟩
end
end Go.Proofs.Ythadhnmbddddbaa
