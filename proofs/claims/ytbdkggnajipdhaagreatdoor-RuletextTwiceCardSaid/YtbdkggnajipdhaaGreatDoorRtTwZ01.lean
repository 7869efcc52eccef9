/- Texts laid one behind the other: Plain, Base, Eng, Rules, Mem, Only, Map. Each says at its head what it proves. -/
import Derived.Test.YtbdkggnajipdhaaGreatDoorRows
import Derived.WalkKit
import Derived.WalkSpells
import Derived.WalkLawsBesides
import Derived.BigQuiet
import Derived.Deep.QuietTactic
import Derived.Lib.Hide
import Derived.Still
import Derived.StillTail
import Derived.Deep.Quiet
import Derived.ScopeJumps
import Derived.Deep.WholeRow
import Derived.Laws.IdiomCopy
import Derived.Carry
set_option linter.unusedSimpArgs false
/- Plain words: a string's byte. No program, no model in sight. -/
namespace Go.Proofs.YtbdkggnajipdhaaGreatDoor
/-- Byte i of a string, as a number (0 behind its end). -/
def bt (s : ByteArray) (i : Nat) : Nat := (s.data.toList.getD i 0).toNat
theorem bt_lt (s : ByteArray) (i : Nat) : bt s i < 256 := UInt8.toNat_lt _
theorem cast1 (k : Nat) : ((k + 1 : Nat) : Int) = (k : Int) + 1 := Int.natCast_succ k
end Go.Proofs.YtbdkggnajipdhaaGreatDoor
/- Small lemmas for the walks of this seat: worlds, frames, closers. No program in sight. -/
namespace Go.Proofs.YtbdkggnajipdhaaGreatDoor
open Go.RowKit
universe u

/-- An equation that simp takes with its proof (not by unfolding). -/
theorem nr {α : Sort u} {a b : α} (h : a = b) : a = b := h
theorem ret_bool {a b : Bool} (h : a = b) : Ending.returned (.bool a) = .returned (.bool b) := by rw [h]
theorem bcell {W w1 : World} {B : Nat} (hb : Below B W w1) : (∀ b o, b < B → w1.cell? ⟨b, o, none⟩ = W.cell? ⟨b, o, none⟩) ∧ (∀ b o, b < B → w1.frozen? ⟨b, o, none⟩ = W.frozen? ⟨b, o, none⟩) :=
  ⟨fun b o h => hb.cell (p := ⟨b, o, none⟩) h, fun b o h => hb.frozen (p := ⟨b, o, none⟩) h⟩
theorem new_block (w : World) (cs : Array Value) (T : TypeId) : (∀ i, (w.alloc (.cells cs T)).cell? ⟨w.heap.size, i, none⟩ = cs[i]?) ∧ (w.alloc (.cells cs T)).heap.size = w.heap.size + 1 ∧ Below w.heap.size w (w.alloc (.cells cs T)) :=
  ⟨fun _ => World.cell?_alloc_at _ _ _ _ rfl, World.size_alloc _ _, (Below.refl _ _).alloc (Nat.le_refl _) _⟩
theorem below_alloc (w : World) (o : Obj) : Below w.heap.size w (w.alloc o) := (Below.refl _ _).alloc (Nat.le_refl _) _
/-- A slice's elements lie in memory: element i is the list Ls[i] of cells, sz cells each. -/
def Arr (w : World) (A : Option Addr) (sz : Nat) (Ls : List (List Value)) : Prop :=
  0 < Ls.length → ∃ b o, A = some ⟨b, o, none⟩ ∧ b < w.heap.size ∧ ∀ i l, Ls[i]? = some l → ∀ j v, l[j]? = some v → w.cell? ⟨b, o + i * sz + j, none⟩ = some v
theorem Arr.below {w w' : World} {A : Option Addr} {sz : Nat} {Ls : List (List Value)} (h : Arr w A sz Ls) (hB : Below w.heap.size w w') : Arr w' A sz Ls := fun hn => by
  obtain ⟨b, o, e, hb, hc⟩ := h hn
  exact ⟨b, o, e, Nat.lt_of_lt_of_le hb hB.size, fun i l hl j v hv => ((bcell hB).1 _ _ hb).trans (hc i l hl j v hv)⟩
theorem Arr.drew {w : World} {A : Option Addr} {sz : Nat} {Ls : List (List Value)} (h : Arr w A sz Ls) : Arr w.drew A sz Ls := h
theorem Arr.at_ {α : Type} {enc : α → List Value} {w : World} {A : Option Addr} {sz : Nat} {L : List α} (h : Arr w A sz (L.map enc)) {k : Nat} {v : α} (hv : L[k]? = some v) :
    ∃ b o, A = some ⟨b, o, none⟩ ∧ b < w.heap.size ∧ ∀ j u, (enc v)[j]? = some u → w.cell? ⟨b, o + k * sz + j, none⟩ = some u := by
  obtain ⟨hk, _⟩ := List.getElem?_eq_some_iff.1 hv
  obtain ⟨b, o, e, hb, hc⟩ := h (by rw [List.length_map]; omega)
  exact ⟨b, o, e, hb, fun j u hu => hc k (enc v) (by rw [List.getElem?_map, hv]; rfl) j u hu⟩
end Go.Proofs.YtbdkggnajipdhaaGreatDoor
/- An engine for walks: a function's code is run on slots that are a function from numbers to values; guarded operations are taken lazily (no parting); what is not met is left as it stands. No function of the program in sight. -/
namespace Go.Proofs.YtbdkggnajipdhaaGreatDoor
open Go.RowKit

abbrev Sl := Nat → Value
def upd (σ : Sl) (i : Nat) (v : Value) : Sl := fun j => if j = i then v else σ j
theorem upd_apply (σ : Sl) (i j : Nat) (v : Value) : upd σ i v j = if j = i then v else σ j := nr rfl
theorem upd_same (σ : Sl) (i : Nat) (v : Value) : upd σ i v i = v := if_pos rfl
def bot : Sl := fun _ => undef
/-- The frame 'a' has n slots, no deferred calls, and its slots are σ. -/
structure Fr (n : Nat) (σ : Sl) (a : Act) : Prop where
  size : a.tmps.size = n
  defers : a.defers = []
  at_ : ∀ i, a.tmps.getD i undef = σ i
def ev (σ : Sl) : Operand → Value
  | .tmp t => σ t
  | .const v => v
  | .global g => .pointer (some ⟨g, 0, none⟩)
  | .func f => .func (.func f) #[] #[]
theorem ev_tmp (σ : Sl) (t : Nat) : ev σ (.tmp t) = σ t := nr rfl
theorem ev_const (σ : Sl) (v : Value) : ev σ (.const v) = v := nr rfl
theorem ev_global (σ : Sl) (g : Nat) : ev σ (.global g) = .pointer (some ⟨g, 0, none⟩) := nr rfl
theorem ev_func (σ : Sl) (f : FuncId) : ev σ (.func f) = .func (.func f) #[] #[] := nr rfl
theorem Fr.eval {n : Nat} {σ : Sl} {a : Act} (h : Fr n σ a) : a.eval = ev σ := by
  funext o
  cases o <;> first | rfl | exact h.at_ _
def put (n : Nat) (σ : Sl) (d : Option Nat) (v : Value) : Sl := match d with
  | some d => if d < n then upd σ d v else σ
  | none => σ
theorem put_none (n : Nat) (σ : Sl) (v : Value) : put n σ none v = σ := nr rfl
theorem put_some (n : Nat) (σ : Sl) (d : Nat) (v : Value) : put n σ (some d) v = if d < n then upd σ d v else σ := nr rfl
theorem Fr.put {n : Nat} {σ : Sl} {a : Act} (h : Fr n σ a) (d : Option Nat) (v : Value) : Fr n (put n σ d v) (a.put d v) := by
  cases d with
  | none => exact h
  | some d =>
    refine ⟨by simp [Act.put, h.size], h.defers, fun i => ?_⟩
    simp only [Act.put, put_some]
    by_cases hd : d < n
    · rw [if_pos hd, upd_apply]
      by_cases hi : i = d
      · subst hi
        simp [h.size, hd]
      · rw [if_neg hi, ← h.at_ i]
        simp [Array.getD_eq_getD_getElem?, Array.getElem?_setIfInBounds, Ne.symm hi]
    · rw [if_neg hd, ← h.at_ i]
      rw [Array.setIfInBounds_eq_of_size_le (by rw [h.size]; omega)]
/-- The slot that a guard looks at. -/
def gslot (ops : Array Oper) (j : Nat) : Option Nat := (ops[j]?).bind (·.dst)
def gval (σ : Sl) : Option Nat → Value
  | some d => σ d
  | none => undef
def isB (b : Bool) : Value → Bool
  | .bool c => c == b
  | _ => false
theorem wanted_none {o : Oper} {y : Nat → Option Bool} (h : o.guard = none) : Region.wanted o y = true := by simp [Region.wanted, h]
theorem wanted_some {n : Nat} {σ : Sl} {a : Act} (h : Fr n σ a) {ops : Array Oper} {o : Oper} {j : Nat} {b : Bool} (hg : o.guard = some (j, b)) :
    Region.wanted o (yielded ops a.tmps) = isB b (gval σ (gslot ops j)) := by
  simp only [Region.wanted, hg, yielded, gslot]
  cases hd : (ops[j]?).bind (·.dst) with
  | none => simp [gval, isB, undef]
  | some d =>
    simp only [Option.bind_some, gval]
    have e := h.at_ d
    rw [Array.getD_eq_getD_getElem?] at e
    cases hv : a.tmps[d]? with
    | none =>
      rw [hv] at e
      simp only [Option.getD_none] at e
      rw [← e]
      simp [isB, undef]
    | some v =>
      rw [hv] at e
      simp only [Option.getD_some] at e
      rw [← e]
      cases v <;> simp [isB]
/-- What is asked once an operation has been run: R of its value and its world. -/
def Okv (P : Program) (R : Value → World → Prop) : Result Next → Prop
  | .ok (.value v) w' => R v w'
  | .ok .skip w' => R undef w'
  | .ok (.enter f args) w' => Calls P f args w' (fun e w'' => ∃ v, e = .returned v ∧ R v w'')
  | _ => False
def Oks (P : Program) (w : World) (R : Value → Prop) : Result Next → Prop
  | .ok (.value v) w' => w' = w ∧ R v
  | .ok .skip w' => w' = w ∧ R undef
  | .ok (.enter f args) w' => w' = w ∧ ∃ v, Calls P f args w (fun e w'' => e = .returned v ∧ w'' = w) ∧ R v
  | _ => False
def GB (P : Program) (g : Bool) (r : Result Next) (R : Value → World → Prop) (w : World) : Prop := if g then Okv P R r else R undef w
def GS (P : Program) (g : Bool) (r : Result Next) (R : Value → Prop) (w : World) : Prop := if g then Oks P w R r else R undef
def run1 (P : Program) (op : Op) (ty : TypeId) (σ : Sl) (w : World) : Result Next := (execOp (ev σ) ⟨none, op, ty, "", #[], none⟩).run P w
/-- The operations of a region in their order. -/
def E (P : Program) (n : Nat) (ops : Array Oper) : List Oper → Sl → World → (Sl → World → Prop) → Prop
  | [], σ, w, K => K σ w
  | ⟨d, op, ty, _, _, g⟩ :: r, σ, w, K => match g with
    | none => Okv P (fun v w' => E P n ops r (put n σ d v) w' K) (run1 P op ty σ w)
    | some (j, b) => GB P (isB b (gval σ (gslot ops j))) (run1 P op ty σ w) (fun v w' => E P n ops r (put n σ d v) w' K) w
/-- The same where each operation leaves the world as it is. -/
def S (P : Program) (n : Nat) (ops : Array Oper) (w : World) : List Oper → Sl → (Sl → Prop) → Prop
  | [], σ, K => K σ
  | ⟨d, op, ty, _, _, g⟩ :: r, σ, K => match g with
    | none => Oks P w (fun v => S P n ops w r (put n σ d v) K) (run1 P op ty σ w)
    | some (j, b) => GS P (isB b (gval σ (gslot ops j))) (run1 P op ty σ w) (fun v => S P n ops w r (put n σ d v) K) w
theorem E_nil (P : Program) (n : Nat) (ops : Array Oper) (σ : Sl) (w : World) (K : Sl → World → Prop) : E P n ops [] σ w K = K σ w := nr rfl
theorem E_op (P : Program) (n : Nat) (ops : Array Oper) (d : Option Nat) (op : Op) (ty : TypeId) (p : String) (af : Array Edge) (r : List Oper) (σ : Sl) (w : World) (K : Sl → World → Prop) :
    E P n ops (⟨d, op, ty, p, af, none⟩ :: r) σ w K = Okv P (fun v w' => E P n ops r (put n σ d v) w' K) (run1 P op ty σ w) := nr rfl
theorem E_opg (P : Program) (n : Nat) (ops : Array Oper) (d : Option Nat) (op : Op) (ty : TypeId) (p : String) (af : Array Edge) (j : Nat) (b : Bool) (r : List Oper) (σ : Sl) (w : World) (K : Sl → World → Prop) :
    E P n ops (⟨d, op, ty, p, af, some (j, b)⟩ :: r) σ w K = GB P (isB b (gval σ (gslot ops j))) (run1 P op ty σ w) (fun v w' => E P n ops r (put n σ d v) w' K) w := nr rfl
theorem S_nil (P : Program) (n : Nat) (ops : Array Oper) (σ : Sl) (w : World) (K : Sl → Prop) : S P n ops w [] σ K = K σ := nr rfl
theorem S_op (P : Program) (n : Nat) (ops : Array Oper) (d : Option Nat) (op : Op) (ty : TypeId) (p : String) (af : Array Edge) (r : List Oper) (σ : Sl) (w : World) (K : Sl → Prop) :
    S P n ops w (⟨d, op, ty, p, af, none⟩ :: r) σ K = Oks P w (fun v => S P n ops w r (put n σ d v) K) (run1 P op ty σ w) := nr rfl
theorem S_opg (P : Program) (n : Nat) (ops : Array Oper) (d : Option Nat) (op : Op) (ty : TypeId) (p : String) (af : Array Edge) (j : Nat) (b : Bool) (r : List Oper) (σ : Sl) (w : World) (K : Sl → Prop) :
    S P n ops w (⟨d, op, ty, p, af, some (j, b)⟩ :: r) σ K = GS P (isB b (gval σ (gslot ops j))) (run1 P op ty σ w) (fun v => S P n ops w r (put n σ d v) K) w := nr rfl
theorem Oper.wp_of_Okv {P : Program} {n : Nat} {σ : Sl} {a : Act} {w : World} (hf : Fr n σ a) {o : Oper} {R : Value → World → Prop} {next : Act → World → Prop} {Q : Exit → Act → World → Prop}
    (h : Okv P R (run1 P o.op o.type σ w)) (hR : ∀ v w', R v w' → next (a.put o.dst v) w') : o.wp P a w next Q := by
  unfold Oper.wp
  have e : (execOp a.eval o).run P w = run1 P o.op o.type σ w := by rw [hf.eval]; rfl
  rw [e]
  generalize run1 P o.op o.type σ w = r at h
  cases r with
  | halt x w' => exact h.elim
  | ok nx w' =>
    cases nx <;> simp only [Okv] at h <;> simp only [Oper.upon]
    case value v => exact hR _ _ h
    case skip => exact hR _ _ h
    case enter f args =>
      refine h.mono fun e w'' ⟨v, he, hr⟩ => ?_
      subst he
      exact hR _ _ hr
theorem E_sound {P : Program} {n : Nat} {ops : Array Oper} {K : Sl → World → Prop} {Q : Exit → Act → World → Prop} (hQ : ∀ σ a w, Fr n σ a → K σ w → Q .normal a w) :
    ∀ (l : List Oper) (σ : Sl) (a : Act) (w : World), Fr n σ a → E P n ops l σ w K → wpList P ops Q l a w
  | [], σ, a, w, hf, h => hQ _ _ _ hf h
  | ⟨d, op, ty, p, af, none⟩ :: r, σ, a, w, hf, h => by
    unfold wpList
    rw [if_pos (wanted_none rfl)]
    refine .inl (Oper.wp_of_Okv hf (o := ⟨d, op, ty, p, af, none⟩) h fun v w' hE => E_sound hQ r _ _ _ (hf.put d v) hE)
  | ⟨d, op, ty, p, af, some (j, b)⟩ :: r, σ, a, w, hf, h => by
    unfold wpList
    rw [E_opg, GB] at h
    rw [wanted_some hf rfl]
    split
    · rename_i hw
      rw [if_pos hw] at h
      exact .inl (Oper.wp_of_Okv hf (o := ⟨d, op, ty, p, af, some (j, b)⟩) h fun v w' hE => E_sound hQ r _ _ _ (hf.put d v) hE)
    · rename_i hw
      rw [if_neg hw] at h
      exact E_sound hQ r _ _ _ (hf.put d undef) h
theorem Oper.still_of_Oks {P : Program} {n : Nat} {σ : Sl} {a : Act} {w : World} (hf : Fr n σ a) {o : Oper} {R : Value → Prop} {next : Act → Prop}
    (h : Oks P w R (run1 P o.op o.type σ w)) (hR : ∀ v, R v → next (a.put o.dst v)) : o.still P a w next := by
  unfold Oper.still
  have e : (execOp a.eval o).run P w = run1 P o.op o.type σ w := by rw [hf.eval]; rfl
  rw [e]
  generalize run1 P o.op o.type σ w = r at h
  cases r with
  | halt x w' => exact h.elim
  | ok nx w' =>
    cases nx <;> simp only [Oks] at h <;> simp only [Oper.stillUpon]
    case value v => exact ⟨h.1, hR _ h.2⟩
    case skip => exact ⟨h.1, hR _ h.2⟩
    case enter f args =>
      obtain ⟨h1, v, h2, h3⟩ := h
      exact ⟨h1, v, h2, hR _ h3⟩
theorem S_sound {P : Program} {n : Nat} {ops : Array Oper} {w : World} {K : Sl → Prop} {Q : Act → Prop} (hQ : ∀ σ a, Fr n σ a → K σ → Q a) :
    ∀ (l : List Oper) (σ : Sl) (a : Act), Fr n σ a → S P n ops w l σ K → wpStill P ops w Q l a
  | [], σ, a, hf, h => hQ _ _ hf h
  | ⟨d, op, ty, p, af, none⟩ :: r, σ, a, hf, h => by
    unfold wpStill
    rw [if_pos (wanted_none rfl)]
    exact Oper.still_of_Oks hf (o := ⟨d, op, ty, p, af, none⟩) h fun v hE => S_sound hQ r _ _ (hf.put d v) hE
  | ⟨d, op, ty, p, af, some (j, b)⟩ :: r, σ, a, hf, h => by
    unfold wpStill
    rw [S_opg, GS] at h
    rw [wanted_some hf rfl]
    split
    · rename_i hw
      rw [if_pos hw] at h
      exact Oper.still_of_Oks hf (o := ⟨d, op, ty, p, af, some (j, b)⟩) h fun v hE => S_sound hQ r _ _ (hf.put d v) hE
    · rename_i hw
      rw [if_neg hw] at h
      exact S_sound hQ r _ _ (hf.put d undef) h
/-- Code. -/
def lift (n : Nat) (Q : Exit → Sl → World → Prop) : Exit → Act → World → Prop := fun e a w => ∃ σ, Fr n σ a ∧ Q e σ w
/-- What is not run by a rule of its own. -/
def Raw (P : Program) (n : Nat) (c : Code) (Q : Exit → Sl → World → Prop) (σ : Sl) (w : World) : Prop := ∀ a, Fr n σ a → c.wp P (lift n Q) a w
def thenX (K : Sl → World → Prop) (Q : Exit → Sl → World → Prop) : Exit → Sl → World → Prop
  | .normal, σ, w => K σ w
  | e, σ, w => Q e σ w
def inX (id : Nat) (Q : Exit → Sl → World → Prop) : Exit → Sl → World → Prop
  | .exit id', σ, w => if id' = id then Q .normal σ w else Q (.exit id') σ w
  | e, σ, w => Q e σ w
def condX (v : Value) (p q : Prop) : Prop := match v with
  | .bool t => (t = true → p) ∧ (t = false → q)
  | _ => False
def W (P : Program) (n : Nat) : Code → (Exit → Sl → World → Prop) → Sl → World → Prop
  | .skip, Q, σ, w => Q .normal σ w
  | .region id ops draw, Q, σ, w => if draw then Raw P n (.region id ops true) Q σ w else E P n ops ops.toList σ w (Q .normal)
  | .seq a b, Q, σ, w => W P n a (thenX (W P n b Q) Q) σ w
  | .cond c x y, Q, σ, w => condX (ev σ c) (W P n x Q σ w) (W P n y Q σ w)
  | .block id c, Q, σ, w => W P n c (inX id Q) σ w
  | .exit id, Q, σ, w => Q (.exit id) σ w
  | .ret, Q, σ, w => Q .ret σ w
  | .goto l, Q, σ, w => Q (.goto l) σ w
  | .label _, Q, σ, w => Q .normal σ w
  | c, Q, σ, w => Raw P n c Q σ w
/-- A scope in which the run jumps to label l: there J is asked. -/
def jumpX (l : Nat) (J : Sl → World → Prop) (Q : Exit → Sl → World → Prop) : Exit → Sl → World → Prop
  | .goto l', σ, w => l' = l ∧ J σ w
  | e, σ, w => Q e σ w
section
variable {P : Program} {n : Nat} {Q : Exit → Sl → World → Prop} {σ : Sl} {w : World}
theorem W_skip : W P n .skip Q σ w = Q .normal σ w := nr rfl
theorem W_region {id : Nat} {l : List Oper} : W P n (.region id l.toArray false) Q σ w = E P n l.toArray l σ w (Q .normal) := by simp [W]
theorem W_draw {id : Nat} {ops : Array Oper} : W P n (.region id ops true) Q σ w = Raw P n (.region id ops true) Q σ w := nr rfl
theorem W_seq {a b : Code} : W P n (.seq a b) Q σ w = W P n a (thenX (W P n b Q) Q) σ w := nr rfl
theorem W_cond {c : Operand} {x y : Code} : W P n (.cond c x y) Q σ w = condX (ev σ c) (W P n x Q σ w) (W P n y Q σ w) := nr rfl
theorem W_block {id : Nat} {c : Code} : W P n (.block id c) Q σ w = W P n c (inX id Q) σ w := nr rfl
theorem W_exit {id : Nat} : W P n (.exit id) Q σ w = Q (.exit id) σ w := nr rfl
theorem W_ret : W P n .ret Q σ w = Q .ret σ w := nr rfl
theorem W_goto {l : Nat} : W P n (.goto l) Q σ w = Q (.goto l) σ w := nr rfl
theorem W_label {l : Nat} : W P n (.label l) Q σ w = Q .normal σ w := nr rfl
theorem W_scope {c : Code} : W P n (.scope c) Q σ w = Raw P n (.scope c) Q σ w := nr rfl
theorem thenX_goto {K : Sl → World → Prop} {l : Nat} : thenX K Q (.goto l) σ w = Q (.goto l) σ w := nr rfl
theorem inX_goto {id l : Nat} : inX id Q (.goto l) σ w = Q (.goto l) σ w := nr rfl
theorem jumpX_normal {l : Nat} {J : Sl → World → Prop} : jumpX l J Q .normal σ w = Q .normal σ w := nr rfl
theorem jumpX_ret {l : Nat} {J : Sl → World → Prop} : jumpX l J Q .ret σ w = Q .ret σ w := nr rfl
theorem jumpX_exit {l id : Nat} {J : Sl → World → Prop} : jumpX l J Q (.exit id) σ w = Q (.exit id) σ w := nr rfl
theorem jumpX_goto {l : Nat} {J : Sl → World → Prop} : jumpX l J Q (.goto l) σ w = J σ w := nr (by show (l = l ∧ J σ w) = J σ w; simp)
@[congr] theorem jumpX_congr {l : Nat} {J : Sl → World → Prop} {e : Exit} {σ σ' : Sl} {w w' : World} (h : σ = σ') (h' : w = w') : jumpX l J Q e σ w = jumpX l J Q e σ' w' := by rw [h, h']
theorem W_loop {c : Code} : W P n (.loop c) Q σ w = Raw P n (.loop c) Q σ w := nr rfl
theorem thenX_normal {K : Sl → World → Prop} : thenX K Q .normal σ w = K σ w := nr rfl
theorem thenX_ret {K : Sl → World → Prop} : thenX K Q .ret σ w = Q .ret σ w := nr rfl
theorem thenX_exit {K : Sl → World → Prop} {id : Nat} : thenX K Q (.exit id) σ w = Q (.exit id) σ w := nr rfl
theorem inX_normal {id : Nat} : inX id Q .normal σ w = Q .normal σ w := nr rfl
theorem inX_ret {id : Nat} : inX id Q .ret σ w = Q .ret σ w := nr rfl
theorem condX_bool {t : Bool} {p q : Prop} : condX (.bool t) p q = ((t = true → p) ∧ (t = false → q)) := nr rfl
end
theorem W_sound {P : Program} {n : Nat} : ∀ (c : Code) (Q : Exit → Sl → World → Prop) (σ : Sl) (w : World), W P n c Q σ w → Raw P n c Q σ w := by
  intro c
  induction c with
  | skip => intro Q σ w h a hf; exact wp_skip ⟨σ, hf, h⟩
  | region id ops draw =>
    intro Q σ w h a hf
    cases draw with
    | true => exact h a hf
    | false =>
      refine wp_region_list ?_
      exact E_sound (K := Q .normal) (fun σ' a' w' hf' hk => ⟨σ', hf', hk⟩) _ _ _ _ hf (by simpa [W] using h)
  | seq x y ihx ihy =>
    intro Q σ w h a hf
    refine wp_seq (wp_mono (ihx _ _ _ h a hf) ?_)
    rintro e a' w' ⟨σ', hf', hq⟩
    cases e
    case normal => exact ihy _ _ _ hq a' hf'
    all_goals exact ⟨σ', hf', hq⟩
  | cond c x y ihx ihy =>
    intro Q σ w h a hf
    rw [W_cond] at h
    have hc : a.eval c = ev σ c := by rw [hf.eval]
    generalize ev σ c = v at h hc
    cases v with
    | bool t =>
      refine wp_cond_split hc (fun ht => ihx _ _ _ (h.1 ht) a hf) (fun ht => ihy _ _ _ (h.2 ht) a hf)
    | _ => exact h.elim
  | block id c ih =>
    intro Q σ w h a hf
    refine wp_block (wp_mono (ih _ _ _ h a hf) ?_)
    rintro e a' w' ⟨σ', hf', hq⟩
    cases e
    case exit id' =>
      simp only [inX] at hq
      simp only [Exit.inBlock]
      split
      · rename_i he; rw [if_pos he] at hq; exact ⟨σ', hf', hq⟩
      · rename_i he; rw [if_neg he] at hq; exact ⟨σ', hf', hq⟩
    all_goals exact ⟨σ', hf', hq⟩
  | exit id => intro Q σ w h a hf; exact wp_exit ⟨σ, hf, h⟩
  | ret => intro Q σ w h a hf; exact wp_ret ⟨σ, hf, h⟩
  | goto l => intro Q σ w h a hf; exact wp_goto ⟨σ, hf, h⟩
  | label l => intro Q σ w h a hf; exact wp_label ⟨σ, hf, h⟩
  | _ => intro Q σ w h a hf; exact h a hf
/-- A loop. -/
theorem Raw_loop {P : Program} {n : Nat} {c : Code} {Q : Exit → Sl → World → Prop} {σ : Sl} {w : World} (I : Sl → World → Prop) (μ : Sl → World → Nat) (h0 : I σ w)
    (round : ∀ σ w, I σ w → ∀ K : Sl → World → Prop, (∀ σ' w', I σ' w' → μ σ' w' < μ σ w → K σ' w') → W P n c (thenX K Q) σ w) : Raw P n (.loop c) Q σ w := by
  intro a hf
  have round : ∀ σ w, I σ w → W P n c (thenX (fun σ' w' => I σ' w' ∧ μ σ' w' < μ σ w) Q) σ w := fun σ w hI => round σ w hI _ fun _ _ h1 h2 => ⟨h1, h2⟩
  refine wp_loop (fun a w => Fr n (fun i => a.tmps.getD i undef) a ∧ I (fun i => a.tmps.getD i undef) w) (fun a w => μ (fun i => a.tmps.getD i undef) w) ?_ ?_
  · have e : (fun i => a.tmps.getD i undef) = σ := funext hf.at_
    rw [e]; exact ⟨hf, h0⟩
  · rintro a w ⟨hf, hI⟩
    refine wp_mono (W_sound _ _ _ _ (round _ w hI) a hf) ?_
    rintro e a' w' ⟨σ', hf', hq⟩
    cases e
    case normal =>
      have e : (fun i => a'.tmps.getD i undef) = σ' := funext hf'.at_
      simp only [Exit.then]
      rw [e]; exact ⟨⟨hf', hq.1⟩, hq.2⟩
    all_goals exact ⟨σ', hf', hq⟩
/-- A region that draws its order and only reads. -/
theorem Raw_still {P : Program} {n : Nat} {id : Nat} {l : List Oper} {Q : Exit → Sl → World → Prop} {σ : Sl} {w : World} (hm : P.follows .mixedOrders = true) (hB : Region.lexB .any l.toArray = true)
    (h : S P n l.toArray w.drew l σ (fun σ' => Q .normal σ' w.drew)) : Raw P n (.region id l.toArray true) Q σ w := by
  intro a hf
  exact wp_region_still_lit hm hB (S_sound (w := w.drew) (K := fun σ' => Q .normal σ' w.drew) (fun σ' a' hf' hk => ⟨σ', hf', hk⟩) _ _ _ hf h)
/-- A region that draws its order: reads, and then one operation that writes, and what stands behind it. -/
theorem Raw_tail {P : Program} {n : Nat} {id : Nat} {l : List Oper} {Q : Exit → Sl → World → Prop} {σ : Sl} {w : World} (m : Nat) (hm : P.follows .mixedOrders = true) (hB : Region.lexTailB .any l.toArray m = true)
    (h : S P n l.toArray w.drew (l.take m) σ (fun σ' => E P n l.toArray (l.drop m) σ' w.drew (Q .normal))) : Raw P n (.region id l.toArray true) Q σ w := by
  intro a hf
  refine wp_region_still_tail m hm hB (S_sound (w := w.drew) (K := fun σ' => E P n l.toArray (l.drop m) σ' w.drew (Q .normal)) (fun σ' a' hf' hk => ?_) _ _ _ hf h)
  exact E_sound (K := Q .normal) (fun σ' a' w' hf' hk => ⟨σ', hf', hk⟩) _ _ _ _ hf' hk
/-- The results: slots, or variables in memory. -/
def one : List Value → Value
  | [v] => v
  | vs => .tuple vs.toArray
/-- A result that lies in memory: it is loaded, the world stands. -/
def resC (P : Program) (T : TypeId) (u : Value) (w : World) (R : Value → Prop) : Prop := ∃ v, (do loadVar T (← asAddr u)).run P w = .ok v w ∧ R v
def resL (P : Program) (σ : Sl) (w : World) : List ResultVar → (List Value → Prop) → Prop
  | [], R => R []
  | .tmp t :: r, R => resL P σ w r fun vs => R (σ t :: vs)
  | .cell a T :: r, R => resC P T (σ a) w fun v => resL P σ w r fun vs => R (v :: vs)
def resE (P : Program) (rs : Array ResultVar) (σ : Sl) (w : World) (R : Value → Prop) : Prop := resL P σ w rs.toList fun vs => R (one vs)
def resF (σ : Sl) : ResultVar → Sem Value
  | .tmp t => pure (σ t)
  | .cell a t => do loadVar t (← asAddr (σ a))
def resS (rs : Array ResultVar) (σ : Sl) : Sem Value := do
  let vs ← rs.mapM (resF σ)
  pure (if h : vs.size = 1 then vs[0] else .tuple vs)
theorem resL_is {P : Program} {σ : Sl} {w : World} : ∀ (rs : List ResultVar) (R : List Value → Prop), resL P σ w rs R → ∃ vs, (rs.mapM (resF σ)).run P w = .ok vs w ∧ R vs
  | [], R, h => ⟨[], rfl, h⟩
  | .tmp t :: r, R, h => by
    obtain ⟨vs, h1, h2⟩ := resL_is r _ h
    refine ⟨σ t :: vs, ?_, h2⟩
    rw [List.mapM_cons]
    simp [Sem.run_bind, resF, h1]
  | .cell a T :: r, R, h => by
    obtain ⟨v, hv, h⟩ := h
    obtain ⟨vs, h1, h2⟩ := resL_is r _ h
    refine ⟨v :: vs, ?_, h2⟩
    rw [List.mapM_cons]
    have hv' : (resF σ (.cell a T)).run P w = .ok v w := hv
    simp only [Sem.run_bind, hv', Result.andThen, h1, Sem.run_pure]
theorem resE_is {P : Program} {σ : Sl} {w : World} {fn : Func} {R : Value → Prop} (h : resE P fn.results σ w R) {tmps : Array Value} (ht : (fun i => tmps.getD i undef) = σ) :
    ∃ v, (results fn tmps).run P w = .ok v w ∧ R v := by
  obtain ⟨vs, h1, h2⟩ := resL_is _ _ h
  refine ⟨one vs, ?_, h2⟩
  have e : results fn tmps = resS fn.results σ := by subst ht; rfl
  rw [e]
  unfold resS
  rw [Array.mapM_eq_mapM_toList, Sem.run_bind]
  simp only [Sem.run_map, h1, Result.andThen, Sem.run_pure]
  match vs with
  | [] => rfl
  | [v] => rfl
  | v :: u :: r => rfl
def post (P : Program) (fn : Func) (R : Ending → World → Prop) : Exit → Sl → World → Prop
  | .normal, σ, w | .ret, σ, w => resE P fn.results σ w fun v => R (.returned v) w
  | _, _, _ => False
theorem post_normal {P : Program} {fn : Func} {R : Ending → World → Prop} {σ : Sl} {w : World} : post P fn R .normal σ w = resE P fn.results σ w fun v => R (.returned v) w := nr rfl
theorem post_ret {P : Program} {fn : Func} {R : Ending → World → Prop} {σ : Sl} {w : World} : post P fn R .ret σ w = resE P fn.results σ w fun v => R (.returned v) w := nr rfl
def init : List Value → Nat → Sl → Sl
  | [], _, σ => σ
  | v :: r, i, σ => init r (i + 1) (upd σ i v)
theorem getD_append_undef (l : List Value) (m i : Nat) : (l.toArray ++ Array.replicate m undef).getD i undef = l.getD i undef := by
  simp only [Array.getD_eq_getD_getElem?, Array.getElem?_append, List.getD_eq_getElem?_getD, List.size_toArray, List.getElem?_toArray]
  split
  · rfl
  · rename_i h
    rw [List.getElem?_eq_none (by omega)]
    by_cases h2 : i - l.length < m <;> simp [Array.getElem?_replicate, h2]
theorem init_at : ∀ (l : List Value) (k : Nat) (σ : Sl) (i : Nat), init l k σ i = if k ≤ i ∧ i - k < l.length then l.getD (i - k) undef else σ i
  | [], k, σ, i => by simp [init]
  | v :: r, k, σ, i => by
    rw [init, init_at r (k + 1) (upd σ k v) i, upd_apply]
    by_cases h1 : i = k
    · subst h1; rw [if_neg (by omega)]; simp
    · by_cases h2 : k ≤ i
      · have e : i - k = i - (k + 1) + 1 := by omega
        by_cases h3 : i - (k + 1) < r.length
        · rw [if_pos ⟨by omega, h3⟩, if_pos ⟨h2, by simp; omega⟩, e]; simp
        · rw [if_neg (by omega), if_neg h1, if_neg (by simp; omega)]
      · rw [if_neg (by omega), if_neg h1, if_neg (by omega)]
theorem calls_W {P : Program} {f : FuncId} {fn : Func} {c : Code} {l : List Value} {w : World} {R : Ending → World → Prop} (hf : P.funcs[f]? = some fn) (hb : fn.body = some c) (n : Nat) (hn : fn.ntmps = n) (hl : l.length ≤ n)
    (h : W P n c (post P fn R) (init l 0 bot) w) : Calls P f l.toArray w R := by
  refine calls_of_wp hf hb ?_
  have hfr : Fr n (init l 0 bot) { tmps := l.toArray ++ Array.replicate (fn.ntmps - l.toArray.size) undef, defers := [] } := by
    refine ⟨by simp [hn]; omega, rfl, fun i => ?_⟩
    rw [getD_append_undef, init_at]
    by_cases hi : i < l.length
    · rw [if_pos ⟨Nat.zero_le _, by simpa using hi⟩]; rfl
    · rw [if_neg (by omega)]
      simp [bot, List.getD_eq_getElem?_getD, List.getElem?_eq_none (Nat.le_of_not_lt hi)]
  refine wp_mono (W_sound _ _ _ _ h _ hfr) ?_
  rintro e a w' ⟨σ, hf', hq⟩
  have ht : (fun i => a.tmps.getD i undef) = σ := funext hf'.at_
  cases e <;> simp only [post] at hq
  case normal => obtain ⟨v, hv, hR⟩ := resE_is hq ht; exact ⟨hf'.defers, v, hv, hR⟩
  case ret => obtain ⟨v, hv, hR⟩ := resE_is hq ht; exact ⟨hf'.defers, v, hv, hR⟩
end Go.Proofs.YtbdkggnajipdhaaGreatDoor
/- The engine's rules: what each operation gives on values. -/
namespace Go.Proofs.YtbdkggnajipdhaaGreatDoor
open Go.RowKit

/-! How simp goes through: what comes behind an operation is not looked at before the operation is run. -/
section
variable {P : Program} {n : Nat}
@[congr] theorem Okv_congr {R : Value → World → Prop} {r r' : Result Next} (h : r = r') : Okv P R r = Okv P R r' := by rw [h]
@[congr] theorem Oks_congr {R : Value → Prop} {w : World} {r r' : Result Next} (h : r = r') : Oks P w R r = Oks P w R r' := by rw [h]
@[congr] theorem E_congr {ops : Array Oper} {l : List Oper} {σ σ' : Sl} {w w' : World} {K : Sl → World → Prop} (h : σ = σ') (h' : w = w') : E P n ops l σ w K = E P n ops l σ' w' K := by rw [h, h']
@[congr] theorem S_congr {ops : Array Oper} {l : List Oper} {σ σ' : Sl} {w : World} {K : Sl → Prop} (h : σ = σ') : S P n ops w l σ K = S P n ops w l σ' K := by rw [h]
@[congr] theorem W_congr {c : Code} {Q : Exit → Sl → World → Prop} {σ σ' : Sl} {w w' : World} (h : σ = σ') (h' : w = w') : W P n c Q σ w = W P n c Q σ' w' := by rw [h, h']
@[congr] theorem Raw_congr {c : Code} {Q : Exit → Sl → World → Prop} {σ σ' : Sl} {w w' : World} (h : σ = σ') (h' : w = w') : Raw P n c Q σ w = Raw P n c Q σ' w' := by rw [h, h']
@[congr] theorem thenX_congr {K : Sl → World → Prop} {Q : Exit → Sl → World → Prop} {e : Exit} {σ σ' : Sl} {w w' : World} (h : σ = σ') (h' : w = w') : thenX K Q e σ w = thenX K Q e σ' w' := by rw [h, h']
theorem inX_exit_same {Q : Exit → Sl → World → Prop} {σ : Sl} {w : World} {id : Nat} : inX id Q (.exit id) σ w = Q .normal σ w := if_pos rfl
theorem inX_exit_ne {Q : Exit → Sl → World → Prop} {σ : Sl} {w : World} {id id' : Nat} (h : id' ≠ id) : inX id Q (.exit id') σ w = Q (.exit id') σ w := if_neg h
@[congr] theorem inX_congr {id : Nat} {Q : Exit → Sl → World → Prop} {e : Exit} {σ σ' : Sl} {w w' : World} (h : σ = σ') (h' : w = w') : inX id Q e σ w = inX id Q e σ' w' := by rw [h, h']
@[congr] theorem condX_congr {v v' : Value} {p q : Prop} (h : v = v') : condX v p q = condX v' p q := by rw [h]
end
/-! Readers of a drawn region, in one world. -/
def Okr (w : World) (R : Value → Prop) : Result Next → Prop
  | .ok (.value v) w' => w' = w ∧ R v
  | _ => False
theorem Okr_value (w : World) (R : Value → Prop) (v : Value) : Okr w R (.ok (.value v) w) = R v := by simp [Okr]
@[congr] theorem Okr_congr {R : Value → Prop} {w : World} {r r' : Result Next} (h : r = r') : Okr w R r = Okr w R r' := by rw [h]
/-- The readers, one behind the other, in one world. -/
def V (P : Program) (n : Nat) (w : World) : List Oper → Sl → (Sl → Prop) → Prop
  | [], σ, K => K σ
  | ⟨d, op, ty, _, _, _⟩ :: r, σ, K => Okr w (fun v => V P n w r (put n σ d v) K) (run1 P op ty σ w)
theorem V_nil (P : Program) (n : Nat) (σ : Sl) (w : World) (K : Sl → Prop) : V P n w [] σ K = K σ := nr rfl
theorem V_op (P : Program) (n : Nat) (d : Option Nat) (op : Op) (ty : TypeId) (p : String) (af : Array Edge) (g : Option (Nat × Bool)) (r : List Oper) (σ : Sl) (w : World) (K : Sl → Prop) :
    V P n w (⟨d, op, ty, p, af, g⟩ :: r) σ K = Okr w (fun v => V P n w r (put n σ d v) K) (run1 P op ty σ w) := nr rfl
@[congr] theorem V_congr {P : Program} {n : Nat} {l : List Oper} {σ σ' : Sl} {w : World} {K : Sl → Prop} (h : σ = σ') : V P n w l σ K = V P n w l σ' K := by rw [h]
/-- A value that stands in its slot only where c. -/
def cv (c : Bool) (v : Value) : Value := if c then v else undef
def pk (c : Bool) (x y : Value) : Value := if c then x else y
theorem cv_true (v : Value) : cv true v = v := nr rfl
theorem cv_false (v : Value) : cv false v = undef := nr rfl
theorem pk_true (x y : Value) : pk true x y = x := nr rfl
theorem pk_false (x y : Value) : pk false x y = y := nr rfl
theorem pk_or (c d : Bool) : pk c (.bool true) (cv (!c) (.bool d)) = .bool (c || d) := by cases c <;> rfl
theorem pk_and (c d : Bool) : pk c (cv c (.bool d)) (.bool false) = .bool (c && d) := by cases c <;> rfl
theorem pk_bool (c d e : Bool) : pk c (.bool d) (.bool e) = .bool (if c then d else e) := by cases c <;> rfl
theorem isB_bool (b c : Bool) : isB b (.bool c) = (c == b) := nr rfl
theorem isB_cv (b c d : Bool) : isB b (cv c (.bool d)) = (c && (d == b)) := by cases c <;> rfl
theorem isB_undef (b : Bool) : isB b undef = false := nr rfl
theorem beq_t (c : Bool) : (c == true) = c := by cases c <;> rfl
theorem beq_f (c : Bool) : (c == false) = !c := by cases c <;> rfl
section
variable {P : Program}
theorem Okv_value (R : Value → World → Prop) (v : Value) (w : World) : Okv P R (.ok (.value v) w) = R v w := nr rfl
theorem Okv_skip (R : Value → World → Prop) (w : World) : Okv P R (.ok .skip w) = R undef w := nr rfl
theorem Oks_value (R : Value → Prop) (v : Value) (w : World) : Oks P w R (.ok (.value v) w) = R v := by simp [Oks]
theorem GB_true (r : Result Next) (R : Value → World → Prop) (w : World) : GB P true r R w = Okv P R r := nr rfl
theorem GB_false (r : Result Next) (R : Value → World → Prop) (w : World) : GB P false r R w = R undef w := by simp [GB]
theorem GB_value (g : Bool) (v : Value) (R : Value → World → Prop) (w : World) : GB P g (.ok (.value v) w) R w = R (cv g v) w := by cases g <;> simp [GB, Okv, cv]
theorem GS_true (r : Result Next) (R : Value → Prop) (w : World) : GS P true r R w = Oks P w R r := nr rfl
theorem GS_false (r : Result Next) (R : Value → Prop) (w : World) : GS P false r R w = R undef := by simp [GS]
theorem GS_value (g : Bool) (v : Value) (R : Value → Prop) (w : World) : GS P g (.ok (.value v) w) R w = R (cv g v) := by cases g <;> simp [GS, Oks, cv]
@[congr] theorem GB_congr {g g' : Bool} {r r' : Result Next} {R : Value → World → Prop} {w : World} (hg : g = g') (hr : g' = true → r = r') : GB P g r R w = GB P g' r' R w := by
  subst hg; cases g
  · rfl
  · rw [hr rfl]
@[congr] theorem GS_congr {g g' : Bool} {r r' : Result Next} {R : Value → Prop} {w : World} (hg : g = g') (hr : g' = true → r = r') : GS P g r R w = GS P g' r' R w := by
  subst hg; cases g
  · rfl
  · rw [hr rfl]
theorem W_if_t {n : Nat} {Q : Exit → Sl → World → Prop} {σ : Sl} {w : World} {c : Operand} {x y : Code} (hc : ev σ c = .bool true) (h1 : W P n x Q σ w) : W P n (.cond c x y) Q σ w := by
  rw [W_cond, hc]; exact ⟨fun _ => h1, fun h => (by cases h)⟩
theorem W_if_f {n : Nat} {Q : Exit → Sl → World → Prop} {σ : Sl} {w : World} {c : Operand} {x y : Code} (hc : ev σ c = .bool false) (h1 : W P n y Q σ w) : W P n (.cond c x y) Q σ w := by
  rw [W_cond, hc]; exact ⟨fun h => (by cases h), fun _ => h1⟩
theorem W_if {n : Nat} {Q : Exit → Sl → World → Prop} {σ : Sl} {w : World} {c : Operand} {x y : Code} {t : Bool} (hc : ev σ c = .bool t) (h1 : t = true → W P n x Q σ w) (h2 : t = false → W P n y Q σ w) : W P n (.cond c x y) Q σ w := by
  rw [W_cond, hc]; exact ⟨h1, h2⟩
/-- Values: an operation's result. -/
def vPick (c x y : Value) (w : World) : Result Next := (do pure (.value (if ← asBool c then x else y)) : Sem Next).run default w
theorem vPick_bool (t : Bool) (x y : Value) (w : World) : vPick (.bool t) x y w = .ok (.value (pk t x y)) w := by simp [vPick, asBool, pk]
def vBin (P : Program) (op : BinOp) (T : TypeId) (x y : Operand) (u v : Value) (w : World) : Result Next := (do pure (.value (← (do eqGuard op T x y u v; binOp op T u v))) : Sem Next).run P w
def vUn (P : Program) (op : UnOp) (u : Value) (w : World) : Result Next := (do pure (.value (← Op.unary op u)) : Sem Next).run P w
def vLoad (P : Program) (T : TypeId) (u : Value) (w : World) : Result Next := (do pure (.value (← Instr.loadAt T u)) : Sem Next).run P w
def vStore (P : Program) (T : TypeId) (a u : Value) (w : World) : Result Next := (do Instr.storeAt T a u; pure .skip : Sem Next).run P w
def vFieldAddr (P : Program) (T : TypeId) (a : Value) (f : Nat) (w : World) : Result Next := (do pure (.value (← Instr.fieldAt T a f)) : Sem Next).run P w
def vIndexAddr (P : Program) (T : TypeId) (a i : Value) (w : World) : Result Next := (do pure (.value (← Instr.indexAt T a i)) : Sem Next).run P w
def vIndex (P : Program) (T : TypeId) (a i : Value) (w : World) : Result Next := (do pure (.value (← Instr.index T a i)) : Sem Next).run P w
def vField (P : Program) (T : TypeId) (a : Value) (f : Nat) (w : World) : Result Next := (do pure (.value (← Instr.field T a f)) : Sem Next).run P w
def vBox (P : Program) (T : TypeId) (u : Value) (w : World) : Result Next := (do pure (.value (← Instr.box T u)) : Sem Next).run P w
def vAlloc (P : Program) (T : TypeId) (w : World) : Result Next := (do pure (.value (← Instr.alloc T true (.tuple #[]))) : Sem Next).run P w
def vExtract (P : Program) (u : Value) (i : Nat) (w : World) : Result Next := (do pure (.value (← Instr.extract u i)) : Sem Next).run P w
def vLen (P : Program) (T : TypeId) (ty : TypeId) (u : Value) (w : World) : Result Next := (do pure (.value (← Builtin.len_ #[T] ty #[u])) : Sem Next).run P w
def vConvert (P : Program) (a b : TypeId) (u : Value) (w : World) : Result Next := (do pure (.value (← convert a b u)) : Sem Next).run P w
def vNil (P : Program) (u : Value) (w : World) : Result Next := (execOp (fun _ => u) ⟨none, .nilCheck (.tmp 0), 0, "", #[], none⟩).run P w
theorem vNil_some (a : Addr) (w : World) : vNil P (.pointer (some a)) w = .ok (.value (.pointer (some a))) w := by simp [vNil, execOp]
def vCall (P : Program) (f : FuncId) (args : Array Value) (w : World) : Result Next := (callFunc f args).run P w
section
variable (ty : TypeId) (σ : Sl) (w : World)
theorem r_move (x : Operand) : run1 P (.move x) ty σ w = .ok (.value (ev σ x)) w := nr rfl
theorem r_assign (x : Operand) : run1 P (.assign x) ty σ w = .ok (.value (ev σ x)) w := nr rfl
theorem r_pick (c x y : Operand) : run1 P (.pick c x y) ty σ w = vPick (ev σ c) (ev σ x) (ev σ y) w := by
  cases h : ev σ c <;> simp [run1, execOp, h, asBool, vPick, stuck, Sem.run]
theorem r_bin (op : BinOp) (T T2 : TypeId) (x y : Operand) : run1 P (.binOp op T x y T2) ty σ w = vBin P op T x y (ev σ x) (ev σ y) w := nr rfl
theorem r_un (op : UnOp) (T : TypeId) (x : Operand) : run1 P (.unOp op T x) ty σ w = vUn P op (ev σ x) w := nr rfl
theorem r_load (T : TypeId) (x : Operand) : run1 P (.load T x) ty σ w = vLoad P T (ev σ x) w := nr rfl
theorem r_store (T : TypeId) (x y : Operand) : run1 P (.store T x y) ty σ w = vStore P T (ev σ x) (ev σ y) w := nr rfl
theorem r_fieldAddr (T : TypeId) (x : Operand) (f : Nat) : run1 P (.fieldAddr T x f) ty σ w = vFieldAddr P T (ev σ x) f w := nr rfl
theorem r_indexAddr (T : TypeId) (x y : Operand) : run1 P (.indexAddr T x y) ty σ w = vIndexAddr P T (ev σ x) (ev σ y) w := nr rfl
theorem r_index (T : TypeId) (x y : Operand) : run1 P (.index T x y) ty σ w = vIndex P T (ev σ x) (ev σ y) w := nr rfl
theorem r_field (T : TypeId) (x : Operand) (f : Nat) : run1 P (.field T x f) ty σ w = vField P T (ev σ x) f w := nr rfl
theorem r_box (T : TypeId) (x : Operand) : run1 P (.box T x) ty σ w = vBox P T (ev σ x) w := nr rfl
theorem r_alloc (T : TypeId) : run1 P (.alloc T) ty σ w = vAlloc P T w := nr rfl
theorem r_extract (x : Operand) (i : Nat) : run1 P (.extract x i) ty σ w = vExtract P (ev σ x) i w := nr rfl
theorem r_convert (a b : TypeId) (x : Operand) : run1 P (.convert a b x) ty σ w = vConvert P a b (ev σ x) w := nr rfl
theorem r_nil (x : Operand) : run1 P (.nilCheck x) ty σ w = vNil P (ev σ x) w := nr rfl
theorem r_len (T : TypeId) (x : Operand) : run1 P (.call ⟨.builtin .len, #[x], #[T]⟩) ty σ w = vLen P T ty (ev σ x) w := by simp [run1, execOp, resolve, invoke, builtin, vLen]
theorem r_call (f : FuncId) (xs : List Operand) (ts : Array TypeId) : run1 P (.call ⟨.value (.func f), xs.toArray, ts⟩) ty σ w = vCall P f (xs.map (ev σ)).toArray w := by
  simp [run1, execOp, resolve, Deferred.ofValue, ev, invoke, vCall]
end

section
variable {T : TypeId} {x y : Operand} {w : World} {k : IntKind} {a b : Int}
theorem vBin_lss : vBin P .lss T x y (.int k a) (.int k b) w = .ok (.value (.bool (decide (a < b)))) w := by simp [vBin, eqGuard, binOp, Op.intCmp]
theorem vBin_leq : vBin P .leq T x y (.int k a) (.int k b) w = .ok (.value (.bool (decide (a ≤ b)))) w := by simp [vBin, eqGuard, binOp, Op.intCmp]
theorem vBin_gtr : vBin P .gtr T x y (.int k a) (.int k b) w = .ok (.value (.bool (decide (b < a)))) w := by simp [vBin, eqGuard, binOp, Op.intCmp]
theorem vBin_geq : vBin P .geq T x y (.int k a) (.int k b) w = .ok (.value (.bool (decide (b ≤ a)))) w := by simp [vBin, eqGuard, binOp, Op.intCmp]
theorem vBin_eql : vBin P .eql T x y (.int k a) (.int k b) w = .ok (.value (.bool (decide (a = b)))) w := by
  simp [vBin, eqGuard, binOp, Op.intCmp]; rfl
theorem vBin_neq : vBin P .neq T x y (.int k a) (.int k b) w = .ok (.value (.bool (!decide (a = b)))) w := by
  simp [vBin, eqGuard, binOp, Op.intCmp]; rfl
theorem vBin_add (h1 : -9223372036854775808 ≤ a + b) (h2 : a + b ≤ 9223372036854775807) : vBin P .add T x y (.int .i64 a) (.int .i64 b) w = .ok (.value (.int .i64 (a + b))) w := by
  simp [vBin, eqGuard, binOp, Op.intArith, IntWalk.i64_in _ ⟨h1, h2⟩]
theorem vBin_sub (h1 : -9223372036854775808 ≤ a - b) (h2 : a - b ≤ 9223372036854775807) : vBin P .sub T x y (.int .i64 a) (.int .i64 b) w = .ok (.value (.int .i64 (a - b))) w := by
  simp [vBin, eqGuard, binOp, Op.intArith, IntWalk.i64_in _ ⟨h1, h2⟩]
theorem vBin_mul (h1 : -9223372036854775808 ≤ a * b) (h2 : a * b ≤ 9223372036854775807) : vBin P .mul T x y (.int .i64 a) (.int .i64 b) w = .ok (.value (.int .i64 (a * b))) w := by
  simp [vBin, eqGuard, binOp, Op.intArith, IntWalk.i64_in _ ⟨h1, h2⟩]
theorem vUn_not {t : Bool} : vUn P .not (.bool t) w = .ok (.value (.bool (!t))) w := by simp [vUn, Op.unary]
theorem vBin_eqls {s t : ByteArray} : vBin P .eql T x y (.string s) (.string t) w = .ok (.value (.bool (decide (s = t)))) w := by
  have e : (s.toList == t.toList) = decide (s = t) := by
    rw [Bool.eq_iff_iff]; simp only [beq_iff_eq, decide_eq_true_eq]; exact ⟨fun h => ByteArray.ext (Array.ext' (by simpa [ByteArray.toList_eq] using h)), fun h => by rw [h]⟩
  simp [vBin, eqGuard, binOp, Op.stringOp, e]
theorem vBin_neqs {s t : ByteArray} : vBin P .neq T x y (.string s) (.string t) w = .ok (.value (.bool (!decide (s = t)))) w := by
  have e : (s.toList == t.toList) = decide (s = t) := by
    rw [Bool.eq_iff_iff]; simp only [beq_iff_eq, decide_eq_true_eq]; exact ⟨fun h => ByteArray.ext (Array.ext' (by simpa [ByteArray.toList_eq] using h)), fun h => by rw [h]⟩
  simp [vBin, eqGuard, binOp, Op.stringOp, e]
end

/-- Types. -/
def oneB (P : Program) (T : TypeId) : Bool := match P.underlying T with
  | some (.struct _) | some (.array _ _) | none => false
  | some _ => true
def szOf (P : Program) (T : TypeId) : Nat := ((P.info? T).map (·.size)).getD 0
def fOff (P : Program) (T : TypeId) (i : Nat) : Option Nat := match P.underlying T with
  | some (.struct fs) => (fs[i]?).bind fun f => (P.info? f.type).bind fun j => if j.size = 0 then none else some f.offset
  | _ => none
def eSz (P : Program) (T : TypeId) : Option Nat := match P.underlying T with
  | some (.slice e) => (P.info? e).map (·.size)
  | _ => none
def aggN (P : Program) (T : TypeId) : Option Nat := match P.underlying T with
  | some (.struct _) => (P.info? T).map (·.size)
  | _ => none
def zeroV (P : Program) (T : TypeId) : Option Value := (P.info? T).bind (·.zero)
def strB (P : Program) (T : TypeId) : Bool := match P.underlying T with
  | some .string => true
  | _ => false
def slcB (P : Program) (T : TypeId) : Bool := match P.underlying T with
  | some (.slice _) => true
  | _ => false
def bodyB (P : Program) (f : FuncId) : Bool := match P.funcs[f]? with
  | some fn => fn.body.isSome && !(fn.name == "runtime.NumGoroutine")
  | none => false
section
variable {T : TypeId} {w : World} {b o : Nat}
/-- Loads. -/
def lk (x : Option Value) (w : World) (j : Result Next) : Result Next := match x with
  | some v => .ok (.value v) w
  | none => j
theorem lk_some (v : Value) (w : World) (j : Result Next) : lk (some v) w j = .ok (.value v) w := nr rfl
def ldN (w : World) (b : Nat) : Nat → Nat → Option (List Value)
  | _, 0 => some []
  | o, k + 1 => match w.cell? ⟨b, o, none⟩, ldN w b (o + 1) k with
    | some v, some l => some (v :: l)
    | _, _ => none
def lkA (x : Option (List Value)) (w : World) (j : Result Next) : Result Next := match x with
  | some l => .ok (.value (.agg l.toArray)) w
  | none => j
theorem lkA_some (l : List Value) (w : World) (j : Result Next) : lkA (some l) w j = .ok (.value (.agg l.toArray)) w := nr rfl
def ldT (one : Bool) (n : Option Nat) (w : World) (b o : Nat) (j : Result Next) : Result Next := match one, n with
  | true, _ => lk (w.cell? ⟨b, o, none⟩) w j
  | false, some n => lkA (ldN w b o n) w j
  | false, none => j
theorem ldT_one (n : Option Nat) (j : Result Next) : ldT true n w b o j = lk (w.cell? ⟨b, o, none⟩) w j := nr rfl
theorem ldT_agg (n : Nat) (j : Result Next) : ldT false (some n) w b o j = lkA (ldN w b o n) w j := nr rfl
def jLoad (P : Program) (T : TypeId) (b o : Nat) (w : World) : Result Next := vLoad P T (.pointer (some ⟨b, o, none⟩)) w
theorem addr_add (b o i : Nat) : Addr.add ⟨b, o, none⟩ i = ⟨b, o + i, none⟩ := by
  unfold Addr.add; split
  · rename_i h; subst h; rfl
  · rfl
theorem run_loadCells_ldN (P : Program) (w : World) (b : Nat) : ∀ (n o i : Nat) (l : List Value) (acc : Array Value), ldN w b (o + i) n = some l →
    (loadCellsFrom ⟨b, o, none⟩ i n acc).run P w = .ok (acc ++ l.toArray) w
  | 0, o, i, l, acc, h => by
    simp only [ldN, Option.some.injEq] at h
    subst h
    simp [loadCellsFrom]
  | n + 1, o, i, l, acc, h => by
    rw [ldN] at h
    split at h
    · rename_i v l' hv hl
      simp only [Option.some.injEq] at h
      subst h
      have ih := run_loadCells_ldN P w b n o (i + 1) l' (acc.push v) (by rw [← hl]; rfl)
      simp only [loadCellsFrom, addr_add, load, Sem.run_bind, Sem.run, hv, Result.andThen, ih]
      simp
    · cases h
def rowD : TypeDesc → Bool
  | .struct _ | .array _ _ => true
  | _ => false
theorem oneB_desc {P : Program} {T : TypeId} (h : oneB P T = true) : ∃ d, P.underlying T = some d ∧ rowD d = false := by
  unfold oneB at h
  cases hd : P.underlying T with
  | none => rw [hd] at h; cases h
  | some d => rw [hd] at h; cases d <;> first | (cases h; done) | exact ⟨_, rfl, rfl⟩
theorem vLoad_at : vLoad P T (.pointer (some ⟨b, o, none⟩)) w = ldT (oneB P T) (aggN P T) w b o (jLoad P T b o w) := by
  unfold jLoad
  cases h1 : oneB P T with
  | true =>
    rw [ldT_one]
    cases hc : w.cell? ⟨b, o, none⟩ with
    | none => rfl
    | some v =>
      rw [lk_some]
      obtain ⟨d, hd, hr⟩ := oneB_desc h1
      have hagg : (isAgg T).run P w = .ok false w := by
        unfold isAgg
        rw [Sem.run_bind, run_underlying hd w]
        cases d <;> simp_all [rowD]
      simp [vLoad, Instr.loadAt, Instr.sureAddr, loadVar, Sem.run_bind, hagg, load, Sem.run, hc]
  | false =>
    cases h2 : aggN P T with
    | none => rfl
    | some n =>
      rw [ldT_agg]
      cases h3 : ldN w b o n with
      | none => rfl
      | some l =>
        rw [lkA_some]
        unfold aggN at h2
        cases hd : P.underlying T with
        | none => rw [hd] at h2; cases h2
        | some d =>
          rw [hd] at h2
          cases d with
          | struct fs =>
            cases hq : P.info? T with
            | none => rw [hq] at h2; cases h2
            | some inf =>
              rw [hq] at h2
              have hs : inf.size = n := by simpa using h2
              have hagg : (isAgg T).run P w = .ok true w := by
                unfold isAgg
                rw [Sem.run_bind, run_underlying hd w]
                simp
              have hl := run_loadCells_ldN P w b n o 0 l #[] h3
              simp [vLoad, Instr.loadAt, Instr.sureAddr, loadVar, Sem.run_bind, hagg, sizeOf, typeInfo, hq, hs, loadCells, hl]
          | _ => cases h2
/-- Addresses of fields, of elements. -/
def faT (x : Option Nat) (b o : Nat) (w : World) (j : Result Next) : Result Next := match x with
  | some k => .ok (.value (.pointer (some ⟨b, o + k, none⟩))) w
  | none => j
theorem faT_some (k : Nat) (j : Result Next) : faT (some k) b o w j = .ok (.value (.pointer (some ⟨b, o + k, none⟩))) w := nr rfl
def jField (P : Program) (T : TypeId) (b o f : Nat) (w : World) : Result Next := vFieldAddr P T (.pointer (some ⟨b, o, none⟩)) f w
theorem vFieldAddr_at {f : Nat} : vFieldAddr P T (.pointer (some ⟨b, o, none⟩)) f w = faT (fOff P T f) b o w (jField P T b o f w) := by
  unfold jField
  cases h : fOff P T f with
  | none => rfl
  | some k =>
    rw [faT_some]
    unfold fOff at h
    cases hd : P.underlying T with
    | none => rw [hd] at h; cases h
    | some d =>
      rw [hd] at h
      cases d with
      | struct fs =>
        cases hf : fs[f]? with
        | none => simp [hf] at h
        | some fl =>
          cases hi : P.info? fl.type with
          | none => simp [hf, hi] at h
          | some inf =>
            simp only [hf, hi, Option.bind_some] at h
            split at h
            · cases h
            · rename_i hz
              simp only [Option.some.injEq] at h
              simp [vFieldAddr, Instr.fieldAt, Sem.run_bind, run_underlying hd w, hf, Instr.sureAddr, fieldPlace, sizeOf, typeInfo, hi, hz, addr_add, h]
      | _ => cases h
def iaT (x : Option Nat) (b o n : Nat) (i : Int) (w : World) (j : Result Next) : Result Next := match x with
  | some s => if 0 ≤ i ∧ i < n then .ok (.value (.pointer (some ⟨b, o + i.toNat * s, none⟩))) w else j
  | none => j
theorem iaT_some {n : Nat} {i : Int} (h0 : 0 ≤ i) (h1 : i < n) (s : Nat) (j : Result Next) : iaT (some s) b o n i w j = .ok (.value (.pointer (some ⟨b, o + i.toNat * s, none⟩))) w := by
  simp only [iaT]; rw [if_pos ⟨h0, h1⟩]
def jIndex (P : Program) (T : TypeId) (b o n c : Nat) (k : IntKind) (i : Int) (w : World) : Result Next := vIndexAddr P T (.slice (some ⟨b, o, none⟩) n c) (.int k i) w
theorem vIndexAddr_at {n c : Nat} {k : IntKind} {i : Int} : vIndexAddr P T (.slice (some ⟨b, o, none⟩) n c) (.int k i) w = iaT (eSz P T) b o n i w (jIndex P T b o n c k i w) := by
  unfold jIndex
  cases h : eSz P T with
  | none => rfl
  | some s =>
    simp only [iaT]
    split
    · rename_i hi
      unfold eSz at h
      cases hd : P.underlying T with
      | none => rw [hd] at h; cases h
      | some d =>
        rw [hd] at h
        cases d with
        | slice e =>
          cases hq : P.info? e with
          | none => simp [hq] at h
          | some inf =>
            have hs : inf.size = s := by simpa [hq] using h
            simp [vIndexAddr, Instr.indexAt, asIntOf, Sem.run_bind, run_underlying hd w, hi, sizeOf, typeInfo, hq, hs, addr_add]
        | _ => cases h
    · rfl
/-- A string's byte. -/
def stT (x : Bool) (s : ByteArray) (i : Int) (w : World) (j : Result Next) : Result Next := match x with
  | true => if 0 ≤ i ∧ i < s.size then .ok (.value (.int .u8 (bt s i.toNat))) w else j
  | false => j
theorem stT_true {s : ByteArray} {i : Int} (h0 : 0 ≤ i) (h1 : i < s.size) (j : Result Next) : stT true s i w j = .ok (.value (.int .u8 (bt s i.toNat))) w := by
  simp only [stT]; rw [if_pos ⟨h0, h1⟩]
def jStr (P : Program) (T : TypeId) (s : ByteArray) (k : IntKind) (i : Int) (w : World) : Result Next := vIndex P T (.string s) (.int k i) w
theorem vIndex_str {s : ByteArray} {k : IntKind} {i : Int} : vIndex P T (.string s) (.int k i) w = stT (strB P T) s i w (jStr P T s k i w) := by
  unfold jStr
  cases h : strB P T with
  | false => rfl
  | true =>
    simp only [stT]
    split
    · rename_i hi
      unfold strB at h
      cases hd : P.underlying T with
      | none => rw [hd] at h; cases h
      | some d =>
        rw [hd] at h
        cases d with
        | string =>
          have hb : i.toNat < s.size := by omega
          have e1 : s[i.toNat]? = some (s.data.toList.getD i.toNat 0) := by
            rw [getElem?_pos s i.toNat hb, List.getD_eq_getElem?_getD, List.getElem?_eq_getElem (by simpa using hb)]; rfl
          simp [vIndex, Instr.index, asIntOf, Sem.run_bind, run_underlying hd w, hi.1, e1, bt]
        | _ => cases h
    · rfl
/-- Lengths. -/
def ifB (x : Bool) (r j : Result Next) : Result Next := match x with
  | true => r
  | false => j
theorem ifB_true (r j : Result Next) : ifB true r j = r := nr rfl
theorem ifB_of {x : Bool} {r j l : Result Next} (h1 : x = true → l = r) (h2 : l = j) : l = ifB x r j := by
  cases x
  · exact h2
  · exact h1 rfl
def jLen (P : Program) (T ty : TypeId) (u : Value) (w : World) : Result Next := vLen P T ty u w
theorem vLen_str {ty : TypeId} {s : ByteArray} : vLen P T ty (.string s) w = ifB (strB P T) (.ok (.value (.int .i64 s.size)) w) (jLen P T ty (.string s) w) := by
  refine ifB_of (fun h => ?_) rfl
  unfold strB at h
  cases hd : P.underlying T with
  | none => rw [hd] at h; cases h
  | some d =>
    rw [hd] at h
    cases d with
    | string => simp [vLen, Builtin.len_, Sem.run_bind, run_underlying hd w, goInt]
    | _ => cases h
theorem vLen_slc {ty : TypeId} {a : Option Addr} {n c : Nat} : vLen P T ty (.slice a n c) w = ifB (slcB P T) (.ok (.value (.int .i64 n)) w) (jLen P T ty (.slice a n c) w) := by
  refine ifB_of (fun h => ?_) rfl
  unfold slcB at h
  cases hd : P.underlying T with
  | none => rw [hd] at h; cases h
  | some d =>
    rw [hd] at h
    cases d with
    | slice e => simp [vLen, Builtin.len_, Sem.run_bind, run_underlying hd w, goInt]
    | _ => cases h
theorem cells_int (k : IntKind) (n : Int) : Value.cells (.int k n) = #[.int k n] := nr rfl
theorem cells_bool (t : Bool) : Value.cells (.bool t) = #[.bool t] := nr rfl
theorem cells_str (s : ByteArray) : Value.cells (.string s) = #[.string s] := nr rfl
theorem cells_ptr (p : Option Addr) : Value.cells (.pointer p) = #[.pointer p] := nr rfl
theorem cells_slc (a : Option Addr) (n c : Nat) : Value.cells (.slice a n c) = #[.slice a n c] := nr rfl
theorem cells_map (p : Option Nat) : Value.cells (.map p) = #[.map p] := nr rfl
theorem cells_agg (l : Array Value) : Value.cells (.agg l) = l := nr rfl
/-- New memory. -/
theorem vBox_at {v : Value} : vBox P T v w = .ok (.value (.pointer (some ⟨w.heap.size, 0, none⟩))) (w.alloc (.cells v.cells T)) := by
  simp [vBox, Instr.box, newVar, newRow, newObj, Sem.run_bind, Sem.run]
def alT (x : Option Value) (T : TypeId) (w : World) (j : Result Next) : Result Next := match x with
  | some z => .ok (.value (.pointer (some ⟨w.heap.size, 0, none⟩))) (w.alloc (.cells z.cells T))
  | none => j
theorem alT_some (z : Value) (j : Result Next) : alT (some z) T w j = .ok (.value (.pointer (some ⟨w.heap.size, 0, none⟩))) (w.alloc (.cells z.cells T)) := nr rfl
def jAlloc (P : Program) (T : TypeId) (w : World) : Result Next := vAlloc P T w
theorem vAlloc_at : vAlloc P T w = alT (zeroV P T) T w (jAlloc P T w) := by
  unfold jAlloc
  cases h : zeroV P T with
  | none => rfl
  | some z =>
    rw [alT_some]
    unfold zeroV at h
    cases hq : P.info? T with
    | none => rw [hq] at h; cases h
    | some inf =>
      rw [hq] at h
      have hz : inf.zero = some z := h
      simp [vAlloc, Instr.alloc, zeroValue, typeInfo, hq, hz, newVar, newRow, newObj, Sem.run_bind, Sem.run]
def jCall (P : Program) (f : FuncId) (args : Array Value) (w : World) : Result Next := vCall P f args w
theorem vCall_at {f : FuncId} {args : Array Value} : vCall P f args w = ifB (bodyB P f) (.ok (.enter f args) w) (jCall P f args w) := by
  refine ifB_of (fun h => ?_) rfl
  unfold bodyB at h
  cases hf : P.funcs[f]? with
  | none => rw [hf] at h; cases h
  | some fn =>
    rw [hf] at h
    simp only [Bool.and_eq_true, Bool.not_eq_true', Option.isSome_iff_ne_none, beq_eq_false_iff_ne] at h
    simp [vCall, callFunc, Sem.run_bind, program, Sem.run, hf, h.2, h.1]
theorem Okv_enter (R : Value → World → Prop) (f : FuncId) (args : Array Value) : Okv P R (.ok (.enter f args) w) = Calls P f args w (fun e w'' => ∃ v, e = .returned v ∧ R v w'') := nr rfl
theorem vExtract_at {l : List Value} {i : Nat} {v : Value} (h : l[i]? = some v) : vExtract P (.tuple l.toArray) i w = .ok (.value v) w := by
  simp [vExtract, Instr.extract, h]
theorem vExtract_0 {a : Value} {l : List Value} : vExtract P (.tuple (a :: l).toArray) 0 w = .ok (.value a) w := vExtract_at rfl
theorem vExtract_1 {a c : Value} {l : List Value} : vExtract P (.tuple (a :: c :: l).toArray) 1 w = .ok (.value c) w := vExtract_at rfl
theorem vExtract_2 {a c d : Value} {l : List Value} : vExtract P (.tuple (a :: c :: d :: l).toArray) 2 w = .ok (.value d) w := vExtract_at rfl
end
section
variable {σ : Sl} {w : World} {R : Value → Prop}
theorem resE_list (l : List ResultVar) : resE P l.toArray σ w R = resL P σ w l fun vs => R (one vs) := nr rfl
theorem resL_nil {R : List Value → Prop} : resL P σ w [] R = R [] := nr rfl
theorem resL_tmp {R : List Value → Prop} (t : Tmp) (r : List ResultVar) : resL P σ w (.tmp t :: r) R = resL P σ w r fun vs => R (σ t :: vs) := nr rfl
theorem resL_cell {R : List Value → Prop} (a : Tmp) (T : TypeId) (r : List ResultVar) : resL P σ w (.cell a T :: r) R = resC P T (σ a) w fun v => resL P σ w r fun vs => R (v :: vs) := nr rfl
theorem one_0 : one [] = .tuple #[] := nr rfl
theorem one_1 (v : Value) : one [v] = v := nr rfl
theorem one_2 (u v : Value) (r : List Value) : one (u :: v :: r) = .tuple (u :: v :: r).toArray := nr rfl
def resV (r : Result Next) (w : World) (R : Value → Prop) : Prop := match r with
  | .ok (.value v) w' => w' = w ∧ R v
  | _ => False
theorem resV_value (v : Value) : resV (.ok (.value v) w) w R = R v := by simp [resV]
theorem resC_at {T : TypeId} {b o : Nat} : resC P T (.pointer (some ⟨b, o, none⟩)) w R = resV (vLoad P T (.pointer (some ⟨b, o, none⟩)) w) w R := by
  have e : (do loadVar T (← asAddr (.pointer (some ⟨b, o, none⟩)))).run P w = (loadVar T ⟨b, o, none⟩).run P w := by simp [asAddr]
  unfold resC vLoad Instr.loadAt Instr.sureAddr
  rw [e]
  simp only [Sem.run_bind, Sem.run_pure, Result.andThen]
  cases h : (loadVar T ⟨b, o, none⟩).run P w with
  | ok v w' =>
    simp only [resV, Result.ok.injEq, eq_iff_iff]
    constructor
    · rintro ⟨u, ⟨rfl, rfl⟩, hR⟩; exact ⟨rfl, hR⟩
    · rintro ⟨rfl, hR⟩; exact ⟨v, ⟨rfl, rfl⟩, hR⟩
  | halt x w' => simp [resV]
@[congr] theorem resC_congr {T : TypeId} {u u' : Value} {w w' : World} {R : Value → Prop} (h : u = u') (h' : w = w') : resC P T u w R = resC P T u' w' R := by rw [h, h']
@[congr] theorem resV_congr {r r' : Result Next} {w w' : World} {R : Value → Prop} (h : r = r') (h' : w = w') : resV r w R = resV r' w' R := by rw [h, h']
end
theorem GB_call {f : FuncId} {args : Array Value} {g : Bool} {v : Value} {R : Value → World → Prop} {w : World} (hc : g = true → Calls P f args w (fun e w' => e = .returned v ∧ w = w')) (h : R (cv g v) w) :
    GB P g (.ok (.enter f args) w) R w := by
  cases g
  · rw [GB_false]; exact h
  · rw [GB_true, Okv_enter]; exact (hc rfl).mono fun e w' ⟨he, hw⟩ => ⟨v, he, by subst hw; exact h⟩
end
end Go.Proofs.YtbdkggnajipdhaaGreatDoor
/- The engine's rules for memory that is written. -/
namespace Go.Proofs.YtbdkggnajipdhaaGreatDoor
open Go.RowKit
section
variable {P : Program} {T : TypeId} {w : World} {b o : Nat}
def oneC : Value → Bool
  | .agg _ | .tuple _ => false
  | _ => true
theorem oneC_is {v : Value} (h : oneC v = true) : v.oneCell' = true ∧ v.cells = #[v] := by
  cases v <;> first | exact ⟨rfl, rfl⟩ | cases h
def soT (n : Nat) (c : Option Value) (f : Bool) (b o : Nat) (v : Value) (w : World) (j : Result Next) : Result Next := match n, c, f with
  | 1, some _, false => .ok .skip (w.setCell ⟨b, o, none⟩ v)
  | _, _, _ => j
theorem soT_ok (u v : Value) (j : Result Next) : soT 1 (some u) false b o v w j = .ok .skip (w.setCell ⟨b, o, none⟩ v) := nr rfl
def jStore (P : Program) (T : TypeId) (b o : Nat) (v : Value) (w : World) : Result Next := vStore P T (.pointer (some ⟨b, o, none⟩)) v w
theorem vStore_any {v : Value} (hv : oneC v = true) : vStore P T (.pointer (some ⟨b, o, none⟩)) v w = soT (szOf P T) (w.cell? ⟨b, o, none⟩) (w.frozen? ⟨b, o, none⟩) b o v w (jStore P T b o v w) := by
  obtain ⟨h1, h2⟩ := oneC_is hv
  unfold jStore
  by_cases hs : szOf P T = 1
  · rw [hs]
    cases hc : w.cell? ⟨b, o, none⟩ with
    | none => rfl
    | some u =>
      cases hf : w.frozen? ⟨b, o, none⟩ with
      | true => rfl
      | false =>
        rw [soT_ok]
        unfold szOf at hs
        cases hq : P.info? T with
        | none => rw [hq] at hs; cases hs
        | some inf =>
          have hz : inf.size = 1 := by simpa [hq] using hs
          simp [vStore, Instr.storeAt, Instr.sureAddr, storeVar, sizeOf, typeInfo, hq, hz, h2, storeCells, addr_add, run_store P _ _ _ _ h1, stored, hc, hf]
  · unfold soT
    split
    · exact absurd ‹_› hs
    · rfl
theorem vStore_int {k : IntKind} {n : Int} : vStore P T (.pointer (some ⟨b, o, none⟩)) (.int k n) w = soT (szOf P T) (w.cell? ⟨b, o, none⟩) (w.frozen? ⟨b, o, none⟩) b o (.int k n) w (jStore P T b o (.int k n) w) := vStore_any rfl
theorem vStore_bool {t : Bool} : vStore P T (.pointer (some ⟨b, o, none⟩)) (.bool t) w = soT (szOf P T) (w.cell? ⟨b, o, none⟩) (w.frozen? ⟨b, o, none⟩) b o (.bool t) w (jStore P T b o (.bool t) w) := vStore_any rfl
theorem vStore_str {s : ByteArray} : vStore P T (.pointer (some ⟨b, o, none⟩)) (.string s) w = soT (szOf P T) (w.cell? ⟨b, o, none⟩) (w.frozen? ⟨b, o, none⟩) b o (.string s) w (jStore P T b o (.string s) w) := vStore_any rfl
theorem vStore_ptr {p : Option Addr} : vStore P T (.pointer (some ⟨b, o, none⟩)) (.pointer p) w = soT (szOf P T) (w.cell? ⟨b, o, none⟩) (w.frozen? ⟨b, o, none⟩) b o (.pointer p) w (jStore P T b o (.pointer p) w) := vStore_any rfl
theorem vStore_slc {a : Option Addr} {n c : Nat} : vStore P T (.pointer (some ⟨b, o, none⟩)) (.slice a n c) w = soT (szOf P T) (w.cell? ⟨b, o, none⟩) (w.frozen? ⟨b, o, none⟩) b o (.slice a n c) w (jStore P T b o (.slice a n c) w) := vStore_any rfl
theorem vStore_map {a : Option Nat} : vStore P T (.pointer (some ⟨b, o, none⟩)) (.map a) w = soT (szOf P T) (w.cell? ⟨b, o, none⟩) (w.frozen? ⟨b, o, none⟩) b o (.map a) w (jStore P T b o (.map a) w) := vStore_any rfl
/-- A whole struct into the block that was just made for it. -/
def agL : Nat → List Value → List Value → Bool
  | 0, [], [] => true
  | n + 1, _ :: zs, v :: cs => oneC v && agL n zs cs
  | _, _, _ => false
theorem agL_is : ∀ (n : Nat) (zs cs : List Value), agL n zs cs = true → zs.length = n ∧ cs.length = n ∧ ∀ v ∈ cs, v.oneCell' = true
  | 0, [], [], _ => ⟨rfl, rfl, fun v hv => by cases hv⟩
  | n + 1, _ :: zs, v :: cs, h => by
    simp only [agL, Bool.and_eq_true] at h
    obtain ⟨h1, h2, h3⟩ := agL_is n zs cs h.2
    refine ⟨by simp [h1], by simp [h2], fun u hu => ?_⟩
    rcases List.mem_cons.1 hu with rfl | hu
    · exact (oneC_is h.1).1
    · exact h3 u hu
  | 0, _ :: _, _, h => by simp [agL] at h
  | 0, [], _ :: _, h => by simp [agL] at h
  | _ + 1, [], _, h => by simp [agL] at h
  | _ + 1, _ :: _, [], h => by simp [agL] at h
def jStoreA (P : Program) (T : TypeId) (b : Nat) (cs : List Value) (w : World) : Result Next := vStore P T (.pointer (some ⟨b, 0, none⟩)) (.agg cs.toArray) w
theorem vStore_agg {z c : Value} {zs cs : List Value} (hb : b = w.heap.size) : vStore P T (.pointer (some ⟨b, 0, none⟩)) (.agg (c :: cs).toArray) (w.alloc (.cells (z :: zs).toArray T)) =
    ifB (agL (szOf P T) (z :: zs) (c :: cs)) (.ok .skip (w.alloc (.cells (c :: cs).toArray T))) (jStoreA P T b (c :: cs) (w.alloc (.cells (z :: zs).toArray T))) := by
  subst hb
  refine ifB_of (fun h => ?_) rfl
  obtain ⟨h1, h2, h3⟩ := agL_is _ _ _ h
  have hi : (P.info? T).map (·.size) = some (c :: cs).toArray.size := by
    unfold szOf at h2
    cases hq : P.info? T with
    | none => rw [hq] at h2; simp at h2
    | some inf => rw [hq] at h2; simp at h2 ⊢; omega
  have := run_storeVar_new (P := P) w T (z :: zs).toArray (c :: cs).toArray hi (by rw [List.size_toArray, List.size_toArray, h1, h2]) (by rw [List.all_toArray, List.all_eq_true]; exact h3)
  simp only [vStore, Instr.storeAt, Instr.sureAddr, Sem.run_bind, Sem.run_pure, Result.andThen, this]
/-- A struct into memory that is there. -/
def okC (w : World) (b : Nat) : Nat → Nat → List Value → Bool
  | 0, _, [] => true
  | n + 1, o, v :: r => oneC v && ((w.cell? ⟨b, o, none⟩).isSome && (!(w.frozen? ⟨b, o, none⟩) && okC w b n (o + 1) r))
  | _, _, _ => false
theorem okC_is : ∀ (n o : Nat) (cs : List Value), okC w b n o cs = true → cs.length = n ∧ (∀ j, j < cs.length → (w.cell? ⟨b, o + j, none⟩).isSome = true) ∧ (∀ j, j < cs.length → w.frozen? ⟨b, o + j, none⟩ = false) ∧ ∀ v ∈ cs, v.oneCell' = true
  | 0, o, [], _ => ⟨rfl, fun j h => absurd h (Nat.not_lt_zero _), fun j h => absurd h (Nat.not_lt_zero _), fun v h => by cases h⟩
  | n + 1, o, v :: r, h => by
    simp only [okC, Bool.and_eq_true, Bool.not_eq_true'] at h
    obtain ⟨h1, h2, h3, h4⟩ := h
    obtain ⟨k1, k2, k3, k4⟩ := okC_is n (o + 1) r h4
    refine ⟨by simp [k1], fun j hj => ?_, fun j hj => ?_, fun u hu => ?_⟩
    · cases j with
      | zero => exact h2
      | succ j => rw [show o + (j + 1) = o + 1 + j from by omega]; exact k2 j (by simpa using hj)
    · cases j with
      | zero => exact h3
      | succ j => rw [show o + (j + 1) = o + 1 + j from by omega]; exact k3 j (by simpa using hj)
    · rcases List.mem_cons.1 hu with rfl | hu
      · exact (oneC_is h1).1
      · exact k4 u hu
  | 0, _, _ :: _, h => by simp [okC] at h
  | _ + 1, _, [], h => by simp [okC] at h
def jStoreN (P : Program) (T : TypeId) (b o : Nat) (cs : List Value) (w : World) : Result Next := vStore P T (.pointer (some ⟨b, o, none⟩)) (.agg cs.toArray) w
theorem setCells_nil (w : World) (b o : Nat) : w.setCells b o [] = w := nr rfl
theorem setCells_cons (w : World) (b o : Nat) (v : Value) (r : List Value) : w.setCells b o (v :: r) = (w.setCell ⟨b, o, none⟩ v).setCells b (o + 1) r := nr rfl
theorem vStore_aggN {c : Value} {cs : List Value} : vStore P T (.pointer (some ⟨b, o, none⟩)) (.agg (c :: cs).toArray) w =
    ifB (okC w b (szOf P T) o (c :: cs)) (.ok .skip (w.setCells b o (c :: cs))) (jStoreN P T b o (c :: cs) w) := by
  refine ifB_of (fun h => ?_) rfl
  obtain ⟨h1, h2, h3, h4⟩ := okC_is _ _ _ h
  cases hq : P.info? T with
  | none => unfold szOf at h1; rw [hq] at h1; simp at h1
  | some inf =>
    have hz : inf.size = (c :: cs).length := by unfold szOf at h1; rw [hq] at h1; simpa using h1.symm
    have hst := run_storeCells_cells (P := P) b o (c :: cs) 0 w (by simpa using h2) (by simpa using h3) h4
    simp only [Nat.add_zero] at hst
    simp only [vStore, Instr.storeAt, Instr.sureAddr, storeVar, sizeOf, typeInfo, Sem.run_bind, Sem.run_pure, run_program, Result.andThen, hq, Value.cells, List.size_toArray, hz]
    simp [hst]
/-- Cells behind a store. -/
theorem cS_same (v : Value) : (w.setCell ⟨b, o, none⟩ v).cell? ⟨b, o, none⟩ = (w.cell? ⟨b, o, none⟩).map fun _ => v := by
  cases h : w.cell? ⟨b, o, none⟩ with
  | none =>
    rw [Option.map_none]
    unfold World.cell? World.setCell at *
    simp only [Array.getElem?_modify] at *
    simp only [if_true]
    cases hb : w.heap[b]? with
    | none => simp
    | some ob => rw [hb] at h; cases ob <;> simp_all
  | some u => rw [Option.map_some]; exact World.cell?_setCell_same' w _ v (by rw [h]; rfl)
theorem cS_other {b' o' : Nat} (v : Value) (h : b ≠ b' ∨ o ≠ o') : (w.setCell ⟨b, o, none⟩ v).cell? ⟨b', o', none⟩ = w.cell? ⟨b', o', none⟩ :=
  World.cell?_setCell_other _ _ _ _ (fun e => by
    injection e with e1 e2
    rcases h with h | h
    · exact h e1
    · exact h e2)
end
end Go.Proofs.YtbdkggnajipdhaaGreatDoor
/- Frames: what a call that writes to blocks lo .. hi-1 (and makes new ones) leaves as it was; a slice's row of cells that is owned. -/
namespace Go.Proofs.YtbdkggnajipdhaaGreatDoor
open Go.RowKit
/-- Of the blocks that are there in w, only those from lo to hi-1 may have turned. -/
structure Only (lo hi : Nat) (w w' : World) : Prop where
  os : w'.os = w.os
  tape : w'.tape = w.tape
  output : w'.output = w.output
  size : w.heap.size ≤ w'.heap.size
  block : ∀ k, k < w.heap.size → (k < lo ∨ hi ≤ k) → w'.heap[k]? = w.heap[k]?
section
variable {lo hi : Nat} {a b w w' : World}
theorem Only.refl (lo hi : Nat) (w : World) : Only lo hi w w := ⟨rfl, rfl, rfl, Nat.le_refl _, fun _ _ _ => rfl⟩
theorem Only.trans (h : Only lo hi a b) (k : Only lo hi b w) : Only lo hi a w :=
  ⟨k.os.trans h.os, k.tape.trans h.tape, k.output.trans h.output, Nat.le_trans h.size k.size, fun i hi' hr => (k.block i (Nat.lt_of_lt_of_le hi' h.size) hr).trans (h.block i hi' hr)⟩
theorem Only.of_below (h : Below w.heap.size w w') : Only lo hi w w' := ⟨h.os, h.tape, h.output, h.size, fun k hk _ => h.block k hk⟩
theorem Only.drew (h : Only lo hi a w) : Only lo hi a w.drew := ⟨h.os, h.tape, h.output, h.size, h.block⟩
theorem Only.alloc (h : Only lo hi a w) (o : Obj) : Only lo hi a (w.alloc o) := h.trans (Only.of_below (below_alloc w o))
theorem Only.setCell (h : Only lo hi a w) {p : Addr} (h1 : lo ≤ p.block) (h2 : p.block < hi) (v : Value) : Only lo hi a (w.setCell p v) :=
  h.trans ⟨rfl, rfl, rfl, by simp [World.setCell], fun k _ hr => Below.heap_setCell _ _ _ _ (by omega)⟩
theorem Only.below (h : Only lo hi w w') : Below (min lo w.heap.size) w w' := ⟨h.os, h.tape, h.output, h.size, fun k hk => h.block k (by omega) (by omega)⟩
theorem Only.cell (h : Only lo hi w w') {g o : Nat} (hg : g < w.heap.size) (hr : g < lo ∨ hi ≤ g) : w'.cell? ⟨g, o, none⟩ = w.cell? ⟨g, o, none⟩ := World.cell?_of_block (w := w) (h.block g hg hr)
theorem Only.frozen (h : Only lo hi w w') {g o : Nat} (hg : g < w.heap.size) (hr : g < lo ∨ hi ≤ g) : w'.frozen? ⟨g, o, none⟩ = w.frozen? ⟨g, o, none⟩ := World.frozen?_of_block (w := w) (h.block g hg hr)
end
/-- A row of cells: block g holds the cells cs (and perhaps more behind them), none frozen. -/
def Row (w : World) (g : Nat) (T : TypeId) (cs : List Value) : Prop := ∃ cur : Array Value, w.heap[g]? = some (.cells cur T (0, 0)) ∧ ∃ r, cur.toList = cs ++ r
section
variable {w w' : World} {g : Nat} {T : TypeId} {cs : List Value}
theorem Row.lt (h : Row w g T cs) : g < w.heap.size := by
  obtain ⟨cur, hc, _⟩ := h
  exact (Array.getElem?_eq_some_iff.1 hc).1
theorem Row.cell (h : Row w g T cs) {i : Nat} {v : Value} (hv : cs[i]? = some v) : w.cell? ⟨g, i, none⟩ = some v := by
  obtain ⟨cur, hc, r, hr⟩ := h
  have h1 : cur[i]? = some v := by
    rw [← Array.getElem?_toList, hr, List.getElem?_append_left (List.getElem?_eq_some_iff.1 hv).1]; exact hv
  simp [World.cell?, hc, h1]
theorem Row.frozen (h : Row w g T cs) (i : Nat) : w.frozen? ⟨g, i, none⟩ = false := by
  obtain ⟨cur, hc, _⟩ := h
  simp [World.frozen?, hc]
theorem Row.of_block (h : Row w g T cs) (hb : w'.heap[g]? = w.heap[g]?) : Row w' g T cs := by
  obtain ⟨cur, hc, hr⟩ := h
  exact ⟨cur, hb.trans hc, hr⟩
theorem Row.only {lo hi : Nat} (h : Row w g T cs) (ho : Only lo hi w w') (hr : g < lo ∨ hi ≤ g) : Row w' g T cs := h.of_block (ho.block g h.lt hr)
theorem Row.below (h : Row w g T cs) (ho : Below w.heap.size w w') : Row w' g T cs := h.of_block (ho.block g h.lt)
theorem Row.drew (h : Row w g T cs) : Row w.drew g T cs := h
theorem Row.alloc (h : Row w g T cs) (o : Obj) : Row (w.alloc o) g T cs := h.below (below_alloc w o)
theorem Row.new (w : World) (T : TypeId) (cs : List Value) : Row (w.alloc (.cells cs.toArray T)) w.heap.size T cs := ⟨cs.toArray, heap_alloc_new w _, [], by simp⟩
theorem Row.set_ (h : Row w g T cs) {i : Nat} (hi : i < cs.length) (v : Value) : Row (w.setCell ⟨g, i, none⟩ v) g T (cs.set i v) := by
  obtain ⟨cur, hc, r, hr⟩ := h
  refine ⟨cur.setIfInBounds i v, ?_, r, ?_⟩
  · simp [World.setCell, Array.getElem?_modify, hc]
  · rw [Array.toList_setIfInBounds, hr, List.set_append_left _ _ hi]
theorem Row.far (h : Row w g T cs) {p : Addr} (hp : g ≠ p.block) (v : Value) : Row (w.setCell p v) g T cs := h.of_block (Below.heap_setCell w p v g hp)
theorem Row.arr {α : Type} {enc : α → List Value} {sz : Nat} {L : List α} (h : Row w g T (L.flatMap enc)) (he : ∀ x, (enc x).length = sz) : Arr w (some ⟨g, 0, none⟩) sz (L.map enc) := fun _ => by
  refine ⟨g, 0, rfl, h.lt, fun i l hl j v hv => ?_⟩
  rw [List.getElem?_map] at hl
  cases hx : L[i]? with
  | none => rw [hx] at hl; cases hl
  | some x =>
    rw [hx] at hl
    simp only [Option.map_some, Option.some.injEq] at hl
    subst hl
    have key : ∀ (L : List α) (i : Nat), L[i]? = some x → (L.flatMap enc)[i * sz + j]? = (enc x)[j]? := by
      intro L
      induction L with
      | nil => intro i h; simp at h
      | cons y r ih =>
        intro i h
        have hjl : j < sz := by rw [← he x]; exact (List.getElem?_eq_some_iff.1 hv).1
        rw [List.flatMap_cons]
        cases i with
        | zero =>
          simp only [List.getElem?_cons_zero, Option.some.injEq] at h
          subst h
          rw [Nat.zero_mul, Nat.zero_add, List.getElem?_append_left (by rw [he]; exact hjl)]
        | succ i =>
          rw [List.getElem?_cons_succ] at h
          rw [List.getElem?_append_right (by rw [he, Nat.succ_mul]; omega), he, ← ih i h, show (i + 1) * sz + j - sz = i * sz + j from by rw [Nat.succ_mul]; omega]
    rw [Nat.zero_add]
    exact h.cell (by rw [key L i hx]; exact hv)
end
end Go.Proofs.YtbdkggnajipdhaaGreatDoor
/- The engine's rules for maps with string keys; quotients; make, build, append. -/
namespace Go.Proofs.YtbdkggnajipdhaaGreatDoor
open Go.RowKit
section
variable {P : Program} {T : TypeId} {w : World} {g : Nat} {k : ByteArray}
theorem vBin_quo {x y : Operand} {a b : Int} (h0 : 0 ≤ a) (h1 : 0 < b) (h2 : a ≤ 9223372036854775807) : vBin P .quo T x y (.int .i64 a) (.int .i64 b) w = .ok (.value (.int .i64 (a / b))) w := by
  have h3 : 0 ≤ a / b := Int.ediv_nonneg h0 (by omega)
  have h4 : a / b ≤ a := Int.ediv_le_self b h0
  have h5 := IntWalk.i64_in (a / b) ⟨by omega, by omega⟩
  simp [vBin, eqGuard, binOp, Op.intDiv, show ¬ b = 0 by omega, Int.tdiv_eq_ediv_of_nonneg h0, h5]
theorem vBin_rem {x y : Operand} {a b : Int} (h0 : 0 ≤ a) (h1 : 0 < b) : vBin P .rem T x y (.int .i64 a) (.int .i64 b) w = .ok (.value (.int .i64 (a % b))) w := by
  simp [vBin, eqGuard, binOp, Op.intDiv, show ¬ b = 0 by omega, Int.tmod_eq_emod_of_nonneg h0]
theorem equal_bool {a b : Bool} (h : P.underlying T = some .bool) : (Op.equal T (.bool a) (.bool b)).run P w = .ok (a == b) w := by
  have e : ∀ d, (Op.equalIn (d + 1) T (.bool a) (.bool b)).run P w = .ok (a == b) w := fun d => by simp [Op.equalIn, run_underlying h w]
  exact e 9999
def booB (P : Program) (T : TypeId) : Bool := match P.underlying T with
  | some .bool => true
  | _ => false
theorem booB_is (h : booB P T = true) : P.underlying T = some .bool := by
  unfold booB at h
  cases hd : P.underlying T with
  | none => rw [hd] at h; cases h
  | some d => rw [hd] at h; cases d <;> first | rfl | cases h
/-- Pointers against nil. -/
def ptB (P : Program) (T : TypeId) : Bool := match P.underlying T with
  | some (.pointer _) => true
  | _ => false
theorem ptB_is (h : ptB P T = true) : ∃ e, P.underlying T = some (.pointer e) := by
  unfold ptB at h
  cases hd : P.underlying T with
  | none => rw [hd] at h; cases h
  | some d => rw [hd] at h; cases d <;> first | exact ⟨_, rfl⟩ | cases h
theorem equal_nil {p : Option Addr} (h : ptB P T = true) : (Op.equal T (.pointer p) (.pointer none)).run P w = .ok p.isNone w := by
  obtain ⟨el, hd⟩ := ptB_is h
  have e : ∀ d, (Op.equalIn (d + 1) T (.pointer p) (.pointer none)).run P w = .ok p.isNone w := fun d => by cases p <;> simp [Op.equalIn, run_underlying hd w]
  exact e 9999
def jBin (P : Program) (op : BinOp) (T : TypeId) (u v : Value) (w : World) : Result Next := (do pure (.value (← binOp op T u v)) : Sem Next).run P w
theorem vBin_enil {x y : Operand} {p : Option Addr} : vBin P .eql T x y (.pointer p) (.pointer none) w = ifB (ptB P T) (.ok (.value (.bool p.isNone)) w) (jBin P .eql T (.pointer p) (.pointer none) w) := by
  refine ifB_of (fun h => ?_) ?_
  · simp only [vBin, eqGuard, binOp]
    simp [equal_nil h]
  · simp [vBin, eqGuard, jBin]
theorem vBin_nnil {x y : Operand} {p : Option Addr} : vBin P .neq T x y (.pointer p) (.pointer none) w = ifB (ptB P T) (.ok (.value (.bool p.isSome)) w) (jBin P .neq T (.pointer p) (.pointer none) w) := by
  refine ifB_of (fun h => ?_) ?_
  · simp only [vBin, eqGuard, binOp]
    cases p <;> simp [equal_nil h]
  · simp [vBin, eqGuard, jBin]
theorem vBin_eqlb {x y : Operand} {a b : Bool} : vBin P .eql T x y (.bool a) (.bool b) w = ifB (booB P T) (.ok (.value (.bool (a == b))) w) (jBin P .eql T (.bool a) (.bool b) w) := by
  refine ifB_of (fun h => ?_) ?_
  · simp only [vBin, eqGuard, binOp]
    simp [equal_bool (booB_is h)]
  · simp [vBin, eqGuard, jBin]
theorem vBin_neqb {x y : Operand} {a b : Bool} : vBin P .neq T x y (.bool a) (.bool b) w = ifB (booB P T) (.ok (.value (.bool (!(a == b)))) w) (jBin P .neq T (.bool a) (.bool b) w) := by
  refine ifB_of (fun h => ?_) ?_
  · simp only [vBin, eqGuard, binOp]
    simp [equal_bool (booB_is h)]
  · simp [vBin, eqGuard, jBin]
/-- Maps. -/
def vMakeMap (P : Program) (T : TypeId) (w : World) : Result Next := (do pure (.value (← Instr.makeMap T none)) : Sem Next).run P w
def vLookup (P : Program) (T : TypeId) (m i : Value) (ok : Bool) (w : World) : Result Next := (do pure (.value (← Instr.lookup T m i ok)) : Sem Next).run P w
def vMapUpdate (P : Program) (T : TypeId) (m i v : Value) (w : World) : Result Next := (do Instr.mapUpdate T m i v; pure .skip : Sem Next).run P w
theorem r_makeMap (ty : TypeId) (σ : Sl) : run1 P (.makeMap T none) ty σ w = vMakeMap P T w := nr rfl
theorem r_lookup (ty : TypeId) (σ : Sl) (x i : Operand) (ok : Bool) : run1 P (.lookup T x i ok) ty σ w = vLookup P T (ev σ x) (ev σ i) ok w := nr rfl
theorem r_mapUpdate (ty : TypeId) (σ : Sl) (x i v : Operand) : run1 P (.mapUpdate T x i v) ty σ w = vMapUpdate P T (ev σ x) (ev σ i) (ev σ v) w := nr rfl
theorem vMakeMap_at : vMakeMap P T w = .ok (.value (.map (some w.heap.size))) (w.alloc (.map #[] 0)) := by
  simp [vMakeMap, Instr.makeMap, newObj, Sem.run_bind, Sem.run]
theorem bytes_beq (a b : ByteArray) : (a == b) = decide (a = b) := by
  rw [beq_toListBytes, Bool.eq_iff_iff]; simp only [beq_iff_eq, decide_eq_true_eq]
  exact ⟨fun h => ByteArray.ext (Array.ext' (by simpa [ByteArray.toList_eq] using h)), fun h => by rw [h]⟩
theorem run_checkKey_str {K : TypeId} {e : Bool} (h : P.underlying K = some .string) : (Instr.checkKey e 10000 K (.string k)).run P w = .ok () w := by
  have key : ∀ d, (Instr.checkKey e (d + 1) K (.string k)).run P w = .ok () w := fun d => by simp [Instr.checkKey, run_underlying h w]
  exact key 9999
/-- A map with string keys, as a list: key, value, birth. -/
def mkS (l : List (ByteArray × Value × Nat)) : Array MapEntry := (l.map fun p => ({ key := .string p.1, val := p.2.1, born := p.2.2 } : MapEntry)).toArray
def sfind (k : ByteArray) : Nat → List (ByteArray × Value × Nat) → Option (Nat × Value)
  | _, [] => none
  | i, (k', v, _) :: r => if k = k' then some (i, v) else sfind k (i + 1) r
def sget (k : ByteArray) (l : List (ByteArray × Value × Nat)) : Option Value := (sfind k 0 l).map (·.2)
theorem findNow_str : ∀ (l : List (ByteArray × Value × Nat)) (i : Nat), Instr.findNow .string (.string k) (l.map fun p => ({ key := .string p.1, val := p.2.1, born := p.2.2 } : MapEntry)) i = some (sfind k i l)
  | [], i => rfl
  | (k', v, b) :: r, i => by
    rw [List.map_cons, Instr.findNow, sfind]
    by_cases h : k = k'
    · subst h
      have : (k == k) = true := by rw [bytes_beq]; simp
      simp [Instr.sameNow, this]
    · have : (k == k') = false := by rw [bytes_beq]; simpa using h
      simp only [Instr.sameNow, this, if_neg h]
      exact findNow_str r (i + 1)
def mapZ (P : Program) (T : TypeId) : Option Value := match P.underlying T with
  | some (.map K E) => match P.underlying K with
    | some .string => (P.info? E).bind (·.zero)
    | _ => none
  | _ => none
theorem mapZ_is {z : Value} (h : mapZ P T = some z) : ∃ K E inf, P.underlying T = some (.map K E) ∧ P.underlying K = some .string ∧ P.info? E = some inf ∧ inf.zero = some z := by
  unfold mapZ at h
  cases hd : P.underlying T with
  | none => rw [hd] at h; cases h
  | some d =>
    rw [hd] at h
    cases d with
    | map K E =>
      simp only at h
      cases hk : P.underlying K with
      | none => rw [hk] at h; cases h
      | some dk =>
        rw [hk] at h
        cases dk with
        | string =>
          cases hi : P.info? E with
          | none => rw [hi] at h; cases h
          | some inf => rw [hi] at h; exact ⟨K, E, inf, rfl, hk, hi, h⟩
        | _ => cases h
    | _ => cases h
def setO (w : World) (g : Nat) (o : Obj) : World := { w with heap := w.heap.setIfInBounds g o }
theorem vMapUpdate_new {l : List (ByteArray × Value × Nat)} {clk : Nat} {z v : Value} (hz : mapZ P T = some z) (hg : w.heap[g]? = some (.map (mkS l) clk)) (hn : sget k l = none) :
    vMapUpdate P T (.map (some g)) (.string k) v w = .ok .skip (setO w g (.map (mkS (l ++ [(k, v, clk)])) (clk + 1))) := by
  obtain ⟨K, E, inf, hT, hK, hE, hzz⟩ := mapZ_is hz
  have hf := findNow_str (k := k) l 0
  have hs : sfind k 0 l = none := by
    unfold sget at hn
    cases h : sfind k 0 l with
    | none => rfl
    | some p => rw [h] at hn; cases hn
  rw [hs] at hf
  simp [vMapUpdate, Instr.mapUpdate, Sem.run_bind, run_underlying hT w, getObj, setObj, Sem.run, hg, run_checkKey_str hK, run_underlying hK w, Instr.findKey, mkS, hf, setO]
theorem setO_size (o : Obj) : (setO w g o).heap.size = w.heap.size := by simp [setO]
theorem setO_at (o : Obj) (h : g < w.heap.size) : (setO w g o).heap[g]? = some o := by simp [setO, h]
theorem setO_block (o : Obj) {i : Nat} (h : i ≠ g) : (setO w g o).heap[i]? = w.heap[i]? := by simp [setO, Array.getElem?_setIfInBounds, Ne.symm h]
theorem setO_below {B : Nat} {a : World} (h : Below B a w) (hB : B ≤ g) (o : Obj) : Below B a (setO w g o) :=
  h.trans ⟨rfl, rfl, rfl, by simp [setO], fun i hi => setO_block o (by omega)⟩
end
end Go.Proofs.YtbdkggnajipdhaaGreatDoor
