/- An engine for walks: a function's code is run on slots that are a function from numbers to values; guarded operations are taken lazily (no parting); what is not met is left as it stands. No function of the program in sight. -/
import Derived.Test.YthadhnmbddddbaaBase
import Derived.Still
import Derived.StillTail
import Derived.Deep.Quiet
namespace Go.Proofs.Ythadhnmbddddbaa
open Go.RowKit

abbrev Sl := Nat → Value
def upd (σ : Sl) (i : Nat) (v : Value) : Sl := fun j => if j = i then v else σ j
theorem upd_apply (σ : Sl) (i j : Nat) (v : Value) : upd σ i v j = if j = i then v else σ j := nr rfl
theorem upd_same (σ : Sl) (i : Nat) (v : Value) : upd σ i v i = v := if_pos rfl
def bot : Sl := fun _ => undef
/-- The frame 'a' has n slots, no deferred calls, and its slots are σ. -/
structure Fr (n : Nat) (σ : Sl) (a : Act) : Prop where
  size : a.tmps.size = n
  defers : a.defers = []
  at_ : ∀ i, a.tmps.getD i undef = σ i
def ev (σ : Sl) : Operand → Value
  | .tmp t => σ t
  | .const v => v
  | .global g => .pointer (some ⟨g, 0, none⟩)
  | .func f => .func (.func f) #[] #[]
theorem ev_tmp (σ : Sl) (t : Nat) : ev σ (.tmp t) = σ t := nr rfl
theorem ev_const (σ : Sl) (v : Value) : ev σ (.const v) = v := nr rfl
theorem ev_global (σ : Sl) (g : Nat) : ev σ (.global g) = .pointer (some ⟨g, 0, none⟩) := nr rfl
theorem ev_func (σ : Sl) (f : FuncId) : ev σ (.func f) = .func (.func f) #[] #[] := nr rfl
theorem Fr.eval {n : Nat} {σ : Sl} {a : Act} (h : Fr n σ a) : a.eval = ev σ := by
  funext o
  cases o <;> first | rfl | exact h.at_ _
def put (n : Nat) (σ : Sl) (d : Option Nat) (v : Value) : Sl := match d with
  | some d => if d < n then upd σ d v else σ
  | none => σ
theorem put_none (n : Nat) (σ : Sl) (v : Value) : put n σ none v = σ := nr rfl
theorem put_some (n : Nat) (σ : Sl) (d : Nat) (v : Value) : put n σ (some d) v = if d < n then upd σ d v else σ := nr rfl
theorem Fr.put {n : Nat} {σ : Sl} {a : Act} (h : Fr n σ a) (d : Option Nat) (v : Value) : Fr n (put n σ d v) (a.put d v) := by
  cases d with
  | none => exact h
  | some d =>
    refine ⟨by simp [Act.put, h.size], h.defers, fun i => ?_⟩
    simp only [Act.put, put_some]
    by_cases hd : d < n
    · rw [if_pos hd, upd_apply]
      by_cases hi : i = d
      · subst hi
        simp [h.size, hd]
      · rw [if_neg hi, ← h.at_ i]
        simp [Array.getD_eq_getD_getElem?, Array.getElem?_setIfInBounds, Ne.symm hi]
    · rw [if_neg hd, ← h.at_ i]
      rw [Array.setIfInBounds_eq_of_size_le (by rw [h.size]; omega)]
/-- The slot that a guard looks at. -/
def gslot (ops : Array Oper) (j : Nat) : Option Nat := (ops[j]?).bind (·.dst)
def gval (σ : Sl) : Option Nat → Value
  | some d => σ d
  | none => undef
def isB (b : Bool) : Value → Bool
  | .bool c => c == b
  | _ => false
theorem wanted_none {o : Oper} {y : Nat → Option Bool} (h : o.guard = none) : Region.wanted o y = true := by simp [Region.wanted, h]
theorem wanted_some {n : Nat} {σ : Sl} {a : Act} (h : Fr n σ a) {ops : Array Oper} {o : Oper} {j : Nat} {b : Bool} (hg : o.guard = some (j, b)) :
    Region.wanted o (yielded ops a.tmps) = isB b (gval σ (gslot ops j)) := by
  simp only [Region.wanted, hg, yielded, gslot]
  cases hd : (ops[j]?).bind (·.dst) with
  | none => simp [gval, isB, undef]
  | some d =>
    simp only [Option.bind_some, gval]
    have e := h.at_ d
    rw [Array.getD_eq_getD_getElem?] at e
    cases hv : a.tmps[d]? with
    | none =>
      rw [hv] at e
      simp only [Option.getD_none] at e
      rw [← e]
      simp [isB, undef]
    | some v =>
      rw [hv] at e
      simp only [Option.getD_some] at e
      rw [← e]
      cases v <;> simp [isB]
/-- What is asked once an operation has been run: R of its value and its world. -/
def Okv (P : Program) (R : Value → World → Prop) : Result Next → Prop
  | .ok (.value v) w' => R v w'
  | .ok .skip w' => R undef w'
  | .ok (.enter f args) w' => Calls P f args w' (fun e w'' => ∃ v, e = .returned v ∧ R v w'')
  | _ => False
def Oks (P : Program) (w : World) (R : Value → Prop) : Result Next → Prop
  | .ok (.value v) w' => w' = w ∧ R v
  | .ok .skip w' => w' = w ∧ R undef
  | .ok (.enter f args) w' => w' = w ∧ ∃ v, Calls P f args w (fun e w'' => e = .returned v ∧ w'' = w) ∧ R v
  | _ => False
def GB (P : Program) (g : Bool) (r : Result Next) (R : Value → World → Prop) (w : World) : Prop := if g then Okv P R r else R undef w
def GS (P : Program) (g : Bool) (r : Result Next) (R : Value → Prop) (w : World) : Prop := if g then Oks P w R r else R undef
def run1 (P : Program) (op : Op) (ty : TypeId) (σ : Sl) (w : World) : Result Next := (execOp (ev σ) ⟨none, op, ty, "", #[], none⟩).run P w
/-- The operations of a region in their order. -/
def E (P : Program) (n : Nat) (ops : Array Oper) : List Oper → Sl → World → (Sl → World → Prop) → Prop
  | [], σ, w, K => K σ w
  | ⟨d, op, ty, _, _, g⟩ :: r, σ, w, K => match g with
    | none => Okv P (fun v w' => E P n ops r (put n σ d v) w' K) (run1 P op ty σ w)
    | some (j, b) => GB P (isB b (gval σ (gslot ops j))) (run1 P op ty σ w) (fun v w' => E P n ops r (put n σ d v) w' K) w
/-- The same where each operation leaves the world as it is. -/
def S (P : Program) (n : Nat) (ops : Array Oper) (w : World) : List Oper → Sl → (Sl → Prop) → Prop
  | [], σ, K => K σ
  | ⟨d, op, ty, _, _, g⟩ :: r, σ, K => match g with
    | none => Oks P w (fun v => S P n ops w r (put n σ d v) K) (run1 P op ty σ w)
    | some (j, b) => GS P (isB b (gval σ (gslot ops j))) (run1 P op ty σ w) (fun v => S P n ops w r (put n σ d v) K) w
theorem E_nil (P : Program) (n : Nat) (ops : Array Oper) (σ : Sl) (w : World) (K : Sl → World → Prop) : E P n ops [] σ w K = K σ w := nr rfl
theorem E_op (P : Program) (n : Nat) (ops : Array Oper) (d : Option Nat) (op : Op) (ty : TypeId) (p : String) (af : Array Edge) (r : List Oper) (σ : Sl) (w : World) (K : Sl → World → Prop) :
    E P n ops (⟨d, op, ty, p, af, none⟩ :: r) σ w K = Okv P (fun v w' => E P n ops r (put n σ d v) w' K) (run1 P op ty σ w) := nr rfl
theorem E_opg (P : Program) (n : Nat) (ops : Array Oper) (d : Option Nat) (op : Op) (ty : TypeId) (p : String) (af : Array Edge) (j : Nat) (b : Bool) (r : List Oper) (σ : Sl) (w : World) (K : Sl → World → Prop) :
    E P n ops (⟨d, op, ty, p, af, some (j, b)⟩ :: r) σ w K = GB P (isB b (gval σ (gslot ops j))) (run1 P op ty σ w) (fun v w' => E P n ops r (put n σ d v) w' K) w := nr rfl
theorem S_nil (P : Program) (n : Nat) (ops : Array Oper) (σ : Sl) (w : World) (K : Sl → Prop) : S P n ops w [] σ K = K σ := nr rfl
theorem S_op (P : Program) (n : Nat) (ops : Array Oper) (d : Option Nat) (op : Op) (ty : TypeId) (p : String) (af : Array Edge) (r : List Oper) (σ : Sl) (w : World) (K : Sl → Prop) :
    S P n ops w (⟨d, op, ty, p, af, none⟩ :: r) σ K = Oks P w (fun v => S P n ops w r (put n σ d v) K) (run1 P op ty σ w) := nr rfl
theorem S_opg (P : Program) (n : Nat) (ops : Array Oper) (d : Option Nat) (op : Op) (ty : TypeId) (p : String) (af : Array Edge) (j : Nat) (b : Bool) (r : List Oper) (σ : Sl) (w : World) (K : Sl → Prop) :
    S P n ops w (⟨d, op, ty, p, af, some (j, b)⟩ :: r) σ K = GS P (isB b (gval σ (gslot ops j))) (run1 P op ty σ w) (fun v => S P n ops w r (put n σ d v) K) w := nr rfl

theorem Oper.wp_of_Okv {P : Program} {n : Nat} {σ : Sl} {a : Act} {w : World} (hf : Fr n σ a) {o : Oper} {R : Value → World → Prop} {next : Act → World → Prop} {Q : Exit → Act → World → Prop}
    (h : Okv P R (run1 P o.op o.type σ w)) (hR : ∀ v w', R v w' → next (a.put o.dst v) w') : o.wp P a w next Q := by
  unfold Oper.wp
  have e : (execOp a.eval o).run P w = run1 P o.op o.type σ w := by rw [hf.eval]; rfl
  rw [e]
  generalize run1 P o.op o.type σ w = r at h
  cases r with
  | halt x w' => exact h.elim
  | ok nx w' =>
    cases nx <;> simp only [Okv] at h <;> simp only [Oper.upon]
    case value v => exact hR _ _ h
    case skip => exact hR _ _ h
    case enter f args =>
      refine h.mono fun e w'' ⟨v, he, hr⟩ => ?_
      subst he
      exact hR _ _ hr
theorem E_sound {P : Program} {n : Nat} {ops : Array Oper} {K : Sl → World → Prop} {Q : Exit → Act → World → Prop} (hQ : ∀ σ a w, Fr n σ a → K σ w → Q .normal a w) :
    ∀ (l : List Oper) (σ : Sl) (a : Act) (w : World), Fr n σ a → E P n ops l σ w K → wpList P ops Q l a w
  | [], σ, a, w, hf, h => hQ _ _ _ hf h
  | ⟨d, op, ty, p, af, none⟩ :: r, σ, a, w, hf, h => by
    unfold wpList
    rw [if_pos (wanted_none rfl)]
    refine .inl (Oper.wp_of_Okv hf (o := ⟨d, op, ty, p, af, none⟩) h fun v w' hE => E_sound hQ r _ _ _ (hf.put d v) hE)
  | ⟨d, op, ty, p, af, some (j, b)⟩ :: r, σ, a, w, hf, h => by
    unfold wpList
    rw [E_opg, GB] at h
    rw [wanted_some hf rfl]
    split
    · rename_i hw
      rw [if_pos hw] at h
      exact .inl (Oper.wp_of_Okv hf (o := ⟨d, op, ty, p, af, some (j, b)⟩) h fun v w' hE => E_sound hQ r _ _ _ (hf.put d v) hE)
    · rename_i hw
      rw [if_neg hw] at h
      exact E_sound hQ r _ _ _ (hf.put d undef) h
theorem Oper.still_of_Oks {P : Program} {n : Nat} {σ : Sl} {a : Act} {w : World} (hf : Fr n σ a) {o : Oper} {R : Value → Prop} {next : Act → Prop}
    (h : Oks P w R (run1 P o.op o.type σ w)) (hR : ∀ v, R v → next (a.put o.dst v)) : o.still P a w next := by
  unfold Oper.still
  have e : (execOp a.eval o).run P w = run1 P o.op o.type σ w := by rw [hf.eval]; rfl
  rw [e]
  generalize run1 P o.op o.type σ w = r at h
  cases r with
  | halt x w' => exact h.elim
  | ok nx w' =>
    cases nx <;> simp only [Oks] at h <;> simp only [Oper.stillUpon]
    case value v => exact ⟨h.1, hR _ h.2⟩
    case skip => exact ⟨h.1, hR _ h.2⟩
    case enter f args =>
      obtain ⟨h1, v, h2, h3⟩ := h
      exact ⟨h1, v, h2, hR _ h3⟩
theorem S_sound {P : Program} {n : Nat} {ops : Array Oper} {w : World} {K : Sl → Prop} {Q : Act → Prop} (hQ : ∀ σ a, Fr n σ a → K σ → Q a) :
    ∀ (l : List Oper) (σ : Sl) (a : Act), Fr n σ a → S P n ops w l σ K → wpStill P ops w Q l a
  | [], σ, a, hf, h => hQ _ _ hf h
  | ⟨d, op, ty, p, af, none⟩ :: r, σ, a, hf, h => by
    unfold wpStill
    rw [if_pos (wanted_none rfl)]
    exact Oper.still_of_Oks hf (o := ⟨d, op, ty, p, af, none⟩) h fun v hE => S_sound hQ r _ _ (hf.put d v) hE
  | ⟨d, op, ty, p, af, some (j, b)⟩ :: r, σ, a, hf, h => by
    unfold wpStill
    rw [S_opg, GS] at h
    rw [wanted_some hf rfl]
    split
    · rename_i hw
      rw [if_pos hw] at h
      exact Oper.still_of_Oks hf (o := ⟨d, op, ty, p, af, some (j, b)⟩) h fun v hE => S_sound hQ r _ _ (hf.put d v) hE
    · rename_i hw
      rw [if_neg hw] at h
      exact S_sound hQ r _ _ (hf.put d undef) h

/-- Code. -/
def lift (n : Nat) (Q : Exit → Sl → World → Prop) : Exit → Act → World → Prop := fun e a w => ∃ σ, Fr n σ a ∧ Q e σ w
/-- What is not run by a rule of its own. -/
def Raw (P : Program) (n : Nat) (c : Code) (Q : Exit → Sl → World → Prop) (σ : Sl) (w : World) : Prop := ∀ a, Fr n σ a → c.wp P (lift n Q) a w
def thenX (K : Sl → World → Prop) (Q : Exit → Sl → World → Prop) : Exit → Sl → World → Prop
  | .normal, σ, w => K σ w
  | e, σ, w => Q e σ w
def inX (id : Nat) (Q : Exit → Sl → World → Prop) : Exit → Sl → World → Prop
  | .exit id', σ, w => if id' = id then Q .normal σ w else Q (.exit id') σ w
  | e, σ, w => Q e σ w
def condX (v : Value) (p q : Prop) : Prop := match v with
  | .bool t => (t = true → p) ∧ (t = false → q)
  | _ => False
def W (P : Program) (n : Nat) : Code → (Exit → Sl → World → Prop) → Sl → World → Prop
  | .skip, Q, σ, w => Q .normal σ w
  | .region id ops draw, Q, σ, w => if draw then Raw P n (.region id ops true) Q σ w else E P n ops ops.toList σ w (Q .normal)
  | .seq a b, Q, σ, w => W P n a (thenX (W P n b Q) Q) σ w
  | .cond c x y, Q, σ, w => condX (ev σ c) (W P n x Q σ w) (W P n y Q σ w)
  | .block id c, Q, σ, w => W P n c (inX id Q) σ w
  | .exit id, Q, σ, w => Q (.exit id) σ w
  | .ret, Q, σ, w => Q .ret σ w
  | c, Q, σ, w => Raw P n c Q σ w
section
variable {P : Program} {n : Nat} {Q : Exit → Sl → World → Prop} {σ : Sl} {w : World}
theorem W_skip : W P n .skip Q σ w = Q .normal σ w := nr rfl
theorem W_region {id : Nat} {l : List Oper} : W P n (.region id l.toArray false) Q σ w = E P n l.toArray l σ w (Q .normal) := by simp [W]
theorem W_draw {id : Nat} {ops : Array Oper} : W P n (.region id ops true) Q σ w = Raw P n (.region id ops true) Q σ w := nr rfl
theorem W_seq {a b : Code} : W P n (.seq a b) Q σ w = W P n a (thenX (W P n b Q) Q) σ w := nr rfl
theorem W_cond {c : Operand} {x y : Code} : W P n (.cond c x y) Q σ w = condX (ev σ c) (W P n x Q σ w) (W P n y Q σ w) := nr rfl
theorem W_block {id : Nat} {c : Code} : W P n (.block id c) Q σ w = W P n c (inX id Q) σ w := nr rfl
theorem W_exit {id : Nat} : W P n (.exit id) Q σ w = Q (.exit id) σ w := nr rfl
theorem W_ret : W P n .ret Q σ w = Q .ret σ w := nr rfl
theorem W_loop {c : Code} : W P n (.loop c) Q σ w = Raw P n (.loop c) Q σ w := nr rfl
theorem thenX_normal {K : Sl → World → Prop} : thenX K Q .normal σ w = K σ w := nr rfl
theorem thenX_ret {K : Sl → World → Prop} : thenX K Q .ret σ w = Q .ret σ w := nr rfl
theorem thenX_exit {K : Sl → World → Prop} {id : Nat} : thenX K Q (.exit id) σ w = Q (.exit id) σ w := nr rfl
theorem inX_normal {id : Nat} : inX id Q .normal σ w = Q .normal σ w := nr rfl
theorem inX_ret {id : Nat} : inX id Q .ret σ w = Q .ret σ w := nr rfl
theorem inX_exit {id id' : Nat} : inX id Q (.exit id') σ w = if id' = id then Q .normal σ w else Q (.exit id') σ w := nr rfl
theorem condX_bool {t : Bool} {p q : Prop} : condX (.bool t) p q = ((t = true → p) ∧ (t = false → q)) := nr rfl
theorem W_mono_lift {Q Q' : Exit → Act → World → Prop} {c : Code} {a : Act} (hq : ∀ e a w, Q e a w → Q' e a w) (h : c.wp P Q a w) : c.wp P Q' a w := wp_mono h hq
end
theorem W_sound {P : Program} {n : Nat} : ∀ (c : Code) (Q : Exit → Sl → World → Prop) (σ : Sl) (w : World), W P n c Q σ w → Raw P n c Q σ w := by
  intro c
  induction c with
  | skip => intro Q σ w h a hf; exact wp_skip ⟨σ, hf, h⟩
  | region id ops draw =>
    intro Q σ w h a hf
    cases draw with
    | true => exact h a hf
    | false =>
      refine wp_region_list ?_
      exact E_sound (K := Q .normal) (fun σ' a' w' hf' hk => ⟨σ', hf', hk⟩) _ _ _ _ hf (by simpa [W] using h)
  | seq x y ihx ihy =>
    intro Q σ w h a hf
    refine wp_seq (wp_mono (ihx _ _ _ h a hf) ?_)
    rintro e a' w' ⟨σ', hf', hq⟩
    cases e
    case normal => exact ihy _ _ _ hq a' hf'
    all_goals exact ⟨σ', hf', hq⟩
  | cond c x y ihx ihy =>
    intro Q σ w h a hf
    rw [W_cond] at h
    have hc : a.eval c = ev σ c := by rw [hf.eval]
    generalize ev σ c = v at h hc
    cases v with
    | bool t =>
      refine wp_cond_split hc (fun ht => ihx _ _ _ (h.1 ht) a hf) (fun ht => ihy _ _ _ (h.2 ht) a hf)
    | _ => exact h.elim
  | block id c ih =>
    intro Q σ w h a hf
    refine wp_block (wp_mono (ih _ _ _ h a hf) ?_)
    rintro e a' w' ⟨σ', hf', hq⟩
    cases e
    case exit id' =>
      simp only [inX] at hq
      simp only [Exit.inBlock]
      split
      · rename_i he; rw [if_pos he] at hq; exact ⟨σ', hf', hq⟩
      · rename_i he; rw [if_neg he] at hq; exact ⟨σ', hf', hq⟩
    all_goals exact ⟨σ', hf', hq⟩
  | exit id => intro Q σ w h a hf; exact wp_exit ⟨σ, hf, h⟩
  | ret => intro Q σ w h a hf; exact wp_ret ⟨σ, hf, h⟩
  | _ => intro Q σ w h a hf; exact h a hf

/-- A loop. -/
theorem Raw_loop {P : Program} {n : Nat} {c : Code} {Q : Exit → Sl → World → Prop} {σ : Sl} {w : World} (I : Sl → World → Prop) (μ : Sl → World → Nat) (h0 : I σ w)
    (round : ∀ σ w, I σ w → ∀ K : Sl → World → Prop, (∀ σ' w', I σ' w' → μ σ' w' < μ σ w → K σ' w') → W P n c (thenX K Q) σ w) : Raw P n (.loop c) Q σ w := by
  intro a hf
  have round : ∀ σ w, I σ w → W P n c (thenX (fun σ' w' => I σ' w' ∧ μ σ' w' < μ σ w) Q) σ w := fun σ w hI => round σ w hI _ fun _ _ h1 h2 => ⟨h1, h2⟩
  refine wp_loop (fun a w => Fr n (fun i => a.tmps.getD i undef) a ∧ I (fun i => a.tmps.getD i undef) w) (fun a w => μ (fun i => a.tmps.getD i undef) w) ?_ ?_
  · have e : (fun i => a.tmps.getD i undef) = σ := funext hf.at_
    rw [e]; exact ⟨hf, h0⟩
  · rintro a w ⟨hf, hI⟩
    refine wp_mono (W_sound _ _ _ _ (round _ w hI) a hf) ?_
    rintro e a' w' ⟨σ', hf', hq⟩
    cases e
    case normal =>
      have e : (fun i => a'.tmps.getD i undef) = σ' := funext hf'.at_
      simp only [Exit.then]
      rw [e]; exact ⟨⟨hf', hq.1⟩, hq.2⟩
    all_goals exact ⟨σ', hf', hq⟩
/-- A region that draws its order and only reads. -/
theorem Raw_still {P : Program} {n : Nat} {id : Nat} {l : List Oper} {Q : Exit → Sl → World → Prop} {σ : Sl} {w : World} (hm : P.follows .mixedOrders = true) (hB : Region.lexB .any l.toArray = true)
    (h : S P n l.toArray w.drew l σ (fun σ' => Q .normal σ' w.drew)) : Raw P n (.region id l.toArray true) Q σ w := by
  intro a hf
  exact wp_region_still_lit hm hB (S_sound (w := w.drew) (K := fun σ' => Q .normal σ' w.drew) (fun σ' a' hf' hk => ⟨σ', hf', hk⟩) _ _ _ hf h)
/-- A region that draws its order: reads, and then one operation that writes, and what stands behind it. -/
theorem Raw_tail {P : Program} {n : Nat} {id : Nat} {l : List Oper} {Q : Exit → Sl → World → Prop} {σ : Sl} {w : World} (m : Nat) (hm : P.follows .mixedOrders = true) (hB : Region.lexTailB .any l.toArray m = true)
    (h : S P n l.toArray w.drew (l.take m) σ (fun σ' => E P n l.toArray (l.drop m) σ' w.drew (Q .normal))) : Raw P n (.region id l.toArray true) Q σ w := by
  intro a hf
  refine wp_region_still_tail m hm hB (S_sound (w := w.drew) (K := fun σ' => E P n l.toArray (l.drop m) σ' w.drew (Q .normal)) (fun σ' a' hf' hk => ?_) _ _ _ hf h)
  exact E_sound (K := Q .normal) (fun σ' a' w' hf' hk => ⟨σ', hf', hk⟩) _ _ _ _ hf' hk

/-- The results: slots, or variables in memory. -/
def one : List Value → Value
  | [v] => v
  | vs => .tuple vs.toArray
/-- A result that lies in memory: it is loaded, the world stands. -/
def resC (P : Program) (T : TypeId) (u : Value) (w : World) (R : Value → Prop) : Prop := ∃ v, (do loadVar T (← asAddr u)).run P w = .ok v w ∧ R v
def resL (P : Program) (σ : Sl) (w : World) : List ResultVar → (List Value → Prop) → Prop
  | [], R => R []
  | .tmp t :: r, R => resL P σ w r fun vs => R (σ t :: vs)
  | .cell a T :: r, R => resC P T (σ a) w fun v => resL P σ w r fun vs => R (v :: vs)
def resE (P : Program) (rs : Array ResultVar) (σ : Sl) (w : World) (R : Value → Prop) : Prop := resL P σ w rs.toList fun vs => R (one vs)
def resF (σ : Sl) : ResultVar → Sem Value
  | .tmp t => pure (σ t)
  | .cell a t => do loadVar t (← asAddr (σ a))
def resS (rs : Array ResultVar) (σ : Sl) : Sem Value := do
  let vs ← rs.mapM (resF σ)
  pure (if h : vs.size = 1 then vs[0] else .tuple vs)
theorem resL_is {P : Program} {σ : Sl} {w : World} : ∀ (rs : List ResultVar) (R : List Value → Prop), resL P σ w rs R → ∃ vs, (rs.mapM (resF σ)).run P w = .ok vs w ∧ R vs
  | [], R, h => ⟨[], rfl, h⟩
  | .tmp t :: r, R, h => by
    obtain ⟨vs, h1, h2⟩ := resL_is r _ h
    refine ⟨σ t :: vs, ?_, h2⟩
    rw [List.mapM_cons]
    simp [Sem.run_bind, resF, h1]
  | .cell a T :: r, R, h => by
    obtain ⟨v, hv, h⟩ := h
    obtain ⟨vs, h1, h2⟩ := resL_is r _ h
    refine ⟨v :: vs, ?_, h2⟩
    rw [List.mapM_cons]
    have hv' : (resF σ (.cell a T)).run P w = .ok v w := hv
    simp only [Sem.run_bind, hv', Result.andThen, h1, Sem.run_pure]
theorem resE_is {P : Program} {σ : Sl} {w : World} {fn : Func} {R : Value → Prop} (h : resE P fn.results σ w R) {tmps : Array Value} (ht : (fun i => tmps.getD i undef) = σ) :
    ∃ v, (results fn tmps).run P w = .ok v w ∧ R v := by
  obtain ⟨vs, h1, h2⟩ := resL_is _ _ h
  refine ⟨one vs, ?_, h2⟩
  have e : results fn tmps = resS fn.results σ := by subst ht; rfl
  rw [e]
  unfold resS
  rw [Array.mapM_eq_mapM_toList, Sem.run_bind]
  simp only [Sem.run_map, h1, Result.andThen, Sem.run_pure]
  match vs with
  | [] => rfl
  | [v] => rfl
  | v :: u :: r => rfl
def post (P : Program) (fn : Func) (R : Ending → World → Prop) : Exit → Sl → World → Prop
  | .normal, σ, w | .ret, σ, w => resE P fn.results σ w fun v => R (.returned v) w
  | _, _, _ => False
theorem post_normal {P : Program} {fn : Func} {R : Ending → World → Prop} {σ : Sl} {w : World} : post P fn R .normal σ w = resE P fn.results σ w fun v => R (.returned v) w := nr rfl
theorem post_ret {P : Program} {fn : Func} {R : Ending → World → Prop} {σ : Sl} {w : World} : post P fn R .ret σ w = resE P fn.results σ w fun v => R (.returned v) w := nr rfl
def init : List Value → Nat → Sl → Sl
  | [], _, σ => σ
  | v :: r, i, σ => init r (i + 1) (upd σ i v)
theorem getD_append_undef (l : List Value) (m i : Nat) : (l.toArray ++ Array.replicate m undef).getD i undef = l.getD i undef := by
  simp only [Array.getD_eq_getD_getElem?, Array.getElem?_append, List.getD_eq_getElem?_getD, List.size_toArray, List.getElem?_toArray]
  split
  · rfl
  · rename_i h
    rw [List.getElem?_eq_none (by omega)]
    by_cases h2 : i - l.length < m <;> simp [Array.getElem?_replicate, h2]
theorem init_at : ∀ (l : List Value) (k : Nat) (σ : Sl) (i : Nat), init l k σ i = if k ≤ i ∧ i - k < l.length then l.getD (i - k) undef else σ i
  | [], k, σ, i => by simp [init]
  | v :: r, k, σ, i => by
    rw [init, init_at r (k + 1) (upd σ k v) i, upd_apply]
    by_cases h1 : i = k
    · subst h1; rw [if_neg (by omega)]; simp
    · by_cases h2 : k ≤ i
      · have e : i - k = i - (k + 1) + 1 := by omega
        by_cases h3 : i - (k + 1) < r.length
        · rw [if_pos ⟨by omega, h3⟩, if_pos ⟨h2, by simp; omega⟩, e]; simp
        · rw [if_neg (by omega), if_neg h1, if_neg (by simp; omega)]
      · rw [if_neg (by omega), if_neg h1, if_neg (by omega)]
theorem calls_W {P : Program} {f : FuncId} {fn : Func} {c : Code} {l : List Value} {w : World} {R : Ending → World → Prop} (hf : P.funcs[f]? = some fn) (hb : fn.body = some c) (n : Nat) (hn : fn.ntmps = n) (hl : l.length ≤ n)
    (h : W P n c (post P fn R) (init l 0 bot) w) : Calls P f l.toArray w R := by
  refine calls_of_wp hf hb ?_
  have hfr : Fr n (init l 0 bot) { tmps := l.toArray ++ Array.replicate (fn.ntmps - l.toArray.size) undef, defers := [] } := by
    refine ⟨by simp [hn]; omega, rfl, fun i => ?_⟩
    rw [getD_append_undef, init_at]
    by_cases hi : i < l.length
    · rw [if_pos ⟨Nat.zero_le _, by simpa using hi⟩]; rfl
    · rw [if_neg (by omega)]
      simp [bot, List.getD_eq_getElem?_getD, List.getElem?_eq_none (Nat.le_of_not_lt hi)]
  refine wp_mono (W_sound _ _ _ _ h _ hfr) ?_
  rintro e a w' ⟨σ, hf', hq⟩
  have ht : (fun i => a.tmps.getD i undef) = σ := funext hf'.at_
  cases e <;> simp only [post] at hq
  case normal => obtain ⟨v, hv, hR⟩ := resE_is hq ht; exact ⟨hf'.defers, v, hv, hR⟩
  case ret => obtain ⟨v, hv, hR⟩ := resE_is hq ht; exact ⟨hf'.defers, v, hv, hR⟩
end Go.Proofs.Ythadhnmbddddbaa
