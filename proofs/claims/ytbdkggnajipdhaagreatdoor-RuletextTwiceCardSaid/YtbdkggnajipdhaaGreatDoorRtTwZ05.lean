/- Texts laid one behind the other: Pan, RtQ, Shelf, LexC, ScrQ, ArG, Arr, Byt. Each says at its head what it proves. -/
import Derived.Test.YtbdkggnajipdhaaGreatDoorRtTwZ04
import Derived.Recover
import Derived.Shelf.Strings.Builder1
import Derived.Shelf.Strings.Builder2
import Derived.Shelf.Strings.OnBuilder
import Derived.Shelf.Strings.BuilderF
import Derived.Shelf.Strings.BuilderK
import Derived.Shelf.Utf8.RuneCount
import Derived.Shelf.Strings.Builder2Cap
import Derived.Shelf.Strconv.Itoa0
import Derived.Shelf.Strconv.Itoa1
import Derived.Shelf.LaysM
import Derived.Shelf.Strconv.Itoa2
import Derived.Shelf.Strconv.Itoa3
import Derived.Shelf.Strings.Search1
import Derived.Shelf.Strings.Search2
import Derived.Shelf.Strings.Search3
import Derived.Shelf.Strings.Count
import Derived.Shelf.Strings.Shaped
import Derived.Shelf.Strings.LastIndex
import Derived.Shelf.Strings.Prefix
import Derived.Shelf.Strings.Split
import Derived.Shelf.Strings.Fields
import Derived.Shelf.Strings.SplitShaped
import Derived.Shelf.Unicode.Latin
import Derived.Shelf.Unicode.Decode
import Derived.Shelf.Strings.RuneCount
import Derived.Shelf.Strings.Explode
import Derived.Shelf.Unicode.DecodeSlow
import Derived.Shelf.Unicode.DecodeAny
import Derived.Shelf.Unicode.Is16White
import Derived.Shelf.Unicode.IsSpaceAny
import Derived.Shelf.Unicode.Is16WhiteD
import Derived.Shelf.Unicode.Is16Any
import Derived.Shelf.Unicode.Is32Any
import Derived.Shelf.Unicode.ExclAny
import Derived.Shelf.Strings.BuilderCap
import Derived.Test.YtbdkggnajipdhaaGreatDoorProg
import Derived.Laws.BytesString
set_option linter.unusedSimpArgs false
/- The engine where calls may panic: the same as XEng's E and W, with a place for what is asked once the code panics; frames that have deferred calls. No function of the program in sight. -/
namespace Go.Proofs.YtbdkggnajipdhaaGreatDoor
open Go.RowKit
/-- The frame 'a' has n slots σ and the deferred calls ds. -/
structure FrD (ds : List Deferred) (n : Nat) (σ : Sl) (a : Act) : Prop where
  size : a.tmps.size = n
  defers : a.defers = ds
  at_ : ∀ i, a.tmps.getD i undef = σ i
theorem FrD.eval {ds : List Deferred} {n : Nat} {σ : Sl} {a : Act} (h : FrD ds n σ a) : a.eval = ev σ := by
  funext o
  cases o <;> first | rfl | exact h.at_ _
theorem FrD.fr {ds : List Deferred} {n : Nat} {σ : Sl} {a : Act} (h : FrD ds n σ a) : Fr n σ { a with defers := [] } := ⟨h.size, rfl, h.at_⟩
theorem FrD.put {ds : List Deferred} {n : Nat} {σ : Sl} {a : Act} (h : FrD ds n σ a) (d : Option Nat) (v : Value) : FrD ds n (put n σ d v) (a.put d v) := by
  have hq := h.fr.put d v
  refine ⟨?_, ?_, fun i => ?_⟩
  · have := hq.size; cases d <;> simpa [Act.put] using this
  · cases d <;> exact h.defers
  · have := hq.at_ i; cases d <;> exact this
theorem wanted_someD {ds : List Deferred} {n : Nat} {σ : Sl} {a : Act} (h : FrD ds n σ a) {ops : Array Oper} {o : Oper} {j : Nat} {b : Bool} (hg : o.guard = some (j, b)) :
    Region.wanted o (yielded ops a.tmps) = isB b (gval σ (gslot ops j)) := wanted_some h.fr hg
/-- How a call ends: R behind a return, X behind a panic. -/
def Ends (R : Value → World → Prop) (X : List PanicEntry → World → Prop) : Ending → World → Prop
  | .returned v, w => R v w
  | .panicked c, w => X c w
  | .outgrown, _ => False
theorem Ends_ret (R : Value → World → Prop) (X : List PanicEntry → World → Prop) (v : Value) (w : World) : Ends R X (.returned v) w = R v w := nr rfl
theorem Ends_pan (R : Value → World → Prop) (X : List PanicEntry → World → Prop) (c : List PanicEntry) (w : World) : Ends R X (.panicked c) w = X c w := nr rfl
def OkvX (P : Program) (R : Value → World → Prop) (X : List PanicEntry → World → Prop) : Result Next → Prop
  | .ok (.value v) w' => R v w'
  | .ok .skip w' => R undef w'
  | .ok (.enter f args) w' => Calls P f args w' (Ends R X)
  | .halt (.panic v) w' => X [{ v, recovered := false }] w'
  | _ => False
def GBX (P : Program) (g : Bool) (r : Result Next) (R : Value → World → Prop) (X : List PanicEntry → World → Prop) (w : World) : Prop := if g then OkvX P R X r else R undef w
/-- The operations of a region in their order; X: what is asked once one of them panics. -/
def EX (P : Program) (n : Nat) (ops : Array Oper) (X : List PanicEntry → Sl → World → Prop) : List Oper → Sl → World → (Sl → World → Prop) → Prop
  | [], σ, w, K => K σ w
  | ⟨d, op, ty, _, _, g⟩ :: r, σ, w, K => match g with
    | none => OkvX P (fun v w' => EX P n ops X r (put n σ d v) w' K) (fun c w' => X c σ w') (run1 P op ty σ w)
    | some (j, b) => GBX P (isB b (gval σ (gslot ops j))) (run1 P op ty σ w) (fun v w' => EX P n ops X r (put n σ d v) w' K) (fun c w' => X c σ w') w
section
variable {P : Program} {n : Nat} {X : List PanicEntry → Sl → World → Prop}
theorem EX_nil (ops : Array Oper) (σ : Sl) (w : World) (K : Sl → World → Prop) : EX P n ops X [] σ w K = K σ w := nr rfl
theorem EX_op (ops : Array Oper) (d : Option Nat) (op : Op) (ty : TypeId) (p : String) (af : Array Edge) (r : List Oper) (σ : Sl) (w : World) (K : Sl → World → Prop) :
    EX P n ops X (⟨d, op, ty, p, af, none⟩ :: r) σ w K = OkvX P (fun v w' => EX P n ops X r (put n σ d v) w' K) (fun c w' => X c σ w') (run1 P op ty σ w) := nr rfl
theorem EX_opg (ops : Array Oper) (d : Option Nat) (op : Op) (ty : TypeId) (p : String) (af : Array Edge) (j : Nat) (b : Bool) (r : List Oper) (σ : Sl) (w : World) (K : Sl → World → Prop) :
    EX P n ops X (⟨d, op, ty, p, af, some (j, b)⟩ :: r) σ w K = GBX P (isB b (gval σ (gslot ops j))) (run1 P op ty σ w) (fun v w' => EX P n ops X r (put n σ d v) w' K) (fun c w' => X c σ w') w := nr rfl
theorem OkvX_value (R : Value → World → Prop) (Y : List PanicEntry → World → Prop) (v : Value) (w : World) : OkvX P R Y (.ok (.value v) w) = R v w := nr rfl
theorem OkvX_skip (R : Value → World → Prop) (Y : List PanicEntry → World → Prop) (w : World) : OkvX P R Y (.ok .skip w) = R undef w := nr rfl
theorem OkvX_enter (R : Value → World → Prop) (Y : List PanicEntry → World → Prop) (f : FuncId) (args : Array Value) (w : World) : OkvX P R Y (.ok (.enter f args) w) = Calls P f args w (Ends R Y) := nr rfl
theorem OkvX_panic (R : Value → World → Prop) (Y : List PanicEntry → World → Prop) (v : Value) (w : World) : OkvX P R Y (.halt (.panic v) w) = Y [{ v, recovered := false }] w := nr rfl
theorem GBX_true (r : Result Next) (R : Value → World → Prop) (Y : List PanicEntry → World → Prop) (w : World) : GBX P true r R Y w = OkvX P R Y r := nr rfl
theorem GBX_false (r : Result Next) (R : Value → World → Prop) (Y : List PanicEntry → World → Prop) (w : World) : GBX P false r R Y w = R undef w := by simp [GBX]
theorem GBX_value (g : Bool) (v : Value) (R : Value → World → Prop) (Y : List PanicEntry → World → Prop) (w : World) : GBX P g (.ok (.value v) w) R Y w = R (cv g v) w := by cases g <;> simp [GBX, OkvX, cv]
@[congr] theorem OkvX_congr {R : Value → World → Prop} {Y : List PanicEntry → World → Prop} {r r' : Result Next} (h : r = r') : OkvX P R Y r = OkvX P R Y r' := by rw [h]
@[congr] theorem GBX_congr {g g' : Bool} {r r' : Result Next} {R : Value → World → Prop} {Y : List PanicEntry → World → Prop} {w : World} (hg : g = g') (hr : g' = true → r = r') : GBX P g r R Y w = GBX P g' r' R Y w := by
  subst hg; cases g
  · rfl
  · rw [hr rfl]
@[congr] theorem EX_congr {ops : Array Oper} {l : List Oper} {σ σ' : Sl} {w w' : World} {K : Sl → World → Prop} (h : σ = σ') (h' : w = w') : EX P n ops X l σ w K = EX P n ops X l σ' w' K := by rw [h, h']
end
theorem Oper.wp_of_OkvX {P : Program} {n : Nat} {ds : List Deferred} {σ : Sl} {a : Act} {w : World} (hf : FrD ds n σ a) {o : Oper} {R : Value → World → Prop} {Y : List PanicEntry → World → Prop} {next : Act → World → Prop} {Q : Exit → Act → World → Prop}
    (h : OkvX P R Y (run1 P o.op o.type σ w)) (hR : ∀ v w', R v w' → next (a.put o.dst v) w') (hY : ∀ c w', Y c w' → Q (.panic c) a w') : o.wp P a w next Q := by
  unfold Oper.wp
  have e : (execOp a.eval o).run P w = run1 P o.op o.type σ w := by rw [hf.eval]; rfl
  rw [e]
  generalize run1 P o.op o.type σ w = r at h
  cases r with
  | halt x w' => cases x <;> simp only [OkvX] at h <;> simp only [Oper.upon]; exact hY _ _ h
  | ok nx w' =>
    cases nx <;> simp only [OkvX] at h <;> simp only [Oper.upon]
    case value v => exact hR _ _ h
    case skip => exact hR _ _ h
    case enter f args =>
      refine h.mono fun e w'' he => ?_
      cases e with
      | returned v => exact hR _ _ he
      | panicked c => exact hY _ _ he
      | outgrown => exact he.elim
theorem EX_sound {P : Program} {n : Nat} {ds : List Deferred} {ops : Array Oper} {X : List PanicEntry → Sl → World → Prop} {K : Sl → World → Prop} {Q : Exit → Act → World → Prop} (hQ : ∀ σ a w, FrD ds n σ a → K σ w → Q .normal a w)
    (hX : ∀ c σ a w, FrD ds n σ a → X c σ w → Q (.panic c) a w) :
    ∀ (l : List Oper) (σ : Sl) (a : Act) (w : World), FrD ds n σ a → EX P n ops X l σ w K → wpList P ops Q l a w
  | [], σ, a, w, hf, h => hQ _ _ _ hf h
  | ⟨d, op, ty, p, af, none⟩ :: r, σ, a, w, hf, h => by
    unfold wpList
    rw [if_pos (wanted_none rfl)]
    exact .inl (Oper.wp_of_OkvX hf (o := ⟨d, op, ty, p, af, none⟩) h (fun v w' hE => EX_sound hQ hX r _ _ _ (hf.put d v) hE) fun c w' hc => hX _ _ _ _ hf hc)
  | ⟨d, op, ty, p, af, some (j, b)⟩ :: r, σ, a, w, hf, h => by
    unfold wpList
    rw [EX_opg, GBX] at h
    rw [wanted_someD hf rfl]
    split
    · rename_i hw
      rw [if_pos hw] at h
      exact .inl (Oper.wp_of_OkvX hf (o := ⟨d, op, ty, p, af, some (j, b)⟩) h (fun v w' hE => EX_sound hQ hX r _ _ _ (hf.put d v) hE) fun c w' hc => hX _ _ _ _ hf hc)
    · rename_i hw
      rw [if_neg hw] at h
      exact EX_sound hQ hX r _ _ _ (hf.put d undef) h
def liftD (ds : List Deferred) (n : Nat) (Q : Exit → Sl → World → Prop) : Exit → Act → World → Prop := fun e a w => ∃ σ, FrD ds n σ a ∧ Q e σ w
def RawD (ds : List Deferred) (P : Program) (n : Nat) (c : Code) (Q : Exit → Sl → World → Prop) (σ : Sl) (w : World) : Prop := ∀ a, FrD ds n σ a → c.wp P (liftD ds n Q) a w
/-- No panic: what is asked of a region that cannot panic. -/
def noP (Q : Exit → Sl → World → Prop) : Exit → Sl → World → Prop
  | .panic _, _, _ => False
  | e, σ, w => Q e σ w
theorem noP_pan {Q : Exit → Sl → World → Prop} (c : List PanicEntry) (σ : Sl) (w : World) : ¬ noP Q (.panic c) σ w := fun h => h
theorem noP_normal {Q : Exit → Sl → World → Prop} {σ : Sl} {w : World} : noP Q .normal σ w = Q .normal σ w := nr rfl
theorem noP_ret {Q : Exit → Sl → World → Prop} {σ : Sl} {w : World} : noP Q .ret σ w = Q .ret σ w := nr rfl
theorem noP_exit {Q : Exit → Sl → World → Prop} {id : Nat} {σ : Sl} {w : World} : noP Q (.exit id) σ w = Q (.exit id) σ w := nr rfl
theorem RawD_of {P : Program} {n : Nat} {c : Code} {Q : Exit → Sl → World → Prop} {σ : Sl} {w : World} (h : Raw P n c Q σ w) : RawD [] P n c Q σ w :=
  fun a hf => wp_mono (h a ⟨hf.size, hf.defers, hf.at_⟩) fun _ _ _ ⟨σ', hf', hq⟩ => ⟨σ', ⟨hf'.size, hf'.defers, hf'.at_⟩, hq⟩
/-- A region that cannot panic. -/
theorem RawD_np {P : Program} {n : Nat} {c : Code} {Q : Exit → Sl → World → Prop} {σ : Sl} {w : World} (h : Raw P n c (noP Q) σ w) : RawD [] P n c Q σ w := by
  refine RawD_of (Raw_mono (fun e σ w hq => ?_) h)
  cases e
  case panic c => exact hq.elim
  all_goals exact hq
theorem RawD_mono {ds : List Deferred} {P : Program} {n : Nat} {c : Code} {Q Q' : Exit → Sl → World → Prop} {σ : Sl} {w : World} (h : ∀ e σ w, Q e σ w → Q' e σ w) (hr : RawD ds P n c Q σ w) : RawD ds P n c Q' σ w :=
  fun a hf => wp_mono (hr a hf) fun _ _ _ ⟨σ', hf', hq⟩ => ⟨σ', hf', h _ _ _ hq⟩
def WX (ds : List Deferred) (P : Program) (n : Nat) : Code → (Exit → Sl → World → Prop) → Sl → World → Prop
  | .skip, Q, σ, w => Q .normal σ w
  | .region id ops draw, Q, σ, w => if draw then RawD ds P n (.region id ops true) Q σ w else EX P n ops (fun c => Q (.panic c)) ops.toList σ w (Q .normal)
  | .seq a b, Q, σ, w => WX ds P n a (thenX (WX ds P n b Q) Q) σ w
  | .cond c x y, Q, σ, w => condX (ev σ c) (WX ds P n x Q σ w) (WX ds P n y Q σ w)
  | .block id c, Q, σ, w => WX ds P n c (inX id Q) σ w
  | .exit id, Q, σ, w => Q (.exit id) σ w
  | .ret, Q, σ, w => Q .ret σ w
  | .goto l, Q, σ, w => Q (.goto l) σ w
  | .label _, Q, σ, w => Q .normal σ w
  | c, Q, σ, w => RawD ds P n c Q σ w
section
variable {ds : List Deferred} {P : Program} {n : Nat} {Q : Exit → Sl → World → Prop} {σ : Sl} {w : World}
theorem WX_skip : WX ds P n .skip Q σ w = Q .normal σ w := nr rfl
theorem WX_region {id : Nat} {l : List Oper} : WX ds P n (.region id l.toArray false) Q σ w = EX P n l.toArray (fun c => Q (.panic c)) l σ w (Q .normal) := by simp [WX]
theorem WX_draw {id : Nat} {ops : Array Oper} : WX ds P n (.region id ops true) Q σ w = RawD ds P n (.region id ops true) Q σ w := nr rfl
theorem WX_seq {a b : Code} : WX ds P n (.seq a b) Q σ w = WX ds P n a (thenX (WX ds P n b Q) Q) σ w := nr rfl
theorem WX_cond {c : Operand} {x y : Code} : WX ds P n (.cond c x y) Q σ w = condX (ev σ c) (WX ds P n x Q σ w) (WX ds P n y Q σ w) := nr rfl
theorem WX_block {id : Nat} {c : Code} : WX ds P n (.block id c) Q σ w = WX ds P n c (inX id Q) σ w := nr rfl
theorem WX_exit {id : Nat} : WX ds P n (.exit id) Q σ w = Q (.exit id) σ w := nr rfl
theorem WX_ret : WX ds P n .ret Q σ w = Q .ret σ w := nr rfl
theorem WX_goto {l : Nat} : WX ds P n (.goto l) Q σ w = Q (.goto l) σ w := nr rfl
theorem WX_label {l : Nat} : WX ds P n (.label l) Q σ w = Q .normal σ w := nr rfl
theorem WX_loop {c : Code} : WX ds P n (.loop c) Q σ w = RawD ds P n (.loop c) Q σ w := nr rfl
theorem thenX_pan {K : Sl → World → Prop} {c : List PanicEntry} : thenX K Q (.panic c) σ w = Q (.panic c) σ w := nr rfl
theorem inX_pan {id : Nat} {c : List PanicEntry} : inX id Q (.panic c) σ w = Q (.panic c) σ w := nr rfl
@[congr] theorem WX_congr {c : Code} {σ σ' : Sl} {w w' : World} (h : σ = σ') (h' : w = w') : WX ds P n c Q σ w = WX ds P n c Q σ' w' := by rw [h, h']
@[congr] theorem RawD_congr {c : Code} {σ σ' : Sl} {w w' : World} (h : σ = σ') (h' : w = w') : RawD ds P n c Q σ w = RawD ds P n c Q σ' w' := by rw [h, h']
theorem WX_if_t {c : Operand} {x y : Code} (hc : ev σ c = .bool true) (h1 : WX ds P n x Q σ w) : WX ds P n (.cond c x y) Q σ w := by
  rw [WX_cond, hc]; exact ⟨fun _ => h1, fun h => (by cases h)⟩
theorem WX_if_f {c : Operand} {x y : Code} (hc : ev σ c = .bool false) (h1 : WX ds P n y Q σ w) : WX ds P n (.cond c x y) Q σ w := by
  rw [WX_cond, hc]; exact ⟨fun h => (by cases h), fun _ => h1⟩
theorem WX_if {c : Operand} {x y : Code} {t : Bool} (hc : ev σ c = .bool t) (h1 : t = true → WX ds P n x Q σ w) (h2 : t = false → WX ds P n y Q σ w) : WX ds P n (.cond c x y) Q σ w := by
  rw [WX_cond, hc]; exact ⟨h1, h2⟩
end
theorem WX_sound {ds : List Deferred} {P : Program} {n : Nat} : ∀ (c : Code) (Q : Exit → Sl → World → Prop) (σ : Sl) (w : World), WX ds P n c Q σ w → RawD ds P n c Q σ w := by
  intro c
  induction c with
  | skip => intro Q σ w h a hf; exact wp_skip ⟨σ, hf, h⟩
  | region id ops draw =>
    intro Q σ w h a hf
    cases draw with
    | true => exact h a hf
    | false =>
      refine wp_region_list ?_
      exact EX_sound (K := Q .normal) (X := fun c => Q (.panic c)) (fun σ' a' w' hf' hk => ⟨σ', hf', hk⟩) (fun c σ' a' w' hf' hk => ⟨σ', hf', hk⟩) _ _ _ _ hf (by simpa [WX] using h)
  | seq x y ihx ihy =>
    intro Q σ w h a hf
    refine wp_seq (wp_mono (ihx _ _ _ h a hf) ?_)
    rintro e a' w' ⟨σ', hf', hq⟩
    cases e
    case normal => exact ihy _ _ _ hq a' hf'
    all_goals exact ⟨σ', hf', hq⟩
  | cond c x y ihx ihy =>
    intro Q σ w h a hf
    rw [WX_cond] at h
    have hc : a.eval c = ev σ c := by rw [hf.eval]
    generalize ev σ c = v at h hc
    cases v with
    | bool t =>
      refine wp_cond_split hc (fun ht => ihx _ _ _ (h.1 ht) a hf) (fun ht => ihy _ _ _ (h.2 ht) a hf)
    | _ => exact h.elim
  | block id c ih =>
    intro Q σ w h a hf
    refine wp_block (wp_mono (ih _ _ _ h a hf) ?_)
    rintro e a' w' ⟨σ', hf', hq⟩
    cases e
    case exit id' =>
      simp only [inX] at hq
      simp only [Exit.inBlock]
      split
      · rename_i he; rw [if_pos he] at hq; exact ⟨σ', hf', hq⟩
      · rename_i he; rw [if_neg he] at hq; exact ⟨σ', hf', hq⟩
    all_goals exact ⟨σ', hf', hq⟩
  | exit id => intro Q σ w h a hf; exact wp_exit ⟨σ, hf, h⟩
  | ret => intro Q σ w h a hf; exact wp_ret ⟨σ, hf, h⟩
  | goto l => intro Q σ w h a hf; exact wp_goto ⟨σ, hf, h⟩
  | label l => intro Q σ w h a hf; exact wp_label ⟨σ, hf, h⟩
  | _ => intro Q σ w h a hf; exact h a hf
/-- A loop. -/
theorem RawD_loop {ds : List Deferred} {P : Program} {n : Nat} {c : Code} {Q : Exit → Sl → World → Prop} {σ : Sl} {w : World} (I : Sl → World → Prop) (μ : Sl → World → Nat) (h0 : I σ w)
    (round : ∀ σ w, I σ w → ∀ K : Sl → World → Prop, (∀ σ' w', I σ' w' → μ σ' w' < μ σ w → K σ' w') → WX ds P n c (thenX K Q) σ w) : RawD ds P n (.loop c) Q σ w := by
  intro a hf
  have round : ∀ σ w, I σ w → WX ds P n c (thenX (fun σ' w' => I σ' w' ∧ μ σ' w' < μ σ w) Q) σ w := fun σ w hI => round σ w hI _ fun _ _ h1 h2 => ⟨h1, h2⟩
  refine wp_loop (fun a w => FrD ds n (fun i => a.tmps.getD i undef) a ∧ I (fun i => a.tmps.getD i undef) w) (fun a w => μ (fun i => a.tmps.getD i undef) w) ?_ ?_
  · have e : (fun i => a.tmps.getD i undef) = σ := funext hf.at_
    rw [e]; exact ⟨hf, h0⟩
  · rintro a w ⟨hf, hI⟩
    refine wp_mono (WX_sound _ _ _ _ (round _ w hI) a hf) ?_
    rintro e a' w' ⟨σ', hf', hq⟩
    cases e
    case normal =>
      have e : (fun i => a'.tmps.getD i undef) = σ' := funext hf'.at_
      simp only [Exit.then]
      rw [e]; exact ⟨⟨hf', hq.1⟩, hq.2⟩
    all_goals exact ⟨σ', hf', hq⟩
/-- The end of a function that may panic. -/
def postX (P : Program) (fn : Func) (R : Ending → World → Prop) : Exit → Sl → World → Prop
  | .normal, σ, w | .ret, σ, w => resE P fn.results σ w fun v => R (.returned v) w
  | .panic c, _, w => R (.panicked c) w
  | _, _, _ => False
theorem postX_normal {P : Program} {fn : Func} {R : Ending → World → Prop} {σ : Sl} {w : World} : postX P fn R .normal σ w = resE P fn.results σ w fun v => R (.returned v) w := nr rfl
theorem postX_ret {P : Program} {fn : Func} {R : Ending → World → Prop} {σ : Sl} {w : World} : postX P fn R .ret σ w = resE P fn.results σ w fun v => R (.returned v) w := nr rfl
theorem postX_pan {P : Program} {fn : Func} {R : Ending → World → Prop} {c : List PanicEntry} {σ : Sl} {w : World} : postX P fn R (.panic c) σ w = R (.panicked c) w := nr rfl
theorem calls_WX {P : Program} {f : FuncId} {fn : Func} {c : Code} {l : List Value} {w : World} {R : Ending → World → Prop} (hf : P.funcs[f]? = some fn) (hb : fn.body = some c) (n : Nat) (hn : fn.ntmps = n) (hl : l.length ≤ n)
    (h : WX [] P n c (postX P fn R) (init l 0 bot) w) : Calls P f l.toArray w R := by
  refine calls_of_wp hf hb ?_
  have hfr : FrD [] n (init l 0 bot) { tmps := l.toArray ++ Array.replicate (fn.ntmps - l.toArray.size) undef, defers := [] } := by
    refine ⟨by simp [hn]; omega, rfl, fun i => ?_⟩
    rw [getD_append_undef, init_at]
    by_cases hi : i < l.length
    · rw [if_pos ⟨Nat.zero_le _, by simpa using hi⟩]; rfl
    · rw [if_neg (by omega)]
      simp [bot, List.getD_eq_getElem?_getD, List.getElem?_eq_none (Nat.le_of_not_lt hi)]
  refine wp_mono (WX_sound _ _ _ _ h _ hfr) ?_
  rintro e a w' ⟨σ, hf', hq⟩
  have ht : (fun i => a.tmps.getD i undef) = σ := funext hf'.at_
  cases e <;> simp only [postX] at hq
  case normal => obtain ⟨v, hv, hR⟩ := resE_is hq ht; exact ⟨hf'.defers, v, hv, hR⟩
  case ret => obtain ⟨v, hv, hR⟩ := resE_is hq ht; exact ⟨hf'.defers, v, hv, hR⟩
  case panic c => exact ⟨hf'.defers, hq⟩
/-! Cutting a proof at a place where several ways meet. -/
theorem OkvX_mono {P : Program} {R R' : Value → World → Prop} {Y Y' : List PanicEntry → World → Prop} {r : Result Next} (h : ∀ v w, R v w → R' v w) (hy : ∀ c w, Y c w → Y' c w) (hr : OkvX P R Y r) : OkvX P R' Y' r := by
  cases r with
  | halt x w' => cases x <;> simp only [OkvX] at hr ⊢; exact hy _ _ hr
  | ok nx w' =>
    cases nx
    case value v => exact h _ _ hr
    case skip => exact h _ _ hr
    case enter f args =>
      refine Calls.mono hr fun e w'' he => ?_
      cases e with
      | returned v => exact h _ _ he
      | panicked c => exact hy _ _ he
      | outgrown => exact he.elim
    all_goals exact hr
theorem EX_mono {P : Program} {n : Nat} {ops : Array Oper} {X X' : List PanicEntry → Sl → World → Prop} {K K' : Sl → World → Prop} (h : ∀ σ w, K σ w → K' σ w) (hx : ∀ c σ w, X c σ w → X' c σ w) : ∀ (l : List Oper) (σ : Sl) (w : World), EX P n ops X l σ w K → EX P n ops X' l σ w K'
  | [], σ, w, hE => h _ _ hE
  | ⟨d, op, ty, p, af, none⟩ :: r, σ, w, hE => OkvX_mono (fun _ _ hv => EX_mono h hx r _ _ hv) (fun _ _ hc => hx _ _ _ hc) hE
  | ⟨d, op, ty, p, af, some (j, b)⟩ :: r, σ, w, hE => by
    rw [EX_opg, GBX] at *
    split
    · rename_i hg; rw [if_pos hg] at hE; exact OkvX_mono (fun _ _ hv => EX_mono h hx r _ _ hv) (fun _ _ hc => hx _ _ _ hc) hE
    · rename_i hg; rw [if_neg hg] at hE; exact EX_mono h hx r _ _ hE
theorem WX_mono {ds : List Deferred} {P : Program} {n : Nat} : ∀ (c : Code) {Q Q' : Exit → Sl → World → Prop} {σ : Sl} {w : World}, (∀ e σ w, Q e σ w → Q' e σ w) → WX ds P n c Q σ w → WX ds P n c Q' σ w := by
  intro c
  induction c with
  | skip => intro Q Q' σ w h hw; exact h _ _ _ hw
  | region id ops draw =>
    intro Q Q' σ w h hw
    cases draw with
    | true => exact RawD_mono h hw
    | false => exact EX_mono (fun σ w hk => h _ _ _ hk) (fun c σ w hk => h _ _ _ hk) _ _ _ hw
  | seq x y ihx ihy =>
    intro Q Q' σ w h hw
    refine ihx (fun e σ' w' hq => ?_) hw
    cases e
    case normal => exact ihy h hq
    all_goals exact h _ _ _ hq
  | cond c x y ihx ihy =>
    intro Q Q' σ w h hw
    rw [WX_cond] at *
    generalize ev σ c = v at *
    cases v with
    | bool t => exact ⟨fun ht => ihx h (hw.1 ht), fun ht => ihy h (hw.2 ht)⟩
    | _ => exact hw.elim
  | block id c ih =>
    intro Q Q' σ w h hw
    refine ih (fun e σ' w' hq => ?_) hw
    cases e
    case exit id' =>
      simp only [inX] at *
      split
      · rename_i he; rw [if_pos he] at hq; exact h _ _ _ hq
      · rename_i he; rw [if_neg he] at hq; exact h _ _ _ hq
    all_goals exact h _ _ _ hq
  | exit id => intro Q Q' σ w h hw; exact h _ _ _ hw
  | ret => intro Q Q' σ w h hw; exact h _ _ _ hw
  | goto l => intro Q Q' σ w h hw; exact h _ _ _ hw
  | label l => intro Q Q' σ w h hw; exact h _ _ _ hw
  | _ => intro Q Q' σ w h hw; exact RawD_mono h hw
theorem WX_cut {ds : List Deferred} {P : Program} {n : Nat} {x y : Code} {Q : Exit → Sl → World → Prop} {σ : Sl} {w : World} (J : Sl → World → Prop) (h2 : ∀ σ w, J σ w → WX ds P n y Q σ w) (h1 : WX ds P n x (thenX J Q) σ w) : WX ds P n (x.seq y) Q σ w := by
  rw [WX_seq]
  refine WX_mono x (fun e σ' w' hq => ?_) h1
  cases e
  case normal => exact h2 _ _ hq
  all_goals exact hq
/-- One piece of code, what follows kept closed. -/
theorem WX_piece {ds : List Deferred} {P : Program} {n : Nat} {x y : Code} {Q : Exit → Sl → World → Prop} {σ : Sl} {w : World} (h : ∀ K : Exit → Sl → World → Prop, (∀ σ w, WX ds P n y Q σ w → K .normal σ w) → (∀ e σ w, e ≠ .normal → Q e σ w → K e σ w) → WX ds P n x K σ w) : WX ds P n (x.seq y) Q σ w := by
  rw [WX_seq]
  exact h _ (fun σ w h => h) (fun e σ w hne hq => by
    cases e
    case normal => exact absurd rfl hne
    all_goals exact hq)
/-- Ways that meet at the end and at one exit. -/
def joinX (id : Nat) (J : Sl → World → Prop) (X : List PanicEntry → World → Prop) : Exit → Sl → World → Prop
  | .normal, σ, w => J σ w
  | .exit i, σ, w => i = id ∧ J σ w
  | .panic c, _, w => X c w
  | _, _, _ => False
theorem joinX_normal {id : Nat} {J : Sl → World → Prop} {X : List PanicEntry → World → Prop} {σ : Sl} {w : World} : joinX id J X .normal σ w = J σ w := nr rfl
theorem joinX_exit {id : Nat} {J : Sl → World → Prop} {X : List PanicEntry → World → Prop} {σ : Sl} {w : World} : joinX id J X (.exit id) σ w = J σ w := nr (by show (id = id ∧ J σ w) = J σ w; simp)
theorem joinX_pan {id : Nat} {J : Sl → World → Prop} {X : List PanicEntry → World → Prop} {c : List PanicEntry} {σ : Sl} {w : World} : joinX id J X (.panic c) σ w = X c w := nr rfl
theorem WX_join {ds : List Deferred} {P : Program} {n : Nat} {c : Code} {Q : Exit → Sl → World → Prop} {σ : Sl} {w : World} (id : Nat) (J : Sl → World → Prop) (X : List PanicEntry → World → Prop) (hn : ∀ σ w, J σ w → Q .normal σ w) (he : ∀ σ w, J σ w → Q (.exit id) σ w)
    (hx : ∀ c σ w, X c w → Q (.panic c) σ w) (h1 : WX ds P n c (joinX id J X) σ w) : WX ds P n c Q σ w :=
  WX_mono c (fun e σ' w' hq => by
    cases e
    case normal => exact hn _ _ hq
    case exit i => obtain ⟨rfl, hq⟩ := hq; exact he _ _ hq
    case panic c => exact hx _ _ _ hq
    all_goals exact hq.elim) h1
theorem WX_joinX {ds : List Deferred} {P : Program} {n : Nat} {c : Code} {Q : Exit → Sl → World → Prop} {σ : Sl} {w : World} {id : Nat} (J : Sl → World → Prop) (X : List PanicEntry → World → Prop) (hn : ∀ σ w, J σ w → Q .normal σ w)
    (hx : ∀ c σ w, X c w → Q (.panic c) σ w) (h1 : WX ds P n c (joinX id J X) σ w) : WX ds P n c (inX id Q) σ w :=
  WX_join id J X (fun σ w h => hn σ w h) (fun σ w h => by rw [inX_exit_same]; exact hn σ w h) (fun c σ w h => hx c σ w h) h1
/-- One piece of code, what follows kept closed. -/
theorem W_piece {P : Program} {n : Nat} {x y : Code} {Q : Exit → Sl → World → Prop} {σ : Sl} {w : World} (h : ∀ K : Exit → Sl → World → Prop, (∀ σ w, W P n y Q σ w → K .normal σ w) → (∀ e σ w, e ≠ .normal → Q e σ w → K e σ w) → W P n x K σ w) : W P n (x.seq y) Q σ w := by
  rw [W_seq]
  exact h _ (fun σ w h => h) (fun e σ w hne hq => by
    cases e
    case normal => exact absurd rfl hne
    all_goals exact hq)
theorem W_pieceP {P : Program} {n : Nat} {x y : Code} {Q : Exit → Sl → World → Prop} {σ : Sl} {w : World} (hp : ∀ c σ w, ¬ Q (.panic c) σ w) (h : ∀ K : Exit → Sl → World → Prop, (∀ σ w, W P n y Q σ w → K .normal σ w) → (∀ e σ w, e ≠ .normal → Q e σ w → K e σ w) → (∀ c σ w, ¬ K (.panic c) σ w) → W P n x K σ w) : W P n (x.seq y) Q σ w := by
  rw [W_seq]
  exact h _ (fun σ w h => h) (fun e σ w hne hq => by
    cases e
    case normal => exact absurd rfl hne
    all_goals exact hq) (fun c σ w h => hp c σ w h)
theorem W_cutS {P : Program} {n : Nat} {x y : Code} {Q : Exit → Sl → World → Prop} {σ : Sl} {w : World} (J : Sl → World → Prop) (h2 : ∀ σ w, J σ w → W P n y Q σ w) (h1 : W P n x (thenX J Q) σ w) : W P n (x.seq y) Q σ w := by
  rw [W_seq]
  refine W_mono x (fun e σ' w' hq => ?_) h1
  cases e
  case normal => exact h2 _ _ hq
  all_goals exact hq
/-! A value in an interface; panic. -/
section
variable {P : Program} {T : TypeId} {w : World}
def vMakeI (P : Program) (T : TypeId) (u : Value) (w : World) : Result Next := (do pure (.value (← Instr.makeInterface T u)) : Sem Next).run P w
def vPanic (P : Program) (u : Value) (w : World) : Result Next := (do pure (.value (← Instr.panic u)) : Sem Next).run P w
theorem r_makeI (ty : TypeId) (σ : Sl) (x : Operand) : run1 P (.makeInterface T x) ty σ w = vMakeI P T (ev σ x) w := nr rfl
theorem r_panic (ty : TypeId) (σ : Sl) (x : Operand) : run1 P (.panic x) ty σ w = vPanic P (ev σ x) w := nr rfl
def cncB (P : Program) (T : TypeId) : Bool := match P.underlying T with
  | some (.struct _) => true
  | _ => false
def jMakeI (P : Program) (T : TypeId) (u : Value) (w : World) : Result Next := vMakeI P T u w
theorem vMakeI_at {u : Value} : vMakeI P T u w = ifB (cncB P T) (.ok (.value (.iface T u)) w) (jMakeI P T u w) := by
  refine ifB_of (fun h => ?_) rfl
  unfold cncB at h
  cases hd : P.underlying T with
  | none => rw [hd] at h; cases h
  | some d =>
    rw [hd] at h
    cases d with
    | struct fs => simp [vMakeI, Instr.makeInterface, Sem.run_bind, run_underlying hd w]
    | _ => cases h
theorem vPanic_iface {u : Value} : vPanic P (.iface T u) w = .halt (.panic (.iface T u)) w := by simp [vPanic, Instr.panic, goPanic, Sem.run_bind, Sem.run]
end
/-- The rules of this text. -/
theorem PZ : (type_of% @EX_nil) ∧ (type_of% @EX_op) ∧ (type_of% @EX_opg) ∧ (type_of% @OkvX_value) ∧ (type_of% @OkvX_skip) ∧ (type_of% @OkvX_enter) ∧ (type_of% @OkvX_panic) ∧ (type_of% @GBX_true) ∧ (type_of% @GBX_false) ∧ (type_of% @GBX_value) ∧ (type_of% @WX_skip) ∧ (type_of% @WX_region) ∧ (type_of% @WX_draw) ∧ (type_of% @WX_seq) ∧ (type_of% @WX_block) ∧ (type_of% @WX_exit) ∧ (type_of% @WX_ret) ∧ (type_of% @WX_goto) ∧ (type_of% @WX_label) ∧ (type_of% @WX_loop) ∧ (type_of% @thenX_pan) ∧ (type_of% @inX_pan) ∧ (type_of% @postX_normal) ∧ (type_of% @postX_ret) ∧ (type_of% @postX_pan) ∧ (type_of% @noP_normal) ∧ (type_of% @noP_ret) ∧ (type_of% @noP_exit) ∧ (type_of% @Ends_ret) ∧ (type_of% @Ends_pan) ∧ (type_of% @joinX_normal) ∧ (type_of% @joinX_exit) ∧ (type_of% @joinX_pan) ∧ (type_of% @r_makeI) ∧ (type_of% @r_panic) ∧ (type_of% @vMakeI_at) ∧ (type_of% @vPanic_iface) ∧ (type_of% @trivial) := ⟨@EX_nil, @EX_op, @EX_opg, @OkvX_value, @OkvX_skip, @OkvX_enter, @OkvX_panic, @GBX_true, @GBX_false, @GBX_value, @WX_skip, @WX_region, @WX_draw, @WX_seq, @WX_block, @WX_exit, @WX_ret, @WX_goto, @WX_label, @WX_loop, @thenX_pan, @inX_pan, @postX_normal, @postX_ret, @postX_pan, @noP_normal, @noP_ret, @noP_exit, @Ends_ret, @Ends_pan, @joinX_normal, @joinX_exit, @joinX_pan, @r_makeI, @r_panic, @vMakeI_at, @vPanic_iface, @trivial⟩
end Go.Proofs.YtbdkggnajipdhaaGreatDoor
/- Plain: chapter 11, what is printed, as a text of items. No program in sight. -/
namespace Go.Proofs.YtbdkggnajipdhaaGreatDoor
def Pr.Ok (p : Pr) : Prop := p.bad = false → p.X.length ≤ 32768
/-- From p to q the text l is written, if c holds and there is room. -/
def Pr.Step (p q : Pr) (c : Bool) (l : List Nat) : Prop := p.Ok → q.Ok ∧ (q.bad = false ↔ (p.bad = false ∧ c = true ∧ (p.X ++ l).length ≤ 32768)) ∧ (q.bad = false → q.X = p.X ++ l)
theorem Pr.Step.trans {p q r : Pr} {c c' : Bool} {l l' : List Nat} (h1 : Pr.Step p q c l) (h2 : Pr.Step q r c' l') : Pr.Step p r (c && c') (l ++ l') := by
  intro hp
  obtain ⟨a1, a2, a3⟩ := h1 hp
  obtain ⟨b1, b2, b3⟩ := h2 a1
  refine ⟨b1, ?_, ?_⟩
  · rw [b2]
    constructor
    · rintro ⟨x1, x2, x3⟩
      obtain ⟨y1, y2, y3⟩ := a2.1 x1
      rw [a3 x1, List.append_assoc] at x3
      exact ⟨y1, by rw [y2, x2]; rfl, x3⟩
    · rintro ⟨x1, x2, x3⟩
      rw [Bool.and_eq_true] at x2
      have hl : (p.X ++ l).length ≤ 32768 := by simp only [List.length_append] at x3 ⊢; omega
      have hq := a2.2 ⟨x1, x2.1, hl⟩
      exact ⟨hq, x2.2, by rw [a3 hq, List.append_assoc]; exact x3⟩
  · intro hr
    rw [b3 hr, a3 (b2.1 hr).1, List.append_assoc]
theorem Pr.Step.id (p : Pr) : Pr.Step p p true [] := fun hp => ⟨hp, ⟨fun h => ⟨h, rfl, by rw [List.append_nil]; exact hp h⟩, fun h => h.1⟩, fun _ => (List.append_nil _).symm⟩
theorem Pr.Step.cast {p q : Pr} {c c' : Bool} {l l' : List Nat} (h : Pr.Step p q c l) (hc : c = c') (hl : l = l') : Pr.Step p q c' l' := by subst hc; subst hl; exact h
theorem Pr.Step.bad {p q : Pr} (l : List Nat) (h : q.bad = true) : Pr.Step p q false l :=
  fun _ => ⟨fun e => (by rw [h] at e; cases e), ⟨fun e => (by rw [h] at e; cases e), fun e => (by cases e.2.1)⟩, fun e => (by rw [h] at e; cases e)⟩
/-- Where p is bad already. -/
theorem Pr.Step.dead {p q : Pr} (c : Bool) (l : List Nat) (hp : p.bad = true) (h : q.bad = true) : Pr.Step p q c l :=
  fun _ => ⟨fun e => (by rw [h] at e; cases e), ⟨fun e => (by rw [h] at e; cases e), fun e => (by rw [hp] at e; cases e.1)⟩, fun e => (by rw [h] at e; cases e)⟩
theorem Pr.Step.req (p : Pr) (c : Bool) : Pr.Step p (p.req c) c [] := by
  intro hp
  unfold Pr.req
  refine ⟨fun e => ?_, ?_, fun e => (List.append_nil _).symm⟩
  · simp only [Bool.or_eq_false_iff] at e; exact hp e.1
  · simp only [Bool.or_eq_false_iff, Bool.not_eq_false']
    exact ⟨fun h => ⟨h.1, h.2, by rw [List.append_nil]; exact hp h.1⟩, fun h => ⟨h.1, h.2.1⟩⟩
theorem Pr.Step.lim (p : Pr) (l : List Nat) : Pr.Step p (p.add l).lim true l := by
  intro hp
  unfold Pr.lim Pr.req Pr.add
  refine ⟨fun e => ?_, ?_, fun _ => rfl⟩
  · simp only [Bool.or_eq_false_iff, Bool.not_eq_false', decide_eq_true_eq] at e; exact e.2
  · simp only [Bool.or_eq_false_iff, Bool.not_eq_false', decide_eq_true_eq, true_and]
theorem Pr.add_add (p : Pr) (s t : List Nat) : (p.add s).add t = p.add (s ++ t) := by unfold Pr.add; rw [List.append_assoc]
theorem Pr.add_nil (p : Pr) : p.add [] = p := by unfold Pr.add; rw [List.append_nil]
theorem Pr.Step.wsA (p : Pr) (s : List Nat) (w : List (List Nat)) : Pr.Step p ((p.add s).ws w) true (s ++ w.flatMap (32 :: ·)) := by
  unfold Pr.ws; rw [Pr.add_add]; exact Pr.Step.lim p _
theorem Pr.Step.ws (p : Pr) (w : List (List Nat)) : Pr.Step p (p.ws w) true (w.flatMap (32 :: ·)) := Pr.Step.lim p _
theorem Pr.Step.beginA (p : Pr) (s w : List Nat) : Pr.Step p ((p.add s).begin w) true (s ++ (32 :: 32 :: w)) := by
  unfold Pr.begin; rw [Pr.add_add]
  exact (Pr.Step.wsA p (s ++ [32]) [w]).cast rfl (by simp)
theorem Pr.Step.begin (p : Pr) (w : List Nat) : Pr.Step p (p.begin w) true (32 :: 32 :: w) := by
  have h := Pr.Step.beginA p [] w
  rw [Pr.add_nil] at h; exact h
theorem Pr.Step.fin (p : Pr) : Pr.Step p p.fin true (asc ";\n") := Pr.Step.lim p _
def numW (L : List Int) : List Nat := L.flatMap fun n => 32 :: fmtI n
theorem Pr.Step.nums : ∀ (L : List Int) (p : Pr), Pr.Step p (p.nums L) (L.all fitB) (numW L)
  | [], p => Pr.Step.id p
  | n :: r, p => by
    unfold Pr.nums
    split
    · rename_i h
      have h' := h
      unfold Pr.req at h'
      simp only [Bool.or_eq_true, Bool.not_eq_true'] at h'
      rcases h' with h' | h'
      · exact Pr.Step.dead _ _ h' h
      · exact (Pr.Step.bad _ h).cast (by rw [List.all_cons, h']; rfl) rfl
    · refine (((Pr.Step.req p (fitB n)).trans (Pr.Step.ws _ [fmtI n])).trans (Pr.Step.nums r _)).cast (by rw [List.all_cons, Bool.and_true]) ?_
      simp [numW]
theorem Pr.Step.nm (p : Pr) (s : ByteArray) : Pr.Step p (p.nm s) (wordL (bs s)) (32 :: bs s) := by
  unfold Pr.nm
  split
  · rename_i h
    have h' := h
    unfold Pr.req at h'
    simp only [Bool.or_eq_true, Bool.not_eq_true'] at h'
    rcases h' with h' | h'
    · exact Pr.Step.dead _ _ h' h
    · exact (Pr.Step.bad _ h).cast h'.symm rfl
  · exact ((Pr.Step.req p _).trans (Pr.Step.ws _ [bs s])).cast (by rw [Bool.and_true]) (by simp)
/-! Items. -/
inductive It where
  | two (w : List Nat) (a b : Int)
  | num (w : List Nat) (n : Int)
  | days (d : Nat) (t : Int)
  | addon (a : Ad)
  | tier (t : Ti)
def kindW (k : Int) : List Nat := if k = 1 then asc "fixed" else if k = 2 then asc "share" else asc "jackpot"
def hitW (w : List Nat) (n : Int) : List (List Nat) := if n = 0 then [] else [w, fmtI n]
def modeW (t : Ti) : List (List Nat) :=
  if t.mode = 0 then hitW (asc "main") t.main ++ hitW (asc "bonus") t.bonus ++ hitW (asc "extra") t.extra
  else if t.mode = 1 then [asc "exact"] else if t.mode = 2 then [asc "box"] else if t.mode = 3 then [asc "front", fmtI t.main] else [asc "back", fmtI t.main]
/-- The words of an item. -/
def It.words : It → List (List Nat)
  | .two w a b => [w, fmtI a, asc "of", fmtI b]
  | .num w n => [w, fmtI n]
  | .days d t => [asc "days"] ++ dayL d ++ [asc "at", fmtI (t / 60), asc ":", fmtI (t % 60)]
  | .addon a => if a.kind = 1 then [asc "addon", bs a.name, asc "factor", fmtI a.price] ++ a.factors.map fmtI else [asc "addon", bs a.name, asc "serial", fmtI a.price, fmtI a.digits] ++ a.serials.map fmtI
  | .tier t => [asc "tier"] ++ modeW t ++ [kindW t.kind, fmtI t.value]
def hitB (n : Int) : Bool := decide (n = 0) || fitB n
def Ad.fine (a : Ad) : Bool := wordL (bs a.name) && (if a.kind = 1 then (decide (a.digits = 0) && decide (a.serials.length = 0)) && fitB a.price && a.factors.all fitB else if a.kind = 2 then decide (a.factors.length = 0) && (fitB a.price && (fitB a.digits && true)) && a.serials.all fitB else false)
def Ti.fineM (t : Ti) : Bool :=
  if t.mode = 0 then hitB t.main && hitB t.bonus && hitB t.extra
  else if t.mode = 1 ∨ t.mode = 2 then decide (t.main = 0) && decide (t.bonus = 0) && decide (t.extra = 0)
  else if t.mode = 3 ∨ t.mode = 4 then (decide (t.bonus = 0) && decide (t.extra = 0)) && fitB t.main else false
def Ti.fine (t : Ti) : Bool := t.fineM && (decide (t.kind = 1) || decide (t.kind = 2) || decide (t.kind = 3)) && fitB t.value
def It.fine : It → Bool
  | .two _ a b => fitB a && fitB b
  | .num _ n => fitB n
  | .days d t => decide (d ≤ 127) && decide (0 ≤ t) && decide (t ≤ 1439)
  | .addon a => a.fine
  | .tier t => t.fine
def lineG (i : It) : List Nat := 32 :: (i.words.flatMap (32 :: ·) ++ asc ";\n")
theorem Pr.Step.two (p : Pr) (s w : List Nat) (a b : Int) : Pr.Step p ((p.add s).two w a b) (It.two w a b).fine (s ++ lineG (.two w a b)) := by
  unfold Pr.two
  refine (((((Pr.Step.beginA p s w).trans (Pr.Step.nums [a] _)).trans (Pr.Step.ws _ [asc "of"])).trans (Pr.Step.nums [b] _)).trans (Pr.Step.fin _)).cast ?_ ?_
  · simp [It.fine]
  · simp [lineG, It.words, numW]
theorem Pr.Step.opt (p : Pr) (w : List Nat) (n std : Int) : Pr.Step p (p.opt w n std) (decide (n = std) || fitB n) (if n = std then [] else lineG (.num w n)) := by
  unfold Pr.opt
  by_cases h : n = std
  · rw [if_pos h, if_pos h]; exact (Pr.Step.id p).cast (by simp [h]) rfl
  · rw [if_neg h, if_neg h]
    refine (((Pr.Step.begin p w).trans (Pr.Step.nums [n] _)).trans (Pr.Step.fin _)).cast ?_ ?_
    · simp [h]
    · simp [lineG, It.words, numW]
theorem Pr.Step.dayw : ∀ (l : List (List Nat)) (p : Pr), Pr.Step p (l.foldl (fun p w => p.ws [w]) p) true (l.flatMap (32 :: ·))
  | [], p => Pr.Step.id p
  | w :: r, p => by
    rw [List.foldl_cons]
    exact ((Pr.Step.ws p [w]).trans (Pr.Step.dayw r _)).cast rfl (by simp)
def daysC (n : Nat → Int) : Bool := (decide (0 ≤ n 9) && decide (n 9 ≤ 127) && decide (0 ≤ n 10) && decide (n 10 ≤ 1439)) && (!decide (n 9 = 0) || decide (n 10 = 0))
theorem Pr.Step.days (p : Pr) (n : Nat → Int) : Pr.Step p (p.days n) (daysC n) (if n 9 = 0 then [] else lineG (.days (n 9).toNat (n 10))) := by
  unfold Pr.days daysC
  by_cases h : n 9 = 0
  · dsimp only
    rw [if_pos h, if_pos h]
    exact ((Pr.Step.req p _).trans (Pr.Step.req _ _)).cast (by simp [h]) rfl
  · dsimp only
    rw [if_neg h, if_neg h]
    split
    · rename_i hb
      have hb' := hb
      unfold Pr.req at hb'
      simp only [Bool.or_eq_true, Bool.not_eq_true'] at hb'
      rcases hb' with hb' | hb'
      · exact Pr.Step.dead _ _ hb' hb
      · exact (Pr.Step.bad _ hb).cast (by rw [hb']; rfl) rfl
    · rename_i hb
      unfold Pr.req at hb
      simp only [Bool.not_eq_true, Bool.or_eq_false_iff, Bool.not_eq_false'] at hb
      have hb2 := hb.2
      simp only [Bool.and_eq_true, decide_eq_true_eq] at hb2
      refine (((((((((Pr.Step.req p _).trans (Pr.Step.begin _ _)).trans (Pr.Step.dayw (dayL (n 9).toNat) _)).trans (Pr.Step.ws _ [asc "at"])).trans (Pr.Step.nums [n 10 / 60] _)).trans (Pr.Step.ws _ [asc ":"])).trans (Pr.Step.nums [n 10 % 60] _)).trans (Pr.Step.fin _))).cast ?_ ?_
      · have f1 : fitB (n 10 / 60) = true := by unfold fitB; simp only [Bool.and_eq_true, decide_eq_true_eq]; omega
        have f2 : fitB (n 10 % 60) = true := by unfold fitB; simp only [Bool.and_eq_true, decide_eq_true_eq]; omega
        simp [f1, f2, h]
      · simp [lineG, It.words, numW]
theorem Pr.Step.addon (p : Pr) (a : Ad) : Pr.Step p (p.addon a) a.fine (lineG (.addon a)) := by
  unfold Pr.addon Ad.fine
  dsimp only
  have h0 := (Pr.Step.begin p (asc "addon")).trans (Pr.Step.nm _ a.name)
  by_cases h1 : a.kind = 1
  · rw [if_pos h1, if_pos h1]
    refine (((((h0.trans (Pr.Step.req _ _)).trans (Pr.Step.ws _ _)).trans (Pr.Step.nums [a.price] _)).trans (Pr.Step.nums a.factors _)).trans (Pr.Step.fin _)).cast ?_ ?_
    · simp [Bool.and_assoc]
    · simp [lineG, It.words, numW, h1, List.flatMap_map]
  · rw [if_neg h1, if_neg h1]
    by_cases h2 : a.kind = 2
    · rw [if_pos h2, if_pos h2]
      refine (((((h0.trans (Pr.Step.req _ _)).trans (Pr.Step.ws _ _)).trans (Pr.Step.nums [a.price, a.digits] _)).trans (Pr.Step.nums a.serials _)).trans (Pr.Step.fin _)).cast ?_ ?_
      · simp [Bool.and_assoc]
      · simp [lineG, It.words, numW, h1, List.flatMap_map]
    · rw [if_neg h2, if_neg h2]
      refine (Pr.Step.bad _ ?_).cast (by simp) rfl
      unfold Pr.fin Pr.lim Pr.req Pr.add; rfl
theorem Pr.Step.hits (p : Pr) (w : List Nat) (n : Int) : Pr.Step p (p.hits w n) (hitB n) ((hitW w n).flatMap (32 :: ·)) := by
  unfold Pr.hits hitB hitW
  by_cases h : n = 0
  · rw [if_pos h, if_pos h]; exact (Pr.Step.id p).cast (by simp [h]) rfl
  · rw [if_neg h, if_neg h]
    exact ((Pr.Step.ws p [w]).trans (Pr.Step.nums [n] _)).cast (by simp [h]) (by simp [numW])
theorem Pr.Step.mode (p : Pr) (t : Ti) : Pr.Step p (p.mode t) t.fineM ((modeW t).flatMap (32 :: ·)) := by
  unfold Pr.mode Ti.fineM modeW
  by_cases h0 : t.mode = 0
  · rw [if_pos h0, if_pos h0, if_pos h0]
    exact (((Pr.Step.hits p _ _).trans (Pr.Step.hits _ _ _)).trans (Pr.Step.hits _ _ _)).cast rfl (by simp)
  rw [if_neg h0, if_neg h0, if_neg h0]
  by_cases h1 : t.mode = 1 ∨ t.mode = 2
  · rw [if_pos h1, if_pos h1]
    refine ((Pr.Step.req p _).trans (Pr.Step.ws _ _)).cast (by rw [Bool.and_true]) ?_
    by_cases e : t.mode = 1
    · rw [if_pos e, if_pos e]; rfl
    · rw [if_neg e, if_neg e, if_pos (h1.resolve_left e)]; rfl
  rw [if_neg h1, if_neg h1, if_neg (fun e => h1 (.inl e)), if_neg (fun e => h1 (.inr e))]
  by_cases h3 : t.mode = 3 ∨ t.mode = 4
  · rw [if_pos h3, if_pos h3]
    refine (((Pr.Step.req p _).trans (Pr.Step.ws _ _)).trans (Pr.Step.nums [t.main] _)).cast (by simp) ?_
    by_cases e : t.mode = 3
    · rw [if_pos e, if_pos e]; simp [numW]
    · rw [if_neg e, if_neg e]; simp [numW]
  · rw [if_neg h3, if_neg h3]
    exact Pr.Step.bad _ rfl
theorem Pr.Step.tier (p : Pr) (t : Ti) : Pr.Step p (p.tier t) t.fine (lineG (.tier t)) := by
  unfold Pr.tier Ti.fine
  dsimp only
  have h0 := (Pr.Step.begin p (asc "tier")).trans (Pr.Step.mode _ t)
  have hk : Pr.Step ((p.begin (asc "tier")).mode t) (if t.kind = 1 then ((p.begin (asc "tier")).mode t).ws [asc "fixed"] else if t.kind = 2 then ((p.begin (asc "tier")).mode t).ws [asc "share"] else if t.kind = 3 then ((p.begin (asc "tier")).mode t).ws [asc "jackpot"] else ⟨((p.begin (asc "tier")).mode t).X, true⟩)
      (decide (t.kind = 1) || decide (t.kind = 2) || decide (t.kind = 3)) (32 :: kindW t.kind) := by
    unfold kindW
    by_cases h1 : t.kind = 1
    · rw [if_pos h1, if_pos h1]; exact (Pr.Step.ws _ _).cast (by simp [h1]) (by simp)
    rw [if_neg h1, if_neg h1]
    by_cases h2 : t.kind = 2
    · rw [if_pos h2, if_pos h2]; exact (Pr.Step.ws _ _).cast (by simp [h2]) (by simp)
    rw [if_neg h2, if_neg h2]
    by_cases h3 : t.kind = 3
    · rw [if_pos h3]; exact (Pr.Step.ws _ _).cast (by simp [h3]) (by simp)
    · rw [if_neg h3]; exact (Pr.Step.bad _ rfl).cast (by simp [h1, h2, h3]) rfl
  refine (((h0.trans hk).trans (Pr.Step.nums [t.value] _)).trans (Pr.Step.fin _)).cast ?_ ?_
  · simp [Bool.and_assoc]
  · simp [lineG, It.words, numW]
theorem Pr.Step.all {α : Type} {f : Pr → α → Pr} {c : α → Bool} {l : α → List Nat} (h : ∀ p a, Pr.Step p (f p a) (c a) (l a)) : ∀ (L : List α) (p : Pr), Pr.Step p (Pr.all f p L) (L.all c) (L.flatMap l)
  | [], p => Pr.Step.id p
  | a :: r, p => by
    unfold Pr.all
    split
    · rename_i hb; exact Pr.Step.dead _ _ hb hb
    · exact (h p a).trans (Pr.Step.all h r _)
/-! The whole. -/
def optI (w : List Nat) (n std : Int) : List It := if n = std then [] else [.num w n]
def headI (n : Nat → Int) : List It := [.two (if n 0 = 1 then asc "choose" else asc "digits") (n 2) (n 3)] ++ (if n 4 ≠ 0 ∨ n 5 ≠ 0 then [.two (asc "bonus") (n 4) (n 5)] else []) ++
  (optI (asc "extra") (n 6) 0 ++ optI (asc "price") (n 1) 0 ++ optI (asc "draws") (n 7) 1 ++ optI (asc "system") (n 8) (n 2))
def daysI (n : Nat → Int) : List It := if n 9 = 0 then [] else [.days (n 9).toNat (n 10)]
def optsI (n : Nat → Int) : List It := optI (asc "close") (n 11) 0 ++ optI (asc "cancel") (n 12) 0 ++ optI (asc "expiry") (n 13) 0 ++ optI (asc "pool") (n 14) 0 ++ optI (asc "reserve") (n 15) 0 ++ optI (asc "round") (n 16) 1 ++ optI (asc "cap") (n 17) 0 ++ optI (asc "rolls") (n 18) 0
def itemsG (g : Gm) : List It := headI g.n ++ daysI g.n ++ optsI g.n ++ g.addons.map .addon ++ g.tiers.map .tier
def fineG (g : Gm) : Bool := wordL (bs g.name) && (decide (g.n 0 = 1) || decide (g.n 0 = 2)) && daysC g.n && (itemsG g).all It.fine
def textG (g : Gm) : List Nat := asc "game" ++ (32 :: bs g.name) ++ asc " {\n" ++ (itemsG g).flatMap lineG ++ asc "}\n"
theorem Pr.Step.optI (p : Pr) (w : List Nat) (n std : Int) : Pr.Step p (p.opt w n std) ((optI w n std).all It.fine) ((Go.Proofs.YtbdkggnajipdhaaGreatDoor.optI w n std).flatMap lineG) := by
  refine (Pr.Step.opt p w n std).cast ?_ ?_
  · unfold Go.Proofs.YtbdkggnajipdhaaGreatDoor.optI; by_cases h : n = std <;> simp [h, It.fine]
  · unfold Go.Proofs.YtbdkggnajipdhaaGreatDoor.optI; by_cases h : n = std <;> simp [h]
theorem Pr.Step.head (p : Pr) (s : List Nat) (n : Nat → Int) : Pr.Step p ((p.add s).head n) ((decide (n 0 = 1) || decide (n 0 = 2)) && (headI n).all It.fine) (s ++ (headI n).flatMap lineG) := by
  unfold Pr.head
  by_cases h : n 0 = 1 ∨ n 0 = 2
  · rw [if_pos h]
    dsimp only
    have hb : Pr.Step ((p.add s).two (if n 0 = 1 then asc "choose" else asc "digits") (n 2) (n 3)) (if n 4 ≠ 0 ∨ n 5 ≠ 0 then ((p.add s).two (if n 0 = 1 then asc "choose" else asc "digits") (n 2) (n 3)).two (asc "bonus") (n 4) (n 5) else (p.add s).two (if n 0 = 1 then asc "choose" else asc "digits") (n 2) (n 3))
        ((if n 4 ≠ 0 ∨ n 5 ≠ 0 then [It.two (asc "bonus") (n 4) (n 5)] else []).all It.fine) ((if n 4 ≠ 0 ∨ n 5 ≠ 0 then [It.two (asc "bonus") (n 4) (n 5)] else []).flatMap lineG) := by
      by_cases e : n 4 ≠ 0 ∨ n 5 ≠ 0
      · rw [if_pos e, if_pos e]
        have := Pr.Step.two ((p.add s).two (if n 0 = 1 then asc "choose" else asc "digits") (n 2) (n 3)) [] (asc "bonus") (n 4) (n 5)
        rw [Pr.add_nil] at this
        exact this.cast (by simp) (by simp)
      · rw [if_neg e, if_neg e]; exact Pr.Step.id _
    refine ((((((Pr.Step.two p s _ _ _).trans hb).trans (Pr.Step.optI _ _ _ _)).trans (Pr.Step.optI _ _ _ _)).trans (Pr.Step.optI _ _ _ _)).trans (Pr.Step.optI _ _ _ _)).cast ?_ ?_
    · have hd : (decide (n 0 = 1) || decide (n 0 = 2)) = true := by simpa using h
      rw [hd]
      unfold headI
      simp only [List.all_append, List.all_cons, List.all_nil, Bool.and_true, Bool.true_and, Bool.and_assoc]
    · unfold headI
      simp only [List.flatMap_append, List.flatMap_cons, List.flatMap_nil, List.append_nil, List.append_assoc]
  · rw [if_neg h]
    refine (Pr.Step.bad _ rfl).cast ?_ rfl
    have hd : (decide (n 0 = 1) || decide (n 0 = 2)) = false := by simpa using h
    rw [hd]; rfl
theorem Pr.Step.opts (p : Pr) (n : Nat → Int) : Pr.Step p (p.opts n) ((optsI n).all It.fine) ((optsI n).flatMap lineG) := by
  unfold Pr.opts optsI
  refine ((((((((Pr.Step.optI p _ _ _).trans (Pr.Step.optI _ _ _ _)).trans (Pr.Step.optI _ _ _ _)).trans (Pr.Step.optI _ _ _ _)).trans (Pr.Step.optI _ _ _ _)).trans (Pr.Step.optI _ _ _ _)).trans (Pr.Step.optI _ _ _ _)).trans (Pr.Step.optI _ _ _ _)).cast ?_ ?_
  · simp only [List.all_append, Bool.and_assoc]
  · simp only [List.flatMap_append, List.append_assoc]
theorem daysC_fine {n : Nat → Int} (h : daysC n = true) : (daysI n).all It.fine = true := by
  unfold daysC at h
  unfold daysI
  simp only [Bool.and_eq_true, decide_eq_true_eq] at h
  by_cases e : n 9 = 0
  · rw [if_pos e]; rfl
  · rw [if_neg e]
    simp only [List.all_cons, List.all_nil, It.fine, Bool.and_true, Bool.and_eq_true, decide_eq_true_eq]
    omega
theorem Pr.Step.daysI (p : Pr) (n : Nat → Int) : Pr.Step p (p.days n) (daysC n) ((Go.Proofs.YtbdkggnajipdhaaGreatDoor.daysI n).flatMap lineG) := by
  refine (Pr.Step.days p n).cast rfl ?_
  unfold Go.Proofs.YtbdkggnajipdhaaGreatDoor.daysI; by_cases h : n 9 = 0 <;> simp [h]
theorem game_step (g : Gm) : Pr.Step ⟨asc "game", false⟩ (Pr.game g) (fineG g) ((32 :: bs g.name) ++ asc " {\n" ++ (itemsG g).flatMap lineG ++ asc "}\n") := by
  unfold Pr.game
  dsimp only
  refine (((((((Pr.Step.nm _ g.name).trans (Pr.Step.head _ (asc " {\n") g.n)).trans (Pr.Step.daysI _ g.n)).trans (Pr.Step.opts _ g.n)).trans (Pr.Step.all (fun p a => Pr.Step.addon p a) g.addons _)).trans (Pr.Step.all (fun p t => Pr.Step.tier p t) g.tiers _)).trans (Pr.Step.lim _ (asc "}\n"))).cast ?_ ?_
  · unfold fineG itemsG
    simp only [List.all_append, List.all_map, Bool.and_true]
    rw [Bool.eq_iff_iff]
    simp only [Bool.and_eq_true]
    constructor
    · rintro ⟨⟨⟨⟨⟨h1, h2, h3⟩, h4⟩, h5⟩, h6⟩, h7⟩
      exact ⟨⟨⟨h1, h2⟩, h4⟩, ⟨⟨⟨h3, daysC_fine h4⟩, h5⟩, h6⟩, h7⟩
    · rintro ⟨⟨⟨h1, h2⟩, h4⟩, ⟨⟨⟨h3, _⟩, h5⟩, h6⟩, h7⟩
      exact ⟨⟨⟨⟨⟨h1, h2, h3⟩, h4⟩, h5⟩, h6⟩, h7⟩
  · unfold itemsG
    simp only [List.flatMap_append, List.flatMap_map, List.append_assoc]
theorem printG_is (g : Gm) : printG g = if fineG g = true ∧ (textG g).length ≤ 32768 then textG g else [] := by
  obtain ⟨_, h2, h3⟩ := game_step g (show Pr.Ok ⟨asc "game", false⟩ from fun _ => by decide)
  have e : (⟨asc "game", false⟩ : Pr).X ++ ((32 :: bs g.name) ++ asc " {\n" ++ (itemsG g).flatMap lineG ++ asc "}\n") = textG g := by
    unfold textG; simp only [List.append_assoc]
  rw [e] at h2 h3
  unfold printG
  cases hb : (Pr.game g).bad with
  | false =>
    rw [if_neg (by simp), if_pos (h2.1 hb).2, h3 hb]
  | true =>
    rw [if_pos rfl, if_neg]
    intro hc
    rw [h2.2 ⟨rfl, hc⟩] at hb
    cases hb
def bonusI (n : Nat → Int) : List It := if n 4 ≠ 0 ∨ n 5 ≠ 0 then [.two (asc "bonus") (n 4) (n 5)] else []
theorem headI_is (n : Nat → Int) : headI n = [.two (if n 0 = 1 then asc "choose" else asc "digits") (n 2) (n 3)] ++ bonusI n ++ (optI (asc "extra") (n 6) 0 ++ optI (asc "price") (n 1) 0 ++ optI (asc "draws") (n 7) 1 ++ optI (asc "system") (n 8) (n 2)) := rfl
/-- All that a game's cells hold. -/
def gmC (G : Gm) : ByteArray × List Int × List Ad × List Ti := (G.name, (List.range 19).map G.n, G.addons, G.tiers)
end Go.Proofs.YtbdkggnajipdhaaGreatDoor
/- Contracts of Go's library, laid by the kit's tools over this translation (wip/shelf.py keeps those that are used). -/
namespace Go.Proofs
open Go.Shelf
def Tryz.lays169_ren : Go.Shelf.Ren := ⟨fun | 169 => 39 | n => n, fun | 70 => 64 | 9 => 9 | 0 => 0 | 72 => 67 | 37 => 65 | 127 => 103 | 3 => 3 | 5 => 5 | n => n, fun | n => n⟩
theorem Tryz.lays169 : Go.Proofs.Lays.n169 Tryz.prog Tryz.lays169_ren := {
  mixed := by kernel_rfl
  f169 := Tryz.func39.trans (congrArg some (by kernel_rfl))
  t0 := Tryz.underlying0
  a0 := Tryz.isAgg0
  z0 := Tryz.sizeOf0
  v0 := Tryz.zeroValue0
  t3 := Tryz.underlying3
  a3 := Tryz.isAgg3
  z3 := Tryz.sizeOf3
  v3 := Tryz.zeroValue3
  t9 := Tryz.underlying9
  a9 := Tryz.isAgg9
  z9 := Tryz.sizeOf9
  v9 := Tryz.zeroValue9
  t37 := Tryz.underlying65
  a37 := Tryz.isAgg65
  z37 := Tryz.sizeOf65
  v37 := Tryz.zeroValue65
  t70 := Tryz.underlying64
  a70 := Tryz.isAgg64
  z70 := Tryz.sizeOf64
  v70 := Tryz.zeroValue64
  t72 := Tryz.underlying67
  a72 := Tryz.isAgg67
  z72 := Tryz.sizeOf67
  v72 := Tryz.zeroValue67
  t127 := Tryz.underlying103
  a127 := Tryz.isAgg103
  z127 := Tryz.sizeOf103
  v127 := Tryz.zeroValue103 }
theorem Tryz.Builder_Extra_169 : Builder.Extra Tryz.prog Tryz.lays169_ren := {
  sizeBuilder := by kernel_rfl
  liesBuilder := by kernel_rfl
  t5 := Tryz.underlying5
  a5 := Tryz.isAgg5
  z5 := Tryz.sizeOf5
  v5 := Tryz.zeroValue5
  infoByte := by kernel_rfl
  cellsByte := by kernel_rfl
  sizeByte := by kernel_rfl
  neB5 := by decide }
open Go.RowKit in
/-- (*strings.Builder).String: "String returns the accumulated string.": WHATEVER THE BUILDER HOLDS. (LAID: no walk: one application.) -/
theorem Tryz.Builder_String_any (B b : Nat) (l : List UInt8) (w : World) (h : Lib.IsBuilder 67 5 B b (Lib.byteCells l) w) (hBw : B ≤ w.heap.size) :
    Calls Tryz.prog 39 #[.pointer (some ⟨b, 0, none⟩)] w fun e w' => e = .returned (.string ⟨l.toArray⟩) ∧ Below B w w' := Any.Builder_String_any Tryz.lays169 Tryz.Builder_Extra_169 B b l w h hBw
def Tryz.laysM171_ren : Go.Shelf.Ren := ⟨fun | 171 => 137 | 243 => 144 | 246 => 147 | 283 => 148 | 284 => 149 | 285 => 150 | 286 => 151 | 129 => 153 | 317 => 152 | 318 => 154 | 319 => 155 | 320 => 156 | 337 => 157 | 338 => 158 | n => n, fun | 3 => 3 | 9 => 9 | 2 => 2 | 4 => 4 | 171 => 161 | 0 => 0 | 53 => 128 | 37 => 65 | 5 => 5 | 173 => 164 | 212 => 167 | 51 => 135 | 20 => 20 | 213 => 168 | 46 => 139 | 232 => 172 | 233 => 173 | n => n, fun | 17 => 6 | 18 => 7 | 19 => 8 | n => n⟩
theorem Tryz.laysM171 : Go.Proofs.LaysM.n171 Tryz.prog Tryz.laysM171_ren := {
  mixed := by kernel_rfl
  f129 := Tryz.func153.trans (congrArg some (by kernel_rfl))
  f171 := Tryz.func137.trans (congrArg some (by kernel_rfl))
  f243 := Tryz.func144.trans (congrArg some (by kernel_rfl))
  f246 := Tryz.func147.trans (congrArg some (by kernel_rfl))
  f283 := Tryz.func148.trans (congrArg some (by kernel_rfl))
  f284 := Tryz.func149.trans (congrArg some (by kernel_rfl))
  f285 := Tryz.func150.trans (congrArg some (by kernel_rfl))
  f286 := Tryz.func151.trans (congrArg some (by kernel_rfl))
  f317 := Tryz.func152.trans (congrArg some (by kernel_rfl))
  f318 := Tryz.func154.trans (congrArg some (by kernel_rfl))
  f319 := Tryz.func155.trans (congrArg some (by kernel_rfl))
  f320 := Tryz.func156.trans (congrArg some (by kernel_rfl))
  f337 := Tryz.func157.trans (congrArg some (by kernel_rfl))
  f338 := Tryz.func158.trans (congrArg some (by kernel_rfl))
  t0 := Tryz.underlying0
  a0 := Tryz.isAgg0
  z0 := Tryz.sizeOf0
  v0 := Tryz.zeroValue0
  t2 := Tryz.underlying2
  a2 := Tryz.isAgg2
  z2 := Tryz.sizeOf2
  v2 := Tryz.zeroValue2
  t3 := Tryz.underlying3
  a3 := Tryz.isAgg3
  z3 := Tryz.sizeOf3
  v3 := Tryz.zeroValue3
  t4 := Tryz.underlying4
  a4 := Tryz.isAgg4
  z4 := Tryz.sizeOf4
  v4 := Tryz.zeroValue4
  t5 := Tryz.underlying5
  a5 := Tryz.isAgg5
  z5 := Tryz.sizeOf5
  v5 := Tryz.zeroValue5
  t9 := Tryz.underlying9
  a9 := Tryz.isAgg9
  z9 := Tryz.sizeOf9
  v9 := Tryz.zeroValue9
  t20 := Tryz.underlying20
  a20 := Tryz.isAgg20
  z20 := Tryz.sizeOf20
  v20 := Tryz.zeroValue20
  t37 := Tryz.underlying65
  a37 := Tryz.isAgg65
  z37 := Tryz.sizeOf65
  v37 := Tryz.zeroValue65
  t46 := Tryz.underlying139
  a46 := Tryz.isAgg139
  z46 := Tryz.sizeOf139
  v46 := Tryz.zeroValue139
  t51 := Tryz.underlying135
  a51 := Tryz.isAgg135
  z51 := Tryz.sizeOf135
  v51 := Tryz.zeroValue135
  t53 := Tryz.underlying128
  a53 := Tryz.isAgg128
  z53 := Tryz.sizeOf128
  v53 := Tryz.zeroValue128
  t171 := Tryz.underlying161
  a171 := Tryz.isAgg161
  z171 := Tryz.sizeOf161
  v171 := Tryz.zeroValue161
  t173 := Tryz.underlying164
  a173 := Tryz.isAgg164
  z173 := Tryz.sizeOf164
  v173 := Tryz.zeroValue164
  t212 := Tryz.underlying167
  a212 := Tryz.isAgg167
  z212 := Tryz.sizeOf167
  v212 := Tryz.zeroValue167
  t213 := Tryz.underlying168
  a213 := Tryz.isAgg168
  z213 := Tryz.sizeOf168
  t232 := Tryz.underlying172
  a232 := Tryz.isAgg172
  z232 := Tryz.sizeOf172
  v232 := Tryz.zeroValue172
  t233 := Tryz.underlying173
  a233 := Tryz.isAgg173
  z233 := Tryz.sizeOf173
  v233 := Tryz.zeroValue173
  g17 := by kernel_rfl
  g18 := by kernel_rfl
  g19 := by kernel_rfl
  i0 := by kernel_rfl
  i2 := by kernel_rfl
  i3 := by kernel_rfl
  i4 := by kernel_rfl
  i5 := by kernel_rfl
  i9 := by kernel_rfl
  i20 := by kernel_rfl
  i37 := by kernel_rfl
  i46 := by kernel_rfl
  i51 := by kernel_rfl
  i53 := by kernel_rfl
  i171 := by kernel_rfl
  i173 := by kernel_rfl
  i212 := by kernel_rfl
  i232 := by kernel_rfl
  i233 := by kernel_rfl
  m17 := by kernel_rfl
  m18 := by kernel_rfl
  m19 := by kernel_rfl }
open Go.RowKit Go.Sort Go.Lib in
/-- strconv.Itoa: "Itoa is equivalent to FormatInt(int64(i), 10).": i's DECIMAL NUMERAL ('Lib.itoa': a '-' where i is negative, then the digits), FOR EVERY int. The world behind the call: the world before it, new blocks behind the heap (the library's 'var a [24]byte'), draws. (LAID: no walk: one application.) -/
theorem Tryz.strconv_Itoa (n : Int) (h0 : -9223372036854775808 ≤ n) (h1 : n ≤ 9223372036854775807) (w : World) (htab : Lib.TabIs Tryz.prog w "internal/strconv.uint64pow10" .u64 Lib.pow10Tab) :
    Calls Tryz.prog 137 #[.int .i64 n] w fun e w' => e = .returned (.string ⟨(Lib.itoa n).toArray⟩) ∧ ∃ k os, w' = grow (w.drewN k) os := Any.strconv_Itoa Tryz.laysM171 n h0 h1 w htab
def Tryz.lays138_ren : Go.Shelf.Ren := ⟨fun | 138 => 20 | 195 => 52 | 218 => 53 | 143 => 54 | 219 => 100 | 217 => 127 | 225 => 128 | 224 => 129 | 267 => 130 | 266 => 141 | 314 => 142 | n => n, fun | 9 => 9 | 3 => 3 | 4 => 4 | 5 => 5 | 0 => 0 | 46 => 139 | 146 => 153 | 51 => 135 | n => n, fun | 1 => 2 | n => n⟩
theorem Tryz.lays138 : Go.Proofs.Lays.n138 Tryz.prog Tryz.lays138_ren := {
  mixed := by kernel_rfl
  f138 := Tryz.func20.trans (congrArg some (by kernel_rfl))
  f143 := Tryz.func54.trans (congrArg some (by kernel_rfl))
  f195 := Tryz.func52.trans (congrArg some (by kernel_rfl))
  f217 := Tryz.func127.trans (congrArg some (by kernel_rfl))
  f218 := Tryz.func53.trans (congrArg some (by kernel_rfl))
  f219 := Tryz.func100.trans (congrArg some (by kernel_rfl))
  f224 := Tryz.func129.trans (congrArg some (by kernel_rfl))
  f225 := Tryz.func128.trans (congrArg some (by kernel_rfl))
  f266 := Tryz.func141.trans (congrArg some (by kernel_rfl))
  f267 := Tryz.func130.trans (congrArg some (by kernel_rfl))
  f314 := Tryz.func142.trans (congrArg some (by kernel_rfl))
  t0 := Tryz.underlying0
  a0 := Tryz.isAgg0
  z0 := Tryz.sizeOf0
  v0 := Tryz.zeroValue0
  t3 := Tryz.underlying3
  a3 := Tryz.isAgg3
  z3 := Tryz.sizeOf3
  v3 := Tryz.zeroValue3
  t4 := Tryz.underlying4
  a4 := Tryz.isAgg4
  z4 := Tryz.sizeOf4
  v4 := Tryz.zeroValue4
  t5 := Tryz.underlying5
  a5 := Tryz.isAgg5
  z5 := Tryz.sizeOf5
  v5 := Tryz.zeroValue5
  t9 := Tryz.underlying9
  a9 := Tryz.isAgg9
  z9 := Tryz.sizeOf9
  v9 := Tryz.zeroValue9
  t46 := Tryz.underlying139
  a46 := Tryz.isAgg139
  z46 := Tryz.sizeOf139
  v46 := Tryz.zeroValue139
  t51 := Tryz.underlying135
  a51 := Tryz.isAgg135
  z51 := Tryz.sizeOf135
  v51 := Tryz.zeroValue135
  t146 := Tryz.underlying153
  a146 := Tryz.isAgg153
  z146 := Tryz.sizeOf153
  v146 := Tryz.zeroValue153
  g1 := by kernel_rfl }
open Go.RowKit Go.Lib in
/-- strings.Count AT A substr OF ONE BYTE ('hp'): "Count counts the number of non-overlapping instances of substr in s.": IT RETURNS 'Lib.countByte s (that byte)'; the world is as it was. ✋ NO CONTRACT HERE YET at an empty substr (utf8.RuneCountInString) or at a longer one (a loop over strings.Index). (LAID: no walk: one application.) -/
theorem Tryz.strings_Count_one (s : ByteArray) (c : UInt8) (w : World) :
    Calls Tryz.prog 20 #[.string s, .string ⟨#[c]⟩] w fun e w' => e = .returned (.int .i64 (Lib.countByte s.data.toList c)) ∧ w' = w := Any.strings_Count_one Tryz.lays138 s c w
def Tryz.lays149_ren : Go.Shelf.Ren := ⟨fun | 149 => 51 | 222 => 99 | n => n, fun | 9 => 9 | 5 => 5 | 3 => 3 | 4 => 4 | n => n, fun | n => n⟩
theorem Tryz.lays149 : Go.Proofs.Lays.n149 Tryz.prog Tryz.lays149_ren := {
  mixed := by kernel_rfl
  f149 := Tryz.func51.trans (congrArg some (by kernel_rfl))
  f222 := Tryz.func99.trans (congrArg some (by kernel_rfl))
  t3 := Tryz.underlying3
  a3 := Tryz.isAgg3
  z3 := Tryz.sizeOf3
  v3 := Tryz.zeroValue3
  t4 := Tryz.underlying4
  a4 := Tryz.isAgg4
  z4 := Tryz.sizeOf4
  v4 := Tryz.zeroValue4
  t5 := Tryz.underlying5
  a5 := Tryz.isAgg5
  z5 := Tryz.sizeOf5
  v5 := Tryz.zeroValue5
  t9 := Tryz.underlying9
  a9 := Tryz.isAgg9
  z9 := Tryz.sizeOf9
  v9 := Tryz.zeroValue9 }
open Go.RowKit Go.Lib in
/-- strings.LastIndexByte: "LastIndexByte returns the index of the last instance of c in s, or -1 if c is not present in s." (LAID: no walk: one application.) -/
theorem Tryz.strings_LastIndexByte (s : ByteArray) (c : Int) (hs : s.size < 4611686018427387904) (w : World) :
    Calls Tryz.prog 51 #[.string s, .int .u8 c] w fun e w' => e = .returned (.int .i64 (Lib.lastIndexByte s c)) ∧ w' = w := Any.strings_LastIndexByte Tryz.lays149 s c hs w
end Go.Proofs
/- Walks: strings.Builder: copyCheck, WriteByte, WriteString. -/
namespace Go.Proofs.YtbdkggnajipdhaaGreatDoor
open Nat (reduceAdd reduceMul reduceSub reduceEqDiff reduceLT reduceLeDiff)
open Go.RowKit
set_option maxRecDepth 100000
/-- What is neither the builder's block nor a row of bytes stays. -/
def Keeps (b : Nat) (w w' : World) : Prop := ∀ (k : Nat) (o : Obj), k ≠ b → w.heap[k]? = some o → (∀ cs f, o ≠ .cells cs 5 f) → w'.heap[k]? = some o
theorem Keeps.refl (b : Nat) (w : World) : Keeps b w w := fun _ _ _ h _ => h
theorem Keeps.trans {b : Nat} {x y z : World} (h : Keeps b x y) (k : Keeps b y z) : Keeps b x z := fun i o hi ho hn => k i o hi (h i o hi ho hn) hn
theorem Keeps.setCell (b o : Nat) (v : Value) (w : World) : Keeps b w (w.setCell ⟨b, o, none⟩ v) := fun k _ hk ho _ => (Below.heap_setCell w ⟨b, o, none⟩ v k hk).trans ho
theorem Keeps.alloc (b : Nat) (w : World) (ob : Obj) : Keeps b w (w.alloc ob) := fun k _ _ ho _ => ((below_alloc w ob).block k (Array.getElem?_eq_some_iff.1 ho).1).trans ho
theorem Keeps.grown {b B n : Nat} {v : Value} {xs : List Value} {w w' : World} (ho : w.ownsRow B 5 1 v n xs) (hg : w.grownBy w' v.ownBlock) : Keeps b w w' := fun k o _ hk hn => by
  refine (hg.block k (Array.getElem?_eq_some_iff.1 hk).1 (fun e => ?_)).trans hk
  rcases ho.2 with ⟨rfl, _⟩ | ⟨g, cap, cur, rfl, _, hh, _⟩
  · cases e
  · simp only [Value.ownBlock, Option.some.injEq] at e
    subst e
    rw [hk] at hh
    injection hh with hh
    exact hn _ _ hh
theorem copyCheck_any (B b : Nat) (l : List Value) (w : World) (h : Lib.IsBuilder 67 5 B b l w) :
    Calls Tryz.prog 71 #[.pointer (some ⟨b, 0, none⟩)] w fun e w' => e = .returned (.tuple #[]) ∧ Lib.BuilderAt 67 5 B b (.pointer (some ⟨b, 0, none⟩)) l w' ∧ Below B w w' ∧ Keeps b w w' := by
  refine calls_W (l := [_]) Tryz.func71 rfl _ Tryz.ntmps71 (by simp) ?_
  obtain ⟨j, hj, hjs⟩ := Option.map_eq_some_iff.1 (show (Tryz.prog.info? 67).map (·.size) = some 2 by kernel_rfl)
  have ne : ∀ (x y : Operand) (w : World), vBin Tryz.prog .neq 64 x y (.pointer (some ⟨b, 0, none⟩)) (.pointer (some ⟨b, 0, none⟩)) w = .ok (.value (.bool false)) w := fun x y w => by
    simp only [vBin, eqGuard]
    simp [Lib.run_neq_ptr_same w _ Tryz.underlying64 hj]
  rcases h with h | h
  · have c0 := h.cell0
    have z0 := h.frozen0
    have cs : (w.setCell ⟨b, 0, none⟩ (.pointer (some ⟨b, 0, none⟩))).cell? ⟨b, 0, none⟩ = some (.pointer (some ⟨b, 0, none⟩)) := by rw [cS_same, c0]; rfl
    have cv1 : vConvert Tryz.prog 64 125 (.pointer (some ⟨b, 0, none⟩)) w = .ok (.value (.pointer (some ⟨b, 0, none⟩))) w := by
      simp [vConvert, Lib.run_to_unsafe w ⟨b, 0, none⟩ Tryz.underlying64 Tryz.underlying125 hj (by rw [hjs]; decide) h.shape (Nat.zero_lt_succ 1)]
    have cv2 : vConvert Tryz.prog 125 64 (.pointer (some ⟨b, 0, none⟩)) w = .ok (.value (.pointer (some ⟨b, 0, none⟩))) w := by
      simp [vConvert, Lib.run_from_unsafe w ⟨b, 0, none⟩ Tryz.underlying125 Tryz.underlying64 hj h.shape (by kernel_rfl)]
    have cl : vCall Tryz.prog 119 #[.pointer (some ⟨b, 0, none⟩)] w = .ok (.value (.pointer (some ⟨b, 0, none⟩))) w := by
      unfold vCall
      rw [run_callFunc_extern Tryz.func119 (by kernel_rfl) (by kernel_rfl) (by kernel_rfl) (e := Extern.AbiNoEscape.same) (by kernel_rfl), Lib.run_noEscape]
      rfl
    rw [vCall_at] at cl
    simp +contextual (maxSteps := 2000000) (disch := first | omega | (simp only [SZ]; first | done | omega) | (simp only [TS] at *; omega)) only [RZ, ovw, oneC, reduceAdd, reduceMul, reduceSub, reduceEqDiff, reduceLT, ↓reduceIte, Int.reduceToNat, reduceLeDiff,  c0]
    refine W_if_t rfl ?_
    simp +contextual (maxSteps := 2000000) (disch := first | omega | (simp only [SZ]; first | done | omega) | (simp only [TS] at *; omega)) only [RZ, ovw, oneC, reduceAdd, reduceMul, reduceSub, reduceEqDiff, reduceLT, ↓reduceIte, Int.reduceToNat, reduceLeDiff,  c0, z0, cv1, cv2, cl, cs, ne]
    exact ⟨h.used _, (Below.refl B w).setCell (p := ⟨b, 0, none⟩) h.1 _, Keeps.setCell _ _ _ _⟩
  · have c0 := h.cell0
    simp +contextual (maxSteps := 2000000) (disch := first | omega | (simp only [SZ]; first | done | omega) | (simp only [TS] at *; omega)) only [RZ, ovw, oneC, reduceAdd, reduceMul, reduceSub, reduceEqDiff, reduceLT, ↓reduceIte, Int.reduceToNat, reduceLeDiff,  c0]
    refine W_if_f rfl ?_
    simp +contextual (maxSteps := 2000000) (disch := first | omega | (simp only [SZ]; first | done | omega) | (simp only [TS] at *; omega)) only [RZ, ovw, oneC, reduceAdd, reduceMul, reduceSub, reduceEqDiff, reduceLT, ↓reduceIte, Int.reduceToNat, reduceLeDiff,  c0, ne]
    refine W_if_f rfl ?_
    simp +contextual (maxSteps := 2000000) (disch := first | omega | (simp only [SZ]; first | done | omega) | (simp only [TS] at *; omega)) only [RZ, ovw, oneC, reduceAdd, reduceMul, reduceSub, reduceEqDiff, reduceLT, ↓reduceIte, Int.reduceToNat, reduceLeDiff]
    exact ⟨h, Below.refl B _, Keeps.refl _ _⟩
theorem writeString_any (B b : Nat) (l : List Value) (s : ByteArray) (w : World) (h : Lib.IsBuilder 67 5 B b l w) (hlen : l.length + s.size ≤ 1000000000) (hBw : B ≤ w.heap.size) :
    Calls Tryz.prog 30 #[.pointer (some ⟨b, 0, none⟩), .string s] w fun e w' => e = .returned (.tuple #[.int .i64 s.size, .nilIface]) ∧ Lib.IsBuilder 67 5 B b (l ++ Lib.strCells s) w' ∧ Below B w w' ∧ Keeps b w w' := by
  refine calls_W (l := [_, _]) Tryz.func30 rfl _ Tryz.ntmps30 (by simp) ?_
  simp +contextual (maxSteps := 2000000) (disch := first | omega | (simp only [SZ]; first | done | omega) | (simp only [TS] at *; omega)) only [RZ, ovw, oneC, reduceAdd, reduceMul, reduceSub, reduceEqDiff, reduceLT, ↓reduceIte, Int.reduceToNat, reduceLeDiff]
  refine (copyCheck_any B b l w h).mono ?_
  rintro e w1 ⟨rfl, ⟨hB, v, hbk, hown, hne⟩, hb1, hkp⟩
  refine ⟨_, rfl, ?_⟩
  obtain ⟨i0, hi, hz0, hz1, hz2⟩ := info_parts (show (Tryz.prog.info? 5).map (fun i => (i.zero, i.size, i.bytes)) = some (some (.int .u8 0), 1, 1) by kernel_rfl)
  obtain ⟨A, n, cp, rfl, rfl⟩ : ∃ A n cp, v = .slice A n cp ∧ n = l.length := by
    rcases hown.2 with ⟨hv, h0⟩ | ⟨g, cap, cur, hv, _⟩
    · exact ⟨none, 0, 0, hv, h0.symm⟩
    · exact ⟨_, _, _, hv, rfl⟩
  have c1 : w1.cell? ⟨b, 1, none⟩ = some (.slice A l.length cp) := by rw [Lib.cell_of_heap hbk]; rfl
  have hsz := hb1.size
  obtain ⟨v', w2, he0, hown2, hg2, _⟩ := Lib.run_append_own_string (P := Tryz.prog) (w := w1) B 65 9 65 5 i0 Tryz.underlying65 Tryz.underlying9 hi hz0 hz1 hz2 (.slice A l.length cp) l.length l hown s (by unfold maxLen; omega) (by omega) (by omega)
  have he : vAppend Tryz.prog 65 9 65 (.slice A l.length cp) (.string s) w1 = .ok (.value v') w2 := by simp [vAppend, he0]
  obtain ⟨A', n', c', rfl⟩ : ∃ A n cp, v' = .slice A n cp := by
    rcases hown2.2 with ⟨hv, _⟩ | ⟨g, cap, cur, hv, _⟩
    · exact ⟨_, _, _, hv⟩
    · exact ⟨_, _, _, hv⟩
  have hlt : b < w1.heap.size := by
    rcases Nat.lt_or_ge b w1.heap.size with h' | h'
    · exact h'
    · simp [Array.getElem?_eq_none h'] at hbk
  have hb2 : w2.heap[b]? = some (.cells #[.pointer (some ⟨b, 0, none⟩), .slice A l.length cp] 67 (0, 0)) := by
    rw [hg2.block b hlt (fun e => hne e.symm)]
    exact hbk
  have d1 : w2.cell? ⟨b, 1, none⟩ = some (.slice A l.length cp) := by rw [Lib.cell_of_heap hb2]; rfl
  have f1 : w2.frozen? ⟨b, 1, none⟩ = false := Lib.frozen_of_heap hb2 1
  simp +contextual (maxSteps := 2000000) (disch := first | omega | (simp only [SZ]; first | done | omega) | (simp only [TS] at *; omega)) only [RZ, ovw, oneC, reduceAdd, reduceMul, reduceSub, reduceEqDiff, reduceLT, ↓reduceIte, Int.reduceToNat, reduceLeDiff,  c1, he, d1, f1]
  exact ⟨.inr (Lib.BuilderAt.put (T := 67) (e := 5) hB hb2 (bs' := l ++ Lib.strCells s) (by simpa [Lib.strCells_length] using hown2) (by decide)),
    (hb1.grown hg2 (by omega) (fun k hk => (hown.lt k hk).1)).setCell (p := ⟨b, 1, none⟩) hB _,
    (hkp.trans (Keeps.grown hown hg2)).trans (Keeps.setCell _ _ _ _)⟩
theorem isB_below {B b : Nat} {l : List Value} {w w' : World} (h : Lib.IsBuilder 67 5 B b l w) (hb : Below w.heap.size w w') : Lib.IsBuilder 67 5 B b l w' := by
  have key : ∀ p, Lib.BuilderAt 67 5 B b p l w → Lib.BuilderAt 67 5 B b p l w' := by
    rintro p ⟨hB, v, hbk, hown, hne⟩
    have hlt : b < w.heap.size := (Array.getElem?_eq_some_iff.1 hbk).1
    exact ⟨hB, v, (hb.block b hlt).trans hbk, owns_below hown hb, hne⟩
  exact h.elim (fun h => .inl (key _ h)) (fun h => .inr (key _ h))
end Go.Proofs.YtbdkggnajipdhaaGreatDoor
/- Plain: numbers, digits of sixteen and quoted texts are read as they were written. No program in sight. -/
namespace Go.Proofs.YtbdkggnajipdhaaGreatDoor
theorem bs_toBA {l : List Nat} (h : ∀ c ∈ l, c < 256) : bs (toBA l) = l := by
  unfold bs toBA
  simp only [List.map_map]
  conv => rhs; rw [← List.map_id l]
  refine List.map_congr_left fun c hc => ?_
  have := h c hc
  simp only [Function.comp, id]
  simp only [UInt8.toNat_ofNat']
  omega
/-! Digits of sixteen. -/
/-! Texts in quotes. -/
end Go.Proofs.YtbdkggnajipdhaaGreatDoor
/- The engine's rules for arrays. -/
namespace Go.Proofs.YtbdkggnajipdhaaGreatDoor
open Go.RowKit
set_option maxRecDepth 100000
theorem vLoad_arr {P : Program} {T e : TypeId} {n N b o : Nat} {w : World} {l : List Value} (hd : P.underlying T = some (.array n e)) (hs : (P.info? T).map (·.size) = some N) (h : ldN w b o N = some l) :
    vLoad P T (.pointer (some ⟨b, o, none⟩)) w = .ok (.value (.agg l.toArray)) w := by
  obtain ⟨inf, hq, hz⟩ := Option.map_eq_some_iff.1 hs
  have hagg : (isAgg T).run P w = .ok true w := by
    unfold isAgg
    rw [Sem.run_bind, run_underlying hd w]
    simp
  have hl := run_loadCells_ldN P w b N o 0 l #[] h
  simp [vLoad, Instr.loadAt, Instr.sureAddr, loadVar, Sem.run_bind, hagg, sizeOf, typeInfo, hq, hz, loadCells, hl]
theorem ldN_of {w : World} {b : Nat} : ∀ (l : List Value) (o : Nat), (∀ i v, l[i]? = some v → w.cell? ⟨b, o + i, none⟩ = some v) → ldN w b o l.length = some l
  | [], o, _ => rfl
  | v :: l, o, h => by
    have h0 := h 0 v rfl
    rw [Nat.add_zero] at h0
    rw [List.length_cons, ldN, h0, ldN_of l (o + 1) fun i u hu => by rw [show o + 1 + i = o + (i + 1) by omega]; exact h (i + 1) u hu]
end Go.Proofs.YtbdkggnajipdhaaGreatDoor
/- What the listed variables hold. -/
namespace Go.Proofs.YtbdkggnajipdhaaGreatDoor
open Go.RowKit
set_option maxRecDepth 100000
def dayC : List Value := dayW.map fun d => .string (toBA d)
theorem vIndex_arrS {P : Program} {T e : TypeId} {n : Nat} {w : World} {cs : Array Value} {k : IntKind} {i : Nat} {v : Value} (hd : P.underlying T = some (.array n e)) (he : P.underlying e = some .string) (hs : (P.info? e).map (·.size) = some 1) (hi : i < n) (hv : cs[i]? = some v) :
    vIndex P T (.agg cs) (.int k i) w = .ok (.value v) w := by
  obtain ⟨inf, hq, hz⟩ := Option.map_eq_some_iff.1 hs
  have hagg : (isAgg e).run P w = .ok false w := by
    unfold isAgg
    rw [Sem.run_bind, run_underlying he w]
    simp
  have h2 : (0 : Int) ≤ i ∧ (i : Int) < n := by omega
  simp [vIndex, Instr.index, asIntOf, Sem.run_bind, run_underlying hd, h2, sizeOf, typeInfo, hq, hz, part, hagg, hv]
  omega
theorem day_index {d : List Nat} {i : Nat} (h : dayW[i]? = some d) (w : World) : vIndex Tryz.prog 102 (.agg dayC.toArray) (.int .i64 i) w = .ok (.value (.string (toBA d))) w := by
  have hi : i < 7 := by have := (List.getElem?_eq_some_iff.1 h).1; exact this
  refine vIndex_arrS Tryz.underlying102 Tryz.underlying9 (by kernel_rfl) hi ?_
  rw [List.getElem?_toArray]
  unfold dayC
  rw [List.getElem?_map, h]
  rfl
/-- What the listed variables hold. -/
structure Laid (w : World) : Prop where
  size : 9 ≤ w.heap.size
  day : ∀ i v, dayC[i]? = some v → w.cell? ⟨0, i, none⟩ = some v
  pow : Lib.TabIs Tryz.prog w "internal/strconv.uint64pow10" .u64 Lib.pow10Tab
theorem Laid.below {B : Nat} {w w' : World} (h : Laid w) (hb : Below B w w') (hB : 9 ≤ B) : Laid w' :=
  ⟨Nat.le_trans h.size hb.size, fun i v hv => (hb.cell (p := ⟨0, i, none⟩) (by show 0 < B; omega)).trans (h.day i v hv), by
    have hg : Tryz.prog.globalNamed "internal/strconv.uint64pow10" = some 6 := by kernel_rfl
    have h2 := h.pow
    unfold Lib.TabIs World.var? at h2 ⊢
    rw [hg] at h2 ⊢
    simp only [Option.bind_some] at h2 ⊢
    rw [hb.block 6 (by omega)]
    exact h2⟩
theorem Laid.kept {X : List Nat} {w w' : World} (h : Laid w) (k : Kept X w w') (hX : ∀ x ∈ X, 9 ≤ x) : Laid w' := by
  have hs := h.size
  refine h.below (B := min 9 w.heap.size) ⟨k.os, k.tape, k.output, k.size, fun i hi => k.block i (by omega) (fun hx => by have := hX i hx; omega)⟩ (by omega)
theorem Laid.load {w : World} (h : Laid w) : vLoad Tryz.prog 102 (.pointer (some ⟨0, 0, none⟩)) w = .ok (.value (.agg dayC.toArray)) w :=
  vLoad_arr Tryz.underlying102 (by kernel_rfl) (ldN_of (b := 0) dayC 0 (fun i v hv => by rw [Nat.zero_add]; exact h.day i v hv))
end Go.Proofs.YtbdkggnajipdhaaGreatDoor
/- Bytes in memory: rows that grow, and the strings that they become. -/
namespace Go.Proofs.YtbdkggnajipdhaaGreatDoor
open Go.RowKit
set_option maxRecDepth 100000
/-- Bytes that lie in memory become a string. -/
theorem bytes_str {w : World} {a : Addr} {cap : Nat} (ns : List Nat) (hn : ∀ n ∈ ns, n < 256) (h : ∀ j v, (ns.map fun (n : Nat) => Value.int .u8 (n : Int))[j]? = some v → w.cell? (a.add j) = some v) :
    ∃ s : ByteArray, bs s = ns ∧ vConvert Tryz.prog 65 9 (.slice (some a) ns.length cap) w = .ok (.value (.string s)) w := by
  have hl := run_loadCells_list (P := Tryz.prog) (w := w) a (ns.map fun (n : Nat) => Value.int .u8 (n : Int)) h
  rw [List.length_map] at hl
  have hr := run_bytesToString (P := Tryz.prog) w a ns.length cap (ns.map fun (n : Nat) => (n : Int)) (by rw [List.map_map]; exact hl)
  refine ⟨_, ?_, by simp only [vConvert, Sem.run_bind, run_convert_bytes_string w _ _ _ _ _ _ Tryz.underlying65 Tryz.underlying5 Tryz.underlying9, hr, Result.andThen, Sem.run_pure]; rfl⟩
  have key : ∀ (ns : List Nat) (s : ByteArray), (∀ n ∈ ns, n < 256) → bs ((ns.map fun (n : Nat) => (n : Int)).foldl (fun r n => r.push (UInt8.ofNat n.toNat)) s) = bs s ++ ns := by
    intro ns
    induction ns with
    | nil => intro s _; simp
    | cons n r ih =>
      intro s hs
      rw [List.map_cons, List.foldl_cons, ih _ fun m hm => hs m (by simp [hm])]
      have hn := hs n (by simp)
      have e : bs (s.push (UInt8.ofNat (n : Int).toNat)) = bs s ++ [n] := by
        unfold bs
        rw [ByteArray.data_push, Array.toList_push, List.map_append]
        simp [Nat.mod_eq_of_lt hn]
      rw [e, List.append_assoc]
      rfl
  rw [key ns _ hn, bs_empty, List.nil_append]
def byV (X : List Nat) : List Value := X.map fun (n : Nat) => Value.int .u8 (n : Int)
/-- A row of bytes that is nobody else's. -/
def BytIn (base : Nat) (w : World) (v : Value) (X : List Nat) : Prop := ∃ g c, v = .slice (some ⟨g, 0, none⟩) X.length c ∧ w.ownsRow base 5 1 v X.length (byV X) ∧ (∀ n ∈ X, n < 256) ∧ X.length ≤ 100000000
theorem BytIn.push {base : Nat} {w : World} {v : Value} {X : List Nat} (h : BytIn base w v X) (hb : base ≤ w.heap.size) (n : Nat) (hn : n < 256) (hl : X.length + 1 ≤ 100000000) :
    ∃ v' w2, vAppend Tryz.prog 65 65 65 v (.slice (some ⟨w.heap.size, 0, none⟩) 1 1) (w.alloc (.cells #[.int .u8 (n : Int)] 5)) = .ok (.value v') w2 ∧ BytIn base w2 v' (X ++ [n]) ∧ Below base w w2 ∧ w.heap.size ≤ w2.heap.size := by
  obtain ⟨g, c, rfl, ho, hx, _⟩ := h
  have hI : sliceI Tryz.prog 65 = some (5, 1, 1) := by kernel_rfl
  obtain ⟨A2, c2, w2, he, hown2, hb2, hs2⟩ := push1 (P := Tryz.prog) (T := 65) (ty := 65) (news := [.int .u8 (n : Int)]) ho hb hI rfl (fun u hu => by simp at hu; subst hu; rfl) (by omega) (by omega)
  obtain ⟨g2, rfl, _⟩ := owns_row hown2 (by omega)
  refine ⟨_, w2, he, ⟨g2, c2, by simp, ?_, fun m hm => ?_, by simp; omega⟩, hb2, hs2⟩
  · have : (X ++ [n]).length = X.length + 1 := by simp
    rw [this]
    unfold byV at *
    rw [List.map_append]
    exact hown2
  · rcases List.mem_append.1 hm with h | h
    · exact hx m h
    · simp at h; omega
theorem BytIn.str {base : Nat} {w : World} {v : Value} {X : List Nat} (h : BytIn base w v X) : ∃ s : ByteArray, bs s = X ∧ vConvert Tryz.prog 65 9 v w = .ok (.value (.string s)) w := by
  obtain ⟨g, c, rfl, ho, hx, _⟩ := h
  refine bytes_str X hx fun j u hu => ?_
  have hj : 0 < X.length := by
    have := (List.getElem?_eq_some_iff.1 hu).1
    rw [List.length_map] at this
    omega
  obtain ⟨g2, e, _, ⟨cur, hg, r, hr⟩, _⟩ := owns_row ho hj
  injection e with e
  injection e with e
  subst e
  rw [addr_add, Nat.zero_add, Lib.cell_of_heap hg]
  have hlt := (List.getElem?_eq_some_iff.1 hu).1
  rw [← Array.getElem?_toList, hr, List.getElem?_append_left (by unfold byV; exact hlt)]
  exact hu
end Go.Proofs.YtbdkggnajipdhaaGreatDoor
