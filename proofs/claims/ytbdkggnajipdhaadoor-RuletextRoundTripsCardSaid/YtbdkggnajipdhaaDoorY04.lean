/- Texts laid one behind the other: Ord2, Ord3, Kep, Ord5, Pan, DeckSpec, LexP, NumP, ScrP. Each says at its head what it proves. -/
import Derived.Test.YtbdkggnajipdhaaDoorY03
import Derived.Recover
import Derived.Lib.ItoaLen
set_option linter.unusedSimpArgs false
/- Regions that draw their order: slot readers (in any world alike), and a chain behind them. -/
namespace Go.Proofs.YtbdkggnajipdhaaDoor
open Go.RowKit
section
variable {P : Program} {n : Nat} {ops : Array Oper} {Q : Exit → Sl → World → Prop} {σ : Sl} {w : World}
def chB (ops : Array Oper) : Array Bool → List Nat → Bool
  | L, [] => decide (Region.ready .any ops L = [])
  | L, j :: r => decide (Region.ready .any ops L = [j]) && (match ops[j]? with
    | some ⟨_, _, _, _, _, none⟩ => true
    | _ => false) && chB ops (L.setIfInBounds j true) r
theorem Ord_chain : ∀ (js : List Nat) (listed : Array Bool) (σ : Sl) (w : World), chB ops listed js = true → E P n ops (opsL ops js) σ w (Q .normal) → Ord P n ops Q (fun _ => True) js.length listed σ w
  | [], L, σ, w, h, hE => Ord_done (of_decide_eq_true h) hE
  | j :: r, L, σ, w, h, hE => by
    rw [chB, Bool.and_eq_true, Bool.and_eq_true] at h
    obtain ⟨⟨h1, h2⟩, h3⟩ := h
    rw [opsL_cons] at hE
    cases ho : ops[j]? with
    | none => rw [ho] at h2; cases h2
    | some o =>
      obtain ⟨d, op, ty, p, af, g⟩ := o
      rw [ho] at h2
      cases g with
      | some g => cases h2
      | none =>
        rw [ho, optL_some, E_op] at hE
        exact Ord_one j (of_decide_eq_true h1) ho (Okv_mono (fun v w' hh => ⟨trivial, Ord_chain r _ _ _ h3 hh⟩) hE)
/-- Readers of slots, then a chain. -/
theorem Raw_rc (is js : List Nat) {τ : Sl} {id : Nat} (hm : P.follows .mixedOrders = true) (hsz : ops.size = js.length + is.length) (hs : Region.noSelect ops = true) (hB : rdB n ops (Array.replicate (js.length + is.length) false) is = true)
    (hc : chB ops (markL (Array.replicate (js.length + is.length) false) is) js = true) (hQ : ∀ c σ w, ¬ Q (.panic c) σ w)
    (hv : ∀ w', V P n w' (opsL ops is) σ (fun σ' => σ' = τ)) (h : E P n ops (opsL ops js) τ w.drew (Q .normal)) : Raw P n (.region id ops true) Q σ w :=
  Raw_ord (fun _ => True) _ hsz hm (Ord_reads is js.length rfl hs hB hQ trivial (fun w' _ => hv w') (Ord_chain js _ _ _ hc h))
/-! The same where the readers read memory: S is what all worlds of the chain meet. Guarded operations may stand in the chain. -/
def chG (ops : Array Oper) : Array Bool → List Nat → Bool
  | L, [] => decide (Region.ready .any ops L = [])
  | L, j :: r => decide (Region.ready .any ops L = [j]) && (ops[j]?).isSome && chG ops (L.setIfInBounds j true) r
def EC (P : Program) (n : Nat) (ops : Array Oper) (S : World → Prop) : List Oper → Sl → World → (Sl → World → Prop) → Prop
  | [], σ, w, K => K σ w
  | ⟨d, op, ty, _, _, g⟩ :: r, σ, w, K => match g with
    | none => Okv P (fun v w' => S w' ∧ EC P n ops S r (put n σ d v) w' K) (run1 P op ty σ w)
    | some (j, b) => GB P (isB b (gval σ (gslot ops j))) (run1 P op ty σ w) (fun v w' => S w' ∧ EC P n ops S r (put n σ d v) w' K) w
theorem EC_nil (S : World → Prop) (σ : Sl) (w : World) (K : Sl → World → Prop) : EC P n ops S [] σ w K = K σ w := nr rfl
theorem EC_op (S : World → Prop) (d : Option Nat) (op : Op) (ty : TypeId) (p : String) (af : Array Edge) (r : List Oper) (σ : Sl) (w : World) (K : Sl → World → Prop) :
    EC P n ops S (⟨d, op, ty, p, af, none⟩ :: r) σ w K = Okv P (fun v w' => S w' ∧ EC P n ops S r (put n σ d v) w' K) (run1 P op ty σ w) := nr rfl
theorem EC_opg (S : World → Prop) (d : Option Nat) (op : Op) (ty : TypeId) (p : String) (af : Array Edge) (j : Nat) (b : Bool) (r : List Oper) (σ : Sl) (w : World) (K : Sl → World → Prop) :
    EC P n ops S (⟨d, op, ty, p, af, some (j, b)⟩ :: r) σ w K = GB P (isB b (gval σ (gslot ops j))) (run1 P op ty σ w) (fun v w' => S w' ∧ EC P n ops S r (put n σ d v) w' K) w := nr rfl
@[congr] theorem EC_congr {S : World → Prop} {l : List Oper} {σ σ' : Sl} {w w' : World} {K : Sl → World → Prop} (h : σ = σ') (h' : w = w') : EC P n ops S l σ w K = EC P n ops S l σ' w' K := by rw [h, h']
theorem OpO_ofg {S : World → Prop} {fuel : Nat} {listed : Array Bool} (i : Nat) {d : Option Nat} {op : Op} {ty : TypeId} {p : String} {af : Array Edge} {j : Nat} {b : Bool} (hi : ops[i]? = some ⟨d, op, ty, p, af, some (j, b)⟩)
    (h : GB P (isB b (gval σ (gslot ops j))) (run1 P op ty σ w) (fun v w' => S w' ∧ Ord P n ops Q S fuel (listed.setIfInBounds i true) (put n σ d v) w') w) : OpO P n ops Q S fuel listed σ w i := by
  intro a hfr
  unfold wpOp
  simp only [hi]
  rw [wanted_some hfr rfl]
  unfold GB at h
  split
  · rename_i hg
    rw [if_pos hg] at h
    exact .inl (Oper.wp_of_Okv hfr (o := ⟨d, op, ty, p, af, some (j, b)⟩) h fun v w' hE => ⟨hE.1, hE.2 _ (hfr.put d v)⟩)
  · rename_i hg
    rw [if_neg hg] at h
    exact ⟨h.1, h.2 _ (hfr.put d undef)⟩
theorem GB_mono {g : Bool} {R R' : Value → World → Prop} {r : Result Next} (h : ∀ v w, R v w → R' v w) (hr : GB P g r R w) : GB P g r R' w := by
  unfold GB at *
  split
  · rename_i hg
    rw [if_pos hg] at hr
    exact Okv_mono h hr
  · rename_i hg
    rw [if_neg hg] at hr
    exact h _ _ hr
theorem Ord_chainS (S : World → Prop) : ∀ (js : List Nat) (listed : Array Bool) (σ : Sl) (w : World), chG ops listed js = true → EC P n ops S (opsL ops js) σ w (Q .normal) → Ord P n ops Q S js.length listed σ w
  | [], L, σ, w, h, hE => Ord_done (of_decide_eq_true h) hE
  | j :: r, L, σ, w, h, hE => by
    rw [chG, Bool.and_eq_true, Bool.and_eq_true] at h
    obtain ⟨⟨h1, h2⟩, h3⟩ := h
    rw [opsL_cons] at hE
    cases ho : ops[j]? with
    | none => rw [ho] at h2; cases h2
    | some o =>
      obtain ⟨d, op, ty, p, af, g⟩ := o
      refine Ord_all [j] (of_decide_eq_true h1) (by simp) fun k hk => ?_
      obtain rfl : k = j := by simpa using hk
      cases g with
      | some g =>
        obtain ⟨gj, gb⟩ := g
        rw [ho, optL_some, EC_opg] at hE
        exact OpO_ofg k ho (GB_mono (fun v w' hh => ⟨hh.1, Ord_chainS S r _ _ _ h3 hh.2⟩) hE)
      | none =>
        rw [ho, optL_some, EC_op] at hE
        exact OpO_of k ho (Okv_mono (fun v w' hh => ⟨hh.1, Ord_chainS S r _ _ _ h3 hh.2⟩) hE)
theorem Raw_rcS (S : World → Prop) (is js : List Nat) {τ : Sl} {id : Nat} (hm : P.follows .mixedOrders = true) (hsz : ops.size = js.length + is.length) (hs : Region.noSelect ops = true) (hB : rdB n ops (Array.replicate (js.length + is.length) false) is = true)
    (hc : chG ops (markL (Array.replicate (js.length + is.length) false) is) js = true) (hQ : ∀ c σ w, ¬ Q (.panic c) σ w) (hS : S w.drew)
    (hv : ∀ w', S w' → V P n w' (opsL ops is) σ (fun σ' => σ' = τ)) (h : EC P n ops S (opsL ops js) τ w.drew (Q .normal)) : Raw P n (.region id ops true) Q σ w :=
  Raw_ord S _ hsz hm (Ord_reads is js.length rfl hs hB hQ hS hv (Ord_chainS S js _ _ _ hc h))
/-- A scope whose label stands behind three pieces of code. -/
theorem Raw_scope3 {x1 x2 x3 r : Code} (l : Nat) (J : Sl → World → Prop) (μ : Sl → World → Nat) (hf : findLabel (x1.seq (x2.seq (x3.seq ((Code.label l).seq r)))) l = some (Code.skip.seq r)) (hQ : ∀ l σ w, ¬ Q (.goto l) σ w)
    (first : W P n x1 (thenX (W P n x2 (thenX (W P n x3 (thenX J Q)) Q)) Q) σ w) (pass : ∀ σ w, J σ w → ∀ K : Sl → World → Prop, (∀ σ' w', J σ' w' → μ σ' w' < μ σ w → K σ' w') → W P n r (jumpX l K Q) σ w) :
    Raw P n (.scope (x1.seq (x2.seq (x3.seq ((Code.label l).seq r))))) Q σ w := by
  refine Raw_scope l J μ hf ?_ fun σ w hJ K hK => by rw [W_seq, W_skip, thenX_normal]; exact pass σ w hJ K hK
  have key : ∀ {x : Code} {K K' : Sl → World → Prop} {σ : Sl} {w : World}, (∀ σ w, K σ w → K' σ w) → W P n x (thenX K Q) σ w → W P n x (thenX K' (jumpX l J Q)) σ w := fun h hw => W_mono _ (fun e σ' w' hq => by
    cases e
    case normal => exact h _ _ hq
    case goto l' => exact absurd hq (hQ _ _ _)
    all_goals exact hq) hw
  rw [W_seq]
  refine key (fun σ w h => ?_) first
  rw [W_seq]
  refine key (fun σ w h => ?_) h
  rw [W_seq]
  refine key (fun σ w h => ?_) h
  rw [W_seq, W_label, thenX_normal]
  exact pass σ w h J fun _ _ h _ => h
end
end Go.Proofs.YtbdkggnajipdhaaDoor
/- Regions that draw their order, where those that write wait for those that read: the pure ones are taken first, at the values that they yield in the world at hand. -/
namespace Go.Proofs.YtbdkggnajipdhaaDoor
open Go.RowKit
section
variable {P : Program} {md : Region.Mode} {ops : Array Oper} {Q : Exit → Act → World → Prop} {pl : List Nat}
/-- Whatever order is picked from here on; the operations of the list pl leave the world as it is. -/
def wpAnyT (P : Program) (md : Region.Mode) (ops : Array Oper) (Q : Exit → Act → World → Prop) (pl : List Nat) : Nat → Array Bool → Act → World → Prop
  | 0, listed, a, w => Region.ready md ops listed = [] ∧ Q .normal a w
  | fuel + 1, listed, a, w =>
    (Region.ready md ops listed = [] → Q .normal a w) ∧
    ∀ i ∈ Region.ready md ops listed, wpOp P ops Q i (fun a' w' => (pl.contains i = true → w' = w) ∧ wpAnyT P md ops Q pl fuel (listed.setIfInBounds i true) a' w') a w
theorem wpAny_of_T : ∀ (fuel : Nat) (listed : Array Bool) (a : Act) (w : World), wpAnyT P md ops Q pl fuel listed a w → wpAny P md ops Q fuel listed a w
  | 0, _, _, _, h => h
  | fuel + 1, _, _, _, h => ⟨h.1, fun i hi => wpOp_mono (fun a' w' h' => wpAny_of_T fuel _ a' w' h'.2) (h.2 i hi)⟩
theorem wpAnyT_first {i : Nat} {oi : Oper} {v : Value} (hi : ops[i]? = some oi) (hsel : ∀ (j : Nat) (o : Oper) cs b, ops[j]? = some o → o.op ≠ .select cs b)
    (hQ : ∀ c a w, Q (.panic c) (a.put oi.dst v) w → Q (.panic c) a w) :
    ∀ (fuel : Nat) (listed : Array Bool) (a : Act) (w : World),
      (∀ j oj, ops[j]? = some oj → j ≠ i → listed.getD j true = false → (∀ e ∈ oj.after, Region.binds md e = true → e.on ≠ i) → oi.apart ops oj = true ∧ pl.contains j = true) →
      i ∈ Region.ready md ops listed → YieldsIf P ops (fun w' => w' = w) oi v a →
      wpAnyT P md ops Q pl fuel (listed.setIfInBounds i true) (a.put oi.dst v) w → wpAnyT P md ops Q pl (fuel + 1) listed a w := by
  intro fuel
  induction fuel with
  | zero =>
    intro listed a w _ hr hy H
    refine ⟨fun h => (by rw [h] at hr; cases hr), fun j hj => ?_⟩
    by_cases hji : j = i
    · subst hji; exact hy.wpOp hi rfl ⟨fun _ => rfl, H⟩
    · have := ready_mono hj hji
      rw [H.1] at this
      cases this
  | succ fuel ih =>
    intro listed a w hfree hr hy H
    refine ⟨fun h => (by rw [h] at hr; cases hr), fun j hj => ?_⟩
    by_cases hji : j = i
    · subst hji; exact hy.wpOp hi rfl ⟨fun _ => rfl, H⟩
    · have h1 := H.2 j (ready_mono hj hji)
      obtain ⟨hjun, oj, hoj, hall⟩ := mem_ready.1 hj
      have hnot : ∀ e ∈ oj.after, Region.binds md e = true → e.on ≠ i := fun e he hb heq => by
        have h1 := hall e he hb
        have h0 := (mem_ready.1 hr).1
        rw [heq] at h1
        rcases Nat.lt_or_ge i listed.size with h' | h'
        · simp [h'] at h0 h1; rw [h0] at h1; cases h1
        · simp [Array.getElem?_eq_none h'] at h1
      obtain ⟨hap, hpj⟩ := hfree j oj hoj hji hjun hnot
      have h2 := wpOp_putIf hoj hap (fun cs b => hsel i oi cs b hi) (fun cs b => hsel j oj cs b hoj) hQ hy h1
      have hfree' : ∀ k ok, ops[k]? = some ok → k ≠ i → (listed.setIfInBounds j true).getD k true = false →
          (∀ e ∈ ok.after, Region.binds md e = true → e.on ≠ i) → oi.apart ops ok = true ∧ pl.contains k = true := fun k ok hk hki hun hno => by
        refine hfree k ok hk hki ?_ hno
        by_cases hjk : j = k
        · subst hjk; exact hjun
        · rw [getD_set_ne true hjk] at hun; exact hun
      refine wpOp_mono (fun a' w' h3 => ?_) h2
      obtain ⟨h4, h5, h6⟩ := h3
      have hw := h5 hpj
      subst hw
      refine ⟨fun _ => rfl, ih (listed.setIfInBounds j true) a' _ hfree' (ready_mono hr (Ne.symm hji)) h4 ?_⟩
      rw [Array.setIfInBounds_comm _ _ hji]
      exact h6
theorem wpAnyT_firstU {i : Nat} {oi : Oper} {v : Value} (hi : ops[i]? = some oi) (hsel : ∀ (j : Nat) (o : Oper) cs b, ops[j]? = some o → o.op ≠ .select cs b)
    (hQ : ∀ c a w, Q (.panic c) (a.put oi.dst v) w → Q (.panic c) a w) :
    ∀ (fuel : Nat) (listed : Array Bool) (a : Act) (w : World),
      (∀ j oj, ops[j]? = some oj → j ≠ i → listed.getD j true = false → (∀ e ∈ oj.after, Region.binds md e = true → e.on ≠ i) → oi.apart ops oj = true) →
      i ∈ Region.ready md ops listed → YieldsIf P ops (fun _ => True) oi v a →
      wpAnyT P md ops Q pl fuel (listed.setIfInBounds i true) (a.put oi.dst v) w → wpAnyT P md ops Q pl (fuel + 1) listed a w := by
  intro fuel
  induction fuel with
  | zero =>
    intro listed a w _ hr hy H
    refine ⟨fun h => (by rw [h] at hr; cases hr), fun j hj => ?_⟩
    by_cases hji : j = i
    · subst hji; exact hy.wpOp hi trivial ⟨fun _ => rfl, H⟩
    · have := ready_mono hj hji
      rw [H.1] at this
      cases this
  | succ fuel ih =>
    intro listed a w hfree hr hy H
    refine ⟨fun h => (by rw [h] at hr; cases hr), fun j hj => ?_⟩
    by_cases hji : j = i
    · subst hji; exact hy.wpOp hi trivial ⟨fun _ => rfl, H⟩
    · have h1 := H.2 j (ready_mono hj hji)
      obtain ⟨hjun, oj, hoj, hall⟩ := mem_ready.1 hj
      have hnot : ∀ e ∈ oj.after, Region.binds md e = true → e.on ≠ i := fun e he hb heq => by
        have h1 := hall e he hb
        have h0 := (mem_ready.1 hr).1
        rw [heq] at h1
        rcases Nat.lt_or_ge i listed.size with h' | h'
        · simp [h'] at h0 h1; rw [h0] at h1; cases h1
        · simp [Array.getElem?_eq_none h'] at h1
      have h2 := wpOp_putIf hoj (hfree j oj hoj hji hjun hnot) (fun cs b => hsel i oi cs b hi) (fun cs b => hsel j oj cs b hoj) hQ hy h1
      have hfree' : ∀ k ok, ops[k]? = some ok → k ≠ i → (listed.setIfInBounds j true).getD k true = false →
          (∀ e ∈ ok.after, Region.binds md e = true → e.on ≠ i) → oi.apart ops ok = true := fun k ok hk hki hun hno => by
        refine hfree k ok hk hki ?_ hno
        by_cases hjk : j = k
        · subst hjk; exact hjun
        · rw [getD_set_ne true hjk] at hun; exact hun
      refine wpOp_mono (fun a' w' h3 => ?_) h2
      obtain ⟨h4, h5, h6⟩ := h3
      refine ⟨h5, ih (listed.setIfInBounds j true) a' _ hfree' (ready_mono hr (Ne.symm hji)) h4 ?_⟩
      rw [Array.setIfInBounds_comm _ _ hji]
      exact h6
end
section
variable {P : Program} {n : Nat} {ops : Array Oper} {Q : Exit → Sl → World → Prop} {σ : Sl} {w : World} {fuel : Nat} {listed : Array Bool} {pl : List Nat}
def OrdT (P : Program) (n : Nat) (ops : Array Oper) (Q : Exit → Sl → World → Prop) (pl : List Nat) (fuel : Nat) (listed : Array Bool) (σ : Sl) (w : World) : Prop :=
  ∀ a, Fr n σ a → wpAnyT P .any ops (lift n Q) pl fuel listed a w
@[congr] theorem OrdT_congr {σ σ' : Sl} {w w' : World} (h : σ = σ') (h' : w = w') : OrdT P n ops Q pl fuel listed σ w = OrdT P n ops Q pl fuel listed σ' w' := by rw [h, h']
theorem Raw_ordT (pl : List Nat) (m : Nat) (hsz : ops.size = m) {id : Nat} (hm : P.follows .mixedOrders = true) (h : OrdT P n ops Q pl m (Array.replicate m false) σ w.drew) : Raw P n (.region id ops true) Q σ w := by
  intro a hf
  subst hsz
  exact wp_region_any hm (wpAny_of_T _ _ _ _ (h a hf))
/-- Each operation that has not come up waits for i, or is one of the pure ones and apart from it. -/
def freeT (ops : Array Oper) (pl : List Nat) (listed : Array Bool) (i : Nat) : Bool :=
  match ops[i]? with
  | none => false
  | some oi => (List.range ops.size).all fun j => j == i || listed.getD j true || match ops[j]? with
      | some oj => oj.after.any (fun e => Region.binds .any e && e.on == i) || (oi.apart ops oj && pl.contains j)
      | none => true
theorem freeT_spec {i : Nat} {oi : Oper} (hi : ops[i]? = some oi) (h : freeT ops pl listed i = true) (j : Nat) (oj : Oper)
    (hj : ops[j]? = some oj) (hne : j ≠ i) (hun : listed.getD j true = false) (hno : ∀ e ∈ oj.after, Region.binds .any e = true → e.on ≠ i) : oi.apart ops oj = true ∧ pl.contains j = true := by
  unfold freeT at h
  simp only [hi, List.all_eq_true, List.mem_range] at h
  have h1 := h j (Array.getElem?_eq_some_iff.1 hj).1
  rw [hj, hun] at h1
  simp only [Bool.or_false, Bool.or_eq_true, beq_iff_eq, Bool.and_eq_true, Array.any_eq_true', decide_eq_true_eq] at h1
  rcases h1 with h1 | h1 | h1
  · exact absurd h1 hne
  · obtain ⟨e, he, hb, ho⟩ := h1
    exact absurd ho (hno e he hb)
  · exact h1
theorem OrdT_take (i : Nat) {d : Option Nat} {op : Op} {ty : TypeId} {p : String} {af : Array Edge} {v : Value} (hi : ops[i]? = some ⟨d, op, ty, p, af, none⟩)
    (hs : Region.noSelect ops = true) (hf : freeT ops pl listed i = true) (hr : (Region.ready .any ops listed).contains i = true)
    (hQ : ∀ c σ w, ¬ Q (.panic c) σ w) (hv : run1 P op ty σ w = .ok (.value v) w)
    (h : OrdT P n ops Q pl fuel (listed.setIfInBounds i true) (put n σ d v) w) : OrdT P n ops Q pl (fuel + 1) listed σ w := by
  intro a hfr
  refine wpAnyT_first hi (Region.noSelect_spec hs) ?_ fuel listed a w (freeT_spec hi hf) (by simpa using hr) (v := v) ?_ (h _ (hfr.put d v))
  · rintro c a w ⟨σ', _, hq⟩
    exact absurd hq (hQ _ _ _)
  · refine .inl ⟨wanted_none rfl, fun w' hw' => ?_⟩
    subst hw'
    rw [hfr.eval]
    exact hv
/-- One that writes, if nobody else may come up. -/
theorem OrdT_all (rs : List Nat) (hr : Region.ready .any ops listed = rs) (hne : rs ≠ []) (h : ∀ i ∈ rs, pl.contains i = false ∧ match ops[i]? with
      | some ⟨d, op, ty, _, _, none⟩ => Okv P (fun v w' => OrdT P n ops Q pl fuel (listed.setIfInBounds i true) (put n σ d v) w') (run1 P op ty σ w)
      | _ => False) : OrdT P n ops Q pl (fuel + 1) listed σ w := by
  intro a hfr
  refine ⟨fun h0 => absurd (hr ▸ h0) hne, hr ▸ fun i hi => ?_⟩
  obtain ⟨h1, h2⟩ := h i hi
  cases ho : ops[i]? with
  | none => rw [ho] at h2; exact h2.elim
  | some o =>
    rw [ho] at h2
    obtain ⟨d, op, ty, p, af, g⟩ := o
    cases g with
    | some g => exact h2.elim
    | none =>
      unfold wpOp
      simp only [ho]
      rw [if_pos (wanted_none rfl)]
      exact .inl (Oper.wp_of_Okv hfr (o := ⟨d, op, ty, p, af, none⟩) h2 fun v w' hE => ⟨fun hp => (by rw [h1] at hp; cases hp), hE _ (hfr.put d v)⟩)
theorem OrdT_one (i : Nat) {d : Option Nat} {op : Op} {ty : TypeId} {p : String} {af : Array Edge} (hr : Region.ready .any ops listed = [i]) (hp : pl.contains i = false) (hi : ops[i]? = some ⟨d, op, ty, p, af, none⟩)
    (h : Okv P (fun v w' => OrdT P n ops Q pl fuel (listed.setIfInBounds i true) (put n σ d v) w') (run1 P op ty σ w)) : OrdT P n ops Q pl (fuel + 1) listed σ w :=
  OrdT_all [i] hr (by simp) fun j hj => by
    obtain rfl : j = i := by simpa using hj
    exact ⟨hp, by rw [hi]; exact h⟩
theorem OrdT_done (hr : Region.ready .any ops listed = []) (h : Q .normal σ w) : OrdT P n ops Q pl fuel listed σ w := fun a hf => by
  cases fuel with
  | zero => exact ⟨hr, σ, hf, h⟩
  | succ f => exact ⟨fun _ => ⟨σ, hf, h⟩, by rw [hr]; simp⟩
def rdT (n : Nat) (ops : Array Oper) (pl : List Nat) : Array Bool → List Nat → Bool
  | _, [] => true
  | L, i :: r => (match ops[i]? with
    | some ⟨some d, _, _, _, _, none⟩ => decide (d < n) && r.all fun j => (ops[j]?).bind (·.dst) != some d
    | _ => false) && freeT ops pl L i && (Region.ready .any ops L).contains i && rdT n ops pl (L.setIfInBounds i true) r
theorem OrdT_reads (is : List Nat) (f : Nat) {m : Nat} {τ : Sl} (hf : m = f + is.length) (hs : Region.noSelect ops = true) (hB : rdT n ops pl listed is = true)
    (hQ : ∀ c σ w, ¬ Q (.panic c) σ w) (hv : V P n w (opsL ops is) σ (fun σ' => σ' = τ))
    (h : OrdT P n ops Q pl f (markL listed is) τ w) : OrdT P n ops Q pl m listed σ w := by
  subst hf
  induction is generalizing listed σ with
  | nil => have e : σ = τ := hv; rw [e]; exact h
  | cons i r ih =>
    rw [rdT, Bool.and_eq_true, Bool.and_eq_true, Bool.and_eq_true] at hB
    obtain ⟨⟨⟨h1, h2⟩, h3⟩, h4⟩ := hB
    cases ho : ops[i]? with
    | none => rw [ho] at h1; cases h1
    | some o =>
      obtain ⟨d', op, ty, p, af, g⟩ := o
      rw [ho] at h1
      cases d' with
      | none => cases h1
      | some d =>
      cases g with
      | some g => cases h1
      | none =>
      rw [opsL_cons, ho, optL_some, V_op] at hv
      cases hr1 : run1 P op ty σ w with
      | halt x w2 => rw [hr1] at hv; exact hv.elim
      | ok nx w2 =>
        rw [hr1] at hv
        cases nx with
        | value v =>
          obtain ⟨rfl, hv⟩ := hv
          exact OrdT_take i ho hs h2 h3 hQ hr1 (ih h4 hv h)
        | _ => exact hv.elim
theorem OrdT_pair (i j : Nat) {di dj : Option Nat} {opi opj : Op} {tyi tyj : TypeId} {pi pj : String} {afi afj : Array Edge} (hr : Region.ready .any ops listed = [i, j])
    (hr1 : Region.ready .any ops (listed.setIfInBounds i true) = [j]) (hr2 : Region.ready .any ops (listed.setIfInBounds j true) = [i])
    (hr3 : Region.ready .any ops ((listed.setIfInBounds i true).setIfInBounds j true) = []) (hr4 : Region.ready .any ops ((listed.setIfInBounds j true).setIfInBounds i true) = [])
    (hpi : pl.contains i = false) (hpj : pl.contains j = false) (hij : i ≠ j) (hi : ops[i]? = some ⟨di, opi, tyi, pi, afi, none⟩) (hj : ops[j]? = some ⟨dj, opj, tyj, pj, afj, none⟩)
    (h1 : Okv P (fun v w' => Okv P (fun u w'' => Q .normal (put n (put n σ di v) dj u) w'') (run1 P opj tyj (put n σ di v) w')) (run1 P opi tyi σ w))
    (h2 : Okv P (fun v w' => Okv P (fun u w'' => Q .normal (put n (put n σ dj v) di u) w'') (run1 P opi tyi (put n σ dj v) w')) (run1 P opj tyj σ w)) : OrdT P n ops Q pl 2 listed σ w :=
  OrdT_all [i, j] hr (by simp) fun k hk => by
    simp only [List.mem_cons, List.not_mem_nil, or_false] at hk
    rcases hk with rfl | rfl
    · refine ⟨hpi, ?_⟩
      rw [hi]
      exact Okv_mono (fun v w' h => OrdT_one j hr1 hpj hj (Okv_mono (fun u w'' h => OrdT_done hr3 h) h)) h1
    · refine ⟨hpj, ?_⟩
      rw [hj]
      exact Okv_mono (fun v w' h => OrdT_one i hr2 hpi hi (Okv_mono (fun u w'' h => OrdT_done hr4 h) h)) h2
/-- A reader of slots: its value in whatever world. -/
theorem OrdT_takeU (i : Nat) {d : Option Nat} {op : Op} {ty : TypeId} {p : String} {af : Array Edge} {v : Value} (hi : ops[i]? = some ⟨d, op, ty, p, af, none⟩)
    (hs : Region.noSelect ops = true) (hf : Region.free .any ops listed i = true) (hr : (Region.ready .any ops listed).contains i = true)
    (hQ : ∀ c σ w, ¬ Q (.panic c) σ w) (hv : ∀ w', run1 P op ty σ w' = .ok (.value v) w')
    (h : OrdT P n ops Q pl fuel (listed.setIfInBounds i true) (put n σ d v) w) : OrdT P n ops Q pl (fuel + 1) listed σ w := by
  intro a hfr
  refine wpAnyT_firstU hi (Region.noSelect_spec hs) ?_ fuel listed a w (Region.free_spec hi hf) (by simpa using hr) (v := v) ?_ (h _ (hfr.put d v))
  · rintro c a w ⟨σ', _, hq⟩
    exact absurd hq (hQ _ _ _)
  · refine .inl ⟨wanted_none rfl, fun w' _ => ?_⟩
    rw [hfr.eval]
    exact hv w'
theorem OrdT_readsU (is : List Nat) (f : Nat) {m : Nat} {τ : Sl} (hf : m = f + is.length) (hs : Region.noSelect ops = true) (hB : rdB n ops listed is = true)
    (hQ : ∀ c σ w, ¬ Q (.panic c) σ w) (hv : ∀ w', V P n w' (opsL ops is) σ (fun σ' => σ' = τ))
    (h : OrdT P n ops Q pl f (markL listed is) τ w) : OrdT P n ops Q pl m listed σ w := by
  subst hf
  induction is generalizing listed σ with
  | nil => have e : σ = τ := hv w; rw [e]; exact h
  | cons i r ih =>
    rw [rdB, Bool.and_eq_true, Bool.and_eq_true, Bool.and_eq_true] at hB
    obtain ⟨⟨⟨h1, h2⟩, h3⟩, h4⟩ := hB
    cases ho : ops[i]? with
    | none => rw [ho] at h1; cases h1
    | some o =>
      obtain ⟨d', op, ty, p, af, g⟩ := o
      rw [ho] at h1
      cases d' with
      | none => cases h1
      | some d =>
      cases g with
      | some g => cases h1
      | none =>
      simp only [Bool.and_eq_true, decide_eq_true_eq] at h1
      obtain ⟨hd, hr⟩ := h1
      have key : ∀ w', run1 P op ty σ w' = .ok (.value (τ d)) w' ∧ V P n w' (opsL ops r) (put n σ (some d) (τ d)) (fun σ' => σ' = τ) := by
        intro w'
        have hv := hv w'
        rw [opsL_cons, ho, optL_some, V_op] at hv
        cases hr1 : run1 P op ty σ w' with
        | halt x w2 => rw [hr1] at hv; exact hv.elim
        | ok nx w2 =>
          rw [hr1] at hv
          cases nx with
          | value v =>
            obtain ⟨rfl, hv⟩ := hv
            have e := V_keep r _ hr hv
            rw [put_some, if_pos hd, upd_same] at e
            rw [e]
            exact ⟨rfl, hv⟩
          | _ => exact hv.elim
      exact OrdT_takeU i ho hs h2 h3 hQ (fun w' => (key w').1) (ih h4 (fun w' => (key w').2) h)
theorem OrdT_chain : ∀ (js : List Nat) (listed : Array Bool) (σ : Sl) (w : World), (js.all fun j => !pl.contains j) = true → chB ops listed js = true → E P n ops (opsL ops js) σ w (Q .normal) → OrdT P n ops Q pl js.length listed σ w
  | [], L, σ, w, _, h, hE => OrdT_done (of_decide_eq_true h) hE
  | j :: r, L, σ, w, hp, h, hE => by
    rw [chB, Bool.and_eq_true, Bool.and_eq_true] at h
    rw [List.all_cons, Bool.and_eq_true] at hp
    obtain ⟨⟨h1, h2⟩, h3⟩ := h
    rw [opsL_cons] at hE
    cases ho : ops[j]? with
    | none => rw [ho] at h2; cases h2
    | some o =>
      obtain ⟨d, op, ty, p, af, g⟩ := o
      rw [ho] at h2
      cases g with
      | some g => cases h2
      | none =>
        rw [ho, optL_some, E_op] at hE
        exact OrdT_one j (of_decide_eq_true h1) (by simpa using hp.1) ho (Okv_mono (fun v w' hh => OrdT_chain r _ _ _ hp.2 h3 hh) hE)
end
end Go.Proofs.YtbdkggnajipdhaaDoor
/- Frames: all blocks but the listed ones stay. -/
namespace Go.Proofs.YtbdkggnajipdhaaDoor
open Go.RowKit
set_option maxRecDepth 100000
/-- All blocks but the listed ones stay. -/
structure Kept (X : List Nat) (w w' : World) : Prop where
  os : w'.os = w.os
  tape : w'.tape = w.tape
  output : w'.output = w.output
  size : w.heap.size ≤ w'.heap.size
  block : ∀ k, k < w.heap.size → k ∉ X → w'.heap[k]? = w.heap[k]?
section
variable {X : List Nat} {a w w' : World}
theorem Kept.refl (X : List Nat) (w : World) : Kept X w w := ⟨rfl, rfl, rfl, Nat.le_refl _, fun _ _ _ => rfl⟩
theorem Kept.trans (h : Kept X a w) (k : Kept X w w') : Kept X a w' :=
  ⟨k.os.trans h.os, k.tape.trans h.tape, k.output.trans h.output, Nat.le_trans h.size k.size, fun g hg hr => (k.block g (Nat.lt_of_lt_of_le hg h.size) hr).trans (h.block g hg hr)⟩
theorem Kept.of_below (h : Below w.heap.size w w') : Kept X w w' := ⟨h.os, h.tape, h.output, h.size, fun g hg _ => h.block g hg⟩
theorem Kept.of_only {g : Nat} (h : Only g (g + 1) w w') (hg : g ∈ X) : Kept X w w' :=
  ⟨h.os, h.tape, h.output, h.size, fun k hk hr => h.block k hk (by have : k ≠ g := fun e => hr (e ▸ hg); omega)⟩
theorem Kept.alloc (h : Kept X a w) (o : Obj) : Kept X a (w.alloc o) := h.trans (Kept.of_below (below_alloc w o))
theorem Kept.drew (h : Kept X a w) : Kept X a w.drew := ⟨h.os, h.tape, h.output, h.size, h.block⟩
theorem Kept.setCell (h : Kept X a w) {p : Addr} (hp : p.block ∈ X) (v : Value) : Kept X a (w.setCell p v) :=
  h.trans (Kept.of_only (g := p.block) ((Only.refl p.block (p.block + 1) w).setCell (Nat.le_refl _) (Nat.lt_succ_self _) v) hp)
theorem Row.kept {g : Nat} {T : TypeId} {cs : List Value} (h : Row w g T cs) (k : Kept X w w') (hg : g ∉ X) : Row w' g T cs := h.of_block (k.block g h.lt hg)
/-- What is new may be listed too. -/
theorem Kept.less {Y : List Nat} (h : Kept X w w') (hY : ∀ k ∈ X, k < w.heap.size → k ∈ Y) : Kept Y w w' :=
  ⟨h.os, h.tape, h.output, h.size, fun k hk hr => h.block k hk fun hx => hr (hY k hx hk)⟩
theorem Kept.only {g : Nat} (h : Kept [g] w w') : Only g (g + 1) w w' := ⟨h.os, h.tape, h.output, h.size, fun k hk hr => h.block k hk (by simp; omega)⟩
theorem Kept.cell {g o : Nat} (h : Kept X w w') (hg : g < w.heap.size) (hr : g ∉ X) : w'.cell? ⟨g, o, none⟩ = w.cell? ⟨g, o, none⟩ := World.cell?_of_block (w := w) (h.block g hg hr)
theorem Kept.frozen {g o : Nat} (h : Kept X w w') (hg : g < w.heap.size) (hr : g ∉ X) : w'.frozen? ⟨g, o, none⟩ = w.frozen? ⟨g, o, none⟩ := World.frozen?_of_block (w := w) (h.block g hg hr)
end
theorem Arr.kept {X : List Nat} {w w' : World} {A : Option Addr} {sz : Nat} {Ls : List (List Value)} (h : Arr w A sz Ls) (k : Kept X w w') (hA : ∀ b o, A = some ⟨b, o, none⟩ → b ∉ X) : Arr w' A sz Ls := fun hn => by
  obtain ⟨b, o, e, hb, hc⟩ := h hn
  exact ⟨b, o, e, Nat.lt_of_lt_of_le hb k.size, fun i l hl j u hu => (k.cell hb (hA b o e)).trans (hc i l hl j u hu)⟩
end Go.Proofs.YtbdkggnajipdhaaDoor
/- Regions that draw their order: a reader that waits for a condition. -/
namespace Go.Proofs.YtbdkggnajipdhaaDoor
open Go.RowKit
section
variable {P : Program} {n : Nat} {ops : Array Oper} {Q : Exit → Sl → World → Prop} {σ : Sl} {w : World} {fuel : Nat} {listed : Array Bool} {S : World → Prop}
theorem Ord_takeg (i : Nat) {d : Option Nat} {op : Op} {ty : TypeId} {p : String} {af : Array Edge} {j : Nat} {b : Bool} {v : Value} (hi : ops[i]? = some ⟨d, op, ty, p, af, some (j, b)⟩)
    (hs : Region.noSelect ops = true) (hf : Region.free .any ops listed i = true) (hr : (Region.ready .any ops listed).contains i = true)
    (hQ : ∀ c σ w, ¬ Q (.panic c) σ w) (hS : S w) (hg : isB b (gval σ (gslot ops j)) = true) (hv : ∀ w', S w' → run1 P op ty σ w' = .ok (.value v) w')
    (h : Ord P n ops Q S fuel (listed.setIfInBounds i true) (put n σ d v) w) : Ord P n ops Q S (fuel + 1) listed σ w := by
  intro a hfr
  refine wpAnyH_take hi hs hf hr ?_ (v := v) ?_ hS (h _ (hfr.put d v))
  · rintro c a w ⟨σ', _, hq⟩
    exact absurd hq (hQ _ _ _)
  · refine .inl ⟨by rw [wanted_some hfr rfl]; exact hg, fun w' hw' => ?_⟩
    have := hv w' hw'
    rw [hfr.eval]
    exact this
theorem Ord_takeo (i : Nat) {d : Option Nat} {op : Op} {ty : TypeId} {p : String} {af : Array Edge} {j : Nat} {b : Bool} (hi : ops[i]? = some ⟨d, op, ty, p, af, some (j, b)⟩)
    (hs : Region.noSelect ops = true) (hf : Region.free .any ops listed i = true) (hr : (Region.ready .any ops listed).contains i = true)
    (hQ : ∀ c σ w, ¬ Q (.panic c) σ w) (hS : S w) (hg : isB b (gval σ (gslot ops j)) = false)
    (h : Ord P n ops Q S fuel (listed.setIfInBounds i true) (put n σ d undef) w) : Ord P n ops Q S (fuel + 1) listed σ w := by
  intro a hfr
  refine wpAnyH_take hi hs hf hr ?_ (v := undef) ?_ hS (h _ (hfr.put d undef))
  · rintro c a w ⟨σ', _, hq⟩
    exact absurd hq (hQ _ _ _)
  · exact .inr ⟨by rw [wanted_some hfr rfl]; exact hg, rfl⟩
end
end Go.Proofs.YtbdkggnajipdhaaDoor
/- The engine where calls may panic: the same as XEng's E and W, with a place for what is asked once the code panics; frames that have deferred calls. No function of the program in sight. -/
namespace Go.Proofs.YtbdkggnajipdhaaDoor
open Go.RowKit
/-- The frame 'a' has n slots σ and the deferred calls ds. -/
structure FrD (ds : List Deferred) (n : Nat) (σ : Sl) (a : Act) : Prop where
  size : a.tmps.size = n
  defers : a.defers = ds
  at_ : ∀ i, a.tmps.getD i undef = σ i
theorem FrD.eval {ds : List Deferred} {n : Nat} {σ : Sl} {a : Act} (h : FrD ds n σ a) : a.eval = ev σ := by
  funext o
  cases o <;> first | rfl | exact h.at_ _
theorem FrD.fr {ds : List Deferred} {n : Nat} {σ : Sl} {a : Act} (h : FrD ds n σ a) : Fr n σ { a with defers := [] } := ⟨h.size, rfl, h.at_⟩
theorem FrD.put {ds : List Deferred} {n : Nat} {σ : Sl} {a : Act} (h : FrD ds n σ a) (d : Option Nat) (v : Value) : FrD ds n (put n σ d v) (a.put d v) := by
  have hq := h.fr.put d v
  refine ⟨?_, ?_, fun i => ?_⟩
  · have := hq.size; cases d <;> simpa [Act.put] using this
  · cases d <;> exact h.defers
  · have := hq.at_ i; cases d <;> exact this
theorem wanted_someD {ds : List Deferred} {n : Nat} {σ : Sl} {a : Act} (h : FrD ds n σ a) {ops : Array Oper} {o : Oper} {j : Nat} {b : Bool} (hg : o.guard = some (j, b)) :
    Region.wanted o (yielded ops a.tmps) = isB b (gval σ (gslot ops j)) := wanted_some h.fr hg
/-- How a call ends: R behind a return, X behind a panic. -/
def Ends (R : Value → World → Prop) (X : List PanicEntry → World → Prop) : Ending → World → Prop
  | .returned v, w => R v w
  | .panicked c, w => X c w
  | .outgrown, _ => False
theorem Ends_ret (R : Value → World → Prop) (X : List PanicEntry → World → Prop) (v : Value) (w : World) : Ends R X (.returned v) w = R v w := nr rfl
theorem Ends_pan (R : Value → World → Prop) (X : List PanicEntry → World → Prop) (c : List PanicEntry) (w : World) : Ends R X (.panicked c) w = X c w := nr rfl
def OkvX (P : Program) (R : Value → World → Prop) (X : List PanicEntry → World → Prop) : Result Next → Prop
  | .ok (.value v) w' => R v w'
  | .ok .skip w' => R undef w'
  | .ok (.enter f args) w' => Calls P f args w' (Ends R X)
  | .halt (.panic v) w' => X [{ v, recovered := false }] w'
  | _ => False
def GBX (P : Program) (g : Bool) (r : Result Next) (R : Value → World → Prop) (X : List PanicEntry → World → Prop) (w : World) : Prop := if g then OkvX P R X r else R undef w
/-- The operations of a region in their order; X: what is asked once one of them panics. -/
def EX (P : Program) (n : Nat) (ops : Array Oper) (X : List PanicEntry → Sl → World → Prop) : List Oper → Sl → World → (Sl → World → Prop) → Prop
  | [], σ, w, K => K σ w
  | ⟨d, op, ty, _, _, g⟩ :: r, σ, w, K => match g with
    | none => OkvX P (fun v w' => EX P n ops X r (put n σ d v) w' K) (fun c w' => X c σ w') (run1 P op ty σ w)
    | some (j, b) => GBX P (isB b (gval σ (gslot ops j))) (run1 P op ty σ w) (fun v w' => EX P n ops X r (put n σ d v) w' K) (fun c w' => X c σ w') w
section
variable {P : Program} {n : Nat} {X : List PanicEntry → Sl → World → Prop}
theorem EX_nil (ops : Array Oper) (σ : Sl) (w : World) (K : Sl → World → Prop) : EX P n ops X [] σ w K = K σ w := nr rfl
theorem EX_op (ops : Array Oper) (d : Option Nat) (op : Op) (ty : TypeId) (p : String) (af : Array Edge) (r : List Oper) (σ : Sl) (w : World) (K : Sl → World → Prop) :
    EX P n ops X (⟨d, op, ty, p, af, none⟩ :: r) σ w K = OkvX P (fun v w' => EX P n ops X r (put n σ d v) w' K) (fun c w' => X c σ w') (run1 P op ty σ w) := nr rfl
theorem EX_opg (ops : Array Oper) (d : Option Nat) (op : Op) (ty : TypeId) (p : String) (af : Array Edge) (j : Nat) (b : Bool) (r : List Oper) (σ : Sl) (w : World) (K : Sl → World → Prop) :
    EX P n ops X (⟨d, op, ty, p, af, some (j, b)⟩ :: r) σ w K = GBX P (isB b (gval σ (gslot ops j))) (run1 P op ty σ w) (fun v w' => EX P n ops X r (put n σ d v) w' K) (fun c w' => X c σ w') w := nr rfl
theorem OkvX_value (R : Value → World → Prop) (Y : List PanicEntry → World → Prop) (v : Value) (w : World) : OkvX P R Y (.ok (.value v) w) = R v w := nr rfl
theorem OkvX_skip (R : Value → World → Prop) (Y : List PanicEntry → World → Prop) (w : World) : OkvX P R Y (.ok .skip w) = R undef w := nr rfl
theorem OkvX_enter (R : Value → World → Prop) (Y : List PanicEntry → World → Prop) (f : FuncId) (args : Array Value) (w : World) : OkvX P R Y (.ok (.enter f args) w) = Calls P f args w (Ends R Y) := nr rfl
theorem OkvX_panic (R : Value → World → Prop) (Y : List PanicEntry → World → Prop) (v : Value) (w : World) : OkvX P R Y (.halt (.panic v) w) = Y [{ v, recovered := false }] w := nr rfl
theorem GBX_true (r : Result Next) (R : Value → World → Prop) (Y : List PanicEntry → World → Prop) (w : World) : GBX P true r R Y w = OkvX P R Y r := nr rfl
theorem GBX_false (r : Result Next) (R : Value → World → Prop) (Y : List PanicEntry → World → Prop) (w : World) : GBX P false r R Y w = R undef w := by simp [GBX]
theorem GBX_value (g : Bool) (v : Value) (R : Value → World → Prop) (Y : List PanicEntry → World → Prop) (w : World) : GBX P g (.ok (.value v) w) R Y w = R (cv g v) w := by cases g <;> simp [GBX, OkvX, cv]
@[congr] theorem OkvX_congr {R : Value → World → Prop} {Y : List PanicEntry → World → Prop} {r r' : Result Next} (h : r = r') : OkvX P R Y r = OkvX P R Y r' := by rw [h]
@[congr] theorem GBX_congr {g g' : Bool} {r r' : Result Next} {R : Value → World → Prop} {Y : List PanicEntry → World → Prop} {w : World} (hg : g = g') (hr : g' = true → r = r') : GBX P g r R Y w = GBX P g' r' R Y w := by
  subst hg; cases g
  · rfl
  · rw [hr rfl]
@[congr] theorem EX_congr {ops : Array Oper} {l : List Oper} {σ σ' : Sl} {w w' : World} {K : Sl → World → Prop} (h : σ = σ') (h' : w = w') : EX P n ops X l σ w K = EX P n ops X l σ' w' K := by rw [h, h']
theorem GBX_split {r : Result Next} {g : Bool} {R : Value → World → Prop} {Y : List PanicEntry → World → Prop} {w : World} (ht : g = true → OkvX P R Y r) (hf : g = false → R undef w) : GBX P g r R Y w := by
  cases g
  · rw [GBX_false]; exact hf rfl
  · rw [GBX_true]; exact ht rfl
end
theorem Oper.wp_of_OkvX {P : Program} {n : Nat} {ds : List Deferred} {σ : Sl} {a : Act} {w : World} (hf : FrD ds n σ a) {o : Oper} {R : Value → World → Prop} {Y : List PanicEntry → World → Prop} {next : Act → World → Prop} {Q : Exit → Act → World → Prop}
    (h : OkvX P R Y (run1 P o.op o.type σ w)) (hR : ∀ v w', R v w' → next (a.put o.dst v) w') (hY : ∀ c w', Y c w' → Q (.panic c) a w') : o.wp P a w next Q := by
  unfold Oper.wp
  have e : (execOp a.eval o).run P w = run1 P o.op o.type σ w := by rw [hf.eval]; rfl
  rw [e]
  generalize run1 P o.op o.type σ w = r at h
  cases r with
  | halt x w' => cases x <;> simp only [OkvX] at h <;> simp only [Oper.upon]; exact hY _ _ h
  | ok nx w' =>
    cases nx <;> simp only [OkvX] at h <;> simp only [Oper.upon]
    case value v => exact hR _ _ h
    case skip => exact hR _ _ h
    case enter f args =>
      refine h.mono fun e w'' he => ?_
      cases e with
      | returned v => exact hR _ _ he
      | panicked c => exact hY _ _ he
      | outgrown => exact he.elim
theorem EX_sound {P : Program} {n : Nat} {ds : List Deferred} {ops : Array Oper} {X : List PanicEntry → Sl → World → Prop} {K : Sl → World → Prop} {Q : Exit → Act → World → Prop} (hQ : ∀ σ a w, FrD ds n σ a → K σ w → Q .normal a w)
    (hX : ∀ c σ a w, FrD ds n σ a → X c σ w → Q (.panic c) a w) :
    ∀ (l : List Oper) (σ : Sl) (a : Act) (w : World), FrD ds n σ a → EX P n ops X l σ w K → wpList P ops Q l a w
  | [], σ, a, w, hf, h => hQ _ _ _ hf h
  | ⟨d, op, ty, p, af, none⟩ :: r, σ, a, w, hf, h => by
    unfold wpList
    rw [if_pos (wanted_none rfl)]
    exact .inl (Oper.wp_of_OkvX hf (o := ⟨d, op, ty, p, af, none⟩) h (fun v w' hE => EX_sound hQ hX r _ _ _ (hf.put d v) hE) fun c w' hc => hX _ _ _ _ hf hc)
  | ⟨d, op, ty, p, af, some (j, b)⟩ :: r, σ, a, w, hf, h => by
    unfold wpList
    rw [EX_opg, GBX] at h
    rw [wanted_someD hf rfl]
    split
    · rename_i hw
      rw [if_pos hw] at h
      exact .inl (Oper.wp_of_OkvX hf (o := ⟨d, op, ty, p, af, some (j, b)⟩) h (fun v w' hE => EX_sound hQ hX r _ _ _ (hf.put d v) hE) fun c w' hc => hX _ _ _ _ hf hc)
    · rename_i hw
      rw [if_neg hw] at h
      exact EX_sound hQ hX r _ _ _ (hf.put d undef) h
def liftD (ds : List Deferred) (n : Nat) (Q : Exit → Sl → World → Prop) : Exit → Act → World → Prop := fun e a w => ∃ σ, FrD ds n σ a ∧ Q e σ w
def RawD (ds : List Deferred) (P : Program) (n : Nat) (c : Code) (Q : Exit → Sl → World → Prop) (σ : Sl) (w : World) : Prop := ∀ a, FrD ds n σ a → c.wp P (liftD ds n Q) a w
/-- No panic: what is asked of a region that cannot panic. -/
def noP (Q : Exit → Sl → World → Prop) : Exit → Sl → World → Prop
  | .panic _, _, _ => False
  | e, σ, w => Q e σ w
theorem noP_pan {Q : Exit → Sl → World → Prop} (c : List PanicEntry) (σ : Sl) (w : World) : ¬ noP Q (.panic c) σ w := fun h => h
theorem noP_normal {Q : Exit → Sl → World → Prop} {σ : Sl} {w : World} : noP Q .normal σ w = Q .normal σ w := nr rfl
theorem noP_ret {Q : Exit → Sl → World → Prop} {σ : Sl} {w : World} : noP Q .ret σ w = Q .ret σ w := nr rfl
theorem noP_exit {Q : Exit → Sl → World → Prop} {id : Nat} {σ : Sl} {w : World} : noP Q (.exit id) σ w = Q (.exit id) σ w := nr rfl
theorem RawD_of {P : Program} {n : Nat} {c : Code} {Q : Exit → Sl → World → Prop} {σ : Sl} {w : World} (h : Raw P n c Q σ w) : RawD [] P n c Q σ w :=
  fun a hf => wp_mono (h a ⟨hf.size, hf.defers, hf.at_⟩) fun _ _ _ ⟨σ', hf', hq⟩ => ⟨σ', ⟨hf'.size, hf'.defers, hf'.at_⟩, hq⟩
theorem Raw_ofD {P : Program} {n : Nat} {c : Code} {Q : Exit → Sl → World → Prop} {σ : Sl} {w : World} (h : RawD [] P n c Q σ w) : Raw P n c Q σ w :=
  fun a hf => wp_mono (h a ⟨hf.size, hf.defers, hf.at_⟩) fun _ _ _ ⟨σ', hf', hq⟩ => ⟨σ', ⟨hf'.size, hf'.defers, hf'.at_⟩, hq⟩
/-- A region that cannot panic. -/
theorem RawD_np {P : Program} {n : Nat} {c : Code} {Q : Exit → Sl → World → Prop} {σ : Sl} {w : World} (h : Raw P n c (noP Q) σ w) : RawD [] P n c Q σ w := by
  refine RawD_of (Raw_mono (fun e σ w hq => ?_) h)
  cases e
  case panic c => exact hq.elim
  all_goals exact hq
theorem RawD_mono {ds : List Deferred} {P : Program} {n : Nat} {c : Code} {Q Q' : Exit → Sl → World → Prop} {σ : Sl} {w : World} (h : ∀ e σ w, Q e σ w → Q' e σ w) (hr : RawD ds P n c Q σ w) : RawD ds P n c Q' σ w :=
  fun a hf => wp_mono (hr a hf) fun _ _ _ ⟨σ', hf', hq⟩ => ⟨σ', hf', h _ _ _ hq⟩
def WX (ds : List Deferred) (P : Program) (n : Nat) : Code → (Exit → Sl → World → Prop) → Sl → World → Prop
  | .skip, Q, σ, w => Q .normal σ w
  | .region id ops draw, Q, σ, w => if draw then RawD ds P n (.region id ops true) Q σ w else EX P n ops (fun c => Q (.panic c)) ops.toList σ w (Q .normal)
  | .seq a b, Q, σ, w => WX ds P n a (thenX (WX ds P n b Q) Q) σ w
  | .cond c x y, Q, σ, w => condX (ev σ c) (WX ds P n x Q σ w) (WX ds P n y Q σ w)
  | .block id c, Q, σ, w => WX ds P n c (inX id Q) σ w
  | .exit id, Q, σ, w => Q (.exit id) σ w
  | .ret, Q, σ, w => Q .ret σ w
  | .goto l, Q, σ, w => Q (.goto l) σ w
  | .label _, Q, σ, w => Q .normal σ w
  | c, Q, σ, w => RawD ds P n c Q σ w
section
variable {ds : List Deferred} {P : Program} {n : Nat} {Q : Exit → Sl → World → Prop} {σ : Sl} {w : World}
theorem WX_skip : WX ds P n .skip Q σ w = Q .normal σ w := nr rfl
theorem WX_region {id : Nat} {l : List Oper} : WX ds P n (.region id l.toArray false) Q σ w = EX P n l.toArray (fun c => Q (.panic c)) l σ w (Q .normal) := by simp [WX]
theorem WX_draw {id : Nat} {ops : Array Oper} : WX ds P n (.region id ops true) Q σ w = RawD ds P n (.region id ops true) Q σ w := nr rfl
theorem WX_seq {a b : Code} : WX ds P n (.seq a b) Q σ w = WX ds P n a (thenX (WX ds P n b Q) Q) σ w := nr rfl
theorem WX_cond {c : Operand} {x y : Code} : WX ds P n (.cond c x y) Q σ w = condX (ev σ c) (WX ds P n x Q σ w) (WX ds P n y Q σ w) := nr rfl
theorem WX_block {id : Nat} {c : Code} : WX ds P n (.block id c) Q σ w = WX ds P n c (inX id Q) σ w := nr rfl
theorem WX_exit {id : Nat} : WX ds P n (.exit id) Q σ w = Q (.exit id) σ w := nr rfl
theorem WX_ret : WX ds P n .ret Q σ w = Q .ret σ w := nr rfl
theorem WX_goto {l : Nat} : WX ds P n (.goto l) Q σ w = Q (.goto l) σ w := nr rfl
theorem WX_label {l : Nat} : WX ds P n (.label l) Q σ w = Q .normal σ w := nr rfl
theorem WX_loop {c : Code} : WX ds P n (.loop c) Q σ w = RawD ds P n (.loop c) Q σ w := nr rfl
theorem thenX_pan {K : Sl → World → Prop} {c : List PanicEntry} : thenX K Q (.panic c) σ w = Q (.panic c) σ w := nr rfl
theorem inX_pan {id : Nat} {c : List PanicEntry} : inX id Q (.panic c) σ w = Q (.panic c) σ w := nr rfl
@[congr] theorem WX_congr {c : Code} {σ σ' : Sl} {w w' : World} (h : σ = σ') (h' : w = w') : WX ds P n c Q σ w = WX ds P n c Q σ' w' := by rw [h, h']
@[congr] theorem RawD_congr {c : Code} {σ σ' : Sl} {w w' : World} (h : σ = σ') (h' : w = w') : RawD ds P n c Q σ w = RawD ds P n c Q σ' w' := by rw [h, h']
theorem WX_if_t {c : Operand} {x y : Code} (hc : ev σ c = .bool true) (h1 : WX ds P n x Q σ w) : WX ds P n (.cond c x y) Q σ w := by
  rw [WX_cond, hc]; exact ⟨fun _ => h1, fun h => (by cases h)⟩
theorem WX_if_f {c : Operand} {x y : Code} (hc : ev σ c = .bool false) (h1 : WX ds P n y Q σ w) : WX ds P n (.cond c x y) Q σ w := by
  rw [WX_cond, hc]; exact ⟨fun h => (by cases h), fun _ => h1⟩
theorem WX_if {c : Operand} {x y : Code} {t : Bool} (hc : ev σ c = .bool t) (h1 : t = true → WX ds P n x Q σ w) (h2 : t = false → WX ds P n y Q σ w) : WX ds P n (.cond c x y) Q σ w := by
  rw [WX_cond, hc]; exact ⟨h1, h2⟩
end
theorem WX_sound {ds : List Deferred} {P : Program} {n : Nat} : ∀ (c : Code) (Q : Exit → Sl → World → Prop) (σ : Sl) (w : World), WX ds P n c Q σ w → RawD ds P n c Q σ w := by
  intro c
  induction c with
  | skip => intro Q σ w h a hf; exact wp_skip ⟨σ, hf, h⟩
  | region id ops draw =>
    intro Q σ w h a hf
    cases draw with
    | true => exact h a hf
    | false =>
      refine wp_region_list ?_
      exact EX_sound (K := Q .normal) (X := fun c => Q (.panic c)) (fun σ' a' w' hf' hk => ⟨σ', hf', hk⟩) (fun c σ' a' w' hf' hk => ⟨σ', hf', hk⟩) _ _ _ _ hf (by simpa [WX] using h)
  | seq x y ihx ihy =>
    intro Q σ w h a hf
    refine wp_seq (wp_mono (ihx _ _ _ h a hf) ?_)
    rintro e a' w' ⟨σ', hf', hq⟩
    cases e
    case normal => exact ihy _ _ _ hq a' hf'
    all_goals exact ⟨σ', hf', hq⟩
  | cond c x y ihx ihy =>
    intro Q σ w h a hf
    rw [WX_cond] at h
    have hc : a.eval c = ev σ c := by rw [hf.eval]
    generalize ev σ c = v at h hc
    cases v with
    | bool t =>
      refine wp_cond_split hc (fun ht => ihx _ _ _ (h.1 ht) a hf) (fun ht => ihy _ _ _ (h.2 ht) a hf)
    | _ => exact h.elim
  | block id c ih =>
    intro Q σ w h a hf
    refine wp_block (wp_mono (ih _ _ _ h a hf) ?_)
    rintro e a' w' ⟨σ', hf', hq⟩
    cases e
    case exit id' =>
      simp only [inX] at hq
      simp only [Exit.inBlock]
      split
      · rename_i he; rw [if_pos he] at hq; exact ⟨σ', hf', hq⟩
      · rename_i he; rw [if_neg he] at hq; exact ⟨σ', hf', hq⟩
    all_goals exact ⟨σ', hf', hq⟩
  | exit id => intro Q σ w h a hf; exact wp_exit ⟨σ, hf, h⟩
  | ret => intro Q σ w h a hf; exact wp_ret ⟨σ, hf, h⟩
  | goto l => intro Q σ w h a hf; exact wp_goto ⟨σ, hf, h⟩
  | label l => intro Q σ w h a hf; exact wp_label ⟨σ, hf, h⟩
  | _ => intro Q σ w h a hf; exact h a hf
/-- A loop. -/
theorem RawD_loop {ds : List Deferred} {P : Program} {n : Nat} {c : Code} {Q : Exit → Sl → World → Prop} {σ : Sl} {w : World} (I : Sl → World → Prop) (μ : Sl → World → Nat) (h0 : I σ w)
    (round : ∀ σ w, I σ w → ∀ K : Sl → World → Prop, (∀ σ' w', I σ' w' → μ σ' w' < μ σ w → K σ' w') → WX ds P n c (thenX K Q) σ w) : RawD ds P n (.loop c) Q σ w := by
  intro a hf
  have round : ∀ σ w, I σ w → WX ds P n c (thenX (fun σ' w' => I σ' w' ∧ μ σ' w' < μ σ w) Q) σ w := fun σ w hI => round σ w hI _ fun _ _ h1 h2 => ⟨h1, h2⟩
  refine wp_loop (fun a w => FrD ds n (fun i => a.tmps.getD i undef) a ∧ I (fun i => a.tmps.getD i undef) w) (fun a w => μ (fun i => a.tmps.getD i undef) w) ?_ ?_
  · have e : (fun i => a.tmps.getD i undef) = σ := funext hf.at_
    rw [e]; exact ⟨hf, h0⟩
  · rintro a w ⟨hf, hI⟩
    refine wp_mono (WX_sound _ _ _ _ (round _ w hI) a hf) ?_
    rintro e a' w' ⟨σ', hf', hq⟩
    cases e
    case normal =>
      have e : (fun i => a'.tmps.getD i undef) = σ' := funext hf'.at_
      simp only [Exit.then]
      rw [e]; exact ⟨⟨hf', hq.1⟩, hq.2⟩
    all_goals exact ⟨σ', hf', hq⟩
/-- The end of a function that may panic. -/
def postX (P : Program) (fn : Func) (R : Ending → World → Prop) : Exit → Sl → World → Prop
  | .normal, σ, w | .ret, σ, w => resE P fn.results σ w fun v => R (.returned v) w
  | .panic c, _, w => R (.panicked c) w
  | _, _, _ => False
theorem postX_normal {P : Program} {fn : Func} {R : Ending → World → Prop} {σ : Sl} {w : World} : postX P fn R .normal σ w = resE P fn.results σ w fun v => R (.returned v) w := nr rfl
theorem postX_ret {P : Program} {fn : Func} {R : Ending → World → Prop} {σ : Sl} {w : World} : postX P fn R .ret σ w = resE P fn.results σ w fun v => R (.returned v) w := nr rfl
theorem postX_pan {P : Program} {fn : Func} {R : Ending → World → Prop} {c : List PanicEntry} {σ : Sl} {w : World} : postX P fn R (.panic c) σ w = R (.panicked c) w := nr rfl
theorem calls_WX {P : Program} {f : FuncId} {fn : Func} {c : Code} {l : List Value} {w : World} {R : Ending → World → Prop} (hf : P.funcs[f]? = some fn) (hb : fn.body = some c) (n : Nat) (hn : fn.ntmps = n) (hl : l.length ≤ n)
    (h : WX [] P n c (postX P fn R) (init l 0 bot) w) : Calls P f l.toArray w R := by
  refine calls_of_wp hf hb ?_
  have hfr : FrD [] n (init l 0 bot) { tmps := l.toArray ++ Array.replicate (fn.ntmps - l.toArray.size) undef, defers := [] } := by
    refine ⟨by simp [hn]; omega, rfl, fun i => ?_⟩
    rw [getD_append_undef, init_at]
    by_cases hi : i < l.length
    · rw [if_pos ⟨Nat.zero_le _, by simpa using hi⟩]; rfl
    · rw [if_neg (by omega)]
      simp [bot, List.getD_eq_getElem?_getD, List.getElem?_eq_none (Nat.le_of_not_lt hi)]
  refine wp_mono (WX_sound _ _ _ _ h _ hfr) ?_
  rintro e a w' ⟨σ, hf', hq⟩
  have ht : (fun i => a.tmps.getD i undef) = σ := funext hf'.at_
  cases e <;> simp only [postX] at hq
  case normal => obtain ⟨v, hv, hR⟩ := resE_is hq ht; exact ⟨hf'.defers, v, hv, hR⟩
  case ret => obtain ⟨v, hv, hR⟩ := resE_is hq ht; exact ⟨hf'.defers, v, hv, hR⟩
  case panic c => exact ⟨hf'.defers, hq⟩
/-- From no panic to this engine. -/
theorem W_toX {P : Program} {n : Nat} {c : Code} {Q : Exit → Sl → World → Prop} {σ : Sl} {w : World} (h : W P n c (noP Q) σ w) : RawD [] P n c Q σ w := RawD_np (W_sound _ _ _ _ h)
/-! Cutting a proof at a place where several ways meet. -/
theorem OkvX_mono {P : Program} {R R' : Value → World → Prop} {Y Y' : List PanicEntry → World → Prop} {r : Result Next} (h : ∀ v w, R v w → R' v w) (hy : ∀ c w, Y c w → Y' c w) (hr : OkvX P R Y r) : OkvX P R' Y' r := by
  cases r with
  | halt x w' => cases x <;> simp only [OkvX] at hr ⊢; exact hy _ _ hr
  | ok nx w' =>
    cases nx
    case value v => exact h _ _ hr
    case skip => exact h _ _ hr
    case enter f args =>
      refine Calls.mono hr fun e w'' he => ?_
      cases e with
      | returned v => exact h _ _ he
      | panicked c => exact hy _ _ he
      | outgrown => exact he.elim
    all_goals exact hr
theorem EX_mono {P : Program} {n : Nat} {ops : Array Oper} {X X' : List PanicEntry → Sl → World → Prop} {K K' : Sl → World → Prop} (h : ∀ σ w, K σ w → K' σ w) (hx : ∀ c σ w, X c σ w → X' c σ w) : ∀ (l : List Oper) (σ : Sl) (w : World), EX P n ops X l σ w K → EX P n ops X' l σ w K'
  | [], σ, w, hE => h _ _ hE
  | ⟨d, op, ty, p, af, none⟩ :: r, σ, w, hE => OkvX_mono (fun _ _ hv => EX_mono h hx r _ _ hv) (fun _ _ hc => hx _ _ _ hc) hE
  | ⟨d, op, ty, p, af, some (j, b)⟩ :: r, σ, w, hE => by
    rw [EX_opg, GBX] at *
    split
    · rename_i hg; rw [if_pos hg] at hE; exact OkvX_mono (fun _ _ hv => EX_mono h hx r _ _ hv) (fun _ _ hc => hx _ _ _ hc) hE
    · rename_i hg; rw [if_neg hg] at hE; exact EX_mono h hx r _ _ hE
theorem WX_mono {ds : List Deferred} {P : Program} {n : Nat} : ∀ (c : Code) {Q Q' : Exit → Sl → World → Prop} {σ : Sl} {w : World}, (∀ e σ w, Q e σ w → Q' e σ w) → WX ds P n c Q σ w → WX ds P n c Q' σ w := by
  intro c
  induction c with
  | skip => intro Q Q' σ w h hw; exact h _ _ _ hw
  | region id ops draw =>
    intro Q Q' σ w h hw
    cases draw with
    | true => exact RawD_mono h hw
    | false => exact EX_mono (fun σ w hk => h _ _ _ hk) (fun c σ w hk => h _ _ _ hk) _ _ _ hw
  | seq x y ihx ihy =>
    intro Q Q' σ w h hw
    refine ihx (fun e σ' w' hq => ?_) hw
    cases e
    case normal => exact ihy h hq
    all_goals exact h _ _ _ hq
  | cond c x y ihx ihy =>
    intro Q Q' σ w h hw
    rw [WX_cond] at *
    generalize ev σ c = v at *
    cases v with
    | bool t => exact ⟨fun ht => ihx h (hw.1 ht), fun ht => ihy h (hw.2 ht)⟩
    | _ => exact hw.elim
  | block id c ih =>
    intro Q Q' σ w h hw
    refine ih (fun e σ' w' hq => ?_) hw
    cases e
    case exit id' =>
      simp only [inX] at *
      split
      · rename_i he; rw [if_pos he] at hq; exact h _ _ _ hq
      · rename_i he; rw [if_neg he] at hq; exact h _ _ _ hq
    all_goals exact h _ _ _ hq
  | exit id => intro Q Q' σ w h hw; exact h _ _ _ hw
  | ret => intro Q Q' σ w h hw; exact h _ _ _ hw
  | goto l => intro Q Q' σ w h hw; exact h _ _ _ hw
  | label l => intro Q Q' σ w h hw; exact h _ _ _ hw
  | _ => intro Q Q' σ w h hw; exact RawD_mono h hw
theorem WX_cut {ds : List Deferred} {P : Program} {n : Nat} {x y : Code} {Q : Exit → Sl → World → Prop} {σ : Sl} {w : World} (J : Sl → World → Prop) (h2 : ∀ σ w, J σ w → WX ds P n y Q σ w) (h1 : WX ds P n x (thenX J Q) σ w) : WX ds P n (x.seq y) Q σ w := by
  rw [WX_seq]
  refine WX_mono x (fun e σ' w' hq => ?_) h1
  cases e
  case normal => exact h2 _ _ hq
  all_goals exact hq
/-- One piece of code, what follows kept closed. -/
theorem WX_piece {ds : List Deferred} {P : Program} {n : Nat} {x y : Code} {Q : Exit → Sl → World → Prop} {σ : Sl} {w : World} (h : ∀ K : Exit → Sl → World → Prop, (∀ σ w, WX ds P n y Q σ w → K .normal σ w) → (∀ e σ w, e ≠ .normal → Q e σ w → K e σ w) → WX ds P n x K σ w) : WX ds P n (x.seq y) Q σ w := by
  rw [WX_seq]
  exact h _ (fun σ w h => h) (fun e σ w hne hq => by
    cases e
    case normal => exact absurd rfl hne
    all_goals exact hq)
/-- Ways that meet at the end and at one exit. -/
def joinX (id : Nat) (J : Sl → World → Prop) (X : List PanicEntry → World → Prop) : Exit → Sl → World → Prop
  | .normal, σ, w => J σ w
  | .exit i, σ, w => i = id ∧ J σ w
  | .panic c, _, w => X c w
  | _, _, _ => False
theorem joinX_normal {id : Nat} {J : Sl → World → Prop} {X : List PanicEntry → World → Prop} {σ : Sl} {w : World} : joinX id J X .normal σ w = J σ w := nr rfl
theorem joinX_exit {id : Nat} {J : Sl → World → Prop} {X : List PanicEntry → World → Prop} {σ : Sl} {w : World} : joinX id J X (.exit id) σ w = J σ w := nr (by show (id = id ∧ J σ w) = J σ w; simp)
theorem joinX_pan {id : Nat} {J : Sl → World → Prop} {X : List PanicEntry → World → Prop} {c : List PanicEntry} {σ : Sl} {w : World} : joinX id J X (.panic c) σ w = X c w := nr rfl
theorem WX_join {ds : List Deferred} {P : Program} {n : Nat} {c : Code} {Q : Exit → Sl → World → Prop} {σ : Sl} {w : World} (id : Nat) (J : Sl → World → Prop) (X : List PanicEntry → World → Prop) (hn : ∀ σ w, J σ w → Q .normal σ w) (he : ∀ σ w, J σ w → Q (.exit id) σ w)
    (hx : ∀ c σ w, X c w → Q (.panic c) σ w) (h1 : WX ds P n c (joinX id J X) σ w) : WX ds P n c Q σ w :=
  WX_mono c (fun e σ' w' hq => by
    cases e
    case normal => exact hn _ _ hq
    case exit i => obtain ⟨rfl, hq⟩ := hq; exact he _ _ hq
    case panic c => exact hx _ _ _ hq
    all_goals exact hq.elim) h1
theorem WX_joinX {ds : List Deferred} {P : Program} {n : Nat} {c : Code} {Q : Exit → Sl → World → Prop} {σ : Sl} {w : World} {id : Nat} (J : Sl → World → Prop) (X : List PanicEntry → World → Prop) (hn : ∀ σ w, J σ w → Q .normal σ w)
    (hx : ∀ c σ w, X c w → Q (.panic c) σ w) (h1 : WX ds P n c (joinX id J X) σ w) : WX ds P n c (inX id Q) σ w :=
  WX_join id J X (fun σ w h => hn σ w h) (fun σ w h => by rw [inX_exit_same]; exact hn σ w h) (fun c σ w h => hx c σ w h) h1
/-- One piece of code, what follows kept closed. -/
theorem W_piece {P : Program} {n : Nat} {x y : Code} {Q : Exit → Sl → World → Prop} {σ : Sl} {w : World} (h : ∀ K : Exit → Sl → World → Prop, (∀ σ w, W P n y Q σ w → K .normal σ w) → (∀ e σ w, e ≠ .normal → Q e σ w → K e σ w) → W P n x K σ w) : W P n (x.seq y) Q σ w := by
  rw [W_seq]
  exact h _ (fun σ w h => h) (fun e σ w hne hq => by
    cases e
    case normal => exact absurd rfl hne
    all_goals exact hq)
theorem W_pieceP {P : Program} {n : Nat} {x y : Code} {Q : Exit → Sl → World → Prop} {σ : Sl} {w : World} (hp : ∀ c σ w, ¬ Q (.panic c) σ w) (h : ∀ K : Exit → Sl → World → Prop, (∀ σ w, W P n y Q σ w → K .normal σ w) → (∀ e σ w, e ≠ .normal → Q e σ w → K e σ w) → (∀ c σ w, ¬ K (.panic c) σ w) → W P n x K σ w) : W P n (x.seq y) Q σ w := by
  rw [W_seq]
  exact h _ (fun σ w h => h) (fun e σ w hne hq => by
    cases e
    case normal => exact absurd rfl hne
    all_goals exact hq) (fun c σ w h => hp c σ w h)
theorem W_cutS {P : Program} {n : Nat} {x y : Code} {Q : Exit → Sl → World → Prop} {σ : Sl} {w : World} (J : Sl → World → Prop) (h2 : ∀ σ w, J σ w → W P n y Q σ w) (h1 : W P n x (thenX J Q) σ w) : W P n (x.seq y) Q σ w := by
  rw [W_seq]
  refine W_mono x (fun e σ' w' hq => ?_) h1
  cases e
  case normal => exact h2 _ _ hq
  all_goals exact hq
/-! A value in an interface; panic. -/
section
variable {P : Program} {T : TypeId} {w : World}
def vMakeI (P : Program) (T : TypeId) (u : Value) (w : World) : Result Next := (do pure (.value (← Instr.makeInterface T u)) : Sem Next).run P w
def vPanic (P : Program) (u : Value) (w : World) : Result Next := (do pure (.value (← Instr.panic u)) : Sem Next).run P w
theorem r_makeI (ty : TypeId) (σ : Sl) (x : Operand) : run1 P (.makeInterface T x) ty σ w = vMakeI P T (ev σ x) w := nr rfl
theorem r_panic (ty : TypeId) (σ : Sl) (x : Operand) : run1 P (.panic x) ty σ w = vPanic P (ev σ x) w := nr rfl
def cncB (P : Program) (T : TypeId) : Bool := match P.underlying T with
  | some (.struct _) => true
  | _ => false
def jMakeI (P : Program) (T : TypeId) (u : Value) (w : World) : Result Next := vMakeI P T u w
theorem vMakeI_at {u : Value} : vMakeI P T u w = ifB (cncB P T) (.ok (.value (.iface T u)) w) (jMakeI P T u w) := by
  refine ifB_of (fun h => ?_) rfl
  unfold cncB at h
  cases hd : P.underlying T with
  | none => rw [hd] at h; cases h
  | some d =>
    rw [hd] at h
    cases d with
    | struct fs => simp [vMakeI, Instr.makeInterface, Sem.run_bind, run_underlying hd w]
    | _ => cases h
theorem vPanic_iface {u : Value} : vPanic P (.iface T u) w = .halt (.panic (.iface T u)) w := by simp [vPanic, Instr.panic, goPanic, Sem.run_bind, Sem.run]
end
/-- The rules of this text. -/
theorem PZ : (type_of% @EX_nil) ∧ (type_of% @EX_op) ∧ (type_of% @EX_opg) ∧ (type_of% @OkvX_value) ∧ (type_of% @OkvX_skip) ∧ (type_of% @OkvX_enter) ∧ (type_of% @OkvX_panic) ∧ (type_of% @GBX_true) ∧ (type_of% @GBX_false) ∧ (type_of% @GBX_value) ∧ (type_of% @WX_skip) ∧ (type_of% @WX_region) ∧ (type_of% @WX_draw) ∧ (type_of% @WX_seq) ∧ (type_of% @WX_block) ∧ (type_of% @WX_exit) ∧ (type_of% @WX_ret) ∧ (type_of% @WX_goto) ∧ (type_of% @WX_label) ∧ (type_of% @WX_loop) ∧ (type_of% @thenX_pan) ∧ (type_of% @inX_pan) ∧ (type_of% @postX_normal) ∧ (type_of% @postX_ret) ∧ (type_of% @postX_pan) ∧ (type_of% @noP_normal) ∧ (type_of% @noP_ret) ∧ (type_of% @noP_exit) ∧ (type_of% @Ends_ret) ∧ (type_of% @Ends_pan) ∧ (type_of% @joinX_normal) ∧ (type_of% @joinX_exit) ∧ (type_of% @joinX_pan) ∧ (type_of% @r_makeI) ∧ (type_of% @r_panic) ∧ (type_of% @vMakeI_at) ∧ (type_of% @vPanic_iface) ∧ (type_of% @trivial) := ⟨@EX_nil, @EX_op, @EX_opg, @OkvX_value, @OkvX_skip, @OkvX_enter, @OkvX_panic, @GBX_true, @GBX_false, @GBX_value, @WX_skip, @WX_region, @WX_draw, @WX_seq, @WX_block, @WX_exit, @WX_ret, @WX_goto, @WX_label, @WX_loop, @thenX_pan, @inX_pan, @postX_normal, @postX_ret, @postX_pan, @noP_normal, @noP_ret, @noP_exit, @Ends_ret, @Ends_pan, @joinX_normal, @joinX_exit, @joinX_pan, @r_makeI, @r_panic, @vMakeI_at, @vPanic_iface, @trivial⟩
end Go.Proofs.YtbdkggnajipdhaaDoor
/- The plain specification of a plan's check: names, levels. No program in sight. -/
namespace Go.Proofs.YtbdkggnajipdhaaDoor

def nmLow (c : Int) : Bool := decide (97 ≤ c) && decide (c ≤ 122)
def nmMore (c : Int) : Bool := (decide (48 ≤ c) && decide (c ≤ 57)) || decide (c = 45)
def nmAt (i : Nat) (c : Int) : Bool := nmLow c || (decide (0 < i) && nmMore c)
def nmUpto (s : ByteArray) (k : Nat) : Prop := ∀ j, j < k → nmAt j (bt s j) = true
def nameB (s : ByteArray) : Bool := decide (1 ≤ s.size) && decide (s.size ≤ 24) && (List.range s.size).all fun j => nmAt j (bt s j)
theorem nmAt_yes {i : Nat} {c : Int} (h : (97 ≤ c ∧ c ≤ 122) ∨ (0 < i ∧ ((48 ≤ c ∧ c ≤ 57) ∨ c = 45))) : nmAt i c = true := by
  simp only [nmAt, nmLow, nmMore, Bool.or_eq_true, Bool.and_eq_true, decide_eq_true_eq]; exact h
theorem nmAt_no {i : Nat} {c : Int} (h : ¬ ((97 ≤ c ∧ c ≤ 122) ∨ (0 < i ∧ ((48 ≤ c ∧ c ≤ 57) ∨ c = 45)))) : nmAt i c = false := by
  rw [Bool.eq_false_iff]; intro e; apply h
  simpa only [nmAt, nmLow, nmMore, Bool.or_eq_true, Bool.and_eq_true, decide_eq_true_eq] using e
theorem nmUpto_zero (s : ByteArray) : nmUpto s 0 := fun _ hj => absurd hj (Nat.not_lt_zero _)
theorem nmUpto_succ {s : ByteArray} {k : Nat} (h : nmUpto s k) (hc : nmAt k (bt s k) = true) : nmUpto s (k + 1) := by
  intro j hj
  rcases Nat.lt_or_eq_of_le (Nat.lt_succ_iff.1 hj) with h1 | rfl
  · exact h j h1
  · exact hc
theorem nameB_yes {s : ByteArray} {k : Nat} (h1 : 1 ≤ s.size) (h2 : s.size ≤ 24) (hk : s.size ≤ k) (h : nmUpto s k) : nameB s = true := by
  simp only [nameB, Bool.and_eq_true, decide_eq_true_eq, List.all_eq_true, List.mem_range]
  exact ⟨⟨h1, h2⟩, fun j hj => h j (by omega)⟩
theorem nameB_no {s : ByteArray} {k : Nat} (hk : k < s.size) (hc : nmAt k (bt s k) = false) : nameB s = false := by
  rw [Bool.eq_false_iff]; intro e
  simp only [nameB, Bool.and_eq_true, decide_eq_true_eq, List.all_eq_true, List.mem_range] at e
  have := e.2 k hk
  rw [this] at hc; cases hc
theorem nameB_short {s : ByteArray} (h : s.size < 1) : nameB s = false := by
  rw [Bool.eq_false_iff]; intro e
  simp only [nameB, Bool.and_eq_true, decide_eq_true_eq] at e
  omega
theorem nameB_long {s : ByteArray} (h : 24 < s.size) : nameB s = false := by
  rw [Bool.eq_false_iff]; intro e
  simp only [nameB, Bool.and_eq_true, decide_eq_true_eq] at e
  omega

/-- A level: prize, count, pack. -/
structure Lvl where
  prize : Int
  count : Int
  pack : Int
def Lvl.bad (P S before : Int) (v : Lvl) : Prop := v.prize < 1 ∨ before ≤ v.prize ∨ v.count < 1 ∨ P * S < v.count ∨ v.pack < 0 ∨ S < v.pack
instance (P S before : Int) (v : Lvl) : Decidable (v.bad P S before) := by unfold Lvl.bad; exact inferInstance
def chkL (P S : Int) : Int → Int → Int → List Lvl → Int
  | _, counts, packs, [] => if P * S < counts ∨ S < packs then 30 else 0
  | before, counts, packs, v :: r =>
    if v.bad P S before then 2
    else if v.count < v.pack * P then 30
    else chkL P S v.prize (counts + v.count) (packs + v.pack) r
/-- The error of a plan. -/
def chk (name : ByteArray) (price P S : Int) (L : List Lvl) : Int :=
  if nameB name = false then 4
  else if price < 1 ∨ 1000000 < price ∨ P < 1 ∨ 32 < P ∨ S < 1 ∨ 256 < S then 2
  else if L.length < 1 ∨ 12 < L.length then 3
  else chkL P S 1000000001 0 0 L
theorem chkL_step {P S before counts packs : Int} {L : List Lvl} {k : Nat} {v : Lvl} (h : L[k]? = some v) :
    chkL P S before counts packs (L.drop k) = if v.bad P S before then 2 else if v.count < v.pack * P then 30
      else chkL P S v.prize (counts + v.count) (packs + v.pack) (L.drop (k + 1)) := by
  obtain ⟨hk, rfl⟩ := List.getElem?_eq_some_iff.1 h
  rw [List.drop_eq_getElem_cons hk, chkL]
theorem bad_yes {P S before : Int} {v : Lvl} (h : v.prize < 1 ∨ before ≤ v.prize ∨ v.count < 1 ∨ P * S < v.count ∨ v.pack < 0 ∨ S < v.pack) : v.bad P S before := h
theorem bad_no {P S before : Int} {v : Lvl} (h : ¬ (v.prize < 1 ∨ before ≤ v.prize ∨ v.count < 1 ∨ P * S < v.count ∨ v.pack < 0 ∨ S < v.pack)) : ¬ v.bad P S before := h
theorem chkL_end (P S before counts packs : Int) (L : List Lvl) (k : Nat) (h : L.length ≤ k) :
    chkL P S before counts packs (L.drop k) = if P * S < counts ∨ S < packs then 30 else 0 := by
  rw [List.drop_eq_nil_of_le h, chkL]
end Go.Proofs.YtbdkggnajipdhaaDoor
/- Plain: bytes of a string as numbers; kinds of bytes; the first piece of a text. No program in sight. -/
namespace Go.Proofs.YtbdkggnajipdhaaDoor
def bs (s : ByteArray) : List Nat := s.data.toList.map UInt8.toNat
theorem bs_len (s : ByteArray) : (bs s).length = s.size := by simp [bs]
theorem bs_lt (s : ByteArray) : ∀ c ∈ bs s, c < 256 := by
  intro c hc
  obtain ⟨b, _, rfl⟩ := List.mem_map.1 hc
  exact UInt8.toNat_lt _
theorem bt_bs (s : ByteArray) (i : Nat) : bt s i = (bs s).getD i 0 := by
  unfold bt bs
  rw [List.getD_eq_getElem?_getD, List.getD_eq_getElem?_getD, List.getElem?_map]
  cases s.data.toList[i]? <;> rfl
theorem bs_get {s : ByteArray} {i : Nat} (h : i < s.size) : (bs s)[i]? = some (bt s i) := by
  rw [bt_bs, List.getD_eq_getElem?_getD]
  have : i < (bs s).length := by rw [bs_len]; exact h
  rw [List.getElem?_eq_getElem this]; rfl
theorem bs_extract (s : ByteArray) (a b : Nat) : bs (s.extract a b) = ((bs s).drop a).take (b - a) := by
  unfold bs
  rw [ByteArray.data_extract, Array.toList_extract, List.extract_eq_take_drop, List.map_take, List.map_drop]
theorem bs_append (s t : ByteArray) : bs (s ++ t) = bs s ++ bs t := by
  unfold bs
  rw [ByteArray.data_append, Array.toList_append, List.map_append]
theorem bs_inj {s t : ByteArray} (h : bs s = bs t) : s = t := by
  apply ByteArray.ext
  apply Array.ext'
  unfold bs at h
  exact (List.map_inj_right (fun a b e => UInt8.toNat_inj.1 e)).1 h
theorem bs_empty : bs ByteArray.empty = [] := rfl
def blankB (c : Nat) : Bool := c == 32 || c == 9 || c == 13 || c == 10
def letterB (c : Nat) : Bool := decide (97 ≤ c) && decide (c ≤ 122)
def digitB (c : Nat) : Bool := decide (48 ≤ c) && decide (c ≤ 57)
def wordB (c : Nat) : Bool := letterB c || digitB c || c == 45
def remB (c : Nat) : Bool := !(c == 10)
def markB (c : Nat) : Bool := c == 123 || c == 125 || c == 59 || c == 58
def spn (q : Nat → Bool) (l : List Nat) : Nat := (l.takeWhile q).length
def badN (n c : Nat) : Bool := decide (18 < n) || (decide (1 < n) && c == 48)
/-- The kind and the length of what a text begins with: kind 0 for blanks and remarks, length 0 for an error. -/
def piece : List Nat → Nat × Nat
  | [] => (0, 0)
  | c :: r =>
    if blankB c then (0, spn blankB (c :: r))
    else if c = 35 then (0, spn remB (c :: r))
    else if letterB c then (1, spn wordB (c :: r))
    else if digitB c then (if badN (spn digitB (c :: r)) c then (2, 0) else (2, spn digitB (c :: r)))
    else if markB c then (3, 1) else (0, 0)
theorem spn_le (q : Nat → Bool) (l : List Nat) : spn q l ≤ l.length := by
  unfold spn
  induction l with
  | nil => simp
  | cons c r ih =>
    by_cases h : q c = true
    · rw [List.takeWhile_cons_of_pos h]; simpa using ih
    · rw [List.takeWhile_cons_of_neg h]; simp
theorem spn_pos {q : Nat → Bool} {c : Nat} {r : List Nat} (h : q c = true) : 1 ≤ spn q (c :: r) := by unfold spn; rw [List.takeWhile_cons_of_pos h]; simp
theorem piece_le (l : List Nat) : (piece l).2 ≤ l.length := by
  cases l with
  | nil => simp [piece]
  | cons c r =>
    rw [piece]
    have h1 := spn_le blankB (c :: r); have h2 := spn_le remB (c :: r); have h3 := spn_le wordB (c :: r); have h4 := spn_le digitB (c :: r)
    repeat' split
    all_goals simp only [List.length_cons] at *
    all_goals omega
theorem spn_at {q : Nat → Bool} : ∀ (l : List Nat) (k : Nat), k < spn q l → ∃ c, l[k]? = some c ∧ q c = true
  | [], k, h => by simp [spn] at h
  | c :: r, k, h => by
    unfold spn at h
    by_cases hq : q c = true
    · rw [List.takeWhile_cons_of_pos hq] at h
      cases k with
      | zero => exact ⟨c, rfl, hq⟩
      | succ k => obtain ⟨d, h1, h2⟩ := spn_at r k (by unfold spn; simpa using h); exact ⟨d, by simpa using h1, h2⟩
    · rw [List.takeWhile_cons_of_neg hq] at h; simp at h
/-- It is the first that is not taken. -/
theorem spn_is {q : Nat → Bool} : ∀ (l : List Nat) (k : Nat), (∀ j, j < k → ∃ c, l[j]? = some c ∧ q c = true) → (∀ c, l[k]? = some c → q c = false) → spn q l = k
  | [], k, h1, _ => by
    cases k with
    | zero => rfl
    | succ k => obtain ⟨c, h, _⟩ := h1 0 (by omega); simp at h
  | c :: r, k, h1, h2 => by
    unfold spn
    cases k with
    | zero => rw [List.takeWhile_cons_of_neg (by rw [h2 c rfl]; simp)]; rfl
    | succ k =>
      obtain ⟨d, hd, hq⟩ := h1 0 (by omega)
      simp only [List.getElem?_cons_zero, Option.some.injEq] at hd
      subst hd
      rw [List.takeWhile_cons_of_pos hq, List.length_cons]
      have := spn_is r k (fun j hj => by obtain ⟨d, h, h'⟩ := h1 (j + 1) (by omega); exact ⟨d, by simpa using h, h'⟩) (fun c hc => h2 c (by simpa using hc))
      unfold spn at this
      rw [this]
end Go.Proofs.YtbdkggnajipdhaaDoor
/- Plain: decimal numbers, written and read. No program in sight. -/
namespace Go.Proofs.YtbdkggnajipdhaaDoor
/-! Numbers. -/
def dec (u : Nat) : List Nat := (Lib.decDigits u).map UInt8.toNat
def fmtI (n : Int) : List Nat := (Lib.itoa n).map UInt8.toNat
def decOK : List Nat → Bool
  | [] => false
  | c :: r => (c != 48 || r.isEmpty) && (c :: r).all digitB
def valD (a : Nat) (l : List Nat) : Nat := l.foldl (fun a c => a * 10 + (c - 48)) a
def negB : List Nat → Bool
  | 45 :: _ => true
  | _ => false
def magL (l : List Nat) : List Nat := if negB l then l.drop 1 else l
def numE (l : List Nat) : Int × Int :=
  if decOK (magL l) = false ∨ (negB l = true ∧ magL l = [48]) then (0, 1)
  else if negB l then (if 9223372036854775808 < valD 0 (magL l) then (0, 9) else (-(valD 0 (magL l) : Int), 0))
  else if 9223372036854775807 < valD 0 (magL l) then (0, 9) else ((valD 0 (magL l) : Int), 0)
theorem dec_lt {u : Nat} (h : u < 10) : dec u = [48 + u] := by
  unfold dec
  rw [Lib.decDigits, dif_pos h]
  simp only [List.map_cons, List.map_nil, UInt8.toNat_ofNat']
  congr 1
  omega
theorem dec_ge {u : Nat} (h : ¬ u < 10) : dec u = dec (u / 10) ++ [48 + u % 10] := by
  unfold dec
  rw [Lib.decDigits, dif_neg h]
  simp only [List.map_append, List.map_cons, List.map_nil, UInt8.toNat_ofNat']
  congr 2
  omega
theorem dec_all : ∀ (u : Nat), ∀ c ∈ dec u, 48 ≤ c ∧ c ≤ 57 := by
  intro u
  induction u using Nat.strongRecOn with
  | _ u ih =>
    intro c hc
    by_cases h : u < 10
    · rw [dec_lt h] at hc
      simp at hc
      omega
    · rw [dec_ge h, List.mem_append] at hc
      rcases hc with hc | hc
      · exact ih (u / 10) (by omega) c hc
      · simp at hc
        omega
theorem dec_head : ∀ (u : Nat), 0 < u → ∃ c r, dec u = c :: r ∧ c ≠ 48 := by
  intro u
  induction u using Nat.strongRecOn with
  | _ u ih =>
    intro h0
    by_cases h : u < 10
    · exact ⟨_, [], dec_lt h, by omega⟩
    · obtain ⟨c, r, h1, h2⟩ := ih (u / 10) (by omega) (by omega)
      exact ⟨c, r ++ [48 + u % 10], by rw [dec_ge h, h1]; rfl, h2⟩
theorem dec_ne (u : Nat) : dec u ≠ [] := by
  by_cases h : u < 10
  · rw [dec_lt h]; simp
  · rw [dec_ge h]; simp
theorem valD_dec : ∀ (u : Nat), valD 0 (dec u) = u := by
  intro u
  induction u using Nat.strongRecOn with
  | _ u ih =>
    by_cases h : u < 10
    · rw [dec_lt h]; simp [valD]
    · have h' := ih (u / 10) (by omega)
      rw [dec_ge h]
      unfold valD at h' ⊢
      rw [List.foldl_append, h']
      simp only [List.foldl_cons, List.foldl_nil]
      omega
theorem all_digit {l : List Nat} (h : ∀ c ∈ l, 48 ≤ c ∧ c ≤ 57) : l.all digitB = true := by
  rw [List.all_eq_true]
  intro c hc
  unfold digitB
  simp [h c hc]
theorem decOK_dec (u : Nat) : decOK (dec u) = true := by
  by_cases h : u < 10
  · rw [dec_lt h]
    have := dec_all u
    rw [dec_lt h] at this
    show ((48 + u != 48 || true) && List.all _ digitB) = true
    rw [all_digit this]
    simp
  · obtain ⟨c, r, h1, h2⟩ := dec_head u (by omega)
    have := dec_all u
    rw [h1] at this ⊢
    show ((c != 48 || r.isEmpty) && List.all _ digitB) = true
    rw [all_digit this]
    simp [h2]
theorem negB_dec (u : Nat) : negB (dec u) = false := by
  have h := dec_all u
  cases hd : dec u with
  | nil => rfl
  | cons c r =>
    rw [hd] at h
    have := h c (by simp)
    unfold negB
    split
    · rename_i e; injection e with e _; omega
    · rfl
theorem fmtI_nonneg {n : Int} (h : 0 ≤ n) : fmtI n = dec n.toNat := by unfold fmtI Lib.itoa dec; rw [if_neg (by omega)]
theorem fmtI_neg {n : Int} (h : n < 0) : fmtI n = 45 :: dec n.natAbs := by unfold fmtI Lib.itoa dec; rw [if_pos h]; rfl
theorem numE_fmt {n : Int} (h0 : -9223372036854775808 ≤ n) (h1 : n ≤ 9223372036854775807) : numE (fmtI n) = (n, 0) := by
  by_cases h : n < 0
  · have hm : magL (45 :: dec n.natAbs) = dec n.natAbs := rfl
    have hn : negB (45 :: dec n.natAbs) = true := rfl
    have hz : dec n.natAbs ≠ [48] := by
      obtain ⟨c, r, h2, h3⟩ := dec_head n.natAbs (by omega)
      rw [h2]
      intro e
      injection e with e _
      exact h3 e
    rw [fmtI_neg h]
    unfold numE
    rw [hm, hn, decOK_dec, valD_dec, if_neg (by simp [hz]), if_pos rfl, if_neg (by omega)]
    simp only [Prod.mk.injEq, and_true]
    omega
  · have hm : magL (dec n.toNat) = dec n.toNat := by unfold magL; rw [negB_dec]; rfl
    rw [fmtI_nonneg (by omega)]
    unfold numE
    rw [hm, negB_dec, decOK_dec, valD_dec, if_neg (by simp), if_neg (by simp), if_neg (by omega)]
    simp only [Prod.mk.injEq, and_true]
    omega
theorem fmtI_ne (n : Int) : fmtI n ≠ [] := by
  by_cases h : n < 0
  · rw [fmtI_neg h]; simp
  · rw [fmtI_nonneg (by omega)]; exact dec_ne _
theorem fmtI_all (n : Int) : ∀ c ∈ fmtI n, (48 ≤ c ∧ c ≤ 57) ∨ c = 45 := by
  intro c hc
  by_cases h : n < 0
  · rw [fmtI_neg h, List.mem_cons] at hc
    rcases hc with hc | hc
    · exact .inr hc
    · exact .inl (dec_all _ c hc)
  · rw [fmtI_nonneg (by omega)] at hc
    exact .inl (dec_all _ c hc)
theorem valD_cons (a c : Nat) (l : List Nat) : valD a (c :: l) = valD (a * 10 + (c - 48)) l := List.foldl_cons ..
theorem valD_append (a : Nat) (l m : List Nat) : valD a (l ++ m) = valD (valD a l) m := List.foldl_append
theorem valD_ge : ∀ (l : List Nat) (a : Nat), a ≤ valD a l
  | [], a => Nat.le_refl _
  | c :: l, a => by have := valD_ge l (a * 10 + (c - 48)); rw [valD_cons]; omega
theorem valD_take (l : List Nat) (k : Nat) : valD 0 (l.take k) ≤ valD 0 l := by
  conv => rhs; rw [← List.take_append_drop k l, valD_append]
  exact valD_ge _ _
theorem valD_step {l : List Nat} {k c : Nat} (h : l[k]? = some c) : valD 0 (l.take (k + 1)) = valD 0 (l.take k) * 10 + (c - 48) := by
  rw [List.take_add_one, h, valD_append]
  exact valD_cons _ _ _
theorem decOK_cons (c : Nat) (r : List Nat) : decOK (c :: r) = ((c != 48 || r.isEmpty) && (c :: r).all digitB) := rfl
theorem digitB_iff {c : Nat} : digitB c = true ↔ 48 ≤ c ∧ c ≤ 57 := by unfold digitB; simp
theorem decOK_all {l : List Nat} (h : decOK l = true) : ∀ c ∈ l, 48 ≤ c ∧ c ≤ 57 := by
  cases l with
  | nil => cases h
  | cons c r =>
    rw [decOK_cons, Bool.and_eq_true, List.all_eq_true] at h
    exact fun d hd => digitB_iff.1 (h.2 d hd)
theorem decOK_pos {l : List Nat} (h : decOK l = true) (h0 : l ≠ [48]) : 1 ≤ valD 0 l := by
  cases l with
  | nil => cases h
  | cons c r =>
    have h1 := decOK_all h c (by simp)
    rw [decOK_cons, Bool.and_eq_true, Bool.or_eq_true] at h
    have hc : c ≠ 48 := by
      rintro rfl
      rcases h.1 with h2 | h2
      · simp at h2
      · exact h0 (by rw [List.isEmpty_iff.1 h2])
    have := valD_ge r (0 * 10 + (c - 48))
    rw [valD_cons]
    omega
theorem decOK_bad {l : List Nat} {k c : Nat} (h : l[k]? = some c) (hc : ¬ (48 ≤ c ∧ c ≤ 57)) : decOK l = false := by
  cases hd : decOK l with
  | false => rfl
  | true => exact absurd (decOK_all hd c (List.mem_of_getElem? h)) hc
theorem decOK_zero {l : List Nat} (h : l[0]? = some 48) (h1 : 1 < l.length) : decOK l = false := by
  cases l with
  | nil => rfl
  | cons c r =>
    simp only [List.getElem?_cons_zero, Option.some.injEq] at h
    subst h
    cases r with
    | nil => simp at h1
    | cons d r => rw [decOK_cons]; simp
theorem decOK_yes {l : List Nat} (h0 : l ≠ []) (h1 : ¬ (l[0]? = some 48 ∧ 1 < l.length)) (h2 : ∀ (k c : Nat), l[k]? = some c → 48 ≤ c ∧ c ≤ 57) : decOK l = true := by
  cases l with
  | nil => exact absurd rfl h0
  | cons c r =>
    rw [decOK_cons, Bool.and_eq_true]
    refine ⟨?_, all_digit fun d hd => ?_⟩
    · by_cases hc : c = 48
      · subst hc
        cases r with
        | nil => simp
        | cons d r => exact absurd ⟨rfl, by simp⟩ h1
      · simp [hc]
    · obtain ⟨k, hk⟩ := List.mem_iff_getElem?.1 hd
      exact h2 k d hk
def limN (ng : Bool) : Nat := if ng then 9223372036854775808 else 9223372036854775807
theorem numE_bad {l : List Nat} (h : decOK (magL l) = false ∨ (negB l = true ∧ magL l = [48])) : numE l = (0, 1) := by unfold numE; rw [if_pos h]
theorem numE_over {l : List Nat} (h : ¬ (decOK (magL l) = false ∨ (negB l = true ∧ magL l = [48]))) (h1 : limN (negB l) < valD 0 (magL l)) : numE l = (0, 9) := by
  unfold numE
  rw [if_neg h]
  cases hn : negB l <;> rw [hn] at h1 <;> unfold limN at h1 <;> simp only [Bool.false_eq_true, if_false, if_true] at h1 ⊢ <;> rw [if_pos h1]
theorem numE_in {l : List Nat} (h : ¬ (decOK (magL l) = false ∨ (negB l = true ∧ magL l = [48]))) (h1 : valD 0 (magL l) ≤ limN (negB l)) : numE l = (if negB l then -(valD 0 (magL l) : Int) else valD 0 (magL l), 0) := by
  unfold numE
  rw [if_neg h]
  cases hn : negB l <;> rw [hn] at h1 <;> unfold limN at h1 <;> simp only [Bool.false_eq_true, if_false, if_true] at h1 ⊢ <;> rw [if_neg (by omega)]
end Go.Proofs.YtbdkggnajipdhaaDoor
/- Plain: commands, their forms, their texts. No program in sight. -/
namespace Go.Proofs.YtbdkggnajipdhaaDoor
/-- A command. -/
structure Cm where
  kind : Int
  at_ : Int
  who : Int
  a : Int
  b : Int
  name : ByteArray
  text : ByteArray
  nums : List Int
  key : Int
  nonce : Int
def Cm.zero : Cm := ⟨0, 0, 0, 0, 0, ByteArray.empty, ByteArray.empty, [], 0, 0⟩
def Cm.ok (c : Cm) : Prop := (-9223372036854775808 ≤ c.kind ∧ c.kind ≤ 9223372036854775807) ∧ (-9223372036854775808 ≤ c.at_ ∧ c.at_ ≤ 9223372036854775807) ∧ (-9223372036854775808 ≤ c.who ∧ c.who ≤ 9223372036854775807) ∧
  (-9223372036854775808 ≤ c.a ∧ c.a ≤ 9223372036854775807) ∧ (-9223372036854775808 ≤ c.b ∧ c.b ≤ 9223372036854775807) ∧ (∀ n ∈ c.nums, -9223372036854775808 ≤ n ∧ n ≤ 9223372036854775807) ∧
  (0 ≤ c.key ∧ c.key ≤ 18446744073709551615) ∧ (0 ≤ c.nonce ∧ c.nonce ≤ 18446744073709551615)
structure Fm where
  kind : Int
  word : List Nat
  fields : List Nat
  nums : Int
deriving DecidableEq
def asc (s : String) : List Nat := s.toList.map Char.toNat
def fmT : List Fm := [⟨1, asc "game", asc "abt", 0⟩, ⟨2, asc "retailer", asc "wl", 5⟩, ⟨3, asc "player", asc "wa", 0⟩, ⟨4, asc "limit", asc "wl", 3⟩, ⟨5, asc "exclude", asc "wab", 0⟩,
  ⟨6, asc "sell", asc "wabnt", 0⟩, ⟨7, asc "cancel", asc "wt", 0⟩, ⟨8, asc "commit", asc "nawk", 0⟩, ⟨9, asc "reveal", asc "nawko", 0⟩, ⟨10, asc "balls", asc "nawl", -1⟩,
  ⟨11, asc "abort", asc "na", 0⟩, ⟨12, asc "settle", asc "na", 0⟩, ⟨13, asc "claim", asc "wt", 0⟩, ⟨14, asc "expire", asc "", 0⟩, ⟨15, asc "period", asc "w", 0⟩,
  ⟨16, asc "deck", asc "kt", 0⟩, ⟨17, asc "pack", asc "nawb", 0⟩, ⟨18, asc "scratch", asc "nwt", 0⟩, ⟨19, asc "debt", asc "wnab", 0⟩, ⟨20, asc "chance", asc "nakb", 0⟩]
def fmOf (k : Int) : Option Fm := fmT.find? fun f => f.kind == k
def fmNamed (l : List Nat) : Option Fm := fmT.find? fun f => f.word == l
/-- A name. -/
def scNameB (l : List Nat) : Bool := (match l with | c :: _ => letterB c | [] => false) && decide (l.length ≤ 24) && l.all wordB
/-- Are the fields that a form does not use zero? -/
def idleB (fl : List Nat) (c : Cm) : Bool := (fl.contains 119 || c.who == 0) && (fl.contains 97 || c.a == 0) && (fl.contains 98 || c.b == 0) && (fl.contains 110 || decide (bs c.name = [])) && (fl.contains 116 || decide (bs c.text = [])) &&
  (fl.contains 107 || c.key == 0) && (fl.contains 111 || c.nonce == 0)
def chkE (c : Cm) : Int := match fmOf c.kind with
  | none => 7
  | some f =>
    if c.at_ < 0 ∨ 1073741824 < c.at_ then 2
    else if idleB f.fields c = false ∨ (f.nums ≠ -1 ∧ (c.nums.length : Int) ≠ f.nums) then 8
    else if f.fields.contains 110 = true ∧ scNameB (bs c.name) = false then 4
    else if 32768 < c.text.size ∨ 256 < c.nums.length then 3
    else 0
/-! Digits of sixteen. -/
def hexd (d : Nat) : Nat := if d < 10 then 48 + d else 87 + d
def hexT : Nat → Nat → List Nat
  | 0, _ => []
  | k + 1, x => hexd (x / 16 ^ k % 16) :: hexT k x
def hexv (c : Nat) : Option Nat := if 48 ≤ c ∧ c ≤ 57 then some (c - 48) else if 97 ≤ c ∧ c ≤ 102 then some (c - 87) else none
def hexV (acc : Nat) : List Nat → Option Nat
  | [] => some acc
  | c :: r => match hexv c with
    | none => none
    | some d => hexV (acc * 16 + d) r
def hexE (l : List Nat) : Option Nat := if l.length = 16 then hexV 0 l else none
/-! Texts in quotes. -/
def plainB (c : Nat) : Bool := decide (32 ≤ c) && decide (c ≤ 126) && c != 34 && c != 92
def qB (c : Nat) : List Nat := if plainB c then [c] else if c = 34 ∨ c = 92 then [92, c] else if c = 10 then [92, 110] else [92, 120, hexd (c / 16), hexd (c % 16)]
def quoteL (l : List Nat) : List Nat := 34 :: (l.flatMap qB ++ [34])
def escS : List Nat → Option (Nat × Nat)
  | [] => none
  | c :: r => if c = 34 ∨ c = 92 then some (c, 1) else if c = 110 then some (10, 1) else if c = 120 then
      match r with
      | h :: l :: _ => (match hexv h, hexv l with
        | some x, some y => if (32 ≤ x * 16 + y ∧ x * 16 + y ≤ 126) ∨ x * 16 + y = 10 then none else some (x * 16 + y, 3)
        | _, _ => none)
      | _ => none
    else none
def unq (l : List Nat) : Option (List Nat) := match l with
  | [] => none
  | c :: r => if c = 34 then (if r = [] then some [] else none)
    else if c = 92 then (match escS r with
      | none => none
      | some (b, n) => (unq (r.drop n)).map (b :: ·))
    else if plainB c then (unq r).map (c :: ·) else none
termination_by l.length
decreasing_by all_goals (simp only [List.length_drop, List.length_cons]; omega)
def textS (l : List Nat) : Option (List Nat) := match l with
  | c :: d :: r => if c = 32 ∧ d = 34 then unq r else none
  | _ => none
/-! Fields. -/
def notSp (c : Nat) : Bool := c != 32
def cutS : List Nat → Option (List Nat × List Nat)
  | [] => none
  | c :: r => if c = 32 then some (r.takeWhile notSp, r.dropWhile notSp) else none
def numsF (f : Nat) (count : Int) (done : Nat) (l : List Nat) : Option (List Int × List Nat) :=
  if count = done ∨ (count = -1 ∧ l = []) then some ([], l) else match f with
  | 0 => none
  | f + 1 => match cutS l with
    | none => none
    | some (t, r) => if (numE t).2 ≠ 0 then none else (numsF f count (done + 1) r).map fun p => ((numE t).1 :: p.1, p.2)
def toBA (l : List Nat) : ByteArray := ⟨(l.map UInt8.ofNat).toArray⟩
def fieldS (c : Cm) (x : Nat) (t : List Nat) : Option Cm :=
  if x = 119 then (if (numE t).2 = 0 then some { c with who := (numE t).1 } else none)
  else if x = 97 then (if (numE t).2 = 0 then some { c with a := (numE t).1 } else none)
  else if x = 98 then (if (numE t).2 = 0 then some { c with b := (numE t).1 } else none)
  else if x = 110 then (if scNameB t then some { c with name := toBA t } else none)
  else if x = 107 then (hexE t).map fun (v : Nat) => { c with key := (v : Int) }
  else if x = 111 then (hexE t).map fun (v : Nat) => { c with nonce := (v : Int) }
  else none
def fieldsS (nums : Int) : Cm → List Nat → List Nat → Option Cm
  | c, [], l => if l = [] then some c else none
  | c, x :: fl, l =>
    if x = 116 then (match textS l with | none => none | some t => fieldsS nums { c with text := toBA t } fl [])
    else if x = 108 then (match numsF (l.length + 1) nums 0 l with | none => none | some (ns, r) => fieldsS nums { c with nums := ns } fl r)
    else match cutS l with
      | none => none
      | some (t, r) => (match fieldS c x t with | none => none | some c' => fieldsS nums c' fl r)
/-- One line: an error, or its command. -/
def lineS (l : List Nat) : Except Int Cm :=
  match l.dropWhile notSp with
  | [] => .error 1
  | _ :: rest => match fmNamed (rest.takeWhile notSp) with
    | none => .error 7
    | some f => if (numE (l.takeWhile notSp)).2 ≠ 0 then .error 1 else
      match fieldsS f.nums { Cm.zero with kind := f.kind, at_ := (numE (l.takeWhile notSp)).1 } f.fields (rest.dropWhile notSp) with
      | none => .error 1
      | some c => if chkE c ≠ 0 then .error (chkE c) else .ok c
def notNl (c : Nat) : Bool := c != 10
def consS (c : Cm) : Except (Int × Nat) (List Cm) → Except (Int × Nat) (List Cm)
  | .ok L => .ok (c :: L)
  | .error e => .error e
/-- The lines of a text, behind so many commands and lines. -/
def scrS (cnt num : Nat) (l : List Nat) : Except (Int × Nat) (List Cm) :=
  if h : l = [] then .ok [] else
  if l.takeWhile notNl = [] ∨ (l.takeWhile notNl).head? = some 35 then scrS cnt (num + 1) ((l.dropWhile notNl).drop 1)
  else if 512 ≤ cnt then .error (3, num + 1)
  else match lineS (l.takeWhile notNl) with
    | .error e => .error (e, num + 1)
    | .ok c => consS c (scrS (cnt + 1) (num + 1) ((l.dropWhile notNl).drop 1))
termination_by l.length
decreasing_by
  all_goals
    have h1 := congrArg List.length (List.takeWhile_append_dropWhile (p := notNl) (l := l))
    have h2 : l.length ≠ 0 := fun e => h (List.length_eq_zero_iff.1 e)
    rw [List.length_append] at h1
    rw [List.length_drop]
    rcases Nat.eq_zero_or_pos (l.takeWhile notNl).length with h3 | h3
    · rw [h3] at h1; omega
    · omega
def parseS (l : List Nat) : Except (Int × Nat) (List Cm) := if 1048576 < l.length then .error (3, 0) else scrS 0 0 l
/-! Printing. -/
def prF (c : Cm) (x : Nat) : List Nat :=
  if x = 119 then 32 :: fmtI c.who else if x = 97 then 32 :: fmtI c.a else if x = 98 then 32 :: fmtI c.b
  else if x = 110 then 32 :: bs c.name else if x = 116 then 32 :: quoteL (bs c.text)
  else if x = 107 then 32 :: hexT 16 c.key.toNat else if x = 111 then 32 :: hexT 16 c.nonce.toNat
  else c.nums.flatMap fun n => 32 :: fmtI n
def prL (c : Cm) : List Nat := match fmOf c.kind with
  | none => []
  | some f => fmtI c.at_ ++ 32 :: f.word ++ f.fields.flatMap (prF c) ++ [10]
def firstE : List Cm → Int
  | [] => 0
  | c :: L => if chkE c ≠ 0 then chkE c else firstE L
def printE (L : List Cm) : List Nat × Int := if 512 < L.length then ([], 3) else if firstE L ≠ 0 then ([], firstE L) else (L.flatMap prL, 0)
end Go.Proofs.YtbdkggnajipdhaaDoor
