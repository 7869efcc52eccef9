/- Texts laid one behind the other: Ord4, PaE, PbD, PbE, PbF. Each says at its head what it proves. -/
import Derived.Test.YtbdkggnajipdhaaDoorRtBkZ07
set_option linter.unusedSimpArgs false
/- Regions that draw their order: readers are taken first, at the values that they yield in every world that meets S; the operations of the list pl keep S, all others wait for the readers, through others too. -/
namespace Go.Proofs.YtbdkggnajipdhaaDoor
open Go.RowKit
section
variable {P : Program} {md : Region.Mode} {ops : Array Oper} {Q : Exit → Act → World → Prop} {pl : List Nat} {S : World → Prop}
/-- Whatever order is picked from here on; the operations of the list pl keep S. -/
def wpAnyX (P : Program) (md : Region.Mode) (ops : Array Oper) (Q : Exit → Act → World → Prop) (pl : List Nat) (S : World → Prop) : Nat → Array Bool → Act → World → Prop
  | 0, listed, a, w => Region.ready md ops listed = [] ∧ Q .normal a w
  | fuel + 1, listed, a, w =>
    (Region.ready md ops listed = [] → Q .normal a w) ∧
    ∀ i ∈ Region.ready md ops listed, wpOp P ops Q i (fun a' w' => (pl.contains i = true → S w') ∧ wpAnyX P md ops Q pl S fuel (listed.setIfInBounds i true) a' w') a w
theorem wpAny_of_X : ∀ (fuel : Nat) (listed : Array Bool) (a : Act) (w : World), wpAnyX P md ops Q pl S fuel listed a w → wpAny P md ops Q fuel listed a w
  | 0, _, _, _, h => h
  | fuel + 1, _, _, _, h => ⟨h.1, fun i hi => wpOp_mono (fun a' w' h' => wpAny_of_X fuel _ a' w' h'.2) (h.2 i hi)⟩
theorem wpAnyX_firstD {i : Nat} {oi : Oper} {v : Value} (D : List Nat) (hi : ops[i]? = some oi) (hsel : ∀ (j : Nat) (o : Oper) cs b, ops[j]? = some o → o.op ≠ .select cs b)
    (hQ : ∀ c a w, Q (.panic c) (a.put oi.dst v) w → Q (.panic c) a w) :
    ∀ (fuel : Nat) (listed : Array Bool) (a : Act) (w : World),
      (∀ j ∈ D, listed.getD j true = false ∧ ∃ oj, ops[j]? = some oj ∧ ∃ e ∈ oj.after, Region.binds md e = true ∧ (e.on = i ∨ e.on ∈ D)) →
      (∀ j oj, ops[j]? = some oj → j ≠ i → listed.getD j true = false → j ∉ D → oi.apart ops oj = true ∧ pl.contains j = true) →
      i ∈ Region.ready md ops listed → YieldsIf P ops S oi v a → S w →
      wpAnyX P md ops Q pl S fuel (listed.setIfInBounds i true) (a.put oi.dst v) w → wpAnyX P md ops Q pl S (fuel + 1) listed a w := by
  intro fuel
  induction fuel with
  | zero =>
    intro listed a w _ _ hr hy hS H
    refine ⟨fun h => (by rw [h] at hr; cases hr), fun j hj => ?_⟩
    by_cases hji : j = i
    · subst hji; exact hy.wpOp hi hS ⟨fun _ => hS, H⟩
    · have := ready_mono hj hji
      rw [H.1] at this
      cases this
  | succ fuel ih =>
    intro listed a w hD hfree hr hy hS H
    refine ⟨fun h => (by rw [h] at hr; cases hr), fun j hj => ?_⟩
    by_cases hji : j = i
    · subst hji; exact hy.wpOp hi hS ⟨fun _ => hS, H⟩
    · have h1 := H.2 j (ready_mono hj hji)
      obtain ⟨hjun, oj, hoj, hall⟩ := mem_ready.1 hj
      have hun : ∀ k, listed.getD k true = false → ∀ e ∈ oj.after, Region.binds md e = true → e.on ≠ k := fun k h0 e he hb heq => by
        have h1 := hall e he hb
        rw [heq] at h1
        rcases Nat.lt_or_ge k listed.size with h' | h'
        · simp [h'] at h0 h1; rw [h0] at h1; cases h1
        · simp [Array.getElem?_eq_none h'] at h1
      have hjD : j ∉ D := fun hx => by
        obtain ⟨_, oj', hoj', e, he, hb, ho⟩ := hD j hx
        rw [hoj] at hoj'
        injection hoj' with hoj'
        subst hoj'
        rcases ho with ho | ho
        · exact hun i (mem_ready.1 hr).1 e he hb ho
        · exact hun e.on (hD e.on ho).1 e he hb rfl
      obtain ⟨hap, hpj⟩ := hfree j oj hoj hji hjun hjD
      have h2 := wpOp_putIf hoj hap (fun cs b => hsel i oi cs b hi) (fun cs b => hsel j oj cs b hoj) hQ hy h1
      have hset : ∀ k, k ≠ j → (listed.setIfInBounds j true).getD k true = listed.getD k true := fun k hk => getD_set_ne true (fun e => hk e.symm)
      have hD' : ∀ k ∈ D, (listed.setIfInBounds j true).getD k true = false ∧ ∃ ok, ops[k]? = some ok ∧ ∃ e ∈ ok.after, Region.binds md e = true ∧ (e.on = i ∨ e.on ∈ D) := fun k hk => by
        obtain ⟨q1, q2⟩ := hD k hk
        exact ⟨by rw [hset k (fun e => hjD (e ▸ hk))]; exact q1, q2⟩
      have hfree' : ∀ k ok, ops[k]? = some ok → k ≠ i → (listed.setIfInBounds j true).getD k true = false → k ∉ D → oi.apart ops ok = true ∧ pl.contains k = true := fun k ok hk hki hun hno => by
        refine hfree k ok hk hki ?_ hno
        by_cases hjk : k = j
        · subst hjk; exact hjun
        · rw [hset k hjk] at hun; exact hun
      refine wpOp_mono (fun a' w' h3 => ?_) h2
      obtain ⟨h4, h5, h6⟩ := h3
      refine ⟨h5, ih (listed.setIfInBounds j true) a' _ hD' hfree' (ready_mono hr (Ne.symm hji)) h4 (h5 hpj) ?_⟩
      rw [Array.setIfInBounds_comm _ _ hji]
      exact h6
theorem wpAnyX_firstU {i : Nat} {oi : Oper} {v : Value} (hpi : pl.contains i = false) (hi : ops[i]? = some oi) (hsel : ∀ (j : Nat) (o : Oper) cs b, ops[j]? = some o → o.op ≠ .select cs b)
    (hQ : ∀ c a w, Q (.panic c) (a.put oi.dst v) w → Q (.panic c) a w) :
    ∀ (fuel : Nat) (listed : Array Bool) (a : Act) (w : World),
      (∀ j oj, ops[j]? = some oj → j ≠ i → listed.getD j true = false → (∀ e ∈ oj.after, Region.binds md e = true → e.on ≠ i) → oi.apart ops oj = true) →
      i ∈ Region.ready md ops listed → YieldsIf P ops (fun _ => True) oi v a →
      wpAnyX P md ops Q pl S fuel (listed.setIfInBounds i true) (a.put oi.dst v) w → wpAnyX P md ops Q pl S (fuel + 1) listed a w := by
  intro fuel
  induction fuel with
  | zero =>
    intro listed a w _ hr hy H
    refine ⟨fun h => (by rw [h] at hr; cases hr), fun j hj => ?_⟩
    by_cases hji : j = i
    · subst hji; exact hy.wpOp hi trivial ⟨fun hc => (by rw [hpi] at hc; cases hc), H⟩
    · have := ready_mono hj hji
      rw [H.1] at this
      cases this
  | succ fuel ih =>
    intro listed a w hfree hr hy H
    refine ⟨fun h => (by rw [h] at hr; cases hr), fun j hj => ?_⟩
    by_cases hji : j = i
    · subst hji; exact hy.wpOp hi trivial ⟨fun hc => (by rw [hpi] at hc; cases hc), H⟩
    · have h1 := H.2 j (ready_mono hj hji)
      obtain ⟨hjun, oj, hoj, hall⟩ := mem_ready.1 hj
      have hnot : ∀ e ∈ oj.after, Region.binds md e = true → e.on ≠ i := fun e he hb heq => by
        have h1 := hall e he hb
        have h0 := (mem_ready.1 hr).1
        rw [heq] at h1
        rcases Nat.lt_or_ge i listed.size with h' | h'
        · simp [h'] at h0 h1; rw [h0] at h1; cases h1
        · simp [Array.getElem?_eq_none h'] at h1
      have h2 := wpOp_putIf hoj (hfree j oj hoj hji hjun hnot) (fun cs b => hsel i oi cs b hi) (fun cs b => hsel j oj cs b hoj) hQ hy h1
      have hfree' : ∀ k ok, ops[k]? = some ok → k ≠ i → (listed.setIfInBounds j true).getD k true = false →
          (∀ e ∈ ok.after, Region.binds md e = true → e.on ≠ i) → oi.apart ops ok = true := fun k ok hk hki hun hno => by
        refine hfree k ok hk hki ?_ hno
        by_cases hjk : j = k
        · subst hjk; exact hjun
        · rw [getD_set_ne true hjk] at hun; exact hun
      refine wpOp_mono (fun a' w' h3 => ?_) h2
      obtain ⟨h4, h5, h6⟩ := h3
      refine ⟨h5, ih (listed.setIfInBounds j true) a' _ hfree' (ready_mono hr (Ne.symm hji)) h4 ?_⟩
      rw [Array.setIfInBounds_comm _ _ hji]
      exact h6
end
section
variable {P : Program} {n : Nat} {ops : Array Oper} {Q : Exit → Sl → World → Prop} {σ : Sl} {w : World} {fuel : Nat} {listed : Array Bool} {pl : List Nat} {S : World → Prop}
/-- Does it wait for i, or for one of the list? -/
def waitsB (ops : Array Oper) (i : Nat) (D : List Nat) (j : Nat) : Bool := match ops[j]? with
  | some oj => oj.after.any fun e => Region.binds .any e && (e.on == i || D.contains e.on)
  | none => false
def depL (ops : Array Oper) (i : Nat) : List Nat := (List.range ops.size).foldl (fun D j => if waitsB ops i D j then D ++ [j] else D) []
def freeD (ops : Array Oper) (pl : List Nat) (listed : Array Bool) (i : Nat) (D : List Nat) : Bool :=
  (D.all fun j => !listed.getD j true && waitsB ops i D j) &&
  match ops[i]? with
  | none => false
  | some oi => (List.range ops.size).all fun j => j == i || listed.getD j true || D.contains j || match ops[j]? with
      | some oj => oi.apart ops oj && pl.contains j
      | none => true
theorem freeD_dep {i : Nat} {D : List Nat} (h : freeD ops pl listed i D = true) : ∀ j ∈ D, listed.getD j true = false ∧ ∃ oj, ops[j]? = some oj ∧ ∃ e ∈ oj.after, Region.binds .any e = true ∧ (e.on = i ∨ e.on ∈ D) := by
  intro j hj
  unfold freeD at h
  rw [Bool.and_eq_true, List.all_eq_true] at h
  have h1 := h.1 j hj
  rw [Bool.and_eq_true, Bool.not_eq_true'] at h1
  refine ⟨h1.1, ?_⟩
  have h2 := h1.2
  unfold waitsB at h2
  cases ho : ops[j]? with
  | none => rw [ho] at h2; cases h2
  | some oj =>
    rw [ho] at h2
    simp only [Array.any_eq_true', Bool.and_eq_true, Bool.or_eq_true, beq_iff_eq, List.contains_iff_mem] at h2
    obtain ⟨e, he, hb, hon⟩ := h2
    exact ⟨oj, rfl, e, he, hb, hon⟩
theorem freeD_spec {i : Nat} {oi : Oper} {D : List Nat} (hi : ops[i]? = some oi) (h : freeD ops pl listed i D = true) (j : Nat) (oj : Oper) (hj : ops[j]? = some oj) (hne : j ≠ i) (hun : listed.getD j true = false) (hno : j ∉ D) :
    oi.apart ops oj = true ∧ pl.contains j = true := by
  unfold freeD at h
  rw [Bool.and_eq_true] at h
  have h2 := h.2
  rw [hi] at h2
  simp only [List.all_eq_true, List.mem_range] at h2
  have h1 := h2 j (Array.getElem?_eq_some_iff.1 hj).1
  rw [hj, hun] at h1
  simp only [Bool.or_false, Bool.or_eq_true, beq_iff_eq, Bool.and_eq_true, List.contains_iff_mem] at h1
  rcases h1 with (h1 | h1) | h1
  · exact absurd h1 hne
  · exact absurd h1 hno
  · exact ⟨h1.1, by simpa using h1.2⟩
def OrdX (P : Program) (n : Nat) (ops : Array Oper) (Q : Exit → Sl → World → Prop) (pl : List Nat) (S : World → Prop) (fuel : Nat) (listed : Array Bool) (σ : Sl) (w : World) : Prop :=
  ∀ a, Fr n σ a → wpAnyX P .any ops (lift n Q) pl S fuel listed a w
@[congr] theorem OrdX_congr {σ σ' : Sl} {w w' : World} (h : σ = σ') (h' : w = w') : OrdX P n ops Q pl S fuel listed σ w = OrdX P n ops Q pl S fuel listed σ' w' := by rw [h, h']
theorem Raw_ordX (pl : List Nat) (S : World → Prop) (m : Nat) (hsz : ops.size = m) {id : Nat} (hm : P.follows .mixedOrders = true) (h : OrdX P n ops Q pl S m (Array.replicate m false) σ w.drew) : Raw P n (.region id ops true) Q σ w := by
  intro a hf
  subst hsz
  exact wp_region_any hm (wpAny_of_X _ _ _ _ (h a hf))
theorem OrdX_take (i : Nat) (D : List Nat) {d : Option Nat} {op : Op} {ty : TypeId} {p : String} {af : Array Edge} {v : Value} (hi : ops[i]? = some ⟨d, op, ty, p, af, none⟩)
    (hs : Region.noSelect ops = true) (hf : freeD ops pl listed i D = true) (hr : (Region.ready .any ops listed).contains i = true)
    (hQ : ∀ c σ w, ¬ Q (.panic c) σ w) (hS : S w) (hv : ∀ w', S w' → run1 P op ty σ w' = .ok (.value v) w')
    (h : OrdX P n ops Q pl S fuel (listed.setIfInBounds i true) (put n σ d v) w) : OrdX P n ops Q pl S (fuel + 1) listed σ w := by
  intro a hfr
  refine wpAnyX_firstD D hi (Region.noSelect_spec hs) ?_ fuel listed a w (freeD_dep hf) (freeD_spec hi hf) (by simpa using hr) (v := v) ?_ hS (h _ (hfr.put d v))
  · rintro c a w ⟨σ', _, hq⟩
    exact absurd hq (hQ _ _ _)
  · refine .inl ⟨wanted_none rfl, fun w' hw' => ?_⟩
    have := hv w' hw'
    rw [hfr.eval]
    exact this
theorem OrdX_all (rs : List Nat) (hr : Region.ready .any ops listed = rs) (hne : rs ≠ []) (h : ∀ i ∈ rs, match ops[i]? with
      | some ⟨d, op, ty, _, _, none⟩ => Okv P (fun v w' => (pl.contains i = true → S w') ∧ OrdX P n ops Q pl S fuel (listed.setIfInBounds i true) (put n σ d v) w') (run1 P op ty σ w)
      | _ => False) : OrdX P n ops Q pl S (fuel + 1) listed σ w := by
  intro a hfr
  refine ⟨fun h0 => absurd (hr ▸ h0) hne, hr ▸ fun i hi => ?_⟩
  have h2 := h i hi
  cases ho : ops[i]? with
  | none => rw [ho] at h2; exact h2.elim
  | some o =>
    rw [ho] at h2
    obtain ⟨d, op, ty, p, af, g⟩ := o
    cases g with
    | some g => exact h2.elim
    | none =>
      unfold wpOp
      simp only [ho]
      rw [if_pos (wanted_none rfl)]
      exact .inl (Oper.wp_of_Okv hfr (o := ⟨d, op, ty, p, af, none⟩) h2 fun v w' hE => ⟨hE.1, hE.2 _ (hfr.put d v)⟩)
/-- One that keeps S, where nobody else may come up. -/
theorem OrdX_one (i : Nat) {d : Option Nat} {op : Op} {ty : TypeId} {p : String} {af : Array Edge} (hr : Region.ready .any ops listed = [i]) (hi : ops[i]? = some ⟨d, op, ty, p, af, none⟩)
    (h : Okv P (fun v w' => S w' ∧ OrdX P n ops Q pl S fuel (listed.setIfInBounds i true) (put n σ d v) w') (run1 P op ty σ w)) : OrdX P n ops Q pl S (fuel + 1) listed σ w :=
  OrdX_all [i] hr (by simp) fun j hj => by
    obtain rfl : j = i := by simpa using hj
    rw [hi]
    exact Okv_mono (fun v w' h => ⟨fun _ => h.1, h.2⟩) h
/-- One that need not keep it. -/
theorem OrdX_write (i : Nat) {d : Option Nat} {op : Op} {ty : TypeId} {p : String} {af : Array Edge} (hr : Region.ready .any ops listed = [i]) (hp : pl.contains i = false) (hi : ops[i]? = some ⟨d, op, ty, p, af, none⟩)
    (h : Okv P (fun v w' => OrdX P n ops Q pl S fuel (listed.setIfInBounds i true) (put n σ d v) w') (run1 P op ty σ w)) : OrdX P n ops Q pl S (fuel + 1) listed σ w :=
  OrdX_all [i] hr (by simp) fun j hj => by
    obtain rfl : j = i := by simpa using hj
    rw [hi]
    exact Okv_mono (fun v w' h => ⟨fun hc => (by rw [hp] at hc; cases hc), h⟩) h
theorem OrdX_done (hr : Region.ready .any ops listed = []) (h : Q .normal σ w) : OrdX P n ops Q pl S fuel listed σ w := fun a hf => by
  cases fuel with
  | zero => exact ⟨hr, σ, hf, h⟩
  | succ f => exact ⟨fun _ => ⟨σ, hf, h⟩, by rw [hr]; simp⟩
theorem OrdX_chain : ∀ (js : List Nat) (listed : Array Bool) (σ : Sl) (w : World), (js.all fun j => !pl.contains j) = true → chB ops listed js = true → E P n ops (opsL ops js) σ w (Q .normal) → OrdX P n ops Q pl S js.length listed σ w
  | [], L, σ, w, _, h, hE => OrdX_done (of_decide_eq_true h) hE
  | j :: r, L, σ, w, hp, h, hE => by
    rw [chB, Bool.and_eq_true, Bool.and_eq_true] at h
    rw [List.all_cons, Bool.and_eq_true] at hp
    obtain ⟨⟨h1, h2⟩, h3⟩ := h
    rw [opsL_cons] at hE
    cases ho : ops[j]? with
    | none => rw [ho] at h2; cases h2
    | some o =>
      obtain ⟨d, op, ty, p, af, g⟩ := o
      rw [ho] at h2
      cases g with
      | some g => cases h2
      | none =>
        rw [ho, optL_some, E_op] at hE
        exact OrdX_write j (of_decide_eq_true h1) (by simpa using hp.1) ho (Okv_mono (fun v w' hh => OrdX_chain r _ _ _ hp.2 h3 hh) hE)
def rdD (n : Nat) (ops : Array Oper) (pl : List Nat) : Array Bool → List Nat → Bool
  | _, [] => true
  | L, i :: r => (match ops[i]? with
    | some ⟨some d, _, _, _, _, none⟩ => decide (d < n) && r.all fun j => (ops[j]?).bind (·.dst) != some d
    | _ => false) && freeD ops pl L i (depL ops i) && (Region.ready .any ops L).contains i && rdD n ops pl (L.setIfInBounds i true) r
theorem OrdX_reads (is : List Nat) (f : Nat) {m : Nat} {τ : Sl} (hf : m = f + is.length) (hs : Region.noSelect ops = true) (hB : rdD n ops pl listed is = true)
    (hQ : ∀ c σ w, ¬ Q (.panic c) σ w) (hS : S w) (hv : ∀ w', S w' → V P n w' (opsL ops is) σ (fun σ' => σ' = τ))
    (h : OrdX P n ops Q pl S f (markL listed is) τ w) : OrdX P n ops Q pl S m listed σ w := by
  subst hf
  induction is generalizing listed σ with
  | nil => have e : σ = τ := hv w hS; rw [e]; exact h
  | cons i r ih =>
    rw [rdD, Bool.and_eq_true, Bool.and_eq_true, Bool.and_eq_true] at hB
    obtain ⟨⟨⟨h1, h2⟩, h3⟩, h4⟩ := hB
    cases ho : ops[i]? with
    | none => rw [ho] at h1; cases h1
    | some o =>
      obtain ⟨d', op, ty, p, af, g⟩ := o
      rw [ho] at h1
      cases d' with
      | none => cases h1
      | some d =>
      cases g with
      | some g => cases h1
      | none =>
      simp only [Bool.and_eq_true, decide_eq_true_eq] at h1
      obtain ⟨hd, hr⟩ := h1
      have key : ∀ w', S w' → run1 P op ty σ w' = .ok (.value (τ d)) w' ∧ V P n w' (opsL ops r) (put n σ (some d) (τ d)) (fun σ' => σ' = τ) := by
        intro w' hw'
        have hv := hv w' hw'
        rw [opsL_cons, ho, optL_some, V_op] at hv
        cases hr1 : run1 P op ty σ w' with
        | halt x w2 => rw [hr1] at hv; exact hv.elim
        | ok nx w2 =>
          rw [hr1] at hv
          cases nx with
          | value v =>
            obtain ⟨rfl, hv⟩ := hv
            have e := V_keep r _ hr hv
            rw [put_some, if_pos hd, upd_same] at e
            rw [e]
            exact ⟨rfl, hv⟩
          | _ => exact hv.elim
      exact OrdX_take i _ ho hs h2 h3 hQ hS (fun w' hw' => (key w' hw').1) (ih h4 (fun w' hw' => (key w' hw').2) h)
/-- A reader of slots: its value in whatever world. -/
theorem OrdX_takeU (i : Nat) {d : Option Nat} {op : Op} {ty : TypeId} {p : String} {af : Array Edge} {v : Value} (hi : ops[i]? = some ⟨d, op, ty, p, af, none⟩)
    (hp : pl.contains i = false) (hs : Region.noSelect ops = true) (hf : Region.free .any ops listed i = true) (hr : (Region.ready .any ops listed).contains i = true)
    (hQ : ∀ c σ w, ¬ Q (.panic c) σ w) (hv : ∀ w', run1 P op ty σ w' = .ok (.value v) w')
    (h : OrdX P n ops Q pl S fuel (listed.setIfInBounds i true) (put n σ d v) w) : OrdX P n ops Q pl S (fuel + 1) listed σ w := by
  intro a hfr
  refine wpAnyX_firstU hp hi (Region.noSelect_spec hs) ?_ fuel listed a w (Region.free_spec hi hf) (by simpa using hr) (v := v) ?_ (h _ (hfr.put d v))
  · rintro c a w ⟨σ', _, hq⟩
    exact absurd hq (hQ _ _ _)
  · refine .inl ⟨wanted_none rfl, fun w' _ => ?_⟩
    rw [hfr.eval]
    exact hv w'
theorem OrdX_readsU (is : List Nat) (f : Nat) {m : Nat} {τ : Sl} (hf : m = f + is.length) (hp : (is.all fun i => !pl.contains i) = true) (hs : Region.noSelect ops = true) (hB : rdB n ops listed is = true)
    (hQ : ∀ c σ w, ¬ Q (.panic c) σ w) (hv : ∀ w', V P n w' (opsL ops is) σ (fun σ' => σ' = τ))
    (h : OrdX P n ops Q pl S f (markL listed is) τ w) : OrdX P n ops Q pl S m listed σ w := by
  subst hf
  induction is generalizing listed σ with
  | nil => have e : σ = τ := hv w; rw [e]; exact h
  | cons i r ih =>
    rw [List.all_cons, Bool.and_eq_true] at hp
    rw [rdB, Bool.and_eq_true, Bool.and_eq_true, Bool.and_eq_true] at hB
    obtain ⟨⟨⟨h1, h2⟩, h3⟩, h4⟩ := hB
    cases ho : ops[i]? with
    | none => rw [ho] at h1; cases h1
    | some o =>
      obtain ⟨d', op, ty, p, af, g⟩ := o
      rw [ho] at h1
      cases d' with
      | none => cases h1
      | some d =>
      cases g with
      | some g => cases h1
      | none =>
      simp only [Bool.and_eq_true, decide_eq_true_eq] at h1
      obtain ⟨hd, hr⟩ := h1
      have key : ∀ w', run1 P op ty σ w' = .ok (.value (τ d)) w' ∧ V P n w' (opsL ops r) (put n σ (some d) (τ d)) (fun σ' => σ' = τ) := by
        intro w'
        have hv := hv w'
        rw [opsL_cons, ho, optL_some, V_op] at hv
        cases hr1 : run1 P op ty σ w' with
        | halt x w2 => rw [hr1] at hv; exact hv.elim
        | ok nx w2 =>
          rw [hr1] at hv
          cases nx with
          | value v =>
            obtain ⟨rfl, hv⟩ := hv
            have e := V_keep r _ hr hv
            rw [put_some, if_pos hd, upd_same] at e
            rw [e]
            exact ⟨rfl, hv⟩
          | _ => exact hv.elim
      exact OrdX_takeU i ho (by simpa using hp.1) hs h2 h3 hQ (fun w' => (key w').1) (ih hp.2 h4 (fun w' => (key w').2) h)
end
end Go.Proofs.YtbdkggnajipdhaaDoor
/- Walks: the reader of a game: its whole state. -/
namespace Go.Proofs.YtbdkggnajipdhaaDoor
open Go.RowKit
set_option maxRecDepth 100000
/-- Numbers in a row of the call's own. -/
def IntsT (lo : Nat) (w : World) (v : Value) (L : List Int) : Prop := ∃ (A : Option Addr) (c : Nat), v = .slice A L.length c ∧ (0 < L.length → ∃ b, A = some ⟨b, 0, none⟩ ∧ Row w b 3 (iW L) ∧ lo ≤ b)
theorem IntsT.of_owns {lo : Nat} {w : World} {base c : Nat} {A : Option Addr} {L : List Int} (h : w.ownsRow base 3 1 (.slice A L.length c) L.length (iW L)) (hlo : lo ≤ base) : IntsT lo w (.slice A L.length c) L :=
  ⟨A, c, rfl, fun hn => by obtain ⟨g, e, hg, hr, _⟩ := owns_row h hn; exact ⟨g, e, hr, by omega⟩⟩
theorem IntsT.nil {lo : Nat} (w : World) : IntsT lo w (.slice none 0 0) [] := ⟨none, 0, rfl, fun h => absurd h (Nat.lt_irrefl _)⟩
/-- What changes are blocks of X, and rows of add-ons and tiers. -/
def KT (X : List Nat) (w w' : World) : Prop := w.heap.size ≤ w'.heap.size ∧ ∀ (k : Nat) (o : Obj), k ∉ X → w.heap[k]? = some o → (∀ cs f, o ≠ .cells cs 43 f) → (∀ cs f, o ≠ .cells cs 45 f) → w'.heap[k]? = some o
theorem KT.of_kept {X : List Nat} {w w' : World} (h : Kept X w w') : KT X w w' := ⟨h.size, fun k o hx ho _ _ => (h.block k (Array.getElem?_eq_some_iff.1 ho).1 hx).trans ho⟩
theorem KT.trans {X : List Nat} {a b c : World} (h : KT X a b) (k : KT X b c) : KT X a c := ⟨Nat.le_trans h.1 k.1, fun i o hx ho h1 h2 => k.2 i o hx (h.2 i o hx ho h1 h2) h1 h2⟩
theorem Row.kt {X : List Nat} {w w' : World} {g : Nat} {T : TypeId} {cs : List Value} (h : Row w g T cs) (k : KT X w w') (hg : g ∉ X) (h1 : T ≠ 43) (h2 : T ≠ 45) : Row w' g T cs := by
  obtain ⟨cur, hc, r, hr⟩ := h
  refine ⟨cur, k.2 g _ hg hc (fun cs f e => ?_) (fun cs f e => ?_), r, hr⟩
  · injection e with _ e; exact h1 e
  · injection e with _ e; exact h2 e
theorem IntsT.kt {lo : Nat} {X : List Nat} {w w' : World} {v : Value} {L : List Int} (h : IntsT lo w v L) (k : KT X w w') (hX : ∀ x ∈ X, ∀ o, w.heap[x]? = some o → ∀ cs f, o ≠ .cells cs 3 f) : IntsT lo w' v L := by
  obtain ⟨A, c, e, h⟩ := h
  refine ⟨A, c, e, fun hn => ?_⟩
  obtain ⟨b, hb, hr, hlo⟩ := h hn
  refine ⟨b, hb, hr.kt k (fun hx => ?_) (by decide) (by decide), hlo⟩
  obtain ⟨cur, hc, _⟩ := hr
  exact hX b hx _ hc _ _ rfl
theorem IntsT.of_blocksL {lo : Nat} {w w' : World} {v : Value} {L : List Int} (h : IntsT lo w v L) (k : ∀ b cs, lo ≤ b → Row w b 3 cs → w'.heap[b]? = w.heap[b]?) : IntsT lo w' v L := by
  obtain ⟨A, c, e, h⟩ := h
  refine ⟨A, c, e, fun hn => ?_⟩
  obtain ⟨b, hb, hr, hlo⟩ := h hn
  exact ⟨b, hb, hr.of_block (k b _ hlo hr), hlo⟩
theorem IntsT.of_blocks {lo : Nat} {w w' : World} {v : Value} {L : List Int} (h : IntsT lo w v L) (k : ∀ b cs, Row w b 3 cs → w'.heap[b]? = w.heap[b]?) : IntsT lo w' v L := h.of_blocksL fun b cs _ hr => k b cs hr
theorem below_drew {B : Nat} {a w : World} (h : Below B a w) : Below B a w.drew := ⟨h.os, h.tape, h.output, h.size, h.block⟩
/-- An add-on's cells. -/
def AdC (P : Value → List Int → Prop) (cs : List Value) (x : Ad) : Prop := ∃ vf vs, cs = [.string x.name, .int .i64 x.kind, .int .i64 x.price, vf, .int .i64 x.digits, vs] ∧ P vf x.factors ∧ P vs x.serials
theorem AdC.mono {P P' : Value → List Int → Prop} {cs : List Value} {x : Ad} (h : AdC P cs x) (hp : ∀ v L, P v L → P' v L) : AdC P' cs x := by
  obtain ⟨vf, vs, e, h1, h2⟩ := h
  exact ⟨vf, vs, e, hp _ _ h1, hp _ _ h2⟩
def AdsC (P : Value → List Int → Prop) (Vs : List (List Value)) (L : List Ad) : Prop := Vs.length = L.length ∧ ∀ (i : Nat) (cs : List Value) (x : Ad), Vs[i]? = some cs → L[i]? = some x → AdC P cs x
theorem AdsC.mono {P P' : Value → List Int → Prop} {Vs : List (List Value)} {L : List Ad} (h : AdsC P Vs L) (hp : ∀ v L, P v L → P' v L) : AdsC P' Vs L := ⟨h.1, fun i cs x h1 h2 => (h.2 i cs x h1 h2).mono hp⟩
theorem AdsC.snoc {P : Value → List Int → Prop} {Vs : List (List Value)} {L : List Ad} {cs : List Value} {x : Ad} (h : AdsC P Vs L) (hx : AdC P cs x) : AdsC P (Vs ++ [cs]) (L ++ [x]) := by
  refine ⟨by rw [List.length_append, List.length_append, h.1]; rfl, fun i cs' x' h1 h2 => ?_⟩
  rw [List.getElem?_append] at h1 h2
  have hl := h.1
  by_cases hi : i < L.length
  · rw [if_pos (by omega)] at h1
    rw [if_pos hi] at h2
    exact h.2 i _ _ h1 h2
  · rw [if_neg (by omega)] at h1
    rw [if_neg hi] at h2
    rw [hl] at h1
    cases hd : i - L.length with
    | zero =>
      rw [hd] at h1 h2
      simp only [List.getElem?_cons_zero, Option.some.injEq] at h1 h2
      subst h1 h2
      exact hx
    | succ k => rw [hd] at h1; simp at h1
def encTi (t : Ti) : List Value := [.int .i64 t.main, .int .i64 t.bonus, .int .i64 t.extra, .int .i64 t.mode, .int .i64 t.kind, .int .i64 t.value]
/-- The state of a reader of games. -/
structure GmSt (w : World) (base g gs : Nat) (A : Option Addr) (c : Nat) (T : List Tk) (a : Nat) (G : Gm) (seen : List (List Nat)) (Va Vt : Value) (Vs : List (List Value)) : Prop where
  pk : PkIn w g A c T a (.map (some gs) :: gmV G Va Vt)
  sn : SeenIn w gs seen
  ads : AdsC (IntsT base w) Vs G.addons
  own : w.ownsRow base 43 6 Va G.addons.length Vs.flatten
  tis : w.ownsRow base 45 6 Vt G.tiers.length (G.tiers.flatMap encTi)
  fewA : G.addons.length ≤ a
  fewT : G.tiers.length ≤ a
  days : asc "days" ∉ seen → G.n 9 = 0
  toks : ∀ b o, A = some ⟨b, o, none⟩ → b < base
  hg : 5 ≤ base ∧ base ≤ g ∧ base ≤ gs ∧ gs ≠ g
theorem not_int_parser {w : World} {g : Nat} {cs : List Value} (h : Row w g 71 cs) : ∀ o, w.heap[g]? = some o → ∀ cs f, o ≠ .cells cs 3 f := fun o ho cs f e => by
  obtain ⟨cur, hc, _⟩ := h
  rw [hc] at ho
  injection ho with ho
  rw [← ho] at e
  injection e with _ e
  exact absurd e (by decide)
theorem not_int_seen {w : World} {g : Nat} {seen : List (List Nat)} (h : SeenIn w g seen) : ∀ o, w.heap[g]? = some o → ∀ cs f, o ≠ .cells cs 3 f := fun o ho cs f e => by
  obtain ⟨l, clk, hc, _⟩ := h
  rw [hc] at ho
  injection ho with ho
  rw [← ho] at e
  cases e
theorem own_ne {w : World} {base sz n g : Nat} {e T : TypeId} {v : Value} {xs cs : List Value} (h : w.ownsRow base e sz v n xs) (hR : Row w g T cs) (hT : T ≠ e) : v.ownBlock ≠ some g := fun hb => by
  rcases h.2 with ⟨rfl, _⟩ | ⟨g', cap, cur, rfl, _, h2, _⟩
  · cases hb
  · simp only [Value.ownBlock, Option.some.injEq] at hb
    subst hb
    obtain ⟨cur', hc, _⟩ := hR
    rw [hc] at h2
    injection h2 with h2
    injection h2 with _ h2
    exact hT h2
theorem own_ne_seen {w : World} {base sz n g : Nat} {e : TypeId} {v : Value} {xs : List Value} {seen : List (List Nat)} (h : w.ownsRow base e sz v n xs) (hS : SeenIn w g seen) : v.ownBlock ≠ some g := fun hb => by
  rcases h.2 with ⟨rfl, _⟩ | ⟨g', cap, cur, rfl, _, h2, _⟩
  · cases hb
  · simp only [Value.ownBlock, Option.some.injEq] at hb
    subst hb
    obtain ⟨l, clk, hc, _⟩ := hS
    rw [hc] at h2
    cases h2
theorem own_ne_own {w : World} {b1 b2 s1 s2 n1 n2 k : Nat} {e1 e2 : TypeId} {v1 v2 : Value} {x1 x2 : List Value} (h : w.ownsRow b1 e1 s1 v1 n1 x1) (h' : w.ownsRow b2 e2 s2 v2 n2 x2) (he : e1 ≠ e2) (hk : v2.ownBlock = some k) : v1.ownBlock ≠ some k := fun hb => by
  rcases h.2 with ⟨rfl, _⟩ | ⟨g', cap, cur, rfl, _, h2, _⟩
  · cases hb
  · rcases h'.2 with ⟨rfl, _⟩ | ⟨g2, cap2, cur2, rfl, _, h2', _⟩
    · cases hk
    · simp only [Value.ownBlock, Option.some.injEq] at hb hk
      subst hb
      rw [hk, h2] at h2'
      injection h2' with h2'
      injection h2' with _ h2'
      exact he h2'
section
variable {base g gs c a : Nat} {A : Option Addr} {T : List Tk} {w : World} {G : Gm} {seen : List (List Nat)} {Va Vt : Value} {Vs : List (List Value)}
/-- A reader's step that only goes on, and may set numbers. -/
theorem GmSt.step {w' : World} {a' : Nat} {n' : Nat → Int} (h : GmSt w base g gs A c T a G seen Va Vt Vs) (k : Kept [g] w w') (hp : PkIn w' g A c T a' (.map (some gs) :: gmV { G with n := n' } Va Vt)) (ha : a ≤ a') (h9 : asc "days" ∉ seen → n' 9 = 0) : GmSt w' base g gs A c T a' { G with n := n' } seen Va Vt Vs := by
  obtain ⟨h1, h2, h3, h4, h5, h6, h7, h8, h9', h10⟩ := h
  have hne := h10.2.2.2
  refine ⟨hp, h2.kept k (by simpa using hne), h3.mono fun v L hv => hv.kt (KT.of_kept k) (fun x hx => by simp at hx; subst hx; exact not_int_parser h1.row), ?_, ?_, Nat.le_trans h6 ha, Nat.le_trans h7 ha, h9, h9', h10⟩
  · refine owns_keep h4 fun b hb => k.block b (owns_ge h4 hb).2 fun hx => ?_
    simp at hx
    subst hx
    exact own_ne h4 h1.row (by decide) hb
  · refine owns_keep h5 fun b hb => k.block b (owns_ge h5 hb).2 fun hx => ?_
    simp at hx
    subst hx
    exact own_ne h5 h1.row (by decide) hb
theorem GmSt.leaf {w' : World} {a' : Nat} (h : GmSt w base g gs A c T a G seen Va Vt Vs) (k : Kept [g] w w') (hp : PkIn w' g A c T a' (.map (some gs) :: gmV G Va Vt)) (ha : a ≤ a') : GmSt w' base g gs A c T a' G seen Va Vt Vs :=
  h.step (n' := G.n) k hp ha h.days
theorem GmSt.once {w' : World} {seen' : List (List Nat)} (h : GmSt w base g gs A c T a G seen Va Vt Vs) (k : Kept [gs] w w') (hs : SeenIn w' gs seen') (hp : PkIn w' g A c T a (.map (some gs) :: gmV G Va Vt)) (h9 : asc "days" ∉ seen' → asc "days" ∉ seen) : GmSt w' base g gs A c T a G seen' Va Vt Vs := by
  obtain ⟨h1, h2, h3, h4, h5, h6, h7, h8, h9', h10⟩ := h
  refine ⟨hp, hs, h3.mono fun v L hv => hv.kt (KT.of_kept k) (fun x hx => by simp at hx; subst hx; exact not_int_seen h2), ?_, ?_, h6, h7, fun e => h8 (h9 e), h9', h10⟩
  · refine owns_keep h4 fun b hb => k.block b (owns_ge h4 hb).2 fun hx => ?_
    simp at hx
    subst hx
    exact own_ne_seen h4 h2 hb
  · refine owns_keep h5 fun b hb => k.block b (owns_ge h5 hb).2 fun hx => ?_
    simp at hx
    subst hx
    exact own_ne_seen h5 h2 hb
theorem GmSt.below {w' : World} (h : GmSt w base g gs A c T a G seen Va Vt Vs) (k : Below w.heap.size w w') : GmSt w' base g gs A c T a G seen Va Vt Vs :=
  h.leaf (Kept.of_below k) (h.pk.below k) (Nat.le_refl _)
theorem GmSt.keptB {X : List Nat} {w' : World} (h : GmSt w base g gs A c T a G seen Va Vt Vs) (k : Kept X w w') (hX : ∀ x ∈ X, base ≤ x) : Below base w w' :=
  ⟨k.os, k.tape, k.output, k.size, fun i hi => k.block i (by have := h.pk.row.lt; have := h.hg; omega) fun hx => by have := hX i hx; omega⟩
/-- What a part of the reader gives: the game so far. -/
def ResG (base g gs : Nat) (A : Option Addr) (c : Nat) (T : List Tk) (w : World) (r : Except (Int × List Tk) ((Gm × List (List Nat)) × List Tk)) (e : Ending) (w' : World) : Prop := Below base w w' ∧ match r with
  | .ok x => e = .returned (.tuple #[]) ∧ ∃ a' Va Vt Vs, x.2 = T.drop a' ∧ GmSt w' base g gs A c T a' x.1.1 x.1.2 Va Vt Vs
  | .error x => e = .panicked [{ v := failV x.1 (hdT x.2).line, recovered := false }]
theorem ResG.ok {r : Except (Int × List Tk) ((Gm × List (List Nat)) × List Tk)} {w' : World} {G' : Gm} {seen' : List (List Nat)} {a' : Nat} (hr : r = .ok ((G', seen'), T.drop a')) (k : Below base w w') (h : GmSt w' base g gs A c T a' G' seen' Va Vt Vs) : ResG base g gs A c T w r (.returned (.tuple #[])) w' := by
  subst hr; exact ⟨k, rfl, a', Va, Vt, Vs, rfl, h⟩
theorem ResG.err {r : Except (Int × List Tk) ((Gm × List (List Nat)) × List Tk)} {w' : World} {e : Int} {L : List Tk} (hr : r = .error (e, L)) (k : Below base w w') : ResG base g gs A c T w r (.panicked [{ v := failV e (hdT L).line, recovered := false }]) w' := by
  subst hr; exact ⟨k, rfl⟩
theorem ResG.use {P : Program} {f : FuncId} {args : Array Value} {r : Except (Int × List Tk) ((Gm × List (List Nat)) × List Tk)} {R : Value → World → Prop} {X : List PanicEntry → World → Prop} (hc : Calls P f args w (ResG base g gs A c T w r))
    (h1 : ∀ G' seen' a' Va Vt Vs w', r = .ok ((G', seen'), T.drop a') → Below base w w' → GmSt w' base g gs A c T a' G' seen' Va Vt Vs → R (.tuple #[]) w')
    (h2 : ∀ e L w', r = .error (e, L) → Below base w w' → X [{ v := failV e (hdT L).line, recovered := false }] w') : Calls P f args w (Ends R X) := by
  refine hc.mono fun e w' h => ?_
  obtain ⟨k, h⟩ := h
  cases hr : r with
  | ok x =>
    rw [hr] at h
    obtain ⟨⟨G', seen'⟩, L⟩ := x
    obtain ⟨rfl, a', Va', Vt', Vs', ha, hp⟩ := h
    dsimp only at ha
    subst ha
    exact h1 G' seen' a' Va' Vt' Vs' w' hr k hp
  | error x =>
    rw [hr] at h
    obtain ⟨e', L⟩ := x
    have h : e = _ := h
    subst h
    exact h2 e' L w' hr k
/-- One record more in a row of the call's own: what else stands. -/
theorem push2 {P : Program} {sz e n cp T2 ty bytes : Nat} {A0 : Option Addr} {xs news : List Value} (h : w.ownsRow base e sz (.slice A0 n cp) n xs) (hb : base ≤ w.heap.size) (hI : sliceI P T2 = some (e, sz, bytes)) (hn : news.length = sz) (h1 : ∀ u ∈ news, u.oneCell' = true)
    (h63 : n + 1 ≤ 1000000000) (hby : bytes ≤ 10000) :
    ∃ A' c' w2, vAppend P T2 T2 ty (.slice A0 n cp) (.slice (some ⟨w.heap.size, 0, none⟩) 1 1) (w.alloc (.cells news.toArray e)) = .ok (.value (.slice A' (n + 1) c')) w2 ∧
      w2.ownsRow base e sz (.slice A' (n + 1) c') (n + 1) (xs ++ news) ∧ Below base w w2 ∧ w.heap.size ≤ w2.heap.size ∧ ∀ k, k < w.heap.size → (Value.slice A0 n cp).ownBlock ≠ some k → w2.heap[k]? = w.heap[k]? := by
  have hba := below_alloc w (.cells news.toArray e)
  obtain ⟨A', c', w2, he, ho, hg', hbk⟩ := vAppend_own (P := P) (ty := ty) (m := 1) (c := 1) (b := w.heap.size) (o := 0) (news := news) hI (owns_below h hba) (by rw [hn, Nat.one_mul])
    (fun j u hu => by rw [Nat.zero_add, (new_block w news.toArray e).1 j]; simpa using hu) h1 h63 hby (by rw [World.size_alloc]; omega)
  have hgrow : Below base (w.alloc (.cells news.toArray e)) w2 := grown_below hg' (fun g hg => (owns_ge h hg).1) (by rw [World.size_alloc]; omega)
  have hB := (hba.mono hb).trans hgrow
  refine ⟨A', c', w2, he, ho, hB, hB.size, fun k hk hne => ?_⟩
  exact (hg'.block k (by rw [World.size_alloc]; omega) (fun e => hne e.symm)).trans (hba.block k hk)
end
end Go.Proofs.YtbdkggnajipdhaaDoor
/- The printer's steps beside a value that it reads: one state, one lemma a step. -/
namespace Go.Proofs.YtbdkggnajipdhaaDoor
open Go.RowKit
set_option maxRecDepth 100000
/-- The printer at block g; the value that is read at block b; B bounds the text. -/
structure Pst (g b : Nat) (T : TypeId) (cs : List Value) (w wi : World) (p : Pr) (B : Nat) : Prop where
  pb : PbIn g wi p
  kb : KB g w wi
  row : Row wi b T cs
  laid : Laid wi
  le : p.X.length ≤ B
  lo : 32768 ≤ B
  hg : 5 ≤ g
  ne : b ≠ g
  nt : T ≠ 5
section
variable {g b B : Nat} {T : TypeId} {cs : List Value} {w wi w' : World} {p p' : Pr}
theorem Pst.next (h : Pst g b T cs w wi p B) {B' : Nat} (h1 : PbIn g w' p') (k1 : KB g wi w') (hl : p'.X.length ≤ B') (hB : B ≤ B') : Pst g b T cs w w' p' B' :=
  ⟨h1, h.kb.trans k1, h.row.kb k1 h.ne h.nt, h.laid.kb k1 h.hg, hl, Nat.le_trans h.lo hB, h.hg, h.ne, h.nt⟩
theorem Pst.of_box (h : PbIn g w p) (hW : Laid w) (hg : 5 ≤ g) (hT : T ≠ 5) (hl : p.X.length ≤ B) (hB : 32768 ≤ B) : Pst g w.heap.size T cs w (w.alloc (.cells cs.toArray T)) p B :=
  ⟨h.alloc _, (KB.refl g w).alloc (by have := h.lt; omega) _, Row.new w T cs, hW.below (below_alloc w _) hW.size, hl, hB, hg, by have := h.lt; omega, hT⟩
theorem ws1_len (p : Pr) (s : ByteArray) : (p.ws [bs s]).X.length = p.X.length + (1 + s.size) := by
  rw [ws_len]; simp [bs_len]; omega
theorem begin_len (p : Pr) (s : ByteArray) : (p.begin (bs s)).X.length = p.X.length + (2 + s.size) := by
  unfold Pr.begin
  rw [ws1_len, add_len]
  simp; omega
theorem fin_len (p : Pr) : p.fin.X.length = p.X.length + 2 := by
  show (p.add (asc ";\n")).X.length = _
  rw [add_len]; rfl
theorem opt_len (p : Pr) (s : ByteArray) (n std : Int) (hs : s.size ≤ 100) (hl : p.X.length ≤ B) (hB : 32768 ≤ B) : (p.opt (bs s) n std).X.length ≤ B + 200 := by
  unfold Pr.opt
  split
  · omega
  · rw [fin_len]
    have := nums_max [n] (p.begin (bs s))
    rw [begin_len] at this
    omega
theorem hits_len (p : Pr) (s : ByteArray) (n : Int) (hs : s.size ≤ 100) (hl : p.X.length ≤ B) (hB : 32768 ≤ B) : (p.hits (bs s) n).X.length ≤ B + 200 := by
  unfold Pr.hits
  split
  · omega
  · have := nums_max [n] (p.ws [bs s])
    rw [ws1_len] at this
    omega
theorem nm_len (p : Pr) (s : ByteArray) : (p.nm s).X.length ≤ p.X.length + (1 + s.size) := by
  unfold Pr.nm
  split
  · exact Nat.le_add_right _ _
  · rw [ws1_len]; exact Nat.le_refl _
theorem qReq (h : Pst g b T cs w wi p B) (c : Bool) : Calls Tryd.prog 20 #[.pointer (some ⟨g, 0, none⟩), .bool c] wi fun e w' => e = .returned (.tuple #[]) ∧ Pst g b T cs w w' (p.req c) B := by
  refine (pbRequire_any h.pb c).mono ?_
  rintro e w1 ⟨rfl, h1, k1⟩
  exact ⟨rfl, h.next h1 k1 h.le (Nat.le_refl _)⟩
theorem qBegin (h : Pst g b T cs w wi p B) (s : ByteArray) (hs : s.size ≤ 100) (hB : B ≤ 400000000) : Calls Tryd.prog 34 #[.pointer (some ⟨g, 0, none⟩), .string s] wi fun e w' => e = .returned (.tuple #[]) ∧ Pst g b T cs w w' (p.begin (bs s)) (B + 102) := by
  have hl := h.le
  refine (pbBegin_any h.pb s (by omega)).mono ?_
  rintro e w1 ⟨rfl, h1, k1⟩
  exact ⟨rfl, h.next h1 k1 (by rw [begin_len]; omega) (by omega)⟩
theorem qEnd (h : Pst g b T cs w wi p B) (hB : B ≤ 400000000) : Calls Tryd.prog 36 #[.pointer (some ⟨g, 0, none⟩)] wi fun e w' => e = .returned (.tuple #[]) ∧ Pst g b T cs w w' p.fin (B + 2) := by
  have hl := h.le
  refine (pbEnd_any h.pb (by omega)).mono ?_
  rintro e w1 ⟨rfl, h1, k1⟩
  exact ⟨rfl, h.next h1 k1 (by rw [fin_len]; omega) (by omega)⟩
theorem qWord (h : Pst g b T cs w wi p B) (s : ByteArray) (hs : s.size ≤ 300) (hB : B ≤ 400000000) :
    Calls Tryd.prog 33 #[.pointer (some ⟨g, 0, none⟩), .slice (some ⟨wi.heap.size, 0, none⟩) 1 1] (wi.alloc (.cells #[.string s] 9)) fun e w' => e = .returned (.tuple #[]) ∧ Pst g b T cs w w' (p.ws [bs s]) (B + 301) := by
  have hl := h.le
  have hl1 := ws1_len p s
  refine (pbWords_any h.pb [s] (by simp) (by simp only [List.map_cons, List.map_nil]; omega)).mono ?_
  rintro e w1 ⟨rfl, h1, k1⟩
  exact ⟨rfl, h.next h1 k1 (by omega) (by omega)⟩
theorem qNum (h : Pst g b T cs w wi p B) (n : Int) (hB : B ≤ 400000000) :
    Calls Tryd.prog 35 #[.pointer (some ⟨g, 0, none⟩), .slice (some ⟨wi.heap.size, 0, none⟩) 1 1] (wi.alloc (.cells #[.int .i64 n] 3)) fun e w' => e = .returned (.tuple #[]) ∧ Pst g b T cs w w' (p.nums [n]) (B + 19) := by
  have hl := h.le
  have hlo := h.lo
  refine (pbNums_any h.pb [n] h.laid h.hg (by simp) (by omega)).mono ?_
  rintro e w1 ⟨rfl, h1, k1⟩
  exact ⟨rfl, h.next h1 k1 (by have := nums_max [n] p; omega) (by omega)⟩
theorem qNum2 (h : Pst g b T cs w wi p B) (n m : Int) (hB : B ≤ 400000000) :
    Calls Tryd.prog 35 #[.pointer (some ⟨g, 0, none⟩), .slice (some ⟨wi.heap.size, 0, none⟩) 2 2] (wi.alloc (.cells #[.int .i64 n, .int .i64 m] 3)) fun e w' => e = .returned (.tuple #[]) ∧ Pst g b T cs w w' (p.nums [n, m]) (B + 19) := by
  have hl := h.le
  have hlo := h.lo
  refine (pbNums_any h.pb [n, m] h.laid h.hg (by simp) (by omega)).mono ?_
  rintro e w1 ⟨rfl, h1, k1⟩
  exact ⟨rfl, h.next h1 k1 (by have := nums_max [n, m] p; omega) (by omega)⟩
theorem qNumbers {L : List Int} {A : Option Addr} {c : Nat} (h : Pst g b T cs w wi p B) (hA : ∀ w', KB g wi w' → Arr w' A 1 (L.map fun n => [Value.int .i64 n])) (hl : L.length ≤ 1000000000) (hB : B ≤ 400000000) :
    Calls Tryd.prog 35 #[.pointer (some ⟨g, 0, none⟩), .slice A L.length c] wi fun e w' => e = .returned (.tuple #[]) ∧ Pst g b T cs w w' (p.nums L) (B + 19) := by
  have hl := h.le
  have hlo := h.lo
  refine (pbNumbers_any h.pb hA h.laid h.hg (by omega) (by omega)).mono ?_
  rintro e w1 ⟨rfl, h1, k1⟩
  exact ⟨rfl, h.next h1 k1 (by have := nums_max L p; omega) (by omega)⟩
theorem qOpt (h : Pst g b T cs w wi p B) (s : ByteArray) (n std : Int) (hs : s.size ≤ 100) (hB : B ≤ 400000000) : Calls Tryd.prog 17 #[.pointer (some ⟨g, 0, none⟩), .string s, .int .i64 n, .int .i64 std] wi fun e w' =>
    e = .returned (.tuple #[]) ∧ Pst g b T cs w w' (p.opt (bs s) n std) (B + 200) := by
  have hl := h.le
  refine (pbOption_any h.pb s n std h.laid h.hg hs (by omega)).mono ?_
  rintro e w1 ⟨rfl, h1, k1⟩
  exact ⟨rfl, h.next h1 k1 (opt_len p s n std hs h.le h.lo) (by omega)⟩
theorem qHits (h : Pst g b T cs w wi p B) (s : ByteArray) (n : Int) (hs : s.size ≤ 100) (hB : B ≤ 400000000) : Calls Tryd.prog 37 #[.pointer (some ⟨g, 0, none⟩), .string s, .int .i64 n] wi fun e w' =>
    e = .returned (.tuple #[]) ∧ Pst g b T cs w w' (p.hits (bs s) n) (B + 200) := by
  have hl := h.le
  refine (pbHits_any h.pb s n h.laid h.hg hs (by omega)).mono ?_
  rintro e w1 ⟨rfl, h1, k1⟩
  exact ⟨rfl, h.next h1 k1 (hits_len p s n hs h.le h.lo) (by omega)⟩
theorem qName (h : Pst g b T cs w wi p B) (s : ByteArray) (hs : s.size ≤ 1000000) (hB : B ≤ 400000000) : Calls Tryd.prog 14 #[.pointer (some ⟨g, 0, none⟩), .string s] wi fun e w' => e = .returned (.tuple #[]) ∧ Pst g b T cs w w' (p.nm s) (B + 1000001) := by
  have hl := h.le
  refine (pbName_any h.pb s (by omega)).mono ?_
  rintro e w1 ⟨rfl, h1, k1⟩
  exact ⟨rfl, h.next h1 k1 (by have := nm_len p s; omega) (by omega)⟩
theorem qStr (h : Pst g b T cs w wi p B) (s : ByteArray) (hs : s.size ≤ 300) (hB : B ≤ 400000000) : Calls Tryd.prog 13 #[.pointer (some ⟨g, 0, none⟩), .string s] wi fun e w' => e = .returned (.tuple #[.int .i64 s.size, .nilIface]) ∧ Pst g b T cs w w' (p.add (bs s)) (B + 300) := by
  have hl := h.le
  refine (pbStr_any h.pb s (by omega)).mono ?_
  rintro e w1 ⟨rfl, h1, k1⟩
  exact ⟨rfl, h.next h1 k1 (by rw [add_len, bs_len]; omega) (by omega)⟩
/-- The printer gets bad. -/
theorem Pst.spoil (h : Pst g b T cs w wi p B) : ∃ c2, wi.cell? ⟨g, 2, none⟩ = some c2 ∧ wi.frozen? ⟨g, 2, none⟩ = false ∧ Pst g b T cs w (wi.setCell ⟨g, 2, none⟩ (.bool true)) ⟨p.X, true⟩ B := by
  obtain ⟨q, A, c, h1⟩ := id h.pb
  refine ⟨_, h1.row.cell (i := 2) rfl, h1.row.frozen 2, ?_⟩
  exact h.next ⟨q, A, c, bad_set h1 true⟩ ⟨(Below.refl _ wi).setCell (p := ⟨g, 2, none⟩) (Nat.le_refl _) _, Keeps.setCell _ _ _ _⟩ h.le (Nat.le_refl _)
theorem Pst.bad (h : Pst g b T cs w wi p B) : wi.cell? ⟨g, 2, none⟩ = some (.bool p.bad) := by
  obtain ⟨q, A, c, h1⟩ := id h.pb
  exact h1.row.cell (i := 2) rfl
theorem Pst.cell (h : Pst g b T cs w wi p B) (i : Nat) {v : Value} (hv : cs[i]? = some v) : wi.cell? ⟨b, i, none⟩ = some v := h.row.cell hv
end
end Go.Proofs.YtbdkggnajipdhaaDoor
/- Walk: the printer's head. -/
namespace Go.Proofs.YtbdkggnajipdhaaDoor
open Nat (reduceAdd reduceMul reduceSub reduceEqDiff reduceLT reduceLeDiff)
open Go.RowKit
set_option maxRecDepth 100000
section
variable {g B : Nat} {w : World} {p : Pr}
set_option maxHeartbeats 4000000 in
theorem pbHead_any (h : PbIn g w p) (G : Gm) (Va Vt : Value) (hW : Laid w) (hg : 5 ≤ g) (hl : p.X.length ≤ B) (hlo : 32768 ≤ B) (hB : B ≤ 300000000) :
    Calls Tryd.prog 15 #[.pointer (some ⟨g, 0, none⟩), .agg (gmV G Va Vt).toArray] w fun e w' => e = .returned (.tuple #[]) ∧ Pst g w.heap.size 25 (gmV G Va Vt) w w' (p.head G.n) (B + 3000) := by
  refine calls_W (l := [_, _]) Tryd.func15 rfl _ Tryd.ntmps15 (by simp) ?_
  generalize hr : p.head G.n = r
  unfold Pr.head at hr
  have h0 := Pst.of_box (T := 25) (cs := gmV G Va Vt) h hW hg (by decide) hl hlo
  have b1 : w.cell? ⟨w.heap.size, 1, none⟩ = w.cell? ⟨w.heap.size, 1, none⟩ := rfl
  have k0 : (w.alloc (.cells (gmV G Va Vt).toArray 25)).cell? ⟨w.heap.size, 1, none⟩ = some (.int .i64 (G.n 0)) := h0.cell 1 rfl
  refine W_piece fun K hK hX => ?_
  simp +contextual (maxSteps := 2000000) (disch := first | omega | (simp only [SZ]; first | done | omega) | (simp only [TS] at *; omega)) only [RZ, ovw, oneC, reduceAdd, reduceMul, reduceSub, reduceEqDiff, reduceLT, ↓reduceIte, Int.reduceToNat, reduceLeDiff]
  refine hK _ _ ?_
  clear hK hX K b1
  generalize w.alloc (.cells (gmV G Va Vt).toArray 25) = w0 at h0 k0 ⊢
  have hlt : w.heap.size < w0.heap.size := h0.row.lt
  refine W_cutS (fun σ w1 => ∃ s : ByteArray, bs s = (if G.n 0 = 1 then asc "choose" else asc "digits") ∧ σ 0 = .pointer (some ⟨g, 0, none⟩) ∧ σ 3 = .pointer (some ⟨w.heap.size, 0, none⟩) ∧ (G.n 0 = 1 ∨ G.n 0 = 2) ∧ Pst g w.heap.size 25 (gmV G Va Vt) w w1 (p.begin (bs s)) (B + 102)) ?_ ?_
  rotate_left
  · refine W_piece fun K hK hX => ?_
    simp +contextual (maxSteps := 2000000) (disch := first | omega | (simp only [SZ]; first | done | omega) | (simp only [TS] at *; omega)) only [RZ, ovw, oneC, reduceAdd, reduceMul, reduceSub, reduceEqDiff, reduceLT, ↓reduceIte, Int.reduceToNat, reduceLeDiff,  k0]
    refine hK _ _ ?_
    clear hK hX K
    rw [W_block]
    refine W_piece fun K hK hX => ?_
    simp +contextual (maxSteps := 2000000) (disch := first | omega | (simp only [SZ]; first | done | omega) | (simp only [TS] at *; omega)) only [RZ, ovw, oneC, reduceAdd, reduceMul, reduceSub, reduceEqDiff, reduceLT, ↓reduceIte, Int.reduceToNat, reduceLeDiff]
    refine hK _ _ ?_
    clear hK hX K
    by_cases e1 : G.n 0 = 1
    · rw [show decide (G.n 0 = 1) = true by simp [e1]]
      refine W_if_t rfl ?_
      simp +contextual (maxSteps := 2000000) (disch := first | omega | (simp only [SZ]; first | done | omega) | (simp only [TS] at *; omega)) only [RZ, ovw, oneC, reduceAdd, reduceMul, reduceSub, reduceEqDiff, reduceLT, ↓reduceIte, Int.reduceToNat, reduceLeDiff]
      refine (qBegin h0 ⟨#[99, 104, 111, 111, 115, 101]⟩ (by decide) (by omega)).mono ?_
      rintro e w1 ⟨rfl, h1⟩
      refine ⟨_, rfl, ?_⟩
      try simp +contextual (maxSteps := 2000000) (disch := first | omega | (simp only [SZ]; first | done | omega) | (simp only [TS] at *; omega)) only [RZ, ovw, oneC, reduceAdd, reduceMul, reduceSub, reduceEqDiff, reduceLT, ↓reduceIte, Int.reduceToNat, reduceLeDiff]
      refine ⟨⟨#[99, 104, 111, 111, 115, 101]⟩, ?_, .inl e1, h1⟩
      rw [if_pos e1]; decide +kernel
    · rw [show decide (G.n 0 = 1) = false by simp [e1]]
      refine W_if_f rfl ?_
      refine W_piece fun K hK hX => ?_
      simp +contextual (maxSteps := 2000000) (disch := first | omega | (simp only [SZ]; first | done | omega) | (simp only [TS] at *; omega)) only [RZ, ovw, oneC, reduceAdd, reduceMul, reduceSub, reduceEqDiff, reduceLT, ↓reduceIte, Int.reduceToNat, reduceLeDiff]
      refine hK _ _ ?_
      clear hK hX K
      by_cases e2 : G.n 0 = 2
      · rw [show decide (G.n 0 = 2) = true by simp [e2]]
        refine W_if_t rfl ?_
        simp +contextual (maxSteps := 2000000) (disch := first | omega | (simp only [SZ]; first | done | omega) | (simp only [TS] at *; omega)) only [RZ, ovw, oneC, reduceAdd, reduceMul, reduceSub, reduceEqDiff, reduceLT, ↓reduceIte, Int.reduceToNat, reduceLeDiff]
        refine (qBegin h0 ⟨#[100, 105, 103, 105, 116, 115]⟩ (by decide) (by omega)).mono ?_
        rintro e w1 ⟨rfl, h1⟩
        refine ⟨_, rfl, ?_⟩
        try simp +contextual (maxSteps := 2000000) (disch := first | omega | (simp only [SZ]; first | done | omega) | (simp only [TS] at *; omega)) only [RZ, ovw, oneC, reduceAdd, reduceMul, reduceSub, reduceEqDiff, reduceLT, ↓reduceIte, Int.reduceToNat, reduceLeDiff]
        refine ⟨⟨#[100, 105, 103, 105, 116, 115]⟩, ?_, .inr e2, h1⟩
        rw [if_neg e1]; decide +kernel
      · rw [show decide (G.n 0 = 2) = false by simp [e2]]
        refine W_if_f rfl ?_
        obtain ⟨c2, d2, z2, h1⟩ := h0.spoil
        simp +contextual (maxSteps := 2000000) (disch := first | omega | (simp only [SZ]; first | done | omega) | (simp only [TS] at *; omega)) only [RZ, ovw, oneC, reduceAdd, reduceMul, reduceSub, reduceEqDiff, reduceLT, ↓reduceIte, Int.reduceToNat, reduceLeDiff,  d2, z2]
        rw [if_neg (fun e => e.elim e1 e2)] at hr
        subst hr
        exact h1.next h1.pb (KB.refl _ _) (Nat.le_trans h1.le (by omega)) (by omega)
  clear k0
  rintro σ w1 ⟨s, hs, f0, f3, hc, h1⟩
  rw [hs] at h1
  rw [if_pos hc] at hr
  dsimp only at hr
  clear hc
  have d1 : w1.cell? ⟨w.heap.size, 3, none⟩ = some (.int .i64 (G.n 2)) := h1.cell 3 rfl
  refine W_piece fun K hK hX => ?_
  simp +contextual (maxSteps := 2000000) (disch := first | omega | (simp only [SZ]; first | done | omega) | (simp only [TS] at *; omega)) only [RZ, ovw, oneC, reduceAdd, reduceMul, reduceSub, reduceEqDiff, reduceLT, ↓reduceIte, Int.reduceToNat, reduceLeDiff,  f0, f3, d1]
  refine (qNum h1 (G.n 2) (by omega)).mono ?_
  rintro e w2 ⟨rfl, h2⟩
  refine ⟨_, rfl, ?_⟩
  try simp +contextual (maxSteps := 2000000) (disch := first | omega | (simp only [SZ]; first | done | omega) | (simp only [TS] at *; omega)) only [RZ, ovw, oneC, reduceAdd, reduceMul, reduceSub, reduceEqDiff, reduceLT, ↓reduceIte, Int.reduceToNat, reduceLeDiff,  f0, f3, d1]
  refine hK _ _ ?_
  clear hK hX K
  refine W_piece fun K hK hX => ?_
  simp +contextual (maxSteps := 2000000) (disch := first | omega | (simp only [SZ]; first | done | omega) | (simp only [TS] at *; omega)) only [RZ, ovw, oneC, reduceAdd, reduceMul, reduceSub, reduceEqDiff, reduceLT, ↓reduceIte, Int.reduceToNat, reduceLeDiff,  f0, f3]
  refine (qWord h2 ⟨#[111, 102]⟩ (by decide) (by omega)).mono ?_
  rintro e w3 ⟨rfl, h3⟩
  refine ⟨_, rfl, ?_⟩
  rw [show bs ⟨#[111, 102]⟩ = asc "of" by decide +kernel] at h3
  try simp +contextual (maxSteps := 2000000) (disch := first | omega | (simp only [SZ]; first | done | omega) | (simp only [TS] at *; omega)) only [RZ, ovw, oneC, reduceAdd, reduceMul, reduceSub, reduceEqDiff, reduceLT, ↓reduceIte, Int.reduceToNat, reduceLeDiff,  f0, f3]
  refine hK _ _ ?_
  clear hK hX K
  have d2 : w3.cell? ⟨w.heap.size, 4, none⟩ = some (.int .i64 (G.n 3)) := h3.cell 4 rfl
  refine W_piece fun K hK hX => ?_
  simp +contextual (maxSteps := 2000000) (disch := first | omega | (simp only [SZ]; first | done | omega) | (simp only [TS] at *; omega)) only [RZ, ovw, oneC, reduceAdd, reduceMul, reduceSub, reduceEqDiff, reduceLT, ↓reduceIte, Int.reduceToNat, reduceLeDiff,  f0, f3, d2]
  refine (qNum h3 (G.n 3) (by omega)).mono ?_
  rintro e w4 ⟨rfl, h4⟩
  refine ⟨_, rfl, ?_⟩
  try simp +contextual (maxSteps := 2000000) (disch := first | omega | (simp only [SZ]; first | done | omega) | (simp only [TS] at *; omega)) only [RZ, ovw, oneC, reduceAdd, reduceMul, reduceSub, reduceEqDiff, reduceLT, ↓reduceIte, Int.reduceToNat, reduceLeDiff,  f0, f3, d2]
  refine hK _ _ ?_
  clear hK hX K
  refine W_piece fun K hK hX => ?_
  simp +contextual (maxSteps := 2000000) (disch := first | omega | (simp only [SZ]; first | done | omega) | (simp only [TS] at *; omega)) only [RZ, ovw, oneC, reduceAdd, reduceMul, reduceSub, reduceEqDiff, reduceLT, ↓reduceIte, Int.reduceToNat, reduceLeDiff,  f0, f3]
  refine (qEnd h4 (by omega)).mono ?_
  rintro e w5 ⟨rfl, h5⟩
  refine ⟨_, rfl, ?_⟩
  try simp +contextual (maxSteps := 2000000) (disch := first | omega | (simp only [SZ]; first | done | omega) | (simp only [TS] at *; omega)) only [RZ, ovw, oneC, reduceAdd, reduceMul, reduceSub, reduceEqDiff, reduceLT, ↓reduceIte, Int.reduceToNat, reduceLeDiff,  f0, f3]
  refine hK _ _ ?_
  clear hK hX K
  have e6 : (((((p.begin (if G.n 0 = 1 then asc "choose" else asc "digits")).nums [G.n 2]).ws [asc "of"]).nums [G.n 3]).fin) = p.two (if G.n 0 = 1 then asc "choose" else asc "digits") (G.n 2) (G.n 3) := rfl
  rw [e6] at h5
  clear e6
  generalize p.two (if G.n 0 = 1 then asc "choose" else asc "digits") (G.n 2) (G.n 3) = p1 at h5 hr
  refine W_cutS (fun σ w6 => σ 0 = .pointer (some ⟨g, 0, none⟩) ∧ σ 3 = .pointer (some ⟨w.heap.size, 0, none⟩) ∧ Pst g w.heap.size 25 (gmV G Va Vt) w w6 (if G.n 4 ≠ 0 ∨ G.n 5 ≠ 0 then p1.two (asc "bonus") (G.n 4) (G.n 5) else p1) (B + 1000)) ?_ ?_
  rotate_left
  have d5 : w5.cell? ⟨w.heap.size, 5, none⟩ = some (.int .i64 (G.n 4)) := h5.cell 5 rfl
  have d6 : w5.cell? ⟨w.heap.size, 6, none⟩ = some (.int .i64 (G.n 5)) := h5.cell 6 rfl
  · refine W_piece fun K hK hX => ?_
    simp +contextual (maxSteps := 2000000) (disch := first | omega | (simp only [SZ]; first | done | omega) | (simp only [TS] at *; omega)) only [RZ, ovw, oneC, reduceAdd, reduceMul, reduceSub, reduceEqDiff, reduceLT, ↓reduceIte, Int.reduceToNat, reduceLeDiff,  f0, f3, d5, d6]
    refine hK _ _ ?_
    clear hK hX K
    by_cases hc : G.n 4 ≠ 0 ∨ G.n 5 ≠ 0
    · rw [if_pos hc]
      refine W_if_t (by show Value.bool (!decide (G.n 4 = 0) || !decide (G.n 5 = 0)) = .bool true; rw [show (!decide (G.n 4 = 0) || !decide (G.n 5 = 0)) = true by simpa [Decidable.not_and_iff_not_or_not] using hc]) ?_
      refine W_piece fun K hK hX => ?_
      simp +contextual (maxSteps := 2000000) (disch := first | omega | (simp only [SZ]; first | done | omega) | (simp only [TS] at *; omega)) only [RZ, ovw, oneC, reduceAdd, reduceMul, reduceSub, reduceEqDiff, reduceLT, ↓reduceIte, Int.reduceToNat, reduceLeDiff,  f0, f3]
      refine (qBegin h5 ⟨#[98, 111, 110, 117, 115]⟩ (by decide) (by omega)).mono ?_
      rintro e w6 ⟨rfl, h6⟩
      refine ⟨_, rfl, ?_⟩
      rw [show bs ⟨#[98, 111, 110, 117, 115]⟩ = asc "bonus" by decide +kernel] at h6
      try simp +contextual (maxSteps := 2000000) (disch := first | omega | (simp only [SZ]; first | done | omega) | (simp only [TS] at *; omega)) only [RZ, ovw, oneC, reduceAdd, reduceMul, reduceSub, reduceEqDiff, reduceLT, ↓reduceIte, Int.reduceToNat, reduceLeDiff,  f0, f3]
      refine hK _ _ ?_
      clear hK hX K
      have d5 : w6.cell? ⟨w.heap.size, 5, none⟩ = some (.int .i64 (G.n 4)) := h6.cell 5 rfl
      refine W_piece fun K hK hX => ?_
      simp +contextual (maxSteps := 2000000) (disch := first | omega | (simp only [SZ]; first | done | omega) | (simp only [TS] at *; omega)) only [RZ, ovw, oneC, reduceAdd, reduceMul, reduceSub, reduceEqDiff, reduceLT, ↓reduceIte, Int.reduceToNat, reduceLeDiff,  f0, f3, d5]
      refine (qNum h6 (G.n 4) (by omega)).mono ?_
      rintro e w7 ⟨rfl, h7⟩
      refine ⟨_, rfl, ?_⟩
      try simp +contextual (maxSteps := 2000000) (disch := first | omega | (simp only [SZ]; first | done | omega) | (simp only [TS] at *; omega)) only [RZ, ovw, oneC, reduceAdd, reduceMul, reduceSub, reduceEqDiff, reduceLT, ↓reduceIte, Int.reduceToNat, reduceLeDiff,  f0, f3, d5]
      refine hK _ _ ?_
      clear hK hX K
      refine W_piece fun K hK hX => ?_
      simp +contextual (maxSteps := 2000000) (disch := first | omega | (simp only [SZ]; first | done | omega) | (simp only [TS] at *; omega)) only [RZ, ovw, oneC, reduceAdd, reduceMul, reduceSub, reduceEqDiff, reduceLT, ↓reduceIte, Int.reduceToNat, reduceLeDiff,  f0, f3]
      refine (qWord h7 ⟨#[111, 102]⟩ (by decide) (by omega)).mono ?_
      rintro e w8 ⟨rfl, h8⟩
      refine ⟨_, rfl, ?_⟩
      rw [show bs ⟨#[111, 102]⟩ = asc "of" by decide +kernel] at h8
      try simp +contextual (maxSteps := 2000000) (disch := first | omega | (simp only [SZ]; first | done | omega) | (simp only [TS] at *; omega)) only [RZ, ovw, oneC, reduceAdd, reduceMul, reduceSub, reduceEqDiff, reduceLT, ↓reduceIte, Int.reduceToNat, reduceLeDiff,  f0, f3]
      refine hK _ _ ?_
      clear hK hX K
      have d6 : w8.cell? ⟨w.heap.size, 6, none⟩ = some (.int .i64 (G.n 5)) := h8.cell 6 rfl
      refine W_piece fun K hK hX => ?_
      simp +contextual (maxSteps := 2000000) (disch := first | omega | (simp only [SZ]; first | done | omega) | (simp only [TS] at *; omega)) only [RZ, ovw, oneC, reduceAdd, reduceMul, reduceSub, reduceEqDiff, reduceLT, ↓reduceIte, Int.reduceToNat, reduceLeDiff,  f0, f3, d6]
      refine (qNum h8 (G.n 5) (by omega)).mono ?_
      rintro e w9 ⟨rfl, h9⟩
      refine ⟨_, rfl, ?_⟩
      try simp +contextual (maxSteps := 2000000) (disch := first | omega | (simp only [SZ]; first | done | omega) | (simp only [TS] at *; omega)) only [RZ, ovw, oneC, reduceAdd, reduceMul, reduceSub, reduceEqDiff, reduceLT, ↓reduceIte, Int.reduceToNat, reduceLeDiff,  f0, f3, d6]
      refine hK _ _ ?_
      clear hK hX K
      simp +contextual (maxSteps := 2000000) (disch := first | omega | (simp only [SZ]; first | done | omega) | (simp only [TS] at *; omega)) only [RZ, ovw, oneC, reduceAdd, reduceMul, reduceSub, reduceEqDiff, reduceLT, ↓reduceIte, Int.reduceToNat, reduceLeDiff,  f0, f3]
      refine (qEnd h9 (by omega)).mono ?_
      rintro e w10 ⟨rfl, h10⟩
      refine ⟨_, rfl, ?_⟩
      try simp +contextual (maxSteps := 2000000) (disch := first | omega | (simp only [SZ]; first | done | omega) | (simp only [TS] at *; omega)) only [RZ, ovw, oneC, reduceAdd, reduceMul, reduceSub, reduceEqDiff, reduceLT, ↓reduceIte, Int.reduceToNat, reduceLeDiff,  f0, f3]
      exact h10.next h10.pb (KB.refl _ _) (Nat.le_trans h10.le (by omega)) (by omega)
    · rw [if_neg hc]
      refine W_if_f (by show Value.bool (!decide (G.n 4 = 0) || !decide (G.n 5 = 0)) = .bool false; rw [show (!decide (G.n 4 = 0) || !decide (G.n 5 = 0)) = false by simpa using hc]) ?_
      rw [W_skip, thenX_normal]
      refine ⟨?_, ?_, h5.next h5.pb (KB.refl _ _) (Nat.le_trans h5.le (by omega)) (by omega)⟩
      · simp +contextual (maxSteps := 2000000) (disch := first | omega | (simp only [SZ]; first | done | omega) | (simp only [TS] at *; omega)) only [RZ, ovw, oneC, reduceAdd, reduceMul, reduceSub, reduceEqDiff, reduceLT, ↓reduceIte, Int.reduceToNat, reduceLeDiff,  f0]
      · simp +contextual (maxSteps := 2000000) (disch := first | omega | (simp only [SZ]; first | done | omega) | (simp only [TS] at *; omega)) only [RZ, ovw, oneC, reduceAdd, reduceMul, reduceSub, reduceEqDiff, reduceLT, ↓reduceIte, Int.reduceToNat, reduceLeDiff,  f3]
  clear h1 h2 h3 h4 h5 d1 d2
  generalize (if G.n 4 ≠ 0 ∨ G.n 5 ≠ 0 then p1.two (asc "bonus") (G.n 4) (G.n 5) else p1) = p2 at hr ⊢
  rintro σ w1 ⟨f0, f3, h1⟩
  have d7 : w1.cell? ⟨w.heap.size, 7, none⟩ = some (.int .i64 (G.n 6)) := h1.cell 7 rfl
  refine W_piece fun K hK hX => ?_
  simp +contextual (maxSteps := 2000000) (disch := first | omega | (simp only [SZ]; first | done | omega) | (simp only [TS] at *; omega)) only [RZ, ovw, oneC, reduceAdd, reduceMul, reduceSub, reduceEqDiff, reduceLT, ↓reduceIte, Int.reduceToNat, reduceLeDiff,  f0, f3, d7]
  refine (qOpt h1 ⟨#[101, 120, 116, 114, 97]⟩ (G.n 6) 0 (by decide) (by omega)).mono ?_
  rintro e w2 ⟨rfl, h2⟩
  refine ⟨_, rfl, ?_⟩
  rw [show bs ⟨#[101, 120, 116, 114, 97]⟩ = asc "extra" by decide +kernel] at h2
  try simp +contextual (maxSteps := 2000000) (disch := first | omega | (simp only [SZ]; first | done | omega) | (simp only [TS] at *; omega)) only [RZ, ovw, oneC, reduceAdd, reduceMul, reduceSub, reduceEqDiff, reduceLT, ↓reduceIte, Int.reduceToNat, reduceLeDiff,  f0, f3, d7]
  refine hK _ _ ?_
  clear hK hX K
  have d8 : w2.cell? ⟨w.heap.size, 2, none⟩ = some (.int .i64 (G.n 1)) := h2.cell 2 rfl
  refine W_piece fun K hK hX => ?_
  simp +contextual (maxSteps := 2000000) (disch := first | omega | (simp only [SZ]; first | done | omega) | (simp only [TS] at *; omega)) only [RZ, ovw, oneC, reduceAdd, reduceMul, reduceSub, reduceEqDiff, reduceLT, ↓reduceIte, Int.reduceToNat, reduceLeDiff,  f0, f3, d8]
  refine (qOpt h2 ⟨#[112, 114, 105, 99, 101]⟩ (G.n 1) 0 (by decide) (by omega)).mono ?_
  rintro e w3 ⟨rfl, h3⟩
  refine ⟨_, rfl, ?_⟩
  rw [show bs ⟨#[112, 114, 105, 99, 101]⟩ = asc "price" by decide +kernel] at h3
  try simp +contextual (maxSteps := 2000000) (disch := first | omega | (simp only [SZ]; first | done | omega) | (simp only [TS] at *; omega)) only [RZ, ovw, oneC, reduceAdd, reduceMul, reduceSub, reduceEqDiff, reduceLT, ↓reduceIte, Int.reduceToNat, reduceLeDiff,  f0, f3, d8]
  refine hK _ _ ?_
  clear hK hX K
  have d9 : w3.cell? ⟨w.heap.size, 8, none⟩ = some (.int .i64 (G.n 7)) := h3.cell 8 rfl
  refine W_piece fun K hK hX => ?_
  simp +contextual (maxSteps := 2000000) (disch := first | omega | (simp only [SZ]; first | done | omega) | (simp only [TS] at *; omega)) only [RZ, ovw, oneC, reduceAdd, reduceMul, reduceSub, reduceEqDiff, reduceLT, ↓reduceIte, Int.reduceToNat, reduceLeDiff,  f0, f3, d9]
  refine (qOpt h3 ⟨#[100, 114, 97, 119, 115]⟩ (G.n 7) 1 (by decide) (by omega)).mono ?_
  rintro e w4 ⟨rfl, h4⟩
  refine ⟨_, rfl, ?_⟩
  rw [show bs ⟨#[100, 114, 97, 119, 115]⟩ = asc "draws" by decide +kernel] at h4
  try simp +contextual (maxSteps := 2000000) (disch := first | omega | (simp only [SZ]; first | done | omega) | (simp only [TS] at *; omega)) only [RZ, ovw, oneC, reduceAdd, reduceMul, reduceSub, reduceEqDiff, reduceLT, ↓reduceIte, Int.reduceToNat, reduceLeDiff,  f0, f3, d9]
  refine hK _ _ ?_
  clear hK hX K
  have d10 : w4.cell? ⟨w.heap.size, 9, none⟩ = some (.int .i64 (G.n 8)) := h4.cell 9 rfl
  have d11 : w4.cell? ⟨w.heap.size, 3, none⟩ = some (.int .i64 (G.n 2)) := h4.cell 3 rfl
  simp +contextual (maxSteps := 2000000) (disch := first | omega | (simp only [SZ]; first | done | omega) | (simp only [TS] at *; omega)) only [RZ, ovw, oneC, reduceAdd, reduceMul, reduceSub, reduceEqDiff, reduceLT, ↓reduceIte, Int.reduceToNat, reduceLeDiff,  f0, f3, d10, d11]
  refine (qOpt h4 ⟨#[115, 121, 115, 116, 101, 109]⟩ (G.n 8) (G.n 2) (by decide) (by omega)).mono ?_
  rintro e w5 ⟨rfl, h5⟩
  refine ⟨_, rfl, ?_⟩
  rw [show bs ⟨#[115, 121, 115, 116, 101, 109]⟩ = asc "system" by decide +kernel] at h5
  try simp +contextual (maxSteps := 2000000) (disch := first | omega | (simp only [SZ]; first | done | omega) | (simp only [TS] at *; omega)) only [RZ, ovw, oneC, reduceAdd, reduceMul, reduceSub, reduceEqDiff, reduceLT, ↓reduceIte, Int.reduceToNat, reduceLeDiff,  f0, f3, d10, d11]
  subst hr
  exact h5.next h5.pb (KB.refl _ _) (Nat.le_trans h5.le (by omega)) (by omega)
end
end Go.Proofs.YtbdkggnajipdhaaDoor
/- Walk: the printer's days. -/
namespace Go.Proofs.YtbdkggnajipdhaaDoor
open Nat (reduceAdd reduceMul reduceSub reduceEqDiff reduceLT reduceLeDiff)
open Go.RowKit
set_option maxRecDepth 100000
section
variable {P : Program} {T : TypeId} {x y : Operand} {w : World}
theorem vBin_shrN {k : IntKind} {d i : Nat} (hi : i < 7) : vBin P .shr T x y (.int .i64 d) (.int k i) w = .ok (.value (.int .i64 ((d / 2 ^ i : Nat) : Int))) w := by
  have e : (d : Int).fdiv (2 ^ (min (i : Int).toNat IntKind.i64.bits)) = ((d / 2 ^ i : Nat) : Int) := by
    rw [show min (i : Int).toNat IntKind.i64.bits = i from by have : IntKind.i64.bits = 64 := by decide
                                                              omega]
    rw [Int.fdiv_eq_ediv_of_nonneg _ (Int.le_of_lt (Int.pow_pos (by decide)))]
    push_cast
    rfl
  simp [vBin, eqGuard, binOp, Op.shift, show ¬ ((i : Int) < 0) by omega]
  first | done | exact e | (rw [← e]; simp)
theorem vBin_and1 {d : Nat} (hd : d < 4611686018427387904) : vBin P .and T x y (.int .i64 d) (.int .i64 1) w = .ok (.value (.int .i64 ((d % 2 : Nat) : Int))) w := by
  have := vBin_andN (P := P) (T := T) (x := x) (y := y) (w := w) hd (show 1 < 4611686018427387904 by decide)
  rw [Nat.and_one_is_mod] at this
  exact this
def dayK (d k : Nat) : List (List Nat) := ((List.range k).filter fun i => d / 2 ^ i % 2 == 1).map fun i => dayW.getD i []
theorem dayK_succ (d k : Nat) : dayK d (k + 1) = dayK d k ++ if d / 2 ^ k % 2 = 1 then [dayW.getD k []] else [] := by
  unfold dayK
  rw [List.range_succ, List.filter_append, List.map_append]
  congr 1
  by_cases h : d / 2 ^ k % 2 = 1
  · rw [if_pos h]; simp [h]
  · rw [if_neg h]; simp [h]
end
section
variable {g B : Nat} {w : World} {p : Pr}
set_option maxHeartbeats 4000000 in
theorem pbDays_any (h : PbIn g w p) (G : Gm) (Va Vt : Value) (hW : Laid w) (hg : 5 ≤ g) (hl : p.X.length ≤ B) (hlo : 32768 ≤ B) (hB : B ≤ 300000000) :
    Calls Tryd.prog 16 #[.pointer (some ⟨g, 0, none⟩), .agg (gmV G Va Vt).toArray] w fun e w' => e = .returned (.tuple #[]) ∧ Pst g w.heap.size 25 (gmV G Va Vt) w w' (p.days G.n) (B + 4000) := by
  refine calls_W (l := [_, _]) Tryd.func16 rfl _ Tryd.ntmps16 (by simp) ?_
  generalize hr : p.days G.n = r
  unfold Pr.days at hr
  dsimp only at hr
  have h0 := Pst.of_box (T := 25) (cs := gmV G Va Vt) h hW hg (by decide) hl hlo
  refine W_piece fun K hK hX => ?_
  simp +contextual (maxSteps := 2000000) (disch := first | omega | (simp only [SZ]; first | done | omega) | (simp only [TS] at *; omega)) only [RZ, ovw, oneC, reduceAdd, reduceMul, reduceSub, reduceEqDiff, reduceLT, ↓reduceIte, Int.reduceToNat, reduceLeDiff]
  refine hK _ _ ?_
  clear hK hX K
  generalize w.alloc (.cells (gmV G Va Vt).toArray 25) = w0 at h0 ⊢
  have d9 : w0.cell? ⟨w.heap.size, 10, none⟩ = some (.int .i64 (G.n 9)) := h0.cell 10 rfl
  have d10 : w0.cell? ⟨w.heap.size, 11, none⟩ = some (.int .i64 (G.n 10)) := h0.cell 11 rfl
  refine W_piece fun K hK hX => ?_
  simp +contextual (maxSteps := 2000000) (disch := first | omega | (simp only [SZ]; first | done | omega) | (simp only [TS] at *; omega)) only [RZ, ovw, oneC, reduceAdd, reduceMul, reduceSub, reduceEqDiff, reduceLT, ↓reduceIte, Int.reduceToNat, reduceLeDiff,  d9, d10]
  refine (qReq h0 (decide (0 ≤ G.n 9) && decide (G.n 9 ≤ 127) && decide (0 ≤ G.n 10) && decide (G.n 10 ≤ 1439))).mono ?_
  rintro e w1 ⟨rfl, h1⟩
  refine ⟨_, rfl, ?_⟩
  try simp +contextual (maxSteps := 2000000) (disch := first | omega | (simp only [SZ]; first | done | omega) | (simp only [TS] at *; omega)) only [RZ, ovw, oneC, reduceAdd, reduceMul, reduceSub, reduceEqDiff, reduceLT, ↓reduceIte, Int.reduceToNat, reduceLeDiff,  d9, d10]
  refine hK _ _ ?_
  clear hK hX K
  clear d9 d10
  generalize hq : p.req (decide (0 ≤ G.n 9) && decide (G.n 9 ≤ 127) && decide (0 ≤ G.n 10) && decide (G.n 10 ≤ 1439)) = p1 at hr h1
  have d9 : w1.cell? ⟨w.heap.size, 10, none⟩ = some (.int .i64 (G.n 9)) := h1.cell 10 rfl
  have d10 : w1.cell? ⟨w.heap.size, 11, none⟩ = some (.int .i64 (G.n 10)) := h1.cell 11 rfl
  refine W_piece fun K hK hX => ?_
  refine W_piece fun K2 hK2 hX2 => ?_
  simp +contextual (maxSteps := 2000000) (disch := first | omega | (simp only [SZ]; first | done | omega) | (simp only [TS] at *; omega)) only [RZ, ovw, oneC, reduceAdd, reduceMul, reduceSub, reduceEqDiff, reduceLT, ↓reduceIte, Int.reduceToNat, reduceLeDiff,  d9]
  refine hK2 _ _ ?_
  clear hK2 hX2 K2
  by_cases e9 : G.n 9 = 0
  · rw [show decide (G.n 9 = 0) = true by simp [e9]]
    rw [if_pos e9] at hr
    subst hr
    refine W_if_t rfl ?_
    refine W_piece fun K2 hK2 hX2 => ?_
    simp +contextual (maxSteps := 2000000) (disch := first | omega | (simp only [SZ]; first | done | omega) | (simp only [TS] at *; omega)) only [RZ, ovw, oneC, reduceAdd, reduceMul, reduceSub, reduceEqDiff, reduceLT, ↓reduceIte, Int.reduceToNat, reduceLeDiff,  d10]
    refine (qReq h1 (decide (G.n 10 = 0))).mono ?_
    rintro e w2 ⟨rfl, h2⟩
    refine ⟨_, rfl, ?_⟩
    try simp +contextual (maxSteps := 2000000) (disch := first | omega | (simp only [SZ]; first | done | omega) | (simp only [TS] at *; omega)) only [RZ, ovw, oneC, reduceAdd, reduceMul, reduceSub, reduceEqDiff, reduceLT, ↓reduceIte, Int.reduceToNat, reduceLeDiff,  d10]
    refine hK2 _ _ ?_
    clear hK2 hX2 K2
    rw [W_ret]
    refine hX _ _ _ (fun h => by cases h) ?_
    simp +contextual (maxSteps := 2000000) (disch := first | omega | (simp only [SZ]; first | done | omega) | (simp only [TS] at *; omega)) only [RZ, ovw, oneC, reduceAdd, reduceMul, reduceSub, reduceEqDiff, reduceLT, ↓reduceIte, Int.reduceToNat, reduceLeDiff]
    exact h2.next h2.pb (KB.refl _ _) (Nat.le_trans h2.le (by omega)) (by omega)
  rw [show decide (G.n 9 = 0) = false by simp [e9]]
  rw [if_neg e9] at hr
  refine W_if_f rfl ?_
  rw [W_skip]
  refine hK _ _ ?_
  clear hK hX K
  have dbad := h1.bad
  refine W_piece fun K hK hX => ?_
  refine W_piece fun K2 hK2 hX2 => ?_
  simp +contextual (maxSteps := 2000000) (disch := first | omega | (simp only [SZ]; first | done | omega) | (simp only [TS] at *; omega)) only [RZ, ovw, oneC, reduceAdd, reduceMul, reduceSub, reduceEqDiff, reduceLT, ↓reduceIte, Int.reduceToNat, reduceLeDiff,  dbad]
  refine hK2 _ _ ?_
  clear hK2 hX2 K2
  cases hbd : p1.bad with
  | true =>
    rw [if_pos hbd] at hr
    subst hr
    refine W_if_t rfl ?_
    rw [W_ret]
    refine hX _ _ _ (fun h => by cases h) ?_
    simp +contextual (maxSteps := 2000000) (disch := first | omega | (simp only [SZ]; first | done | omega) | (simp only [TS] at *; omega)) only [RZ, ovw, oneC, reduceAdd, reduceMul, reduceSub, reduceEqDiff, reduceLT, ↓reduceIte, Int.reduceToNat, reduceLeDiff]
    exact h1.next h1.pb (KB.refl _ _) (Nat.le_trans h1.le (by omega)) (by omega)
  | false =>
    rw [if_neg (by rw [hbd]; simp)] at hr
    refine W_if_f rfl ?_
    rw [W_skip]
    refine hK _ _ ?_
    clear hK hX K dbad
    obtain ⟨hd0, hd1, ht0, ht1⟩ : 0 ≤ G.n 9 ∧ G.n 9 ≤ 127 ∧ 0 ≤ G.n 10 ∧ G.n 10 ≤ 1439 := by
      rw [← hq] at hbd
      unfold Pr.req at hbd
      simp only [Bool.or_eq_false_iff, Bool.not_eq_false', Bool.and_eq_true, decide_eq_true_eq] at hbd
      omega
    clear d9 d10 hq hbd
    obtain ⟨dd, hdd⟩ : ∃ d : Nat, G.n 9 = d := ⟨(G.n 9).toNat, by omega⟩
    rw [hdd, Int.toNat_natCast] at hr
    refine W_piece fun K hK hX => ?_
    simp +contextual (maxSteps := 2000000) (disch := first | omega | (simp only [SZ]; first | done | omega) | (simp only [TS] at *; omega)) only [RZ, ovw, oneC, reduceAdd, reduceMul, reduceSub, reduceEqDiff, reduceLT, ↓reduceIte, Int.reduceToNat, reduceLeDiff]
    refine (qBegin h1 ⟨#[100, 97, 121, 115]⟩ (by decide) (by omega)).mono ?_
    rintro e w2 ⟨rfl, h2⟩
    refine ⟨_, rfl, ?_⟩
    rw [show bs ⟨#[100, 97, 121, 115]⟩ = asc "days" by decide +kernel] at h2
    try simp +contextual (maxSteps := 2000000) (disch := first | omega | (simp only [SZ]; first | done | omega) | (simp only [TS] at *; omega)) only [RZ, ovw, oneC, reduceAdd, reduceMul, reduceSub, reduceEqDiff, reduceLT, ↓reduceIte, Int.reduceToNat, reduceLeDiff]
    refine hK _ _ ?_
    clear hK hX K
    have hld := h2.laid.load
    refine W_cutS (fun σ w3 => σ 0 = .pointer (some ⟨g, 0, none⟩) ∧ σ 3 = .pointer (some ⟨w.heap.size, 0, none⟩) ∧ Pst g w.heap.size 25 (gmV G Va Vt) w w3 ((p1.begin (asc "days")).dayw dd) (B + 102 + 301 * 7)) ?_ ?_
    rotate_left
    · refine W_piece fun K hK hX => ?_
      simp +contextual (maxSteps := 2000000) (disch := first | omega | (simp only [SZ]; first | done | omega) | (simp only [TS] at *; omega)) only [RZ, ovw, oneC, reduceAdd, reduceMul, reduceSub, reduceEqDiff, reduceLT, ↓reduceIte, Int.reduceToNat, reduceLeDiff,  hld]
      refine hK _ _ ?_
      clear hK hX K hld
      rw [W_block, W_loop]
      refine Raw_loop (fun σ w1 => ∃ k : Nat, k ≤ 7 ∧ Pst g w.heap.size 25 (gmV G Va Vt) w w1 ((dayK dd k).foldl (fun p w => p.ws [w]) (p1.begin (asc "days"))) (B + 102 + 301 * k) ∧ σ 0 = .pointer (some ⟨g, 0, none⟩) ∧ σ 3 = .pointer (some ⟨w.heap.size, 0, none⟩) ∧ σ 40 = .agg dayC.toArray ∧ σ 41 = .int .i64 k) (fun σ _ => 7 - (intOf (σ 41)).toNat) ?_ ?_
      · exact ⟨0, by omega, h2, rfl, rfl, rfl, rfl⟩
      rintro σ w3 ⟨k, hk, h3, f0, f3, f40, f41⟩ K hK
      simp +contextual (maxSteps := 2000000) (disch := first | omega | (simp only [SZ]; first | done | omega) | (simp only [TS] at *; omega)) only [RZ, ovw, oneC, reduceAdd, reduceMul, reduceSub, reduceEqDiff, reduceLT, ↓reduceIte, Int.reduceToNat, reduceLeDiff,  f0, f3, f40, f41]
      (refine W_if rfl (fun hc => ?_) (fun hc => ?_) <;> (try simp only [TS] at hc))
      · have hk7 : k < 7 := by omega
        obtain ⟨d, hd⟩ : ∃ d, dayW[k]? = some d := ⟨_, List.getElem?_eq_getElem (show k < 7 by omega)⟩
        have hx := day_index hd w3
        have hdb : bs (toBA d) = d := by
          have hall : dayW.all (fun d => d.all fun c => decide (c < 256)) = true := by decide +kernel
          have := List.all_eq_true.1 hall d (List.mem_of_getElem? hd)
          exact bs_toBA fun c hc => by have := List.all_eq_true.1 this c hc; simpa using this
        have hdl : (toBA d).size ≤ 300 := by
          have hall : dayW.all (fun d => decide ((toBA d).size ≤ 300)) = true := by decide +kernel
          have := List.all_eq_true.1 hall d (List.mem_of_getElem? hd)
          simpa using this
        have hgd : dayW.getD k [] = d := by rw [List.getD_eq_getElem?_getD, hd]; rfl
        have d9 : w3.cell? ⟨w.heap.size, 10, none⟩ = some (.int .i64 (G.n 9)) := h3.cell 10 rfl
        rw [hdd] at d9
        have hle : dd / 2 ^ k ≤ dd := Nat.div_le_self _ _
        have hshr : ∀ (x y : Operand) (w : World), vBin Tryd.prog .shr 3 x y (.int .i64 dd) (.int .i64 k) w = .ok (.value (.int .i64 ((dd / 2 ^ k : Nat) : Int))) w := fun x y w => vBin_shrN hk7
        have hand : ∀ (x y : Operand) (w : World), vBin Tryd.prog .and 3 x y (.int .i64 ((dd / 2 ^ k : Nat) : Int)) (.int .i64 1) w = .ok (.value (.int .i64 ((dd / 2 ^ k % 2 : Nat) : Int))) w := fun x y w => vBin_and1 (by omega)
        have hs := dayK_succ dd k
        generalize dd / 2 ^ k = dk at *
        rw [W_skip, thenX_normal]
        refine W_piece fun K1 hK1 hX1 => ?_
        rw [W_block]
        refine W_piece fun K2 hK2 hX2 => ?_
        simp +contextual (maxSteps := 2000000) (disch := first | omega | (simp only [SZ]; first | done | omega) | (simp only [TS] at *; omega)) only [RZ, ovw, oneC, reduceAdd, reduceMul, reduceSub, reduceEqDiff, reduceLT, ↓reduceIte, Int.reduceToNat, reduceLeDiff,  f0, f3, f40, f41, hx]
        refine hK2 _ _ ?_
        clear hK2 hX2 K2
        refine W_piece fun K2 hK2 hX2 => ?_
        simp +contextual (maxSteps := 2000000) (disch := first | omega | (simp only [SZ]; first | done | omega) | (simp only [TS] at *; omega)) only [RZ, ovw, oneC, reduceAdd, reduceMul, reduceSub, reduceEqDiff, reduceLT, ↓reduceIte, Int.reduceToNat, reduceLeDiff,  f0, f3, f40, f41, d9, hshr, hand]
        refine hK2 _ _ ?_
        clear hK2 hX2 K2
        by_cases hb : dk % 2 = 1
        · rw [show decide (((dk % 2 : Nat) : Int) = 1) = true by simp; omega]
          rw [if_pos hb, hgd] at hs
          refine W_if_t rfl ?_
          simp +contextual (maxSteps := 2000000) (disch := first | omega | (simp only [SZ]; first | done | omega) | (simp only [TS] at *; omega)) only [RZ, ovw, oneC, reduceAdd, reduceMul, reduceSub, reduceEqDiff, reduceLT, ↓reduceIte, Int.reduceToNat, reduceLeDiff,  f0, f3, f40, f41]
          refine (qWord h3 (toBA d) hdl (by omega)).mono ?_
          rintro e w4 ⟨rfl, h4⟩
          refine ⟨_, rfl, ?_⟩
          rw [hdb] at h4
          try simp +contextual (maxSteps := 2000000) (disch := first | omega | (simp only [SZ]; first | done | omega) | (simp only [TS] at *; omega)) only [RZ, ovw, oneC, reduceAdd, reduceMul, reduceSub, reduceEqDiff, reduceLT, ↓reduceIte, Int.reduceToNat, reduceLeDiff,  f0, f3, f40, f41]
          refine hK1 _ _ ?_
          clear hK1 hX1 K1
          simp +contextual (maxSteps := 2000000) (disch := first | omega | (simp only [SZ]; first | done | omega) | (simp only [TS] at *; omega)) only [RZ, ovw, oneC, reduceAdd, reduceMul, reduceSub, reduceEqDiff, reduceLT, ↓reduceIte, Int.reduceToNat, reduceLeDiff,  f0, f3, f40, f41]
          refine hK _ _ ⟨k + 1, by omega, ?_, ?_⟩ ?_
          · rw [hs, List.foldl_append]
            exact h4.next h4.pb (KB.refl _ _) (Nat.le_trans h4.le (by omega)) (by omega)
          · simp +contextual (maxSteps := 2000000) (disch := first | omega | (simp only [SZ]; first | done | omega) | (simp only [TS] at *; omega)) only [RZ, ovw, oneC, reduceAdd, reduceMul, reduceSub, reduceEqDiff, reduceLT, ↓reduceIte, Int.reduceToNat, reduceLeDiff,  f0, f3, f40, f41]
          · simp +contextual (maxSteps := 2000000) (disch := first | omega | (simp only [SZ]; first | done | omega) | (simp only [TS] at *; omega)) only [RZ, ovw, oneC, reduceAdd, reduceMul, reduceSub, reduceEqDiff, reduceLT, ↓reduceIte, Int.reduceToNat, reduceLeDiff,  intOf, f41]
            omega
        · rw [show decide (((dk % 2 : Nat) : Int) = 1) = false by simp; omega]
          rw [if_neg hb, List.append_nil] at hs
          refine W_if_f rfl ?_
          rw [W_skip, inX_normal]
          refine hK1 _ _ ?_
          clear hK1 hX1 K1
          simp +contextual (maxSteps := 2000000) (disch := first | omega | (simp only [SZ]; first | done | omega) | (simp only [TS] at *; omega)) only [RZ, ovw, oneC, reduceAdd, reduceMul, reduceSub, reduceEqDiff, reduceLT, ↓reduceIte, Int.reduceToNat, reduceLeDiff,  f0, f3, f40, f41]
          refine hK _ _ ⟨k + 1, by omega, ?_, ?_⟩ ?_
          · rw [hs]
            exact h3.next h3.pb (KB.refl _ _) (Nat.le_trans h3.le (by omega)) (by omega)
          · simp +contextual (maxSteps := 2000000) (disch := first | omega | (simp only [SZ]; first | done | omega) | (simp only [TS] at *; omega)) only [RZ, ovw, oneC, reduceAdd, reduceMul, reduceSub, reduceEqDiff, reduceLT, ↓reduceIte, Int.reduceToNat, reduceLeDiff,  f0, f3, f40, f41]
          · simp +contextual (maxSteps := 2000000) (disch := first | omega | (simp only [SZ]; first | done | omega) | (simp only [TS] at *; omega)) only [RZ, ovw, oneC, reduceAdd, reduceMul, reduceSub, reduceEqDiff, reduceLT, ↓reduceIte, Int.reduceToNat, reduceLeDiff,  intOf, f41]
            omega
      · have hk7 : k = 7 := by omega
        subst hk7
        simp +contextual (maxSteps := 2000000) (disch := first | omega | (simp only [SZ]; first | done | omega) | (simp only [TS] at *; omega)) only [RZ, ovw, oneC, reduceAdd, reduceMul, reduceSub, reduceEqDiff, reduceLT, ↓reduceIte, Int.reduceToNat, reduceLeDiff,  f0, f3, f40, f41]
        exact h3
    clear h2 hld
    generalize (p1.begin (asc "days")).dayw dd = p2 at hr ⊢
    rintro σ w1 ⟨f0, f3, h1⟩
    refine W_piece fun K hK hX => ?_
    simp +contextual (maxSteps := 2000000) (disch := first | omega | (simp only [SZ]; first | done | omega) | (simp only [TS] at *; omega)) only [RZ, ovw, oneC, reduceAdd, reduceMul, reduceSub, reduceEqDiff, reduceLT, ↓reduceIte, Int.reduceToNat, reduceLeDiff,  f0, f3]
    refine (qWord h1 ⟨#[97, 116]⟩ (by decide) (by omega)).mono ?_
    rintro e w2 ⟨rfl, h2⟩
    refine ⟨_, rfl, ?_⟩
    rw [show bs ⟨#[97, 116]⟩ = asc "at" by decide +kernel] at h2
    try simp +contextual (maxSteps := 2000000) (disch := first | omega | (simp only [SZ]; first | done | omega) | (simp only [TS] at *; omega)) only [RZ, ovw, oneC, reduceAdd, reduceMul, reduceSub, reduceEqDiff, reduceLT, ↓reduceIte, Int.reduceToNat, reduceLeDiff,  f0, f3]
    refine hK _ _ ?_
    clear hK hX K
    have d10 : w2.cell? ⟨w.heap.size, 11, none⟩ = some (.int .i64 (G.n 10)) := h2.cell 11 rfl
    refine W_piece fun K hK hX => ?_
    simp +contextual (maxSteps := 2000000) (disch := first | omega | (simp only [SZ]; first | done | omega) | (simp only [TS] at *; omega)) only [RZ, ovw, oneC, reduceAdd, reduceMul, reduceSub, reduceEqDiff, reduceLT, ↓reduceIte, Int.reduceToNat, reduceLeDiff,  f0, f3, d10]
    refine (qNum h2 (G.n 10 / 60) (by omega)).mono ?_
    rintro e w3 ⟨rfl, h3⟩
    refine ⟨_, rfl, ?_⟩
    try simp +contextual (maxSteps := 2000000) (disch := first | omega | (simp only [SZ]; first | done | omega) | (simp only [TS] at *; omega)) only [RZ, ovw, oneC, reduceAdd, reduceMul, reduceSub, reduceEqDiff, reduceLT, ↓reduceIte, Int.reduceToNat, reduceLeDiff,  f0, f3, d10]
    refine hK _ _ ?_
    clear hK hX K
    refine W_piece fun K hK hX => ?_
    simp +contextual (maxSteps := 2000000) (disch := first | omega | (simp only [SZ]; first | done | omega) | (simp only [TS] at *; omega)) only [RZ, ovw, oneC, reduceAdd, reduceMul, reduceSub, reduceEqDiff, reduceLT, ↓reduceIte, Int.reduceToNat, reduceLeDiff,  f0, f3]
    refine (qWord h3 ⟨#[58]⟩ (by decide) (by omega)).mono ?_
    rintro e w4 ⟨rfl, h4⟩
    refine ⟨_, rfl, ?_⟩
    rw [show bs ⟨#[58]⟩ = asc ":" by decide +kernel] at h4
    try simp +contextual (maxSteps := 2000000) (disch := first | omega | (simp only [SZ]; first | done | omega) | (simp only [TS] at *; omega)) only [RZ, ovw, oneC, reduceAdd, reduceMul, reduceSub, reduceEqDiff, reduceLT, ↓reduceIte, Int.reduceToNat, reduceLeDiff,  f0, f3]
    refine hK _ _ ?_
    clear hK hX K
    have d11 : w4.cell? ⟨w.heap.size, 11, none⟩ = some (.int .i64 (G.n 10)) := h4.cell 11 rfl
    refine W_piece fun K hK hX => ?_
    simp +contextual (maxSteps := 2000000) (disch := first | omega | (simp only [SZ]; first | done | omega) | (simp only [TS] at *; omega)) only [RZ, ovw, oneC, reduceAdd, reduceMul, reduceSub, reduceEqDiff, reduceLT, ↓reduceIte, Int.reduceToNat, reduceLeDiff,  f0, f3, d11]
    refine (qNum h4 (G.n 10 % 60) (by omega)).mono ?_
    rintro e w5 ⟨rfl, h5⟩
    refine ⟨_, rfl, ?_⟩
    try simp +contextual (maxSteps := 2000000) (disch := first | omega | (simp only [SZ]; first | done | omega) | (simp only [TS] at *; omega)) only [RZ, ovw, oneC, reduceAdd, reduceMul, reduceSub, reduceEqDiff, reduceLT, ↓reduceIte, Int.reduceToNat, reduceLeDiff,  f0, f3, d11]
    refine hK _ _ ?_
    clear hK hX K
    simp +contextual (maxSteps := 2000000) (disch := first | omega | (simp only [SZ]; first | done | omega) | (simp only [TS] at *; omega)) only [RZ, ovw, oneC, reduceAdd, reduceMul, reduceSub, reduceEqDiff, reduceLT, ↓reduceIte, Int.reduceToNat, reduceLeDiff,  f0, f3]
    refine (qEnd h5 (by omega)).mono ?_
    rintro e w6 ⟨rfl, h6⟩
    refine ⟨_, rfl, ?_⟩
    try simp +contextual (maxSteps := 2000000) (disch := first | omega | (simp only [SZ]; first | done | omega) | (simp only [TS] at *; omega)) only [RZ, ovw, oneC, reduceAdd, reduceMul, reduceSub, reduceEqDiff, reduceLT, ↓reduceIte, Int.reduceToNat, reduceLeDiff,  f0, f3]
    subst hr
    exact h6.next h6.pb (KB.refl _ _) (Nat.le_trans h6.le (by omega)) (by omega)
end
end Go.Proofs.YtbdkggnajipdhaaDoor
