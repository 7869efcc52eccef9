/- Texts laid one behind the other: Ord4, PaE, PaF. Each says at its head what it proves. -/
import Derived.Test.YtbdkggnajipdhaaDoorY08
set_option linter.unusedSimpArgs false
/- Regions that draw their order: readers are taken first, at the values that they yield in every world that meets S; the operations of the list pl keep S, all others wait for the readers, through others too. -/
namespace Go.Proofs.YtbdkggnajipdhaaDoor
open Go.RowKit
section
variable {P : Program} {md : Region.Mode} {ops : Array Oper} {Q : Exit → Act → World → Prop} {pl : List Nat} {S : World → Prop}
/-- Whatever order is picked from here on; the operations of the list pl keep S. -/
def wpAnyX (P : Program) (md : Region.Mode) (ops : Array Oper) (Q : Exit → Act → World → Prop) (pl : List Nat) (S : World → Prop) : Nat → Array Bool → Act → World → Prop
  | 0, listed, a, w => Region.ready md ops listed = [] ∧ Q .normal a w
  | fuel + 1, listed, a, w =>
    (Region.ready md ops listed = [] → Q .normal a w) ∧
    ∀ i ∈ Region.ready md ops listed, wpOp P ops Q i (fun a' w' => (pl.contains i = true → S w') ∧ wpAnyX P md ops Q pl S fuel (listed.setIfInBounds i true) a' w') a w
theorem wpAny_of_X : ∀ (fuel : Nat) (listed : Array Bool) (a : Act) (w : World), wpAnyX P md ops Q pl S fuel listed a w → wpAny P md ops Q fuel listed a w
  | 0, _, _, _, h => h
  | fuel + 1, _, _, _, h => ⟨h.1, fun i hi => wpOp_mono (fun a' w' h' => wpAny_of_X fuel _ a' w' h'.2) (h.2 i hi)⟩
theorem wpAnyX_firstD {i : Nat} {oi : Oper} {v : Value} (D : List Nat) (hi : ops[i]? = some oi) (hsel : ∀ (j : Nat) (o : Oper) cs b, ops[j]? = some o → o.op ≠ .select cs b)
    (hQ : ∀ c a w, Q (.panic c) (a.put oi.dst v) w → Q (.panic c) a w) :
    ∀ (fuel : Nat) (listed : Array Bool) (a : Act) (w : World),
      (∀ j ∈ D, listed.getD j true = false ∧ ∃ oj, ops[j]? = some oj ∧ ∃ e ∈ oj.after, Region.binds md e = true ∧ (e.on = i ∨ e.on ∈ D)) →
      (∀ j oj, ops[j]? = some oj → j ≠ i → listed.getD j true = false → j ∉ D → oi.apart ops oj = true ∧ pl.contains j = true) →
      i ∈ Region.ready md ops listed → YieldsIf P ops S oi v a → S w →
      wpAnyX P md ops Q pl S fuel (listed.setIfInBounds i true) (a.put oi.dst v) w → wpAnyX P md ops Q pl S (fuel + 1) listed a w := by
  intro fuel
  induction fuel with
  | zero =>
    intro listed a w _ _ hr hy hS H
    refine ⟨fun h => (by rw [h] at hr; cases hr), fun j hj => ?_⟩
    by_cases hji : j = i
    · subst hji; exact hy.wpOp hi hS ⟨fun _ => hS, H⟩
    · have := ready_mono hj hji
      rw [H.1] at this
      cases this
  | succ fuel ih =>
    intro listed a w hD hfree hr hy hS H
    refine ⟨fun h => (by rw [h] at hr; cases hr), fun j hj => ?_⟩
    by_cases hji : j = i
    · subst hji; exact hy.wpOp hi hS ⟨fun _ => hS, H⟩
    · have h1 := H.2 j (ready_mono hj hji)
      obtain ⟨hjun, oj, hoj, hall⟩ := mem_ready.1 hj
      have hun : ∀ k, listed.getD k true = false → ∀ e ∈ oj.after, Region.binds md e = true → e.on ≠ k := fun k h0 e he hb heq => by
        have h1 := hall e he hb
        rw [heq] at h1
        rcases Nat.lt_or_ge k listed.size with h' | h'
        · simp [h'] at h0 h1; rw [h0] at h1; cases h1
        · simp [Array.getElem?_eq_none h'] at h1
      have hjD : j ∉ D := fun hx => by
        obtain ⟨_, oj', hoj', e, he, hb, ho⟩ := hD j hx
        rw [hoj] at hoj'
        injection hoj' with hoj'
        subst hoj'
        rcases ho with ho | ho
        · exact hun i (mem_ready.1 hr).1 e he hb ho
        · exact hun e.on (hD e.on ho).1 e he hb rfl
      obtain ⟨hap, hpj⟩ := hfree j oj hoj hji hjun hjD
      have h2 := wpOp_putIf hoj hap (fun cs b => hsel i oi cs b hi) (fun cs b => hsel j oj cs b hoj) hQ hy h1
      have hset : ∀ k, k ≠ j → (listed.setIfInBounds j true).getD k true = listed.getD k true := fun k hk => getD_set_ne true (fun e => hk e.symm)
      have hD' : ∀ k ∈ D, (listed.setIfInBounds j true).getD k true = false ∧ ∃ ok, ops[k]? = some ok ∧ ∃ e ∈ ok.after, Region.binds md e = true ∧ (e.on = i ∨ e.on ∈ D) := fun k hk => by
        obtain ⟨q1, q2⟩ := hD k hk
        exact ⟨by rw [hset k (fun e => hjD (e ▸ hk))]; exact q1, q2⟩
      have hfree' : ∀ k ok, ops[k]? = some ok → k ≠ i → (listed.setIfInBounds j true).getD k true = false → k ∉ D → oi.apart ops ok = true ∧ pl.contains k = true := fun k ok hk hki hun hno => by
        refine hfree k ok hk hki ?_ hno
        by_cases hjk : k = j
        · subst hjk; exact hjun
        · rw [hset k hjk] at hun; exact hun
      refine wpOp_mono (fun a' w' h3 => ?_) h2
      obtain ⟨h4, h5, h6⟩ := h3
      refine ⟨h5, ih (listed.setIfInBounds j true) a' _ hD' hfree' (ready_mono hr (Ne.symm hji)) h4 (h5 hpj) ?_⟩
      rw [Array.setIfInBounds_comm _ _ hji]
      exact h6
theorem wpAnyX_firstU {i : Nat} {oi : Oper} {v : Value} (hpi : pl.contains i = false) (hi : ops[i]? = some oi) (hsel : ∀ (j : Nat) (o : Oper) cs b, ops[j]? = some o → o.op ≠ .select cs b)
    (hQ : ∀ c a w, Q (.panic c) (a.put oi.dst v) w → Q (.panic c) a w) :
    ∀ (fuel : Nat) (listed : Array Bool) (a : Act) (w : World),
      (∀ j oj, ops[j]? = some oj → j ≠ i → listed.getD j true = false → (∀ e ∈ oj.after, Region.binds md e = true → e.on ≠ i) → oi.apart ops oj = true) →
      i ∈ Region.ready md ops listed → YieldsIf P ops (fun _ => True) oi v a →
      wpAnyX P md ops Q pl S fuel (listed.setIfInBounds i true) (a.put oi.dst v) w → wpAnyX P md ops Q pl S (fuel + 1) listed a w := by
  intro fuel
  induction fuel with
  | zero =>
    intro listed a w _ hr hy H
    refine ⟨fun h => (by rw [h] at hr; cases hr), fun j hj => ?_⟩
    by_cases hji : j = i
    · subst hji; exact hy.wpOp hi trivial ⟨fun hc => (by rw [hpi] at hc; cases hc), H⟩
    · have := ready_mono hj hji
      rw [H.1] at this
      cases this
  | succ fuel ih =>
    intro listed a w hfree hr hy H
    refine ⟨fun h => (by rw [h] at hr; cases hr), fun j hj => ?_⟩
    by_cases hji : j = i
    · subst hji; exact hy.wpOp hi trivial ⟨fun hc => (by rw [hpi] at hc; cases hc), H⟩
    · have h1 := H.2 j (ready_mono hj hji)
      obtain ⟨hjun, oj, hoj, hall⟩ := mem_ready.1 hj
      have hnot : ∀ e ∈ oj.after, Region.binds md e = true → e.on ≠ i := fun e he hb heq => by
        have h1 := hall e he hb
        have h0 := (mem_ready.1 hr).1
        rw [heq] at h1
        rcases Nat.lt_or_ge i listed.size with h' | h'
        · simp [h'] at h0 h1; rw [h0] at h1; cases h1
        · simp [Array.getElem?_eq_none h'] at h1
      have h2 := wpOp_putIf hoj (hfree j oj hoj hji hjun hnot) (fun cs b => hsel i oi cs b hi) (fun cs b => hsel j oj cs b hoj) hQ hy h1
      have hfree' : ∀ k ok, ops[k]? = some ok → k ≠ i → (listed.setIfInBounds j true).getD k true = false →
          (∀ e ∈ ok.after, Region.binds md e = true → e.on ≠ i) → oi.apart ops ok = true := fun k ok hk hki hun hno => by
        refine hfree k ok hk hki ?_ hno
        by_cases hjk : j = k
        · subst hjk; exact hjun
        · rw [getD_set_ne true hjk] at hun; exact hun
      refine wpOp_mono (fun a' w' h3 => ?_) h2
      obtain ⟨h4, h5, h6⟩ := h3
      refine ⟨h5, ih (listed.setIfInBounds j true) a' _ hfree' (ready_mono hr (Ne.symm hji)) h4 ?_⟩
      rw [Array.setIfInBounds_comm _ _ hji]
      exact h6
end
section
variable {P : Program} {n : Nat} {ops : Array Oper} {Q : Exit → Sl → World → Prop} {σ : Sl} {w : World} {fuel : Nat} {listed : Array Bool} {pl : List Nat} {S : World → Prop}
/-- Does it wait for i, or for one of the list? -/
def waitsB (ops : Array Oper) (i : Nat) (D : List Nat) (j : Nat) : Bool := match ops[j]? with
  | some oj => oj.after.any fun e => Region.binds .any e && (e.on == i || D.contains e.on)
  | none => false
def depL (ops : Array Oper) (i : Nat) : List Nat := (List.range ops.size).foldl (fun D j => if waitsB ops i D j then D ++ [j] else D) []
def freeD (ops : Array Oper) (pl : List Nat) (listed : Array Bool) (i : Nat) (D : List Nat) : Bool :=
  (D.all fun j => !listed.getD j true && waitsB ops i D j) &&
  match ops[i]? with
  | none => false
  | some oi => (List.range ops.size).all fun j => j == i || listed.getD j true || D.contains j || match ops[j]? with
      | some oj => oi.apart ops oj && pl.contains j
      | none => true
theorem freeD_dep {i : Nat} {D : List Nat} (h : freeD ops pl listed i D = true) : ∀ j ∈ D, listed.getD j true = false ∧ ∃ oj, ops[j]? = some oj ∧ ∃ e ∈ oj.after, Region.binds .any e = true ∧ (e.on = i ∨ e.on ∈ D) := by
  intro j hj
  unfold freeD at h
  rw [Bool.and_eq_true, List.all_eq_true] at h
  have h1 := h.1 j hj
  rw [Bool.and_eq_true, Bool.not_eq_true'] at h1
  refine ⟨h1.1, ?_⟩
  have h2 := h1.2
  unfold waitsB at h2
  cases ho : ops[j]? with
  | none => rw [ho] at h2; cases h2
  | some oj =>
    rw [ho] at h2
    simp only [Array.any_eq_true', Bool.and_eq_true, Bool.or_eq_true, beq_iff_eq, List.contains_iff_mem] at h2
    obtain ⟨e, he, hb, hon⟩ := h2
    exact ⟨oj, rfl, e, he, hb, hon⟩
theorem freeD_spec {i : Nat} {oi : Oper} {D : List Nat} (hi : ops[i]? = some oi) (h : freeD ops pl listed i D = true) (j : Nat) (oj : Oper) (hj : ops[j]? = some oj) (hne : j ≠ i) (hun : listed.getD j true = false) (hno : j ∉ D) :
    oi.apart ops oj = true ∧ pl.contains j = true := by
  unfold freeD at h
  rw [Bool.and_eq_true] at h
  have h2 := h.2
  rw [hi] at h2
  simp only [List.all_eq_true, List.mem_range] at h2
  have h1 := h2 j (Array.getElem?_eq_some_iff.1 hj).1
  rw [hj, hun] at h1
  simp only [Bool.or_false, Bool.or_eq_true, beq_iff_eq, Bool.and_eq_true, List.contains_iff_mem] at h1
  rcases h1 with (h1 | h1) | h1
  · exact absurd h1 hne
  · exact absurd h1 hno
  · exact ⟨h1.1, by simpa using h1.2⟩
def OrdX (P : Program) (n : Nat) (ops : Array Oper) (Q : Exit → Sl → World → Prop) (pl : List Nat) (S : World → Prop) (fuel : Nat) (listed : Array Bool) (σ : Sl) (w : World) : Prop :=
  ∀ a, Fr n σ a → wpAnyX P .any ops (lift n Q) pl S fuel listed a w
@[congr] theorem OrdX_congr {σ σ' : Sl} {w w' : World} (h : σ = σ') (h' : w = w') : OrdX P n ops Q pl S fuel listed σ w = OrdX P n ops Q pl S fuel listed σ' w' := by rw [h, h']
theorem Raw_ordX (pl : List Nat) (S : World → Prop) (m : Nat) (hsz : ops.size = m) {id : Nat} (hm : P.follows .mixedOrders = true) (h : OrdX P n ops Q pl S m (Array.replicate m false) σ w.drew) : Raw P n (.region id ops true) Q σ w := by
  intro a hf
  subst hsz
  exact wp_region_any hm (wpAny_of_X _ _ _ _ (h a hf))
theorem OrdX_take (i : Nat) (D : List Nat) {d : Option Nat} {op : Op} {ty : TypeId} {p : String} {af : Array Edge} {v : Value} (hi : ops[i]? = some ⟨d, op, ty, p, af, none⟩)
    (hs : Region.noSelect ops = true) (hf : freeD ops pl listed i D = true) (hr : (Region.ready .any ops listed).contains i = true)
    (hQ : ∀ c σ w, ¬ Q (.panic c) σ w) (hS : S w) (hv : ∀ w', S w' → run1 P op ty σ w' = .ok (.value v) w')
    (h : OrdX P n ops Q pl S fuel (listed.setIfInBounds i true) (put n σ d v) w) : OrdX P n ops Q pl S (fuel + 1) listed σ w := by
  intro a hfr
  refine wpAnyX_firstD D hi (Region.noSelect_spec hs) ?_ fuel listed a w (freeD_dep hf) (freeD_spec hi hf) (by simpa using hr) (v := v) ?_ hS (h _ (hfr.put d v))
  · rintro c a w ⟨σ', _, hq⟩
    exact absurd hq (hQ _ _ _)
  · refine .inl ⟨wanted_none rfl, fun w' hw' => ?_⟩
    have := hv w' hw'
    rw [hfr.eval]
    exact this
theorem OrdX_all (rs : List Nat) (hr : Region.ready .any ops listed = rs) (hne : rs ≠ []) (h : ∀ i ∈ rs, match ops[i]? with
      | some ⟨d, op, ty, _, _, none⟩ => Okv P (fun v w' => (pl.contains i = true → S w') ∧ OrdX P n ops Q pl S fuel (listed.setIfInBounds i true) (put n σ d v) w') (run1 P op ty σ w)
      | _ => False) : OrdX P n ops Q pl S (fuel + 1) listed σ w := by
  intro a hfr
  refine ⟨fun h0 => absurd (hr ▸ h0) hne, hr ▸ fun i hi => ?_⟩
  have h2 := h i hi
  cases ho : ops[i]? with
  | none => rw [ho] at h2; exact h2.elim
  | some o =>
    rw [ho] at h2
    obtain ⟨d, op, ty, p, af, g⟩ := o
    cases g with
    | some g => exact h2.elim
    | none =>
      unfold wpOp
      simp only [ho]
      rw [if_pos (wanted_none rfl)]
      exact .inl (Oper.wp_of_Okv hfr (o := ⟨d, op, ty, p, af, none⟩) h2 fun v w' hE => ⟨hE.1, hE.2 _ (hfr.put d v)⟩)
/-- One that keeps S, where nobody else may come up. -/
theorem OrdX_one (i : Nat) {d : Option Nat} {op : Op} {ty : TypeId} {p : String} {af : Array Edge} (hr : Region.ready .any ops listed = [i]) (hi : ops[i]? = some ⟨d, op, ty, p, af, none⟩)
    (h : Okv P (fun v w' => S w' ∧ OrdX P n ops Q pl S fuel (listed.setIfInBounds i true) (put n σ d v) w') (run1 P op ty σ w)) : OrdX P n ops Q pl S (fuel + 1) listed σ w :=
  OrdX_all [i] hr (by simp) fun j hj => by
    obtain rfl : j = i := by simpa using hj
    rw [hi]
    exact Okv_mono (fun v w' h => ⟨fun _ => h.1, h.2⟩) h
/-- One that need not keep it. -/
theorem OrdX_write (i : Nat) {d : Option Nat} {op : Op} {ty : TypeId} {p : String} {af : Array Edge} (hr : Region.ready .any ops listed = [i]) (hp : pl.contains i = false) (hi : ops[i]? = some ⟨d, op, ty, p, af, none⟩)
    (h : Okv P (fun v w' => OrdX P n ops Q pl S fuel (listed.setIfInBounds i true) (put n σ d v) w') (run1 P op ty σ w)) : OrdX P n ops Q pl S (fuel + 1) listed σ w :=
  OrdX_all [i] hr (by simp) fun j hj => by
    obtain rfl : j = i := by simpa using hj
    rw [hi]
    exact Okv_mono (fun v w' h => ⟨fun hc => (by rw [hp] at hc; cases hc), h⟩) h
theorem OrdX_done (hr : Region.ready .any ops listed = []) (h : Q .normal σ w) : OrdX P n ops Q pl S fuel listed σ w := fun a hf => by
  cases fuel with
  | zero => exact ⟨hr, σ, hf, h⟩
  | succ f => exact ⟨fun _ => ⟨σ, hf, h⟩, by rw [hr]; simp⟩
theorem OrdX_chain : ∀ (js : List Nat) (listed : Array Bool) (σ : Sl) (w : World), (js.all fun j => !pl.contains j) = true → chB ops listed js = true → E P n ops (opsL ops js) σ w (Q .normal) → OrdX P n ops Q pl S js.length listed σ w
  | [], L, σ, w, _, h, hE => OrdX_done (of_decide_eq_true h) hE
  | j :: r, L, σ, w, hp, h, hE => by
    rw [chB, Bool.and_eq_true, Bool.and_eq_true] at h
    rw [List.all_cons, Bool.and_eq_true] at hp
    obtain ⟨⟨h1, h2⟩, h3⟩ := h
    rw [opsL_cons] at hE
    cases ho : ops[j]? with
    | none => rw [ho] at h2; cases h2
    | some o =>
      obtain ⟨d, op, ty, p, af, g⟩ := o
      rw [ho] at h2
      cases g with
      | some g => cases h2
      | none =>
        rw [ho, optL_some, E_op] at hE
        exact OrdX_write j (of_decide_eq_true h1) (by simpa using hp.1) ho (Okv_mono (fun v w' hh => OrdX_chain r _ _ _ hp.2 h3 hh) hE)
def rdD (n : Nat) (ops : Array Oper) (pl : List Nat) : Array Bool → List Nat → Bool
  | _, [] => true
  | L, i :: r => (match ops[i]? with
    | some ⟨some d, _, _, _, _, none⟩ => decide (d < n) && r.all fun j => (ops[j]?).bind (·.dst) != some d
    | _ => false) && freeD ops pl L i (depL ops i) && (Region.ready .any ops L).contains i && rdD n ops pl (L.setIfInBounds i true) r
theorem OrdX_reads (is : List Nat) (f : Nat) {m : Nat} {τ : Sl} (hf : m = f + is.length) (hs : Region.noSelect ops = true) (hB : rdD n ops pl listed is = true)
    (hQ : ∀ c σ w, ¬ Q (.panic c) σ w) (hS : S w) (hv : ∀ w', S w' → V P n w' (opsL ops is) σ (fun σ' => σ' = τ))
    (h : OrdX P n ops Q pl S f (markL listed is) τ w) : OrdX P n ops Q pl S m listed σ w := by
  subst hf
  induction is generalizing listed σ with
  | nil => have e : σ = τ := hv w hS; rw [e]; exact h
  | cons i r ih =>
    rw [rdD, Bool.and_eq_true, Bool.and_eq_true, Bool.and_eq_true] at hB
    obtain ⟨⟨⟨h1, h2⟩, h3⟩, h4⟩ := hB
    cases ho : ops[i]? with
    | none => rw [ho] at h1; cases h1
    | some o =>
      obtain ⟨d', op, ty, p, af, g⟩ := o
      rw [ho] at h1
      cases d' with
      | none => cases h1
      | some d =>
      cases g with
      | some g => cases h1
      | none =>
      simp only [Bool.and_eq_true, decide_eq_true_eq] at h1
      obtain ⟨hd, hr⟩ := h1
      have key : ∀ w', S w' → run1 P op ty σ w' = .ok (.value (τ d)) w' ∧ V P n w' (opsL ops r) (put n σ (some d) (τ d)) (fun σ' => σ' = τ) := by
        intro w' hw'
        have hv := hv w' hw'
        rw [opsL_cons, ho, optL_some, V_op] at hv
        cases hr1 : run1 P op ty σ w' with
        | halt x w2 => rw [hr1] at hv; exact hv.elim
        | ok nx w2 =>
          rw [hr1] at hv
          cases nx with
          | value v =>
            obtain ⟨rfl, hv⟩ := hv
            have e := V_keep r _ hr hv
            rw [put_some, if_pos hd, upd_same] at e
            rw [e]
            exact ⟨rfl, hv⟩
          | _ => exact hv.elim
      exact OrdX_take i _ ho hs h2 h3 hQ hS (fun w' hw' => (key w' hw').1) (ih h4 (fun w' hw' => (key w' hw').2) h)
/-- A reader of slots: its value in whatever world. -/
theorem OrdX_takeU (i : Nat) {d : Option Nat} {op : Op} {ty : TypeId} {p : String} {af : Array Edge} {v : Value} (hi : ops[i]? = some ⟨d, op, ty, p, af, none⟩)
    (hp : pl.contains i = false) (hs : Region.noSelect ops = true) (hf : Region.free .any ops listed i = true) (hr : (Region.ready .any ops listed).contains i = true)
    (hQ : ∀ c σ w, ¬ Q (.panic c) σ w) (hv : ∀ w', run1 P op ty σ w' = .ok (.value v) w')
    (h : OrdX P n ops Q pl S fuel (listed.setIfInBounds i true) (put n σ d v) w) : OrdX P n ops Q pl S (fuel + 1) listed σ w := by
  intro a hfr
  refine wpAnyX_firstU hp hi (Region.noSelect_spec hs) ?_ fuel listed a w (Region.free_spec hi hf) (by simpa using hr) (v := v) ?_ (h _ (hfr.put d v))
  · rintro c a w ⟨σ', _, hq⟩
    exact absurd hq (hQ _ _ _)
  · refine .inl ⟨wanted_none rfl, fun w' _ => ?_⟩
    rw [hfr.eval]
    exact hv w'
theorem OrdX_readsU (is : List Nat) (f : Nat) {m : Nat} {τ : Sl} (hf : m = f + is.length) (hp : (is.all fun i => !pl.contains i) = true) (hs : Region.noSelect ops = true) (hB : rdB n ops listed is = true)
    (hQ : ∀ c σ w, ¬ Q (.panic c) σ w) (hv : ∀ w', V P n w' (opsL ops is) σ (fun σ' => σ' = τ))
    (h : OrdX P n ops Q pl S f (markL listed is) τ w) : OrdX P n ops Q pl S m listed σ w := by
  subst hf
  induction is generalizing listed σ with
  | nil => have e : σ = τ := hv w; rw [e]; exact h
  | cons i r ih =>
    rw [List.all_cons, Bool.and_eq_true] at hp
    rw [rdB, Bool.and_eq_true, Bool.and_eq_true, Bool.and_eq_true] at hB
    obtain ⟨⟨⟨h1, h2⟩, h3⟩, h4⟩ := hB
    cases ho : ops[i]? with
    | none => rw [ho] at h1; cases h1
    | some o =>
      obtain ⟨d', op, ty, p, af, g⟩ := o
      rw [ho] at h1
      cases d' with
      | none => cases h1
      | some d =>
      cases g with
      | some g => cases h1
      | none =>
      simp only [Bool.and_eq_true, decide_eq_true_eq] at h1
      obtain ⟨hd, hr⟩ := h1
      have key : ∀ w', run1 P op ty σ w' = .ok (.value (τ d)) w' ∧ V P n w' (opsL ops r) (put n σ (some d) (τ d)) (fun σ' => σ' = τ) := by
        intro w'
        have hv := hv w'
        rw [opsL_cons, ho, optL_some, V_op] at hv
        cases hr1 : run1 P op ty σ w' with
        | halt x w2 => rw [hr1] at hv; exact hv.elim
        | ok nx w2 =>
          rw [hr1] at hv
          cases nx with
          | value v =>
            obtain ⟨rfl, hv⟩ := hv
            have e := V_keep r _ hr hv
            rw [put_some, if_pos hd, upd_same] at e
            rw [e]
            exact ⟨rfl, hv⟩
          | _ => exact hv.elim
      exact OrdX_takeU i ho (by simpa using hp.1) hs h2 h3 hQ (fun w' => (key w').1) (ih hp.2 h4 (fun w' => (key w').2) h)
end
end Go.Proofs.YtbdkggnajipdhaaDoor
/- Walks: the reader of a game: its whole state. -/
namespace Go.Proofs.YtbdkggnajipdhaaDoor
open Go.RowKit
set_option maxRecDepth 100000
/-- Numbers in a row of the call's own. -/
def IntsT (lo : Nat) (w : World) (v : Value) (L : List Int) : Prop := ∃ (A : Option Addr) (c : Nat), v = .slice A L.length c ∧ (0 < L.length → ∃ b, A = some ⟨b, 0, none⟩ ∧ Row w b 3 (iW L) ∧ lo ≤ b)
theorem IntsT.of_owns {lo : Nat} {w : World} {base c : Nat} {A : Option Addr} {L : List Int} (h : w.ownsRow base 3 1 (.slice A L.length c) L.length (iW L)) (hlo : lo ≤ base) : IntsT lo w (.slice A L.length c) L :=
  ⟨A, c, rfl, fun hn => by obtain ⟨g, e, hg, hr, _⟩ := owns_row h hn; exact ⟨g, e, hr, by omega⟩⟩
theorem IntsT.nil {lo : Nat} (w : World) : IntsT lo w (.slice none 0 0) [] := ⟨none, 0, rfl, fun h => absurd h (Nat.lt_irrefl _)⟩
/-- What changes are blocks of X, and rows of add-ons and tiers. -/
def KT (X : List Nat) (w w' : World) : Prop := w.heap.size ≤ w'.heap.size ∧ ∀ (k : Nat) (o : Obj), k ∉ X → w.heap[k]? = some o → (∀ cs f, o ≠ .cells cs 43 f) → (∀ cs f, o ≠ .cells cs 45 f) → w'.heap[k]? = some o
theorem KT.of_kept {X : List Nat} {w w' : World} (h : Kept X w w') : KT X w w' := ⟨h.size, fun k o hx ho _ _ => (h.block k (Array.getElem?_eq_some_iff.1 ho).1 hx).trans ho⟩
theorem KT.trans {X : List Nat} {a b c : World} (h : KT X a b) (k : KT X b c) : KT X a c := ⟨Nat.le_trans h.1 k.1, fun i o hx ho h1 h2 => k.2 i o hx (h.2 i o hx ho h1 h2) h1 h2⟩
theorem Row.kt {X : List Nat} {w w' : World} {g : Nat} {T : TypeId} {cs : List Value} (h : Row w g T cs) (k : KT X w w') (hg : g ∉ X) (h1 : T ≠ 43) (h2 : T ≠ 45) : Row w' g T cs := by
  obtain ⟨cur, hc, r, hr⟩ := h
  refine ⟨cur, k.2 g _ hg hc (fun cs f e => ?_) (fun cs f e => ?_), r, hr⟩
  · injection e with _ e; exact h1 e
  · injection e with _ e; exact h2 e
theorem IntsT.kt {lo : Nat} {X : List Nat} {w w' : World} {v : Value} {L : List Int} (h : IntsT lo w v L) (k : KT X w w') (hX : ∀ x ∈ X, ∀ o, w.heap[x]? = some o → ∀ cs f, o ≠ .cells cs 3 f) : IntsT lo w' v L := by
  obtain ⟨A, c, e, h⟩ := h
  refine ⟨A, c, e, fun hn => ?_⟩
  obtain ⟨b, hb, hr, hlo⟩ := h hn
  refine ⟨b, hb, hr.kt k (fun hx => ?_) (by decide) (by decide), hlo⟩
  obtain ⟨cur, hc, _⟩ := hr
  exact hX b hx _ hc _ _ rfl
theorem IntsT.of_blocksL {lo : Nat} {w w' : World} {v : Value} {L : List Int} (h : IntsT lo w v L) (k : ∀ b cs, lo ≤ b → Row w b 3 cs → w'.heap[b]? = w.heap[b]?) : IntsT lo w' v L := by
  obtain ⟨A, c, e, h⟩ := h
  refine ⟨A, c, e, fun hn => ?_⟩
  obtain ⟨b, hb, hr, hlo⟩ := h hn
  exact ⟨b, hb, hr.of_block (k b _ hlo hr), hlo⟩
theorem IntsT.of_blocks {lo : Nat} {w w' : World} {v : Value} {L : List Int} (h : IntsT lo w v L) (k : ∀ b cs, Row w b 3 cs → w'.heap[b]? = w.heap[b]?) : IntsT lo w' v L := h.of_blocksL fun b cs _ hr => k b cs hr
theorem below_drew {B : Nat} {a w : World} (h : Below B a w) : Below B a w.drew := ⟨h.os, h.tape, h.output, h.size, h.block⟩
/-- An add-on's cells. -/
def AdC (P : Value → List Int → Prop) (cs : List Value) (x : Ad) : Prop := ∃ vf vs, cs = [.string x.name, .int .i64 x.kind, .int .i64 x.price, vf, .int .i64 x.digits, vs] ∧ P vf x.factors ∧ P vs x.serials
theorem AdC.mono {P P' : Value → List Int → Prop} {cs : List Value} {x : Ad} (h : AdC P cs x) (hp : ∀ v L, P v L → P' v L) : AdC P' cs x := by
  obtain ⟨vf, vs, e, h1, h2⟩ := h
  exact ⟨vf, vs, e, hp _ _ h1, hp _ _ h2⟩
def AdsC (P : Value → List Int → Prop) (Vs : List (List Value)) (L : List Ad) : Prop := Vs.length = L.length ∧ ∀ (i : Nat) (cs : List Value) (x : Ad), Vs[i]? = some cs → L[i]? = some x → AdC P cs x
theorem AdsC.mono {P P' : Value → List Int → Prop} {Vs : List (List Value)} {L : List Ad} (h : AdsC P Vs L) (hp : ∀ v L, P v L → P' v L) : AdsC P' Vs L := ⟨h.1, fun i cs x h1 h2 => (h.2 i cs x h1 h2).mono hp⟩
theorem AdsC.snoc {P : Value → List Int → Prop} {Vs : List (List Value)} {L : List Ad} {cs : List Value} {x : Ad} (h : AdsC P Vs L) (hx : AdC P cs x) : AdsC P (Vs ++ [cs]) (L ++ [x]) := by
  refine ⟨by rw [List.length_append, List.length_append, h.1]; rfl, fun i cs' x' h1 h2 => ?_⟩
  rw [List.getElem?_append] at h1 h2
  have hl := h.1
  by_cases hi : i < L.length
  · rw [if_pos (by omega)] at h1
    rw [if_pos hi] at h2
    exact h.2 i _ _ h1 h2
  · rw [if_neg (by omega)] at h1
    rw [if_neg hi] at h2
    rw [hl] at h1
    cases hd : i - L.length with
    | zero =>
      rw [hd] at h1 h2
      simp only [List.getElem?_cons_zero, Option.some.injEq] at h1 h2
      subst h1 h2
      exact hx
    | succ k => rw [hd] at h1; simp at h1
def encTi (t : Ti) : List Value := [.int .i64 t.main, .int .i64 t.bonus, .int .i64 t.extra, .int .i64 t.mode, .int .i64 t.kind, .int .i64 t.value]
/-- The state of a reader of games. -/
structure GmSt (w : World) (base g gs : Nat) (A : Option Addr) (c : Nat) (T : List Tk) (a : Nat) (G : Gm) (seen : List (List Nat)) (Va Vt : Value) (Vs : List (List Value)) : Prop where
  pk : PkIn w g A c T a (.map (some gs) :: gmV G Va Vt)
  sn : SeenIn w gs seen
  ads : AdsC (IntsT base w) Vs G.addons
  own : w.ownsRow base 43 6 Va G.addons.length Vs.flatten
  tis : w.ownsRow base 45 6 Vt G.tiers.length (G.tiers.flatMap encTi)
  fewA : G.addons.length ≤ a
  fewT : G.tiers.length ≤ a
  days : asc "days" ∉ seen → G.n 9 = 0
  toks : ∀ b o, A = some ⟨b, o, none⟩ → b < base
  hg : 5 ≤ base ∧ base ≤ g ∧ base ≤ gs ∧ gs ≠ g
theorem not_int_parser {w : World} {g : Nat} {cs : List Value} (h : Row w g 71 cs) : ∀ o, w.heap[g]? = some o → ∀ cs f, o ≠ .cells cs 3 f := fun o ho cs f e => by
  obtain ⟨cur, hc, _⟩ := h
  rw [hc] at ho
  injection ho with ho
  rw [← ho] at e
  injection e with _ e
  exact absurd e (by decide)
theorem not_int_seen {w : World} {g : Nat} {seen : List (List Nat)} (h : SeenIn w g seen) : ∀ o, w.heap[g]? = some o → ∀ cs f, o ≠ .cells cs 3 f := fun o ho cs f e => by
  obtain ⟨l, clk, hc, _⟩ := h
  rw [hc] at ho
  injection ho with ho
  rw [← ho] at e
  cases e
theorem own_ne {w : World} {base sz n g : Nat} {e T : TypeId} {v : Value} {xs cs : List Value} (h : w.ownsRow base e sz v n xs) (hR : Row w g T cs) (hT : T ≠ e) : v.ownBlock ≠ some g := fun hb => by
  rcases h.2 with ⟨rfl, _⟩ | ⟨g', cap, cur, rfl, _, h2, _⟩
  · cases hb
  · simp only [Value.ownBlock, Option.some.injEq] at hb
    subst hb
    obtain ⟨cur', hc, _⟩ := hR
    rw [hc] at h2
    injection h2 with h2
    injection h2 with _ h2
    exact hT h2
theorem own_ne_seen {w : World} {base sz n g : Nat} {e : TypeId} {v : Value} {xs : List Value} {seen : List (List Nat)} (h : w.ownsRow base e sz v n xs) (hS : SeenIn w g seen) : v.ownBlock ≠ some g := fun hb => by
  rcases h.2 with ⟨rfl, _⟩ | ⟨g', cap, cur, rfl, _, h2, _⟩
  · cases hb
  · simp only [Value.ownBlock, Option.some.injEq] at hb
    subst hb
    obtain ⟨l, clk, hc, _⟩ := hS
    rw [hc] at h2
    cases h2
theorem own_ne_own {w : World} {b1 b2 s1 s2 n1 n2 k : Nat} {e1 e2 : TypeId} {v1 v2 : Value} {x1 x2 : List Value} (h : w.ownsRow b1 e1 s1 v1 n1 x1) (h' : w.ownsRow b2 e2 s2 v2 n2 x2) (he : e1 ≠ e2) (hk : v2.ownBlock = some k) : v1.ownBlock ≠ some k := fun hb => by
  rcases h.2 with ⟨rfl, _⟩ | ⟨g', cap, cur, rfl, _, h2, _⟩
  · cases hb
  · rcases h'.2 with ⟨rfl, _⟩ | ⟨g2, cap2, cur2, rfl, _, h2', _⟩
    · cases hk
    · simp only [Value.ownBlock, Option.some.injEq] at hb hk
      subst hb
      rw [hk, h2] at h2'
      injection h2' with h2'
      injection h2' with _ h2'
      exact he h2'
section
variable {base g gs c a : Nat} {A : Option Addr} {T : List Tk} {w : World} {G : Gm} {seen : List (List Nat)} {Va Vt : Value} {Vs : List (List Value)}
/-- A reader's step that only goes on, and may set numbers. -/
theorem GmSt.step {w' : World} {a' : Nat} {n' : Nat → Int} (h : GmSt w base g gs A c T a G seen Va Vt Vs) (k : Kept [g] w w') (hp : PkIn w' g A c T a' (.map (some gs) :: gmV { G with n := n' } Va Vt)) (ha : a ≤ a') (h9 : asc "days" ∉ seen → n' 9 = 0) : GmSt w' base g gs A c T a' { G with n := n' } seen Va Vt Vs := by
  obtain ⟨h1, h2, h3, h4, h5, h6, h7, h8, h9', h10⟩ := h
  have hne := h10.2.2.2
  refine ⟨hp, h2.kept k (by simpa using hne), h3.mono fun v L hv => hv.kt (KT.of_kept k) (fun x hx => by simp at hx; subst hx; exact not_int_parser h1.row), ?_, ?_, Nat.le_trans h6 ha, Nat.le_trans h7 ha, h9, h9', h10⟩
  · refine owns_keep h4 fun b hb => k.block b (owns_ge h4 hb).2 fun hx => ?_
    simp at hx
    subst hx
    exact own_ne h4 h1.row (by decide) hb
  · refine owns_keep h5 fun b hb => k.block b (owns_ge h5 hb).2 fun hx => ?_
    simp at hx
    subst hx
    exact own_ne h5 h1.row (by decide) hb
theorem GmSt.leaf {w' : World} {a' : Nat} (h : GmSt w base g gs A c T a G seen Va Vt Vs) (k : Kept [g] w w') (hp : PkIn w' g A c T a' (.map (some gs) :: gmV G Va Vt)) (ha : a ≤ a') : GmSt w' base g gs A c T a' G seen Va Vt Vs :=
  h.step (n' := G.n) k hp ha h.days
theorem GmSt.once {w' : World} {seen' : List (List Nat)} (h : GmSt w base g gs A c T a G seen Va Vt Vs) (k : Kept [gs] w w') (hs : SeenIn w' gs seen') (hp : PkIn w' g A c T a (.map (some gs) :: gmV G Va Vt)) (h9 : asc "days" ∉ seen' → asc "days" ∉ seen) : GmSt w' base g gs A c T a G seen' Va Vt Vs := by
  obtain ⟨h1, h2, h3, h4, h5, h6, h7, h8, h9', h10⟩ := h
  refine ⟨hp, hs, h3.mono fun v L hv => hv.kt (KT.of_kept k) (fun x hx => by simp at hx; subst hx; exact not_int_seen h2), ?_, ?_, h6, h7, fun e => h8 (h9 e), h9', h10⟩
  · refine owns_keep h4 fun b hb => k.block b (owns_ge h4 hb).2 fun hx => ?_
    simp at hx
    subst hx
    exact own_ne_seen h4 h2 hb
  · refine owns_keep h5 fun b hb => k.block b (owns_ge h5 hb).2 fun hx => ?_
    simp at hx
    subst hx
    exact own_ne_seen h5 h2 hb
theorem GmSt.below {w' : World} (h : GmSt w base g gs A c T a G seen Va Vt Vs) (k : Below w.heap.size w w') : GmSt w' base g gs A c T a G seen Va Vt Vs :=
  h.leaf (Kept.of_below k) (h.pk.below k) (Nat.le_refl _)
theorem GmSt.keptB {X : List Nat} {w' : World} (h : GmSt w base g gs A c T a G seen Va Vt Vs) (k : Kept X w w') (hX : ∀ x ∈ X, base ≤ x) : Below base w w' :=
  ⟨k.os, k.tape, k.output, k.size, fun i hi => k.block i (by have := h.pk.row.lt; have := h.hg; omega) fun hx => by have := hX i hx; omega⟩
/-- What a part of the reader gives: the game so far. -/
def ResG (base g gs : Nat) (A : Option Addr) (c : Nat) (T : List Tk) (w : World) (r : Except (Int × List Tk) ((Gm × List (List Nat)) × List Tk)) (e : Ending) (w' : World) : Prop := Below base w w' ∧ match r with
  | .ok x => e = .returned (.tuple #[]) ∧ ∃ a' Va Vt Vs, x.2 = T.drop a' ∧ GmSt w' base g gs A c T a' x.1.1 x.1.2 Va Vt Vs
  | .error x => e = .panicked [{ v := failV x.1 (hdT x.2).line, recovered := false }]
theorem ResG.ok {r : Except (Int × List Tk) ((Gm × List (List Nat)) × List Tk)} {w' : World} {G' : Gm} {seen' : List (List Nat)} {a' : Nat} (hr : r = .ok ((G', seen'), T.drop a')) (k : Below base w w') (h : GmSt w' base g gs A c T a' G' seen' Va Vt Vs) : ResG base g gs A c T w r (.returned (.tuple #[])) w' := by
  subst hr; exact ⟨k, rfl, a', Va, Vt, Vs, rfl, h⟩
theorem ResG.err {r : Except (Int × List Tk) ((Gm × List (List Nat)) × List Tk)} {w' : World} {e : Int} {L : List Tk} (hr : r = .error (e, L)) (k : Below base w w') : ResG base g gs A c T w r (.panicked [{ v := failV e (hdT L).line, recovered := false }]) w' := by
  subst hr; exact ⟨k, rfl⟩
theorem ResG.use {P : Program} {f : FuncId} {args : Array Value} {r : Except (Int × List Tk) ((Gm × List (List Nat)) × List Tk)} {R : Value → World → Prop} {X : List PanicEntry → World → Prop} (hc : Calls P f args w (ResG base g gs A c T w r))
    (h1 : ∀ G' seen' a' Va Vt Vs w', r = .ok ((G', seen'), T.drop a') → Below base w w' → GmSt w' base g gs A c T a' G' seen' Va Vt Vs → R (.tuple #[]) w')
    (h2 : ∀ e L w', r = .error (e, L) → Below base w w' → X [{ v := failV e (hdT L).line, recovered := false }] w') : Calls P f args w (Ends R X) := by
  refine hc.mono fun e w' h => ?_
  obtain ⟨k, h⟩ := h
  cases hr : r with
  | ok x =>
    rw [hr] at h
    obtain ⟨⟨G', seen'⟩, L⟩ := x
    obtain ⟨rfl, a', Va', Vt', Vs', ha, hp⟩ := h
    dsimp only at ha
    subst ha
    exact h1 G' seen' a' Va' Vt' Vs' w' hr k hp
  | error x =>
    rw [hr] at h
    obtain ⟨e', L⟩ := x
    have h : e = _ := h
    subst h
    exact h2 e' L w' hr k
/-- One record more in a row of the call's own: what else stands. -/
theorem push2 {P : Program} {sz e n cp T2 ty bytes : Nat} {A0 : Option Addr} {xs news : List Value} (h : w.ownsRow base e sz (.slice A0 n cp) n xs) (hb : base ≤ w.heap.size) (hI : sliceI P T2 = some (e, sz, bytes)) (hn : news.length = sz) (h1 : ∀ u ∈ news, u.oneCell' = true)
    (h63 : n + 1 ≤ 1000000000) (hby : bytes ≤ 10000) :
    ∃ A' c' w2, vAppend P T2 T2 ty (.slice A0 n cp) (.slice (some ⟨w.heap.size, 0, none⟩) 1 1) (w.alloc (.cells news.toArray e)) = .ok (.value (.slice A' (n + 1) c')) w2 ∧
      w2.ownsRow base e sz (.slice A' (n + 1) c') (n + 1) (xs ++ news) ∧ Below base w w2 ∧ w.heap.size ≤ w2.heap.size ∧ ∀ k, k < w.heap.size → (Value.slice A0 n cp).ownBlock ≠ some k → w2.heap[k]? = w.heap[k]? := by
  have hba := below_alloc w (.cells news.toArray e)
  obtain ⟨A', c', w2, he, ho, hg', hbk⟩ := vAppend_own (P := P) (ty := ty) (m := 1) (c := 1) (b := w.heap.size) (o := 0) (news := news) hI (owns_below h hba) (by rw [hn, Nat.one_mul])
    (fun j u hu => by rw [Nat.zero_add, (new_block w news.toArray e).1 j]; simpa using hu) h1 h63 hby (by rw [World.size_alloc]; omega)
  have hgrow : Below base (w.alloc (.cells news.toArray e)) w2 := grown_below hg' (fun g hg => (owns_ge h hg).1) (by rw [World.size_alloc]; omega)
  have hB := (hba.mono hb).trans hgrow
  refine ⟨A', c', w2, he, ho, hB, hB.size, fun k hk hne => ?_⟩
  exact (hg'.block k (by rw [World.size_alloc]; omega) (fun e => hne e.symm)).trans (hba.block k hk)
end
end Go.Proofs.YtbdkggnajipdhaaDoor
/- Walks: the reader of a game's tokens: addon. -/
namespace Go.Proofs.YtbdkggnajipdhaaDoor
open Go.RowKit
set_option maxRecDepth 100000
theorem wordT_ok {L L' : List Tk} {s : ByteArray} (h : wordT L = .ok (s, L')) : (hdT L).kind = 1 ∧ s = (hdT L).text ∧ L' = nxT L := by
  unfold wordT at h
  split at h
  · rename_i hk; injection h with h; injection h with h1 h2; exact ⟨hk, h1.symm, h2.symm⟩
  · cases h
theorem wordT_err {L L' : List Tk} {e : Int} (h : wordT L = .error (e, L')) : ¬ (hdT L).kind = 1 ∧ e = 1 ∧ L' = L := by
  unfold wordT at h
  split at h
  · cases h
  · rename_i hk; injection h with h; injection h with h1 h2; exact ⟨hk, h1.symm, h2.symm⟩
theorem nums_len : ∀ (f : Nat) (L : List Tk), (numsT f L).2.length ≤ L.length
  | 0, L => Nat.le_refl _
  | f + 1, L => by
    unfold numsT
    cases h : numT L with
    | none => exact Nat.le_refl _
    | some a => exact Nat.le_trans (nums_len f a.2) (num_len h)
section
variable {base g gs c a : Nat} {A : Option Addr} {T : List Tk} {w : World} {G : Gm} {seen : List (List Nat)} {Va Vt : Value} {Vs : List (List Value)}
theorem drop_mono {a a' : Nat} {L : List Tk} (h : L.length ≤ (T.drop a).length) (e : L = T.drop a') (ha' : a' < T.length) (ha : a < T.length) : a ≤ a' := by
  subst e
  rw [List.length_drop, List.length_drop] at h
  omega
theorem nx_at (hT : TokOk T) (ha : a < T.length) (hk : (hdT (T.drop a)).kind ≠ 0) : a + 1 < T.length ∧ nxT (T.drop a) = T.drop (a + 1) := by
  have hst := List.getElem?_eq_getElem ha
  have hhd := hdT_drop hst
  have hl := hT.last a _ hst (by rw [← hhd]; exact hk)
  exact ⟨hl, nxT_drop hl⟩
/-- A box of the part's own is written. -/
theorem stBox {w' : World} {ga : Nat} {cs : List Value} {Ty : TypeId} (h : GmSt w base g gs A c T a G seen Va Vt Vs) (k : Kept [ga] w w') (hr : Row w ga Ty cs) (h1 : Ty ≠ 3) (hg : base ≤ ga) (hgn : ga ≠ g) (hgs : ga ≠ gs) (hva : Va.ownBlock ≠ some ga) (hvt : Vt.ownBlock ≠ some ga) : GmSt w' base g gs A c T a G seen Va Vt Vs := by
  obtain ⟨q1, q2, q3, q4, q5, q6, q7, q8, q9, q10⟩ := h
  refine ⟨q1.kept k (by simpa using Ne.symm hgn) (fun b o e => by have := q9 b o e; simp; omega), q2.kept k (by simpa using Ne.symm hgs), q3.mono fun v L hv => hv.of_blocks fun b cs' hb => k.block b hb.lt (fun hx => ?_), ?_, ?_, q6, q7, q8, q9, q10⟩
  · simp at hx
    subst hx
    obtain ⟨c1, e1, _⟩ := hr
    obtain ⟨c2, e2, _⟩ := hb
    rw [e1] at e2
    injection e2 with e2
    injection e2 with _ e2
    exact h1 e2
  · exact owns_keep q4 fun b hb => k.block b (owns_ge q4 hb).2 (fun hx => by simp at hx; subst hx; exact hva hb)
  · exact owns_keep q5 fun b hb => k.block b (owns_ge q5 hb).2 (fun hx => by simp at hx; subst hx; exact hvt hb)
theorem stSet {w0 : World} {ga i : Nat} {cs : List Value} {Ty : TypeId} {v : Value} (h : GmSt w base g gs A c T a G seen Va Vt Vs) (K : Below base w0 w) (hr : Row w ga Ty cs) (h1 : Ty ≠ 3) (hg : base ≤ ga) (hgn : ga ≠ g) (hgs : ga ≠ gs) (hva : Va.ownBlock ≠ some ga) (hvt : Vt.ownBlock ≠ some ga) (hi : i < cs.length) :
    GmSt (w.setCell ⟨ga, i, none⟩ v) base g gs A c T a G seen Va Vt Vs ∧ Below base w0 (w.setCell ⟨ga, i, none⟩ v) ∧ Row (w.setCell ⟨ga, i, none⟩ v) ga Ty (cs.set i v) :=
  ⟨stBox h ((Kept.refl [ga] w).setCell (p := ⟨ga, i, none⟩) (by simp) v) hr h1 hg hgn hgs hva hvt, K.setCell (p := ⟨ga, i, none⟩) hg v, hr.set_ hi v⟩
set_option maxHeartbeats 1000000 in
theorem paAddon_any (h : GmSt w base g gs A c T a G seen Va Vt Vs) (hT : TokOk T) : Calls Tryd.prog 70 #[.pointer (some ⟨g, 0, none⟩)] w
    (ResG base g gs A c T w (bindT (addonT (T.drop a)) fun x => .ok (({ G with addons := G.addons ++ [x.1] }, seen), x.2))) := by
  refine calls_WX (l := [_]) Tryd.func70 rfl _ Tryd.ntmps70 (by simp) ?_
  generalize hr : (bindT (addonT (T.drop a)) fun x => Except.ok (({ G with addons := G.addons ++ [x.1] }, seen), x.2)) = r
  unfold addonT at hr
  have hlt := h.pk.lt
  have hbig := hT.big
  obtain ⟨hb9, hbg, hbs, hne⟩ := h.hg
  simp +contextual (maxSteps := 2000000) (disch := (first | omega | (simp only [SZ]; done) | (simp only [SZ]; omega) | (simp only [TS] at *; omega))) only [PZ, RZ, gval, gslot, fillL, ovw, numb, catL, ldN, agL, okC, oneC, init, Nat.reduceAdd, Nat.reduceMul, Nat.reduceSub, Nat.reduceEqDiff, Nat.reduceLT, ↓reduceIte, Int.reduceToNat, Int.reduceAdd, Int.reduceSub, Int.reduceMul, Int.reduceLT, Int.reduceLE, Int.reduceEq, Nat.reduceLeDiff]
  refine Res.use (paWord_any h.pk hT) (fun nm a1 w1 e1 k1 p1 => ?_) (fun e L w1 e1 k1 => ?_); rotate_left
  · obtain ⟨q1, rfl, rfl⟩ := wordT_err e1
    rw [if_pos q1] at hr
    exact ResG.err hr.symm (h.keptB k1 (by simpa using hbg))
  obtain ⟨q1, rfl, q3⟩ := wordT_ok e1
  obtain ⟨l1, n1⟩ := nx_at hT hlt (by omega)
  rw [if_neg (fun h => h q1), n1] at hr
  rw [n1] at q3
  obtain rfl : a1 = a + 1 := drop_same q3.symm p1.lt l1
  have h1 := h.leaf k1 p1 (by omega)
  have K1 := h.keptB k1 (by simpa using hbg)
  generalize (hdT (T.drop a)).text = nm at *
  clear e1
  try simp +contextual (maxSteps := 2000000) (disch := (first | omega | (simp only [SZ]; done) | (simp only [SZ]; omega) | (simp only [TS] at *; omega))) only [PZ, RZ, gval, gslot, fillL, ovw, numb, catL, ldN, agL, okC, oneC, init, Nat.reduceAdd, Nat.reduceMul, Nat.reduceSub, Nat.reduceEqDiff, Nat.reduceLT, ↓reduceIte, Int.reduceToNat, Int.reduceAdd, Int.reduceSub, Int.reduceMul, Int.reduceLT, Int.reduceLE, Int.reduceEq, Nat.reduceLeDiff]
  have h2 := h1.below (below_alloc w1 (.cells #[Value.string nm, .int .i64 0, .int .i64 0, .slice none 0 0, .int .i64 0, .slice none 0 0] 43))
  have K2 := K1.trans ((below_alloc w1 (.cells #[Value.string nm, .int .i64 0, .int .i64 0, .slice none 0 0, .int .i64 0, .slice none 0 0] 43)).mono (by have := h1.pk.row.lt; omega))
  have r2 := Row.new w1 43 [Value.string nm, .int .i64 0, .int .i64 0, .slice none 0 0, .int .i64 0, .slice none 0 0]
  replace r2 : Row (w1.alloc (.cells #[Value.string nm, .int .i64 0, .int .i64 0, .slice none 0 0, .int .i64 0, .slice none 0 0] 43)) _ _ _ := r2
  have hgl : g < w1.heap.size := h1.pk.row.lt
  generalize hga : w1.heap.size = ga at *
  generalize w1.alloc (.cells #[Value.string nm, .int .i64 0, .int .i64 0, .slice none 0 0, .int .i64 0, .slice none 0 0] 43) = w2 at *
  refine Res.use (paTake_any 1 h2.pk hT) (fun t a2 w3 e3 k3 p3 => ?_) (fun e L w3 e3 k3 => ?_); rotate_left
  · obtain ⟨q1, rfl, rfl⟩ := takeT_err e3
    rw [if_pos q1] at hr
    exact ResG.err hr.symm (K2.trans (h2.keptB k3 (by simpa using hbg)))
  obtain ⟨u1, ht, u3⟩ := takeT_ok e3
  obtain ⟨l2, n2⟩ := nx_at hT l1 (by omega)
  rw [if_neg (fun h => h u1), n2] at hr
  rw [n2] at u3
  obtain rfl : a2 = a + 1 + 1 := drop_same u3.symm p3.lt l2
  have h3 := h2.leaf k3 p3 (by omega)
  have K3 := K2.trans (h2.keptB k3 (by simpa using hbg))
  have r3 := r2.kept k3 (by simp; omega)
  rw [← ht] at hr u1
  have hlnT : (hdT (T.drop (a + 1))).line = t.line := by rw [← ht]
  clear e3 ht
  rw [show (encTk t).toArray = #[.int .i64 t.kind, .int .i64 t.line, .int .i64 t.col, .string t.text] from rfl]
  try simp +contextual (maxSteps := 2000000) (disch := (first | omega | (simp only [SZ]; done) | (simp only [SZ]; omega) | (simp only [TS] at *; omega))) only [PZ, RZ, gval, gslot, fillL, ovw, numb, catL, ldN, agL, okC, oneC, init, Nat.reduceAdd, Nat.reduceMul, Nat.reduceSub, Nat.reduceEqDiff, Nat.reduceLT, ↓reduceIte, Int.reduceToNat, Int.reduceAdd, Int.reduceSub, Int.reduceMul, Int.reduceLT, Int.reduceLE, Int.reduceEq, Nat.reduceLeDiff]
  have h4 := h3.below (below_alloc w3 (.cells #[Value.int .i64 t.kind, .int .i64 t.line, .int .i64 t.col, .string t.text] 38))
  have K4 := K3.trans ((below_alloc w3 (.cells #[Value.int .i64 t.kind, .int .i64 t.line, .int .i64 t.col, .string t.text] 38)).mono (by have := h3.pk.row.lt; omega))
  have r4 := r3.alloc (.cells #[Value.int .i64 t.kind, .int .i64 t.line, .int .i64 t.col, .string t.text] 38)
  have q4 := Row.new w3 38 [Value.int .i64 t.kind, .int .i64 t.line, .int .i64 t.col, .string t.text]
  replace q4 : Row (w3.alloc (.cells #[Value.int .i64 t.kind, .int .i64 t.line, .int .i64 t.col, .string t.text] 38)) _ _ _ := q4
  generalize w3.alloc (.cells #[Value.int .i64 t.kind, .int .i64 t.line, .int .i64 t.col, .string t.text] 38) = w4 at *
  have c0 := q4.cell (i := 0) rfl
  have c1 := q4.cell (i := 1) rfl
  have c2 := q4.cell (i := 2) rfl
  have c3 := q4.cell (i := 3) rfl
  try simp +contextual (maxSteps := 2000000) (disch := (first | omega | (simp only [SZ]; done) | (simp only [SZ]; omega) | (simp only [TS] at *; omega))) only [PZ, RZ, gval, gslot, fillL, ovw, numb, catL, ldN, agL, okC, oneC, init, Nat.reduceAdd, Nat.reduceMul, Nat.reduceSub, Nat.reduceEqDiff, Nat.reduceLT, ↓reduceIte, Int.reduceToNat, Int.reduceAdd, Int.reduceSub, Int.reduceMul, Int.reduceLT, Int.reduceLE, Int.reduceEq, Nat.reduceLeDiff,  c3]
  have hf : bs ⟨#[102, 97, 99, 116, 111, 114]⟩ = asc "factor" := by decide +kernel
  have hs : bs ⟨#[115, 101, 114, 105, 97, 108]⟩ = asc "serial" := by decide +kernel
  refine WX_joinX (fun σ w5 => ∃ (x : Ad) (a3 : Nat) (cs : List Value), r = .ok (({ G with addons := G.addons ++ [x] }, seen), T.drop a3) ∧ a < a3 ∧ σ 0 = .pointer (some ⟨g, 0, none⟩) ∧ σ 2 = .pointer (some ⟨ga, 0, none⟩) ∧ Row w5 ga 43 cs ∧ AdC (IntsT base w5) cs x ∧ GmSt w5 base g gs A c T a3 G seen Va Vt Vs ∧ Below base w w5)
    (fun ch w5 => ResG base g gs A c T w r (.panicked ch) w5) ?_ (fun _ _ _ h => h) ?_
  · rintro σ w5 ⟨x, a3, cs, hrx, ha3, f0, f2, r5, hx, h5, K5⟩
    have hgl5 := h5.pk.row.lt
    have hra := r5.lt
    have hlt5 := h5.pk.lt
    have hva : ∀ b, Va.ownBlock = some b → b < ga := fun b hb => by have := (owns_ge h1.own hb).2; omega
    obtain ⟨vf, vs, rfl, hx1, hx2⟩ := hx
    obtain ⟨Aa, na, ca, hVa, hna⟩ : ∃ Aa na ca, Va = .slice Aa na ca ∧ na = G.addons.length := by
      rcases h5.own.2 with ⟨hv, h0⟩ | ⟨g', cap, cur, hv, _⟩
      · exact ⟨none, 0, 0, hv, h0.symm⟩
      · exact ⟨_, _, _, hv, rfl⟩
    subst hVa hna
    have hI : sliceI Tryd.prog 22 = some (43, 6, 88) := by kernel_rfl
    have p23 := h5.pk.row.cell (i := 23) rfl
    have p23z := h5.pk.row.frozen 23
    have x0 := r5.cell (i := 0) rfl
    have x1 := r5.cell (i := 1) rfl
    have x2 := r5.cell (i := 2) rfl
    have x3 := r5.cell (i := 3) rfl
    have x4 := r5.cell (i := 4) rfl
    have x5 := r5.cell (i := 5) rfl
    try simp +contextual (maxSteps := 2000000) (disch := (first | omega | (simp only [SZ]; done) | (simp only [SZ]; omega) | (simp only [TS] at *; omega))) only [PZ, RZ, gval, gslot, fillL, ovw, numb, catL, ldN, agL, okC, oneC, init, Nat.reduceAdd, Nat.reduceMul, Nat.reduceSub, Nat.reduceEqDiff, Nat.reduceLT, ↓reduceIte, Int.reduceToNat, Int.reduceAdd, Int.reduceSub, Int.reduceMul, Int.reduceLT, Int.reduceLE, Int.reduceEq, Nat.reduceLeDiff]
    refine RawD_np (Raw_ordX [1, 2, 3, 4, 5, 6, 7] (fun w' => w'.cell? ⟨g, 23, none⟩ = some (.slice Aa G.addons.length ca) ∧ Row w' ga 43 [.string x.name, .int .i64 x.kind, .int .i64 x.price, vf, .int .i64 x.digits, vs]) 13 rfl MX ?_)
    have h6 := h5.leaf (w' := w5.drew) (Kept.refl [g] w5).drew (h5.pk.kept (X := []) (Kept.refl [] w5).drew (by simp) (by simp)) (Nat.le_refl _)
    have K6 : Below base w w5.drew := below_drew K5
    have r6 : Row w5.drew ga 43 _ := r5
    have d23 : w5.drew.cell? _ = _ := p23
    have d23z : w5.drew.frozen? ⟨g, 23, none⟩ = false := p23z
    have hx1' := hx1.kt (KT.of_kept (Kept.refl [] w5).drew) (by simp)
    have hx2' := hx2.kt (KT.of_kept (Kept.refl [] w5).drew) (by simp)
    have hgl6 : g < w5.drew.heap.size := hgl5
    have hra6 : ga < w5.drew.heap.size := hra
    generalize w5.drew = w6 at *
    have hvf1 : vf.oneCell' = true := by obtain ⟨_, _, e, _⟩ := hx1; rw [e]; rfl
    have hvs1 : vs.oneCell' = true := by obtain ⟨_, _, e, _⟩ := hx2; rw [e]; rfl
    obtain ⟨A', c', w7, he, hown7, hb7, hs7, hk7⟩ := push2 (P := Tryd.prog) (T2 := 22) (ty := 22) (news := [.string x.name, .int .i64 x.kind, .int .i64 x.price, vf, .int .i64 x.digits, vs]) h6.own (by omega) hI rfl
      (fun u hu => by simp only [List.mem_cons, List.not_mem_nil, or_false] at hu; rcases hu with rfl | rfl | rfl | rfl | rfl | rfl <;> first | rfl | assumption) (by have := h6.fewA; omega) (by decide)
    refine OrdX_readsU (τ := ?tz) [0] 12 rfl (by kernel_rfl) (by kernel_rfl) (by kernel_rfl) noP_pan (fun w' => ?_) ?_; rotate_left
    · simp only [opsL_cons, opsL_nil, List.getElem?_toArray, List.getElem?_cons_zero, List.getElem?_cons_succ, optL_some]
      simp +contextual (maxSteps := 2000000) (disch := (first | omega | (simp only [SZ]; done) | (simp only [SZ]; omega) | (simp only [TS] at *; omega))) only [RZ, gval, gslot, fillL, ovw, numb, catL, ldN, agL, okC, oneC, init, Nat.reduceAdd, Nat.reduceMul, Nat.reduceSub, Nat.reduceEqDiff, Nat.reduceLT, ↓reduceIte, Int.reduceToNat, Int.reduceAdd, Int.reduceSub, Int.reduceMul, Int.reduceLT, Int.reduceLE, Int.reduceEq, Nat.reduceLeDiff,  f0]
      exact rfl
    refine OrdX_reads (τ := ?ta) [1, 2, 3, 4, 5, 6] 6 rfl (by kernel_rfl) (by kernel_rfl) noP_pan ⟨d23, r6⟩ (fun w8 h8 => ?_) ?_; rotate_left
    · obtain ⟨h8a, h8r⟩ := h8
      have x0 := h8r.cell (i := 0) rfl
      have x1 := h8r.cell (i := 1) rfl
      have x2 := h8r.cell (i := 2) rfl
      have x3 := h8r.cell (i := 3) rfl
      have x4 := h8r.cell (i := 4) rfl
      have x5 := h8r.cell (i := 5) rfl
      simp only [opsL_cons, opsL_nil, List.getElem?_toArray, List.getElem?_cons_zero, List.getElem?_cons_succ, optL_some]
      simp +contextual (maxSteps := 2000000) (disch := (first | omega | (simp only [SZ]; done) | (simp only [SZ]; omega) | (simp only [TS] at *; omega))) only [RZ, gval, gslot, fillL, ovw, numb, catL, ldN, agL, okC, oneC, init, Nat.reduceAdd, Nat.reduceMul, Nat.reduceSub, Nat.reduceEqDiff, Nat.reduceLT, ↓reduceIte, Int.reduceToNat, Int.reduceAdd, Int.reduceSub, Int.reduceMul, Int.reduceLT, Int.reduceLE, Int.reduceEq, Nat.reduceLeDiff,  f0, f2, h8a, x0, x1, x2, x3, x4, x5]
      exact rfl
    refine OrdX_one 7 (by kernel_rfl) rfl ?_
    simp +contextual (maxSteps := 2000000) (disch := (first | omega | (simp only [SZ]; done) | (simp only [SZ]; omega) | (simp only [TS] at *; omega))) only [RZ, gval, gslot, fillL, ovw, numb, catL, ldN, agL, okC, oneC, init, Nat.reduceAdd, Nat.reduceMul, Nat.reduceSub, Nat.reduceEqDiff, Nat.reduceLT, ↓reduceIte, Int.reduceToNat, Int.reduceAdd, Int.reduceSub, Int.reduceMul, Int.reduceLT, Int.reduceLE, Int.reduceEq, Nat.reduceLeDiff]
    refine ⟨⟨d23, r6.alloc _⟩, ?_⟩
    refine OrdX_chain [8, 9, 10, 11, 12] _ _ _ (by kernel_rfl) (by kernel_rfl) ?_
    simp only [opsL_cons, opsL_nil, List.getElem?_toArray, List.getElem?_cons_zero, List.getElem?_cons_succ, optL_some]
    have hb7g := hk7 g hgl6 (own_ne h6.own h6.pk.row (by decide))
    have d7 : w7.cell? ⟨g, 23, none⟩ = some (.slice Aa G.addons.length ca) := (World.cell?_of_block (w := w6) hb7g).trans d23
    have y7 : w7.frozen? ⟨g, 23, none⟩ = false := (World.frozen?_of_block (w := w6) hb7g).trans d23z
    simp +contextual (maxSteps := 2000000) (disch := (first | omega | (simp only [SZ]; done) | (simp only [SZ]; omega) | (simp only [TS] at *; omega))) only [RZ, gval, gslot, fillL, ovw, numb, catL, ldN, agL, okC, oneC, init, Nat.reduceAdd, Nat.reduceMul, Nat.reduceSub, Nat.reduceEqDiff, Nat.reduceLT, ↓reduceIte, Int.reduceToNat, Int.reduceAdd, Int.reduceSub, Int.reduceMul, Int.reduceLT, Int.reduceLE, Int.reduceEq, Nat.reduceLeDiff,  f0, f2, he, d7, y7]
    have hR7 := h6.pk.row.of_block hb7g
    have hS7 : SeenIn w7 gs seen := by
      obtain ⟨l, clk, hl, hk⟩ := h6.sn
      exact ⟨l, clk, (hk7 gs (Array.getElem?_eq_some_iff.1 hl).1 (own_ne_seen h6.own h6.sn)).trans hl, hk⟩
    have hI7 : ∀ {v : Value} {L : List Int}, IntsT base w6 v L → IntsT base (w7.setCell ⟨g, 23, none⟩ (.slice A' (G.addons.length + 1) c')) v L := fun hv => hv.of_blocks fun b cs hr => by
      have hbg : b ≠ g := fun e => by subst e; obtain ⟨cur, hc, _⟩ := hr; exact not_int_parser h6.pk.row _ hc _ _ rfl
      rw [Below.heap_setCell _ _ _ _ (by exact hbg)]
      exact hk7 b hr.lt (own_ne h6.own hr (by decide))
    refine ResG.ok (Va := .slice A' (G.addons.length + 1) c') (Vt := Vt) (Vs := Vs ++ [[.string x.name, .int .i64 x.kind, .int .i64 x.price, vf, .int .i64 x.digits, vs]]) hrx ((K6.trans hb7).setCell (p := ⟨g, 23, none⟩) hbg _) ?_
    refine ⟨?_, ?_, ?_, ?_, ?_, ?_, ?_, h6.days, h6.toks, h6.hg⟩
    · refine ⟨h6.pk.lt, ?_, h6.pk.off, hR7.set_ (i := 23) (by simp [gmV]) _⟩
      have hkt : Kept [g] w6 w6 := Kept.refl _ _
      intro hn
      obtain ⟨b, o, e, hb, hc⟩ := h6.pk.arr hn
      have hbb := h6.toks b o e
      refine ⟨b, o, e, by simp; omega, fun i l hl j v hv => ?_⟩
      have hne : b ≠ g := by omega
      rw [World.cell?_of_block (w := w7) (Below.heap_setCell _ _ _ _ (by exact hne)), World.cell?_of_block (w := w6) (hb7.block b hbb)]
      exact hc i l hl j v hv
    · obtain ⟨l, clk, hl, hk⟩ := hS7
      exact ⟨l, clk, (Below.heap_setCell _ _ _ _ (by exact hne)).trans hl, hk⟩
    · exact (h6.ads.mono fun v L hv => hI7 hv).snoc ⟨vf, vs, rfl, hI7 hx1', hI7 hx2'⟩
    · have := owns_keep (w' := w7.setCell ⟨g, 23, none⟩ (.slice A' (G.addons.length + 1) c')) hown7 (fun b hb => Below.heap_setCell _ _ _ _ (by
        intro e
        rw [show b = g from e] at hb
        exact own_ne hown7 hR7 (by decide) hb))
      rw [List.length_append, List.flatten_append]
      simpa using this
    · refine owns_keep h6.tis fun b hb => ?_
      have hbg : b ≠ g := fun e => own_ne h6.tis h6.pk.row (by decide) (e ▸ hb)
      rw [Below.heap_setCell _ _ _ _ (by exact hbg)]
      exact hk7 b (owns_ge h6.tis hb).2 (own_ne_own h6.own h6.tis (by decide) hb)
    · rw [List.length_append]; have := h.fewA; simp; omega
    · exact h6.fewT
  · have hgn : g ≠ ga := by omega
    have hgsl := h1.sn.lt
    have hva : Va.ownBlock ≠ some ga := fun hb => by have := (owns_ge h1.own hb).2; omega
    have hvt : Vt.ownBlock ≠ some ga := fun hb => by have := (owns_ge h1.tis hb).2; omega
    by_cases hx : t.text = ⟨#[102, 97, 99, 116, 111, 114]⟩
    · have e1 : (t.text = ⟨#[102, 97, 99, 116, 111, 114]⟩) = True := eq_true hx
      rw [hx, hf, if_pos rfl] at hr
      simp +contextual (maxSteps := 2000000) (disch := (first | omega | (simp only [SZ]; done) | (simp only [SZ]; omega) | (simp only [TS] at *; omega))) only [PZ, RZ, gval, gslot, fillL, ovw, numb, catL, ldN, agL, okC, oneC, init, Nat.reduceAdd, Nat.reduceMul, Nat.reduceSub, Nat.reduceEqDiff, Nat.reduceLT, ↓reduceIte, Int.reduceToNat, Int.reduceAdd, Int.reduceSub, Int.reduceMul, Int.reduceLT, Int.reduceLE, Int.reduceEq, Nat.reduceLeDiff,  e1]
      refine WX_if_t rfl ?_
      have z1 := r4.cell (i := 1) rfl
      have z1z := r4.frozen 1
      simp +contextual (maxSteps := 2000000) (disch := (first | omega | (simp only [SZ]; done) | (simp only [SZ]; omega) | (simp only [TS] at *; omega))) only [PZ, RZ, gval, gslot, fillL, ovw, numb, catL, ldN, agL, okC, oneC, init, Nat.reduceAdd, Nat.reduceMul, Nat.reduceSub, Nat.reduceEqDiff, Nat.reduceLT, ↓reduceIte, Int.reduceToNat, Int.reduceAdd, Int.reduceSub, Int.reduceMul, Int.reduceLT, Int.reduceLE, Int.reduceEq, Nat.reduceLeDiff,  z1, z1z]
      obtain ⟨h5, K5, r5⟩ := stSet (v := .int .i64 1) (i := 1) h4 K4 r4 (by decide) (by omega) (by omega) (by omega) hva hvt (by simp)
      replace r5 : Row (w4.setCell ⟨ga, 1, none⟩ (.int .i64 1)) ga 43 [Value.string nm, .int .i64 1, .int .i64 0, .slice none 0 0, .int .i64 0, .slice none 0 0] := r5
      generalize w4.setCell ⟨ga, 1, none⟩ (.int .i64 1) = w5 at *
      refine Res.use (paAny_any h5.pk hT) (fun x1 a6 w6 e6 k6 p6 => ?_) (fun e L w6 e6 k6 => ?_); rotate_left
      · obtain ⟨q, rfl, rfl⟩ := anyT_err e6
        rw [q] at hr
        exact ResG.err hr.symm (K5.trans (h5.keptB k6 (by simpa using hbg)))
      have q6 := anyT_ok e6
      rw [q6] at hr
      dsimp only [thenT] at hr
      have m6 := drop_mono (num_len q6) rfl p6.lt h5.pk.lt
      have h6 := h5.leaf k6 p6 m6
      have K6 := K5.trans (h5.keptB k6 (by simpa using hbg))
      have r6 := r5.kept k6 (by simp; omega)
      have z2 := r6.cell (i := 2) rfl
      have z2z := r6.frozen 2
      try simp +contextual (maxSteps := 2000000) (disch := (first | omega | (simp only [SZ]; done) | (simp only [SZ]; omega) | (simp only [TS] at *; omega))) only [PZ, RZ, gval, gslot, fillL, ovw, numb, catL, ldN, agL, okC, oneC, init, Nat.reduceAdd, Nat.reduceMul, Nat.reduceSub, Nat.reduceEqDiff, Nat.reduceLT, ↓reduceIte, Int.reduceToNat, Int.reduceAdd, Int.reduceSub, Int.reduceMul, Int.reduceLT, Int.reduceLE, Int.reduceEq, Nat.reduceLeDiff,  z2, z2z]
      obtain ⟨h7, K7, r7⟩ := stSet (v := .int .i64 x1) (i := 2) h6 K6 r6 (by decide) (by omega) (by omega) (by omega) hva hvt (by simp)
      replace r7 : Row (w6.setCell ⟨ga, 2, none⟩ (.int .i64 x1)) ga 43 [Value.string nm, .int .i64 1, .int .i64 x1, .slice none 0 0, .int .i64 0, .slice none 0 0] := r7
      generalize w6.setCell ⟨ga, 2, none⟩ (.int .i64 x1) = w7 at *
      refine (paNumbers_any h7.pk hT).mono ?_
      rintro e w8 ⟨k8, A8, c8, a8, rfl, q8, p8, o8⟩
      generalize hZ : numsT (T.drop a6).length (T.drop a6) = Z at *
      have m8 := drop_mono (T := T) (a := a6) (L := Z.2) (by rw [← hZ]; exact nums_len _ _) q8 p8.lt h7.pk.lt
      rw [q8] at hr
      have h8 := h7.leaf k8 p8 m8
      have K8 := K7.trans (h7.keptB k8 (by simpa using hbg))
      have r8 := r7.kept k8 (by simp; omega)
      have i8 := IntsT.of_owns (lo := base) o8 (by have := h7.pk.row.lt; omega)
      have z3 := r8.cell (i := 3) rfl
      have z3z := r8.frozen 3
      simp +contextual (maxSteps := 2000000) (disch := (first | omega | (simp only [SZ]; done) | (simp only [SZ]; omega) | (simp only [TS] at *; omega))) only [PZ, RZ, gval, gslot, fillL, ovw, numb, catL, ldN, agL, okC, oneC, init, Nat.reduceAdd, Nat.reduceMul, Nat.reduceSub, Nat.reduceEqDiff, Nat.reduceLT, ↓reduceIte, Int.reduceToNat, Int.reduceAdd, Int.reduceSub, Int.reduceMul, Int.reduceLT, Int.reduceLE, Int.reduceEq, Nat.reduceLeDiff,  z3, z3z]
      obtain ⟨h9, K9, r9⟩ := stSet (v := .slice A8 Z.1.length c8) (i := 3) h8 K8 r8 (by decide) (by omega) (by omega) (by omega) hva hvt (by simp)
      have i9 := i8.of_blocks (w' := w8.setCell ⟨ga, 3, none⟩ (.slice A8 Z.1.length c8)) (fun b cs hb => Below.heap_setCell _ _ _ _ (by
        intro e
        have e : b = ga := e
        subst e
        obtain ⟨c1, e1, _⟩ := r8
        obtain ⟨c2, e2, _⟩ := hb
        rw [e1] at e2
        injection e2 with e2
        injection e2 with _ e2
        exact absurd e2 (by decide)))
      exact ⟨_, a8, _, hr.symm, by omega, r9, ⟨_, _, rfl, i9, IntsT.nil _⟩, h9, K9⟩
    · have e1 : (t.text = ⟨#[102, 97, 99, 116, 111, 114]⟩) = False := eq_false hx
      rw [if_neg (fun h => hx (bs_inj (h.trans hf.symm)))] at hr
      simp +contextual (maxSteps := 2000000) (disch := (first | omega | (simp only [SZ]; done) | (simp only [SZ]; omega) | (simp only [TS] at *; omega))) only [PZ, RZ, gval, gslot, fillL, ovw, numb, catL, ldN, agL, okC, oneC, init, Nat.reduceAdd, Nat.reduceMul, Nat.reduceSub, Nat.reduceEqDiff, Nat.reduceLT, ↓reduceIte, Int.reduceToNat, Int.reduceAdd, Int.reduceSub, Int.reduceMul, Int.reduceLT, Int.reduceLE, Int.reduceEq, Nat.reduceLeDiff,  e1]
      refine WX_if_f rfl ?_
      by_cases hy : t.text = ⟨#[115, 101, 114, 105, 97, 108]⟩
      · have e2 : (t.text = ⟨#[115, 101, 114, 105, 97, 108]⟩) = True := eq_true hy
        rw [hy, hs, if_pos rfl] at hr
        simp +contextual (maxSteps := 2000000) (disch := (first | omega | (simp only [SZ]; done) | (simp only [SZ]; omega) | (simp only [TS] at *; omega))) only [PZ, RZ, gval, gslot, fillL, ovw, numb, catL, ldN, agL, okC, oneC, init, Nat.reduceAdd, Nat.reduceMul, Nat.reduceSub, Nat.reduceEqDiff, Nat.reduceLT, ↓reduceIte, Int.reduceToNat, Int.reduceAdd, Int.reduceSub, Int.reduceMul, Int.reduceLT, Int.reduceLE, Int.reduceEq, Nat.reduceLeDiff,  e2]
        refine WX_if_t rfl ?_
        have z1 := r4.cell (i := 1) rfl
        have z1z := r4.frozen 1
        simp +contextual (maxSteps := 2000000) (disch := (first | omega | (simp only [SZ]; done) | (simp only [SZ]; omega) | (simp only [TS] at *; omega))) only [PZ, RZ, gval, gslot, fillL, ovw, numb, catL, ldN, agL, okC, oneC, init, Nat.reduceAdd, Nat.reduceMul, Nat.reduceSub, Nat.reduceEqDiff, Nat.reduceLT, ↓reduceIte, Int.reduceToNat, Int.reduceAdd, Int.reduceSub, Int.reduceMul, Int.reduceLT, Int.reduceLE, Int.reduceEq, Nat.reduceLeDiff,  z1, z1z]
        obtain ⟨h5, K5, r5⟩ := stSet (v := .int .i64 2) (i := 1) h4 K4 r4 (by decide) (by omega) (by omega) (by omega) hva hvt (by simp)
        replace r5 : Row (w4.setCell ⟨ga, 1, none⟩ (.int .i64 2)) ga 43 [Value.string nm, .int .i64 2, .int .i64 0, .slice none 0 0, .int .i64 0, .slice none 0 0] := r5
        generalize w4.setCell ⟨ga, 1, none⟩ (.int .i64 2) = w5 at *
        refine Res.use (paAny_any h5.pk hT) (fun x1 a6 w6 e6 k6 p6 => ?_) (fun e L w6 e6 k6 => ?_); rotate_left
        · obtain ⟨q, rfl, rfl⟩ := anyT_err e6
          rw [q] at hr
          exact ResG.err hr.symm (K5.trans (h5.keptB k6 (by simpa using hbg)))
        have q6 := anyT_ok e6
        rw [q6] at hr
        dsimp only [thenT] at hr
        have m6 := drop_mono (num_len q6) rfl p6.lt h5.pk.lt
        have h6 := h5.leaf k6 p6 m6
        have K6 := K5.trans (h5.keptB k6 (by simpa using hbg))
        have r6 := r5.kept k6 (by simp; omega)
        have z2 := r6.cell (i := 2) rfl
        have z2z := r6.frozen 2
        try simp +contextual (maxSteps := 2000000) (disch := (first | omega | (simp only [SZ]; done) | (simp only [SZ]; omega) | (simp only [TS] at *; omega))) only [PZ, RZ, gval, gslot, fillL, ovw, numb, catL, ldN, agL, okC, oneC, init, Nat.reduceAdd, Nat.reduceMul, Nat.reduceSub, Nat.reduceEqDiff, Nat.reduceLT, ↓reduceIte, Int.reduceToNat, Int.reduceAdd, Int.reduceSub, Int.reduceMul, Int.reduceLT, Int.reduceLE, Int.reduceEq, Nat.reduceLeDiff,  z2, z2z]
        obtain ⟨h7, K7, r7⟩ := stSet (v := .int .i64 x1) (i := 2) h6 K6 r6 (by decide) (by omega) (by omega) (by omega) hva hvt (by simp)
        replace r7 : Row (w6.setCell ⟨ga, 2, none⟩ (.int .i64 x1)) ga 43 [Value.string nm, .int .i64 2, .int .i64 x1, .slice none 0 0, .int .i64 0, .slice none 0 0] := r7
        generalize w6.setCell ⟨ga, 2, none⟩ (.int .i64 x1) = w7 at *
        refine Res.use (paAny_any h7.pk hT) (fun x2 a8 w8 e8 k8 p8 => ?_) (fun e L w8 e8 k8 => ?_); rotate_left
        · obtain ⟨q, rfl, rfl⟩ := anyT_err e8
          rw [q] at hr
          exact ResG.err hr.symm (K7.trans (h7.keptB k8 (by simpa using hbg)))
        have q8 := anyT_ok e8
        rw [q8] at hr
        dsimp only at hr
        have m8 := drop_mono (num_len q8) rfl p8.lt h7.pk.lt
        have h8 := h7.leaf k8 p8 m8
        have K8 := K7.trans (h7.keptB k8 (by simpa using hbg))
        have r8 := r7.kept k8 (by simp; omega)
        have z4 := r8.cell (i := 4) rfl
        have z4z := r8.frozen 4
        try simp +contextual (maxSteps := 2000000) (disch := (first | omega | (simp only [SZ]; done) | (simp only [SZ]; omega) | (simp only [TS] at *; omega))) only [PZ, RZ, gval, gslot, fillL, ovw, numb, catL, ldN, agL, okC, oneC, init, Nat.reduceAdd, Nat.reduceMul, Nat.reduceSub, Nat.reduceEqDiff, Nat.reduceLT, ↓reduceIte, Int.reduceToNat, Int.reduceAdd, Int.reduceSub, Int.reduceMul, Int.reduceLT, Int.reduceLE, Int.reduceEq, Nat.reduceLeDiff,  z4, z4z]
        obtain ⟨h9, K9, r9⟩ := stSet (v := .int .i64 x2) (i := 4) h8 K8 r8 (by decide) (by omega) (by omega) (by omega) hva hvt (by simp)
        replace r9 : Row (w8.setCell ⟨ga, 4, none⟩ (.int .i64 x2)) ga 43 [Value.string nm, .int .i64 2, .int .i64 x1, .slice none 0 0, .int .i64 x2, .slice none 0 0] := r9
        generalize w8.setCell ⟨ga, 4, none⟩ (.int .i64 x2) = w9 at *
        refine (paNumbers_any h9.pk hT).mono ?_
        rintro e w10 ⟨k10, A10, c10, a10, rfl, q10, p10, o10⟩
        generalize hZ : numsT (T.drop a8).length (T.drop a8) = Z at *
        have m10 := drop_mono (T := T) (a := a8) (L := Z.2) (by rw [← hZ]; exact nums_len _ _) q10 p10.lt h9.pk.lt
        rw [q10] at hr
        have h10 := h9.leaf k10 p10 m10
        have K10 := K9.trans (h9.keptB k10 (by simpa using hbg))
        have r10 := r9.kept k10 (by simp; omega)
        have i10 := IntsT.of_owns (lo := base) o10 (by have := h9.pk.row.lt; omega)
        have z5 := r10.cell (i := 5) rfl
        have z5z := r10.frozen 5
        simp +contextual (maxSteps := 2000000) (disch := (first | omega | (simp only [SZ]; done) | (simp only [SZ]; omega) | (simp only [TS] at *; omega))) only [PZ, RZ, gval, gslot, fillL, ovw, numb, catL, ldN, agL, okC, oneC, init, Nat.reduceAdd, Nat.reduceMul, Nat.reduceSub, Nat.reduceEqDiff, Nat.reduceLT, ↓reduceIte, Int.reduceToNat, Int.reduceAdd, Int.reduceSub, Int.reduceMul, Int.reduceLT, Int.reduceLE, Int.reduceEq, Nat.reduceLeDiff,  z5, z5z]
        obtain ⟨h11, K11, r11⟩ := stSet (v := .slice A10 Z.1.length c10) (i := 5) h10 K10 r10 (by decide) (by omega) (by omega) (by omega) hva hvt (by simp)
        have i11 := i10.of_blocks (w' := w10.setCell ⟨ga, 5, none⟩ (.slice A10 Z.1.length c10)) (fun b cs hb => Below.heap_setCell _ _ _ _ (by
          intro e
          have e : b = ga := e
          subst e
          obtain ⟨c1, e1, _⟩ := r10
          obtain ⟨c2, e2, _⟩ := hb
          rw [e1] at e2
          injection e2 with e2
          injection e2 with _ e2
          exact absurd e2 (by decide)))
        exact ⟨_, a10, _, hr.symm, by omega, r11, ⟨_, _, rfl, IntsT.nil _, i11⟩, h11, K11⟩
      · have e2 : (t.text = ⟨#[115, 101, 114, 105, 97, 108]⟩) = False := eq_false hy
        rw [if_neg (fun h => hy (bs_inj (h.trans hs.symm)))] at hr
        simp +contextual (maxSteps := 2000000) (disch := (first | omega | (simp only [SZ]; done) | (simp only [SZ]; omega) | (simp only [TS] at *; omega))) only [PZ, RZ, gval, gslot, fillL, ovw, numb, catL, ldN, agL, okC, oneC, init, Nat.reduceAdd, Nat.reduceMul, Nat.reduceSub, Nat.reduceEqDiff, Nat.reduceLT, ↓reduceIte, Int.reduceToNat, Int.reduceAdd, Int.reduceSub, Int.reduceMul, Int.reduceLT, Int.reduceLE, Int.reduceEq, Nat.reduceLeDiff,  e2]
        refine WX_if_f rfl ?_
        simp +contextual (maxSteps := 2000000) (disch := (first | omega | (simp only [SZ]; done) | (simp only [SZ]; omega) | (simp only [TS] at *; omega))) only [PZ, RZ, gval, gslot, fillL, ovw, numb, catL, ldN, agL, okC, oneC, init, Nat.reduceAdd, Nat.reduceMul, Nat.reduceSub, Nat.reduceEqDiff, Nat.reduceLT, ↓reduceIte, Int.reduceToNat, Int.reduceAdd, Int.reduceSub, Int.reduceMul, Int.reduceLT, Int.reduceLE, Int.reduceEq, Nat.reduceLeDiff,  c0, c1, c2, c3]
        refine (paFail_any g 1 t w4).mono ?_
        rintro e w5 ⟨rfl, hB5⟩
        rw [Ends_pan]
        have := ResG.err (base := base) (g := g) (gs := gs) (A := A) (c := c) (T := T) hr.symm (K4.trans (hB5.mono (by have := h4.pk.row.lt; omega)))
        rw [hlnT] at this
        exact this
end
end Go.Proofs.YtbdkggnajipdhaaDoor
