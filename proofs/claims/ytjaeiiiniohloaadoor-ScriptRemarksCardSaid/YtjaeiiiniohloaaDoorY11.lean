/- Texts laid one behind the other: Ord3, PrE, PrF, PrG, SlP, SlA, Row. Each says at its head what it proves. -/
import Derived.Test.YtjaeiiiniohloaaDoorY10
import Derived.ProofKit
import Derived.Lib.SmallJoins
import Derived.Deep.Slices
import Derived.Deep.Fields
set_option linter.unusedSimpArgs false
/- Regions that draw their order, where those that write wait for those that read: the pure ones are taken first, at the values that they yield in the world at hand. -/
namespace Go.Proofs.YtjaeiiiniohloaaDoor
open Go.RowKit
section
variable {P : Program} {md : Region.Mode} {ops : Array Oper} {Q : Exit → Act → World → Prop} {pl : List Nat}
/-- Whatever order is picked from here on; the operations of the list pl leave the world as it is. -/
def wpAnyT (P : Program) (md : Region.Mode) (ops : Array Oper) (Q : Exit → Act → World → Prop) (pl : List Nat) : Nat → Array Bool → Act → World → Prop
  | 0, listed, a, w => Region.ready md ops listed = [] ∧ Q .normal a w
  | fuel + 1, listed, a, w =>
    (Region.ready md ops listed = [] → Q .normal a w) ∧
    ∀ i ∈ Region.ready md ops listed, wpOp P ops Q i (fun a' w' => (pl.contains i = true → w' = w) ∧ wpAnyT P md ops Q pl fuel (listed.setIfInBounds i true) a' w') a w
theorem wpAny_of_T : ∀ (fuel : Nat) (listed : Array Bool) (a : Act) (w : World), wpAnyT P md ops Q pl fuel listed a w → wpAny P md ops Q fuel listed a w
  | 0, _, _, _, h => h
  | fuel + 1, _, _, _, h => ⟨h.1, fun i hi => wpOp_mono (fun a' w' h' => wpAny_of_T fuel _ a' w' h'.2) (h.2 i hi)⟩
theorem wpAnyT_first {i : Nat} {oi : Oper} {v : Value} (hi : ops[i]? = some oi) (hsel : ∀ (j : Nat) (o : Oper) cs b, ops[j]? = some o → o.op ≠ .select cs b)
    (hQ : ∀ c a w, Q (.panic c) (a.put oi.dst v) w → Q (.panic c) a w) :
    ∀ (fuel : Nat) (listed : Array Bool) (a : Act) (w : World),
      (∀ j oj, ops[j]? = some oj → j ≠ i → listed.getD j true = false → (∀ e ∈ oj.after, Region.binds md e = true → e.on ≠ i) → oi.apart ops oj = true ∧ pl.contains j = true) →
      i ∈ Region.ready md ops listed → YieldsIf P ops (fun w' => w' = w) oi v a →
      wpAnyT P md ops Q pl fuel (listed.setIfInBounds i true) (a.put oi.dst v) w → wpAnyT P md ops Q pl (fuel + 1) listed a w := by
  intro fuel
  induction fuel with
  | zero =>
    intro listed a w _ hr hy H
    refine ⟨fun h => (by rw [h] at hr; cases hr), fun j hj => ?_⟩
    by_cases hji : j = i
    · subst hji; exact hy.wpOp hi rfl ⟨fun _ => rfl, H⟩
    · have := ready_mono hj hji
      rw [H.1] at this
      cases this
  | succ fuel ih =>
    intro listed a w hfree hr hy H
    refine ⟨fun h => (by rw [h] at hr; cases hr), fun j hj => ?_⟩
    by_cases hji : j = i
    · subst hji; exact hy.wpOp hi rfl ⟨fun _ => rfl, H⟩
    · have h1 := H.2 j (ready_mono hj hji)
      obtain ⟨hjun, oj, hoj, hall⟩ := mem_ready.1 hj
      have hnot : ∀ e ∈ oj.after, Region.binds md e = true → e.on ≠ i := fun e he hb heq => by
        have h1 := hall e he hb
        have h0 := (mem_ready.1 hr).1
        rw [heq] at h1
        rcases Nat.lt_or_ge i listed.size with h' | h'
        · simp [h'] at h0 h1; rw [h0] at h1; cases h1
        · simp [Array.getElem?_eq_none h'] at h1
      obtain ⟨hap, hpj⟩ := hfree j oj hoj hji hjun hnot
      have h2 := wpOp_putIf hoj hap (fun cs b => hsel i oi cs b hi) (fun cs b => hsel j oj cs b hoj) hQ hy h1
      have hfree' : ∀ k ok, ops[k]? = some ok → k ≠ i → (listed.setIfInBounds j true).getD k true = false →
          (∀ e ∈ ok.after, Region.binds md e = true → e.on ≠ i) → oi.apart ops ok = true ∧ pl.contains k = true := fun k ok hk hki hun hno => by
        refine hfree k ok hk hki ?_ hno
        by_cases hjk : j = k
        · subst hjk; exact hjun
        · rw [getD_set_ne true hjk] at hun; exact hun
      refine wpOp_mono (fun a' w' h3 => ?_) h2
      obtain ⟨h4, h5, h6⟩ := h3
      have hw := h5 hpj
      subst hw
      refine ⟨fun _ => rfl, ih (listed.setIfInBounds j true) a' _ hfree' (ready_mono hr (Ne.symm hji)) h4 ?_⟩
      rw [Array.setIfInBounds_comm _ _ hji]
      exact h6
theorem wpAnyT_firstU {i : Nat} {oi : Oper} {v : Value} (hi : ops[i]? = some oi) (hsel : ∀ (j : Nat) (o : Oper) cs b, ops[j]? = some o → o.op ≠ .select cs b)
    (hQ : ∀ c a w, Q (.panic c) (a.put oi.dst v) w → Q (.panic c) a w) :
    ∀ (fuel : Nat) (listed : Array Bool) (a : Act) (w : World),
      (∀ j oj, ops[j]? = some oj → j ≠ i → listed.getD j true = false → (∀ e ∈ oj.after, Region.binds md e = true → e.on ≠ i) → oi.apart ops oj = true) →
      i ∈ Region.ready md ops listed → YieldsIf P ops (fun _ => True) oi v a →
      wpAnyT P md ops Q pl fuel (listed.setIfInBounds i true) (a.put oi.dst v) w → wpAnyT P md ops Q pl (fuel + 1) listed a w := by
  intro fuel
  induction fuel with
  | zero =>
    intro listed a w _ hr hy H
    refine ⟨fun h => (by rw [h] at hr; cases hr), fun j hj => ?_⟩
    by_cases hji : j = i
    · subst hji; exact hy.wpOp hi trivial ⟨fun _ => rfl, H⟩
    · have := ready_mono hj hji
      rw [H.1] at this
      cases this
  | succ fuel ih =>
    intro listed a w hfree hr hy H
    refine ⟨fun h => (by rw [h] at hr; cases hr), fun j hj => ?_⟩
    by_cases hji : j = i
    · subst hji; exact hy.wpOp hi trivial ⟨fun _ => rfl, H⟩
    · have h1 := H.2 j (ready_mono hj hji)
      obtain ⟨hjun, oj, hoj, hall⟩ := mem_ready.1 hj
      have hnot : ∀ e ∈ oj.after, Region.binds md e = true → e.on ≠ i := fun e he hb heq => by
        have h1 := hall e he hb
        have h0 := (mem_ready.1 hr).1
        rw [heq] at h1
        rcases Nat.lt_or_ge i listed.size with h' | h'
        · simp [h'] at h0 h1; rw [h0] at h1; cases h1
        · simp [Array.getElem?_eq_none h'] at h1
      have h2 := wpOp_putIf hoj (hfree j oj hoj hji hjun hnot) (fun cs b => hsel i oi cs b hi) (fun cs b => hsel j oj cs b hoj) hQ hy h1
      have hfree' : ∀ k ok, ops[k]? = some ok → k ≠ i → (listed.setIfInBounds j true).getD k true = false →
          (∀ e ∈ ok.after, Region.binds md e = true → e.on ≠ i) → oi.apart ops ok = true := fun k ok hk hki hun hno => by
        refine hfree k ok hk hki ?_ hno
        by_cases hjk : j = k
        · subst hjk; exact hjun
        · rw [getD_set_ne true hjk] at hun; exact hun
      refine wpOp_mono (fun a' w' h3 => ?_) h2
      obtain ⟨h4, h5, h6⟩ := h3
      refine ⟨h5, ih (listed.setIfInBounds j true) a' _ hfree' (ready_mono hr (Ne.symm hji)) h4 ?_⟩
      rw [Array.setIfInBounds_comm _ _ hji]
      exact h6
end
section
variable {P : Program} {n : Nat} {ops : Array Oper} {Q : Exit → Sl → World → Prop} {σ : Sl} {w : World} {fuel : Nat} {listed : Array Bool} {pl : List Nat}
def OrdT (P : Program) (n : Nat) (ops : Array Oper) (Q : Exit → Sl → World → Prop) (pl : List Nat) (fuel : Nat) (listed : Array Bool) (σ : Sl) (w : World) : Prop :=
  ∀ a, Fr n σ a → wpAnyT P .any ops (lift n Q) pl fuel listed a w
@[congr] theorem OrdT_congr {σ σ' : Sl} {w w' : World} (h : σ = σ') (h' : w = w') : OrdT P n ops Q pl fuel listed σ w = OrdT P n ops Q pl fuel listed σ' w' := by rw [h, h']
theorem Raw_ordT (pl : List Nat) (m : Nat) (hsz : ops.size = m) {id : Nat} (hm : P.follows .mixedOrders = true) (h : OrdT P n ops Q pl m (Array.replicate m false) σ w.drew) : Raw P n (.region id ops true) Q σ w := by
  intro a hf
  subst hsz
  exact wp_region_any hm (wpAny_of_T _ _ _ _ (h a hf))
/-- Each operation that has not come up waits for i, or is one of the pure ones and apart from it. -/
def freeT (ops : Array Oper) (pl : List Nat) (listed : Array Bool) (i : Nat) : Bool :=
  match ops[i]? with
  | none => false
  | some oi => (List.range ops.size).all fun j => j == i || listed.getD j true || match ops[j]? with
      | some oj => oj.after.any (fun e => Region.binds .any e && e.on == i) || (oi.apart ops oj && pl.contains j)
      | none => true
theorem freeT_spec {i : Nat} {oi : Oper} (hi : ops[i]? = some oi) (h : freeT ops pl listed i = true) (j : Nat) (oj : Oper)
    (hj : ops[j]? = some oj) (hne : j ≠ i) (hun : listed.getD j true = false) (hno : ∀ e ∈ oj.after, Region.binds .any e = true → e.on ≠ i) : oi.apart ops oj = true ∧ pl.contains j = true := by
  unfold freeT at h
  simp only [hi, List.all_eq_true, List.mem_range] at h
  have h1 := h j (Array.getElem?_eq_some_iff.1 hj).1
  rw [hj, hun] at h1
  simp only [Bool.or_false, Bool.or_eq_true, beq_iff_eq, Bool.and_eq_true, Array.any_eq_true', decide_eq_true_eq] at h1
  rcases h1 with h1 | h1 | h1
  · exact absurd h1 hne
  · obtain ⟨e, he, hb, ho⟩ := h1
    exact absurd ho (hno e he hb)
  · exact h1
theorem OrdT_take (i : Nat) {d : Option Nat} {op : Op} {ty : TypeId} {p : String} {af : Array Edge} {v : Value} (hi : ops[i]? = some ⟨d, op, ty, p, af, none⟩)
    (hs : Region.noSelect ops = true) (hf : freeT ops pl listed i = true) (hr : (Region.ready .any ops listed).contains i = true)
    (hQ : ∀ c σ w, ¬ Q (.panic c) σ w) (hv : run1 P op ty σ w = .ok (.value v) w)
    (h : OrdT P n ops Q pl fuel (listed.setIfInBounds i true) (put n σ d v) w) : OrdT P n ops Q pl (fuel + 1) listed σ w := by
  intro a hfr
  refine wpAnyT_first hi (Region.noSelect_spec hs) ?_ fuel listed a w (freeT_spec hi hf) (by simpa using hr) (v := v) ?_ (h _ (hfr.put d v))
  · rintro c a w ⟨σ', _, hq⟩
    exact absurd hq (hQ _ _ _)
  · refine .inl ⟨wanted_none rfl, fun w' hw' => ?_⟩
    subst hw'
    rw [hfr.eval]
    exact hv
/-- One that writes, if nobody else may come up. -/
theorem OrdT_all (rs : List Nat) (hr : Region.ready .any ops listed = rs) (hne : rs ≠ []) (h : ∀ i ∈ rs, pl.contains i = false ∧ match ops[i]? with
      | some ⟨d, op, ty, _, _, none⟩ => Okv P (fun v w' => OrdT P n ops Q pl fuel (listed.setIfInBounds i true) (put n σ d v) w') (run1 P op ty σ w)
      | _ => False) : OrdT P n ops Q pl (fuel + 1) listed σ w := by
  intro a hfr
  refine ⟨fun h0 => absurd (hr ▸ h0) hne, hr ▸ fun i hi => ?_⟩
  obtain ⟨h1, h2⟩ := h i hi
  cases ho : ops[i]? with
  | none => rw [ho] at h2; exact h2.elim
  | some o =>
    rw [ho] at h2
    obtain ⟨d, op, ty, p, af, g⟩ := o
    cases g with
    | some g => exact h2.elim
    | none =>
      unfold wpOp
      simp only [ho]
      rw [if_pos (wanted_none rfl)]
      exact .inl (Oper.wp_of_Okv hfr (o := ⟨d, op, ty, p, af, none⟩) h2 fun v w' hE => ⟨fun hp => (by rw [h1] at hp; cases hp), hE _ (hfr.put d v)⟩)
theorem OrdT_one (i : Nat) {d : Option Nat} {op : Op} {ty : TypeId} {p : String} {af : Array Edge} (hr : Region.ready .any ops listed = [i]) (hp : pl.contains i = false) (hi : ops[i]? = some ⟨d, op, ty, p, af, none⟩)
    (h : Okv P (fun v w' => OrdT P n ops Q pl fuel (listed.setIfInBounds i true) (put n σ d v) w') (run1 P op ty σ w)) : OrdT P n ops Q pl (fuel + 1) listed σ w :=
  OrdT_all [i] hr (by simp) fun j hj => by
    obtain rfl : j = i := by simpa using hj
    exact ⟨hp, by rw [hi]; exact h⟩
theorem OrdT_done (hr : Region.ready .any ops listed = []) (h : Q .normal σ w) : OrdT P n ops Q pl fuel listed σ w := fun a hf => by
  cases fuel with
  | zero => exact ⟨hr, σ, hf, h⟩
  | succ f => exact ⟨fun _ => ⟨σ, hf, h⟩, by rw [hr]; simp⟩
def rdT (n : Nat) (ops : Array Oper) (pl : List Nat) : Array Bool → List Nat → Bool
  | _, [] => true
  | L, i :: r => (match ops[i]? with
    | some ⟨some d, _, _, _, _, none⟩ => decide (d < n) && r.all fun j => (ops[j]?).bind (·.dst) != some d
    | _ => false) && freeT ops pl L i && (Region.ready .any ops L).contains i && rdT n ops pl (L.setIfInBounds i true) r
theorem OrdT_reads (is : List Nat) (f : Nat) {m : Nat} {τ : Sl} (hf : m = f + is.length) (hs : Region.noSelect ops = true) (hB : rdT n ops pl listed is = true)
    (hQ : ∀ c σ w, ¬ Q (.panic c) σ w) (hv : V P n w (opsL ops is) σ (fun σ' => σ' = τ))
    (h : OrdT P n ops Q pl f (markL listed is) τ w) : OrdT P n ops Q pl m listed σ w := by
  subst hf
  induction is generalizing listed σ with
  | nil => have e : σ = τ := hv; rw [e]; exact h
  | cons i r ih =>
    rw [rdT, Bool.and_eq_true, Bool.and_eq_true, Bool.and_eq_true] at hB
    obtain ⟨⟨⟨h1, h2⟩, h3⟩, h4⟩ := hB
    cases ho : ops[i]? with
    | none => rw [ho] at h1; cases h1
    | some o =>
      obtain ⟨d', op, ty, p, af, g⟩ := o
      rw [ho] at h1
      cases d' with
      | none => cases h1
      | some d =>
      cases g with
      | some g => cases h1
      | none =>
      rw [opsL_cons, ho, optL_some, V_op] at hv
      cases hr1 : run1 P op ty σ w with
      | halt x w2 => rw [hr1] at hv; exact hv.elim
      | ok nx w2 =>
        rw [hr1] at hv
        cases nx with
        | value v =>
          obtain ⟨rfl, hv⟩ := hv
          exact OrdT_take i ho hs h2 h3 hQ hr1 (ih h4 hv h)
        | _ => exact hv.elim
theorem OrdT_pair (i j : Nat) {di dj : Option Nat} {opi opj : Op} {tyi tyj : TypeId} {pi pj : String} {afi afj : Array Edge} (hr : Region.ready .any ops listed = [i, j])
    (hr1 : Region.ready .any ops (listed.setIfInBounds i true) = [j]) (hr2 : Region.ready .any ops (listed.setIfInBounds j true) = [i])
    (hr3 : Region.ready .any ops ((listed.setIfInBounds i true).setIfInBounds j true) = []) (hr4 : Region.ready .any ops ((listed.setIfInBounds j true).setIfInBounds i true) = [])
    (hpi : pl.contains i = false) (hpj : pl.contains j = false) (hij : i ≠ j) (hi : ops[i]? = some ⟨di, opi, tyi, pi, afi, none⟩) (hj : ops[j]? = some ⟨dj, opj, tyj, pj, afj, none⟩)
    (h1 : Okv P (fun v w' => Okv P (fun u w'' => Q .normal (put n (put n σ di v) dj u) w'') (run1 P opj tyj (put n σ di v) w')) (run1 P opi tyi σ w))
    (h2 : Okv P (fun v w' => Okv P (fun u w'' => Q .normal (put n (put n σ dj v) di u) w'') (run1 P opi tyi (put n σ dj v) w')) (run1 P opj tyj σ w)) : OrdT P n ops Q pl 2 listed σ w :=
  OrdT_all [i, j] hr (by simp) fun k hk => by
    simp only [List.mem_cons, List.not_mem_nil, or_false] at hk
    rcases hk with rfl | rfl
    · refine ⟨hpi, ?_⟩
      rw [hi]
      exact Okv_mono (fun v w' h => OrdT_one j hr1 hpj hj (Okv_mono (fun u w'' h => OrdT_done hr3 h) h)) h1
    · refine ⟨hpj, ?_⟩
      rw [hj]
      exact Okv_mono (fun v w' h => OrdT_one i hr2 hpi hi (Okv_mono (fun u w'' h => OrdT_done hr4 h) h)) h2
/-- A reader of slots: its value in whatever world. -/
theorem OrdT_takeU (i : Nat) {d : Option Nat} {op : Op} {ty : TypeId} {p : String} {af : Array Edge} {v : Value} (hi : ops[i]? = some ⟨d, op, ty, p, af, none⟩)
    (hs : Region.noSelect ops = true) (hf : Region.free .any ops listed i = true) (hr : (Region.ready .any ops listed).contains i = true)
    (hQ : ∀ c σ w, ¬ Q (.panic c) σ w) (hv : ∀ w', run1 P op ty σ w' = .ok (.value v) w')
    (h : OrdT P n ops Q pl fuel (listed.setIfInBounds i true) (put n σ d v) w) : OrdT P n ops Q pl (fuel + 1) listed σ w := by
  intro a hfr
  refine wpAnyT_firstU hi (Region.noSelect_spec hs) ?_ fuel listed a w (Region.free_spec hi hf) (by simpa using hr) (v := v) ?_ (h _ (hfr.put d v))
  · rintro c a w ⟨σ', _, hq⟩
    exact absurd hq (hQ _ _ _)
  · refine .inl ⟨wanted_none rfl, fun w' _ => ?_⟩
    rw [hfr.eval]
    exact hv w'
theorem OrdT_readsU (is : List Nat) (f : Nat) {m : Nat} {τ : Sl} (hf : m = f + is.length) (hs : Region.noSelect ops = true) (hB : rdB n ops listed is = true)
    (hQ : ∀ c σ w, ¬ Q (.panic c) σ w) (hv : ∀ w', V P n w' (opsL ops is) σ (fun σ' => σ' = τ))
    (h : OrdT P n ops Q pl f (markL listed is) τ w) : OrdT P n ops Q pl m listed σ w := by
  subst hf
  induction is generalizing listed σ with
  | nil => have e : σ = τ := hv w; rw [e]; exact h
  | cons i r ih =>
    rw [rdB, Bool.and_eq_true, Bool.and_eq_true, Bool.and_eq_true] at hB
    obtain ⟨⟨⟨h1, h2⟩, h3⟩, h4⟩ := hB
    cases ho : ops[i]? with
    | none => rw [ho] at h1; cases h1
    | some o =>
      obtain ⟨d', op, ty, p, af, g⟩ := o
      rw [ho] at h1
      cases d' with
      | none => cases h1
      | some d =>
      cases g with
      | some g => cases h1
      | none =>
      simp only [Bool.and_eq_true, decide_eq_true_eq] at h1
      obtain ⟨hd, hr⟩ := h1
      have key : ∀ w', run1 P op ty σ w' = .ok (.value (τ d)) w' ∧ V P n w' (opsL ops r) (put n σ (some d) (τ d)) (fun σ' => σ' = τ) := by
        intro w'
        have hv := hv w'
        rw [opsL_cons, ho, optL_some, V_op] at hv
        cases hr1 : run1 P op ty σ w' with
        | halt x w2 => rw [hr1] at hv; exact hv.elim
        | ok nx w2 =>
          rw [hr1] at hv
          cases nx with
          | value v =>
            obtain ⟨rfl, hv⟩ := hv
            have e := V_keep r _ hr hv
            rw [put_some, if_pos hd, upd_same] at e
            rw [e]
            exact ⟨rfl, hv⟩
          | _ => exact hv.elim
      exact OrdT_takeU i ho hs h2 h3 hQ (fun w' => (key w').1) (ih h4 (fun w' => (key w').2) h)
theorem OrdT_chain : ∀ (js : List Nat) (listed : Array Bool) (σ : Sl) (w : World), (js.all fun j => !pl.contains j) = true → chB ops listed js = true → E P n ops (opsL ops js) σ w (Q .normal) → OrdT P n ops Q pl js.length listed σ w
  | [], L, σ, w, _, h, hE => OrdT_done (of_decide_eq_true h) hE
  | j :: r, L, σ, w, hp, h, hE => by
    rw [chB, Bool.and_eq_true, Bool.and_eq_true] at h
    rw [List.all_cons, Bool.and_eq_true] at hp
    obtain ⟨⟨h1, h2⟩, h3⟩ := h
    rw [opsL_cons] at hE
    cases ho : ops[j]? with
    | none => rw [ho] at h2; cases h2
    | some o =>
      obtain ⟨d, op, ty, p, af, g⟩ := o
      rw [ho] at h2
      cases g with
      | some g => cases h2
      | none =>
        rw [ho, optL_some, E_op] at hE
        exact OrdT_one j (of_decide_eq_true h1) (by simpa using hp.1) ho (Okv_mono (fun v w' hh => OrdT_chain r _ _ _ hp.2 h3 hh) hE)
end
end Go.Proofs.YtjaeiiiniohloaaDoor
/- Walks: the reference's Same and SameAll, short, some. -/
namespace Go.Proofs.YtjaeiiiniohloaaDoor
open Go.RowKit
set_option maxRecDepth 100000
theorem Cm.ext' {a b : Cm} (h0 : a.kind = b.kind) (h1 : a.at_ = b.at_) (h2 : a.who = b.who) (h3 : a.a = b.a) (h4 : a.b = b.b) (h5 : a.name = b.name) (h6 : a.text = b.text) (h7 : a.nums = b.nums) (h8 : a.key = b.key) (h9 : a.nonce = b.nonce) : a = b := by
  cases a; cases b; simp only at *; subst h0 h1 h2 h3 h4 h5 h6 h7 h8 h9; rfl
theorem same_any (a b : Cm) (v u : Value) (w : World) (ha : NumR w v a.nums) (hb : NumR w u b.nums) (hla : a.nums.length ≤ 1000000) (hlb : b.nums.length ≤ 1000000) :
    Calls Tryd.prog 19 #[.agg (cmV a v).toArray, .agg (cmV b u).toArray] w fun e w' => (∃ t : Bool, e = .returned (.bool t) ∧ (t = true ↔ a = b)) ∧ Below w.heap.size w w' := by
  refine calls_W (l := [_, _]) Tryd.func19 rfl _ Tryd.ntmps19 (by simp) ?_
  obtain ⟨A, ca, rfl, harrA⟩ := ha
  obtain ⟨B, cb, rfl, harrB⟩ := hb
  have ea : (cmV a (.slice A a.nums.length ca)).toArray = #[.int .i64 a.kind, .int .i64 a.at_, .int .i64 a.who, .int .i64 a.a, .int .i64 a.b, .string a.name, .string a.text, .slice A a.nums.length ca, .int .u64 a.key, .int .u64 a.nonce] := rfl
  have eb : (cmV b (.slice B b.nums.length cb)).toArray = #[.int .i64 b.kind, .int .i64 b.at_, .int .i64 b.who, .int .i64 b.a, .int .i64 b.b, .string b.name, .string b.text, .slice B b.nums.length cb, .int .u64 b.key, .int .u64 b.nonce] := rfl
  rw [ea, eb]
  simp +contextual (maxSteps := 2000000) (disch := (first | omega | (simp only [SZ]; done) | (simp only [SZ]; omega) | (simp only [TS] at *; omega))) only [RZ, gval, gslot, fillL, ovw, numb, catL, ldN, agL, okC, oneC, init, Nat.reduceAdd, Nat.reduceMul, Nat.reduceSub, Nat.reduceEqDiff, Nat.reduceLT, ↓reduceIte, Int.reduceToNat, Int.reduceAdd, Int.reduceSub, Int.reduceMul, Int.reduceLT, Int.reduceLE, Int.reduceEq, Nat.reduceLeDiff,  List.append_eq]
  generalize hw1 : (w.alloc _).alloc _ = w1
  have hB1 : Below w.heap.size w w1 := by rw [← hw1]; exact below_alloc_of (below_alloc _ _) _ (by simp)
  have hra : Row w1 w.heap.size 25 (cmV a (.slice A a.nums.length ca)) := by rw [← hw1]; exact (Row.new w 25 (cmV a (.slice A a.nums.length ca))).alloc _
  have hrb : Row w1 (w.heap.size + 1) 25 (cmV b (.slice B b.nums.length cb)) := by
    have := Row.new (w.alloc (.cells (cmV a (.slice A a.nums.length ca)).toArray 25)) 25 (cmV b (.slice B b.nums.length cb))
    rw [World.size_alloc] at this
    rw [← hw1]
    exact this
  clear hw1
  have ta := hra.ten
  have tb := hrb.ten

  (refine W_if rfl (fun hc => ?_) (fun hc => ?_) <;> (try simp only [TS] at hc))
  · simp +contextual (maxSteps := 2000000) (disch := (first | omega | (simp only [SZ]; done) | (simp only [SZ]; omega) | (simp only [TS] at *; omega))) only [RZ, gval, gslot, fillL, ovw, numb, catL, ldN, agL, okC, oneC, init, Nat.reduceAdd, Nat.reduceMul, Nat.reduceSub, Nat.reduceEqDiff, Nat.reduceLT, ↓reduceIte, Int.reduceToNat, Int.reduceAdd, Int.reduceSub, Int.reduceMul, Int.reduceLT, Int.reduceLE, Int.reduceEq, Nat.reduceLeDiff]
    refine ⟨⟨false, rfl, ?_⟩, hB1⟩
    constructor
    · intro h; cases h
    · rintro rfl
      simp at hc
  obtain ⟨⟨⟨⟨⟨⟨⟨⟨⟨k0, k1⟩, k2⟩, k3⟩, k4⟩, k5⟩, k6⟩, k8⟩, k9⟩, k7⟩ := hc
  have hlen : a.nums.length = b.nums.length := by omega
  have hab : a = b ↔ a.nums = b.nums := ⟨fun h => by rw [h], fun h => Cm.ext' k0 k1 k2 k3 k4 k5 k6 h k8 k9⟩
  clear k0 k1 k2 k3 k4 k5 k6 k8 k9 k7 ea eb
  simp +contextual (maxSteps := 2000000) (disch := (first | omega | (simp only [SZ]; done) | (simp only [SZ]; omega) | (simp only [TS] at *; omega))) only [RZ, gval, gslot, fillL, ovw, numb, catL, ldN, agL, okC, oneC, init, Nat.reduceAdd, Nat.reduceMul, Nat.reduceSub, Nat.reduceEqDiff, Nat.reduceLT, ↓reduceIte, Int.reduceToNat, Int.reduceAdd, Int.reduceSub, Int.reduceMul, Int.reduceLT, Int.reduceLE, Int.reduceEq, Nat.reduceLeDiff]
  refine Raw_loop (fun σ w2 => w2.heap = w1.heap ∧ Below w.heap.size w w2 ∧ ∃ k : Nat, k ≤ a.nums.length ∧ a.nums.take k = b.nums.take k ∧ σ 2 = .pointer (some ⟨w.heap.size, 0, none⟩) ∧ σ 3 = .pointer (some ⟨w.heap.size + 1, 0, none⟩) ∧ σ 5 = .int .i64 k) (fun σ _ => a.nums.length - (intOf (σ 5)).toNat) ?_ ?_
  · simp +contextual (maxSteps := 2000000) (disch := (first | omega | (simp only [SZ]; done) | (simp only [SZ]; omega) | (simp only [TS] at *; omega))) only [RZ, gval, gslot, fillL, ovw, numb, catL, ldN, agL, okC, oneC, init, Nat.reduceAdd, Nat.reduceMul, Nat.reduceSub, Nat.reduceEqDiff, Nat.reduceLT, ↓reduceIte, Int.reduceToNat, Int.reduceAdd, Int.reduceSub, Int.reduceMul, Int.reduceLT, Int.reduceLE, Int.reduceEq, Nat.reduceLeDiff]
    exact ⟨hB1, 0, Nat.zero_le _, rfl, rfl⟩
  rintro σ w2 ⟨hh, hB2, k, hk, htk, e2, e3, e5⟩ K hK
  have hra2 : Row w2 w.heap.size 25 (cmV a (.slice A a.nums.length ca)) := hra.of_block (by rw [hh])
  have hrb2 : Row w2 (w.heap.size + 1) 25 (cmV b (.slice B b.nums.length cb)) := hrb.of_block (by rw [hh])
  have a7 := hra2.cell (i := 7) rfl
  have b7 := hrb2.cell (i := 7) rfl
  simp +contextual (maxSteps := 2000000) (disch := (first | omega | (simp only [SZ]; done) | (simp only [SZ]; omega) | (simp only [TS] at *; omega))) only [RZ, gval, gslot, fillL, ovw, numb, catL, ldN, agL, okC, oneC, init, Nat.reduceAdd, Nat.reduceMul, Nat.reduceSub, Nat.reduceEqDiff, Nat.reduceLT, ↓reduceIte, Int.reduceToNat, Int.reduceAdd, Int.reduceSub, Int.reduceMul, Int.reduceLT, Int.reduceLE, Int.reduceEq, Nat.reduceLeDiff,  a7, b7, e2, e3, e5]
  (refine W_if rfl (fun hc => ?_) (fun hc => ?_) <;> (try simp only [TS] at hc))
  · have hka : k < a.nums.length := by omega
    have hkb : k < b.nums.length := by omega
    clear hc
    obtain ⟨x, hx⟩ : ∃ x, a.nums[k]? = some x := ⟨_, List.getElem?_eq_getElem hka⟩
    obtain ⟨y, hy⟩ : ∃ y, b.nums[k]? = some y := ⟨_, List.getElem?_eq_getElem hkb⟩
    obtain ⟨ba, oa, rfl, hba, hca⟩ := (harrA.below (hB2.mono (Nat.le_refl _))).at_ hx
    obtain ⟨bb, ob, rfl, hbb, hcb⟩ := (harrB.below (hB2.mono (Nat.le_refl _))).at_ hy
    have qa := hca 0 _ rfl
    have qb := hcb 0 _ rfl
    rw [Nat.add_zero, Nat.mul_one] at qa qb
    refine Raw_still MX (by kernel_rfl) ?_
    simp +contextual (maxSteps := 2000000) (disch := (first | omega | (simp only [SZ]; done) | (simp only [SZ]; omega) | (simp only [TS] at *; omega))) only [RZ, gval, gslot, fillL, ovw, numb, catL, ldN, agL, okC, oneC, init, Nat.reduceAdd, Nat.reduceMul, Nat.reduceSub, Nat.reduceEqDiff, Nat.reduceLT, ↓reduceIte, Int.reduceToNat, Int.reduceAdd, Int.reduceSub, Int.reduceMul, Int.reduceLT, Int.reduceLE, Int.reduceEq, Nat.reduceLeDiff,  a7, b7, e2, e3, e5, qa, qb]
    (refine W_if rfl (fun hc => ?_) (fun hc => ?_) <;> (try simp only [TS] at hc))
    · simp +contextual (maxSteps := 2000000) (disch := (first | omega | (simp only [SZ]; done) | (simp only [SZ]; omega) | (simp only [TS] at *; omega))) only [RZ, gval, gslot, fillL, ovw, numb, catL, ldN, agL, okC, oneC, init, Nat.reduceAdd, Nat.reduceMul, Nat.reduceSub, Nat.reduceEqDiff, Nat.reduceLT, ↓reduceIte, Int.reduceToNat, Int.reduceAdd, Int.reduceSub, Int.reduceMul, Int.reduceLT, Int.reduceLE, Int.reduceEq, Nat.reduceLeDiff]
      refine ⟨⟨false, rfl, ?_⟩, hB2.drew⟩
      rw [hab]
      constructor
      · intro h; cases h
      · intro h
        rw [h, hy] at hx
        injection hx with hx
        exact absurd hx.symm hc
    · simp +contextual (maxSteps := 2000000) (disch := (first | omega | (simp only [SZ]; done) | (simp only [SZ]; omega) | (simp only [TS] at *; omega))) only [RZ, gval, gslot, fillL, ovw, numb, catL, ldN, agL, okC, oneC, init, Nat.reduceAdd, Nat.reduceMul, Nat.reduceSub, Nat.reduceEqDiff, Nat.reduceLT, ↓reduceIte, Int.reduceToNat, Int.reduceAdd, Int.reduceSub, Int.reduceMul, Int.reduceLT, Int.reduceLE, Int.reduceEq, Nat.reduceLeDiff,  a7, b7, e2, e3, e5]
      refine hK _ _ ⟨hh, hB2.drew, k + 1, by omega, ?_, ?_⟩ ?_
      · rw [List.take_add_one, List.take_add_one, htk, hx, hy]
        rw [hc]
      · simp +contextual (maxSteps := 2000000) (disch := (first | omega | (simp only [SZ]; done) | (simp only [SZ]; omega) | (simp only [TS] at *; omega))) only [RZ, gval, gslot, fillL, ovw, numb, catL, ldN, agL, okC, oneC, init, Nat.reduceAdd, Nat.reduceMul, Nat.reduceSub, Nat.reduceEqDiff, Nat.reduceLT, ↓reduceIte, Int.reduceToNat, Int.reduceAdd, Int.reduceSub, Int.reduceMul, Int.reduceLT, Int.reduceLE, Int.reduceEq, Nat.reduceLeDiff,  e2, e3, e5]
      · simp +contextual (maxSteps := 2000000) (disch := (first | omega | (simp only [SZ]; done) | (simp only [SZ]; omega) | (simp only [TS] at *; omega))) only [RZ, gval, gslot, fillL, ovw, numb, catL, ldN, agL, okC, oneC, init, Nat.reduceAdd, Nat.reduceMul, Nat.reduceSub, Nat.reduceEqDiff, Nat.reduceLT, ↓reduceIte, Int.reduceToNat, Int.reduceAdd, Int.reduceSub, Int.reduceMul, Int.reduceLT, Int.reduceLE, Int.reduceEq, Nat.reduceLeDiff,  intOf, e5]
        omega
  · have hke : k = a.nums.length := by omega
    simp +contextual (maxSteps := 2000000) (disch := (first | omega | (simp only [SZ]; done) | (simp only [SZ]; omega) | (simp only [TS] at *; omega))) only [RZ, gval, gslot, fillL, ovw, numb, catL, ldN, agL, okC, oneC, init, Nat.reduceAdd, Nat.reduceMul, Nat.reduceSub, Nat.reduceEqDiff, Nat.reduceLT, ↓reduceIte, Int.reduceToNat, Int.reduceAdd, Int.reduceSub, Int.reduceMul, Int.reduceLT, Int.reduceLE, Int.reduceEq, Nat.reduceLeDiff,  e2, e3, e5]
    refine ⟨⟨true, rfl, ?_⟩, hB2⟩
    rw [hab]
    refine ⟨fun _ => ?_, fun _ => rfl⟩
    rw [List.take_of_length_le (by omega), List.take_of_length_le (by omega)] at htk
    exact htk
theorem sameAll_any (v u : Value) (L M : List Cm) (w : World) (hv : CmsR w v L) (hu : CmsR w u M) (hL : ∀ c ∈ L, c.nums.length ≤ 1000000) (hM : ∀ c ∈ M, c.nums.length ≤ 1000000) (hl : L.length ≤ 1000000) (hm : M.length ≤ 1000000) :
    Calls Tryd.prog 18 #[v, u] w fun e w' => (∃ t : Bool, e = .returned (.bool t) ∧ (t = true ↔ L = M)) ∧ Below w.heap.size w w' := by
  refine calls_W (l := [_, _]) Tryd.func18 rfl _ Tryd.ntmps18 (by simp) ?_
  obtain ⟨A, ca, rfl⟩ : ∃ A cp, v = .slice A L.length cp := by obtain ⟨P, A, c, rfl, _⟩ := hv; exact ⟨A, c, rfl⟩
  obtain ⟨B, cb, rfl⟩ : ∃ A cp, u = .slice A M.length cp := by obtain ⟨P, A, c, rfl, _⟩ := hu; exact ⟨A, c, rfl⟩
  simp +contextual (maxSteps := 2000000) (disch := (first | omega | (simp only [SZ]; done) | (simp only [SZ]; omega) | (simp only [TS] at *; omega))) only [RZ, gval, gslot, fillL, ovw, numb, catL, ldN, agL, okC, oneC, init, Nat.reduceAdd, Nat.reduceMul, Nat.reduceSub, Nat.reduceEqDiff, Nat.reduceLT, ↓reduceIte, Int.reduceToNat, Int.reduceAdd, Int.reduceSub, Int.reduceMul, Int.reduceLT, Int.reduceLE, Int.reduceEq, Nat.reduceLeDiff]
  (refine W_if rfl (fun hc => ?_) (fun hc => ?_) <;> (try simp only [TS] at hc))
  · simp +contextual (maxSteps := 2000000) (disch := (first | omega | (simp only [SZ]; done) | (simp only [SZ]; omega) | (simp only [TS] at *; omega))) only [RZ, gval, gslot, fillL, ovw, numb, catL, ldN, agL, okC, oneC, init, Nat.reduceAdd, Nat.reduceMul, Nat.reduceSub, Nat.reduceEqDiff, Nat.reduceLT, ↓reduceIte, Int.reduceToNat, Int.reduceAdd, Int.reduceSub, Int.reduceMul, Int.reduceLT, Int.reduceLE, Int.reduceEq, Nat.reduceLeDiff]
    refine ⟨⟨false, rfl, ?_⟩, Below.refl _ _⟩
    constructor
    · intro h; cases h
    · rintro rfl; exact absurd rfl hc
  have hlm : L.length = M.length := by omega
  clear hc
  simp +contextual (maxSteps := 2000000) (disch := (first | omega | (simp only [SZ]; done) | (simp only [SZ]; omega) | (simp only [TS] at *; omega))) only [RZ, gval, gslot, fillL, ovw, numb, catL, ldN, agL, okC, oneC, init, Nat.reduceAdd, Nat.reduceMul, Nat.reduceSub, Nat.reduceEqDiff, Nat.reduceLT, ↓reduceIte, Int.reduceToNat, Int.reduceAdd, Int.reduceSub, Int.reduceMul, Int.reduceLT, Int.reduceLE, Int.reduceEq, Nat.reduceLeDiff]
  refine Raw_loop (fun σ w2 => Below w.heap.size w w2 ∧ ∃ k : Nat, k ≤ L.length ∧ L.take k = M.take k ∧ σ 0 = .slice A L.length ca ∧ σ 1 = .slice B M.length cb ∧ σ 5 = .int .i64 k) (fun σ _ => L.length - (intOf (σ 5)).toNat) ?_ ?_
  · simp +contextual (maxSteps := 2000000) (disch := (first | omega | (simp only [SZ]; done) | (simp only [SZ]; omega) | (simp only [TS] at *; omega))) only [RZ, gval, gslot, fillL, ovw, numb, catL, ldN, agL, okC, oneC, init, Nat.reduceAdd, Nat.reduceMul, Nat.reduceSub, Nat.reduceEqDiff, Nat.reduceLT, ↓reduceIte, Int.reduceToNat, Int.reduceAdd, Int.reduceSub, Int.reduceMul, Int.reduceLT, Int.reduceLE, Int.reduceEq, Nat.reduceLeDiff]
    exact ⟨Below.refl _ _, 0, by omega, rfl, rfl⟩
  rintro σ w2 ⟨hB, k, hk, htk, e0, e1, e5⟩ K hK
  have hs2 := hB.size
  simp +contextual (maxSteps := 2000000) (disch := (first | omega | (simp only [SZ]; done) | (simp only [SZ]; omega) | (simp only [TS] at *; omega))) only [RZ, gval, gslot, fillL, ovw, numb, catL, ldN, agL, okC, oneC, init, Nat.reduceAdd, Nat.reduceMul, Nat.reduceSub, Nat.reduceEqDiff, Nat.reduceLT, ↓reduceIte, Int.reduceToNat, Int.reduceAdd, Int.reduceSub, Int.reduceMul, Int.reduceLT, Int.reduceLE, Int.reduceEq, Nat.reduceLeDiff,  e0, e1, e5]
  (refine W_if rfl (fun hc => ?_) (fun hc => ?_) <;> (try simp only [TS] at hc))
  · have hkl : k < L.length := by omega
    have hkm : k < M.length := by omega
    clear hc
    obtain ⟨b, o, cp2, c, x, hvv, hbb, hLk, hN, hcell⟩ := (hv.below hB).at_ hkl
    injection hvv with hA _ hcp
    subst hA hcp
    obtain ⟨b2, o2, cp3, d, y, hvv2, hbb2, hMk, hN2, hcell2⟩ := (hu.below hB).at_ hkm
    injection hvv2 with hA2 _ hcp2
    subst hA2 hcp2
    obtain ⟨An, cn, rfl, hNa⟩ := hN
    obtain ⟨Bn, dn, rfl, hNb⟩ := hN2
    have q : w2.drew.cell? ⟨b, o + k * 10, none⟩ = some (.int .i64 c.kind) ∧ w2.drew.cell? ⟨b, o + k * 10 + 1, none⟩ = some (.int .i64 c.at_) ∧ w2.drew.cell? ⟨b, o + k * 10 + 2, none⟩ = some (.int .i64 c.who) ∧ w2.drew.cell? ⟨b, o + k * 10 + 3, none⟩ = some (.int .i64 c.a) ∧ w2.drew.cell? ⟨b, o + k * 10 + 4, none⟩ = some (.int .i64 c.b) ∧
        w2.drew.cell? ⟨b, o + k * 10 + 5, none⟩ = some (.string c.name) ∧ w2.drew.cell? ⟨b, o + k * 10 + 6, none⟩ = some (.string c.text) ∧ w2.drew.cell? ⟨b, o + k * 10 + 7, none⟩ = some (.slice An c.nums.length cn) ∧ w2.drew.cell? ⟨b, o + k * 10 + 8, none⟩ = some (.int .u64 c.key) ∧ w2.drew.cell? ⟨b, o + k * 10 + 9, none⟩ = some (.int .u64 c.nonce) :=
      ⟨hcell 0 _ rfl, hcell 1 _ rfl, hcell 2 _ rfl, hcell 3 _ rfl, hcell 4 _ rfl, hcell 5 _ rfl, hcell 6 _ rfl, hcell 7 _ rfl, hcell 8 _ rfl, hcell 9 _ rfl⟩
    have q2 : w2.drew.cell? ⟨b2, o2 + k * 10, none⟩ = some (.int .i64 d.kind) ∧ w2.drew.cell? ⟨b2, o2 + k * 10 + 1, none⟩ = some (.int .i64 d.at_) ∧ w2.drew.cell? ⟨b2, o2 + k * 10 + 2, none⟩ = some (.int .i64 d.who) ∧ w2.drew.cell? ⟨b2, o2 + k * 10 + 3, none⟩ = some (.int .i64 d.a) ∧ w2.drew.cell? ⟨b2, o2 + k * 10 + 4, none⟩ = some (.int .i64 d.b) ∧
        w2.drew.cell? ⟨b2, o2 + k * 10 + 5, none⟩ = some (.string d.name) ∧ w2.drew.cell? ⟨b2, o2 + k * 10 + 6, none⟩ = some (.string d.text) ∧ w2.drew.cell? ⟨b2, o2 + k * 10 + 7, none⟩ = some (.slice Bn d.nums.length dn) ∧ w2.drew.cell? ⟨b2, o2 + k * 10 + 8, none⟩ = some (.int .u64 d.key) ∧ w2.drew.cell? ⟨b2, o2 + k * 10 + 9, none⟩ = some (.int .u64 d.nonce) :=
      ⟨hcell2 0 _ rfl, hcell2 1 _ rfl, hcell2 2 _ rfl, hcell2 3 _ rfl, hcell2 4 _ rfl, hcell2 5 _ rfl, hcell2 6 _ rfl, hcell2 7 _ rfl, hcell2 8 _ rfl, hcell2 9 _ rfl⟩
    clear hcell hcell2
    refine Raw_tail 8 MX (by kernel_rfl) ?_
    dsimp only [List.take, List.drop]
    have hkm' : (k : Int) < M.length := by omega
    simp +contextual (maxSteps := 2000000) (disch := (first | omega | (simp only [SZ]; done) | (simp only [SZ]; omega) | (simp only [TS] at *; omega))) only [RZ, gval, gslot, fillL, ovw, numb, catL, ldN, agL, okC, oneC, init, Nat.reduceAdd, Nat.reduceMul, Nat.reduceSub, Nat.reduceEqDiff, Nat.reduceLT, ↓reduceIte, Int.reduceToNat, Int.reduceAdd, Int.reduceSub, Int.reduceMul, Int.reduceLT, Int.reduceLE, Int.reduceEq, Nat.reduceLeDiff,  q, q2, e0, e1, e5]
    refine (same_any c d (.slice An c.nums.length cn) (.slice Bn d.nums.length dn) w2.drew ⟨An, cn, rfl, hNa.drew⟩ ⟨Bn, dn, rfl, hNb.drew⟩ (hL c (List.mem_of_getElem? hLk)) (hM d (List.mem_of_getElem? hMk))).mono ?_
    rintro e w3 ⟨⟨t, rfl, ht⟩, hb3⟩
    have hB3 := hB.trans ((Below.refl _ _).drew.trans hb3 |>.mono hs2)
    refine ⟨_, rfl, ?_⟩
    cases t with
    | false =>
      simp +contextual (maxSteps := 2000000) (disch := (first | omega | (simp only [SZ]; done) | (simp only [SZ]; omega) | (simp only [TS] at *; omega))) only [RZ, gval, gslot, fillL, ovw, numb, catL, ldN, agL, okC, oneC, init, Nat.reduceAdd, Nat.reduceMul, Nat.reduceSub, Nat.reduceEqDiff, Nat.reduceLT, ↓reduceIte, Int.reduceToNat, Int.reduceAdd, Int.reduceSub, Int.reduceMul, Int.reduceLT, Int.reduceLE, Int.reduceEq, Nat.reduceLeDiff,  e0, e1, e5]
      refine W_if_t rfl ?_
      simp +contextual (maxSteps := 2000000) (disch := (first | omega | (simp only [SZ]; done) | (simp only [SZ]; omega) | (simp only [TS] at *; omega))) only [RZ, gval, gslot, fillL, ovw, numb, catL, ldN, agL, okC, oneC, init, Nat.reduceAdd, Nat.reduceMul, Nat.reduceSub, Nat.reduceEqDiff, Nat.reduceLT, ↓reduceIte, Int.reduceToNat, Int.reduceAdd, Int.reduceSub, Int.reduceMul, Int.reduceLT, Int.reduceLE, Int.reduceEq, Nat.reduceLeDiff,  e0, e1, e5]
      refine ⟨⟨false, rfl, ?_⟩, hB3⟩
      constructor
      · intro h; cases h
      · rintro rfl
        rw [hLk] at hMk
        injection hMk with hMk
        exact ht.2 hMk
    | true =>
      simp +contextual (maxSteps := 2000000) (disch := (first | omega | (simp only [SZ]; done) | (simp only [SZ]; omega) | (simp only [TS] at *; omega))) only [RZ, gval, gslot, fillL, ovw, numb, catL, ldN, agL, okC, oneC, init, Nat.reduceAdd, Nat.reduceMul, Nat.reduceSub, Nat.reduceEqDiff, Nat.reduceLT, ↓reduceIte, Int.reduceToNat, Int.reduceAdd, Int.reduceSub, Int.reduceMul, Int.reduceLT, Int.reduceLE, Int.reduceEq, Nat.reduceLeDiff,  e0, e1, e5]
      refine W_if_f rfl ?_
      simp +contextual (maxSteps := 2000000) (disch := (first | omega | (simp only [SZ]; done) | (simp only [SZ]; omega) | (simp only [TS] at *; omega))) only [RZ, gval, gslot, fillL, ovw, numb, catL, ldN, agL, okC, oneC, init, Nat.reduceAdd, Nat.reduceMul, Nat.reduceSub, Nat.reduceEqDiff, Nat.reduceLT, ↓reduceIte, Int.reduceToNat, Int.reduceAdd, Int.reduceSub, Int.reduceMul, Int.reduceLT, Int.reduceLE, Int.reduceEq, Nat.reduceLeDiff,  e0, e1, e5]
      refine hK _ _ ⟨hB3, k + 1, by omega, ?_, ?_⟩ ?_
      · rw [List.take_add_one, List.take_add_one, htk, hLk, hMk, ht.1 rfl]
      · simp +contextual (maxSteps := 2000000) (disch := (first | omega | (simp only [SZ]; done) | (simp only [SZ]; omega) | (simp only [TS] at *; omega))) only [RZ, gval, gslot, fillL, ovw, numb, catL, ldN, agL, okC, oneC, init, Nat.reduceAdd, Nat.reduceMul, Nat.reduceSub, Nat.reduceEqDiff, Nat.reduceLT, ↓reduceIte, Int.reduceToNat, Int.reduceAdd, Int.reduceSub, Int.reduceMul, Int.reduceLT, Int.reduceLE, Int.reduceEq, Nat.reduceLeDiff,  e0, e1, e5]
      · simp +contextual (maxSteps := 2000000) (disch := (first | omega | (simp only [SZ]; done) | (simp only [SZ]; omega) | (simp only [TS] at *; omega))) only [RZ, gval, gslot, fillL, ovw, numb, catL, ldN, agL, okC, oneC, init, Nat.reduceAdd, Nat.reduceMul, Nat.reduceSub, Nat.reduceEqDiff, Nat.reduceLT, ↓reduceIte, Int.reduceToNat, Int.reduceAdd, Int.reduceSub, Int.reduceMul, Int.reduceLT, Int.reduceLE, Int.reduceEq, Nat.reduceLeDiff,  intOf, e5]
        omega
  · have hke : k = L.length := by omega
    simp +contextual (maxSteps := 2000000) (disch := (first | omega | (simp only [SZ]; done) | (simp only [SZ]; omega) | (simp only [TS] at *; omega))) only [RZ, gval, gslot, fillL, ovw, numb, catL, ldN, agL, okC, oneC, init, Nat.reduceAdd, Nat.reduceMul, Nat.reduceSub, Nat.reduceEqDiff, Nat.reduceLT, ↓reduceIte, Int.reduceToNat, Int.reduceAdd, Int.reduceSub, Int.reduceMul, Int.reduceLT, Int.reduceLE, Int.reduceEq, Nat.reduceLeDiff,  e0, e1, e5]
    refine ⟨⟨true, rfl, ?_⟩, hB⟩
    refine ⟨fun _ => ?_, fun _ => rfl⟩
    rw [List.take_of_length_le (by omega), List.take_of_length_le (by omega)] at htk
    exact htk
end Go.Proofs.YtjaeiiiniohloaaDoor
/- Walks: short, some. -/
namespace Go.Proofs.YtjaeiiiniohloaaDoor
open Go.RowKit
set_option maxRecDepth 100000
def shortC (c : Cm) : Cm := { c with name := c.name.extract 0 (min c.name.size 40), text := c.text.extract 0 (min c.text.size 100), nums := c.nums.take 12 }
theorem take_arr {w : World} {A : Option Addr} {L : List Int} (h : Arr w A 1 (L.map fun n => [Value.int .i64 n])) (k : Nat) : Arr w A 1 ((L.take k).map fun n => [Value.int .i64 n]) := fun hn => by
  rw [List.length_map, List.length_take] at hn
  obtain ⟨b, o, e, hb, hc⟩ := h (by rw [List.length_map]; omega)
  refine ⟨b, o, e, hb, fun i l hl j v hv => hc i l ?_ j v hv⟩
  rw [List.getElem?_map] at hl ⊢
  rw [List.getElem?_take] at hl
  split at hl
  · exact hl
  · cases hl
set_option maxHeartbeats 400000 in
theorem short_any (c : Cm) (v : Value) (w : World) (hv : NumR w v c.nums) (hcap : ∀ A n k, v = .slice A n k → n ≤ k) (h1 : c.name.size ≤ 9223372036854775807) (h2 : c.text.size ≤ 9223372036854775807) (h3 : c.nums.length ≤ 9223372036854775807) : Calls Tryd.prog 10 #[.agg (cmV c v).toArray] w fun e w' => (∃ u, e = .returned (.agg (cmV (shortC c) u).toArray) ∧ ∀ w0, NumR w0 v c.nums → NumR w0 u (shortC c).nums) ∧ Below w.heap.size w w' := by
  refine calls_W (l := [_]) Tryd.func10 rfl _ Tryd.ntmps10 (by simp) ?_
  obtain ⟨A, ca, rfl, harr⟩ := hv
  have hcap := hcap _ _ _ rfl
  unfold cmV
  simp +contextual (maxSteps := 2000000) (disch := (first | omega | (simp only [SZ]; done) | (simp only [SZ]; omega) | (simp only [TS] at *; omega))) only [RZ, gval, gslot, fillL, ovw, numb, catL, ldN, agL, okC, oneC, init, Nat.reduceAdd, Nat.reduceMul, Nat.reduceSub, Nat.reduceEqDiff, Nat.reduceLT, ↓reduceIte, Int.reduceToNat, Int.reduceAdd, Int.reduceSub, Int.reduceMul, Int.reduceLT, Int.reduceLE, Int.reduceEq, Nat.reduceLeDiff]
  generalize hw1 : (w.alloc _).alloc _ = w1
  have hB1 : Below w.heap.size w w1 := by rw [← hw1]; exact below_alloc_of (below_alloc _ _) _ (by simp)
  have hra : Row w1 w.heap.size 25 (cmV c (.slice A c.nums.length ca)) := by rw [← hw1]; exact (Row.new w 25 (cmV c (.slice A c.nums.length ca))).alloc _
  have hrb : Row w1 (w.heap.size + 1) 25 zeroC := by
    have := Row.new (w.alloc (.cells (cmV c (.slice A c.nums.length ca)).toArray 25)) 25 zeroC
    rw [World.size_alloc] at this
    rw [← hw1]
    exact this
  clear hw1
  generalize hc1 : ({ c with name := c.name.extract 0 (min c.name.size 40), text := c.text.extract 0 (min c.text.size 100) } : Cm) = c1
  refine Raw_mono (Q := fun e σ w2 => e = .normal ∧ (Below w.heap.size w w2 ∧ Row w2 w.heap.size 25 (cmV c1 (.slice A c.nums.length ca)) ∧ Row w2 (w.heap.size + 1) 25 zeroC ∧ σ 1 = .pointer (some ⟨w.heap.size, 0, none⟩) ∧ σ 2 = .pointer (some ⟨w.heap.size + 1, 0, none⟩))) (fun e σ w2 h => ?_) ?_
  · obtain ⟨rfl, hB2, hr2, hz2, e1, e2⟩ := h
    have t2 := hr2.ten
    have y2 := hz2.ten
    have hmn : (min (c.nums.length : Int) 12).toNat = min c.nums.length 12 := by omega
    have es : cmV c1 (.slice A (min c.nums.length 12) ca) = cmV (shortC c) (.slice A (min c.nums.length 12) ca) := by rw [← hc1]; rfl
    have hB3 := below_ten (hB2.setCell (p := ⟨w.heap.size, 7, none⟩) (Nat.le_refl _) (.slice A (min c.nums.length 12) ca)) (show w.heap.size ≤ w.heap.size + 1 by omega) (cmV c1 (.slice A (min c.nums.length 12) ca)) 0
    have hnum : ∀ w0, NumR w0 (.slice A c.nums.length ca) c.nums → NumR w0 (.slice A (min c.nums.length 12) ca) (shortC c).nums := fun w0 ⟨A', ca', e', h'⟩ => by
      injection e' with e1 _ e2
      subst e1 e2
      exact ⟨A, ca, by show _ = Value.slice A (c.nums.take 12).length ca; rw [List.length_take, Nat.min_comm], take_arr h' 12⟩
    simp only [setCells_cons, setCells_nil, cmV, Nat.reduceAdd, Nat.zero_add] at hB3
    simp +contextual (maxSteps := 2000000) (disch := (first | omega | (simp only [SZ]; done) | (simp only [SZ]; omega) | (simp only [TS] at *; omega))) only [RZ, gval, gslot, fillL, ovw, numb, catL, ldN, agL, okC, oneC, init, Nat.reduceAdd, Nat.reduceMul, Nat.reduceSub, Nat.reduceEqDiff, Nat.reduceLT, ↓reduceIte, Int.reduceToNat, Int.reduceAdd, Int.reduceSub, Int.reduceMul, Int.reduceLT, Int.reduceLE, Int.reduceEq, Nat.reduceLeDiff,  t2, y2, e1, e2, hmn]
    exact ⟨⟨_, congrArg (fun l : List Value => Ending.returned (.agg l.toArray)) es, hnum⟩, hB3⟩
  have ta := hra.ten
  refine Raw_ordT [0, 1, 2, 3, 4, 5, 6, 7, 8, 9, 10, 11, 12, 13, 14] 18 rfl MX ?_
  refine OrdT_reads (τ := ?ta) [0, 1, 2, 3, 4, 5, 6, 7, 8, 9, 10] 7 rfl (by kernel_rfl) (by kernel_rfl) (fun _ _ _ h => by cases h.1) ?_ ?_; rotate_left
  · simp only [opsL_cons, opsL_nil, List.getElem?_toArray, List.getElem?_cons_zero, List.getElem?_cons_succ, optL_some]
    simp +contextual (maxSteps := 2000000) (disch := (first | omega | (simp only [SZ]; done) | (simp only [SZ]; omega) | (simp only [TS] at *; omega))) only [RZ, gval, gslot, fillL, ovw, numb, catL, ldN, agL, okC, oneC, init, Nat.reduceAdd, Nat.reduceMul, Nat.reduceSub, Nat.reduceEqDiff, Nat.reduceLT, ↓reduceIte, Int.reduceToNat, Int.reduceAdd, Int.reduceSub, Int.reduceMul, Int.reduceLT, Int.reduceLE, Int.reduceEq, Nat.reduceLeDiff,  ta]
    exact rfl
  refine OrdT_readsU (τ := ?tb) [11, 12, 13, 14] 3 rfl (by kernel_rfl) (by kernel_rfl) (fun _ _ _ h => by cases h.1) (fun w' => ?_) ?_; rotate_left
  · simp only [opsL_cons, opsL_nil, List.getElem?_toArray, List.getElem?_cons_zero, List.getElem?_cons_succ, optL_some]
    simp +contextual (maxSteps := 2000000) (disch := (first | omega | (simp only [SZ]; done) | (simp only [SZ]; omega) | (simp only [TS] at *; omega))) only [RZ, gval, gslot, fillL, ovw, numb, catL, ldN, agL, okC, oneC, init, Nat.reduceAdd, Nat.reduceMul, Nat.reduceSub, Nat.reduceEqDiff, Nat.reduceLT, ↓reduceIte, Int.reduceToNat, Int.reduceAdd, Int.reduceSub, Int.reduceMul, Int.reduceLT, Int.reduceLE, Int.reduceEq, Nat.reduceLeDiff,  ta]
    exact rfl
  have hmn : (min (c.name.size : Int) 40).toNat = min c.name.size 40 := by omega
  have hmt : (min (c.text.size : Int) 100).toNat = min c.text.size 100 := by omega
  rw [hmn, hmt]
  generalize c.name.extract 0 (min c.name.size 40) = N at *
  generalize c.text.extract 0 (min c.text.size 100) = T at *
  have c5 := ta.1.2.2.2.2.2.1
  have c6 := ta.1.2.2.2.2.2.2.1
  have z5 := ta.2.2.2.2.2.2.1
  have z6 := ta.2.2.2.2.2.2.2.1
  clear ta
  have hrd := hra.drew
  have hzd := hrb.drew
  have hBd := hB1.drew
  refine OrdT_chain [15, 16, 17] _ _ _ (by decide) (by kernel_rfl) ?_
  simp only [opsL_cons, opsL_nil, List.getElem?_toArray, List.getElem?_cons_zero, List.getElem?_cons_succ, optL_some]
  simp +contextual (maxSteps := 2000000) (disch := (first | omega | (simp only [SZ]; done) | (simp only [SZ]; omega) | (simp only [TS] at *; omega))) only [RZ, gval, gslot, fillL, ovw, numb, catL, ldN, agL, okC, oneC, init, Nat.reduceAdd, Nat.reduceMul, Nat.reduceSub, Nat.reduceEqDiff, Nat.reduceLT, ↓reduceIte, Int.reduceToNat, Int.reduceAdd, Int.reduceSub, Int.reduceMul, Int.reduceLT, Int.reduceLE, Int.reduceEq, Nat.reduceLeDiff,  c5, c6, z5, z6]
  refine ⟨(hBd.setCell (p := ⟨w.heap.size, 5, none⟩) (Nat.le_refl _) _).setCell (p := ⟨w.heap.size, 6, none⟩) (Nat.le_refl _) _, ?_, (hzd.far (p := ⟨w.heap.size, 5, none⟩) (by show w.heap.size + 1 ≠ w.heap.size; omega) _).far (p := ⟨w.heap.size, 6, none⟩) (by show w.heap.size + 1 ≠ w.heap.size; omega) _⟩
  rw [← hc1]
  exact (hrd.set_ (i := 5) (by simp [cmV]) _).set_ (i := 6) (by simp [cmV]) _
/-- Commands that came in: their numbers' slices are slices. -/
def CmsC (w : World) (v : Value) (L : List Cm) : Prop := ∃ (P : List (Cm × Value)) (A : Option Addr) (c : Nat), v = .slice A L.length c ∧ P.map (·.1) = L ∧ Arr w A 10 (P.map encP) ∧ ∀ p ∈ P, NumR w p.2 p.1.nums ∧ ∀ A n k, p.2 = .slice A n k → n ≤ k
theorem CmsC.at_ {w : World} {v : Value} {L : List Cm} (h : CmsC w v L) {k : Nat} (hk : k < L.length) : ∃ (b o cp : Nat) (c : Cm) (u : Value), v = .slice (some ⟨b, o, none⟩) L.length cp ∧ b < w.heap.size ∧ L[k]? = some c ∧ (NumR w u c.nums ∧ ∀ A n k, u = .slice A n k → n ≤ k) ∧ ∀ j x, (cmV c u)[j]? = some x → w.cell? ⟨b, o + k * 10 + j, none⟩ = some x := by
  obtain ⟨P, A, c, rfl, hP, ha, hn⟩ := h
  have hl : P.length = L.length := by rw [← hP, List.length_map]
  obtain ⟨p, hp⟩ : ∃ p, P[k]? = some p := ⟨_, List.getElem?_eq_getElem (by omega)⟩
  obtain ⟨b, o, rfl, hb, hc⟩ := ha.at_ hp
  exact ⟨b, o, c, p.1, p.2, rfl, hb, by rw [← hP, List.getElem?_map, hp]; rfl, hn p (List.mem_of_getElem? hp), hc⟩
/-- A row of commands that is nobody else's; their numbers lie where they lay in the world w0. -/
def CmsOw (base : Nat) (w0 w : World) (v : Value) (L : List Cm) : Prop := ∃ (P : List (Cm × Value)) (A : Option Addr) (c : Nat), v = .slice A L.length c ∧ P.map (·.1) = L ∧ w.ownsRow base 25 10 v L.length (P.flatMap encP) ∧ ∀ p ∈ P, NumR w0 p.2 p.1.nums
theorem CmsOw.nil (base : Nat) (w0 w : World) : CmsOw base w0 w (.slice none 0 0) [] := ⟨[], none, 0, rfl, rfl, owns_nil _ _ _ _, fun p h => by cases h⟩
theorem CmsOw.below {base : Nat} {w0 w w' : World} {v : Value} {L : List Cm} (h : CmsOw base w0 w v L) (hb : Below w.heap.size w w') : CmsOw base w0 w' v L := by
  obtain ⟨P, A, c, rfl, hP, ho, hn⟩ := h
  exact ⟨P, A, c, rfl, hP, owns_below ho hb, hn⟩
theorem CmsOw.reads {base : Nat} {w0 w : World} {v : Value} {L : List Cm} (h : CmsOw base w0 w v L) (hb : Below w0.heap.size w0 w) : CmsR w v L := by
  obtain ⟨P, A, c, rfl, hP, ho, hn⟩ := h
  refine ⟨P, A, c, rfl, hP, fun hl => ?_, fun p hp => (hn p hp).below hb⟩
  rw [List.length_map] at hl
  obtain ⟨g, rfl, _, hr, _⟩ := owns_row ho (by rw [← hP, List.length_map]; exact hl)
  exact hr.arr encP_len (by rw [List.length_map]; exact hl)
theorem CmsOw.push {base : Nat} {w0 w : World} {v u : Value} {L : List Cm} {c : Cm} (h : CmsOw base w0 w v L) (hu : NumR w0 u c.nums) (hb : base ≤ w.heap.size) (hl : L.length + 1 ≤ 100000000) :
    ∃ v' w2, vAppend Tryd.prog 31 31 31 v (.slice (some ⟨w.heap.size, 0, none⟩) 1 1) (w.alloc (.cells (cmV c u).toArray 25)) = .ok (.value v') w2 ∧ CmsOw base w0 w2 v' (L ++ [c]) ∧ Below base w w2 ∧ w.heap.size ≤ w2.heap.size := by
  obtain ⟨P, A, cp, rfl, hP, ho, hn⟩ := h
  obtain ⟨A0, c0, rfl, hu0⟩ := hu
  have hI : sliceI Tryd.prog 31 = some (25, 10, 112) := by kernel_rfl
  have hba := below_alloc w (.cells (cmV c (.slice A0 c.nums.length c0)).toArray 25)
  have ho1 := owns_below ho hba
  obtain ⟨A', c', w2, he, ho2, hg', _⟩ := vAppend_own (P := Tryd.prog) (T := 31) (ty := 31) (m := 1) (c := 1) (b := w.heap.size) (o := 0) (news := cmV c (.slice A0 c.nums.length c0)) hI ho1 rfl
    (fun j u hu => by rw [Nat.zero_add, (new_block w (cmV c (.slice A0 c.nums.length c0)).toArray 25).1 j]; simpa using hu) (fun u hu => by simp only [cmV, List.mem_cons, List.not_mem_nil, or_false] at hu; rcases hu with rfl | rfl | rfl | rfl | rfl | rfl | rfl | rfl | rfl | rfl <;> rfl) (by omega) (by omega) (by rw [World.size_alloc]; omega)
  have hgrow : Below base (w.alloc (.cells (cmV c (.slice A0 c.nums.length c0)).toArray 25)) w2 := grown_below hg' (fun g hg => (owns_ge ho hg).1) (by rw [World.size_alloc]; omega)
  have hB := (hba.mono hb).trans hgrow
  refine ⟨_, w2, he, ⟨P ++ [(c, .slice A0 c.nums.length c0)], A', c', by simp, by simp [hP], ?_, fun p hp => ?_⟩, hB, hB.size⟩
  · rw [List.length_append, List.flatMap_append]
    simpa [encP] using ho2
  · rcases List.mem_append.1 hp with h | h
    · exact hn p h
    · simp only [List.mem_cons, List.not_mem_nil, or_false] at h
      subst h
      exact ⟨A0, c0, rfl, hu0⟩
theorem some_any (v : Value) (L : List Cm) (w : World) (hv : CmsC w v L) (hm : ∀ c ∈ L, c.name.size ≤ 9223372036854775807 ∧ c.text.size ≤ 9223372036854775807 ∧ c.nums.length ≤ 9223372036854775807) (hl : L.length ≤ 9223372036854775807) :
    Calls Tryd.prog 14 #[v] w fun e w' => (∃ u, e = .returned u ∧ CmsR w' u ((L.take 12).map shortC)) ∧ Below w.heap.size w w' := by
  refine calls_W (l := [_]) Tryd.func14 rfl _ Tryd.ntmps14 (by simp) ?_
  obtain ⟨A, cp, rfl⟩ : ∃ A cp, v = .slice A L.length cp := by obtain ⟨P, A, c, rfl, _⟩ := hv; exact ⟨A, c, rfl⟩
  simp +contextual (maxSteps := 2000000) (disch := (first | omega | (simp only [SZ]; done) | (simp only [SZ]; omega) | (simp only [TS] at *; omega))) only [RZ, gval, gslot, fillL, ovw, numb, catL, ldN, agL, okC, oneC, init, Nat.reduceAdd, Nat.reduceMul, Nat.reduceSub, Nat.reduceEqDiff, Nat.reduceLT, ↓reduceIte, Int.reduceToNat, Int.reduceAdd, Int.reduceSub, Int.reduceMul, Int.reduceLT, Int.reduceLE, Int.reduceEq, Nat.reduceLeDiff]
  refine Raw_loop (fun σ w2 => Below w.heap.size w w2 ∧ ∃ (k : Nat) (u : Value), k ≤ L.length ∧ k ≤ 12 ∧ CmsOw w.heap.size w w2 u ((L.take k).map shortC) ∧ σ 0 = .slice A L.length cp ∧ σ 3 = u ∧ σ 4 = .int .i64 k) (fun σ _ => L.length - (intOf (σ 4)).toNat) ?_ ?_
  · simp +contextual (maxSteps := 2000000) (disch := (first | omega | (simp only [SZ]; done) | (simp only [SZ]; omega) | (simp only [TS] at *; omega))) only [RZ, gval, gslot, fillL, ovw, numb, catL, ldN, agL, okC, oneC, init, Nat.reduceAdd, Nat.reduceMul, Nat.reduceSub, Nat.reduceEqDiff, Nat.reduceLT, ↓reduceIte, Int.reduceToNat, Int.reduceAdd, Int.reduceSub, Int.reduceMul, Int.reduceLT, Int.reduceLE, Int.reduceEq, Nat.reduceLeDiff]
    exact ⟨Below.refl _ _, 0, _, by omega, by omega, CmsOw.nil _ _ _, rfl, rfl⟩
  rintro σ w2 ⟨hB, k, u, hk, hk12, hO, e0, e3, e4⟩ K hK
  have hs2 := hB.size
  obtain ⟨Pu, Au, cu, rfl, hPu, hou, hnu⟩ := hO
  have hO : CmsOw w.heap.size w w2 (.slice Au ((L.take k).map shortC).length cu) ((L.take k).map shortC) := ⟨Pu, Au, cu, rfl, hPu, hou, hnu⟩
  clear hou hnu hPu
  simp +contextual (maxSteps := 2000000) (disch := (first | omega | (simp only [SZ]; done) | (simp only [SZ]; omega) | (simp only [TS] at *; omega))) only [RZ, gval, gslot, fillL, ovw, numb, catL, ldN, agL, okC, oneC, init, Nat.reduceAdd, Nat.reduceMul, Nat.reduceSub, Nat.reduceEqDiff, Nat.reduceLT, ↓reduceIte, Int.reduceToNat, Int.reduceAdd, Int.reduceSub, Int.reduceMul, Int.reduceLT, Int.reduceLE, Int.reduceEq, Nat.reduceLeDiff,  e0, e3, e4]
  (refine W_if rfl (fun hc => ?_) (fun hc => ?_) <;> (try simp only [TS] at hc))
  · have hkl : k < L.length := by omega
    have hk1 : k < 12 := by omega
    clear hc
    obtain ⟨b, o, cp2, c, x, hvv, hbb, hLk, ⟨hN, hcap⟩, hcell0⟩ := hv.at_ hkl
    injection hvv with hA _ hcp
    subst hA hcp
    obtain ⟨hm1, hm2, hm3⟩ := hm c (List.mem_of_getElem? hLk)
    have hcell := fun (j : Nat) (y : Value) (hx : (cmV c x)[j]? = some y) => ((bcell hB).1 b (o + k * 10 + j) hbb).trans (hcell0 j y hx)
    have q : w2.cell? ⟨b, o + k * 10, none⟩ = some (.int .i64 c.kind) ∧ w2.cell? ⟨b, o + k * 10 + 1, none⟩ = some (.int .i64 c.at_) ∧ w2.cell? ⟨b, o + k * 10 + 2, none⟩ = some (.int .i64 c.who) ∧ w2.cell? ⟨b, o + k * 10 + 3, none⟩ = some (.int .i64 c.a) ∧ w2.cell? ⟨b, o + k * 10 + 4, none⟩ = some (.int .i64 c.b) ∧
        w2.cell? ⟨b, o + k * 10 + 5, none⟩ = some (.string c.name) ∧ w2.cell? ⟨b, o + k * 10 + 6, none⟩ = some (.string c.text) ∧ w2.cell? ⟨b, o + k * 10 + 7, none⟩ = some x ∧ w2.cell? ⟨b, o + k * 10 + 8, none⟩ = some (.int .u64 c.key) ∧ w2.cell? ⟨b, o + k * 10 + 9, none⟩ = some (.int .u64 c.nonce) :=
      ⟨hcell 0 _ rfl, hcell 1 _ rfl, hcell 2 _ rfl, hcell 3 _ rfl, hcell 4 _ rfl, hcell 5 _ rfl, hcell 6 _ rfl, hcell 7 _ rfl, hcell 8 _ rfl, hcell 9 _ rfl⟩
    clear hcell hcell0
    simp +contextual (maxSteps := 2000000) (disch := (first | omega | (simp only [SZ]; done) | (simp only [SZ]; omega) | (simp only [TS] at *; omega))) only [RZ, gval, gslot, fillL, ovw, numb, catL, ldN, agL, okC, oneC, init, Nat.reduceAdd, Nat.reduceMul, Nat.reduceSub, Nat.reduceEqDiff, Nat.reduceLT, ↓reduceIte, Int.reduceToNat, Int.reduceAdd, Int.reduceSub, Int.reduceMul, Int.reduceLT, Int.reduceLE, Int.reduceEq, Nat.reduceLeDiff,  q, e0, e3, e4]
    refine (short_any c x w2 (hN.below hB) hcap hm1 hm2 hm3).mono ?_
    rintro e w3 ⟨⟨y, rfl, hy⟩, hb3⟩
    refine ⟨_, rfl, ?_⟩
    have hB3 := hB.trans (hb3.mono hs2)
    have hs3 := hB3.size
    have hyn := hy w hN
    unfold cmV
    simp +contextual (maxSteps := 2000000) (disch := (first | omega | (simp only [SZ]; done) | (simp only [SZ]; omega) | (simp only [TS] at *; omega))) only [RZ, gval, gslot, fillL, ovw, numb, catL, ldN, agL, okC, oneC, init, Nat.reduceAdd, Nat.reduceMul, Nat.reduceSub, Nat.reduceEqDiff, Nat.reduceLT, ↓reduceIte, Int.reduceToNat, Int.reduceAdd, Int.reduceSub, Int.reduceMul, Int.reduceLT, Int.reduceLE, Int.reduceEq, Nat.reduceLeDiff,  e0, e3, e4]
    obtain ⟨v', w4, he, hO4, hb4, hs4⟩ := (hO.below hb3).push hyn hs3 (by rw [List.length_map, List.length_take]; omega)
    refine Okv_of he ?_
    refine hK _ _ ⟨hB3.trans hb4, k + 1, v', by omega, by omega, ?_, ?_⟩ ?_
    · rw [List.take_add_one, hLk, List.map_append]
      exact hO4
    · simp +contextual (maxSteps := 2000000) (disch := (first | omega | (simp only [SZ]; done) | (simp only [SZ]; omega) | (simp only [TS] at *; omega))) only [RZ, gval, gslot, fillL, ovw, numb, catL, ldN, agL, okC, oneC, init, Nat.reduceAdd, Nat.reduceMul, Nat.reduceSub, Nat.reduceEqDiff, Nat.reduceLT, ↓reduceIte, Int.reduceToNat, Int.reduceAdd, Int.reduceSub, Int.reduceMul, Int.reduceLT, Int.reduceLE, Int.reduceEq, Nat.reduceLeDiff,  e0, e3, e4]
    · simp +contextual (maxSteps := 2000000) (disch := (first | omega | (simp only [SZ]; done) | (simp only [SZ]; omega) | (simp only [TS] at *; omega))) only [RZ, gval, gslot, fillL, ovw, numb, catL, ldN, agL, okC, oneC, init, Nat.reduceAdd, Nat.reduceMul, Nat.reduceSub, Nat.reduceEqDiff, Nat.reduceLT, ↓reduceIte, Int.reduceToNat, Int.reduceAdd, Int.reduceSub, Int.reduceMul, Int.reduceLT, Int.reduceLE, Int.reduceEq, Nat.reduceLeDiff,  intOf, e4]
      omega
  · have hke : (L.take k) = L.take 12 := by
      rcases Nat.lt_or_ge k 12 with h | h
      · rw [List.take_of_length_le (by omega), List.take_of_length_le (by omega)]
      · rw [show k = 12 by omega]
    rw [hke] at hO
    simp +contextual (maxSteps := 2000000) (disch := (first | omega | (simp only [SZ]; done) | (simp only [SZ]; omega) | (simp only [TS] at *; omega))) only [RZ, gval, gslot, fillL, ovw, numb, catL, ldN, agL, okC, oneC, init, Nat.reduceAdd, Nat.reduceMul, Nat.reduceSub, Nat.reduceEqDiff, Nat.reduceLT, ↓reduceIte, Int.reduceToNat, Int.reduceAdd, Int.reduceSub, Int.reduceMul, Int.reduceLT, Int.reduceLE, Int.reduceEq, Nat.reduceLeDiff,  e0, e3, e4]
    exact ⟨⟨_, by rw [hke], hO.reads hB⟩, hB⟩
end Go.Proofs.YtjaeiiiniohloaaDoor
/- Walks: works. -/
namespace Go.Proofs.YtjaeiiiniohloaaDoor
open Go.RowKit
set_option maxRecDepth 100000
def wkC : Cm := { Cm.zero with kind := 6, at_ := 5, who := 3, a := 1, b := 0, name := ⟨#[108, 111, 116, 116, 111]⟩, text := ⟨#[49, 32, 50, 32, 51, 32, 52, 32, 53, 32, 54]⟩ }
def wkT : ByteArray := ⟨#[53, 32, 115, 101, 108, 108, 32, 51, 32, 49, 32, 48, 32, 108, 111, 116, 116, 111, 32, 34, 49, 32, 50, 32, 51, 32, 52, 32, 53, 32, 54, 34, 10]⟩
theorem wk_ok : wkC.ok := by
  refine ⟨by decide, by decide, by decide, by decide, by decide, ?_, by decide, by decide⟩
  intro n hn
  cases hn
theorem wk_chk : chkE wkC = 0 := by kernel_rfl
theorem fmtI_small {n : Nat} (h : n < 10) : fmtI n = [48 + n] := by rw [fmtI_nonneg (by omega), show ((n : Int)).toNat = n from Int.toNat_natCast n, dec_lt h]
theorem wk_pr : [wkC].flatMap prL = bs wkT := by
  have e1 : fmtI 5 = [53] := fmtI_small (n := 5) (by decide)
  have e2 : fmtI 3 = [51] := fmtI_small (n := 3) (by decide)
  have e3 : fmtI 1 = [49] := fmtI_small (n := 1) (by decide)
  have e4 : fmtI 0 = [48] := fmtI_small (n := 0) (by decide)
  have e5 : fmOf wkC.kind = some ⟨6, asc "sell", asc "wabnt", 0⟩ := by kernel_rfl
  have e6 : asc "wabnt" = [119, 97, 98, 110, 116] := by kernel_rfl
  have e7 : asc "sell" = [115, 101, 108, 108] := by kernel_rfl
  rw [List.flatMap_cons, List.flatMap_nil, List.append_nil]
  unfold prL
  rw [e5]
  simp only [e6, e7, List.flatMap_cons, List.flatMap_nil, prF, wkC, e1, e2, e3, e4, ↓reduceIte, Nat.reduceEqDiff]
  first | rfl | decide
theorem wk_parse : parseS (bs wkT) = .ok [wkC] ∧ printE [wkC] = (bs wkT, 0) := by
  have h := parse_print (L := [wkC]) (fun c hc => by simp at hc; subst hc; exact ⟨wk_ok, wk_chk⟩) (by decide) (by rw [wk_pr]; decide)
  rw [wk_pr] at h
  exact ⟨h.2, h.1⟩
theorem works_any (w : World) (hL : Laid w) : Calls Tryd.prog 13 #[] w fun e w' => e = .returned (.bool true) ∧ Below w.heap.size w w' := by
  refine calls_W (l := []) Tryd.func13 rfl _ Tryd.ntmps13 (by simp) ?_
  simp +contextual (maxSteps := 2000000) (disch := (first | omega | (simp only [SZ]; done) | (simp only [SZ]; omega) | (simp only [TS] at *; omega))) only [RZ, gval, gslot, fillL, ovw, numb, catL, ldN, agL, okC, oneC, init, Nat.reduceAdd, Nat.reduceMul, Nat.reduceSub, Nat.reduceEqDiff, Nat.reduceLT, ↓reduceIte, Int.reduceToNat, Int.reduceAdd, Int.reduceSub, Int.reduceMul, Int.reduceLT, Int.reduceLE, Int.reduceEq, Nat.reduceLeDiff]
  have hp := parse_any wkT w hL (by decide)
  rw [wk_parse.1] at hp
  refine hp.mono ?_
  rintro e w1 ⟨⟨v, rfl, hC⟩, hb1⟩
  have hR := hC.reads
  refine ⟨_, rfl, ?_⟩
  obtain ⟨b, o, cp, c, u, rfl, hbb, hLk, hN, hcell⟩ := hR.at_ (k := 0) (by decide)
  simp only [List.getElem?_cons_zero, Option.some.injEq] at hLk
  subst hLk
  have q0 := hcell 0 _ rfl
  have q1 := hcell 1 _ rfl
  have q2 := hcell 2 _ rfl
  have q3 := hcell 3 _ rfl
  have q5 := hcell 5 _ rfl
  have q6 := hcell 6 _ rfl
  rw [Nat.zero_mul, Nat.add_zero] at q0 q1 q2 q3 q5 q6
  simp only [wkC, List.length_cons, List.length_nil, Nat.zero_add] at *
  simp +contextual (maxSteps := 2000000) (disch := (first | omega | (simp only [SZ]; done) | (simp only [SZ]; omega) | (simp only [TS] at *; omega))) only [RZ, gval, gslot, fillL, ovw, numb, catL, ldN, agL, okC, oneC, init, Nat.reduceAdd, Nat.reduceMul, Nat.reduceSub, Nat.reduceEqDiff, Nat.reduceLT, ↓reduceIte, Int.reduceToNat, Int.reduceAdd, Int.reduceSub, Int.reduceMul, Int.reduceLT, Int.reduceLE, Int.reduceEq, Nat.reduceLeDiff,  q0, q1, q2, q3, q5, q6]
  (refine W_if rfl (fun hc => ?_) (fun hc => ?_) <;> (try simp only [TS] at hc))
  · exfalso
    simp at hc
  clear hc
  simp +contextual (maxSteps := 2000000) (disch := (first | omega | (simp only [SZ]; done) | (simp only [SZ]; omega) | (simp only [TS] at *; omega))) only [RZ, gval, gslot, fillL, ovw, numb, catL, ldN, agL, okC, oneC, init, Nat.reduceAdd, Nat.reduceMul, Nat.reduceSub, Nat.reduceEqDiff, Nat.reduceLT, ↓reduceIte, Int.reduceToNat, Int.reduceAdd, Int.reduceSub, Int.reduceMul, Int.reduceLT, Int.reduceLE, Int.reduceEq, Nat.reduceLeDiff]
  have hpr := print_any _ [wkC] w1 (hL.below hb1 hL.size) hR (fun c hc => by simp at hc; subst hc; exact ⟨wk_ok, by decide, by decide, by decide⟩) (by decide)
  rw [wk_parse.2] at hpr
  simp only [toBA_bs, wkT] at hpr
  refine hpr.mono ?_
  rintro e w2 ⟨rfl, hb2⟩
  refine ⟨_, rfl, ?_⟩
  simp +contextual (maxSteps := 2000000) (disch := (first | omega | (simp only [SZ]; done) | (simp only [SZ]; omega) | (simp only [TS] at *; omega))) only [RZ, gval, gslot, fillL, ovw, numb, catL, ldN, agL, okC, oneC, init, Nat.reduceAdd, Nat.reduceMul, Nat.reduceSub, Nat.reduceEqDiff, Nat.reduceLT, ↓reduceIte, Int.reduceToNat, Int.reduceAdd, Int.reduceSub, Int.reduceMul, Int.reduceLT, Int.reduceLE, Int.reduceEq, Nat.reduceLeDiff]
  exact hb1.trans (hb2.mono hb1.size)
end Go.Proofs.YtjaeiiiniohloaaDoor
/- Plain: more on the lines of a script: how many commands a text can hold; an error is no zero. -/
namespace Go.Proofs.YtjaeiiiniohloaaDoor
theorem scrS_half : ∀ (n : Nat) (l : List Nat) (cnt num : Nat) (L : List Cm), l.length ≤ n → scrS cnt num l = .ok L → 2 * L.length ≤ l.length + 1
  | 0, l, cnt, num, L, hl, h => by
    have : l = [] := List.length_eq_zero_iff.1 (by omega)
    subst this
    rw [scrS_nil] at h
    injection h with h; subst h; simp
  | n + 1, l, cnt, num, L, hl, h => by
    obtain ⟨t, ht, hs⟩ := line_split l
    by_cases h0 : l = []
    · subst h0
      rw [scrS_nil] at h
      injection h with h; subst h; simp
    rcases hs with rfl | ⟨r, rfl⟩
    · have hp : 0 < l.length := List.length_pos_iff.2 h0
      rw [scrS_last ht h0] at h
      unfold stepS at h
      split at h
      · injection h with h; subst h; simp
      split at h
      · cases h
      cases hc : lineS l with
      | error e => rw [hc] at h; cases h
      | ok c =>
        rw [hc] at h
        simp only [consS] at h
        injection h with h
        subst h
        simp only [List.length_cons, List.length_nil]
        omega
    · rw [List.length_append, List.length_cons] at hl ⊢
      rw [scrS_line ht] at h
      unfold stepS at h
      split at h
      · have := scrS_half n r _ _ _ (by omega) h
        omega
      rename_i hne
      rw [not_or] at hne
      split at h
      · cases h
      cases hc : lineS t with
      | error e => rw [hc] at h; cases h
      | ok c =>
        rw [hc] at h
        simp only at h
        have htp : 0 < t.length := List.length_pos_iff.2 hne.1
        cases hr : scrS (cnt + 1) (num + 1) r with
        | error e => rw [hr] at h; cases h
        | ok M =>
          rw [hr] at h
          simp only [consS] at h
          injection h with h
          subst h
          have := scrS_half n r _ _ _ (by omega) hr
          simp only [List.length_cons]
          omega
theorem lineS_ne {l : List Nat} {x : Int} (h : lineS l = .error x) : x ≠ 0 := by
  unfold lineS at h
  split at h
  · injection h with h; omega
  · split at h
    · injection h with h; omega
    · split at h
      · injection h with h; omega
      · split at h
        · injection h with h; omega
        · split at h
          · injection h with h; omega
          · cases h
theorem scrS_err : ∀ (n : Nat) (l : List Nat) (cnt num : Nat) (x : Int) (m : Nat), l.length ≤ n → scrS cnt num l = .error (x, m) → x ≠ 0
  | 0, l, cnt, num, x, m, hl, h => by
    have : l = [] := List.length_eq_zero_iff.1 (by omega)
    subst this
    rw [scrS_nil] at h
    cases h
  | n + 1, l, cnt, num, x, m, hl, h => by
    obtain ⟨t, ht, hs⟩ := line_split l
    by_cases h0 : l = []
    · subst h0
      rw [scrS_nil] at h
      cases h
    rcases hs with rfl | ⟨r, rfl⟩
    · rw [scrS_last ht h0] at h
      unfold stepS at h
      split at h
      · cases h
      split at h
      · injection h with h; injection h with h _; omega
      cases hc : lineS l with
      | error e => rw [hc] at h; injection h with h; injection h with h _; subst h; exact lineS_ne hc
      | ok c => rw [hc] at h; cases h
    · rw [List.length_append, List.length_cons] at hl
      rw [scrS_line ht] at h
      unfold stepS at h
      split at h
      · exact scrS_err n r _ _ _ _ (by omega) h
      split at h
      · injection h with h; injection h with h _; omega
      cases hc : lineS t with
      | error e => rw [hc] at h; injection h with h; injection h with h _; subst h; exact lineS_ne hc
      | ok c =>
        rw [hc] at h
        simp only at h
        cases hr : scrS (cnt + 1) (num + 1) r with
        | ok M => rw [hr] at h; cases h
        | error e =>
          rw [hr] at h
          obtain ⟨y, k⟩ := e
          simp only [consS] at h
          injection h with h; injection h with h _; subst h
          exact scrS_err n r _ _ _ _ (by omega) hr
theorem parseS_err {l : List Nat} {x : Int} {m : Nat} (h : parseS l = .error (x, m)) : x ≠ 0 := by
  unfold parseS at h
  split at h
  · injection h with h; injection h with h _; omega
  · exact scrS_err _ _ _ _ _ _ (Nat.le_refl _) h
theorem parseS_ok {l : List Nat} {L : List Cm} (hl : l.length ≤ 1000) (h : parseS l = .ok L) : (∀ c ∈ L, c.ok ∧ chkE c = 0) ∧ 2 * L.length ≤ l.length + 1 ∧ (L.flatMap prL).length ≤ 330 * l.length := by
  unfold parseS at h
  rw [if_neg (by omega)] at h
  obtain ⟨g1, g2, g3⟩ := scrS_ok _ _ _ _ _ (Nat.le_refl _) h
  exact ⟨g1, scrS_half _ _ _ _ _ (Nat.le_refl _) h, g3⟩
theorem again_law2 {l : List Nat} {L : List Cm} (hl : l.length ≤ 600) (h : parseS l = .ok L) : printE L = (L.flatMap prL, 0) ∧ parseS (L.flatMap prL) = .ok L := by
  obtain ⟨g1, g2, g3⟩ := parseS_ok (by omega) h
  exact parse_print g1 (by omega) (by omega)
theorem parts_law2 (a b : List Nat) (ha : a.length ≤ 300) (hb : b.length ≤ 300) : parseS (a ++ 10 :: b) = joinS (parseS a) fun _ => shE (a.count 10 + 1) (parseS b) := by
  unfold parseS
  rw [if_neg (by simp only [List.length_append, List.length_cons]; omega), if_neg (by omega), if_neg (by omega), scrS_append _ _ _ (Nat.le_refl _)]
  cases hL : scrS 0 0 a with
  | error e => rfl
  | ok L =>
    have := scrS_half _ _ _ _ _ (Nat.le_refl _) hL
    simp only [joinS]
    rw [scrS_sh _ b (Nat.le_refl _) (0 + L.length) 0 (0 + (a.count 10 + 1)) (by omega) (by omega), Nat.zero_add]
theorem scrS_bd : ∀ (n : Nat) (l : List Nat) (cnt num : Nat) (x : Int) (m : Nat), l.length ≤ n → scrS cnt num l = .error (x, m) → m ≤ num + l.length
  | 0, l, cnt, num, x, m, hl, h => by
    have : l = [] := List.length_eq_zero_iff.1 (by omega)
    subst this
    rw [scrS_nil] at h
    cases h
  | n + 1, l, cnt, num, x, m, hl, h => by
    obtain ⟨t, ht, hs⟩ := line_split l
    by_cases h0 : l = []
    · subst h0
      rw [scrS_nil] at h
      cases h
    rcases hs with rfl | ⟨r, rfl⟩
    · have hp : 0 < l.length := List.length_pos_iff.2 h0
      rw [scrS_last ht h0] at h
      unfold stepS at h
      split at h
      · cases h
      split at h
      · injection h with h; injection h with _ h; omega
      cases hc : lineS l with
      | error e => rw [hc] at h; injection h with h; injection h with _ h; omega
      | ok c => rw [hc] at h; cases h
    · rw [List.length_append, List.length_cons] at hl ⊢
      rw [scrS_line ht] at h
      unfold stepS at h
      split at h
      · have := scrS_bd n r _ _ _ _ (by omega) h
        omega
      split at h
      · injection h with h; injection h with _ h; omega
      cases hc : lineS t with
      | error e => rw [hc] at h; injection h with h; injection h with _ h; omega
      | ok c =>
        rw [hc] at h
        simp only at h
        cases hr : scrS (cnt + 1) (num + 1) r with
        | ok M => rw [hr] at h; cases h
        | error e =>
          rw [hr] at h
          obtain ⟨y, k⟩ := e
          simp only [consS] at h
          injection h with h; injection h with _ h; subst h
          have := scrS_bd n r _ _ _ _ (by omega) hr
          omega
theorem parseS_bd {l : List Nat} {x : Int} {m : Nat} (h : parseS l = .error (x, m)) : m ≤ l.length := by
  unfold parseS at h
  split at h
  · injection h with h; injection h with _ h; omega
  · have := scrS_bd _ _ _ _ _ _ (Nat.le_refl _) h
    omega
end Go.Proofs.YtjaeiiiniohloaaDoor
/- The laws ScriptChecks, ScriptPrints. -/
namespace Go.Proofs.YtjaeiiiniohloaaDoor
open Go.RowKit
set_option maxRecDepth 100000
/-- A command that came in. -/
def Cm.came (c : Cm) : Prop := c.ok ∧ c.name.size ≤ 9223372036854775807 ∧ c.text.size ≤ 9223372036854775807 ∧ c.nums.length ≤ 9223372036854775807
theorem short_mid {c : Cm} (h : c.came) : (shortC c).mid ∧ (shortC c).text.size ≤ 100 ∧ (shortC c).nums.length ≤ 12 := by
  obtain ⟨⟨h0, h1, h2, h3, h4, h5, h6, h7⟩, hn, ht, hl⟩ := h
  have a1 : (shortC c).name.size ≤ 40 := by show (c.name.extract 0 (min c.name.size 40)).size ≤ 40; rw [ByteArray.size_extract]; omega
  have a2 : (shortC c).text.size ≤ 100 := by show (c.text.extract 0 (min c.text.size 100)).size ≤ 100; rw [ByteArray.size_extract]; omega
  have a3 : (shortC c).nums.length ≤ 12 := by show (c.nums.take 12).length ≤ 12; rw [List.length_take]; omega
  exact ⟨⟨⟨h0, h1, h2, h3, h4, fun n hn => h5 n (List.mem_of_mem_take hn), h6, h7⟩, by omega, by omega, by omega⟩, a2, a3⟩
theorem some_mid (L : List Cm) (h : ∀ c ∈ L, c.came) : ∀ c ∈ (L.take 12).map shortC, c.mid ∧ c.text.size ≤ 100 ∧ c.nums.length ≤ 12 := fun c hc => by
  obtain ⟨d, hd, rfl⟩ := List.mem_map.1 hc
  exact short_mid (h d (List.mem_of_mem_take hd))
theorem checks_any (c : Cm) (v : Value) (w : World) (hL : Laid w) (hv : NumR w v c.nums) (hcap : ∀ A n k, v = .slice A n k → n ≤ k) (hc : c.came) :
    Calls Tryd.prog 3 #[.agg (cmV c v).toArray] w fun e w' => e = .returned (.bool true) ∧ Below w.heap.size w w' := by
  refine calls_W (l := [_]) Tryd.func3 rfl _ Tryd.ntmps3 (by simp) ?_
  obtain ⟨A, ca, rfl, harr⟩ := hv
  have hv : NumR w (.slice A c.nums.length ca) c.nums := ⟨A, ca, rfl, harr⟩
  have hsz := hL.size
  have ec : (cmV c (.slice A c.nums.length ca)).toArray = #[.int .i64 c.kind, .int .i64 c.at_, .int .i64 c.who, .int .i64 c.a, .int .i64 c.b, .string c.name, .string c.text, .slice A c.nums.length ca, .int .u64 c.key, .int .u64 c.nonce] := rfl
  rw [ec]
  simp +contextual (maxSteps := 2000000) (disch := (first | omega | (simp only [SZ]; done) | (simp only [SZ]; omega) | (simp only [TS] at *; omega))) only [RZ, gval, gslot, fillL, ovw, numb, catL, ldN, agL, okC, oneC, init, Nat.reduceAdd, Nat.reduceMul, Nat.reduceSub, Nat.reduceEqDiff, Nat.reduceLT, ↓reduceIte, Int.reduceToNat, Int.reduceAdd, Int.reduceSub, Int.reduceMul, Int.reduceLT, Int.reduceLE, Int.reduceEq, Nat.reduceLeDiff]
  generalize hw1 : w.alloc _ = w1
  have hb1 : Below w.heap.size w w1 := by rw [← hw1]; exact below_alloc _ _
  have hr1 : Row w1 w.heap.size 25 (cmV c (.slice A c.nums.length ca)) := by rw [← hw1]; exact Row.new _ _ _
  clear hw1
  have hs1 := hb1.size
  have hr1lt := hr1.lt
  refine (short_any c _ w1 (hv.below hb1) hcap hc.2.1 hc.2.2.1 hc.2.2.2).mono ?_
  rintro e w2 ⟨⟨u, rfl, hu⟩, hb2⟩
  refine ⟨_, rfl, ?_⟩
  have hB2 := hb1.trans (hb2.mono hs1)
  have hs2 := hb2.size
  have hr2 := hr1.below hb2
  have hu := hu w2 (hv.below hB2)
  obtain ⟨⟨hok, n1, n2, n3⟩, _, _⟩ := short_mid hc
  obtain ⟨B, cb, rfl, harrB⟩ := hu
  generalize shortC c = d at *
  have t2 := hr2.ten
  unfold cmV at t2
  have hr3 : Row (w2.setCells w.heap.size 0 (cmV d (.slice B d.nums.length cb))) w.heap.size 25 (cmV d (.slice B d.nums.length cb)) :=
    ((((((((((hr2.set_ (i := 0) (by simp [cmV]) (.int .i64 d.kind)).set_ (i := 1) (by simp [cmV]) (.int .i64 d.at_)).set_ (i := 2) (by simp [cmV]) (.int .i64 d.who)).set_ (i := 3) (by simp [cmV]) (.int .i64 d.a)).set_ (i := 4) (by simp [cmV]) (.int .i64 d.b)).set_ (i := 5) (by simp [cmV]) (.string d.name)).set_ (i := 6) (by simp [cmV]) (.string d.text)).set_ (i := 7) (by simp [cmV]) (.slice B d.nums.length cb)).set_ (i := 8) (by simp [cmV]) (.int .u64 d.key)).set_ (i := 9) (by simp [cmV]) (.int .u64 d.nonce))
  have hB3 := below_ten hB2 (Nat.le_refl _) (cmV d (.slice B d.nums.length cb)) 0
  unfold cmV at hr3 hB3
  simp only [setCells_cons, setCells_nil, Nat.reduceAdd, Nat.zero_add] at hr3 hB3
  unfold cmV
  simp +contextual (maxSteps := 2000000) (disch := (first | omega | (simp only [SZ]; done) | (simp only [SZ]; omega) | (simp only [TS] at *; omega))) only [RZ, gval, gslot, fillL, ovw, numb, catL, ldN, agL, okC, oneC, init, Nat.reduceAdd, Nat.reduceMul, Nat.reduceSub, Nat.reduceEqDiff, Nat.reduceLT, ↓reduceIte, Int.reduceToNat, Int.reduceAdd, Int.reduceSub, Int.reduceMul, Int.reduceLT, Int.reduceLE, Int.reduceEq, Nat.reduceLeDiff,  t2]
  generalize hw3 : World.setCell _ _ _ = w3 at hr3 hB3 ⊢
  have hs3 := hB3.size
  have hr3' : Row w3 w.heap.size 25 (cmV d (.slice B d.nums.length cb)) := hr3
  have hlt3 := hr3'.lt
  have hL3 := hL.below hB3 hsz
  have h0 : Below w3.heap.size w3.drew w3.drew := Below.refl _ _
  refine Raw_rcS (fun w' => Below w3.heap.size w3.drew w') (τ := ?ta) [0, 2] [1, 3, 4, 5, 6, 7, 8] MX rfl (by kernel_rfl) (by kernel_rfl) (by kernel_rfl) (fun _ _ _ h => h) h0 (fun w' hw' => ?_) ?_; rotate_left
  · have hrx := (hr3'.drew.below hw').ten
    unfold cmV at hrx
    simp only [opsL_cons, opsL_nil, List.getElem?_toArray, List.getElem?_cons_zero, List.getElem?_cons_succ, optL_some]
    simp +contextual (maxSteps := 2000000) (disch := (first | omega | (simp only [SZ]; done) | (simp only [SZ]; omega) | (simp only [TS] at *; omega))) only [RZ, gval, gslot, fillL, ovw, numb, catL, ldN, agL, okC, oneC, init, Nat.reduceAdd, Nat.reduceMul, Nat.reduceSub, Nat.reduceEqDiff, Nat.reduceLT, ↓reduceIte, Int.reduceToNat, Int.reduceAdd, Int.reduceSub, Int.reduceMul, Int.reduceLT, Int.reduceLE, Int.reduceEq, Nat.reduceLeDiff,  hrx]
    exact rfl
  simp only [opsL_cons, opsL_nil, List.getElem?_toArray, List.getElem?_cons_zero, List.getElem?_cons_succ, optL_some]
  simp +contextual (maxSteps := 2000000) (disch := (first | omega | (simp only [SZ]; done) | (simp only [SZ]; omega) | (simp only [TS] at *; omega))) only [RZ, gval, gslot, fillL, ovw, numb, catL, ldN, agL, okC, oneC, init, Nat.reduceAdd, Nat.reduceMul, Nat.reduceSub, Nat.reduceEqDiff, Nat.reduceLT, ↓reduceIte, Int.reduceToNat, Int.reduceAdd, Int.reduceSub, Int.reduceMul, Int.reduceLT, Int.reduceLE, Int.reduceEq, Nat.reduceLeDiff,  EC_op, EC_nil, EC_opg, h0]
  refine (check_any d B cb w3.drew (hL.below hB3.drew hsz) (by omega) (by omega) (by omega)).mono ?_
  rintro e w4 ⟨rfl, hb4⟩
  have hb4 : Below w3.heap.size w3.drew w4 := hb4
  have hs4 := hb4.size
  have hs4' : w3.heap.size ≤ w4.heap.size := hs4
  refine ⟨_, rfl, hb4, ?_⟩
  refine (rcheck_any d B cb w4 (by omega) (by omega) (by omega)).mono ?_
  rintro e w5 ⟨rfl, hb5⟩
  have hB5 : Below w3.heap.size w3.drew w5 := hb4.trans (hb5.mono hs4)
  have hs5 : w3.heap.size ≤ w5.heap.size := hB5.size
  refine ⟨_, rfl, hB5, ?_⟩
  rw [rchk_is]
  have hBw : Below w.heap.size w w5 := hB3.drew.trans (hB5.mono hs3)
  simp +contextual (maxSteps := 2000000) (disch := (first | omega | (simp only [SZ]; done) | (simp only [SZ]; omega) | (simp only [TS] at *; omega))) only [RZ, gval, gslot, fillL, ovw, numb, catL, ldN, agL, okC, oneC, init, Nat.reduceAdd, Nat.reduceMul, Nat.reduceSub, Nat.reduceEqDiff, Nat.reduceLT, ↓reduceIte, Int.reduceToNat, Int.reduceAdd, Int.reduceSub, Int.reduceMul, Int.reduceLT, Int.reduceLE, Int.reduceEq, Nat.reduceLeDiff,  EC_op, EC_nil, EC_opg, hB5]
  refine (works_any w5 (hL.below hBw hsz)).mono ?_
  rintro e w6 ⟨rfl, hb6⟩
  have hB6 : Below w3.heap.size w3.drew w6 := hB5.trans (hb6.mono hs5)
  refine ⟨_, rfl, hB6, ?_⟩
  simp +contextual (maxSteps := 2000000) (disch := (first | omega | (simp only [SZ]; done) | (simp only [SZ]; omega) | (simp only [TS] at *; omega))) only [RZ, gval, gslot, fillL, ovw, numb, catL, ldN, agL, okC, oneC, init, Nat.reduceAdd, Nat.reduceMul, Nat.reduceSub, Nat.reduceEqDiff, Nat.reduceLT, ↓reduceIte, Int.reduceToNat, Int.reduceAdd, Int.reduceSub, Int.reduceMul, Int.reduceLT, Int.reduceLE, Int.reduceEq, Nat.reduceLeDiff,  EC_op, EC_nil, EC_opg, hB6]
  exact hBw.trans (hb6.mono hBw.size)
theorem prints_any (v : Value) (L : List Cm) (w : World) (hL : Laid w) (hv : CmsC w v L) (hm : ∀ c ∈ L, c.came) (hl : L.length ≤ 9223372036854775807) :
    Calls Tryd.prog 4 #[v] w fun e w' => e = .returned (.bool true) ∧ Below w.heap.size w w' := by
  refine calls_W (l := [_]) Tryd.func4 rfl _ Tryd.ntmps4 (by simp) ?_
  have hsz := hL.size
  simp +contextual (maxSteps := 2000000) (disch := (first | omega | (simp only [SZ]; done) | (simp only [SZ]; omega) | (simp only [TS] at *; omega))) only [RZ, gval, gslot, fillL, ovw, numb, catL, ldN, agL, okC, oneC, init, Nat.reduceAdd, Nat.reduceMul, Nat.reduceSub, Nat.reduceEqDiff, Nat.reduceLT, ↓reduceIte, Int.reduceToNat, Int.reduceAdd, Int.reduceSub, Int.reduceMul, Int.reduceLT, Int.reduceLE, Int.reduceEq, Nat.reduceLeDiff]
  refine (some_any v L w hv (fun c hc => (hm c hc).2) hl).mono ?_
  rintro e w1 ⟨⟨u, rfl, hu⟩, hb1⟩
  refine ⟨_, rfl, ?_⟩
  have hs1 := hb1.size
  have hM := some_mid L hm
  have hMl : ((L.take 12).map shortC).length ≤ 1000000 := by rw [List.length_map, List.length_take]; omega
  generalize (L.take 12).map shortC = M at *
  obtain ⟨A, cp, rfl⟩ : ∃ A cp, u = .slice A M.length cp := by obtain ⟨P, A, c, rfl, _⟩ := hu; exact ⟨A, c, rfl⟩
  simp +contextual (maxSteps := 2000000) (disch := (first | omega | (simp only [SZ]; done) | (simp only [SZ]; omega) | (simp only [TS] at *; omega))) only [RZ, gval, gslot, fillL, ovw, numb, catL, ldN, agL, okC, oneC, init, Nat.reduceAdd, Nat.reduceMul, Nat.reduceSub, Nat.reduceEqDiff, Nat.reduceLT, ↓reduceIte, Int.reduceToNat, Int.reduceAdd, Int.reduceSub, Int.reduceMul, Int.reduceLT, Int.reduceLE, Int.reduceEq, Nat.reduceLeDiff]
  refine (print_any _ M w1 (hL.below hb1 hsz) hu (fun c hc => (hM c hc).1) hMl).mono ?_
  rintro e w2 ⟨rfl, hb2⟩
  refine ⟨_, rfl, ?_⟩
  have hB2 := hb1.trans (hb2.mono hs1)
  simp +contextual (maxSteps := 2000000) (disch := (first | omega | (simp only [SZ]; done) | (simp only [SZ]; omega) | (simp only [TS] at *; omega))) only [RZ, gval, gslot, fillL, ovw, numb, catL, ldN, agL, okC, oneC, init, Nat.reduceAdd, Nat.reduceMul, Nat.reduceSub, Nat.reduceEqDiff, Nat.reduceLT, ↓reduceIte, Int.reduceToNat, Int.reduceAdd, Int.reduceSub, Int.reduceMul, Int.reduceLT, Int.reduceLE, Int.reduceEq, Nat.reduceLeDiff]
  refine (rprint_any _ M w2 (hu.below hb2) (fun c hc => (hM c hc).1) hMl).mono ?_
  rintro e w3 ⟨rfl, hb3⟩
  refine ⟨_, rfl, ?_⟩
  have hB3 := hB2.trans (hb3.mono hB2.size)
  simp +contextual (maxSteps := 2000000) (disch := (first | omega | (simp only [SZ]; done) | (simp only [SZ]; omega) | (simp only [TS] at *; omega))) only [RZ, gval, gslot, fillL, ovw, numb, catL, ldN, agL, okC, oneC, init, Nat.reduceAdd, Nat.reduceMul, Nat.reduceSub, Nat.reduceEqDiff, Nat.reduceLT, ↓reduceIte, Int.reduceToNat, Int.reduceAdd, Int.reduceSub, Int.reduceMul, Int.reduceLT, Int.reduceLE, Int.reduceEq, Nat.reduceLeDiff]
  refine (works_any w3 (hL.below hB3 hsz)).mono ?_
  rintro e w4 ⟨rfl, hb4⟩
  refine ⟨_, rfl, ?_⟩
  simp +contextual (maxSteps := 2000000) (disch := (first | omega | (simp only [SZ]; done) | (simp only [SZ]; omega) | (simp only [TS] at *; omega))) only [RZ, gval, gslot, fillL, ovw, numb, catL, ldN, agL, okC, oneC, init, Nat.reduceAdd, Nat.reduceMul, Nat.reduceSub, Nat.reduceEqDiff, Nat.reduceLT, ↓reduceIte, Int.reduceToNat, Int.reduceAdd, Int.reduceSub, Int.reduceMul, Int.reduceLT, Int.reduceLE, Int.reduceEq, Nat.reduceLeDiff]
  exact hB3.trans (hb4.mono hB3.size)
end Go.Proofs.YtjaeiiiniohloaaDoor
/- From a contract to a row: the arguments are opened; behind the call they read as before, for nothing below has turned. -/
namespace Go.Proofs.YtjaeiiiniohloaaDoor
open Go.ChangeShapes Go.WideShapes Go.ChangeAt Go.RowKit Go.Joins Go.Deep
theorem ownNone : ownKnob Tryd.prog.godebug = none := by kernel_rfl
theorem laidAll : laidOutB Tryd.prog = true := by kernel_rfl
section
variable {H : Type} {enc : TypeId × Value → H} {P : Program} {W W' : World} {sp : Nat → Bool}
theorem trodAll_stay (hl : laidOutB P = true) : ∀ (ts : List TypeId) (vs : List Value) (ds : List (DataW H)) (ps : List MemPlace), (∀ t ∈ ts, P.readableRec t = true ∧ t < P.types.size) →
    DataW.TrodAll enc P W 0 (fun _ => true) true ts vs ds ps → (∀ p ∈ ps, W.sameAt W' p) → (∀ p ∈ ps, sp p.block = true) → DataW.TrodAll enc P W' 0 sp true ts vs ds ps
  | [], [], [], ps, _, h, _, _ => h
  | t :: ts, v :: vs, d :: ds, ps, ht, ⟨p, q, h1, h2, e⟩, hs, hp =>
    ⟨p, q, WideElems.Trod_stays hl (ht t (by simp)).1 (ht t (by simp)).2 h1 (fun x hx => hs x (by rw [e]; simp [hx])) (fun x hx => hp x (by rw [e]; simp [hx])),
      trodAll_stay hl ts vs ds q (fun t' h' => ht t' (by simp [h'])) h2 (fun x hx => hs x (by rw [e]; simp [hx])) (fun x hx => hp x (by rw [e]; simp [hx])), e⟩
  | [], _ :: _, _, _, _, h, _, _ => h.elim
  | [], [], _ :: _, _, _, h, _, _ => h.elim
  | _ :: _, [], _, _, _, h, _, _ => h.elim
  | _ :: _, _ :: _, [], _, _, h, _, _ => h.elim
/-- The closing of a law's row: true is returned, and nothing that was there has turned. -/
theorem row_close {f : Func} {s : ChangeSpec} {fid : FuncId} {args : Array Value} {ds gs : List (DataW H)} {before : List MemPlace} {tb : TypeId} (hl : laidOutB P = true)
    (hts : f.params.toList.all (fun t => P.readableRec t && decide (t < P.types.size)) = true) (hvars : s.vars = []) (hres : f.resultTypes = #[tb]) (hb : P.underlying tb = some .bool)
    (hW : DataW.Whole enc P f.params.toList s.vars false W args.toList ds gs before)
    (h1 : (s.fn H ds).results = [.lit (.bool true)]) (h2 : (s.fn H ds).args = ds) (h3 : (s.fn H ds).vars = [])
    (walk : Calls P fid args W fun e W' => e = .returned (.bool true) ∧ Below W.heap.size W W') :
    Calls P fid args W fun e W' => ∃ v, e = .returned v ∧ s.post enc P f false true false false W args v W' := by
  have ht : ∀ t ∈ f.params.toList, P.readableRec t = true ∧ t < P.types.size := fun t h => by simpa using List.all_eq_true.1 hts t h
  refine walk.mono fun e W' ⟨he, hg⟩ => ⟨_, he, ?_⟩
  have hW' := hW
  obtain ⟨p, q, hA, hV, e, hfz, hnd⟩ := hW
  rw [hvars] at hV
  obtain ⟨rfl, rfl⟩ := trodVars_none hV
  have hlt := hW'.lt
  rw [List.append_nil] at e
  subst e
  have hnil : ds ++ ([] : List (DataW H)) = ds := List.append_nil ds
  have res : ∀ (b : Nat) (sp : Nat → Bool) (hd : Bool), DataW.TrodAll enc P W' b sp hd f.resultTypes.toList ((Value.bool true).resultList f.resultTypes.size) (s.fn H (ds ++ [])).results [] := fun b sp hd => by
    rw [hnil, h1, hres]; exact trodAll_mk1 (shut_bool hb _)
  have arg : ∀ sp : Nat → Bool, (∀ x ∈ before, sp x.block = true) → DataW.TrodAll enc P W' 0 sp true f.params.toList args.toList (s.fn H (ds ++ [])).args before := fun sp hsp => by
    rw [hnil, h2]; exact trodAll_stay hl _ _ _ _ ht hA (fun x hx => hg.same (hlt x hx)) hsp
  have vars : ∀ sp : Nat → Bool, DataW.TrodVars enc P W' sp s.vars (s.fn H (ds ++ [])).vars [] := fun sp => by
    rw [hnil, h3, hvars]; rfl
  have old : ∀ x ∈ before, (fun b => decide (b < W.heap.size)) x.block = true := fun x hx => by simpa using hlt x hx
  exact ⟨ds, [], before, [], before, [], hW', res _ _ _, arg _ old, vars _, hg.frame _, fun h => by cases h⟩
end
section
variable {H : Type} {enc : TypeId × Value → H} {P : Program} {w : World} {base : Nat} {spare : Nat → Bool} {held : Bool}
theorem open_slice_fields {t e : TypeId} {fs : Array Field} {fuel : Nat} {cs : List Value} {x : DataW H × List MemPlace} (ht : P.underlying t = some (.slice e)) (he : P.underlying e = some (.struct fs))
    (hone : oneCellFields P fs = true) (hC : P.cellsOf e = fs.size) (h : DataW.trod enc P w base spare held fuel t cs = some x) :
    (cs = [.slice none 0 0] ∧ x = (.nil, [])) ∨
    ∃ (a : Addr) (len cap m : Nat) (D : Nat → DataW H) (Pl : Nat → List MemPlace), cs = [.slice (some a) len cap] ∧ base ≤ a.block ∧ len ≤ cap ∧ cap ≤ maxLen ∧ m = (if spare a.block then cap else len) ∧
      x = (.slice ((List.range len).map D) ((List.range (m - len)).map fun j => D (len + j)), MemPlace.row a (m * fs.size) ++ (List.range m).flatMap Pl) ∧
      ∀ i, i < m → ∃ (ys : List (DataW H × List MemPlace)) (n : Nat), D i = .agg (ys.map (·.1)) ∧ Pl i = ys.flatMap (·.2) ∧ ys.length = fs.size ∧
        ∀ (j : Nat) (f : Field), fs[j]? = some f → ∃ (v : Value) (y : DataW H × List MemPlace), w.cell? (a.add (i * fs.size + j)) = some v ∧ ys[j]? = some y ∧ DataW.trod enc P w base spare held n f.type [v] = some y := by
  rcases open_slice ht h with h0 | ⟨a, len, cap, m, n, D, Pl, hcs, hb, hl, hm, hmm, hx, hi⟩
  · exact .inl h0
  · refine .inr ⟨a, len, cap, m, D, Pl, hcs, hb, hl, hm, hmm, by rw [hC] at hx; exact hx, fun i him => ?_⟩
    obtain ⟨cs', hc, ht'⟩ := hi i him
    rw [hC] at hc
    obtain ⟨ys, n', hn', hy, hlen, hyl, hf⟩ := DataW.trod_struct he ht'
    obtain ⟨_, hcl, hat⟩ := World.cells?_some hc
    simp only [Prod.mk.injEq] at hy
    refine ⟨ys, n', hy.1, hy.2, hyl, fun j f hj => ?_⟩
    obtain ⟨ho, hk⟩ := hone_of hone j f hj
    have hjl : j < fs.size := (Array.getElem?_eq_some_iff.1 hj).1
    have hcell := hat j hjl
    have hv : cs'[j]? = some (cs'[j]'(by omega)) := List.getElem?_eq_getElem (by omega)
    have h1 := hf j f hj
    rw [ho, hk] at h1
    have hone' : (cs'.drop j).take 1 = [cs'[j]'(by omega)] := by
      rw [List.drop_eq_getElem_cons (by omega)]
      rfl
    rw [hone'] at h1
    have hys : ys[j]? = some (ys[j]'(by omega)) := List.getElem?_eq_getElem (by omega)
    refine ⟨_, _, ?_, hys, h1.trans hys⟩
    rw [← Go.Deep.add_add, hcell, hv]
end
section
variable {H : Type} {enc : TypeId × Value → H} {P : Program} {w : World} {base : Nat} {spare : Nat → Bool} {held : Bool}
theorem open_agg5 {r : Reach} {b0 : Nat} {t : TypeId} {f0 f1 f2 f3 f4 : Field} {v : Value} {d : DataW H} {p : List MemPlace} (hs : P.underlying t = some (.struct #[f0, f1, f2, f3, f4])) (hone : oneCellFields P #[f0, f1, f2, f3, f4] = true) (hC : P.cellsOf t = 5)
    (hv : Value.okWide P w r b0 t v) (h : DataW.Trod enc P w base spare held t v d p) :
    ∃ (v0 v1 v2 v3 v4 : Value) (y0 y1 y2 y3 y4 : DataW H × List MemPlace) (n : Nat), v = .agg #[v0, v1, v2, v3, v4] ∧ d = .agg [y0.1, y1.1, y2.1, y3.1, y4.1] ∧ p = y0.2 ++ (y1.2 ++ (y2.2 ++ (y3.2 ++ y4.2))) ∧
      DataW.trod enc P w base spare held n f0.type [v0] = some y0 ∧ DataW.trod enc P w base spare held n f1.type [v1] = some y1 ∧ DataW.trod enc P w base spare held n f2.type [v2] = some y2 ∧ DataW.trod enc P w base spare held n f3.type [v3] = some y3 ∧ DataW.trod enc P w base spare held n f4.type [v4] = some y4 := by
  obtain ⟨cs, rfl, hsz⟩ := okWide_struct hs hv
  obtain ⟨l⟩ := cs
  match l, hsz.trans hC with
  | [c0, c1, c2, c3, c4], _ =>
    obtain ⟨fuel, hf⟩ := h
    obtain ⟨xs, n, _, hx, _, hlen, hg⟩ := DataW.trod_struct hs hf
    obtain ⟨o0, k0⟩ := hone_of hone 0 f0 rfl
    obtain ⟨o1, k1⟩ := hone_of hone 1 f1 rfl
    obtain ⟨o2, k2⟩ := hone_of hone 2 f2 rfl
    obtain ⟨o3, k3⟩ := hone_of hone 3 f3 rfl
    obtain ⟨o4, k4⟩ := hone_of hone 4 f4 rfl
    match xs, hlen with
    | [y0, y1, y2, y3, y4], _ =>
      simp only [Prod.mk.injEq] at hx
      exact ⟨c0, c1, c2, c3, c4, y0, y1, y2, y3, y4, n, rfl, by simpa using hx.1, by simpa using hx.2, by simpa [Value.cells, o0, k0] using hg 0 f0 rfl, by simpa [Value.cells, o1, k1] using hg 1 f1 rfl, by simpa [Value.cells, o2, k2] using hg 2 f2 rfl, by simpa [Value.cells, o3, k3] using hg 3 f3 rfl, by simpa [Value.cells, o4, k4] using hg 4 f4 rfl⟩

end
end Go.Proofs.YtjaeiiiniohloaaDoor
