/- Regions that draw their order, with several operations that write: readers first, then the writers in whatever order. -/
import Derived.Test.YthadhnmbddddbaaTypes
import Derived.OrdersHeld
namespace Go.Proofs.Ythadhnmbddddbaa
open Go.RowKit
section
variable {P : Program} {n : Nat} {ops : Array Oper} {Q : Exit → Sl → World → Prop} {S : World → Prop} {σ : Sl} {w : World} {fuel : Nat} {listed : Array Bool}
/-- What is left of a region, whatever order is drawn. -/
def Ord (P : Program) (n : Nat) (ops : Array Oper) (Q : Exit → Sl → World → Prop) (S : World → Prop) (fuel : Nat) (listed : Array Bool) (σ : Sl) (w : World) : Prop :=
  ∀ a, Fr n σ a → wpAnyH P .any ops (lift n Q) S fuel listed a w
theorem Raw_genw {c : Code} (h : ∀ w2, w2 = w → Raw P n c Q σ w2) : Raw P n c Q σ w := h w rfl
theorem Raw_gen {c : Code} (h : ∀ τ : Sl, (∀ i, τ i = σ i) → Raw P n c Q τ w) : Raw P n c Q σ w := h σ fun _ => rfl
@[congr] theorem Ord_congr {σ σ' : Sl} {w w' : World} (h : σ = σ') (h' : w = w') : Ord P n ops Q S fuel listed σ w = Ord P n ops Q S fuel listed σ' w' := by rw [h, h']
theorem Raw_ord (S : World → Prop) (m : Nat) (hsz : ops.size = m) {id : Nat} (hm : P.follows .mixedOrders = true) (h : Ord P n ops Q S m (Array.replicate m false) σ w.drew) : Raw P n (.region id ops true) Q σ w := by
  intro a hf
  subst hsz
  exact wp_region_held (S := S) hm (h a hf)
theorem Ord_take (i : Nat) {d : Option Nat} {op : Op} {ty : TypeId} {p : String} {af : Array Edge} {v : Value} (hi : ops[i]? = some ⟨d, op, ty, p, af, none⟩)
    (hs : Region.noSelect ops = true) (hf : Region.free .any ops listed i = true) (hr : (Region.ready .any ops listed).contains i = true)
    (hQ : ∀ c σ w, ¬ Q (.panic c) σ w) (hS : S w) (hv : ∀ w', S w' → run1 P op ty σ w' = .ok (.value v) w')
    (h : Ord P n ops Q S fuel (listed.setIfInBounds i true) (put n σ d v) w) : Ord P n ops Q S (fuel + 1) listed σ w := by
  intro a hfr
  refine wpAnyH_take hi hs hf hr ?_ (v := v) ?_ hS (h _ (hfr.put d v))
  · rintro c a w ⟨σ', _, hq⟩
    exact absurd hq (hQ _ _ _)
  · refine .inl ⟨wanted_none rfl, fun w' hw' => ?_⟩
    have := hv w' hw'
    rw [hfr.eval]
    exact this
def OpO (P : Program) (n : Nat) (ops : Array Oper) (Q : Exit → Sl → World → Prop) (S : World → Prop) (fuel : Nat) (listed : Array Bool) (σ : Sl) (w : World) (i : Nat) : Prop :=
  ∀ a, Fr n σ a → wpOp P ops (lift n Q) i (fun a' w' => S w' ∧ wpAnyH P .any ops (lift n Q) S fuel (listed.setIfInBounds i true) a' w') a w
theorem OpO_of (i : Nat) {d : Option Nat} {op : Op} {ty : TypeId} {p : String} {af : Array Edge} (hi : ops[i]? = some ⟨d, op, ty, p, af, none⟩)
    (h : Okv P (fun v w' => S w' ∧ Ord P n ops Q S fuel (listed.setIfInBounds i true) (put n σ d v) w') (run1 P op ty σ w)) : OpO P n ops Q S fuel listed σ w i := by
  intro a hfr
  unfold wpOp
  simp only [hi]
  rw [if_pos (wanted_none rfl)]
  exact .inl (Oper.wp_of_Okv hfr (o := ⟨d, op, ty, p, af, none⟩) h fun v w' hE => ⟨hE.1, hE.2 _ (hfr.put d v)⟩)
theorem Ord_all (rs : List Nat) (hr : Region.ready .any ops listed = rs) (hne : rs ≠ []) (h : ∀ i ∈ rs, OpO P n ops Q S fuel listed σ w i) : Ord P n ops Q S (fuel + 1) listed σ w :=
  fun a hf => wpAnyH_all hr hne fun i hi => h i hi a hf
theorem Ord_one (i : Nat) {d : Option Nat} {op : Op} {ty : TypeId} {p : String} {af : Array Edge} (hr : Region.ready .any ops listed = [i]) (hi : ops[i]? = some ⟨d, op, ty, p, af, none⟩)
    (h : Okv P (fun v w' => S w' ∧ Ord P n ops Q S fuel (listed.setIfInBounds i true) (put n σ d v) w') (run1 P op ty σ w)) : Ord P n ops Q S (fuel + 1) listed σ w :=
  Ord_all [i] hr (by simp) fun j hj => by
    obtain rfl : j = i := by simpa using hj
    exact OpO_of j hi h
theorem Ord_done (hr : Region.ready .any ops listed = []) (h : Q .normal σ w) : Ord P n ops Q S fuel listed σ w :=
  fun a hf => wpAnyH_done hr ⟨σ, hf, h⟩ fuel
theorem upd_comm (σ : Sl) {i j : Nat} (h : i ≠ j) (u v : Value) : upd (upd σ i u) j v = upd (upd σ j v) i u := by
  funext k
  simp only [upd_apply]
  by_cases h1 : k = j
  · rw [if_pos h1, if_neg (by omega), if_pos h1]
  · rw [if_neg h1, if_neg h1]
/-- Two writers, in either order. T says which of them are done, with what, and where the world stands. -/
theorem Ord_two {α β : Type} (T : Option α → Option β → World → Prop) (vi : α → Value) (vj : β → Value) (i j di dj : Nat) {opi opj : Op} {tyi tyj : TypeId} {pi pj : String} {afi afj : Array Edge}
    (hi : ops[i]? = some ⟨some di, opi, tyi, pi, afi, none⟩) (hj : ops[j]? = some ⟨some dj, opj, tyj, pj, afj, none⟩)
    (hij : i ≠ j) (hdij : di ≠ dj) (hni : di < n) (hnj : dj < n)
    (hr : Region.ready .any ops listed = [i, j]) (hri : Region.ready .any ops (listed.setIfInBounds i true) = [j]) (hrj : Region.ready .any ops (listed.setIfInBounds j true) = [i])
    (h0 : T none none w)
    (si : ∀ y w1 σ', (∀ s, s ≠ di → s ≠ dj → σ' s = σ s) → T none y w1 → Okv P (fun v w2 => ∃ x, v = vi x ∧ S w2 ∧ T (some x) y w2) (run1 P opi tyi σ' w1))
    (sj : ∀ x w1 σ', (∀ s, s ≠ di → s ≠ dj → σ' s = σ s) → T x none w1 → Okv P (fun v w2 => ∃ y, v = vj y ∧ S w2 ∧ T x (some y) w2) (run1 P opj tyj σ' w1))
    (hk : ∀ x y w1, T (some x) (some y) w1 → Ord P n ops Q S fuel ((listed.setIfInBounds i true).setIfInBounds j true) (upd (upd σ di (vi x)) dj (vj y)) w1) :
    Ord P n ops Q S (fuel + 2) listed σ w := by
  have Okv_mono : ∀ {R R' : Value → World → Prop} {r : Result Next}, (∀ v w, R v w → R' v w) → Okv P R r → Okv P R' r := by
    intro R R' r h hr
    cases r with
    | halt x w' => exact hr
    | ok nx w' =>
      cases nx
      case value v => exact h _ _ hr
      case skip => exact h _ _ hr
      case enter f args => exact hr.mono fun e w'' ⟨v, he, hv⟩ => ⟨v, he, h _ _ hv⟩
      all_goals exact hr
  refine Ord_all [i, j] hr (by simp) fun k hk' => ?_
  rcases (by simpa using hk' : k = i ∨ k = j) with rfl | rfl
  · refine OpO_of k hi (Okv_mono ?_ (si none w σ (fun _ _ _ => rfl) h0))
    rintro v w2 ⟨x, rfl, hS, hT⟩
    refine ⟨hS, Ord_one j hri hj (Okv_mono ?_ (sj (some x) w2 _ (fun s h1 h2 => ?_) hT))⟩
    · rintro v w3 ⟨y, rfl, hS', hT'⟩
      rw [put_some, put_some, if_pos hni, if_pos hnj]
      exact ⟨hS', hk x y w3 hT'⟩
    · rw [put_some, if_pos hni, upd_apply, if_neg h1]
  · refine OpO_of k hj (Okv_mono ?_ (sj none w σ (fun _ _ _ => rfl) h0))
    rintro v w2 ⟨y, rfl, hS, hT⟩
    refine ⟨hS, Ord_one i hrj hi (Okv_mono ?_ (si (some y) w2 _ (fun s h1 h2 => ?_) hT))⟩
    · rintro v w3 ⟨x, rfl, hS', hT'⟩
      rw [put_some, put_some, if_pos hnj, if_pos hni, upd_comm _ (Ne.symm hdij), Array.setIfInBounds_comm _ _ (Ne.symm hij)]
      exact ⟨hS', hk x y w3 hT'⟩
    · rw [put_some, if_pos hnj, upd_apply, if_neg h2]
theorem Okv_mono {R R' : Value → World → Prop} {r : Result Next} (h : ∀ v w, R v w → R' v w) (hr : Okv P R r) : Okv P R' r := by
  cases r with
  | halt x w' => exact hr
  | ok nx w' =>
    cases nx
    case value v => exact h _ _ hr
    case skip => exact h _ _ hr
    case enter f args => exact hr.mono fun e w'' ⟨v, he, hv⟩ => ⟨v, he, h _ _ hv⟩
    all_goals exact hr
/-- Three writers, in whatever order. -/
theorem Ord_three {α β γ : Type} (T : Option α → Option β → Option γ → World → Prop) (vi : α → Value) (vj : β → Value) (vk : γ → Value) (i j k di dj dk : Nat)
    {opi opj opk : Op} {tyi tyj tyk : TypeId} {pi pj pk : String} {afi afj afk : Array Edge}
    (hi : ops[i]? = some ⟨some di, opi, tyi, pi, afi, none⟩) (hj : ops[j]? = some ⟨some dj, opj, tyj, pj, afj, none⟩) (hk : ops[k]? = some ⟨some dk, opk, tyk, pk, afk, none⟩)
    (hij : i ≠ j) (hik : i ≠ k) (hjk : j ≠ k) (hdij : di ≠ dj) (hdik : di ≠ dk) (hdjk : dj ≠ dk) (hni : di < n) (hnj : dj < n) (hnk : dk < n)
    (hr : Region.ready .any ops listed = [i, j, k])
    (hri : Region.ready .any ops (listed.setIfInBounds i true) = [j, k]) (hrj : Region.ready .any ops (listed.setIfInBounds j true) = [i, k]) (hrk : Region.ready .any ops (listed.setIfInBounds k true) = [i, j])
    (hrij : Region.ready .any ops ((listed.setIfInBounds i true).setIfInBounds j true) = [k]) (hrik : Region.ready .any ops ((listed.setIfInBounds i true).setIfInBounds k true) = [j]) (hrjk : Region.ready .any ops ((listed.setIfInBounds j true).setIfInBounds k true) = [i])
    (h0 : T none none none w)
    (si : ∀ y z w1 σ', (∀ s, s ≠ di → s ≠ dj → s ≠ dk → σ' s = σ s) → T none y z w1 → Okv P (fun v w2 => ∃ x, v = vi x ∧ S w2 ∧ T (some x) y z w2) (run1 P opi tyi σ' w1))
    (sj : ∀ x z w1 σ', (∀ s, s ≠ di → s ≠ dj → s ≠ dk → σ' s = σ s) → T x none z w1 → Okv P (fun v w2 => ∃ y, v = vj y ∧ S w2 ∧ T x (some y) z w2) (run1 P opj tyj σ' w1))
    (sk : ∀ x y w1 σ', (∀ s, s ≠ di → s ≠ dj → s ≠ dk → σ' s = σ s) → T x y none w1 → Okv P (fun v w2 => ∃ z, v = vk z ∧ S w2 ∧ T x y (some z) w2) (run1 P opk tyk σ' w1))
    (hend : ∀ x y z w1, T (some x) (some y) (some z) w1 → Ord P n ops Q S fuel (((listed.setIfInBounds i true).setIfInBounds j true).setIfInBounds k true) (upd (upd (upd σ di (vi x)) dj (vj y)) dk (vk z)) w1) :
    Ord P n ops Q S (fuel + 3) listed σ w := by
  refine Ord_all [i, j, k] hr (by simp) fun m hm => ?_
  rcases (by simpa using hm : m = i ∨ m = j ∨ m = k) with rfl | rfl | rfl
  · refine OpO_of m hi (Okv_mono ?_ (si none none w σ (fun _ _ _ _ => rfl) h0))
    rintro v w2 ⟨x, rfl, hS, hT⟩
    refine ⟨hS, ?_⟩
    rw [put_some, if_pos hni]
    refine Ord_two (T (some x)) vj vk j k dj dk hj hk hjk hdjk hnj hnk hri hrij hrik hT ?_ ?_ ?_
    · exact fun z w1 σ' hσ h => sj _ _ _ _ (fun s h1 h2 h3 => by rw [hσ s h2 h3, upd_apply, if_neg h1]) h
    · exact fun z w1 σ' hσ h => sk _ _ _ _ (fun s h1 h2 h3 => by rw [hσ s h2 h3, upd_apply, if_neg h1]) h
    · exact fun y z w1 h => hend x y z w1 h
  · refine OpO_of m hj (Okv_mono ?_ (sj none none w σ (fun _ _ _ _ => rfl) h0))
    rintro v w2 ⟨y, rfl, hS, hT⟩
    refine ⟨hS, ?_⟩
    rw [put_some, if_pos hnj]
    refine Ord_two (fun x z => T x (some y) z) vi vk i k di dk hi hk hik hdik hni hnk hrj (by rw [Array.setIfInBounds_comm _ _ (Ne.symm hij)]; exact hrij) hrjk hT ?_ ?_ ?_
    · exact fun z w1 σ' hσ h => si _ _ _ _ (fun s h1 h2 h3 => by rw [hσ s h1 h3, upd_apply, if_neg h2]) h
    · exact fun z w1 σ' hσ h => sk _ _ _ _ (fun s h1 h2 h3 => by rw [hσ s h1 h3, upd_apply, if_neg h2]) h
    · intro x z w1 h
      rw [upd_comm σ (Ne.symm hdij), Array.setIfInBounds_comm _ _ (Ne.symm hij)]
      exact hend x y z w1 h
  · refine OpO_of m hk (Okv_mono ?_ (sk none none w σ (fun _ _ _ _ => rfl) h0))
    rintro v w2 ⟨z, rfl, hS, hT⟩
    refine ⟨hS, ?_⟩
    rw [put_some, if_pos hnk]
    refine Ord_two (fun x y => T x y (some z)) vi vj i j di dj hi hj hij hdij hni hnj hrk (by rw [Array.setIfInBounds_comm _ _ (Ne.symm hik)]; exact hrik) (by rw [Array.setIfInBounds_comm _ _ (Ne.symm hjk)]; exact hrjk) hT ?_ ?_ ?_
    · exact fun z w1 σ' hσ h => si _ _ _ _ (fun s h1 h2 h3 => by rw [hσ s h1 h2, upd_apply, if_neg h3]) h
    · exact fun z w1 σ' hσ h => sj _ _ _ _ (fun s h1 h2 h3 => by rw [hσ s h1 h2, upd_apply, if_neg h3]) h
    · intro x y w1 h
      rw [upd_comm σ (Ne.symm hdik), upd_comm _ (Ne.symm hdjk), Array.setIfInBounds_comm _ _ (Ne.symm hik), Array.setIfInBounds_comm (xs := listed.setIfInBounds i true) _ _ (Ne.symm hjk)]
      exact hend x y z w1 h
/-! Many readers at once. -/
def optL (o : Option Oper) (l : List Oper) : List Oper := match o with
  | some o => o :: l
  | none => l
theorem optL_some (o : Oper) (l : List Oper) : optL (some o) l = o :: l := nr rfl
def opsL (ops : Array Oper) : List Nat → List Oper
  | [] => []
  | i :: r => optL ops[i]? (opsL ops r)
theorem opsL_nil (ops : Array Oper) : opsL ops [] = [] := nr rfl
theorem opsL_cons (ops : Array Oper) (i : Nat) (r : List Nat) : opsL ops (i :: r) = optL ops[i]? (opsL ops r) := nr rfl
def rdB (n : Nat) (ops : Array Oper) : Array Bool → List Nat → Bool
  | _, [] => true
  | L, i :: r => (match ops[i]? with
    | some ⟨some d, _, _, _, _, none⟩ => decide (d < n) && r.all fun j => (ops[j]?).bind (·.dst) != some d
    | _ => false) && Region.free .any ops L i && (Region.ready .any ops L).contains i && rdB n ops (L.setIfInBounds i true) r
def markL (L : Array Bool) (is : List Nat) : Array Bool := is.foldl (fun L i => L.setIfInBounds i true) L
theorem V_keep {τ : Sl} {d : Nat} : ∀ (is : List Nat) (σ : Sl), (is.all fun j => (ops[j]?).bind (·.dst) != some d) = true → V P n w (opsL ops is) σ (fun σ' => σ' = τ) → τ d = σ d
  | [], σ, _, h => by rw [← show σ = τ from h]
  | i :: r, σ, hd, h => by
    rw [List.all_cons, Bool.and_eq_true] at hd
    rw [opsL_cons] at h
    cases ho : ops[i]? with
    | none => rw [ho] at h; exact V_keep r σ hd.2 h
    | some o =>
      rw [ho, optL_some] at h
      obtain ⟨d', op, ty, p, af, g⟩ := o
      rw [V_op] at h
      have h1 := hd.1
      rw [ho] at h1
      have hne : d' ≠ some d := by simpa using h1
      cases hr : run1 P op ty σ w with
      | halt x w' => rw [hr] at h; exact h.elim
      | ok nx w' =>
        rw [hr] at h
        cases nx with
        | value v =>
          rw [V_keep r _ hd.2 h.2]
          cases d' with
          | none => rfl
          | some d' =>
            rw [put_some]
            split
            · rw [upd_apply, if_neg (fun e => hne (by rw [e]))]
            · rfl
        | _ => exact h.elim
theorem Ord_reads (is : List Nat) (f : Nat) {m : Nat} {τ : Sl} (hf : m = f + is.length) (hs : Region.noSelect ops = true) (hB : rdB n ops listed is = true)
    (hQ : ∀ c σ w, ¬ Q (.panic c) σ w) (hS : S w) (hv : ∀ w', S w' → V P n w' (opsL ops is) σ (fun σ' => σ' = τ))
    (h : Ord P n ops Q S f (markL listed is) τ w) : Ord P n ops Q S m listed σ w := by
  subst hf
  induction is generalizing listed σ with
  | nil => have e : σ = τ := hv w hS; rw [e]; exact h
  | cons i r ih =>
    rw [rdB, Bool.and_eq_true, Bool.and_eq_true, Bool.and_eq_true] at hB
    obtain ⟨⟨⟨h1, h2⟩, h3⟩, h4⟩ := hB
    cases ho : ops[i]? with
    | none => rw [ho] at h1; cases h1
    | some o =>
      obtain ⟨d', op, ty, p, af, g⟩ := o
      rw [ho] at h1
      cases d' with
      | none => cases h1
      | some d =>
      cases g with
      | some g => cases h1
      | none =>
      simp only [Bool.and_eq_true, decide_eq_true_eq] at h1
      obtain ⟨hd, hr⟩ := h1
      have key : ∀ w', S w' → run1 P op ty σ w' = .ok (.value (τ d)) w' ∧ V P n w' (opsL ops r) (put n σ (some d) (τ d)) (fun σ' => σ' = τ) := by
        intro w' hw'
        have hv := hv w' hw'
        rw [opsL_cons, ho, optL_some, V_op] at hv
        cases hr1 : run1 P op ty σ w' with
        | halt x w2 => rw [hr1] at hv; exact hv.elim
        | ok nx w2 =>
          rw [hr1] at hv
          cases nx with
          | value v =>
            obtain ⟨rfl, hv⟩ := hv
            have e := V_keep r _ hr hv
            rw [put_some, if_pos hd, upd_same] at e
            rw [e]
            exact ⟨rfl, hv⟩
          | _ => exact hv.elim
      exact Ord_take i ho hs h2 h3 hQ hS (fun w' hw' => (key w' hw').1) (ih h4 (fun w' hw' => (key w' hw').2) h)
/-! Cutting a proof at a place where several ways meet. -/
theorem E_mono {K K' : Sl → World → Prop} (h : ∀ σ w, K σ w → K' σ w) : ∀ (l : List Oper) (σ : Sl) (w : World), E P n ops l σ w K → E P n ops l σ w K'
  | [], σ, w, hE => h _ _ hE
  | ⟨d, op, ty, p, af, none⟩ :: r, σ, w, hE => Okv_mono (fun _ _ hv => E_mono h r _ _ hv) hE
  | ⟨d, op, ty, p, af, some (j, b)⟩ :: r, σ, w, hE => by
    rw [E_opg, GB] at *
    split
    · rename_i hg; rw [if_pos hg] at hE; exact Okv_mono (fun _ _ hv => E_mono h r _ _ hv) hE
    · rename_i hg; rw [if_neg hg] at hE; exact E_mono h r _ _ hE
theorem Raw_mono {Q Q' : Exit → Sl → World → Prop} {c : Code} (h : ∀ e σ w, Q e σ w → Q' e σ w) (hr : Raw P n c Q σ w) : Raw P n c Q' σ w :=
  fun a hf => wp_mono (hr a hf) fun e a' w' ⟨σ', hf', hq⟩ => ⟨σ', hf', h e σ' w' hq⟩
theorem W_mono : ∀ (c : Code) {Q Q' : Exit → Sl → World → Prop} {σ : Sl} {w : World}, (∀ e σ w, Q e σ w → Q' e σ w) → W P n c Q σ w → W P n c Q' σ w := by
  intro c
  induction c with
  | skip => intro Q Q' σ w h hw; exact h _ _ _ hw
  | region id ops draw =>
    intro Q Q' σ w h hw
    cases draw with
    | true => exact Raw_mono h hw
    | false => exact E_mono (fun σ w hk => h _ _ _ hk) _ _ _ hw
  | seq x y ihx ihy =>
    intro Q Q' σ w h hw
    refine ihx (fun e σ' w' hq => ?_) hw
    cases e
    case normal => exact ihy h hq
    all_goals exact h _ _ _ hq
  | cond c x y ihx ihy =>
    intro Q Q' σ w h hw
    rw [W_cond] at *
    generalize ev σ c = v at *
    cases v with
    | bool t => exact ⟨fun ht => ihx h (hw.1 ht), fun ht => ihy h (hw.2 ht)⟩
    | _ => exact hw.elim
  | block id c ih =>
    intro Q Q' σ w h hw
    refine ih (fun e σ' w' hq => ?_) hw
    cases e
    case exit id' =>
      simp only [inX] at *
      split
      · rename_i he; rw [if_pos he] at hq; exact h _ _ _ hq
      · rename_i he; rw [if_neg he] at hq; exact h _ _ _ hq
    all_goals exact h _ _ _ hq
  | exit id => intro Q Q' σ w h hw; exact h _ _ _ hw
  | ret => intro Q Q' σ w h hw; exact h _ _ _ hw
  | _ => intro Q Q' σ w h hw; exact Raw_mono h hw
def cutX (J : Sl → World → Prop) (Q : Exit → Sl → World → Prop) : Exit → Sl → World → Prop
  | .normal, σ, w => J σ w
  | e, σ, w => Q e σ w
theorem cutX_normal {J : Sl → World → Prop} : cutX J Q .normal σ w = J σ w := nr rfl
theorem cutX_ret {J : Sl → World → Prop} : cutX J Q .ret σ w = Q .ret σ w := nr rfl
theorem cutX_exit {J : Sl → World → Prop} {id : Nat} : cutX J Q (.exit id) σ w = Q (.exit id) σ w := nr rfl
@[congr] theorem cutX_congr {J : Sl → World → Prop} {e : Exit} {σ σ' : Sl} {w w' : World} (h : σ = σ') (h' : w = w') : cutX J Q e σ w = cutX J Q e σ' w' := by rw [h, h']
theorem W_cut {c : Code} (J : Sl → World → Prop) (h2 : ∀ σ w, J σ w → Q .normal σ w) (h1 : W P n c (cutX J Q) σ w) : W P n c Q σ w :=
  W_mono c (fun e σ' w' hq => by
    cases e
    case normal => exact h2 _ _ hq
    all_goals exact hq) h1
/-- The same where ways meet at the end and at one exit. -/
def cut2X (id : Nat) (J Je : Sl → World → Prop) (Q : Exit → Sl → World → Prop) : Exit → Sl → World → Prop
  | .normal, σ, w => J σ w
  | .exit id', σ, w => if id' = id then Je σ w else Q (.exit id') σ w
  | e, σ, w => Q e σ w
theorem cut2X_normal {id : Nat} {J Je : Sl → World → Prop} : cut2X id J Je Q .normal σ w = J σ w := nr rfl
theorem cut2X_ret {id : Nat} {J Je : Sl → World → Prop} : cut2X id J Je Q .ret σ w = Q .ret σ w := nr rfl
theorem cut2X_same {id : Nat} {J Je : Sl → World → Prop} : cut2X id J Je Q (.exit id) σ w = Je σ w := if_pos rfl
theorem cut2X_ne {id id' : Nat} {J Je : Sl → World → Prop} (h : id' ≠ id) : cut2X id J Je Q (.exit id') σ w = Q (.exit id') σ w := if_neg h
@[congr] theorem cut2X_congr {id : Nat} {J Je : Sl → World → Prop} {e : Exit} {σ σ' : Sl} {w w' : World} (h : σ = σ') (h' : w = w') : cut2X id J Je Q e σ w = cut2X id J Je Q e σ' w' := by rw [h, h']
theorem W_cut2 {c : Code} (id : Nat) (J Je : Sl → World → Prop) (h1 : ∀ σ w, J σ w → Q .normal σ w) (h2 : ∀ σ w, Je σ w → Q (.exit id) σ w) (h : W P n c (cut2X id J Je Q) σ w) : W P n c Q σ w :=
  W_mono c (fun e σ' w' hq => by
    cases e
    case normal => exact h1 _ _ hq
    case exit id' =>
      simp only [cut2X] at hq
      split at hq
      · rename_i he; subst he; exact h2 _ _ hq
      · exact hq
    all_goals exact hq) h
end
end Go.Proofs.Ythadhnmbddddbaa
