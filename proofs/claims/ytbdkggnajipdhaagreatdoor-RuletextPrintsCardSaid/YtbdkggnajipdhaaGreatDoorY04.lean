/- Texts laid one behind the other: Ord, Own, Ord2, Ord3, Kep, Ord5, Pan. Each says at its head what it proves. -/
import Derived.Test.YtbdkggnajipdhaaGreatDoorY03
import Derived.OrdersHeld
import Derived.Recover
set_option linter.unusedSimpArgs false
/- Regions that draw their order, with several operations that write: readers first, then the writers in whatever order. -/
namespace Go.Proofs.YtbdkggnajipdhaaGreatDoor
open Go.RowKit
section
variable {P : Program} {n : Nat} {ops : Array Oper} {Q : Exit → Sl → World → Prop} {S : World → Prop} {σ : Sl} {w : World} {fuel : Nat} {listed : Array Bool}
/-- What is left of a region, whatever order is drawn. -/
def Ord (P : Program) (n : Nat) (ops : Array Oper) (Q : Exit → Sl → World → Prop) (S : World → Prop) (fuel : Nat) (listed : Array Bool) (σ : Sl) (w : World) : Prop :=
  ∀ a, Fr n σ a → wpAnyH P .any ops (lift n Q) S fuel listed a w
theorem Raw_genw {c : Code} (h : ∀ w2, w2 = w → Raw P n c Q σ w2) : Raw P n c Q σ w := h w rfl
theorem Raw_gen {c : Code} (h : ∀ τ : Sl, (∀ i, τ i = σ i) → Raw P n c Q τ w) : Raw P n c Q σ w := h σ fun _ => rfl
@[congr] theorem Ord_congr {σ σ' : Sl} {w w' : World} (h : σ = σ') (h' : w = w') : Ord P n ops Q S fuel listed σ w = Ord P n ops Q S fuel listed σ' w' := by rw [h, h']
theorem Raw_ord (S : World → Prop) (m : Nat) (hsz : ops.size = m) {id : Nat} (hm : P.follows .mixedOrders = true) (h : Ord P n ops Q S m (Array.replicate m false) σ w.drew) : Raw P n (.region id ops true) Q σ w := by
  intro a hf
  subst hsz
  exact wp_region_held (S := S) hm (h a hf)
theorem Ord_take (i : Nat) {d : Option Nat} {op : Op} {ty : TypeId} {p : String} {af : Array Edge} {v : Value} (hi : ops[i]? = some ⟨d, op, ty, p, af, none⟩)
    (hs : Region.noSelect ops = true) (hf : Region.free .any ops listed i = true) (hr : (Region.ready .any ops listed).contains i = true)
    (hQ : ∀ c σ w, ¬ Q (.panic c) σ w) (hS : S w) (hv : ∀ w', S w' → run1 P op ty σ w' = .ok (.value v) w')
    (h : Ord P n ops Q S fuel (listed.setIfInBounds i true) (put n σ d v) w) : Ord P n ops Q S (fuel + 1) listed σ w := by
  intro a hfr
  refine wpAnyH_take hi hs hf hr ?_ (v := v) ?_ hS (h _ (hfr.put d v))
  · rintro c a w ⟨σ', _, hq⟩
    exact absurd hq (hQ _ _ _)
  · refine .inl ⟨wanted_none rfl, fun w' hw' => ?_⟩
    have := hv w' hw'
    rw [hfr.eval]
    exact this
def OpO (P : Program) (n : Nat) (ops : Array Oper) (Q : Exit → Sl → World → Prop) (S : World → Prop) (fuel : Nat) (listed : Array Bool) (σ : Sl) (w : World) (i : Nat) : Prop :=
  ∀ a, Fr n σ a → wpOp P ops (lift n Q) i (fun a' w' => S w' ∧ wpAnyH P .any ops (lift n Q) S fuel (listed.setIfInBounds i true) a' w') a w
theorem OpO_of (i : Nat) {d : Option Nat} {op : Op} {ty : TypeId} {p : String} {af : Array Edge} (hi : ops[i]? = some ⟨d, op, ty, p, af, none⟩)
    (h : Okv P (fun v w' => S w' ∧ Ord P n ops Q S fuel (listed.setIfInBounds i true) (put n σ d v) w') (run1 P op ty σ w)) : OpO P n ops Q S fuel listed σ w i := by
  intro a hfr
  unfold wpOp
  simp only [hi]
  rw [if_pos (wanted_none rfl)]
  exact .inl (Oper.wp_of_Okv hfr (o := ⟨d, op, ty, p, af, none⟩) h fun v w' hE => ⟨hE.1, hE.2 _ (hfr.put d v)⟩)
theorem Ord_all (rs : List Nat) (hr : Region.ready .any ops listed = rs) (hne : rs ≠ []) (h : ∀ i ∈ rs, OpO P n ops Q S fuel listed σ w i) : Ord P n ops Q S (fuel + 1) listed σ w :=
  fun a hf => wpAnyH_all hr hne fun i hi => h i hi a hf
theorem Ord_one (i : Nat) {d : Option Nat} {op : Op} {ty : TypeId} {p : String} {af : Array Edge} (hr : Region.ready .any ops listed = [i]) (hi : ops[i]? = some ⟨d, op, ty, p, af, none⟩)
    (h : Okv P (fun v w' => S w' ∧ Ord P n ops Q S fuel (listed.setIfInBounds i true) (put n σ d v) w') (run1 P op ty σ w)) : Ord P n ops Q S (fuel + 1) listed σ w :=
  Ord_all [i] hr (by simp) fun j hj => by
    obtain rfl : j = i := by simpa using hj
    exact OpO_of j hi h
theorem Ord_done (hr : Region.ready .any ops listed = []) (h : Q .normal σ w) : Ord P n ops Q S fuel listed σ w :=
  fun _ hf => wpAnyH_done hr ⟨σ, hf, h⟩ fuel
theorem upd_comm (σ : Sl) {i j : Nat} (h : i ≠ j) (u v : Value) : upd (upd σ i u) j v = upd (upd σ j v) i u := by
  funext k
  simp only [upd_apply]
  by_cases h1 : k = j
  · rw [if_pos h1, if_neg (by omega), if_pos h1]
  · rw [if_neg h1, if_neg h1]
/-- Two writers, in either order. T says which of them are done, with what, and where the world stands. -/
theorem Ord_two {α β : Type} (T : Option α → Option β → World → Prop) (vi : α → Value) (vj : β → Value) (i j di dj : Nat) {opi opj : Op} {tyi tyj : TypeId} {pi pj : String} {afi afj : Array Edge}
    (hi : ops[i]? = some ⟨some di, opi, tyi, pi, afi, none⟩) (hj : ops[j]? = some ⟨some dj, opj, tyj, pj, afj, none⟩)
    (hij : i ≠ j) (hdij : di ≠ dj) (hni : di < n) (hnj : dj < n)
    (hr : Region.ready .any ops listed = [i, j]) (hri : Region.ready .any ops (listed.setIfInBounds i true) = [j]) (hrj : Region.ready .any ops (listed.setIfInBounds j true) = [i])
    (h0 : T none none w)
    (si : ∀ y w1 σ', (∀ s, s ≠ di → s ≠ dj → σ' s = σ s) → T none y w1 → Okv P (fun v w2 => ∃ x, v = vi x ∧ S w2 ∧ T (some x) y w2) (run1 P opi tyi σ' w1))
    (sj : ∀ x w1 σ', (∀ s, s ≠ di → s ≠ dj → σ' s = σ s) → T x none w1 → Okv P (fun v w2 => ∃ y, v = vj y ∧ S w2 ∧ T x (some y) w2) (run1 P opj tyj σ' w1))
    (hk : ∀ x y w1, T (some x) (some y) w1 → Ord P n ops Q S fuel ((listed.setIfInBounds i true).setIfInBounds j true) (upd (upd σ di (vi x)) dj (vj y)) w1) :
    Ord P n ops Q S (fuel + 2) listed σ w := by
  have Okv_mono : ∀ {R R' : Value → World → Prop} {r : Result Next}, (∀ v w, R v w → R' v w) → Okv P R r → Okv P R' r := by
    intro R R' r h hr
    cases r with
    | halt x w' => exact hr
    | ok nx w' =>
      cases nx
      case value v => exact h _ _ hr
      case skip => exact h _ _ hr
      case enter f args => exact hr.mono fun e w'' ⟨v, he, hv⟩ => ⟨v, he, h _ _ hv⟩
      all_goals exact hr
  refine Ord_all [i, j] hr (by simp) fun k hk' => ?_
  rcases (by simpa using hk' : k = i ∨ k = j) with rfl | rfl
  · refine OpO_of k hi (Okv_mono ?_ (si none w σ (fun _ _ _ => rfl) h0))
    rintro v w2 ⟨x, rfl, hS, hT⟩
    refine ⟨hS, Ord_one j hri hj (Okv_mono ?_ (sj (some x) w2 _ (fun s h1 h2 => ?_) hT))⟩
    · rintro v w3 ⟨y, rfl, hS', hT'⟩
      rw [put_some, put_some, if_pos hni, if_pos hnj]
      exact ⟨hS', hk x y w3 hT'⟩
    · rw [put_some, if_pos hni, upd_apply, if_neg h1]
  · refine OpO_of k hj (Okv_mono ?_ (sj none w σ (fun _ _ _ => rfl) h0))
    rintro v w2 ⟨y, rfl, hS, hT⟩
    refine ⟨hS, Ord_one i hrj hi (Okv_mono ?_ (si (some y) w2 _ (fun s h1 h2 => ?_) hT))⟩
    · rintro v w3 ⟨x, rfl, hS', hT'⟩
      rw [put_some, put_some, if_pos hnj, if_pos hni, upd_comm _ (Ne.symm hdij), Array.setIfInBounds_comm _ _ (Ne.symm hij)]
      exact ⟨hS', hk x y w3 hT'⟩
    · rw [put_some, if_pos hnj, upd_apply, if_neg h2]
theorem Okv_mono {R R' : Value → World → Prop} {r : Result Next} (h : ∀ v w, R v w → R' v w) (hr : Okv P R r) : Okv P R' r := by
  cases r with
  | halt x w' => exact hr
  | ok nx w' =>
    cases nx
    case value v => exact h _ _ hr
    case skip => exact h _ _ hr
    case enter f args => exact hr.mono fun e w'' ⟨v, he, hv⟩ => ⟨v, he, h _ _ hv⟩
    all_goals exact hr
/-- Three writers, in whatever order. -/
theorem Ord_three {α β γ : Type} (T : Option α → Option β → Option γ → World → Prop) (vi : α → Value) (vj : β → Value) (vk : γ → Value) (i j k di dj dk : Nat)
    {opi opj opk : Op} {tyi tyj tyk : TypeId} {pi pj pk : String} {afi afj afk : Array Edge}
    (hi : ops[i]? = some ⟨some di, opi, tyi, pi, afi, none⟩) (hj : ops[j]? = some ⟨some dj, opj, tyj, pj, afj, none⟩) (hk : ops[k]? = some ⟨some dk, opk, tyk, pk, afk, none⟩)
    (hij : i ≠ j) (hik : i ≠ k) (hjk : j ≠ k) (hdij : di ≠ dj) (hdik : di ≠ dk) (hdjk : dj ≠ dk) (hni : di < n) (hnj : dj < n) (hnk : dk < n)
    (hr : Region.ready .any ops listed = [i, j, k])
    (hri : Region.ready .any ops (listed.setIfInBounds i true) = [j, k]) (hrj : Region.ready .any ops (listed.setIfInBounds j true) = [i, k]) (hrk : Region.ready .any ops (listed.setIfInBounds k true) = [i, j])
    (hrij : Region.ready .any ops ((listed.setIfInBounds i true).setIfInBounds j true) = [k]) (hrik : Region.ready .any ops ((listed.setIfInBounds i true).setIfInBounds k true) = [j]) (hrjk : Region.ready .any ops ((listed.setIfInBounds j true).setIfInBounds k true) = [i])
    (h0 : T none none none w)
    (si : ∀ y z w1 σ', (∀ s, s ≠ di → s ≠ dj → s ≠ dk → σ' s = σ s) → T none y z w1 → Okv P (fun v w2 => ∃ x, v = vi x ∧ S w2 ∧ T (some x) y z w2) (run1 P opi tyi σ' w1))
    (sj : ∀ x z w1 σ', (∀ s, s ≠ di → s ≠ dj → s ≠ dk → σ' s = σ s) → T x none z w1 → Okv P (fun v w2 => ∃ y, v = vj y ∧ S w2 ∧ T x (some y) z w2) (run1 P opj tyj σ' w1))
    (sk : ∀ x y w1 σ', (∀ s, s ≠ di → s ≠ dj → s ≠ dk → σ' s = σ s) → T x y none w1 → Okv P (fun v w2 => ∃ z, v = vk z ∧ S w2 ∧ T x y (some z) w2) (run1 P opk tyk σ' w1))
    (hend : ∀ x y z w1, T (some x) (some y) (some z) w1 → Ord P n ops Q S fuel (((listed.setIfInBounds i true).setIfInBounds j true).setIfInBounds k true) (upd (upd (upd σ di (vi x)) dj (vj y)) dk (vk z)) w1) :
    Ord P n ops Q S (fuel + 3) listed σ w := by
  refine Ord_all [i, j, k] hr (by simp) fun m hm => ?_
  rcases (by simpa using hm : m = i ∨ m = j ∨ m = k) with rfl | rfl | rfl
  · refine OpO_of m hi (Okv_mono ?_ (si none none w σ (fun _ _ _ _ => rfl) h0))
    rintro v w2 ⟨x, rfl, hS, hT⟩
    refine ⟨hS, ?_⟩
    rw [put_some, if_pos hni]
    refine Ord_two (T (some x)) vj vk j k dj dk hj hk hjk hdjk hnj hnk hri hrij hrik hT ?_ ?_ ?_
    · exact fun z w1 σ' hσ h => sj _ _ _ _ (fun s h1 h2 h3 => by rw [hσ s h2 h3, upd_apply, if_neg h1]) h
    · exact fun z w1 σ' hσ h => sk _ _ _ _ (fun s h1 h2 h3 => by rw [hσ s h2 h3, upd_apply, if_neg h1]) h
    · exact fun y z w1 h => hend x y z w1 h
  · refine OpO_of m hj (Okv_mono ?_ (sj none none w σ (fun _ _ _ _ => rfl) h0))
    rintro v w2 ⟨y, rfl, hS, hT⟩
    refine ⟨hS, ?_⟩
    rw [put_some, if_pos hnj]
    refine Ord_two (fun x z => T x (some y) z) vi vk i k di dk hi hk hik hdik hni hnk hrj (by rw [Array.setIfInBounds_comm _ _ (Ne.symm hij)]; exact hrij) hrjk hT ?_ ?_ ?_
    · exact fun z w1 σ' hσ h => si _ _ _ _ (fun s h1 h2 h3 => by rw [hσ s h1 h3, upd_apply, if_neg h2]) h
    · exact fun z w1 σ' hσ h => sk _ _ _ _ (fun s h1 h2 h3 => by rw [hσ s h1 h3, upd_apply, if_neg h2]) h
    · intro x z w1 h
      rw [upd_comm σ (Ne.symm hdij), Array.setIfInBounds_comm _ _ (Ne.symm hij)]
      exact hend x y z w1 h
  · refine OpO_of m hk (Okv_mono ?_ (sk none none w σ (fun _ _ _ _ => rfl) h0))
    rintro v w2 ⟨z, rfl, hS, hT⟩
    refine ⟨hS, ?_⟩
    rw [put_some, if_pos hnk]
    refine Ord_two (fun x y => T x y (some z)) vi vj i j di dj hi hj hij hdij hni hnj hrk (by rw [Array.setIfInBounds_comm _ _ (Ne.symm hik)]; exact hrik) (by rw [Array.setIfInBounds_comm _ _ (Ne.symm hjk)]; exact hrjk) hT ?_ ?_ ?_
    · exact fun z w1 σ' hσ h => si _ _ _ _ (fun s h1 h2 h3 => by rw [hσ s h1 h2, upd_apply, if_neg h3]) h
    · exact fun z w1 σ' hσ h => sj _ _ _ _ (fun s h1 h2 h3 => by rw [hσ s h1 h2, upd_apply, if_neg h3]) h
    · intro x y w1 h
      rw [upd_comm σ (Ne.symm hdik), upd_comm _ (Ne.symm hdjk), Array.setIfInBounds_comm _ _ (Ne.symm hik), Array.setIfInBounds_comm (xs := listed.setIfInBounds i true) _ _ (Ne.symm hjk)]
      exact hend x y z w1 h
/-! Many readers at once. -/
def optL (o : Option Oper) (l : List Oper) : List Oper := match o with
  | some o => o :: l
  | none => l
theorem optL_some (o : Oper) (l : List Oper) : optL (some o) l = o :: l := nr rfl
def opsL (ops : Array Oper) : List Nat → List Oper
  | [] => []
  | i :: r => optL ops[i]? (opsL ops r)
theorem opsL_nil (ops : Array Oper) : opsL ops [] = [] := nr rfl
theorem opsL_cons (ops : Array Oper) (i : Nat) (r : List Nat) : opsL ops (i :: r) = optL ops[i]? (opsL ops r) := nr rfl
def rdB (n : Nat) (ops : Array Oper) : Array Bool → List Nat → Bool
  | _, [] => true
  | L, i :: r => (match ops[i]? with
    | some ⟨some d, _, _, _, _, none⟩ => decide (d < n) && r.all fun j => (ops[j]?).bind (·.dst) != some d
    | _ => false) && Region.free .any ops L i && (Region.ready .any ops L).contains i && rdB n ops (L.setIfInBounds i true) r
def markL (L : Array Bool) (is : List Nat) : Array Bool := is.foldl (fun L i => L.setIfInBounds i true) L
theorem V_keep {τ : Sl} {d : Nat} : ∀ (is : List Nat) (σ : Sl), (is.all fun j => (ops[j]?).bind (·.dst) != some d) = true → V P n w (opsL ops is) σ (fun σ' => σ' = τ) → τ d = σ d
  | [], σ, _, h => by rw [← show σ = τ from h]
  | i :: r, σ, hd, h => by
    rw [List.all_cons, Bool.and_eq_true] at hd
    rw [opsL_cons] at h
    cases ho : ops[i]? with
    | none => rw [ho] at h; exact V_keep r σ hd.2 h
    | some o =>
      rw [ho, optL_some] at h
      obtain ⟨d', op, ty, p, af, g⟩ := o
      rw [V_op] at h
      have h1 := hd.1
      rw [ho] at h1
      have hne : d' ≠ some d := by simpa using h1
      cases hr : run1 P op ty σ w with
      | halt x w' => rw [hr] at h; exact h.elim
      | ok nx w' =>
        rw [hr] at h
        cases nx with
        | value v =>
          rw [V_keep r _ hd.2 h.2]
          cases d' with
          | none => rfl
          | some d' =>
            rw [put_some]
            split
            · rw [upd_apply, if_neg (fun e => hne (by rw [e]))]
            · rfl
        | _ => exact h.elim
theorem Ord_reads (is : List Nat) (f : Nat) {m : Nat} {τ : Sl} (hf : m = f + is.length) (hs : Region.noSelect ops = true) (hB : rdB n ops listed is = true)
    (hQ : ∀ c σ w, ¬ Q (.panic c) σ w) (hS : S w) (hv : ∀ w', S w' → V P n w' (opsL ops is) σ (fun σ' => σ' = τ))
    (h : Ord P n ops Q S f (markL listed is) τ w) : Ord P n ops Q S m listed σ w := by
  subst hf
  induction is generalizing listed σ with
  | nil => have e : σ = τ := hv w hS; rw [e]; exact h
  | cons i r ih =>
    rw [rdB, Bool.and_eq_true, Bool.and_eq_true, Bool.and_eq_true] at hB
    obtain ⟨⟨⟨h1, h2⟩, h3⟩, h4⟩ := hB
    cases ho : ops[i]? with
    | none => rw [ho] at h1; cases h1
    | some o =>
      obtain ⟨d', op, ty, p, af, g⟩ := o
      rw [ho] at h1
      cases d' with
      | none => cases h1
      | some d =>
      cases g with
      | some g => cases h1
      | none =>
      simp only [Bool.and_eq_true, decide_eq_true_eq] at h1
      obtain ⟨hd, hr⟩ := h1
      have key : ∀ w', S w' → run1 P op ty σ w' = .ok (.value (τ d)) w' ∧ V P n w' (opsL ops r) (put n σ (some d) (τ d)) (fun σ' => σ' = τ) := by
        intro w' hw'
        have hv := hv w' hw'
        rw [opsL_cons, ho, optL_some, V_op] at hv
        cases hr1 : run1 P op ty σ w' with
        | halt x w2 => rw [hr1] at hv; exact hv.elim
        | ok nx w2 =>
          rw [hr1] at hv
          cases nx with
          | value v =>
            obtain ⟨rfl, hv⟩ := hv
            have e := V_keep r _ hr hv
            rw [put_some, if_pos hd, upd_same] at e
            rw [e]
            exact ⟨rfl, hv⟩
          | _ => exact hv.elim
      exact Ord_take i ho hs h2 h3 hQ hS (fun w' hw' => (key w' hw').1) (ih h4 (fun w' hw' => (key w' hw').2) h)
/-! Cutting a proof at a place where several ways meet. -/
theorem E_mono {K K' : Sl → World → Prop} (h : ∀ σ w, K σ w → K' σ w) : ∀ (l : List Oper) (σ : Sl) (w : World), E P n ops l σ w K → E P n ops l σ w K'
  | [], σ, w, hE => h _ _ hE
  | ⟨d, op, ty, p, af, none⟩ :: r, σ, w, hE => Okv_mono (fun _ _ hv => E_mono h r _ _ hv) hE
  | ⟨d, op, ty, p, af, some (j, b)⟩ :: r, σ, w, hE => by
    rw [E_opg, GB] at *
    split
    · rename_i hg; rw [if_pos hg] at hE; exact Okv_mono (fun _ _ hv => E_mono h r _ _ hv) hE
    · rename_i hg; rw [if_neg hg] at hE; exact E_mono h r _ _ hE
theorem Raw_mono {Q Q' : Exit → Sl → World → Prop} {c : Code} (h : ∀ e σ w, Q e σ w → Q' e σ w) (hr : Raw P n c Q σ w) : Raw P n c Q' σ w :=
  fun a hf => wp_mono (hr a hf) fun e _ w' ⟨σ', hf', hq⟩ => ⟨σ', hf', h e σ' w' hq⟩
theorem W_mono : ∀ (c : Code) {Q Q' : Exit → Sl → World → Prop} {σ : Sl} {w : World}, (∀ e σ w, Q e σ w → Q' e σ w) → W P n c Q σ w → W P n c Q' σ w := by
  intro c
  induction c with
  | skip => intro Q Q' σ w h hw; exact h _ _ _ hw
  | region id ops draw =>
    intro Q Q' σ w h hw
    cases draw with
    | true => exact Raw_mono h hw
    | false => exact E_mono (fun σ w hk => h _ _ _ hk) _ _ _ hw
  | seq x y ihx ihy =>
    intro Q Q' σ w h hw
    refine ihx (fun e σ' w' hq => ?_) hw
    cases e
    case normal => exact ihy h hq
    all_goals exact h _ _ _ hq
  | cond c x y ihx ihy =>
    intro Q Q' σ w h hw
    rw [W_cond] at *
    generalize ev σ c = v at *
    cases v with
    | bool t => exact ⟨fun ht => ihx h (hw.1 ht), fun ht => ihy h (hw.2 ht)⟩
    | _ => exact hw.elim
  | block id c ih =>
    intro Q Q' σ w h hw
    refine ih (fun e σ' w' hq => ?_) hw
    cases e
    case exit id' =>
      simp only [inX] at *
      split
      · rename_i he; rw [if_pos he] at hq; exact h _ _ _ hq
      · rename_i he; rw [if_neg he] at hq; exact h _ _ _ hq
    all_goals exact h _ _ _ hq
  | exit id => intro Q Q' σ w h hw; exact h _ _ _ hw
  | ret => intro Q Q' σ w h hw; exact h _ _ _ hw
  | goto l => intro Q Q' σ w h hw; exact h _ _ _ hw
  | label l => intro Q Q' σ w h hw; exact h _ _ _ hw
  | _ => intro Q Q' σ w h hw; exact Raw_mono h hw
def cutX (J : Sl → World → Prop) (Q : Exit → Sl → World → Prop) : Exit → Sl → World → Prop
  | .normal, σ, w => J σ w
  | e, σ, w => Q e σ w
theorem cutX_normal {J : Sl → World → Prop} : cutX J Q .normal σ w = J σ w := nr rfl
theorem cutX_ret {J : Sl → World → Prop} : cutX J Q .ret σ w = Q .ret σ w := nr rfl
theorem cutX_exit {J : Sl → World → Prop} {id : Nat} : cutX J Q (.exit id) σ w = Q (.exit id) σ w := nr rfl
@[congr] theorem cutX_congr {J : Sl → World → Prop} {e : Exit} {σ σ' : Sl} {w w' : World} (h : σ = σ') (h' : w = w') : cutX J Q e σ w = cutX J Q e σ' w' := by rw [h, h']
theorem W_cut {c : Code} (J : Sl → World → Prop) (h2 : ∀ σ w, J σ w → Q .normal σ w) (h1 : W P n c (cutX J Q) σ w) : W P n c Q σ w :=
  W_mono c (fun e σ' w' hq => by
    cases e
    case normal => exact h2 _ _ hq
    all_goals exact hq) h1
/-- The same where ways meet at the end and at one exit. -/
def cut2X (id : Nat) (J Je : Sl → World → Prop) (Q : Exit → Sl → World → Prop) : Exit → Sl → World → Prop
  | .normal, σ, w => J σ w
  | .exit id', σ, w => if id' = id then Je σ w else Q (.exit id') σ w
  | e, σ, w => Q e σ w
theorem cut2X_normal {id : Nat} {J Je : Sl → World → Prop} : cut2X id J Je Q .normal σ w = J σ w := nr rfl
theorem cut2X_ret {id : Nat} {J Je : Sl → World → Prop} : cut2X id J Je Q .ret σ w = Q .ret σ w := nr rfl
theorem cut2X_same {id : Nat} {J Je : Sl → World → Prop} : cut2X id J Je Q (.exit id) σ w = Je σ w := if_pos rfl
theorem cut2X_ne {id id' : Nat} {J Je : Sl → World → Prop} (h : id' ≠ id) : cut2X id J Je Q (.exit id') σ w = Q (.exit id') σ w := if_neg h
@[congr] theorem cut2X_congr {id : Nat} {J Je : Sl → World → Prop} {e : Exit} {σ σ' : Sl} {w w' : World} (h : σ = σ') (h' : w = w') : cut2X id J Je Q e σ w = cut2X id J Je Q e σ' w' := by rw [h, h']
theorem W_cut2 {c : Code} (id : Nat) (J Je : Sl → World → Prop) (h1 : ∀ σ w, J σ w → Q .normal σ w) (h2 : ∀ σ w, Je σ w → Q (.exit id) σ w) (h : W P n c (cut2X id J Je Q) σ w) : W P n c Q σ w :=
  W_mono c (fun e σ' w' hq => by
    cases e
    case normal => exact h1 _ _ hq
    case exit id' =>
      simp only [cut2X] at hq
      split at hq
      · rename_i he; subst he; exact h2 _ _ hq
      · exact hq
    all_goals exact hq) h
end
end Go.Proofs.YtbdkggnajipdhaaGreatDoor
/- Rows of cells that are owned and grow; lists of records in a row. No program in sight. -/
namespace Go.Proofs.YtbdkggnajipdhaaGreatDoor
open Go.RowKit
/-- What owns something is a row. -/
theorem owns_row {w : World} {base size n c : Nat} {e : TypeId} {A : Option Addr} {xs : List Value} (h : w.ownsRow base e size (.slice A n c) n xs) (hn : 0 < n) : ∃ g, A = some ⟨g, 0, none⟩ ∧ base ≤ g ∧ Row w g e xs ∧ n ≤ c ∧ c ≤ maxLen := by
  rcases h.2 with ⟨_, h0⟩ | ⟨g, cap, cur, he, hb, hg, hnc, hcm, _, ht⟩
  · omega
  · injection he with h1 h2 h3
    subst h3
    exact ⟨g, h1, hb, ⟨cur, hg, _, by rw [← ht]; exact (List.take_append_drop _ _).symm⟩, hnc, hcm⟩
theorem grown_below {w w' : World} {row : Option Nat} {B : Nat} (h : w.grownBy w' row) (hr : ∀ g, row = some g → B ≤ g) (hB : B ≤ w.heap.size) : Below B w w' :=
  ⟨h.os, h.tape, h.output, h.size, fun k hk => h.block k (Nat.lt_of_lt_of_le hk hB) (fun e => by have := hr k e.symm; omega)⟩
theorem flat_len {α : Type} {enc : α → List Value} {sz : Nat} (he : ∀ x, (enc x).length = sz) : ∀ L : List α, (L.flatMap enc).length = L.length * sz
  | [] => by simp
  | x :: r => by rw [List.flatMap_cons, List.length_append, he, flat_len he r, List.length_cons, Nat.succ_mul]; omega
theorem owns_keep {w w' : World} {base e size n : Nat} {v : Value} {xs : List Value} (h : w.ownsRow base e size v n xs) (hb : ∀ g, v.ownBlock = some g → w'.heap[g]? = w.heap[g]?) : w'.ownsRow base e size v n xs := by
  refine ⟨h.1, ?_⟩
  rcases h.2 with h0 | ⟨g, cap, cur, rfl, h1, h2, h3⟩
  · exact .inl h0
  · exact .inr ⟨g, cap, cur, rfl, h1, (hb g rfl).trans h2, h3⟩
theorem owns_ge {w : World} {base e size n : Nat} {v : Value} {xs : List Value} (h : w.ownsRow base e size v n xs) {g : Nat} (hg : v.ownBlock = some g) : base ≤ g ∧ g < w.heap.size := by
  rcases h.2 with ⟨rfl, _⟩ | ⟨g', cap, cur, rfl, h1, h2, h3⟩
  · cases hg
  · simp only [Value.ownBlock, Option.some.injEq] at hg
    subst hg
    exact ⟨h1, (Array.getElem?_eq_some_iff.1 h2).1⟩
theorem Only.then_below {lo hi : Nat} {a b c : World} (h : Only lo hi a b) (k : Below a.heap.size b c) : Only lo hi a c :=
  ⟨k.os.trans h.os, k.tape.trans h.tape, k.output.trans h.output, Nat.le_trans h.size k.size, fun i hi' hr => (k.block i hi').trans (h.block i hi' hr)⟩
theorem flat_cell {α : Type} {enc : α → List Value} {sz : Nat} (he : ∀ x, (enc x).length = sz) {x : α} {j : Nat} {v : Value} (hv : (enc x)[j]? = some v) :
    ∀ (L : List α) (i : Nat), L[i]? = some x → (L.flatMap enc)[i * sz + j]? = some v
  | [], i, h => by simp at h
  | y :: r, i, h => by
    have hjl : j < sz := by rw [← he x]; exact (List.getElem?_eq_some_iff.1 hv).1
    rw [List.flatMap_cons]
    cases i with
    | zero =>
      simp only [List.getElem?_cons_zero, Option.some.injEq] at h
      subst h
      rw [Nat.zero_mul, Nat.zero_add, List.getElem?_append_left (by rw [he]; exact hjl), hv]
    | succ i =>
      rw [List.getElem?_cons_succ] at h
      rw [List.getElem?_append_right (by rw [he, Nat.succ_mul]; omega), he, show (i + 1) * sz + j - sz = i * sz + j from by rw [Nat.succ_mul]; omega]
      exact flat_cell he hv r i h
theorem flat_set {α : Type} {enc : α → List Value} {sz : Nat} (he : ∀ x, (enc x).length = sz) {x y : α} {j : Nat} {v : Value} (hj : j < sz) (hy : (enc x).set j v = enc y) :
    ∀ (L : List α) (i : Nat), L[i]? = some x → (L.flatMap enc).set (i * sz + j) v = (L.set i y).flatMap enc
  | [], i, h => by simp at h
  | z :: r, i, h => by
    cases i with
    | zero =>
      simp only [List.getElem?_cons_zero, Option.some.injEq] at h
      subst h
      rw [List.flatMap_cons, Nat.zero_mul, Nat.zero_add, List.set_append_left _ _ (by rw [he]; exact hj), hy]; rfl
    | succ i =>
      rw [List.getElem?_cons_succ] at h
      rw [List.flatMap_cons, List.set_append_right _ _ (by rw [he, Nat.succ_mul]; omega), he, show (i + 1) * sz + j - sz = i * sz + j from by rw [Nat.succ_mul]; omega, flat_set he hj hy r i h]; rfl
theorem make_row (w : World) (z : List Value) (n : Nat) (T : TypeId) (hz : 0 < z.length) : Row (w.alloc (.cells (madeCells z.toArray (n * z.length)) T)) w.heap.size T ((List.replicate n z).flatten) :=
  ⟨_, heap_alloc_new w _, [], by rw [madeCells_flat _ _ hz, List.append_nil]⟩
theorem rep_snoc (k : Nat) (v : Value) : List.replicate (k + 1) v = List.replicate k v ++ [v] := by
  rw [List.replicate_succ']
section
variable {P : Program} {w w' : World} {base e sz n c : Nat} {A : Option Addr} {xs news : List Value}
theorem owns_nil (w : World) (base e sz : Nat) : w.ownsRow base e sz (.slice none 0 0) 0 [] := ⟨by simp, .inl ⟨rfl, rfl⟩⟩
theorem owns_only {lo hi : Nat} {v : Value} (h : w.ownsRow base e sz v n xs) (ho : Only lo hi w w') (hr : hi ≤ base) : w'.ownsRow base e sz v n xs :=
  owns_keep h fun g hg => by
    obtain ⟨h1, h2⟩ := owns_ge h hg
    exact ho.block g h2 (.inr (by omega))
theorem owns_below {v : Value} (h : w.ownsRow base e sz v n xs) (hb : Below w.heap.size w w') : w'.ownsRow base e sz v n xs :=
  owns_keep h fun g hg => hb.block g (owns_ge h hg).2
theorem push1 {T ty bytes : Nat} (h : w.ownsRow base e sz (.slice A n c) n xs) (hb : base ≤ w.heap.size) (hI : sliceI P T = some (e, sz, bytes)) (hn : news.length = sz) (h1 : ∀ u ∈ news, u.oneCell' = true)
    (h63 : n + 1 ≤ 1000000000) (hby : bytes ≤ 10000) :
    ∃ A' c' w2, vAppend P T T ty (.slice A n c) (.slice (some ⟨w.heap.size, 0, none⟩) 1 1) (w.alloc (.cells news.toArray e)) = .ok (.value (.slice A' (n + 1) c')) w2 ∧
      w2.ownsRow base e sz (.slice A' (n + 1) c') (n + 1) (xs ++ news) ∧ Below base w w2 ∧ w.heap.size ≤ w2.heap.size := by
  have hba := below_alloc w (.cells news.toArray e)
  obtain ⟨A', c', w2, he, ho, hg', hbk⟩ := vAppend_own (P := P) (ty := ty) (m := 1) (c := 1) (b := w.heap.size) (o := 0) (news := news) hI (owns_below h hba) (by rw [hn, Nat.one_mul])
    (fun j u hu => by rw [Nat.zero_add, (new_block w news.toArray e).1 j]; simpa using hu) h1 h63 hby (by rw [World.size_alloc]; omega)
  have hgrow : Below base (w.alloc (.cells news.toArray e)) w2 := grown_below hg' (fun g hg => (owns_ge h hg).1) (by rw [World.size_alloc]; omega)
  have hB := (hba.mono hb).trans hgrow
  exact ⟨A', c', w2, he, ho, hB, hB.size⟩
end
end Go.Proofs.YtbdkggnajipdhaaGreatDoor
/- Regions that draw their order: slot readers (in any world alike), and a chain behind them. -/
namespace Go.Proofs.YtbdkggnajipdhaaGreatDoor
open Go.RowKit
section
variable {P : Program} {n : Nat} {ops : Array Oper} {Q : Exit → Sl → World → Prop} {σ : Sl} {w : World}
def chB (ops : Array Oper) : Array Bool → List Nat → Bool
  | L, [] => decide (Region.ready .any ops L = [])
  | L, j :: r => decide (Region.ready .any ops L = [j]) && (match ops[j]? with
    | some ⟨_, _, _, _, _, none⟩ => true
    | _ => false) && chB ops (L.setIfInBounds j true) r
theorem Ord_chain : ∀ (js : List Nat) (listed : Array Bool) (σ : Sl) (w : World), chB ops listed js = true → E P n ops (opsL ops js) σ w (Q .normal) → Ord P n ops Q (fun _ => True) js.length listed σ w
  | [], L, σ, w, h, hE => Ord_done (of_decide_eq_true h) hE
  | j :: r, L, σ, w, h, hE => by
    rw [chB, Bool.and_eq_true, Bool.and_eq_true] at h
    obtain ⟨⟨h1, h2⟩, h3⟩ := h
    rw [opsL_cons] at hE
    cases ho : ops[j]? with
    | none => rw [ho] at h2; cases h2
    | some o =>
      obtain ⟨d, op, ty, p, af, g⟩ := o
      rw [ho] at h2
      cases g with
      | some g => cases h2
      | none =>
        rw [ho, optL_some, E_op] at hE
        exact Ord_one j (of_decide_eq_true h1) ho (Okv_mono (fun v w' hh => ⟨trivial, Ord_chain r _ _ _ h3 hh⟩) hE)
/-- Readers of slots, then a chain. -/
theorem Raw_rc (is js : List Nat) {τ : Sl} {id : Nat} (hm : P.follows .mixedOrders = true) (hsz : ops.size = js.length + is.length) (hs : Region.noSelect ops = true) (hB : rdB n ops (Array.replicate (js.length + is.length) false) is = true)
    (hc : chB ops (markL (Array.replicate (js.length + is.length) false) is) js = true) (hQ : ∀ c σ w, ¬ Q (.panic c) σ w)
    (hv : ∀ w', V P n w' (opsL ops is) σ (fun σ' => σ' = τ)) (h : E P n ops (opsL ops js) τ w.drew (Q .normal)) : Raw P n (.region id ops true) Q σ w :=
  Raw_ord (fun _ => True) _ hsz hm (Ord_reads is js.length rfl hs hB hQ trivial (fun w' _ => hv w') (Ord_chain js _ _ _ hc h))
/-! The same where the readers read memory: S is what all worlds of the chain meet. Guarded operations may stand in the chain. -/
def chG (ops : Array Oper) : Array Bool → List Nat → Bool
  | L, [] => decide (Region.ready .any ops L = [])
  | L, j :: r => decide (Region.ready .any ops L = [j]) && (ops[j]?).isSome && chG ops (L.setIfInBounds j true) r
def EC (P : Program) (n : Nat) (ops : Array Oper) (S : World → Prop) : List Oper → Sl → World → (Sl → World → Prop) → Prop
  | [], σ, w, K => K σ w
  | ⟨d, op, ty, _, _, g⟩ :: r, σ, w, K => match g with
    | none => Okv P (fun v w' => S w' ∧ EC P n ops S r (put n σ d v) w' K) (run1 P op ty σ w)
    | some (j, b) => GB P (isB b (gval σ (gslot ops j))) (run1 P op ty σ w) (fun v w' => S w' ∧ EC P n ops S r (put n σ d v) w' K) w
theorem EC_nil (S : World → Prop) (σ : Sl) (w : World) (K : Sl → World → Prop) : EC P n ops S [] σ w K = K σ w := nr rfl
theorem EC_op (S : World → Prop) (d : Option Nat) (op : Op) (ty : TypeId) (p : String) (af : Array Edge) (r : List Oper) (σ : Sl) (w : World) (K : Sl → World → Prop) :
    EC P n ops S (⟨d, op, ty, p, af, none⟩ :: r) σ w K = Okv P (fun v w' => S w' ∧ EC P n ops S r (put n σ d v) w' K) (run1 P op ty σ w) := nr rfl
theorem EC_opg (S : World → Prop) (d : Option Nat) (op : Op) (ty : TypeId) (p : String) (af : Array Edge) (j : Nat) (b : Bool) (r : List Oper) (σ : Sl) (w : World) (K : Sl → World → Prop) :
    EC P n ops S (⟨d, op, ty, p, af, some (j, b)⟩ :: r) σ w K = GB P (isB b (gval σ (gslot ops j))) (run1 P op ty σ w) (fun v w' => S w' ∧ EC P n ops S r (put n σ d v) w' K) w := nr rfl
@[congr] theorem EC_congr {S : World → Prop} {l : List Oper} {σ σ' : Sl} {w w' : World} {K : Sl → World → Prop} (h : σ = σ') (h' : w = w') : EC P n ops S l σ w K = EC P n ops S l σ' w' K := by rw [h, h']
theorem OpO_ofg {S : World → Prop} {fuel : Nat} {listed : Array Bool} (i : Nat) {d : Option Nat} {op : Op} {ty : TypeId} {p : String} {af : Array Edge} {j : Nat} {b : Bool} (hi : ops[i]? = some ⟨d, op, ty, p, af, some (j, b)⟩)
    (h : GB P (isB b (gval σ (gslot ops j))) (run1 P op ty σ w) (fun v w' => S w' ∧ Ord P n ops Q S fuel (listed.setIfInBounds i true) (put n σ d v) w') w) : OpO P n ops Q S fuel listed σ w i := by
  intro a hfr
  unfold wpOp
  simp only [hi]
  rw [wanted_some hfr rfl]
  unfold GB at h
  split
  · rename_i hg
    rw [if_pos hg] at h
    exact .inl (Oper.wp_of_Okv hfr (o := ⟨d, op, ty, p, af, some (j, b)⟩) h fun v w' hE => ⟨hE.1, hE.2 _ (hfr.put d v)⟩)
  · rename_i hg
    rw [if_neg hg] at h
    exact ⟨h.1, h.2 _ (hfr.put d undef)⟩
theorem GB_mono {g : Bool} {R R' : Value → World → Prop} {r : Result Next} (h : ∀ v w, R v w → R' v w) (hr : GB P g r R w) : GB P g r R' w := by
  unfold GB at *
  split
  · rename_i hg
    rw [if_pos hg] at hr
    exact Okv_mono h hr
  · rename_i hg
    rw [if_neg hg] at hr
    exact h _ _ hr
theorem Ord_chainS (S : World → Prop) : ∀ (js : List Nat) (listed : Array Bool) (σ : Sl) (w : World), chG ops listed js = true → EC P n ops S (opsL ops js) σ w (Q .normal) → Ord P n ops Q S js.length listed σ w
  | [], L, σ, w, h, hE => Ord_done (of_decide_eq_true h) hE
  | j :: r, L, σ, w, h, hE => by
    rw [chG, Bool.and_eq_true, Bool.and_eq_true] at h
    obtain ⟨⟨h1, h2⟩, h3⟩ := h
    rw [opsL_cons] at hE
    cases ho : ops[j]? with
    | none => rw [ho] at h2; cases h2
    | some o =>
      obtain ⟨d, op, ty, p, af, g⟩ := o
      refine Ord_all [j] (of_decide_eq_true h1) (by simp) fun k hk => ?_
      obtain rfl : k = j := by simpa using hk
      cases g with
      | some g =>
        obtain ⟨gj, gb⟩ := g
        rw [ho, optL_some, EC_opg] at hE
        exact OpO_ofg k ho (GB_mono (fun v w' hh => ⟨hh.1, Ord_chainS S r _ _ _ h3 hh.2⟩) hE)
      | none =>
        rw [ho, optL_some, EC_op] at hE
        exact OpO_of k ho (Okv_mono (fun v w' hh => ⟨hh.1, Ord_chainS S r _ _ _ h3 hh.2⟩) hE)
theorem Raw_rcS (S : World → Prop) (is js : List Nat) {τ : Sl} {id : Nat} (hm : P.follows .mixedOrders = true) (hsz : ops.size = js.length + is.length) (hs : Region.noSelect ops = true) (hB : rdB n ops (Array.replicate (js.length + is.length) false) is = true)
    (hc : chG ops (markL (Array.replicate (js.length + is.length) false) is) js = true) (hQ : ∀ c σ w, ¬ Q (.panic c) σ w) (hS : S w.drew)
    (hv : ∀ w', S w' → V P n w' (opsL ops is) σ (fun σ' => σ' = τ)) (h : EC P n ops S (opsL ops js) τ w.drew (Q .normal)) : Raw P n (.region id ops true) Q σ w :=
  Raw_ord S _ hsz hm (Ord_reads is js.length rfl hs hB hQ hS hv (Ord_chainS S js _ _ _ hc h))
/-- A scope whose label stands behind three pieces of code. -/
theorem Raw_scope3 {x1 x2 x3 r : Code} (l : Nat) (J : Sl → World → Prop) (μ : Sl → World → Nat) (hf : findLabel (x1.seq (x2.seq (x3.seq ((Code.label l).seq r)))) l = some (Code.skip.seq r)) (hQ : ∀ l σ w, ¬ Q (.goto l) σ w)
    (first : W P n x1 (thenX (W P n x2 (thenX (W P n x3 (thenX J Q)) Q)) Q) σ w) (pass : ∀ σ w, J σ w → ∀ K : Sl → World → Prop, (∀ σ' w', J σ' w' → μ σ' w' < μ σ w → K σ' w') → W P n r (jumpX l K Q) σ w) :
    Raw P n (.scope (x1.seq (x2.seq (x3.seq ((Code.label l).seq r))))) Q σ w := by
  refine Raw_scope l J μ hf ?_ fun σ w hJ K hK => by rw [W_seq, W_skip, thenX_normal]; exact pass σ w hJ K hK
  have key : ∀ {x : Code} {K K' : Sl → World → Prop} {σ : Sl} {w : World}, (∀ σ w, K σ w → K' σ w) → W P n x (thenX K Q) σ w → W P n x (thenX K' (jumpX l J Q)) σ w := fun h hw => W_mono _ (fun e σ' w' hq => by
    cases e
    case normal => exact h _ _ hq
    case goto l' => exact absurd hq (hQ _ _ _)
    all_goals exact hq) hw
  rw [W_seq]
  refine key (fun σ w h => ?_) first
  rw [W_seq]
  refine key (fun σ w h => ?_) h
  rw [W_seq]
  refine key (fun σ w h => ?_) h
  rw [W_seq, W_label, thenX_normal]
  exact pass σ w h J fun _ _ h _ => h
end
end Go.Proofs.YtbdkggnajipdhaaGreatDoor
/- Regions that draw their order, where those that write wait for those that read: the pure ones are taken first, at the values that they yield in the world at hand. -/
namespace Go.Proofs.YtbdkggnajipdhaaGreatDoor
open Go.RowKit
section
variable {P : Program} {md : Region.Mode} {ops : Array Oper} {Q : Exit → Act → World → Prop} {pl : List Nat}
/-- Whatever order is picked from here on; the operations of the list pl leave the world as it is. -/
def wpAnyT (P : Program) (md : Region.Mode) (ops : Array Oper) (Q : Exit → Act → World → Prop) (pl : List Nat) : Nat → Array Bool → Act → World → Prop
  | 0, listed, a, w => Region.ready md ops listed = [] ∧ Q .normal a w
  | fuel + 1, listed, a, w =>
    (Region.ready md ops listed = [] → Q .normal a w) ∧
    ∀ i ∈ Region.ready md ops listed, wpOp P ops Q i (fun a' w' => (pl.contains i = true → w' = w) ∧ wpAnyT P md ops Q pl fuel (listed.setIfInBounds i true) a' w') a w
theorem wpAny_of_T : ∀ (fuel : Nat) (listed : Array Bool) (a : Act) (w : World), wpAnyT P md ops Q pl fuel listed a w → wpAny P md ops Q fuel listed a w
  | 0, _, _, _, h => h
  | fuel + 1, _, _, _, h => ⟨h.1, fun i hi => wpOp_mono (fun a' w' h' => wpAny_of_T fuel _ a' w' h'.2) (h.2 i hi)⟩
theorem wpAnyT_first {i : Nat} {oi : Oper} {v : Value} (hi : ops[i]? = some oi) (hsel : ∀ (j : Nat) (o : Oper) cs b, ops[j]? = some o → o.op ≠ .select cs b)
    (hQ : ∀ c a w, Q (.panic c) (a.put oi.dst v) w → Q (.panic c) a w) :
    ∀ (fuel : Nat) (listed : Array Bool) (a : Act) (w : World),
      (∀ j oj, ops[j]? = some oj → j ≠ i → listed.getD j true = false → (∀ e ∈ oj.after, Region.binds md e = true → e.on ≠ i) → oi.apart ops oj = true ∧ pl.contains j = true) →
      i ∈ Region.ready md ops listed → YieldsIf P ops (fun w' => w' = w) oi v a →
      wpAnyT P md ops Q pl fuel (listed.setIfInBounds i true) (a.put oi.dst v) w → wpAnyT P md ops Q pl (fuel + 1) listed a w := by
  intro fuel
  induction fuel with
  | zero =>
    intro listed a w _ hr hy H
    refine ⟨fun h => (by rw [h] at hr; cases hr), fun j hj => ?_⟩
    by_cases hji : j = i
    · subst hji; exact hy.wpOp hi rfl ⟨fun _ => rfl, H⟩
    · have := ready_mono hj hji
      rw [H.1] at this
      cases this
  | succ fuel ih =>
    intro listed a w hfree hr hy H
    refine ⟨fun h => (by rw [h] at hr; cases hr), fun j hj => ?_⟩
    by_cases hji : j = i
    · subst hji; exact hy.wpOp hi rfl ⟨fun _ => rfl, H⟩
    · have h1 := H.2 j (ready_mono hj hji)
      obtain ⟨hjun, oj, hoj, hall⟩ := mem_ready.1 hj
      have hnot : ∀ e ∈ oj.after, Region.binds md e = true → e.on ≠ i := fun e he hb heq => by
        have h1 := hall e he hb
        have h0 := (mem_ready.1 hr).1
        rw [heq] at h1
        rcases Nat.lt_or_ge i listed.size with h' | h'
        · simp [h'] at h0 h1; rw [h0] at h1; cases h1
        · simp [Array.getElem?_eq_none h'] at h1
      obtain ⟨hap, hpj⟩ := hfree j oj hoj hji hjun hnot
      have h2 := wpOp_putIf hoj hap (fun cs b => hsel i oi cs b hi) (fun cs b => hsel j oj cs b hoj) hQ hy h1
      have hfree' : ∀ k ok, ops[k]? = some ok → k ≠ i → (listed.setIfInBounds j true).getD k true = false →
          (∀ e ∈ ok.after, Region.binds md e = true → e.on ≠ i) → oi.apart ops ok = true ∧ pl.contains k = true := fun k ok hk hki hun hno => by
        refine hfree k ok hk hki ?_ hno
        by_cases hjk : j = k
        · subst hjk; exact hjun
        · rw [getD_set_ne true hjk] at hun; exact hun
      refine wpOp_mono (fun a' w' h3 => ?_) h2
      obtain ⟨h4, h5, h6⟩ := h3
      have hw := h5 hpj
      subst hw
      refine ⟨fun _ => rfl, ih (listed.setIfInBounds j true) a' _ hfree' (ready_mono hr (Ne.symm hji)) h4 ?_⟩
      rw [Array.setIfInBounds_comm _ _ hji]
      exact h6
theorem wpAnyT_firstU {i : Nat} {oi : Oper} {v : Value} (hi : ops[i]? = some oi) (hsel : ∀ (j : Nat) (o : Oper) cs b, ops[j]? = some o → o.op ≠ .select cs b)
    (hQ : ∀ c a w, Q (.panic c) (a.put oi.dst v) w → Q (.panic c) a w) :
    ∀ (fuel : Nat) (listed : Array Bool) (a : Act) (w : World),
      (∀ j oj, ops[j]? = some oj → j ≠ i → listed.getD j true = false → (∀ e ∈ oj.after, Region.binds md e = true → e.on ≠ i) → oi.apart ops oj = true) →
      i ∈ Region.ready md ops listed → YieldsIf P ops (fun _ => True) oi v a →
      wpAnyT P md ops Q pl fuel (listed.setIfInBounds i true) (a.put oi.dst v) w → wpAnyT P md ops Q pl (fuel + 1) listed a w := by
  intro fuel
  induction fuel with
  | zero =>
    intro listed a w _ hr hy H
    refine ⟨fun h => (by rw [h] at hr; cases hr), fun j hj => ?_⟩
    by_cases hji : j = i
    · subst hji; exact hy.wpOp hi trivial ⟨fun _ => rfl, H⟩
    · have := ready_mono hj hji
      rw [H.1] at this
      cases this
  | succ fuel ih =>
    intro listed a w hfree hr hy H
    refine ⟨fun h => (by rw [h] at hr; cases hr), fun j hj => ?_⟩
    by_cases hji : j = i
    · subst hji; exact hy.wpOp hi trivial ⟨fun _ => rfl, H⟩
    · have h1 := H.2 j (ready_mono hj hji)
      obtain ⟨hjun, oj, hoj, hall⟩ := mem_ready.1 hj
      have hnot : ∀ e ∈ oj.after, Region.binds md e = true → e.on ≠ i := fun e he hb heq => by
        have h1 := hall e he hb
        have h0 := (mem_ready.1 hr).1
        rw [heq] at h1
        rcases Nat.lt_or_ge i listed.size with h' | h'
        · simp [h'] at h0 h1; rw [h0] at h1; cases h1
        · simp [Array.getElem?_eq_none h'] at h1
      have h2 := wpOp_putIf hoj (hfree j oj hoj hji hjun hnot) (fun cs b => hsel i oi cs b hi) (fun cs b => hsel j oj cs b hoj) hQ hy h1
      have hfree' : ∀ k ok, ops[k]? = some ok → k ≠ i → (listed.setIfInBounds j true).getD k true = false →
          (∀ e ∈ ok.after, Region.binds md e = true → e.on ≠ i) → oi.apart ops ok = true := fun k ok hk hki hun hno => by
        refine hfree k ok hk hki ?_ hno
        by_cases hjk : j = k
        · subst hjk; exact hjun
        · rw [getD_set_ne true hjk] at hun; exact hun
      refine wpOp_mono (fun a' w' h3 => ?_) h2
      obtain ⟨h4, h5, h6⟩ := h3
      refine ⟨h5, ih (listed.setIfInBounds j true) a' _ hfree' (ready_mono hr (Ne.symm hji)) h4 ?_⟩
      rw [Array.setIfInBounds_comm _ _ hji]
      exact h6
end
section
variable {P : Program} {n : Nat} {ops : Array Oper} {Q : Exit → Sl → World → Prop} {σ : Sl} {w : World} {fuel : Nat} {listed : Array Bool} {pl : List Nat}
def OrdT (P : Program) (n : Nat) (ops : Array Oper) (Q : Exit → Sl → World → Prop) (pl : List Nat) (fuel : Nat) (listed : Array Bool) (σ : Sl) (w : World) : Prop :=
  ∀ a, Fr n σ a → wpAnyT P .any ops (lift n Q) pl fuel listed a w
@[congr] theorem OrdT_congr {σ σ' : Sl} {w w' : World} (h : σ = σ') (h' : w = w') : OrdT P n ops Q pl fuel listed σ w = OrdT P n ops Q pl fuel listed σ' w' := by rw [h, h']
theorem Raw_ordT (pl : List Nat) (m : Nat) (hsz : ops.size = m) {id : Nat} (hm : P.follows .mixedOrders = true) (h : OrdT P n ops Q pl m (Array.replicate m false) σ w.drew) : Raw P n (.region id ops true) Q σ w := by
  intro a hf
  subst hsz
  exact wp_region_any hm (wpAny_of_T _ _ _ _ (h a hf))
/-- Each operation that has not come up waits for i, or is one of the pure ones and apart from it. -/
def freeT (ops : Array Oper) (pl : List Nat) (listed : Array Bool) (i : Nat) : Bool :=
  match ops[i]? with
  | none => false
  | some oi => (List.range ops.size).all fun j => j == i || listed.getD j true || match ops[j]? with
      | some oj => oj.after.any (fun e => Region.binds .any e && e.on == i) || (oi.apart ops oj && pl.contains j)
      | none => true
theorem freeT_spec {i : Nat} {oi : Oper} (hi : ops[i]? = some oi) (h : freeT ops pl listed i = true) (j : Nat) (oj : Oper)
    (hj : ops[j]? = some oj) (hne : j ≠ i) (hun : listed.getD j true = false) (hno : ∀ e ∈ oj.after, Region.binds .any e = true → e.on ≠ i) : oi.apart ops oj = true ∧ pl.contains j = true := by
  unfold freeT at h
  simp only [hi, List.all_eq_true, List.mem_range] at h
  have h1 := h j (Array.getElem?_eq_some_iff.1 hj).1
  rw [hj, hun] at h1
  simp only [Bool.or_false, Bool.or_eq_true, beq_iff_eq, Bool.and_eq_true, Array.any_eq_true', decide_eq_true_eq] at h1
  rcases h1 with h1 | h1 | h1
  · exact absurd h1 hne
  · obtain ⟨e, he, hb, ho⟩ := h1
    exact absurd ho (hno e he hb)
  · exact h1
theorem OrdT_take (i : Nat) {d : Option Nat} {op : Op} {ty : TypeId} {p : String} {af : Array Edge} {v : Value} (hi : ops[i]? = some ⟨d, op, ty, p, af, none⟩)
    (hs : Region.noSelect ops = true) (hf : freeT ops pl listed i = true) (hr : (Region.ready .any ops listed).contains i = true)
    (hQ : ∀ c σ w, ¬ Q (.panic c) σ w) (hv : run1 P op ty σ w = .ok (.value v) w)
    (h : OrdT P n ops Q pl fuel (listed.setIfInBounds i true) (put n σ d v) w) : OrdT P n ops Q pl (fuel + 1) listed σ w := by
  intro a hfr
  refine wpAnyT_first hi (Region.noSelect_spec hs) ?_ fuel listed a w (freeT_spec hi hf) (by simpa using hr) (v := v) ?_ (h _ (hfr.put d v))
  · rintro c a w ⟨σ', _, hq⟩
    exact absurd hq (hQ _ _ _)
  · refine .inl ⟨wanted_none rfl, fun w' hw' => ?_⟩
    subst hw'
    rw [hfr.eval]
    exact hv
/-- One that writes, if nobody else may come up. -/
theorem OrdT_all (rs : List Nat) (hr : Region.ready .any ops listed = rs) (hne : rs ≠ []) (h : ∀ i ∈ rs, pl.contains i = false ∧ match ops[i]? with
      | some ⟨d, op, ty, _, _, none⟩ => Okv P (fun v w' => OrdT P n ops Q pl fuel (listed.setIfInBounds i true) (put n σ d v) w') (run1 P op ty σ w)
      | _ => False) : OrdT P n ops Q pl (fuel + 1) listed σ w := by
  intro a hfr
  refine ⟨fun h0 => absurd (hr ▸ h0) hne, hr ▸ fun i hi => ?_⟩
  obtain ⟨h1, h2⟩ := h i hi
  cases ho : ops[i]? with
  | none => rw [ho] at h2; exact h2.elim
  | some o =>
    rw [ho] at h2
    obtain ⟨d, op, ty, p, af, g⟩ := o
    cases g with
    | some g => exact h2.elim
    | none =>
      unfold wpOp
      simp only [ho]
      rw [if_pos (wanted_none rfl)]
      exact .inl (Oper.wp_of_Okv hfr (o := ⟨d, op, ty, p, af, none⟩) h2 fun v w' hE => ⟨fun hp => (by rw [h1] at hp; cases hp), hE _ (hfr.put d v)⟩)
theorem OrdT_one (i : Nat) {d : Option Nat} {op : Op} {ty : TypeId} {p : String} {af : Array Edge} (hr : Region.ready .any ops listed = [i]) (hp : pl.contains i = false) (hi : ops[i]? = some ⟨d, op, ty, p, af, none⟩)
    (h : Okv P (fun v w' => OrdT P n ops Q pl fuel (listed.setIfInBounds i true) (put n σ d v) w') (run1 P op ty σ w)) : OrdT P n ops Q pl (fuel + 1) listed σ w :=
  OrdT_all [i] hr (by simp) fun j hj => by
    obtain rfl : j = i := by simpa using hj
    exact ⟨hp, by rw [hi]; exact h⟩
theorem OrdT_done (hr : Region.ready .any ops listed = []) (h : Q .normal σ w) : OrdT P n ops Q pl fuel listed σ w := fun a hf => by
  cases fuel with
  | zero => exact ⟨hr, σ, hf, h⟩
  | succ f => exact ⟨fun _ => ⟨σ, hf, h⟩, by rw [hr]; simp⟩
def rdT (n : Nat) (ops : Array Oper) (pl : List Nat) : Array Bool → List Nat → Bool
  | _, [] => true
  | L, i :: r => (match ops[i]? with
    | some ⟨some d, _, _, _, _, none⟩ => decide (d < n) && r.all fun j => (ops[j]?).bind (·.dst) != some d
    | _ => false) && freeT ops pl L i && (Region.ready .any ops L).contains i && rdT n ops pl (L.setIfInBounds i true) r
theorem OrdT_reads (is : List Nat) (f : Nat) {m : Nat} {τ : Sl} (hf : m = f + is.length) (hs : Region.noSelect ops = true) (hB : rdT n ops pl listed is = true)
    (hQ : ∀ c σ w, ¬ Q (.panic c) σ w) (hv : V P n w (opsL ops is) σ (fun σ' => σ' = τ))
    (h : OrdT P n ops Q pl f (markL listed is) τ w) : OrdT P n ops Q pl m listed σ w := by
  subst hf
  induction is generalizing listed σ with
  | nil => have e : σ = τ := hv; rw [e]; exact h
  | cons i r ih =>
    rw [rdT, Bool.and_eq_true, Bool.and_eq_true, Bool.and_eq_true] at hB
    obtain ⟨⟨⟨h1, h2⟩, h3⟩, h4⟩ := hB
    cases ho : ops[i]? with
    | none => rw [ho] at h1; cases h1
    | some o =>
      obtain ⟨d', op, ty, p, af, g⟩ := o
      rw [ho] at h1
      cases d' with
      | none => cases h1
      | some d =>
      cases g with
      | some g => cases h1
      | none =>
      rw [opsL_cons, ho, optL_some, V_op] at hv
      cases hr1 : run1 P op ty σ w with
      | halt x w2 => rw [hr1] at hv; exact hv.elim
      | ok nx w2 =>
        rw [hr1] at hv
        cases nx with
        | value v =>
          obtain ⟨rfl, hv⟩ := hv
          exact OrdT_take i ho hs h2 h3 hQ hr1 (ih h4 hv h)
        | _ => exact hv.elim
theorem OrdT_pair (i j : Nat) {di dj : Option Nat} {opi opj : Op} {tyi tyj : TypeId} {pi pj : String} {afi afj : Array Edge} (hr : Region.ready .any ops listed = [i, j])
    (hr1 : Region.ready .any ops (listed.setIfInBounds i true) = [j]) (hr2 : Region.ready .any ops (listed.setIfInBounds j true) = [i])
    (hr3 : Region.ready .any ops ((listed.setIfInBounds i true).setIfInBounds j true) = []) (hr4 : Region.ready .any ops ((listed.setIfInBounds j true).setIfInBounds i true) = [])
    (hpi : pl.contains i = false) (hpj : pl.contains j = false) (hij : i ≠ j) (hi : ops[i]? = some ⟨di, opi, tyi, pi, afi, none⟩) (hj : ops[j]? = some ⟨dj, opj, tyj, pj, afj, none⟩)
    (h1 : Okv P (fun v w' => Okv P (fun u w'' => Q .normal (put n (put n σ di v) dj u) w'') (run1 P opj tyj (put n σ di v) w')) (run1 P opi tyi σ w))
    (h2 : Okv P (fun v w' => Okv P (fun u w'' => Q .normal (put n (put n σ dj v) di u) w'') (run1 P opi tyi (put n σ dj v) w')) (run1 P opj tyj σ w)) : OrdT P n ops Q pl 2 listed σ w :=
  OrdT_all [i, j] hr (by simp) fun k hk => by
    simp only [List.mem_cons, List.not_mem_nil, or_false] at hk
    rcases hk with rfl | rfl
    · refine ⟨hpi, ?_⟩
      rw [hi]
      exact Okv_mono (fun v w' h => OrdT_one j hr1 hpj hj (Okv_mono (fun u w'' h => OrdT_done hr3 h) h)) h1
    · refine ⟨hpj, ?_⟩
      rw [hj]
      exact Okv_mono (fun v w' h => OrdT_one i hr2 hpi hi (Okv_mono (fun u w'' h => OrdT_done hr4 h) h)) h2
/-- A reader of slots: its value in whatever world. -/
theorem OrdT_takeU (i : Nat) {d : Option Nat} {op : Op} {ty : TypeId} {p : String} {af : Array Edge} {v : Value} (hi : ops[i]? = some ⟨d, op, ty, p, af, none⟩)
    (hs : Region.noSelect ops = true) (hf : Region.free .any ops listed i = true) (hr : (Region.ready .any ops listed).contains i = true)
    (hQ : ∀ c σ w, ¬ Q (.panic c) σ w) (hv : ∀ w', run1 P op ty σ w' = .ok (.value v) w')
    (h : OrdT P n ops Q pl fuel (listed.setIfInBounds i true) (put n σ d v) w) : OrdT P n ops Q pl (fuel + 1) listed σ w := by
  intro a hfr
  refine wpAnyT_firstU hi (Region.noSelect_spec hs) ?_ fuel listed a w (Region.free_spec hi hf) (by simpa using hr) (v := v) ?_ (h _ (hfr.put d v))
  · rintro c a w ⟨σ', _, hq⟩
    exact absurd hq (hQ _ _ _)
  · refine .inl ⟨wanted_none rfl, fun w' _ => ?_⟩
    rw [hfr.eval]
    exact hv w'
theorem OrdT_readsU (is : List Nat) (f : Nat) {m : Nat} {τ : Sl} (hf : m = f + is.length) (hs : Region.noSelect ops = true) (hB : rdB n ops listed is = true)
    (hQ : ∀ c σ w, ¬ Q (.panic c) σ w) (hv : ∀ w', V P n w' (opsL ops is) σ (fun σ' => σ' = τ))
    (h : OrdT P n ops Q pl f (markL listed is) τ w) : OrdT P n ops Q pl m listed σ w := by
  subst hf
  induction is generalizing listed σ with
  | nil => have e : σ = τ := hv w; rw [e]; exact h
  | cons i r ih =>
    rw [rdB, Bool.and_eq_true, Bool.and_eq_true, Bool.and_eq_true] at hB
    obtain ⟨⟨⟨h1, h2⟩, h3⟩, h4⟩ := hB
    cases ho : ops[i]? with
    | none => rw [ho] at h1; cases h1
    | some o =>
      obtain ⟨d', op, ty, p, af, g⟩ := o
      rw [ho] at h1
      cases d' with
      | none => cases h1
      | some d =>
      cases g with
      | some g => cases h1
      | none =>
      simp only [Bool.and_eq_true, decide_eq_true_eq] at h1
      obtain ⟨hd, hr⟩ := h1
      have key : ∀ w', run1 P op ty σ w' = .ok (.value (τ d)) w' ∧ V P n w' (opsL ops r) (put n σ (some d) (τ d)) (fun σ' => σ' = τ) := by
        intro w'
        have hv := hv w'
        rw [opsL_cons, ho, optL_some, V_op] at hv
        cases hr1 : run1 P op ty σ w' with
        | halt x w2 => rw [hr1] at hv; exact hv.elim
        | ok nx w2 =>
          rw [hr1] at hv
          cases nx with
          | value v =>
            obtain ⟨rfl, hv⟩ := hv
            have e := V_keep r _ hr hv
            rw [put_some, if_pos hd, upd_same] at e
            rw [e]
            exact ⟨rfl, hv⟩
          | _ => exact hv.elim
      exact OrdT_takeU i ho hs h2 h3 hQ (fun w' => (key w').1) (ih h4 (fun w' => (key w').2) h)
theorem OrdT_chain : ∀ (js : List Nat) (listed : Array Bool) (σ : Sl) (w : World), (js.all fun j => !pl.contains j) = true → chB ops listed js = true → E P n ops (opsL ops js) σ w (Q .normal) → OrdT P n ops Q pl js.length listed σ w
  | [], L, σ, w, _, h, hE => OrdT_done (of_decide_eq_true h) hE
  | j :: r, L, σ, w, hp, h, hE => by
    rw [chB, Bool.and_eq_true, Bool.and_eq_true] at h
    rw [List.all_cons, Bool.and_eq_true] at hp
    obtain ⟨⟨h1, h2⟩, h3⟩ := h
    rw [opsL_cons] at hE
    cases ho : ops[j]? with
    | none => rw [ho] at h2; cases h2
    | some o =>
      obtain ⟨d, op, ty, p, af, g⟩ := o
      rw [ho] at h2
      cases g with
      | some g => cases h2
      | none =>
        rw [ho, optL_some, E_op] at hE
        exact OrdT_one j (of_decide_eq_true h1) (by simpa using hp.1) ho (Okv_mono (fun v w' hh => OrdT_chain r _ _ _ hp.2 h3 hh) hE)
end
end Go.Proofs.YtbdkggnajipdhaaGreatDoor
/- Frames: all blocks but the listed ones stay. -/
namespace Go.Proofs.YtbdkggnajipdhaaGreatDoor
open Go.RowKit
set_option maxRecDepth 100000
/-- All blocks but the listed ones stay. -/
structure Kept (X : List Nat) (w w' : World) : Prop where
  os : w'.os = w.os
  tape : w'.tape = w.tape
  output : w'.output = w.output
  size : w.heap.size ≤ w'.heap.size
  block : ∀ k, k < w.heap.size → k ∉ X → w'.heap[k]? = w.heap[k]?
section
variable {X : List Nat} {a w w' : World}
theorem Kept.refl (X : List Nat) (w : World) : Kept X w w := ⟨rfl, rfl, rfl, Nat.le_refl _, fun _ _ _ => rfl⟩
theorem Kept.trans (h : Kept X a w) (k : Kept X w w') : Kept X a w' :=
  ⟨k.os.trans h.os, k.tape.trans h.tape, k.output.trans h.output, Nat.le_trans h.size k.size, fun g hg hr => (k.block g (Nat.lt_of_lt_of_le hg h.size) hr).trans (h.block g hg hr)⟩
theorem Kept.of_below (h : Below w.heap.size w w') : Kept X w w' := ⟨h.os, h.tape, h.output, h.size, fun g hg _ => h.block g hg⟩
theorem Kept.of_only {g : Nat} (h : Only g (g + 1) w w') (hg : g ∈ X) : Kept X w w' :=
  ⟨h.os, h.tape, h.output, h.size, fun k hk hr => h.block k hk (by have : k ≠ g := fun e => hr (e ▸ hg); omega)⟩
theorem Kept.alloc (h : Kept X a w) (o : Obj) : Kept X a (w.alloc o) := h.trans (Kept.of_below (below_alloc w o))
theorem Kept.drew (h : Kept X a w) : Kept X a w.drew := ⟨h.os, h.tape, h.output, h.size, h.block⟩
theorem Kept.setCell (h : Kept X a w) {p : Addr} (hp : p.block ∈ X) (v : Value) : Kept X a (w.setCell p v) :=
  h.trans (Kept.of_only (g := p.block) ((Only.refl p.block (p.block + 1) w).setCell (Nat.le_refl _) (Nat.lt_succ_self _) v) hp)
theorem Row.kept {g : Nat} {T : TypeId} {cs : List Value} (h : Row w g T cs) (k : Kept X w w') (hg : g ∉ X) : Row w' g T cs := h.of_block (k.block g h.lt hg)
/-- What is new may be listed too. -/
theorem Kept.less {Y : List Nat} (h : Kept X w w') (hY : ∀ k ∈ X, k < w.heap.size → k ∈ Y) : Kept Y w w' :=
  ⟨h.os, h.tape, h.output, h.size, fun k hk hr => h.block k hk fun hx => hr (hY k hx hk)⟩
theorem Kept.only {g : Nat} (h : Kept [g] w w') : Only g (g + 1) w w' := ⟨h.os, h.tape, h.output, h.size, fun k hk hr => h.block k hk (by simp; omega)⟩
theorem Kept.cell {g o : Nat} (h : Kept X w w') (hg : g < w.heap.size) (hr : g ∉ X) : w'.cell? ⟨g, o, none⟩ = w.cell? ⟨g, o, none⟩ := World.cell?_of_block (w := w) (h.block g hg hr)
theorem Kept.frozen {g o : Nat} (h : Kept X w w') (hg : g < w.heap.size) (hr : g ∉ X) : w'.frozen? ⟨g, o, none⟩ = w.frozen? ⟨g, o, none⟩ := World.frozen?_of_block (w := w) (h.block g hg hr)
end
theorem Arr.kept {X : List Nat} {w w' : World} {A : Option Addr} {sz : Nat} {Ls : List (List Value)} (h : Arr w A sz Ls) (k : Kept X w w') (hA : ∀ b o, A = some ⟨b, o, none⟩ → b ∉ X) : Arr w' A sz Ls := fun hn => by
  obtain ⟨b, o, e, hb, hc⟩ := h hn
  exact ⟨b, o, e, Nat.lt_of_lt_of_le hb k.size, fun i l hl j u hu => (k.cell hb (hA b o e)).trans (hc i l hl j u hu)⟩
end Go.Proofs.YtbdkggnajipdhaaGreatDoor
/- Regions that draw their order: a reader that waits for a condition. -/
namespace Go.Proofs.YtbdkggnajipdhaaGreatDoor
open Go.RowKit
section
variable {P : Program} {n : Nat} {ops : Array Oper} {Q : Exit → Sl → World → Prop} {σ : Sl} {w : World} {fuel : Nat} {listed : Array Bool} {S : World → Prop}
theorem Ord_takeg (i : Nat) {d : Option Nat} {op : Op} {ty : TypeId} {p : String} {af : Array Edge} {j : Nat} {b : Bool} {v : Value} (hi : ops[i]? = some ⟨d, op, ty, p, af, some (j, b)⟩)
    (hs : Region.noSelect ops = true) (hf : Region.free .any ops listed i = true) (hr : (Region.ready .any ops listed).contains i = true)
    (hQ : ∀ c σ w, ¬ Q (.panic c) σ w) (hS : S w) (hg : isB b (gval σ (gslot ops j)) = true) (hv : ∀ w', S w' → run1 P op ty σ w' = .ok (.value v) w')
    (h : Ord P n ops Q S fuel (listed.setIfInBounds i true) (put n σ d v) w) : Ord P n ops Q S (fuel + 1) listed σ w := by
  intro a hfr
  refine wpAnyH_take hi hs hf hr ?_ (v := v) ?_ hS (h _ (hfr.put d v))
  · rintro c a w ⟨σ', _, hq⟩
    exact absurd hq (hQ _ _ _)
  · refine .inl ⟨by rw [wanted_some hfr rfl]; exact hg, fun w' hw' => ?_⟩
    have := hv w' hw'
    rw [hfr.eval]
    exact this
theorem Ord_takeo (i : Nat) {d : Option Nat} {op : Op} {ty : TypeId} {p : String} {af : Array Edge} {j : Nat} {b : Bool} (hi : ops[i]? = some ⟨d, op, ty, p, af, some (j, b)⟩)
    (hs : Region.noSelect ops = true) (hf : Region.free .any ops listed i = true) (hr : (Region.ready .any ops listed).contains i = true)
    (hQ : ∀ c σ w, ¬ Q (.panic c) σ w) (hS : S w) (hg : isB b (gval σ (gslot ops j)) = false)
    (h : Ord P n ops Q S fuel (listed.setIfInBounds i true) (put n σ d undef) w) : Ord P n ops Q S (fuel + 1) listed σ w := by
  intro a hfr
  refine wpAnyH_take hi hs hf hr ?_ (v := undef) ?_ hS (h _ (hfr.put d undef))
  · rintro c a w ⟨σ', _, hq⟩
    exact absurd hq (hQ _ _ _)
  · exact .inr ⟨by rw [wanted_some hfr rfl]; exact hg, rfl⟩
end
end Go.Proofs.YtbdkggnajipdhaaGreatDoor
/- The engine where calls may panic: the same as XEng's E and W, with a place for what is asked once the code panics; frames that have deferred calls. No function of the program in sight. -/
namespace Go.Proofs.YtbdkggnajipdhaaGreatDoor
open Go.RowKit
/-- The frame 'a' has n slots σ and the deferred calls ds. -/
structure FrD (ds : List Deferred) (n : Nat) (σ : Sl) (a : Act) : Prop where
  size : a.tmps.size = n
  defers : a.defers = ds
  at_ : ∀ i, a.tmps.getD i undef = σ i
theorem FrD.eval {ds : List Deferred} {n : Nat} {σ : Sl} {a : Act} (h : FrD ds n σ a) : a.eval = ev σ := by
  funext o
  cases o <;> first | rfl | exact h.at_ _
theorem FrD.fr {ds : List Deferred} {n : Nat} {σ : Sl} {a : Act} (h : FrD ds n σ a) : Fr n σ { a with defers := [] } := ⟨h.size, rfl, h.at_⟩
theorem FrD.put {ds : List Deferred} {n : Nat} {σ : Sl} {a : Act} (h : FrD ds n σ a) (d : Option Nat) (v : Value) : FrD ds n (put n σ d v) (a.put d v) := by
  have hq := h.fr.put d v
  refine ⟨?_, ?_, fun i => ?_⟩
  · have := hq.size; cases d <;> simpa [Act.put] using this
  · cases d <;> exact h.defers
  · have := hq.at_ i; cases d <;> exact this
theorem wanted_someD {ds : List Deferred} {n : Nat} {σ : Sl} {a : Act} (h : FrD ds n σ a) {ops : Array Oper} {o : Oper} {j : Nat} {b : Bool} (hg : o.guard = some (j, b)) :
    Region.wanted o (yielded ops a.tmps) = isB b (gval σ (gslot ops j)) := wanted_some h.fr hg
/-- How a call ends: R behind a return, X behind a panic. -/
def Ends (R : Value → World → Prop) (X : List PanicEntry → World → Prop) : Ending → World → Prop
  | .returned v, w => R v w
  | .panicked c, w => X c w
  | .outgrown, _ => False
theorem Ends_ret (R : Value → World → Prop) (X : List PanicEntry → World → Prop) (v : Value) (w : World) : Ends R X (.returned v) w = R v w := nr rfl
theorem Ends_pan (R : Value → World → Prop) (X : List PanicEntry → World → Prop) (c : List PanicEntry) (w : World) : Ends R X (.panicked c) w = X c w := nr rfl
def OkvX (P : Program) (R : Value → World → Prop) (X : List PanicEntry → World → Prop) : Result Next → Prop
  | .ok (.value v) w' => R v w'
  | .ok .skip w' => R undef w'
  | .ok (.enter f args) w' => Calls P f args w' (Ends R X)
  | .halt (.panic v) w' => X [{ v, recovered := false }] w'
  | _ => False
def GBX (P : Program) (g : Bool) (r : Result Next) (R : Value → World → Prop) (X : List PanicEntry → World → Prop) (w : World) : Prop := if g then OkvX P R X r else R undef w
/-- The operations of a region in their order; X: what is asked once one of them panics. -/
def EX (P : Program) (n : Nat) (ops : Array Oper) (X : List PanicEntry → Sl → World → Prop) : List Oper → Sl → World → (Sl → World → Prop) → Prop
  | [], σ, w, K => K σ w
  | ⟨d, op, ty, _, _, g⟩ :: r, σ, w, K => match g with
    | none => OkvX P (fun v w' => EX P n ops X r (put n σ d v) w' K) (fun c w' => X c σ w') (run1 P op ty σ w)
    | some (j, b) => GBX P (isB b (gval σ (gslot ops j))) (run1 P op ty σ w) (fun v w' => EX P n ops X r (put n σ d v) w' K) (fun c w' => X c σ w') w
section
variable {P : Program} {n : Nat} {X : List PanicEntry → Sl → World → Prop}
theorem EX_nil (ops : Array Oper) (σ : Sl) (w : World) (K : Sl → World → Prop) : EX P n ops X [] σ w K = K σ w := nr rfl
theorem EX_op (ops : Array Oper) (d : Option Nat) (op : Op) (ty : TypeId) (p : String) (af : Array Edge) (r : List Oper) (σ : Sl) (w : World) (K : Sl → World → Prop) :
    EX P n ops X (⟨d, op, ty, p, af, none⟩ :: r) σ w K = OkvX P (fun v w' => EX P n ops X r (put n σ d v) w' K) (fun c w' => X c σ w') (run1 P op ty σ w) := nr rfl
theorem EX_opg (ops : Array Oper) (d : Option Nat) (op : Op) (ty : TypeId) (p : String) (af : Array Edge) (j : Nat) (b : Bool) (r : List Oper) (σ : Sl) (w : World) (K : Sl → World → Prop) :
    EX P n ops X (⟨d, op, ty, p, af, some (j, b)⟩ :: r) σ w K = GBX P (isB b (gval σ (gslot ops j))) (run1 P op ty σ w) (fun v w' => EX P n ops X r (put n σ d v) w' K) (fun c w' => X c σ w') w := nr rfl
theorem OkvX_value (R : Value → World → Prop) (Y : List PanicEntry → World → Prop) (v : Value) (w : World) : OkvX P R Y (.ok (.value v) w) = R v w := nr rfl
theorem OkvX_skip (R : Value → World → Prop) (Y : List PanicEntry → World → Prop) (w : World) : OkvX P R Y (.ok .skip w) = R undef w := nr rfl
theorem OkvX_enter (R : Value → World → Prop) (Y : List PanicEntry → World → Prop) (f : FuncId) (args : Array Value) (w : World) : OkvX P R Y (.ok (.enter f args) w) = Calls P f args w (Ends R Y) := nr rfl
theorem OkvX_panic (R : Value → World → Prop) (Y : List PanicEntry → World → Prop) (v : Value) (w : World) : OkvX P R Y (.halt (.panic v) w) = Y [{ v, recovered := false }] w := nr rfl
theorem GBX_true (r : Result Next) (R : Value → World → Prop) (Y : List PanicEntry → World → Prop) (w : World) : GBX P true r R Y w = OkvX P R Y r := nr rfl
theorem GBX_false (r : Result Next) (R : Value → World → Prop) (Y : List PanicEntry → World → Prop) (w : World) : GBX P false r R Y w = R undef w := by simp [GBX]
theorem GBX_value (g : Bool) (v : Value) (R : Value → World → Prop) (Y : List PanicEntry → World → Prop) (w : World) : GBX P g (.ok (.value v) w) R Y w = R (cv g v) w := by cases g <;> simp [GBX, OkvX, cv]
@[congr] theorem OkvX_congr {R : Value → World → Prop} {Y : List PanicEntry → World → Prop} {r r' : Result Next} (h : r = r') : OkvX P R Y r = OkvX P R Y r' := by rw [h]
@[congr] theorem GBX_congr {g g' : Bool} {r r' : Result Next} {R : Value → World → Prop} {Y : List PanicEntry → World → Prop} {w : World} (hg : g = g') (hr : g' = true → r = r') : GBX P g r R Y w = GBX P g' r' R Y w := by
  subst hg; cases g
  · rfl
  · rw [hr rfl]
@[congr] theorem EX_congr {ops : Array Oper} {l : List Oper} {σ σ' : Sl} {w w' : World} {K : Sl → World → Prop} (h : σ = σ') (h' : w = w') : EX P n ops X l σ w K = EX P n ops X l σ' w' K := by rw [h, h']
theorem GBX_split {r : Result Next} {g : Bool} {R : Value → World → Prop} {Y : List PanicEntry → World → Prop} {w : World} (ht : g = true → OkvX P R Y r) (hf : g = false → R undef w) : GBX P g r R Y w := by
  cases g
  · rw [GBX_false]; exact hf rfl
  · rw [GBX_true]; exact ht rfl
end
theorem Oper.wp_of_OkvX {P : Program} {n : Nat} {ds : List Deferred} {σ : Sl} {a : Act} {w : World} (hf : FrD ds n σ a) {o : Oper} {R : Value → World → Prop} {Y : List PanicEntry → World → Prop} {next : Act → World → Prop} {Q : Exit → Act → World → Prop}
    (h : OkvX P R Y (run1 P o.op o.type σ w)) (hR : ∀ v w', R v w' → next (a.put o.dst v) w') (hY : ∀ c w', Y c w' → Q (.panic c) a w') : o.wp P a w next Q := by
  unfold Oper.wp
  have e : (execOp a.eval o).run P w = run1 P o.op o.type σ w := by rw [hf.eval]; rfl
  rw [e]
  generalize run1 P o.op o.type σ w = r at h
  cases r with
  | halt x w' => cases x <;> simp only [OkvX] at h <;> simp only [Oper.upon]; exact hY _ _ h
  | ok nx w' =>
    cases nx <;> simp only [OkvX] at h <;> simp only [Oper.upon]
    case value v => exact hR _ _ h
    case skip => exact hR _ _ h
    case enter f args =>
      refine h.mono fun e w'' he => ?_
      cases e with
      | returned v => exact hR _ _ he
      | panicked c => exact hY _ _ he
      | outgrown => exact he.elim
theorem EX_sound {P : Program} {n : Nat} {ds : List Deferred} {ops : Array Oper} {X : List PanicEntry → Sl → World → Prop} {K : Sl → World → Prop} {Q : Exit → Act → World → Prop} (hQ : ∀ σ a w, FrD ds n σ a → K σ w → Q .normal a w)
    (hX : ∀ c σ a w, FrD ds n σ a → X c σ w → Q (.panic c) a w) :
    ∀ (l : List Oper) (σ : Sl) (a : Act) (w : World), FrD ds n σ a → EX P n ops X l σ w K → wpList P ops Q l a w
  | [], σ, a, w, hf, h => hQ _ _ _ hf h
  | ⟨d, op, ty, p, af, none⟩ :: r, σ, a, w, hf, h => by
    unfold wpList
    rw [if_pos (wanted_none rfl)]
    exact .inl (Oper.wp_of_OkvX hf (o := ⟨d, op, ty, p, af, none⟩) h (fun v w' hE => EX_sound hQ hX r _ _ _ (hf.put d v) hE) fun c w' hc => hX _ _ _ _ hf hc)
  | ⟨d, op, ty, p, af, some (j, b)⟩ :: r, σ, a, w, hf, h => by
    unfold wpList
    rw [EX_opg, GBX] at h
    rw [wanted_someD hf rfl]
    split
    · rename_i hw
      rw [if_pos hw] at h
      exact .inl (Oper.wp_of_OkvX hf (o := ⟨d, op, ty, p, af, some (j, b)⟩) h (fun v w' hE => EX_sound hQ hX r _ _ _ (hf.put d v) hE) fun c w' hc => hX _ _ _ _ hf hc)
    · rename_i hw
      rw [if_neg hw] at h
      exact EX_sound hQ hX r _ _ _ (hf.put d undef) h
def liftD (ds : List Deferred) (n : Nat) (Q : Exit → Sl → World → Prop) : Exit → Act → World → Prop := fun e a w => ∃ σ, FrD ds n σ a ∧ Q e σ w
def RawD (ds : List Deferred) (P : Program) (n : Nat) (c : Code) (Q : Exit → Sl → World → Prop) (σ : Sl) (w : World) : Prop := ∀ a, FrD ds n σ a → c.wp P (liftD ds n Q) a w
/-- No panic: what is asked of a region that cannot panic. -/
def noP (Q : Exit → Sl → World → Prop) : Exit → Sl → World → Prop
  | .panic _, _, _ => False
  | e, σ, w => Q e σ w
theorem noP_pan {Q : Exit → Sl → World → Prop} (c : List PanicEntry) (σ : Sl) (w : World) : ¬ noP Q (.panic c) σ w := fun h => h
theorem noP_normal {Q : Exit → Sl → World → Prop} {σ : Sl} {w : World} : noP Q .normal σ w = Q .normal σ w := nr rfl
theorem noP_ret {Q : Exit → Sl → World → Prop} {σ : Sl} {w : World} : noP Q .ret σ w = Q .ret σ w := nr rfl
theorem noP_exit {Q : Exit → Sl → World → Prop} {id : Nat} {σ : Sl} {w : World} : noP Q (.exit id) σ w = Q (.exit id) σ w := nr rfl
theorem RawD_of {P : Program} {n : Nat} {c : Code} {Q : Exit → Sl → World → Prop} {σ : Sl} {w : World} (h : Raw P n c Q σ w) : RawD [] P n c Q σ w :=
  fun a hf => wp_mono (h a ⟨hf.size, hf.defers, hf.at_⟩) fun _ _ _ ⟨σ', hf', hq⟩ => ⟨σ', ⟨hf'.size, hf'.defers, hf'.at_⟩, hq⟩
theorem Raw_ofD {P : Program} {n : Nat} {c : Code} {Q : Exit → Sl → World → Prop} {σ : Sl} {w : World} (h : RawD [] P n c Q σ w) : Raw P n c Q σ w :=
  fun a hf => wp_mono (h a ⟨hf.size, hf.defers, hf.at_⟩) fun _ _ _ ⟨σ', hf', hq⟩ => ⟨σ', ⟨hf'.size, hf'.defers, hf'.at_⟩, hq⟩
/-- A region that cannot panic. -/
theorem RawD_np {P : Program} {n : Nat} {c : Code} {Q : Exit → Sl → World → Prop} {σ : Sl} {w : World} (h : Raw P n c (noP Q) σ w) : RawD [] P n c Q σ w := by
  refine RawD_of (Raw_mono (fun e σ w hq => ?_) h)
  cases e
  case panic c => exact hq.elim
  all_goals exact hq
theorem RawD_mono {ds : List Deferred} {P : Program} {n : Nat} {c : Code} {Q Q' : Exit → Sl → World → Prop} {σ : Sl} {w : World} (h : ∀ e σ w, Q e σ w → Q' e σ w) (hr : RawD ds P n c Q σ w) : RawD ds P n c Q' σ w :=
  fun a hf => wp_mono (hr a hf) fun _ _ _ ⟨σ', hf', hq⟩ => ⟨σ', hf', h _ _ _ hq⟩
def WX (ds : List Deferred) (P : Program) (n : Nat) : Code → (Exit → Sl → World → Prop) → Sl → World → Prop
  | .skip, Q, σ, w => Q .normal σ w
  | .region id ops draw, Q, σ, w => if draw then RawD ds P n (.region id ops true) Q σ w else EX P n ops (fun c => Q (.panic c)) ops.toList σ w (Q .normal)
  | .seq a b, Q, σ, w => WX ds P n a (thenX (WX ds P n b Q) Q) σ w
  | .cond c x y, Q, σ, w => condX (ev σ c) (WX ds P n x Q σ w) (WX ds P n y Q σ w)
  | .block id c, Q, σ, w => WX ds P n c (inX id Q) σ w
  | .exit id, Q, σ, w => Q (.exit id) σ w
  | .ret, Q, σ, w => Q .ret σ w
  | .goto l, Q, σ, w => Q (.goto l) σ w
  | .label _, Q, σ, w => Q .normal σ w
  | c, Q, σ, w => RawD ds P n c Q σ w
section
variable {ds : List Deferred} {P : Program} {n : Nat} {Q : Exit → Sl → World → Prop} {σ : Sl} {w : World}
theorem WX_skip : WX ds P n .skip Q σ w = Q .normal σ w := nr rfl
theorem WX_region {id : Nat} {l : List Oper} : WX ds P n (.region id l.toArray false) Q σ w = EX P n l.toArray (fun c => Q (.panic c)) l σ w (Q .normal) := by simp [WX]
theorem WX_draw {id : Nat} {ops : Array Oper} : WX ds P n (.region id ops true) Q σ w = RawD ds P n (.region id ops true) Q σ w := nr rfl
theorem WX_seq {a b : Code} : WX ds P n (.seq a b) Q σ w = WX ds P n a (thenX (WX ds P n b Q) Q) σ w := nr rfl
theorem WX_cond {c : Operand} {x y : Code} : WX ds P n (.cond c x y) Q σ w = condX (ev σ c) (WX ds P n x Q σ w) (WX ds P n y Q σ w) := nr rfl
theorem WX_block {id : Nat} {c : Code} : WX ds P n (.block id c) Q σ w = WX ds P n c (inX id Q) σ w := nr rfl
theorem WX_exit {id : Nat} : WX ds P n (.exit id) Q σ w = Q (.exit id) σ w := nr rfl
theorem WX_ret : WX ds P n .ret Q σ w = Q .ret σ w := nr rfl
theorem WX_goto {l : Nat} : WX ds P n (.goto l) Q σ w = Q (.goto l) σ w := nr rfl
theorem WX_label {l : Nat} : WX ds P n (.label l) Q σ w = Q .normal σ w := nr rfl
theorem WX_loop {c : Code} : WX ds P n (.loop c) Q σ w = RawD ds P n (.loop c) Q σ w := nr rfl
theorem thenX_pan {K : Sl → World → Prop} {c : List PanicEntry} : thenX K Q (.panic c) σ w = Q (.panic c) σ w := nr rfl
theorem inX_pan {id : Nat} {c : List PanicEntry} : inX id Q (.panic c) σ w = Q (.panic c) σ w := nr rfl
@[congr] theorem WX_congr {c : Code} {σ σ' : Sl} {w w' : World} (h : σ = σ') (h' : w = w') : WX ds P n c Q σ w = WX ds P n c Q σ' w' := by rw [h, h']
@[congr] theorem RawD_congr {c : Code} {σ σ' : Sl} {w w' : World} (h : σ = σ') (h' : w = w') : RawD ds P n c Q σ w = RawD ds P n c Q σ' w' := by rw [h, h']
theorem WX_if_t {c : Operand} {x y : Code} (hc : ev σ c = .bool true) (h1 : WX ds P n x Q σ w) : WX ds P n (.cond c x y) Q σ w := by
  rw [WX_cond, hc]; exact ⟨fun _ => h1, fun h => (by cases h)⟩
theorem WX_if_f {c : Operand} {x y : Code} (hc : ev σ c = .bool false) (h1 : WX ds P n y Q σ w) : WX ds P n (.cond c x y) Q σ w := by
  rw [WX_cond, hc]; exact ⟨fun h => (by cases h), fun _ => h1⟩
theorem WX_if {c : Operand} {x y : Code} {t : Bool} (hc : ev σ c = .bool t) (h1 : t = true → WX ds P n x Q σ w) (h2 : t = false → WX ds P n y Q σ w) : WX ds P n (.cond c x y) Q σ w := by
  rw [WX_cond, hc]; exact ⟨h1, h2⟩
end
theorem WX_sound {ds : List Deferred} {P : Program} {n : Nat} : ∀ (c : Code) (Q : Exit → Sl → World → Prop) (σ : Sl) (w : World), WX ds P n c Q σ w → RawD ds P n c Q σ w := by
  intro c
  induction c with
  | skip => intro Q σ w h a hf; exact wp_skip ⟨σ, hf, h⟩
  | region id ops draw =>
    intro Q σ w h a hf
    cases draw with
    | true => exact h a hf
    | false =>
      refine wp_region_list ?_
      exact EX_sound (K := Q .normal) (X := fun c => Q (.panic c)) (fun σ' a' w' hf' hk => ⟨σ', hf', hk⟩) (fun c σ' a' w' hf' hk => ⟨σ', hf', hk⟩) _ _ _ _ hf (by simpa [WX] using h)
  | seq x y ihx ihy =>
    intro Q σ w h a hf
    refine wp_seq (wp_mono (ihx _ _ _ h a hf) ?_)
    rintro e a' w' ⟨σ', hf', hq⟩
    cases e
    case normal => exact ihy _ _ _ hq a' hf'
    all_goals exact ⟨σ', hf', hq⟩
  | cond c x y ihx ihy =>
    intro Q σ w h a hf
    rw [WX_cond] at h
    have hc : a.eval c = ev σ c := by rw [hf.eval]
    generalize ev σ c = v at h hc
    cases v with
    | bool t =>
      refine wp_cond_split hc (fun ht => ihx _ _ _ (h.1 ht) a hf) (fun ht => ihy _ _ _ (h.2 ht) a hf)
    | _ => exact h.elim
  | block id c ih =>
    intro Q σ w h a hf
    refine wp_block (wp_mono (ih _ _ _ h a hf) ?_)
    rintro e a' w' ⟨σ', hf', hq⟩
    cases e
    case exit id' =>
      simp only [inX] at hq
      simp only [Exit.inBlock]
      split
      · rename_i he; rw [if_pos he] at hq; exact ⟨σ', hf', hq⟩
      · rename_i he; rw [if_neg he] at hq; exact ⟨σ', hf', hq⟩
    all_goals exact ⟨σ', hf', hq⟩
  | exit id => intro Q σ w h a hf; exact wp_exit ⟨σ, hf, h⟩
  | ret => intro Q σ w h a hf; exact wp_ret ⟨σ, hf, h⟩
  | goto l => intro Q σ w h a hf; exact wp_goto ⟨σ, hf, h⟩
  | label l => intro Q σ w h a hf; exact wp_label ⟨σ, hf, h⟩
  | _ => intro Q σ w h a hf; exact h a hf
/-- A loop. -/
theorem RawD_loop {ds : List Deferred} {P : Program} {n : Nat} {c : Code} {Q : Exit → Sl → World → Prop} {σ : Sl} {w : World} (I : Sl → World → Prop) (μ : Sl → World → Nat) (h0 : I σ w)
    (round : ∀ σ w, I σ w → ∀ K : Sl → World → Prop, (∀ σ' w', I σ' w' → μ σ' w' < μ σ w → K σ' w') → WX ds P n c (thenX K Q) σ w) : RawD ds P n (.loop c) Q σ w := by
  intro a hf
  have round : ∀ σ w, I σ w → WX ds P n c (thenX (fun σ' w' => I σ' w' ∧ μ σ' w' < μ σ w) Q) σ w := fun σ w hI => round σ w hI _ fun _ _ h1 h2 => ⟨h1, h2⟩
  refine wp_loop (fun a w => FrD ds n (fun i => a.tmps.getD i undef) a ∧ I (fun i => a.tmps.getD i undef) w) (fun a w => μ (fun i => a.tmps.getD i undef) w) ?_ ?_
  · have e : (fun i => a.tmps.getD i undef) = σ := funext hf.at_
    rw [e]; exact ⟨hf, h0⟩
  · rintro a w ⟨hf, hI⟩
    refine wp_mono (WX_sound _ _ _ _ (round _ w hI) a hf) ?_
    rintro e a' w' ⟨σ', hf', hq⟩
    cases e
    case normal =>
      have e : (fun i => a'.tmps.getD i undef) = σ' := funext hf'.at_
      simp only [Exit.then]
      rw [e]; exact ⟨⟨hf', hq.1⟩, hq.2⟩
    all_goals exact ⟨σ', hf', hq⟩
/-- The end of a function that may panic. -/
def postX (P : Program) (fn : Func) (R : Ending → World → Prop) : Exit → Sl → World → Prop
  | .normal, σ, w | .ret, σ, w => resE P fn.results σ w fun v => R (.returned v) w
  | .panic c, _, w => R (.panicked c) w
  | _, _, _ => False
theorem postX_normal {P : Program} {fn : Func} {R : Ending → World → Prop} {σ : Sl} {w : World} : postX P fn R .normal σ w = resE P fn.results σ w fun v => R (.returned v) w := nr rfl
theorem postX_ret {P : Program} {fn : Func} {R : Ending → World → Prop} {σ : Sl} {w : World} : postX P fn R .ret σ w = resE P fn.results σ w fun v => R (.returned v) w := nr rfl
theorem postX_pan {P : Program} {fn : Func} {R : Ending → World → Prop} {c : List PanicEntry} {σ : Sl} {w : World} : postX P fn R (.panic c) σ w = R (.panicked c) w := nr rfl
theorem calls_WX {P : Program} {f : FuncId} {fn : Func} {c : Code} {l : List Value} {w : World} {R : Ending → World → Prop} (hf : P.funcs[f]? = some fn) (hb : fn.body = some c) (n : Nat) (hn : fn.ntmps = n) (hl : l.length ≤ n)
    (h : WX [] P n c (postX P fn R) (init l 0 bot) w) : Calls P f l.toArray w R := by
  refine calls_of_wp hf hb ?_
  have hfr : FrD [] n (init l 0 bot) { tmps := l.toArray ++ Array.replicate (fn.ntmps - l.toArray.size) undef, defers := [] } := by
    refine ⟨by simp [hn]; omega, rfl, fun i => ?_⟩
    rw [getD_append_undef, init_at]
    by_cases hi : i < l.length
    · rw [if_pos ⟨Nat.zero_le _, by simpa using hi⟩]; rfl
    · rw [if_neg (by omega)]
      simp [bot, List.getD_eq_getElem?_getD, List.getElem?_eq_none (Nat.le_of_not_lt hi)]
  refine wp_mono (WX_sound _ _ _ _ h _ hfr) ?_
  rintro e a w' ⟨σ, hf', hq⟩
  have ht : (fun i => a.tmps.getD i undef) = σ := funext hf'.at_
  cases e <;> simp only [postX] at hq
  case normal => obtain ⟨v, hv, hR⟩ := resE_is hq ht; exact ⟨hf'.defers, v, hv, hR⟩
  case ret => obtain ⟨v, hv, hR⟩ := resE_is hq ht; exact ⟨hf'.defers, v, hv, hR⟩
  case panic c => exact ⟨hf'.defers, hq⟩
/-- From no panic to this engine. -/
theorem W_toX {P : Program} {n : Nat} {c : Code} {Q : Exit → Sl → World → Prop} {σ : Sl} {w : World} (h : W P n c (noP Q) σ w) : RawD [] P n c Q σ w := RawD_np (W_sound _ _ _ _ h)
/-! Cutting a proof at a place where several ways meet. -/
theorem OkvX_mono {P : Program} {R R' : Value → World → Prop} {Y Y' : List PanicEntry → World → Prop} {r : Result Next} (h : ∀ v w, R v w → R' v w) (hy : ∀ c w, Y c w → Y' c w) (hr : OkvX P R Y r) : OkvX P R' Y' r := by
  cases r with
  | halt x w' => cases x <;> simp only [OkvX] at hr ⊢; exact hy _ _ hr
  | ok nx w' =>
    cases nx
    case value v => exact h _ _ hr
    case skip => exact h _ _ hr
    case enter f args =>
      refine Calls.mono hr fun e w'' he => ?_
      cases e with
      | returned v => exact h _ _ he
      | panicked c => exact hy _ _ he
      | outgrown => exact he.elim
    all_goals exact hr
theorem EX_mono {P : Program} {n : Nat} {ops : Array Oper} {X X' : List PanicEntry → Sl → World → Prop} {K K' : Sl → World → Prop} (h : ∀ σ w, K σ w → K' σ w) (hx : ∀ c σ w, X c σ w → X' c σ w) : ∀ (l : List Oper) (σ : Sl) (w : World), EX P n ops X l σ w K → EX P n ops X' l σ w K'
  | [], σ, w, hE => h _ _ hE
  | ⟨d, op, ty, p, af, none⟩ :: r, σ, w, hE => OkvX_mono (fun _ _ hv => EX_mono h hx r _ _ hv) (fun _ _ hc => hx _ _ _ hc) hE
  | ⟨d, op, ty, p, af, some (j, b)⟩ :: r, σ, w, hE => by
    rw [EX_opg, GBX] at *
    split
    · rename_i hg; rw [if_pos hg] at hE; exact OkvX_mono (fun _ _ hv => EX_mono h hx r _ _ hv) (fun _ _ hc => hx _ _ _ hc) hE
    · rename_i hg; rw [if_neg hg] at hE; exact EX_mono h hx r _ _ hE
theorem WX_mono {ds : List Deferred} {P : Program} {n : Nat} : ∀ (c : Code) {Q Q' : Exit → Sl → World → Prop} {σ : Sl} {w : World}, (∀ e σ w, Q e σ w → Q' e σ w) → WX ds P n c Q σ w → WX ds P n c Q' σ w := by
  intro c
  induction c with
  | skip => intro Q Q' σ w h hw; exact h _ _ _ hw
  | region id ops draw =>
    intro Q Q' σ w h hw
    cases draw with
    | true => exact RawD_mono h hw
    | false => exact EX_mono (fun σ w hk => h _ _ _ hk) (fun c σ w hk => h _ _ _ hk) _ _ _ hw
  | seq x y ihx ihy =>
    intro Q Q' σ w h hw
    refine ihx (fun e σ' w' hq => ?_) hw
    cases e
    case normal => exact ihy h hq
    all_goals exact h _ _ _ hq
  | cond c x y ihx ihy =>
    intro Q Q' σ w h hw
    rw [WX_cond] at *
    generalize ev σ c = v at *
    cases v with
    | bool t => exact ⟨fun ht => ihx h (hw.1 ht), fun ht => ihy h (hw.2 ht)⟩
    | _ => exact hw.elim
  | block id c ih =>
    intro Q Q' σ w h hw
    refine ih (fun e σ' w' hq => ?_) hw
    cases e
    case exit id' =>
      simp only [inX] at *
      split
      · rename_i he; rw [if_pos he] at hq; exact h _ _ _ hq
      · rename_i he; rw [if_neg he] at hq; exact h _ _ _ hq
    all_goals exact h _ _ _ hq
  | exit id => intro Q Q' σ w h hw; exact h _ _ _ hw
  | ret => intro Q Q' σ w h hw; exact h _ _ _ hw
  | goto l => intro Q Q' σ w h hw; exact h _ _ _ hw
  | label l => intro Q Q' σ w h hw; exact h _ _ _ hw
  | _ => intro Q Q' σ w h hw; exact RawD_mono h hw
theorem WX_cut {ds : List Deferred} {P : Program} {n : Nat} {x y : Code} {Q : Exit → Sl → World → Prop} {σ : Sl} {w : World} (J : Sl → World → Prop) (h2 : ∀ σ w, J σ w → WX ds P n y Q σ w) (h1 : WX ds P n x (thenX J Q) σ w) : WX ds P n (x.seq y) Q σ w := by
  rw [WX_seq]
  refine WX_mono x (fun e σ' w' hq => ?_) h1
  cases e
  case normal => exact h2 _ _ hq
  all_goals exact hq
/-- One piece of code, what follows kept closed. -/
theorem WX_piece {ds : List Deferred} {P : Program} {n : Nat} {x y : Code} {Q : Exit → Sl → World → Prop} {σ : Sl} {w : World} (h : ∀ K : Exit → Sl → World → Prop, (∀ σ w, WX ds P n y Q σ w → K .normal σ w) → (∀ e σ w, e ≠ .normal → Q e σ w → K e σ w) → WX ds P n x K σ w) : WX ds P n (x.seq y) Q σ w := by
  rw [WX_seq]
  exact h _ (fun σ w h => h) (fun e σ w hne hq => by
    cases e
    case normal => exact absurd rfl hne
    all_goals exact hq)
/-- Ways that meet at the end and at one exit. -/
def joinX (id : Nat) (J : Sl → World → Prop) (X : List PanicEntry → World → Prop) : Exit → Sl → World → Prop
  | .normal, σ, w => J σ w
  | .exit i, σ, w => i = id ∧ J σ w
  | .panic c, _, w => X c w
  | _, _, _ => False
theorem joinX_normal {id : Nat} {J : Sl → World → Prop} {X : List PanicEntry → World → Prop} {σ : Sl} {w : World} : joinX id J X .normal σ w = J σ w := nr rfl
theorem joinX_exit {id : Nat} {J : Sl → World → Prop} {X : List PanicEntry → World → Prop} {σ : Sl} {w : World} : joinX id J X (.exit id) σ w = J σ w := nr (by show (id = id ∧ J σ w) = J σ w; simp)
theorem joinX_pan {id : Nat} {J : Sl → World → Prop} {X : List PanicEntry → World → Prop} {c : List PanicEntry} {σ : Sl} {w : World} : joinX id J X (.panic c) σ w = X c w := nr rfl
theorem WX_join {ds : List Deferred} {P : Program} {n : Nat} {c : Code} {Q : Exit → Sl → World → Prop} {σ : Sl} {w : World} (id : Nat) (J : Sl → World → Prop) (X : List PanicEntry → World → Prop) (hn : ∀ σ w, J σ w → Q .normal σ w) (he : ∀ σ w, J σ w → Q (.exit id) σ w)
    (hx : ∀ c σ w, X c w → Q (.panic c) σ w) (h1 : WX ds P n c (joinX id J X) σ w) : WX ds P n c Q σ w :=
  WX_mono c (fun e σ' w' hq => by
    cases e
    case normal => exact hn _ _ hq
    case exit i => obtain ⟨rfl, hq⟩ := hq; exact he _ _ hq
    case panic c => exact hx _ _ _ hq
    all_goals exact hq.elim) h1
theorem WX_joinX {ds : List Deferred} {P : Program} {n : Nat} {c : Code} {Q : Exit → Sl → World → Prop} {σ : Sl} {w : World} {id : Nat} (J : Sl → World → Prop) (X : List PanicEntry → World → Prop) (hn : ∀ σ w, J σ w → Q .normal σ w)
    (hx : ∀ c σ w, X c w → Q (.panic c) σ w) (h1 : WX ds P n c (joinX id J X) σ w) : WX ds P n c (inX id Q) σ w :=
  WX_join id J X (fun σ w h => hn σ w h) (fun σ w h => by rw [inX_exit_same]; exact hn σ w h) (fun c σ w h => hx c σ w h) h1
/-- One piece of code, what follows kept closed. -/
theorem W_piece {P : Program} {n : Nat} {x y : Code} {Q : Exit → Sl → World → Prop} {σ : Sl} {w : World} (h : ∀ K : Exit → Sl → World → Prop, (∀ σ w, W P n y Q σ w → K .normal σ w) → (∀ e σ w, e ≠ .normal → Q e σ w → K e σ w) → W P n x K σ w) : W P n (x.seq y) Q σ w := by
  rw [W_seq]
  exact h _ (fun σ w h => h) (fun e σ w hne hq => by
    cases e
    case normal => exact absurd rfl hne
    all_goals exact hq)
theorem W_pieceP {P : Program} {n : Nat} {x y : Code} {Q : Exit → Sl → World → Prop} {σ : Sl} {w : World} (hp : ∀ c σ w, ¬ Q (.panic c) σ w) (h : ∀ K : Exit → Sl → World → Prop, (∀ σ w, W P n y Q σ w → K .normal σ w) → (∀ e σ w, e ≠ .normal → Q e σ w → K e σ w) → (∀ c σ w, ¬ K (.panic c) σ w) → W P n x K σ w) : W P n (x.seq y) Q σ w := by
  rw [W_seq]
  exact h _ (fun σ w h => h) (fun e σ w hne hq => by
    cases e
    case normal => exact absurd rfl hne
    all_goals exact hq) (fun c σ w h => hp c σ w h)
theorem W_cutS {P : Program} {n : Nat} {x y : Code} {Q : Exit → Sl → World → Prop} {σ : Sl} {w : World} (J : Sl → World → Prop) (h2 : ∀ σ w, J σ w → W P n y Q σ w) (h1 : W P n x (thenX J Q) σ w) : W P n (x.seq y) Q σ w := by
  rw [W_seq]
  refine W_mono x (fun e σ' w' hq => ?_) h1
  cases e
  case normal => exact h2 _ _ hq
  all_goals exact hq
/-! A value in an interface; panic. -/
section
variable {P : Program} {T : TypeId} {w : World}
def vMakeI (P : Program) (T : TypeId) (u : Value) (w : World) : Result Next := (do pure (.value (← Instr.makeInterface T u)) : Sem Next).run P w
def vPanic (P : Program) (u : Value) (w : World) : Result Next := (do pure (.value (← Instr.panic u)) : Sem Next).run P w
theorem r_makeI (ty : TypeId) (σ : Sl) (x : Operand) : run1 P (.makeInterface T x) ty σ w = vMakeI P T (ev σ x) w := nr rfl
theorem r_panic (ty : TypeId) (σ : Sl) (x : Operand) : run1 P (.panic x) ty σ w = vPanic P (ev σ x) w := nr rfl
def cncB (P : Program) (T : TypeId) : Bool := match P.underlying T with
  | some (.struct _) => true
  | _ => false
def jMakeI (P : Program) (T : TypeId) (u : Value) (w : World) : Result Next := vMakeI P T u w
theorem vMakeI_at {u : Value} : vMakeI P T u w = ifB (cncB P T) (.ok (.value (.iface T u)) w) (jMakeI P T u w) := by
  refine ifB_of (fun h => ?_) rfl
  unfold cncB at h
  cases hd : P.underlying T with
  | none => rw [hd] at h; cases h
  | some d =>
    rw [hd] at h
    cases d with
    | struct fs => simp [vMakeI, Instr.makeInterface, Sem.run_bind, run_underlying hd w]
    | _ => cases h
theorem vPanic_iface {u : Value} : vPanic P (.iface T u) w = .halt (.panic (.iface T u)) w := by simp [vPanic, Instr.panic, goPanic, Sem.run_bind, Sem.run]
end
/-- The rules of this text. -/
theorem PZ : (type_of% @EX_nil) ∧ (type_of% @EX_op) ∧ (type_of% @EX_opg) ∧ (type_of% @OkvX_value) ∧ (type_of% @OkvX_skip) ∧ (type_of% @OkvX_enter) ∧ (type_of% @OkvX_panic) ∧ (type_of% @GBX_true) ∧ (type_of% @GBX_false) ∧ (type_of% @GBX_value) ∧ (type_of% @WX_skip) ∧ (type_of% @WX_region) ∧ (type_of% @WX_draw) ∧ (type_of% @WX_seq) ∧ (type_of% @WX_block) ∧ (type_of% @WX_exit) ∧ (type_of% @WX_ret) ∧ (type_of% @WX_goto) ∧ (type_of% @WX_label) ∧ (type_of% @WX_loop) ∧ (type_of% @thenX_pan) ∧ (type_of% @inX_pan) ∧ (type_of% @postX_normal) ∧ (type_of% @postX_ret) ∧ (type_of% @postX_pan) ∧ (type_of% @noP_normal) ∧ (type_of% @noP_ret) ∧ (type_of% @noP_exit) ∧ (type_of% @Ends_ret) ∧ (type_of% @Ends_pan) ∧ (type_of% @joinX_normal) ∧ (type_of% @joinX_exit) ∧ (type_of% @joinX_pan) ∧ (type_of% @r_makeI) ∧ (type_of% @r_panic) ∧ (type_of% @vMakeI_at) ∧ (type_of% @vPanic_iface) ∧ (type_of% @trivial) := ⟨@EX_nil, @EX_op, @EX_opg, @OkvX_value, @OkvX_skip, @OkvX_enter, @OkvX_panic, @GBX_true, @GBX_false, @GBX_value, @WX_skip, @WX_region, @WX_draw, @WX_seq, @WX_block, @WX_exit, @WX_ret, @WX_goto, @WX_label, @WX_loop, @thenX_pan, @inX_pan, @postX_normal, @postX_ret, @postX_pan, @noP_normal, @noP_ret, @noP_exit, @Ends_ret, @Ends_pan, @joinX_normal, @joinX_exit, @joinX_pan, @r_makeI, @r_panic, @vMakeI_at, @vPanic_iface, @trivial⟩
end Go.Proofs.YtbdkggnajipdhaaGreatDoor
