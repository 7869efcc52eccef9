/- Texts laid one behind the other: Ord, Own, LexP, NumP, ScrP, ScrQ, Shelf, Arr. Each says at its head what it proves. -/
import Derived.Test.YtjaeiiiniohloaaDoorY02
import Derived.OrdersHeld
import Derived.Lib.ItoaLen
import Derived.Shelf.Strings.Builder1
import Derived.Shelf.Small.Strs
import Derived.Shelf.Strconv.Itoa0
import Derived.Shelf.Strconv.Itoa1
import Derived.Shelf.LaysM
import Derived.Shelf.Strconv.Itoa2
import Derived.Shelf.Strconv.Itoa3
import Derived.Shelf.Strings.Search1
import Derived.Shelf.Strings.Search2
import Derived.Shelf.Strings.Cut
import Derived.Shelf.Strings.Shaped
import Derived.Test.YtjaeiiiniohloaaDoorProg
set_option linter.unusedSimpArgs false
/- Regions that draw their order, with several operations that write: readers first, then the writers in whatever order. -/
namespace Go.Proofs.YtjaeiiiniohloaaDoor
open Go.RowKit
section
variable {P : Program} {n : Nat} {ops : Array Oper} {Q : Exit → Sl → World → Prop} {S : World → Prop} {σ : Sl} {w : World} {fuel : Nat} {listed : Array Bool}
/-- What is left of a region, whatever order is drawn. -/
def Ord (P : Program) (n : Nat) (ops : Array Oper) (Q : Exit → Sl → World → Prop) (S : World → Prop) (fuel : Nat) (listed : Array Bool) (σ : Sl) (w : World) : Prop :=
  ∀ a, Fr n σ a → wpAnyH P .any ops (lift n Q) S fuel listed a w
theorem Raw_genw {c : Code} (h : ∀ w2, w2 = w → Raw P n c Q σ w2) : Raw P n c Q σ w := h w rfl
theorem Raw_gen {c : Code} (h : ∀ τ : Sl, (∀ i, τ i = σ i) → Raw P n c Q τ w) : Raw P n c Q σ w := h σ fun _ => rfl
@[congr] theorem Ord_congr {σ σ' : Sl} {w w' : World} (h : σ = σ') (h' : w = w') : Ord P n ops Q S fuel listed σ w = Ord P n ops Q S fuel listed σ' w' := by rw [h, h']
theorem Raw_ord (S : World → Prop) (m : Nat) (hsz : ops.size = m) {id : Nat} (hm : P.follows .mixedOrders = true) (h : Ord P n ops Q S m (Array.replicate m false) σ w.drew) : Raw P n (.region id ops true) Q σ w := by
  intro a hf
  subst hsz
  exact wp_region_held (S := S) hm (h a hf)
theorem Ord_take (i : Nat) {d : Option Nat} {op : Op} {ty : TypeId} {p : String} {af : Array Edge} {v : Value} (hi : ops[i]? = some ⟨d, op, ty, p, af, none⟩)
    (hs : Region.noSelect ops = true) (hf : Region.free .any ops listed i = true) (hr : (Region.ready .any ops listed).contains i = true)
    (hQ : ∀ c σ w, ¬ Q (.panic c) σ w) (hS : S w) (hv : ∀ w', S w' → run1 P op ty σ w' = .ok (.value v) w')
    (h : Ord P n ops Q S fuel (listed.setIfInBounds i true) (put n σ d v) w) : Ord P n ops Q S (fuel + 1) listed σ w := by
  intro a hfr
  refine wpAnyH_take hi hs hf hr ?_ (v := v) ?_ hS (h _ (hfr.put d v))
  · rintro c a w ⟨σ', _, hq⟩
    exact absurd hq (hQ _ _ _)
  · refine .inl ⟨wanted_none rfl, fun w' hw' => ?_⟩
    have := hv w' hw'
    rw [hfr.eval]
    exact this
def OpO (P : Program) (n : Nat) (ops : Array Oper) (Q : Exit → Sl → World → Prop) (S : World → Prop) (fuel : Nat) (listed : Array Bool) (σ : Sl) (w : World) (i : Nat) : Prop :=
  ∀ a, Fr n σ a → wpOp P ops (lift n Q) i (fun a' w' => S w' ∧ wpAnyH P .any ops (lift n Q) S fuel (listed.setIfInBounds i true) a' w') a w
theorem OpO_of (i : Nat) {d : Option Nat} {op : Op} {ty : TypeId} {p : String} {af : Array Edge} (hi : ops[i]? = some ⟨d, op, ty, p, af, none⟩)
    (h : Okv P (fun v w' => S w' ∧ Ord P n ops Q S fuel (listed.setIfInBounds i true) (put n σ d v) w') (run1 P op ty σ w)) : OpO P n ops Q S fuel listed σ w i := by
  intro a hfr
  unfold wpOp
  simp only [hi]
  rw [if_pos (wanted_none rfl)]
  exact .inl (Oper.wp_of_Okv hfr (o := ⟨d, op, ty, p, af, none⟩) h fun v w' hE => ⟨hE.1, hE.2 _ (hfr.put d v)⟩)
theorem Ord_all (rs : List Nat) (hr : Region.ready .any ops listed = rs) (hne : rs ≠ []) (h : ∀ i ∈ rs, OpO P n ops Q S fuel listed σ w i) : Ord P n ops Q S (fuel + 1) listed σ w :=
  fun a hf => wpAnyH_all hr hne fun i hi => h i hi a hf
theorem Ord_one (i : Nat) {d : Option Nat} {op : Op} {ty : TypeId} {p : String} {af : Array Edge} (hr : Region.ready .any ops listed = [i]) (hi : ops[i]? = some ⟨d, op, ty, p, af, none⟩)
    (h : Okv P (fun v w' => S w' ∧ Ord P n ops Q S fuel (listed.setIfInBounds i true) (put n σ d v) w') (run1 P op ty σ w)) : Ord P n ops Q S (fuel + 1) listed σ w :=
  Ord_all [i] hr (by simp) fun j hj => by
    obtain rfl : j = i := by simpa using hj
    exact OpO_of j hi h
theorem Ord_done (hr : Region.ready .any ops listed = []) (h : Q .normal σ w) : Ord P n ops Q S fuel listed σ w :=
  fun _ hf => wpAnyH_done hr ⟨σ, hf, h⟩ fuel
theorem upd_comm (σ : Sl) {i j : Nat} (h : i ≠ j) (u v : Value) : upd (upd σ i u) j v = upd (upd σ j v) i u := by
  funext k
  simp only [upd_apply]
  by_cases h1 : k = j
  · rw [if_pos h1, if_neg (by omega), if_pos h1]
  · rw [if_neg h1, if_neg h1]
/-- Two writers, in either order. T says which of them are done, with what, and where the world stands. -/
theorem Ord_two {α β : Type} (T : Option α → Option β → World → Prop) (vi : α → Value) (vj : β → Value) (i j di dj : Nat) {opi opj : Op} {tyi tyj : TypeId} {pi pj : String} {afi afj : Array Edge}
    (hi : ops[i]? = some ⟨some di, opi, tyi, pi, afi, none⟩) (hj : ops[j]? = some ⟨some dj, opj, tyj, pj, afj, none⟩)
    (hij : i ≠ j) (hdij : di ≠ dj) (hni : di < n) (hnj : dj < n)
    (hr : Region.ready .any ops listed = [i, j]) (hri : Region.ready .any ops (listed.setIfInBounds i true) = [j]) (hrj : Region.ready .any ops (listed.setIfInBounds j true) = [i])
    (h0 : T none none w)
    (si : ∀ y w1 σ', (∀ s, s ≠ di → s ≠ dj → σ' s = σ s) → T none y w1 → Okv P (fun v w2 => ∃ x, v = vi x ∧ S w2 ∧ T (some x) y w2) (run1 P opi tyi σ' w1))
    (sj : ∀ x w1 σ', (∀ s, s ≠ di → s ≠ dj → σ' s = σ s) → T x none w1 → Okv P (fun v w2 => ∃ y, v = vj y ∧ S w2 ∧ T x (some y) w2) (run1 P opj tyj σ' w1))
    (hk : ∀ x y w1, T (some x) (some y) w1 → Ord P n ops Q S fuel ((listed.setIfInBounds i true).setIfInBounds j true) (upd (upd σ di (vi x)) dj (vj y)) w1) :
    Ord P n ops Q S (fuel + 2) listed σ w := by
  have Okv_mono : ∀ {R R' : Value → World → Prop} {r : Result Next}, (∀ v w, R v w → R' v w) → Okv P R r → Okv P R' r := by
    intro R R' r h hr
    cases r with
    | halt x w' => exact hr
    | ok nx w' =>
      cases nx
      case value v => exact h _ _ hr
      case skip => exact h _ _ hr
      case enter f args => exact hr.mono fun e w'' ⟨v, he, hv⟩ => ⟨v, he, h _ _ hv⟩
      all_goals exact hr
  refine Ord_all [i, j] hr (by simp) fun k hk' => ?_
  rcases (by simpa using hk' : k = i ∨ k = j) with rfl | rfl
  · refine OpO_of k hi (Okv_mono ?_ (si none w σ (fun _ _ _ => rfl) h0))
    rintro v w2 ⟨x, rfl, hS, hT⟩
    refine ⟨hS, Ord_one j hri hj (Okv_mono ?_ (sj (some x) w2 _ (fun s h1 h2 => ?_) hT))⟩
    · rintro v w3 ⟨y, rfl, hS', hT'⟩
      rw [put_some, put_some, if_pos hni, if_pos hnj]
      exact ⟨hS', hk x y w3 hT'⟩
    · rw [put_some, if_pos hni, upd_apply, if_neg h1]
  · refine OpO_of k hj (Okv_mono ?_ (sj none w σ (fun _ _ _ => rfl) h0))
    rintro v w2 ⟨y, rfl, hS, hT⟩
    refine ⟨hS, Ord_one i hrj hi (Okv_mono ?_ (si (some y) w2 _ (fun s h1 h2 => ?_) hT))⟩
    · rintro v w3 ⟨x, rfl, hS', hT'⟩
      rw [put_some, put_some, if_pos hnj, if_pos hni, upd_comm _ (Ne.symm hdij), Array.setIfInBounds_comm _ _ (Ne.symm hij)]
      exact ⟨hS', hk x y w3 hT'⟩
    · rw [put_some, if_pos hnj, upd_apply, if_neg h2]
theorem Okv_mono {R R' : Value → World → Prop} {r : Result Next} (h : ∀ v w, R v w → R' v w) (hr : Okv P R r) : Okv P R' r := by
  cases r with
  | halt x w' => exact hr
  | ok nx w' =>
    cases nx
    case value v => exact h _ _ hr
    case skip => exact h _ _ hr
    case enter f args => exact hr.mono fun e w'' ⟨v, he, hv⟩ => ⟨v, he, h _ _ hv⟩
    all_goals exact hr
/-- Three writers, in whatever order. -/
theorem Ord_three {α β γ : Type} (T : Option α → Option β → Option γ → World → Prop) (vi : α → Value) (vj : β → Value) (vk : γ → Value) (i j k di dj dk : Nat)
    {opi opj opk : Op} {tyi tyj tyk : TypeId} {pi pj pk : String} {afi afj afk : Array Edge}
    (hi : ops[i]? = some ⟨some di, opi, tyi, pi, afi, none⟩) (hj : ops[j]? = some ⟨some dj, opj, tyj, pj, afj, none⟩) (hk : ops[k]? = some ⟨some dk, opk, tyk, pk, afk, none⟩)
    (hij : i ≠ j) (hik : i ≠ k) (hjk : j ≠ k) (hdij : di ≠ dj) (hdik : di ≠ dk) (hdjk : dj ≠ dk) (hni : di < n) (hnj : dj < n) (hnk : dk < n)
    (hr : Region.ready .any ops listed = [i, j, k])
    (hri : Region.ready .any ops (listed.setIfInBounds i true) = [j, k]) (hrj : Region.ready .any ops (listed.setIfInBounds j true) = [i, k]) (hrk : Region.ready .any ops (listed.setIfInBounds k true) = [i, j])
    (hrij : Region.ready .any ops ((listed.setIfInBounds i true).setIfInBounds j true) = [k]) (hrik : Region.ready .any ops ((listed.setIfInBounds i true).setIfInBounds k true) = [j]) (hrjk : Region.ready .any ops ((listed.setIfInBounds j true).setIfInBounds k true) = [i])
    (h0 : T none none none w)
    (si : ∀ y z w1 σ', (∀ s, s ≠ di → s ≠ dj → s ≠ dk → σ' s = σ s) → T none y z w1 → Okv P (fun v w2 => ∃ x, v = vi x ∧ S w2 ∧ T (some x) y z w2) (run1 P opi tyi σ' w1))
    (sj : ∀ x z w1 σ', (∀ s, s ≠ di → s ≠ dj → s ≠ dk → σ' s = σ s) → T x none z w1 → Okv P (fun v w2 => ∃ y, v = vj y ∧ S w2 ∧ T x (some y) z w2) (run1 P opj tyj σ' w1))
    (sk : ∀ x y w1 σ', (∀ s, s ≠ di → s ≠ dj → s ≠ dk → σ' s = σ s) → T x y none w1 → Okv P (fun v w2 => ∃ z, v = vk z ∧ S w2 ∧ T x y (some z) w2) (run1 P opk tyk σ' w1))
    (hend : ∀ x y z w1, T (some x) (some y) (some z) w1 → Ord P n ops Q S fuel (((listed.setIfInBounds i true).setIfInBounds j true).setIfInBounds k true) (upd (upd (upd σ di (vi x)) dj (vj y)) dk (vk z)) w1) :
    Ord P n ops Q S (fuel + 3) listed σ w := by
  refine Ord_all [i, j, k] hr (by simp) fun m hm => ?_
  rcases (by simpa using hm : m = i ∨ m = j ∨ m = k) with rfl | rfl | rfl
  · refine OpO_of m hi (Okv_mono ?_ (si none none w σ (fun _ _ _ _ => rfl) h0))
    rintro v w2 ⟨x, rfl, hS, hT⟩
    refine ⟨hS, ?_⟩
    rw [put_some, if_pos hni]
    refine Ord_two (T (some x)) vj vk j k dj dk hj hk hjk hdjk hnj hnk hri hrij hrik hT ?_ ?_ ?_
    · exact fun z w1 σ' hσ h => sj _ _ _ _ (fun s h1 h2 h3 => by rw [hσ s h2 h3, upd_apply, if_neg h1]) h
    · exact fun z w1 σ' hσ h => sk _ _ _ _ (fun s h1 h2 h3 => by rw [hσ s h2 h3, upd_apply, if_neg h1]) h
    · exact fun y z w1 h => hend x y z w1 h
  · refine OpO_of m hj (Okv_mono ?_ (sj none none w σ (fun _ _ _ _ => rfl) h0))
    rintro v w2 ⟨y, rfl, hS, hT⟩
    refine ⟨hS, ?_⟩
    rw [put_some, if_pos hnj]
    refine Ord_two (fun x z => T x (some y) z) vi vk i k di dk hi hk hik hdik hni hnk hrj (by rw [Array.setIfInBounds_comm _ _ (Ne.symm hij)]; exact hrij) hrjk hT ?_ ?_ ?_
    · exact fun z w1 σ' hσ h => si _ _ _ _ (fun s h1 h2 h3 => by rw [hσ s h1 h3, upd_apply, if_neg h2]) h
    · exact fun z w1 σ' hσ h => sk _ _ _ _ (fun s h1 h2 h3 => by rw [hσ s h1 h3, upd_apply, if_neg h2]) h
    · intro x z w1 h
      rw [upd_comm σ (Ne.symm hdij), Array.setIfInBounds_comm _ _ (Ne.symm hij)]
      exact hend x y z w1 h
  · refine OpO_of m hk (Okv_mono ?_ (sk none none w σ (fun _ _ _ _ => rfl) h0))
    rintro v w2 ⟨z, rfl, hS, hT⟩
    refine ⟨hS, ?_⟩
    rw [put_some, if_pos hnk]
    refine Ord_two (fun x y => T x y (some z)) vi vj i j di dj hi hj hij hdij hni hnj hrk (by rw [Array.setIfInBounds_comm _ _ (Ne.symm hik)]; exact hrik) (by rw [Array.setIfInBounds_comm _ _ (Ne.symm hjk)]; exact hrjk) hT ?_ ?_ ?_
    · exact fun z w1 σ' hσ h => si _ _ _ _ (fun s h1 h2 h3 => by rw [hσ s h1 h2, upd_apply, if_neg h3]) h
    · exact fun z w1 σ' hσ h => sj _ _ _ _ (fun s h1 h2 h3 => by rw [hσ s h1 h2, upd_apply, if_neg h3]) h
    · intro x y w1 h
      rw [upd_comm σ (Ne.symm hdik), upd_comm _ (Ne.symm hdjk), Array.setIfInBounds_comm _ _ (Ne.symm hik), Array.setIfInBounds_comm (xs := listed.setIfInBounds i true) _ _ (Ne.symm hjk)]
      exact hend x y z w1 h
/-! Many readers at once. -/
def optL (o : Option Oper) (l : List Oper) : List Oper := match o with
  | some o => o :: l
  | none => l
theorem optL_some (o : Oper) (l : List Oper) : optL (some o) l = o :: l := nr rfl
def opsL (ops : Array Oper) : List Nat → List Oper
  | [] => []
  | i :: r => optL ops[i]? (opsL ops r)
theorem opsL_nil (ops : Array Oper) : opsL ops [] = [] := nr rfl
theorem opsL_cons (ops : Array Oper) (i : Nat) (r : List Nat) : opsL ops (i :: r) = optL ops[i]? (opsL ops r) := nr rfl
def rdB (n : Nat) (ops : Array Oper) : Array Bool → List Nat → Bool
  | _, [] => true
  | L, i :: r => (match ops[i]? with
    | some ⟨some d, _, _, _, _, none⟩ => decide (d < n) && r.all fun j => (ops[j]?).bind (·.dst) != some d
    | _ => false) && Region.free .any ops L i && (Region.ready .any ops L).contains i && rdB n ops (L.setIfInBounds i true) r
def markL (L : Array Bool) (is : List Nat) : Array Bool := is.foldl (fun L i => L.setIfInBounds i true) L
theorem V_keep {τ : Sl} {d : Nat} : ∀ (is : List Nat) (σ : Sl), (is.all fun j => (ops[j]?).bind (·.dst) != some d) = true → V P n w (opsL ops is) σ (fun σ' => σ' = τ) → τ d = σ d
  | [], σ, _, h => by rw [← show σ = τ from h]
  | i :: r, σ, hd, h => by
    rw [List.all_cons, Bool.and_eq_true] at hd
    rw [opsL_cons] at h
    cases ho : ops[i]? with
    | none => rw [ho] at h; exact V_keep r σ hd.2 h
    | some o =>
      rw [ho, optL_some] at h
      obtain ⟨d', op, ty, p, af, g⟩ := o
      rw [V_op] at h
      have h1 := hd.1
      rw [ho] at h1
      have hne : d' ≠ some d := by simpa using h1
      cases hr : run1 P op ty σ w with
      | halt x w' => rw [hr] at h; exact h.elim
      | ok nx w' =>
        rw [hr] at h
        cases nx with
        | value v =>
          rw [V_keep r _ hd.2 h.2]
          cases d' with
          | none => rfl
          | some d' =>
            rw [put_some]
            split
            · rw [upd_apply, if_neg (fun e => hne (by rw [e]))]
            · rfl
        | _ => exact h.elim
theorem Ord_reads (is : List Nat) (f : Nat) {m : Nat} {τ : Sl} (hf : m = f + is.length) (hs : Region.noSelect ops = true) (hB : rdB n ops listed is = true)
    (hQ : ∀ c σ w, ¬ Q (.panic c) σ w) (hS : S w) (hv : ∀ w', S w' → V P n w' (opsL ops is) σ (fun σ' => σ' = τ))
    (h : Ord P n ops Q S f (markL listed is) τ w) : Ord P n ops Q S m listed σ w := by
  subst hf
  induction is generalizing listed σ with
  | nil => have e : σ = τ := hv w hS; rw [e]; exact h
  | cons i r ih =>
    rw [rdB, Bool.and_eq_true, Bool.and_eq_true, Bool.and_eq_true] at hB
    obtain ⟨⟨⟨h1, h2⟩, h3⟩, h4⟩ := hB
    cases ho : ops[i]? with
    | none => rw [ho] at h1; cases h1
    | some o =>
      obtain ⟨d', op, ty, p, af, g⟩ := o
      rw [ho] at h1
      cases d' with
      | none => cases h1
      | some d =>
      cases g with
      | some g => cases h1
      | none =>
      simp only [Bool.and_eq_true, decide_eq_true_eq] at h1
      obtain ⟨hd, hr⟩ := h1
      have key : ∀ w', S w' → run1 P op ty σ w' = .ok (.value (τ d)) w' ∧ V P n w' (opsL ops r) (put n σ (some d) (τ d)) (fun σ' => σ' = τ) := by
        intro w' hw'
        have hv := hv w' hw'
        rw [opsL_cons, ho, optL_some, V_op] at hv
        cases hr1 : run1 P op ty σ w' with
        | halt x w2 => rw [hr1] at hv; exact hv.elim
        | ok nx w2 =>
          rw [hr1] at hv
          cases nx with
          | value v =>
            obtain ⟨rfl, hv⟩ := hv
            have e := V_keep r _ hr hv
            rw [put_some, if_pos hd, upd_same] at e
            rw [e]
            exact ⟨rfl, hv⟩
          | _ => exact hv.elim
      exact Ord_take i ho hs h2 h3 hQ hS (fun w' hw' => (key w' hw').1) (ih h4 (fun w' hw' => (key w' hw').2) h)
/-! Cutting a proof at a place where several ways meet. -/
theorem E_mono {K K' : Sl → World → Prop} (h : ∀ σ w, K σ w → K' σ w) : ∀ (l : List Oper) (σ : Sl) (w : World), E P n ops l σ w K → E P n ops l σ w K'
  | [], σ, w, hE => h _ _ hE
  | ⟨d, op, ty, p, af, none⟩ :: r, σ, w, hE => Okv_mono (fun _ _ hv => E_mono h r _ _ hv) hE
  | ⟨d, op, ty, p, af, some (j, b)⟩ :: r, σ, w, hE => by
    rw [E_opg, GB] at *
    split
    · rename_i hg; rw [if_pos hg] at hE; exact Okv_mono (fun _ _ hv => E_mono h r _ _ hv) hE
    · rename_i hg; rw [if_neg hg] at hE; exact E_mono h r _ _ hE
theorem Raw_mono {Q Q' : Exit → Sl → World → Prop} {c : Code} (h : ∀ e σ w, Q e σ w → Q' e σ w) (hr : Raw P n c Q σ w) : Raw P n c Q' σ w :=
  fun a hf => wp_mono (hr a hf) fun e _ w' ⟨σ', hf', hq⟩ => ⟨σ', hf', h e σ' w' hq⟩
theorem W_mono : ∀ (c : Code) {Q Q' : Exit → Sl → World → Prop} {σ : Sl} {w : World}, (∀ e σ w, Q e σ w → Q' e σ w) → W P n c Q σ w → W P n c Q' σ w := by
  intro c
  induction c with
  | skip => intro Q Q' σ w h hw; exact h _ _ _ hw
  | region id ops draw =>
    intro Q Q' σ w h hw
    cases draw with
    | true => exact Raw_mono h hw
    | false => exact E_mono (fun σ w hk => h _ _ _ hk) _ _ _ hw
  | seq x y ihx ihy =>
    intro Q Q' σ w h hw
    refine ihx (fun e σ' w' hq => ?_) hw
    cases e
    case normal => exact ihy h hq
    all_goals exact h _ _ _ hq
  | cond c x y ihx ihy =>
    intro Q Q' σ w h hw
    rw [W_cond] at *
    generalize ev σ c = v at *
    cases v with
    | bool t => exact ⟨fun ht => ihx h (hw.1 ht), fun ht => ihy h (hw.2 ht)⟩
    | _ => exact hw.elim
  | block id c ih =>
    intro Q Q' σ w h hw
    refine ih (fun e σ' w' hq => ?_) hw
    cases e
    case exit id' =>
      simp only [inX] at *
      split
      · rename_i he; rw [if_pos he] at hq; exact h _ _ _ hq
      · rename_i he; rw [if_neg he] at hq; exact h _ _ _ hq
    all_goals exact h _ _ _ hq
  | exit id => intro Q Q' σ w h hw; exact h _ _ _ hw
  | ret => intro Q Q' σ w h hw; exact h _ _ _ hw
  | goto l => intro Q Q' σ w h hw; exact h _ _ _ hw
  | label l => intro Q Q' σ w h hw; exact h _ _ _ hw
  | _ => intro Q Q' σ w h hw; exact Raw_mono h hw
def cutX (J : Sl → World → Prop) (Q : Exit → Sl → World → Prop) : Exit → Sl → World → Prop
  | .normal, σ, w => J σ w
  | e, σ, w => Q e σ w
theorem cutX_normal {J : Sl → World → Prop} : cutX J Q .normal σ w = J σ w := nr rfl
theorem cutX_ret {J : Sl → World → Prop} : cutX J Q .ret σ w = Q .ret σ w := nr rfl
theorem cutX_exit {J : Sl → World → Prop} {id : Nat} : cutX J Q (.exit id) σ w = Q (.exit id) σ w := nr rfl
@[congr] theorem cutX_congr {J : Sl → World → Prop} {e : Exit} {σ σ' : Sl} {w w' : World} (h : σ = σ') (h' : w = w') : cutX J Q e σ w = cutX J Q e σ' w' := by rw [h, h']
theorem W_cut {c : Code} (J : Sl → World → Prop) (h2 : ∀ σ w, J σ w → Q .normal σ w) (h1 : W P n c (cutX J Q) σ w) : W P n c Q σ w :=
  W_mono c (fun e σ' w' hq => by
    cases e
    case normal => exact h2 _ _ hq
    all_goals exact hq) h1
/-- The same where ways meet at the end and at one exit. -/
def cut2X (id : Nat) (J Je : Sl → World → Prop) (Q : Exit → Sl → World → Prop) : Exit → Sl → World → Prop
  | .normal, σ, w => J σ w
  | .exit id', σ, w => if id' = id then Je σ w else Q (.exit id') σ w
  | e, σ, w => Q e σ w
theorem cut2X_normal {id : Nat} {J Je : Sl → World → Prop} : cut2X id J Je Q .normal σ w = J σ w := nr rfl
theorem cut2X_ret {id : Nat} {J Je : Sl → World → Prop} : cut2X id J Je Q .ret σ w = Q .ret σ w := nr rfl
theorem cut2X_same {id : Nat} {J Je : Sl → World → Prop} : cut2X id J Je Q (.exit id) σ w = Je σ w := if_pos rfl
theorem cut2X_ne {id id' : Nat} {J Je : Sl → World → Prop} (h : id' ≠ id) : cut2X id J Je Q (.exit id') σ w = Q (.exit id') σ w := if_neg h
@[congr] theorem cut2X_congr {id : Nat} {J Je : Sl → World → Prop} {e : Exit} {σ σ' : Sl} {w w' : World} (h : σ = σ') (h' : w = w') : cut2X id J Je Q e σ w = cut2X id J Je Q e σ' w' := by rw [h, h']
theorem W_cut2 {c : Code} (id : Nat) (J Je : Sl → World → Prop) (h1 : ∀ σ w, J σ w → Q .normal σ w) (h2 : ∀ σ w, Je σ w → Q (.exit id) σ w) (h : W P n c (cut2X id J Je Q) σ w) : W P n c Q σ w :=
  W_mono c (fun e σ' w' hq => by
    cases e
    case normal => exact h1 _ _ hq
    case exit id' =>
      simp only [cut2X] at hq
      split at hq
      · rename_i he; subst he; exact h2 _ _ hq
      · exact hq
    all_goals exact hq) h
end
end Go.Proofs.YtjaeiiiniohloaaDoor
/- Rows of cells that are owned and grow; lists of records in a row. No program in sight. -/
namespace Go.Proofs.YtjaeiiiniohloaaDoor
open Go.RowKit
/-- What owns something is a row. -/
theorem owns_row {w : World} {base size n c : Nat} {e : TypeId} {A : Option Addr} {xs : List Value} (h : w.ownsRow base e size (.slice A n c) n xs) (hn : 0 < n) : ∃ g, A = some ⟨g, 0, none⟩ ∧ base ≤ g ∧ Row w g e xs ∧ n ≤ c ∧ c ≤ maxLen := by
  rcases h.2 with ⟨_, h0⟩ | ⟨g, cap, cur, he, hb, hg, hnc, hcm, _, ht⟩
  · omega
  · injection he with h1 h2 h3
    subst h3
    exact ⟨g, h1, hb, ⟨cur, hg, _, by rw [← ht]; exact (List.take_append_drop _ _).symm⟩, hnc, hcm⟩
theorem grown_below {w w' : World} {row : Option Nat} {B : Nat} (h : w.grownBy w' row) (hr : ∀ g, row = some g → B ≤ g) (hB : B ≤ w.heap.size) : Below B w w' :=
  ⟨h.os, h.tape, h.output, h.size, fun k hk => h.block k (Nat.lt_of_lt_of_le hk hB) (fun e => by have := hr k e.symm; omega)⟩
theorem flat_len {α : Type} {enc : α → List Value} {sz : Nat} (he : ∀ x, (enc x).length = sz) : ∀ L : List α, (L.flatMap enc).length = L.length * sz
  | [] => by simp
  | x :: r => by rw [List.flatMap_cons, List.length_append, he, flat_len he r, List.length_cons, Nat.succ_mul]; omega
theorem owns_keep {w w' : World} {base e size n : Nat} {v : Value} {xs : List Value} (h : w.ownsRow base e size v n xs) (hb : ∀ g, v.ownBlock = some g → w'.heap[g]? = w.heap[g]?) : w'.ownsRow base e size v n xs := by
  refine ⟨h.1, ?_⟩
  rcases h.2 with h0 | ⟨g, cap, cur, rfl, h1, h2, h3⟩
  · exact .inl h0
  · exact .inr ⟨g, cap, cur, rfl, h1, (hb g rfl).trans h2, h3⟩
theorem owns_ge {w : World} {base e size n : Nat} {v : Value} {xs : List Value} (h : w.ownsRow base e size v n xs) {g : Nat} (hg : v.ownBlock = some g) : base ≤ g ∧ g < w.heap.size := by
  rcases h.2 with ⟨rfl, _⟩ | ⟨g', cap, cur, rfl, h1, h2, h3⟩
  · cases hg
  · simp only [Value.ownBlock, Option.some.injEq] at hg
    subst hg
    exact ⟨h1, (Array.getElem?_eq_some_iff.1 h2).1⟩
theorem Only.then_below {lo hi : Nat} {a b c : World} (h : Only lo hi a b) (k : Below a.heap.size b c) : Only lo hi a c :=
  ⟨k.os.trans h.os, k.tape.trans h.tape, k.output.trans h.output, Nat.le_trans h.size k.size, fun i hi' hr => (k.block i hi').trans (h.block i hi' hr)⟩
theorem flat_cell {α : Type} {enc : α → List Value} {sz : Nat} (he : ∀ x, (enc x).length = sz) {x : α} {j : Nat} {v : Value} (hv : (enc x)[j]? = some v) :
    ∀ (L : List α) (i : Nat), L[i]? = some x → (L.flatMap enc)[i * sz + j]? = some v
  | [], i, h => by simp at h
  | y :: r, i, h => by
    have hjl : j < sz := by rw [← he x]; exact (List.getElem?_eq_some_iff.1 hv).1
    rw [List.flatMap_cons]
    cases i with
    | zero =>
      simp only [List.getElem?_cons_zero, Option.some.injEq] at h
      subst h
      rw [Nat.zero_mul, Nat.zero_add, List.getElem?_append_left (by rw [he]; exact hjl), hv]
    | succ i =>
      rw [List.getElem?_cons_succ] at h
      rw [List.getElem?_append_right (by rw [he, Nat.succ_mul]; omega), he, show (i + 1) * sz + j - sz = i * sz + j from by rw [Nat.succ_mul]; omega]
      exact flat_cell he hv r i h
theorem flat_set {α : Type} {enc : α → List Value} {sz : Nat} (he : ∀ x, (enc x).length = sz) {x y : α} {j : Nat} {v : Value} (hj : j < sz) (hy : (enc x).set j v = enc y) :
    ∀ (L : List α) (i : Nat), L[i]? = some x → (L.flatMap enc).set (i * sz + j) v = (L.set i y).flatMap enc
  | [], i, h => by simp at h
  | z :: r, i, h => by
    cases i with
    | zero =>
      simp only [List.getElem?_cons_zero, Option.some.injEq] at h
      subst h
      rw [List.flatMap_cons, Nat.zero_mul, Nat.zero_add, List.set_append_left _ _ (by rw [he]; exact hj), hy]; rfl
    | succ i =>
      rw [List.getElem?_cons_succ] at h
      rw [List.flatMap_cons, List.set_append_right _ _ (by rw [he, Nat.succ_mul]; omega), he, show (i + 1) * sz + j - sz = i * sz + j from by rw [Nat.succ_mul]; omega, flat_set he hj hy r i h]; rfl
theorem make_row (w : World) (z : List Value) (n : Nat) (T : TypeId) (hz : 0 < z.length) : Row (w.alloc (.cells (madeCells z.toArray (n * z.length)) T)) w.heap.size T ((List.replicate n z).flatten) :=
  ⟨_, heap_alloc_new w _, [], by rw [madeCells_flat _ _ hz, List.append_nil]⟩
theorem rep_snoc (k : Nat) (v : Value) : List.replicate (k + 1) v = List.replicate k v ++ [v] := by
  rw [List.replicate_succ']
section
variable {P : Program} {w w' : World} {base e sz n c : Nat} {A : Option Addr} {xs news : List Value}
theorem owns_nil (w : World) (base e sz : Nat) : w.ownsRow base e sz (.slice none 0 0) 0 [] := ⟨by simp, .inl ⟨rfl, rfl⟩⟩
theorem owns_only {lo hi : Nat} {v : Value} (h : w.ownsRow base e sz v n xs) (ho : Only lo hi w w') (hr : hi ≤ base) : w'.ownsRow base e sz v n xs :=
  owns_keep h fun g hg => by
    obtain ⟨h1, h2⟩ := owns_ge h hg
    exact ho.block g h2 (.inr (by omega))
theorem owns_below {v : Value} (h : w.ownsRow base e sz v n xs) (hb : Below w.heap.size w w') : w'.ownsRow base e sz v n xs :=
  owns_keep h fun g hg => hb.block g (owns_ge h hg).2
theorem push1 {T ty bytes : Nat} (h : w.ownsRow base e sz (.slice A n c) n xs) (hb : base ≤ w.heap.size) (hI : sliceI P T = some (e, sz, bytes)) (hn : news.length = sz) (h1 : ∀ u ∈ news, u.oneCell' = true)
    (h63 : n + 1 ≤ 1000000000) (hby : bytes ≤ 10000) :
    ∃ A' c' w2, vAppend P T T ty (.slice A n c) (.slice (some ⟨w.heap.size, 0, none⟩) 1 1) (w.alloc (.cells news.toArray e)) = .ok (.value (.slice A' (n + 1) c')) w2 ∧
      w2.ownsRow base e sz (.slice A' (n + 1) c') (n + 1) (xs ++ news) ∧ Below base w w2 ∧ w.heap.size ≤ w2.heap.size := by
  have hba := below_alloc w (.cells news.toArray e)
  obtain ⟨A', c', w2, he, ho, hg', hbk⟩ := vAppend_own (P := P) (ty := ty) (m := 1) (c := 1) (b := w.heap.size) (o := 0) (news := news) hI (owns_below h hba) (by rw [hn, Nat.one_mul])
    (fun j u hu => by rw [Nat.zero_add, (new_block w news.toArray e).1 j]; simpa using hu) h1 h63 hby (by rw [World.size_alloc]; omega)
  have hgrow : Below base (w.alloc (.cells news.toArray e)) w2 := grown_below hg' (fun g hg => (owns_ge h hg).1) (by rw [World.size_alloc]; omega)
  have hB := (hba.mono hb).trans hgrow
  exact ⟨A', c', w2, he, ho, hB, hB.size⟩
end
end Go.Proofs.YtjaeiiiniohloaaDoor
/- Plain: bytes of a string as numbers; kinds of bytes; the first piece of a text. No program in sight. -/
namespace Go.Proofs.YtjaeiiiniohloaaDoor
def bs (s : ByteArray) : List Nat := s.data.toList.map UInt8.toNat
theorem bs_len (s : ByteArray) : (bs s).length = s.size := by simp [bs]
theorem bs_lt (s : ByteArray) : ∀ c ∈ bs s, c < 256 := by
  intro c hc
  obtain ⟨b, _, rfl⟩ := List.mem_map.1 hc
  exact UInt8.toNat_lt _
theorem bt_bs (s : ByteArray) (i : Nat) : bt s i = (bs s).getD i 0 := by
  unfold bt bs
  rw [List.getD_eq_getElem?_getD, List.getD_eq_getElem?_getD, List.getElem?_map]
  cases s.data.toList[i]? <;> rfl
theorem bs_get {s : ByteArray} {i : Nat} (h : i < s.size) : (bs s)[i]? = some (bt s i) := by
  rw [bt_bs, List.getD_eq_getElem?_getD]
  have : i < (bs s).length := by rw [bs_len]; exact h
  rw [List.getElem?_eq_getElem this]; rfl
theorem bs_extract (s : ByteArray) (a b : Nat) : bs (s.extract a b) = ((bs s).drop a).take (b - a) := by
  unfold bs
  rw [ByteArray.data_extract, Array.toList_extract, List.extract_eq_take_drop, List.map_take, List.map_drop]
theorem bs_append (s t : ByteArray) : bs (s ++ t) = bs s ++ bs t := by
  unfold bs
  rw [ByteArray.data_append, Array.toList_append, List.map_append]
theorem bs_inj {s t : ByteArray} (h : bs s = bs t) : s = t := by
  apply ByteArray.ext
  apply Array.ext'
  unfold bs at h
  exact (List.map_inj_right (fun a b e => UInt8.toNat_inj.1 e)).1 h
theorem bs_empty : bs ByteArray.empty = [] := rfl
def blankB (c : Nat) : Bool := c == 32 || c == 9 || c == 13 || c == 10
def letterB (c : Nat) : Bool := decide (97 ≤ c) && decide (c ≤ 122)
def digitB (c : Nat) : Bool := decide (48 ≤ c) && decide (c ≤ 57)
def wordB (c : Nat) : Bool := letterB c || digitB c || c == 45
def remB (c : Nat) : Bool := !(c == 10)
def markB (c : Nat) : Bool := c == 123 || c == 125 || c == 59 || c == 58
def spn (q : Nat → Bool) (l : List Nat) : Nat := (l.takeWhile q).length
def badN (n c : Nat) : Bool := decide (18 < n) || (decide (1 < n) && c == 48)
/-- The kind and the length of what a text begins with: kind 0 for blanks and remarks, length 0 for an error. -/
def piece : List Nat → Nat × Nat
  | [] => (0, 0)
  | c :: r =>
    if blankB c then (0, spn blankB (c :: r))
    else if c = 35 then (0, spn remB (c :: r))
    else if letterB c then (1, spn wordB (c :: r))
    else if digitB c then (if badN (spn digitB (c :: r)) c then (2, 0) else (2, spn digitB (c :: r)))
    else if markB c then (3, 1) else (0, 0)
theorem spn_le (q : Nat → Bool) (l : List Nat) : spn q l ≤ l.length := by
  unfold spn
  induction l with
  | nil => simp
  | cons c r ih =>
    by_cases h : q c = true
    · rw [List.takeWhile_cons_of_pos h]; simpa using ih
    · rw [List.takeWhile_cons_of_neg h]; simp
theorem spn_pos {q : Nat → Bool} {c : Nat} {r : List Nat} (h : q c = true) : 1 ≤ spn q (c :: r) := by unfold spn; rw [List.takeWhile_cons_of_pos h]; simp
theorem piece_le (l : List Nat) : (piece l).2 ≤ l.length := by
  cases l with
  | nil => simp [piece]
  | cons c r =>
    rw [piece]
    have h1 := spn_le blankB (c :: r); have h2 := spn_le remB (c :: r); have h3 := spn_le wordB (c :: r); have h4 := spn_le digitB (c :: r)
    repeat' split
    all_goals simp only [List.length_cons] at *
    all_goals omega
theorem spn_at {q : Nat → Bool} : ∀ (l : List Nat) (k : Nat), k < spn q l → ∃ c, l[k]? = some c ∧ q c = true
  | [], k, h => by simp [spn] at h
  | c :: r, k, h => by
    unfold spn at h
    by_cases hq : q c = true
    · rw [List.takeWhile_cons_of_pos hq] at h
      cases k with
      | zero => exact ⟨c, rfl, hq⟩
      | succ k => obtain ⟨d, h1, h2⟩ := spn_at r k (by unfold spn; simpa using h); exact ⟨d, by simpa using h1, h2⟩
    · rw [List.takeWhile_cons_of_neg hq] at h; simp at h
/-- It is the first that is not taken. -/
theorem spn_is {q : Nat → Bool} : ∀ (l : List Nat) (k : Nat), (∀ j, j < k → ∃ c, l[j]? = some c ∧ q c = true) → (∀ c, l[k]? = some c → q c = false) → spn q l = k
  | [], k, h1, _ => by
    cases k with
    | zero => rfl
    | succ k => obtain ⟨c, h, _⟩ := h1 0 (by omega); simp at h
  | c :: r, k, h1, h2 => by
    unfold spn
    cases k with
    | zero => rw [List.takeWhile_cons_of_neg (by rw [h2 c rfl]; simp)]; rfl
    | succ k =>
      obtain ⟨d, hd, hq⟩ := h1 0 (by omega)
      simp only [List.getElem?_cons_zero, Option.some.injEq] at hd
      subst hd
      rw [List.takeWhile_cons_of_pos hq, List.length_cons]
      have := spn_is r k (fun j hj => by obtain ⟨d, h, h'⟩ := h1 (j + 1) (by omega); exact ⟨d, by simpa using h, h'⟩) (fun c hc => h2 c (by simpa using hc))
      unfold spn at this
      rw [this]
end Go.Proofs.YtjaeiiiniohloaaDoor
/- Plain: decimal numbers, written and read. No program in sight. -/
namespace Go.Proofs.YtjaeiiiniohloaaDoor
/-! Numbers. -/
def dec (u : Nat) : List Nat := (Lib.decDigits u).map UInt8.toNat
def fmtI (n : Int) : List Nat := (Lib.itoa n).map UInt8.toNat
def decOK : List Nat → Bool
  | [] => false
  | c :: r => (c != 48 || r.isEmpty) && (c :: r).all digitB
def valD (a : Nat) (l : List Nat) : Nat := l.foldl (fun a c => a * 10 + (c - 48)) a
def negB : List Nat → Bool
  | 45 :: _ => true
  | _ => false
def magL (l : List Nat) : List Nat := if negB l then l.drop 1 else l
def numE (l : List Nat) : Int × Int :=
  if decOK (magL l) = false ∨ (negB l = true ∧ magL l = [48]) then (0, 1)
  else if negB l then (if 9223372036854775808 < valD 0 (magL l) then (0, 9) else (-(valD 0 (magL l) : Int), 0))
  else if 9223372036854775807 < valD 0 (magL l) then (0, 9) else ((valD 0 (magL l) : Int), 0)
theorem dec_lt {u : Nat} (h : u < 10) : dec u = [48 + u] := by
  unfold dec
  rw [Lib.decDigits, dif_pos h]
  simp only [List.map_cons, List.map_nil, UInt8.toNat_ofNat']
  congr 1
  omega
theorem dec_ge {u : Nat} (h : ¬ u < 10) : dec u = dec (u / 10) ++ [48 + u % 10] := by
  unfold dec
  rw [Lib.decDigits, dif_neg h]
  simp only [List.map_append, List.map_cons, List.map_nil, UInt8.toNat_ofNat']
  congr 2
  omega
theorem dec_all : ∀ (u : Nat), ∀ c ∈ dec u, 48 ≤ c ∧ c ≤ 57 := by
  intro u
  induction u using Nat.strongRecOn with
  | _ u ih =>
    intro c hc
    by_cases h : u < 10
    · rw [dec_lt h] at hc
      simp at hc
      omega
    · rw [dec_ge h, List.mem_append] at hc
      rcases hc with hc | hc
      · exact ih (u / 10) (by omega) c hc
      · simp at hc
        omega
theorem dec_head : ∀ (u : Nat), 0 < u → ∃ c r, dec u = c :: r ∧ c ≠ 48 := by
  intro u
  induction u using Nat.strongRecOn with
  | _ u ih =>
    intro h0
    by_cases h : u < 10
    · exact ⟨_, [], dec_lt h, by omega⟩
    · obtain ⟨c, r, h1, h2⟩ := ih (u / 10) (by omega) (by omega)
      exact ⟨c, r ++ [48 + u % 10], by rw [dec_ge h, h1]; rfl, h2⟩
theorem dec_ne (u : Nat) : dec u ≠ [] := by
  by_cases h : u < 10
  · rw [dec_lt h]; simp
  · rw [dec_ge h]; simp
theorem valD_dec : ∀ (u : Nat), valD 0 (dec u) = u := by
  intro u
  induction u using Nat.strongRecOn with
  | _ u ih =>
    by_cases h : u < 10
    · rw [dec_lt h]; simp [valD]
    · have h' := ih (u / 10) (by omega)
      rw [dec_ge h]
      unfold valD at h' ⊢
      rw [List.foldl_append, h']
      simp only [List.foldl_cons, List.foldl_nil]
      omega
theorem all_digit {l : List Nat} (h : ∀ c ∈ l, 48 ≤ c ∧ c ≤ 57) : l.all digitB = true := by
  rw [List.all_eq_true]
  intro c hc
  unfold digitB
  simp [h c hc]
theorem decOK_dec (u : Nat) : decOK (dec u) = true := by
  by_cases h : u < 10
  · rw [dec_lt h]
    have := dec_all u
    rw [dec_lt h] at this
    show ((48 + u != 48 || true) && List.all _ digitB) = true
    rw [all_digit this]
    simp
  · obtain ⟨c, r, h1, h2⟩ := dec_head u (by omega)
    have := dec_all u
    rw [h1] at this ⊢
    show ((c != 48 || r.isEmpty) && List.all _ digitB) = true
    rw [all_digit this]
    simp [h2]
theorem negB_dec (u : Nat) : negB (dec u) = false := by
  have h := dec_all u
  cases hd : dec u with
  | nil => rfl
  | cons c r =>
    rw [hd] at h
    have := h c (by simp)
    unfold negB
    split
    · rename_i e; injection e with e _; omega
    · rfl
theorem fmtI_nonneg {n : Int} (h : 0 ≤ n) : fmtI n = dec n.toNat := by unfold fmtI Lib.itoa dec; rw [if_neg (by omega)]
theorem fmtI_neg {n : Int} (h : n < 0) : fmtI n = 45 :: dec n.natAbs := by unfold fmtI Lib.itoa dec; rw [if_pos h]; rfl
theorem numE_fmt {n : Int} (h0 : -9223372036854775808 ≤ n) (h1 : n ≤ 9223372036854775807) : numE (fmtI n) = (n, 0) := by
  by_cases h : n < 0
  · have hm : magL (45 :: dec n.natAbs) = dec n.natAbs := rfl
    have hn : negB (45 :: dec n.natAbs) = true := rfl
    have hz : dec n.natAbs ≠ [48] := by
      obtain ⟨c, r, h2, h3⟩ := dec_head n.natAbs (by omega)
      rw [h2]
      intro e
      injection e with e _
      exact h3 e
    rw [fmtI_neg h]
    unfold numE
    rw [hm, hn, decOK_dec, valD_dec, if_neg (by simp [hz]), if_pos rfl, if_neg (by omega)]
    simp only [Prod.mk.injEq, and_true]
    omega
  · have hm : magL (dec n.toNat) = dec n.toNat := by unfold magL; rw [negB_dec]; rfl
    rw [fmtI_nonneg (by omega)]
    unfold numE
    rw [hm, negB_dec, decOK_dec, valD_dec, if_neg (by simp), if_neg (by simp), if_neg (by omega)]
    simp only [Prod.mk.injEq, and_true]
    omega
theorem fmtI_ne (n : Int) : fmtI n ≠ [] := by
  by_cases h : n < 0
  · rw [fmtI_neg h]; simp
  · rw [fmtI_nonneg (by omega)]; exact dec_ne _
theorem fmtI_all (n : Int) : ∀ c ∈ fmtI n, (48 ≤ c ∧ c ≤ 57) ∨ c = 45 := by
  intro c hc
  by_cases h : n < 0
  · rw [fmtI_neg h, List.mem_cons] at hc
    rcases hc with hc | hc
    · exact .inr hc
    · exact .inl (dec_all _ c hc)
  · rw [fmtI_nonneg (by omega)] at hc
    exact .inl (dec_all _ c hc)
theorem valD_cons (a c : Nat) (l : List Nat) : valD a (c :: l) = valD (a * 10 + (c - 48)) l := List.foldl_cons ..
theorem valD_append (a : Nat) (l m : List Nat) : valD a (l ++ m) = valD (valD a l) m := List.foldl_append
theorem valD_ge : ∀ (l : List Nat) (a : Nat), a ≤ valD a l
  | [], a => Nat.le_refl _
  | c :: l, a => by have := valD_ge l (a * 10 + (c - 48)); rw [valD_cons]; omega
theorem valD_take (l : List Nat) (k : Nat) : valD 0 (l.take k) ≤ valD 0 l := by
  conv => rhs; rw [← List.take_append_drop k l, valD_append]
  exact valD_ge _ _
theorem valD_step {l : List Nat} {k c : Nat} (h : l[k]? = some c) : valD 0 (l.take (k + 1)) = valD 0 (l.take k) * 10 + (c - 48) := by
  rw [List.take_add_one, h, valD_append]
  exact valD_cons _ _ _
theorem decOK_cons (c : Nat) (r : List Nat) : decOK (c :: r) = ((c != 48 || r.isEmpty) && (c :: r).all digitB) := rfl
theorem digitB_iff {c : Nat} : digitB c = true ↔ 48 ≤ c ∧ c ≤ 57 := by unfold digitB; simp
theorem decOK_all {l : List Nat} (h : decOK l = true) : ∀ c ∈ l, 48 ≤ c ∧ c ≤ 57 := by
  cases l with
  | nil => cases h
  | cons c r =>
    rw [decOK_cons, Bool.and_eq_true, List.all_eq_true] at h
    exact fun d hd => digitB_iff.1 (h.2 d hd)
theorem decOK_pos {l : List Nat} (h : decOK l = true) (h0 : l ≠ [48]) : 1 ≤ valD 0 l := by
  cases l with
  | nil => cases h
  | cons c r =>
    have h1 := decOK_all h c (by simp)
    rw [decOK_cons, Bool.and_eq_true, Bool.or_eq_true] at h
    have hc : c ≠ 48 := by
      rintro rfl
      rcases h.1 with h2 | h2
      · simp at h2
      · exact h0 (by rw [List.isEmpty_iff.1 h2])
    have := valD_ge r (0 * 10 + (c - 48))
    rw [valD_cons]
    omega
theorem decOK_bad {l : List Nat} {k c : Nat} (h : l[k]? = some c) (hc : ¬ (48 ≤ c ∧ c ≤ 57)) : decOK l = false := by
  cases hd : decOK l with
  | false => rfl
  | true => exact absurd (decOK_all hd c (List.mem_of_getElem? h)) hc
theorem decOK_zero {l : List Nat} (h : l[0]? = some 48) (h1 : 1 < l.length) : decOK l = false := by
  cases l with
  | nil => rfl
  | cons c r =>
    simp only [List.getElem?_cons_zero, Option.some.injEq] at h
    subst h
    cases r with
    | nil => simp at h1
    | cons d r => rw [decOK_cons]; simp
theorem decOK_yes {l : List Nat} (h0 : l ≠ []) (h1 : ¬ (l[0]? = some 48 ∧ 1 < l.length)) (h2 : ∀ (k c : Nat), l[k]? = some c → 48 ≤ c ∧ c ≤ 57) : decOK l = true := by
  cases l with
  | nil => exact absurd rfl h0
  | cons c r =>
    rw [decOK_cons, Bool.and_eq_true]
    refine ⟨?_, all_digit fun d hd => ?_⟩
    · by_cases hc : c = 48
      · subst hc
        cases r with
        | nil => simp
        | cons d r => exact absurd ⟨rfl, by simp⟩ h1
      · simp [hc]
    · obtain ⟨k, hk⟩ := List.mem_iff_getElem?.1 hd
      exact h2 k d hk
def limN (ng : Bool) : Nat := if ng then 9223372036854775808 else 9223372036854775807
theorem numE_bad {l : List Nat} (h : decOK (magL l) = false ∨ (negB l = true ∧ magL l = [48])) : numE l = (0, 1) := by unfold numE; rw [if_pos h]
theorem numE_over {l : List Nat} (h : ¬ (decOK (magL l) = false ∨ (negB l = true ∧ magL l = [48]))) (h1 : limN (negB l) < valD 0 (magL l)) : numE l = (0, 9) := by
  unfold numE
  rw [if_neg h]
  cases hn : negB l <;> rw [hn] at h1 <;> unfold limN at h1 <;> simp only [Bool.false_eq_true, if_false, if_true] at h1 ⊢ <;> rw [if_pos h1]
theorem numE_in {l : List Nat} (h : ¬ (decOK (magL l) = false ∨ (negB l = true ∧ magL l = [48]))) (h1 : valD 0 (magL l) ≤ limN (negB l)) : numE l = (if negB l then -(valD 0 (magL l) : Int) else valD 0 (magL l), 0) := by
  unfold numE
  rw [if_neg h]
  cases hn : negB l <;> rw [hn] at h1 <;> unfold limN at h1 <;> simp only [Bool.false_eq_true, if_false, if_true] at h1 ⊢ <;> rw [if_neg (by omega)]
end Go.Proofs.YtjaeiiiniohloaaDoor
/- Plain: commands, their forms, their texts. No program in sight. -/
namespace Go.Proofs.YtjaeiiiniohloaaDoor
/-- A command. -/
structure Cm where
  kind : Int
  at_ : Int
  who : Int
  a : Int
  b : Int
  name : ByteArray
  text : ByteArray
  nums : List Int
  key : Int
  nonce : Int
def Cm.zero : Cm := ⟨0, 0, 0, 0, 0, ByteArray.empty, ByteArray.empty, [], 0, 0⟩
def Cm.ok (c : Cm) : Prop := (-9223372036854775808 ≤ c.kind ∧ c.kind ≤ 9223372036854775807) ∧ (-9223372036854775808 ≤ c.at_ ∧ c.at_ ≤ 9223372036854775807) ∧ (-9223372036854775808 ≤ c.who ∧ c.who ≤ 9223372036854775807) ∧
  (-9223372036854775808 ≤ c.a ∧ c.a ≤ 9223372036854775807) ∧ (-9223372036854775808 ≤ c.b ∧ c.b ≤ 9223372036854775807) ∧ (∀ n ∈ c.nums, -9223372036854775808 ≤ n ∧ n ≤ 9223372036854775807) ∧
  (0 ≤ c.key ∧ c.key ≤ 18446744073709551615) ∧ (0 ≤ c.nonce ∧ c.nonce ≤ 18446744073709551615)
structure Fm where
  kind : Int
  word : List Nat
  fields : List Nat
  nums : Int
deriving DecidableEq
def asc (s : String) : List Nat := s.toList.map Char.toNat
def fmT : List Fm := [⟨1, asc "game", asc "abt", 0⟩, ⟨2, asc "retailer", asc "wl", 5⟩, ⟨3, asc "player", asc "wa", 0⟩, ⟨4, asc "limit", asc "wl", 3⟩, ⟨5, asc "exclude", asc "wab", 0⟩,
  ⟨6, asc "sell", asc "wabnt", 0⟩, ⟨7, asc "cancel", asc "wt", 0⟩, ⟨8, asc "commit", asc "nawk", 0⟩, ⟨9, asc "reveal", asc "nawko", 0⟩, ⟨10, asc "balls", asc "nawl", -1⟩,
  ⟨11, asc "abort", asc "na", 0⟩, ⟨12, asc "settle", asc "na", 0⟩, ⟨13, asc "claim", asc "wt", 0⟩, ⟨14, asc "expire", asc "", 0⟩, ⟨15, asc "period", asc "w", 0⟩,
  ⟨16, asc "deck", asc "kt", 0⟩, ⟨17, asc "pack", asc "nawb", 0⟩, ⟨18, asc "scratch", asc "nwt", 0⟩, ⟨19, asc "debt", asc "wnab", 0⟩, ⟨20, asc "chance", asc "nakb", 0⟩]
def fmOf (k : Int) : Option Fm := fmT.find? fun f => f.kind == k
def fmNamed (l : List Nat) : Option Fm := fmT.find? fun f => f.word == l
/-- A name. -/
def scNameB (l : List Nat) : Bool := (match l with | c :: _ => letterB c | [] => false) && decide (l.length ≤ 24) && l.all wordB
/-- Are the fields that a form does not use zero? -/
def idleB (fl : List Nat) (c : Cm) : Bool := (fl.contains 119 || c.who == 0) && (fl.contains 97 || c.a == 0) && (fl.contains 98 || c.b == 0) && (fl.contains 110 || decide (bs c.name = [])) && (fl.contains 116 || decide (bs c.text = [])) &&
  (fl.contains 107 || c.key == 0) && (fl.contains 111 || c.nonce == 0)
def chkE (c : Cm) : Int := match fmOf c.kind with
  | none => 7
  | some f =>
    if c.at_ < 0 ∨ 1073741824 < c.at_ then 2
    else if idleB f.fields c = false ∨ (f.nums ≠ -1 ∧ (c.nums.length : Int) ≠ f.nums) then 8
    else if f.fields.contains 110 = true ∧ scNameB (bs c.name) = false then 4
    else if 32768 < c.text.size ∨ 256 < c.nums.length then 3
    else 0
/-! Digits of sixteen. -/
def hexd (d : Nat) : Nat := if d < 10 then 48 + d else 87 + d
def hexT : Nat → Nat → List Nat
  | 0, _ => []
  | k + 1, x => hexd (x / 16 ^ k % 16) :: hexT k x
def hexv (c : Nat) : Option Nat := if 48 ≤ c ∧ c ≤ 57 then some (c - 48) else if 97 ≤ c ∧ c ≤ 102 then some (c - 87) else none
def hexV (acc : Nat) : List Nat → Option Nat
  | [] => some acc
  | c :: r => match hexv c with
    | none => none
    | some d => hexV (acc * 16 + d) r
def hexE (l : List Nat) : Option Nat := if l.length = 16 then hexV 0 l else none
/-! Texts in quotes. -/
def plainB (c : Nat) : Bool := decide (32 ≤ c) && decide (c ≤ 126) && c != 34 && c != 92
def qB (c : Nat) : List Nat := if plainB c then [c] else if c = 34 ∨ c = 92 then [92, c] else if c = 10 then [92, 110] else [92, 120, hexd (c / 16), hexd (c % 16)]
def quoteL (l : List Nat) : List Nat := 34 :: (l.flatMap qB ++ [34])
def escS : List Nat → Option (Nat × Nat)
  | [] => none
  | c :: r => if c = 34 ∨ c = 92 then some (c, 1) else if c = 110 then some (10, 1) else if c = 120 then
      match r with
      | h :: l :: _ => (match hexv h, hexv l with
        | some x, some y => if (32 ≤ x * 16 + y ∧ x * 16 + y ≤ 126) ∨ x * 16 + y = 10 then none else some (x * 16 + y, 3)
        | _, _ => none)
      | _ => none
    else none
def unq (l : List Nat) : Option (List Nat) := match l with
  | [] => none
  | c :: r => if c = 34 then (if r = [] then some [] else none)
    else if c = 92 then (match escS r with
      | none => none
      | some (b, n) => (unq (r.drop n)).map (b :: ·))
    else if plainB c then (unq r).map (c :: ·) else none
termination_by l.length
decreasing_by all_goals (simp only [List.length_drop, List.length_cons]; omega)
def textS (l : List Nat) : Option (List Nat) := match l with
  | c :: d :: r => if c = 32 ∧ d = 34 then unq r else none
  | _ => none
/-! Fields. -/
def notSp (c : Nat) : Bool := c != 32
def cutS : List Nat → Option (List Nat × List Nat)
  | [] => none
  | c :: r => if c = 32 then some (r.takeWhile notSp, r.dropWhile notSp) else none
def numsF (f : Nat) (count : Int) (done : Nat) (l : List Nat) : Option (List Int × List Nat) :=
  if count = done ∨ (count = -1 ∧ l = []) then some ([], l) else match f with
  | 0 => none
  | f + 1 => match cutS l with
    | none => none
    | some (t, r) => if (numE t).2 ≠ 0 then none else (numsF f count (done + 1) r).map fun p => ((numE t).1 :: p.1, p.2)
def toBA (l : List Nat) : ByteArray := ⟨(l.map UInt8.ofNat).toArray⟩
def fieldS (c : Cm) (x : Nat) (t : List Nat) : Option Cm :=
  if x = 119 then (if (numE t).2 = 0 then some { c with who := (numE t).1 } else none)
  else if x = 97 then (if (numE t).2 = 0 then some { c with a := (numE t).1 } else none)
  else if x = 98 then (if (numE t).2 = 0 then some { c with b := (numE t).1 } else none)
  else if x = 110 then (if scNameB t then some { c with name := toBA t } else none)
  else if x = 107 then (hexE t).map fun (v : Nat) => { c with key := (v : Int) }
  else if x = 111 then (hexE t).map fun (v : Nat) => { c with nonce := (v : Int) }
  else none
def fieldsS (nums : Int) : Cm → List Nat → List Nat → Option Cm
  | c, [], l => if l = [] then some c else none
  | c, x :: fl, l =>
    if x = 116 then (match textS l with | none => none | some t => fieldsS nums { c with text := toBA t } fl [])
    else if x = 108 then (match numsF (l.length + 1) nums 0 l with | none => none | some (ns, r) => fieldsS nums { c with nums := ns } fl r)
    else match cutS l with
      | none => none
      | some (t, r) => (match fieldS c x t with | none => none | some c' => fieldsS nums c' fl r)
/-- One line: an error, or its command. -/
def lineS (l : List Nat) : Except Int Cm :=
  match l.dropWhile notSp with
  | [] => .error 1
  | _ :: rest => match fmNamed (rest.takeWhile notSp) with
    | none => .error 7
    | some f => if (numE (l.takeWhile notSp)).2 ≠ 0 then .error 1 else
      match fieldsS f.nums { Cm.zero with kind := f.kind, at_ := (numE (l.takeWhile notSp)).1 } f.fields (rest.dropWhile notSp) with
      | none => .error 1
      | some c => if chkE c ≠ 0 then .error (chkE c) else .ok c
def notNl (c : Nat) : Bool := c != 10
def consS (c : Cm) : Except (Int × Nat) (List Cm) → Except (Int × Nat) (List Cm)
  | .ok L => .ok (c :: L)
  | .error e => .error e
/-- The lines of a text, behind so many commands and lines. -/
def scrS (cnt num : Nat) (l : List Nat) : Except (Int × Nat) (List Cm) :=
  if h : l = [] then .ok [] else
  if l.takeWhile notNl = [] ∨ (l.takeWhile notNl).head? = some 35 then scrS cnt (num + 1) ((l.dropWhile notNl).drop 1)
  else if 512 ≤ cnt then .error (3, num + 1)
  else match lineS (l.takeWhile notNl) with
    | .error e => .error (e, num + 1)
    | .ok c => consS c (scrS (cnt + 1) (num + 1) ((l.dropWhile notNl).drop 1))
termination_by l.length
decreasing_by
  all_goals
    have h1 := congrArg List.length (List.takeWhile_append_dropWhile (p := notNl) (l := l))
    have h2 : l.length ≠ 0 := fun e => h (List.length_eq_zero_iff.1 e)
    rw [List.length_append] at h1
    rw [List.length_drop]
    rcases Nat.eq_zero_or_pos (l.takeWhile notNl).length with h3 | h3
    · rw [h3] at h1; omega
    · omega
def parseS (l : List Nat) : Except (Int × Nat) (List Cm) := if 1048576 < l.length then .error (3, 0) else scrS 0 0 l
/-! Printing. -/
def prF (c : Cm) (x : Nat) : List Nat :=
  if x = 119 then 32 :: fmtI c.who else if x = 97 then 32 :: fmtI c.a else if x = 98 then 32 :: fmtI c.b
  else if x = 110 then 32 :: bs c.name else if x = 116 then 32 :: quoteL (bs c.text)
  else if x = 107 then 32 :: hexT 16 c.key.toNat else if x = 111 then 32 :: hexT 16 c.nonce.toNat
  else c.nums.flatMap fun n => 32 :: fmtI n
def prL (c : Cm) : List Nat := match fmOf c.kind with
  | none => []
  | some f => fmtI c.at_ ++ 32 :: f.word ++ f.fields.flatMap (prF c) ++ [10]
def firstE : List Cm → Int
  | [] => 0
  | c :: L => if chkE c ≠ 0 then chkE c else firstE L
def printE (L : List Cm) : List Nat × Int := if 512 < L.length then ([], 3) else if firstE L ≠ 0 then ([], firstE L) else (L.flatMap prL, 0)
end Go.Proofs.YtjaeiiiniohloaaDoor
/- Plain: numbers, digits of sixteen and quoted texts are read as they were written. No program in sight. -/
namespace Go.Proofs.YtjaeiiiniohloaaDoor
theorem bs_toBA {l : List Nat} (h : ∀ c ∈ l, c < 256) : bs (toBA l) = l := by
  unfold bs toBA
  simp only [List.map_map]
  conv => rhs; rw [← List.map_id l]
  refine List.map_congr_left fun c hc => ?_
  have := h c hc
  simp only [Function.comp, id]
  simp only [UInt8.toNat_ofNat']
  omega
theorem toBA_bs (s : ByteArray) : toBA (bs s) = s := bs_inj (bs_toBA (bs_lt s))
/-! Digits of sixteen. -/
theorem hexv_d {d : Nat} (h : d < 16) : hexv (hexd d) = some d := by
  unfold hexv hexd
  by_cases h1 : d < 10
  · rw [if_pos h1, if_pos (by omega)]
    congr 1
    omega
  · rw [if_neg h1, if_neg (by omega), if_pos (by omega)]
    congr 1
    omega
theorem hexd_bd {d : Nat} (h : d < 16) : (48 ≤ hexd d ∧ hexd d ≤ 57) ∨ (97 ≤ hexd d ∧ hexd d ≤ 102) := by unfold hexd; split <;> omega
theorem hexT_len : ∀ (k x : Nat), (hexT k x).length = k
  | 0, _ => rfl
  | k + 1, x => by rw [hexT, List.length_cons, hexT_len k x]
theorem hexT_all : ∀ (k x : Nat), ∀ c ∈ hexT k x, (48 ≤ c ∧ c ≤ 57) ∨ (97 ≤ c ∧ c ≤ 102)
  | 0, _, c, h => by simp [hexT] at h
  | k + 1, x, c, h => by
    rw [hexT, List.mem_cons] at h
    rcases h with rfl | h
    · exact hexd_bd (Nat.mod_lt _ (by decide))
    · exact hexT_all k x c h
theorem hexV_T : ∀ (k acc x : Nat), hexV acc (hexT k x) = some (acc * 16 ^ k + x % 16 ^ k)
  | 0, acc, x => by simp [hexT, hexV, Nat.mod_one]
  | k + 1, acc, x => by
    rw [hexT, hexV, hexv_d (Nat.mod_lt _ (by decide))]
    simp only
    rw [hexV_T k]
    congr 1
    have e : x % 16 ^ (k + 1) = 16 ^ k * (x / 16 ^ k % 16) + x % 16 ^ k := by
      rw [Nat.pow_succ, Nat.mod_mul]; omega
    rw [e, Nat.pow_succ, Nat.add_mul, ← Nat.mul_assoc]
    have : acc * 16 * 16 ^ k = acc * 16 ^ k * 16 := by rw [Nat.mul_assoc, Nat.mul_comm 16, Nat.mul_assoc]
    rw [this]
    have h2 : x / 16 ^ k % 16 * 16 ^ k = 16 ^ k * (x / 16 ^ k % 16) := Nat.mul_comm ..
    omega
theorem hexE_T {x : Nat} (h : x < 18446744073709551616) : hexE (hexT 16 x) = some x := by
  unfold hexE
  rw [if_pos (hexT_len _ _), hexV_T]
  congr 1
  rw [Nat.mod_eq_of_lt (by simpa using h)]
  omega
/-! Texts in quotes. -/
theorem plain_bd {c : Nat} (h : plainB c = true) : 32 ≤ c ∧ c ≤ 126 ∧ c ≠ 34 ∧ c ≠ 92 := by
  unfold plainB at h
  simp at h
  omega
theorem escS_self {c : Nat} (r : List Nat) (h : c = 34 ∨ c = 92) : escS (c :: r) = some (c, 1) := by unfold escS; exact if_pos h
theorem escS_n (r : List Nat) : escS (110 :: r) = some (10, 1) := rfl
theorem escS_x {x y : Nat} (h l : Nat) (r : List Nat) (hx : hexv h = some x) (hy : hexv l = some y) : escS (120 :: h :: l :: r) = if (32 ≤ x * 16 + y ∧ x * 16 + y ≤ 126) ∨ x * 16 + y = 10 then none else some (x * 16 + y, 3) := by
  have e : escS (120 :: h :: l :: r) = (match hexv h, hexv l with
        | some x, some y => if (32 ≤ x * 16 + y ∧ x * 16 + y ≤ 126) ∨ x * 16 + y = 10 then none else some (x * 16 + y, 3)
        | _, _ => none) := rfl
  rw [e, hx, hy]
theorem unq_q (c : Nat) (r : List Nat) (h : c < 256) : unq (qB c ++ r) = (unq r).map (c :: ·) := by
  unfold qB
  by_cases hp : plainB c = true
  · rw [if_pos hp]
    obtain ⟨h1, h2, h3, h4⟩ := plain_bd hp
    rw [List.cons_append, unq, if_neg h3, if_neg h4, if_pos hp]
    rfl
  · rw [if_neg hp]
    by_cases h1 : c = 34 ∨ c = 92
    · rw [if_pos h1, List.cons_append, List.cons_append, unq, if_neg (by decide), if_pos rfl, escS_self _ h1]
      rfl
    · rw [if_neg h1]
      by_cases h2 : c = 10
      · subst h2
        rw [if_pos rfl, List.cons_append, List.cons_append, unq, if_neg (by decide), if_pos rfl, escS_n]
        rfl
      · rw [if_neg h2, List.cons_append, List.cons_append, List.cons_append, List.cons_append, unq, if_neg (by decide), if_pos rfl, escS_x _ _ _ (hexv_d (show c / 16 < 16 by omega)) (hexv_d (show c % 16 < 16 by omega))]
        have e : c / 16 * 16 + c % 16 = c := by omega
        rw [e, if_neg]
        · rfl
        · intro hh
          rcases hh with hh | hh
          · refine hp ?_
            unfold plainB
            simp
            omega
          · exact h2 hh
theorem unq_quote : ∀ (l : List Nat), (∀ c ∈ l, c < 256) → unq (l.flatMap qB ++ [34]) = some l
  | [], _ => by
    rw [List.flatMap_nil, List.nil_append, unq, if_pos rfl, if_pos rfl]
  | c :: l, h => by
    rw [List.flatMap_cons, List.append_assoc, unq_q c _ (h c (by simp)), unq_quote l fun d hd => h d (by simp [hd])]
    rfl
theorem textS_quote {l : List Nat} (h : ∀ c ∈ l, c < 256) : textS (32 :: quoteL l) = some l := by
  unfold textS quoteL
  simp only [and_self, if_true]
  exact unq_quote l h
theorem qB_all {c : Nat} (h : c < 256) : ∀ d ∈ qB c, 32 ≤ d ∧ d ≤ 126 := by
  intro d hd
  unfold qB at hd
  split at hd
  · rename_i hp
    have := plain_bd hp
    simp at hd
    omega
  · split at hd
    · rename_i h1
      simp at hd
      omega
    · split at hd
      · simp at hd
        omega
      · have h1 := hexd_bd (show c / 16 < 16 by omega)
        have h2 := hexd_bd (show c % 16 < 16 by omega)
        simp at hd
        omega
theorem quote_all {l : List Nat} (h : ∀ c ∈ l, c < 256) : ∀ d ∈ quoteL l, 32 ≤ d ∧ d ≤ 126 := by
  intro d hd
  unfold quoteL at hd
  rw [List.mem_cons, List.mem_append, List.mem_flatMap] at hd
  rcases hd with rfl | ⟨c, hc, hd⟩ | hd
  · decide
  · exact qB_all (h c hc) d hd
  · simp at hd; omega
end Go.Proofs.YtjaeiiiniohloaaDoor
/- Contracts of Go's library, laid by the kit's tools over this translation (wip/shelf.py keeps those that are used). -/
namespace Go.Proofs
open Go.Shelf
def Tryd.lays169_ren : Go.Shelf.Ren := ⟨fun | 169 => 32 | n => n, fun | 70 => 54 | 9 => 9 | 0 => 0 | 72 => 56 | 37 => 40 | 127 => 73 | 3 => 3 | 5 => 5 | n => n, fun | n => n⟩
theorem Tryd.lays169 : Go.Proofs.Lays.n169 Tryd.prog Tryd.lays169_ren := {
  mixed := by kernel_rfl
  f169 := Tryd.func32.trans (congrArg some (by kernel_rfl))
  t0 := Tryd.underlying0
  a0 := Tryd.isAgg0
  z0 := Tryd.sizeOf0
  v0 := Tryd.zeroValue0
  t3 := Tryd.underlying3
  a3 := Tryd.isAgg3
  z3 := Tryd.sizeOf3
  v3 := Tryd.zeroValue3
  t9 := Tryd.underlying9
  a9 := Tryd.isAgg9
  z9 := Tryd.sizeOf9
  v9 := Tryd.zeroValue9
  t37 := Tryd.underlying40
  a37 := Tryd.isAgg40
  z37 := Tryd.sizeOf40
  v37 := Tryd.zeroValue40
  t70 := Tryd.underlying54
  a70 := Tryd.isAgg54
  z70 := Tryd.sizeOf54
  v70 := Tryd.zeroValue54
  t72 := Tryd.underlying56
  a72 := Tryd.isAgg56
  z72 := Tryd.sizeOf56
  v72 := Tryd.zeroValue56
  t127 := Tryd.underlying73
  a127 := Tryd.isAgg73
  z127 := Tryd.sizeOf73
  v127 := Tryd.zeroValue73 }
theorem Tryd.Builder_Extra_169 : Builder.Extra Tryd.prog Tryd.lays169_ren := {
  sizeBuilder := by kernel_rfl
  liesBuilder := by kernel_rfl
  t5 := Tryd.underlying5
  a5 := Tryd.isAgg5
  z5 := Tryd.sizeOf5
  v5 := Tryd.zeroValue5
  infoByte := by kernel_rfl
  cellsByte := by kernel_rfl
  sizeByte := by kernel_rfl
  neB5 := by decide }
open Go.RowKit in
/-- (*strings.Builder).String: "String returns the accumulated string.": WHATEVER THE BUILDER HOLDS. (LAID: no walk: one application.) -/
theorem Tryd.Builder_String_any (B b : Nat) (l : List UInt8) (w : World) (h : Lib.IsBuilder 56 5 B b (Lib.byteCells l) w) (hBw : B ≤ w.heap.size) :
    Calls Tryd.prog 32 #[.pointer (some ⟨b, 0, none⟩)] w fun e w' => e = .returned (.string ⟨l.toArray⟩) ∧ Below B w w' := Any.Builder_String_any Tryd.lays169 Tryd.Builder_Extra_169 B b l w h hBw
def Tryd.lays137_ren : Go.Shelf.Ren := ⟨fun | 137 => 22 | 217 => 37 | 266 => 51 | n => n, fun | 9 => 9 | 5 => 5 | 3 => 3 | n => n, fun | n => n⟩
theorem Tryd.lays137 : Go.Proofs.Lays.n137 Tryd.prog Tryd.lays137_ren := {
  mixed := by kernel_rfl
  f137 := Tryd.func22.trans (congrArg some (by kernel_rfl))
  f217 := Tryd.func37.trans (congrArg some (by kernel_rfl))
  f266 := Tryd.func51.trans (congrArg some (by kernel_rfl))
  t3 := Tryd.underlying3
  a3 := Tryd.isAgg3
  z3 := Tryd.sizeOf3
  v3 := Tryd.zeroValue3
  t5 := Tryd.underlying5
  a5 := Tryd.isAgg5
  z5 := Tryd.sizeOf5
  v5 := Tryd.zeroValue5
  t9 := Tryd.underlying9
  a9 := Tryd.isAgg9
  z9 := Tryd.sizeOf9
  v9 := Tryd.zeroValue9 }
open Go.RowKit in
/-- strings.IndexByte: "IndexByte returns the index of the first instance of c in s, or -1 if c is not present in s.": IT RETURNS 'Lib.indexByte s c'; the world is as it was. (LAID: no walk: one application.) -/
theorem Tryd.strings_IndexByte (s : ByteArray) (c : Int) (w : World) :
    Calls Tryd.prog 22 #[.string s, .int .u8 c] w fun e w' => e = .returned (.int .i64 (Lib.indexByte s.data.toList c.toNat.toUInt8)) ∧ w' = w := Any.strings_IndexByte Tryd.lays137 s c w
def Tryd.laysM171_ren : Go.Shelf.Ren := ⟨fun | 171 => 40 | 243 => 53 | 246 => 61 | 283 => 69 | 284 => 70 | 285 => 71 | 286 => 72 | 129 => 76 | 317 => 75 | 318 => 77 | 319 => 78 | 320 => 79 | 337 => 81 | 338 => 82 | n => n, fun | 3 => 3 | 9 => 9 | 2 => 2 | 4 => 4 | 171 => 100 | 0 => 0 | 53 => 23 | 37 => 40 | 5 => 5 | 173 => 103 | 212 => 111 | 51 => 105 | 20 => 20 | 213 => 112 | 46 => 83 | 232 => 118 | 233 => 119 | n => n, fun | 17 => 3 | 18 => 4 | 19 => 5 | n => n⟩
theorem Tryd.laysM171 : Go.Proofs.LaysM.n171 Tryd.prog Tryd.laysM171_ren := {
  mixed := by kernel_rfl
  f129 := Tryd.func76.trans (congrArg some (by kernel_rfl))
  f171 := Tryd.func40.trans (congrArg some (by kernel_rfl))
  f243 := Tryd.func53.trans (congrArg some (by kernel_rfl))
  f246 := Tryd.func61.trans (congrArg some (by kernel_rfl))
  f283 := Tryd.func69.trans (congrArg some (by kernel_rfl))
  f284 := Tryd.func70.trans (congrArg some (by kernel_rfl))
  f285 := Tryd.func71.trans (congrArg some (by kernel_rfl))
  f286 := Tryd.func72.trans (congrArg some (by kernel_rfl))
  f317 := Tryd.func75.trans (congrArg some (by kernel_rfl))
  f318 := Tryd.func77.trans (congrArg some (by kernel_rfl))
  f319 := Tryd.func78.trans (congrArg some (by kernel_rfl))
  f320 := Tryd.func79.trans (congrArg some (by kernel_rfl))
  f337 := Tryd.func81.trans (congrArg some (by kernel_rfl))
  f338 := Tryd.func82.trans (congrArg some (by kernel_rfl))
  t0 := Tryd.underlying0
  a0 := Tryd.isAgg0
  z0 := Tryd.sizeOf0
  v0 := Tryd.zeroValue0
  t2 := Tryd.underlying2
  a2 := Tryd.isAgg2
  z2 := Tryd.sizeOf2
  v2 := Tryd.zeroValue2
  t3 := Tryd.underlying3
  a3 := Tryd.isAgg3
  z3 := Tryd.sizeOf3
  v3 := Tryd.zeroValue3
  t4 := Tryd.underlying4
  a4 := Tryd.isAgg4
  z4 := Tryd.sizeOf4
  v4 := Tryd.zeroValue4
  t5 := Tryd.underlying5
  a5 := Tryd.isAgg5
  z5 := Tryd.sizeOf5
  v5 := Tryd.zeroValue5
  t9 := Tryd.underlying9
  a9 := Tryd.isAgg9
  z9 := Tryd.sizeOf9
  v9 := Tryd.zeroValue9
  t20 := Tryd.underlying20
  a20 := Tryd.isAgg20
  z20 := Tryd.sizeOf20
  v20 := Tryd.zeroValue20
  t37 := Tryd.underlying40
  a37 := Tryd.isAgg40
  z37 := Tryd.sizeOf40
  v37 := Tryd.zeroValue40
  t46 := Tryd.underlying83
  a46 := Tryd.isAgg83
  z46 := Tryd.sizeOf83
  v46 := Tryd.zeroValue83
  t51 := Tryd.underlying105
  a51 := Tryd.isAgg105
  z51 := Tryd.sizeOf105
  v51 := Tryd.zeroValue105
  t53 := Tryd.underlying23
  a53 := Tryd.isAgg23
  z53 := Tryd.sizeOf23
  v53 := Tryd.zeroValue23
  t171 := Tryd.underlying100
  a171 := Tryd.isAgg100
  z171 := Tryd.sizeOf100
  v171 := Tryd.zeroValue100
  t173 := Tryd.underlying103
  a173 := Tryd.isAgg103
  z173 := Tryd.sizeOf103
  v173 := Tryd.zeroValue103
  t212 := Tryd.underlying111
  a212 := Tryd.isAgg111
  z212 := Tryd.sizeOf111
  v212 := Tryd.zeroValue111
  t213 := Tryd.underlying112
  a213 := Tryd.isAgg112
  z213 := Tryd.sizeOf112
  t232 := Tryd.underlying118
  a232 := Tryd.isAgg118
  z232 := Tryd.sizeOf118
  v232 := Tryd.zeroValue118
  t233 := Tryd.underlying119
  a233 := Tryd.isAgg119
  z233 := Tryd.sizeOf119
  v233 := Tryd.zeroValue119
  g17 := by kernel_rfl
  g18 := by kernel_rfl
  g19 := by kernel_rfl
  i0 := by kernel_rfl
  i2 := by kernel_rfl
  i3 := by kernel_rfl
  i4 := by kernel_rfl
  i5 := by kernel_rfl
  i9 := by kernel_rfl
  i20 := by kernel_rfl
  i37 := by kernel_rfl
  i46 := by kernel_rfl
  i51 := by kernel_rfl
  i53 := by kernel_rfl
  i171 := by kernel_rfl
  i173 := by kernel_rfl
  i212 := by kernel_rfl
  i232 := by kernel_rfl
  i233 := by kernel_rfl
  m17 := by kernel_rfl
  m18 := by kernel_rfl
  m19 := by kernel_rfl }
open Go.RowKit Go.Sort Go.Lib in
/-- strconv.Itoa: "Itoa is equivalent to FormatInt(int64(i), 10).": i's DECIMAL NUMERAL ('Lib.itoa': a '-' where i is negative, then the digits), FOR EVERY int. The world behind the call: the world before it, new blocks behind the heap (the library's 'var a [24]byte'), draws. (LAID: no walk: one application.) -/
theorem Tryd.strconv_Itoa (n : Int) (h0 : -9223372036854775808 ≤ n) (h1 : n ≤ 9223372036854775807) (w : World) (htab : Lib.TabIs Tryd.prog w "internal/strconv.uint64pow10" .u64 Lib.pow10Tab) :
    Calls Tryd.prog 40 #[.int .i64 n] w fun e w' => e = .returned (.string ⟨(Lib.itoa n).toArray⟩) ∧ ∃ k os, w' = grow (w.drewN k) os := Any.strconv_Itoa Tryd.laysM171 n h0 h1 w htab
def Tryd.lays219_ren : Go.Shelf.Ren := ⟨fun | 219 => 55 | 217 => 37 | 225 => 62 | 224 => 63 | 267 => 64 | 266 => 51 | 314 => 73 | n => n, fun | 9 => 9 | 3 => 3 | 4 => 4 | 5 => 5 | 46 => 83 | 146 => 106 | 51 => 105 | n => n, fun | 1 => 2 | n => n⟩
theorem Tryd.lays219 : Go.Proofs.Lays.n219 Tryd.prog Tryd.lays219_ren := {
  mixed := by kernel_rfl
  f217 := Tryd.func37.trans (congrArg some (by kernel_rfl))
  f219 := Tryd.func55.trans (congrArg some (by kernel_rfl))
  f224 := Tryd.func63.trans (congrArg some (by kernel_rfl))
  f225 := Tryd.func62.trans (congrArg some (by kernel_rfl))
  f266 := Tryd.func51.trans (congrArg some (by kernel_rfl))
  f267 := Tryd.func64.trans (congrArg some (by kernel_rfl))
  f314 := Tryd.func73.trans (congrArg some (by kernel_rfl))
  t3 := Tryd.underlying3
  a3 := Tryd.isAgg3
  z3 := Tryd.sizeOf3
  v3 := Tryd.zeroValue3
  t4 := Tryd.underlying4
  a4 := Tryd.isAgg4
  z4 := Tryd.sizeOf4
  v4 := Tryd.zeroValue4
  t5 := Tryd.underlying5
  a5 := Tryd.isAgg5
  z5 := Tryd.sizeOf5
  v5 := Tryd.zeroValue5
  t9 := Tryd.underlying9
  a9 := Tryd.isAgg9
  z9 := Tryd.sizeOf9
  v9 := Tryd.zeroValue9
  t46 := Tryd.underlying83
  a46 := Tryd.isAgg83
  z46 := Tryd.sizeOf83
  v46 := Tryd.zeroValue83
  t51 := Tryd.underlying105
  a51 := Tryd.isAgg105
  z51 := Tryd.sizeOf105
  v51 := Tryd.zeroValue105
  t146 := Tryd.underlying106
  a146 := Tryd.isAgg106
  z146 := Tryd.sizeOf106
  v146 := Tryd.zeroValue106
  g1 := by kernel_rfl }
open Go.RowKit Go.Lib in
/-- internal/stringslite.Index (what strings.Index calls) AT A substr OF ONE BYTE c: IT RETURNS 'Lib.indexByte s c'; the world is as it was. (LAID: no walk: one application.) -/
theorem Tryd.stringslite_Index_one (s : ByteArray) (c : UInt8) (w : World) :
    Calls Tryd.prog 55 #[.string s, .string ⟨#[c]⟩] w fun e w' => e = .returned (.int .i64 (Lib.indexByte s.data.toList c)) ∧ w' = w := Any.stringslite_Index_one Tryd.lays219 s c w
end Go.Proofs
/- The engine's rules for arrays; what the listed variables hold. -/
namespace Go.Proofs.YtjaeiiiniohloaaDoor
open Go.RowKit
set_option maxRecDepth 100000
theorem vLoad_arr {P : Program} {T e : TypeId} {n N b o : Nat} {w : World} {l : List Value} (hd : P.underlying T = some (.array n e)) (hs : (P.info? T).map (·.size) = some N) (h : ldN w b o N = some l) :
    vLoad P T (.pointer (some ⟨b, o, none⟩)) w = .ok (.value (.agg l.toArray)) w := by
  obtain ⟨inf, hq, hz⟩ := Option.map_eq_some_iff.1 hs
  have hagg : (isAgg T).run P w = .ok true w := by
    unfold isAgg
    rw [Sem.run_bind, run_underlying hd w]
    simp
  have hl := run_loadCells_ldN P w b N o 0 l #[] h
  simp [vLoad, Instr.loadAt, Instr.sureAddr, loadVar, Sem.run_bind, hagg, sizeOf, typeInfo, hq, hz, loadCells, hl]
theorem ldN_of {w : World} {b : Nat} : ∀ (l : List Value) (o : Nat), (∀ i v, l[i]? = some v → w.cell? ⟨b, o + i, none⟩ = some v) → ldN w b o l.length = some l
  | [], o, _ => rfl
  | v :: l, o, h => by
    have h0 := h 0 v rfl
    rw [Nat.add_zero] at h0
    rw [List.length_cons, ldN, h0, ldN_of l (o + 1) fun i u hu => by rw [show o + 1 + i = o + (i + 1) by omega]; exact h (i + 1) u hu]
theorem vIndex_arr {P : Program} {T e : TypeId} {n sz : Nat} {fs : Array Field} {w : World} {cs : Array Value} {k : IntKind} {i : Nat} (hd : P.underlying T = some (.array n e)) (he : P.underlying e = some (.struct fs)) (hs : (P.info? e).map (·.size) = some sz) (hi : i < n) :
    vIndex P T (.agg cs) (.int k i) w = .ok (.value (.agg (cs.extract (i * sz) (i * sz + sz)))) w := by
  obtain ⟨inf, hq, hz⟩ := Option.map_eq_some_iff.1 hs
  have hagg : (isAgg e).run P w = .ok true w := by
    unfold isAgg
    rw [Sem.run_bind, run_underlying he w]
    simp
  have h2 : (0 : Int) ≤ i ∧ (i : Int) < n := by omega
  simp [vIndex, Instr.index, asIntOf, Sem.run_bind, run_underlying hd, h2, sizeOf, typeInfo, hq, hz, part, hagg]
  omega
theorem vIndex_arr1 {P : Program} {T e : TypeId} {n : Nat} {k2 : IntKind} {w : World} {cs : Array Value} {k : IntKind} {i : Nat} {v : Value} (hd : P.underlying T = some (.array n e)) (he : P.underlying e = some (.int k2)) (hs : (P.info? e).map (·.size) = some 1) (hi : i < n) (hv : cs[i]? = some v) :
    vIndex P T (.agg cs) (.int k i) w = .ok (.value v) w := by
  obtain ⟨inf, hq, hz⟩ := Option.map_eq_some_iff.1 hs
  have hagg : (isAgg e).run P w = .ok false w := by
    unfold isAgg
    rw [Sem.run_bind, run_underlying he w]
    simp
  have h2 : (0 : Int) ≤ i ∧ (i : Int) < n := by omega
  simp [vIndex, Instr.index, asIntOf, Sem.run_bind, run_underlying hd, h2, sizeOf, typeInfo, hq, hz, part, hagg, hv]
  omega
theorem flat_piece {α : Type} {enc : α → List Value} {sz : Nat} (he : ∀ x, (enc x).length = sz) {x : α} : ∀ (L : List α) (i : Nat), L[i]? = some x → ((L.flatMap enc).drop (i * sz)).take sz = enc x
  | [], i, h => by simp at h
  | y :: r, i, h => by
    rw [List.flatMap_cons]
    cases i with
    | zero =>
      simp only [List.getElem?_cons_zero, Option.some.injEq] at h
      subst h
      rw [Nat.zero_mul, List.drop_zero, ← he y, List.take_left']
      rfl
    | succ i =>
      rw [List.getElem?_cons_succ] at h
      rw [Nat.succ_mul, Nat.add_comm, ← List.drop_drop, ← he y, List.drop_left' rfl, he y]
      exact flat_piece he r i h
def encFm (f : Fm) : List Value := [.int .i64 f.kind, .string (toBA f.word), .string (toBA f.fields), .int .i64 f.nums]
def fmCells : List Value := fmT.flatMap encFm
theorem fmCells_len : fmCells.length = 80 := by decide
theorem fm_index {f : Fm} {i : Nat} (h : fmT[i]? = some f) (w : World) : vIndex Tryd.prog 70 (.agg fmCells.toArray) (.int .i64 i) w = .ok (.value (.agg (encFm f).toArray)) w := by
  have hi : i < 20 := by have := (List.getElem?_eq_some_iff.1 h).1; exact this
  rw [vIndex_arr Tryd.underlying70 Tryd.underlying45 (by kernel_rfl) hi]
  rw [List.extract_toArray, List.extract_eq_take_drop, Nat.add_sub_cancel_left]
  unfold fmCells
  rw [flat_piece (sz := 4) (fun _ => rfl) fmT i h]
/-- make([]T, l, c). -/
theorem vMakeSlice_lc {P : Program} {T : TypeId} {w : World} {e : TypeId} {size bytes : Nat} {z : Value} {l c : Int} (hI : sliceI P T = some (e, size, bytes)) (hz : zeroV P e = some z) (h0 : 0 ≤ l) (h1 : l ≤ c) (h2 : bytes * c ≤ 281474976710656) (h3 : c ≤ 9223372036854775807) :
    vMakeSlice P T (.int .i64 l) (.int .i64 c) w = .ok (.value (.slice (some ⟨w.heap.size, 0, none⟩) l.toNat c.toNat)) (w.alloc (.cells (madeCells z.cells (c.toNat * size)) e)) := by
  obtain ⟨inf, z', hT, hi, hz', rfl, rfl, hzs, hpos⟩ := sliceI_is hI
  have : z' = z := by unfold zeroV at hz; rw [hi] at hz; rw [show (some inf).bind (·.zero) = inf.zero from rfl, hz'] at hz; injection hz
  subst this
  have hr := run_make (P := P) w T e inf z' hT hi hz' .i64 .i64 l c h0 h1 h2 h3
  simp [vMakeSlice, hr]
theorem vIndexAddr_arr {P : Program} {T e : TypeId} {n sz b o : Nat} {k : IntKind} {i : Int} {w : World} (hd : P.underlying T = some (.array n e)) (hs : (P.info? e).map (·.size) = some sz) (h0 : 0 ≤ i) (h1 : i < n) :
    vIndexAddr P T (.pointer (some ⟨b, o, none⟩)) (.int k i) w = .ok (.value (.pointer (some ⟨b, o + i.toNat * sz, none⟩))) w := by
  obtain ⟨inf, hq, hz⟩ := Option.map_eq_some_iff.1 hs
  simp [vIndexAddr, Instr.indexAt, Instr.sureAddr, asIntOf, Sem.run_bind, run_underlying hd w, h0, h1, sizeOf, typeInfo, hq, hz, addr_add]
theorem vSlice_arr {P : Program} {T e : TypeId} {n sz b o : Nat} {w : World} (hd : P.underlying T = some (.array n e)) (hs : (P.info? e).map (·.size) = some sz) :
    vSlice P T (.pointer (some ⟨b, o, none⟩)) none none none w = .ok (.value (.slice (some ⟨b, o, none⟩) n n)) w := by
  obtain ⟨inf, hq, hz⟩ := Option.map_eq_some_iff.1 hs
  simp [vSlice, Instr.sliceAt, Instr.sureAddr, Instr.sliceBounds, Sem.run_bind, run_underlying hd w, sizeOf, typeInfo, hq, hz]
  exact fun _ => add_zero _
theorem make_own (w : World) (base : Nat) (e : TypeId) (z : Value) (c : Nat) (hb : base ≤ w.heap.size) (hc : c ≤ maxLen) :
    (w.alloc (.cells (madeCells #[z] (c * 1)) e)).ownsRow base e 1 (.slice (some ⟨w.heap.size, 0, none⟩) 0 c) 0 [] :=
  ⟨rfl, .inr ⟨w.heap.size, c, _, rfl, hb, heap_alloc_new w _, Nat.zero_le _, hc, by simp [madeCells], by simp⟩⟩
/-- What the listed variables hold. -/
structure Laid (w : World) : Prop where
  size : 6 ≤ w.heap.size
  forms : ∀ i v, fmCells[i]? = some v → w.cell? ⟨0, i, none⟩ = some v
  hex : ∀ i : Nat, i < 16 → w.cell? ⟨1, i, none⟩ = some (.int .u8 (hexd i : Int))
  pow : Lib.TabIs Tryd.prog w "internal/strconv.uint64pow10" .u64 Lib.pow10Tab
theorem Laid.below {B : Nat} {w w' : World} (h : Laid w) (hb : Below B w w') (hB : 6 ≤ B) : Laid w' :=
  ⟨Nat.le_trans h.size hb.size, fun i v hv => (hb.cell (p := ⟨0, i, none⟩) (by show 0 < B; omega)).trans (h.forms i v hv), fun i hi => (hb.cell (p := ⟨1, i, none⟩) (by show 1 < B; omega)).trans (h.hex i hi), by
    have hg : Tryd.prog.globalNamed "internal/strconv.uint64pow10" = some 3 := by kernel_rfl
    have h2 := h.pow
    unfold Lib.TabIs World.var? at h2 ⊢
    rw [hg] at h2 ⊢
    simp only [Option.bind_some] at h2 ⊢
    rw [hb.block 3 (by omega)]
    exact h2⟩
theorem Laid.load {w : World} (h : Laid w) : vLoad Tryd.prog 70 (.pointer (some ⟨0, 0, none⟩)) w = .ok (.value (.agg fmCells.toArray)) w :=
  vLoad_arr Tryd.underlying70 (by kernel_rfl) (ldN_of (b := 0) fmCells 0 (fun i v hv => by rw [Nat.zero_add]; exact h.forms i v hv))
end Go.Proofs.YtjaeiiiniohloaaDoor
