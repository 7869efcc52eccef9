/- Plain: laws of tokens and of the joined text. -/
import Derived.Test.YthadhnmbddddbaaLexK
import Derived.Test.YthadhnmbddddbaaLexL
namespace Go.Proofs.Ythadhnmbddddbaa
open Go.RowKit
def kt (t : Tk) : Int × ByteArray := (t.kind, t.text)
theorem alike_iff {a b : List Tk} : alike a b = true ↔ a.map kt = b.map kt := by
  unfold alike
  rw [Bool.and_eq_true, decide_eq_true_eq, List.all_eq_true]
  constructor
  · rintro ⟨h1, h2⟩
    apply List.ext_getElem?
    intro i
    rw [List.getElem?_map, List.getElem?_map]
    by_cases hi : i < a.length
    · have ha : a[i]? = some a[i] := List.getElem?_eq_getElem hi
      have hb : b[i]? = some (b[i]'(by omega)) := List.getElem?_eq_getElem (by omega)
      have h := h2 (a[i], b[i]'(by omega)) (List.mem_of_getElem? (i := i) (by rw [List.getElem?_zip_eq_some]; exact ⟨ha, hb⟩))
      simp only [Bool.and_eq_true, decide_eq_true_eq] at h
      rw [ha, hb]
      simp only [Option.map_some, kt, h.1, h.2]
    · rw [List.getElem?_eq_none (by omega), List.getElem?_eq_none (by omega)]
  · intro h
    have hl : a.length = b.length := by simpa using congrArg List.length h
    refine ⟨hl, fun p hp => ?_⟩
    obtain ⟨i, hi⟩ := List.mem_iff_getElem?.1 hp
    rw [List.getElem?_zip_eq_some] at hi
    have e := congrArg (fun l => l[i]?) h
    simp only [List.getElem?_map, hi.1, hi.2, Option.map_some, Option.some.injEq, kt, Prod.mk.injEq] at e
    simp [e.1, e.2]
theorem ends_kt {t u : Tk} (h : kt t = kt u) : endsB t = endsB u := by
  simp only [kt, Prod.mk.injEq] at h
  unfold endsB
  rw [h.1, h.2]
theorem joinB_kt : ∀ {a b : List Tk}, a.map kt = b.map kt → joinB a = joinB b
  | [], [], _ => rfl
  | [], _ :: _, h => by cases h
  | _ :: _, [], h => by cases h
  | t :: a, u :: b, h => by
    rw [List.map_cons, List.map_cons, List.cons.injEq] at h
    have h1 : t.text = u.text := by have := h.1; simp only [kt, Prod.mk.injEq] at this; exact this.2
    have h2 : (a = []) = (b = []) := by
      apply propext
      have := congrArg List.length h.2
      simp only [List.length_map] at this
      constructor
      · rintro rfl; exact List.length_eq_zero_iff.1 this.symm
      · rintro rfl; exact List.length_eq_zero_iff.1 this
    rw [joinB, joinB, joinB_kt h.2, ends_kt h.1, h1]
    simp only [h2]
def toks (s : ByteArray) (T : List (Nat × Nat × Nat)) : List Tk := T.map (tokOf s) ++ [endTok s]
theorem scanE_ok {s : ByteArray} {T : List (Nat × Nat × Nat)} (h : s.size ≤ 32768) (hT : lexR 0 (bs s) = .ok T) : scanE s = (0, 0, toks s T) := by
  unfold scanE; rw [if_neg (by omega), hT]; rfl
theorem scanE_err {s : ByteArray} {e : Nat} (h : s.size ≤ 32768) (hT : lexR 0 (bs s) = .error e) : scanE s = (1, (e : Int), []) := by
  unfold scanE; rw [if_neg (by omega), hT]
theorem cut_toks {s : ByteArray} {T : List (Nat × Nat × Nat)} (hT : lexR 0 (bs s) = .ok T) : cutT (toks s T) = T.map (tokOf s) := by
  have hg := lexR_good _ _ _ _ (Nat.le_refl _) hT
  unfold cutT toks
  have hall : ∀ t ∈ T.map (tokOf s), (!decide (t.kind = 0)) = true := by
    intro t ht
    obtain ⟨p, hp, rfl⟩ := List.mem_map.1 ht
    have := (good_kind (hg p hp).2.2.2).1
    simp [tokOf]; omega
  rw [List.takeWhile_append_of_pos hall, List.takeWhile_cons_of_neg (by simp [endTok]), List.append_nil]
theorem bs_tok (s : ByteArray) (t : Nat × Nat × Nat) : bs (tokOf s t).text = ((bs s).drop t.2.1).take t.2.2 := by
  show bs (s.extract t.2.1 (t.2.1 + t.2.2)) = _
  rw [bs_extract, Nat.add_sub_cancel_left]
/-- What is written out is read again. -/
theorem join_lex : ∀ (M : List Tk) (at_ : Nat), (∀ t ∈ M, ∃ k : Nat, t.kind = k ∧ good k (bs t.text)) →
    ∃ T', lexR at_ (joinB M) = .ok T' ∧ T'.length = M.length ∧ ∀ (i : Nat) t p, M[i]? = some t → T'[i]? = some p → t.kind = p.1 ∧ at_ ≤ p.2.1 ∧ ((joinB M).drop (p.2.1 - at_)).take p.2.2 = bs t.text
  | [], at_, _ => ⟨[], rfl, rfl, fun i t p h => by simp at h⟩
  | t :: r, at_, h => by
    obtain ⟨k, hk, hg⟩ := h t (by simp)
    have cons_b : ∀ b, blankB b = true → joinB (t :: r) = bs t.text ++ b :: joinB r → ∃ T', lexR at_ (joinB (t :: r)) = .ok T' ∧ T'.length = (t :: r).length ∧ ∀ (i : Nat) u p, (t :: r)[i]? = some u → T'[i]? = some p → u.kind = p.1 ∧ at_ ≤ p.2.1 ∧ ((joinB (t :: r)).drop (p.2.1 - at_)).take p.2.2 = bs u.text := by
      intro b hb he
      obtain ⟨T', h1, h2, h3⟩ := join_lex r (at_ + (bs t.text).length + 1) fun u hu => h u (by simp [hu])
      refine ⟨(k, at_, (bs t.text).length) :: T', ?_, by simp [h2], fun i u p hi hp => ?_⟩
      · rw [he, lexR_tok_blank hg hb, h1]; rfl
      · cases i with
        | zero =>
          simp only [List.getElem?_cons_zero, Option.some.injEq] at hi hp
          subst hi hp
          exact ⟨hk, Nat.le_refl _, by rw [he]; simp⟩
        | succ i =>
          simp only [List.getElem?_cons_succ] at hi hp
          obtain ⟨g1, g2, g3⟩ := h3 i u p hi hp
          refine ⟨g1, by omega, ?_⟩
          rw [he, show p.2.1 - at_ = (bs t.text).length + (1 + (p.2.1 - (at_ + (bs t.text).length + 1))) from by omega, ← List.drop_drop, List.drop_left, Nat.add_comm 1, List.drop_succ_cons]
          exact g3
    rw [joinB] at cons_b ⊢
    by_cases he : endsB t = true
    · rw [if_pos he] at cons_b ⊢
      exact cons_b 10 (by decide) rfl
    · rw [if_neg he] at cons_b ⊢
      by_cases hr : r = []
      · subst hr
        rw [if_pos rfl, joinB, List.append_nil, List.append_nil]
        refine ⟨_, lexR_tok_end hg at_, rfl, fun i u p hi hp => ?_⟩
        cases i with
        | zero =>
          simp only [List.getElem?_cons_zero, Option.some.injEq] at hi hp
          subst hi hp
          exact ⟨hk, Nat.le_refl _, by simp⟩
        | succ i => simp at hi
      · rw [if_neg hr] at cons_b ⊢
        exact cons_b 32 (by decide) rfl
theorem joins_law {s t : ByteArray} {T : List (Nat × Nat × Nat)} (hT : lexR 0 (bs s) = .ok T) (ht : bs t = joinB (T.map (tokOf s))) :
    ∃ T', lexR 0 (bs t) = .ok T' ∧ (toks s T).map kt = (toks t T').map kt ∧ joinB (T'.map (tokOf t)) = joinB (T.map (tokOf s)) := by
  have hg := lexR_good _ _ _ _ (Nat.le_refl _) hT
  obtain ⟨T', h1, h2, h3⟩ := join_lex (T.map (tokOf s)) 0 (by
    intro u hu
    obtain ⟨p, hp, rfl⟩ := List.mem_map.1 hu
    refine ⟨p.1, rfl, ?_⟩
    rw [bs_tok]
    exact (hg p hp).2.2.2)
  rw [← ht] at h1 h3
  have hm : (T.map (tokOf s)).map kt = (T'.map (tokOf t)).map kt := by
    apply List.ext_getElem?
    intro i
    rw [List.getElem?_map, List.getElem?_map, List.getElem?_map, List.getElem?_map]
    by_cases hi : i < T.length
    · have ha : T[i]? = some T[i] := List.getElem?_eq_getElem hi
      have hb : T'[i]? = some (T'[i]'(by rw [h2, List.length_map]; exact hi)) := List.getElem?_eq_getElem (by rw [h2, List.length_map]; exact hi)
      obtain ⟨g1, g2, g3⟩ := h3 i (tokOf s T[i]) _ (by rw [List.getElem?_map, ha]; rfl) hb
      rw [ha, hb]
      simp only [Option.map_some, Option.some.injEq, kt, Prod.mk.injEq]
      refine ⟨g1, bs_inj ?_⟩
      rw [Nat.sub_zero] at g3
      rw [bs_tok t, g3]
    · rw [List.getElem?_eq_none (by omega), List.getElem?_eq_none (by rw [h2, List.length_map]; omega)]; rfl
  refine ⟨T', h1, ?_, (joinB_kt hm).symm⟩
  unfold toks
  rw [List.map_append, List.map_append, hm]
  rfl
/-- The length of the joined text. -/
theorem joinB_sum : ∀ L : List Tk, (joinB L).length ≤ (L.map fun t => t.text.size).sum + L.length
  | [] => by simp [joinB]
  | t :: r => by
    have := joinB_sum r
    have h3 : ((if endsB t then [10] else if r = [] then [] else [32]) : List Nat).length ≤ 1 := by
      split
      · simp
      · split <;> simp
    rw [joinB, List.length_append, List.length_append, bs_len, List.map_cons, List.sum_cons, List.length_cons]
    omega
theorem toks_sum {s : ByteArray} {T : List (Nat × Nat × Nat)} (hT : lexR 0 (bs s) = .ok T) : (joinB (T.map (tokOf s))).length ≤ 2 * s.size ∧ T.length ≤ s.size ∧ ∀ t ∈ toks s T, t.text.size ≤ s.size := by
  have hg := lexR_good _ _ _ _ (Nat.le_refl _) hT
  have hs := lexR_sum _ _ _ _ (Nat.le_refl _) hT
  have hl := lexR_len _ _ _ _ (Nat.le_refl _) hT
  rw [bs_len] at hs hl
  have hz : ∀ p ∈ T, (tokOf s p).text.size = p.2.2 := fun p hp => by
    have := (hg p hp).2.2.1
    rw [bs_len] at this
    rw [← bs_len, bs_tok, List.length_take, List.length_drop, bs_len]; omega
  have he : ((T.map (tokOf s)).map fun t => t.text.size) = T.map (·.2.2) := by
    rw [List.map_map]
    exact List.map_congr_left fun p hp => hz p hp
  have := joinB_sum (T.map (tokOf s))
  rw [he, List.length_map] at this
  refine ⟨by omega, hl, fun t ht => ?_⟩
  unfold toks at ht
  rcases List.mem_append.1 ht with ht | ht
  · obtain ⟨p, hp, rfl⟩ := List.mem_map.1 ht
    rw [hz p hp]
    have := (hg p hp).2.2.1
    rw [bs_len] at this; omega
  · obtain rfl : t = endTok s := by simpa using ht
    simp [endTok]
/-! Blanks. -/
theorem toks_kt {s s' : ByteArray} {T T' : List (Nat × Nat × Nat)} (h : T.length = T'.length) (hi : ∀ (i : Nat) p p', T[i]? = some p → T'[i]? = some p' → p.1 = p'.1 ∧ ((bs s).drop p.2.1).take p.2.2 = ((bs s').drop p'.2.1).take p'.2.2) : (toks s T).map kt = (toks s' T').map kt := by
  unfold toks
  rw [List.map_append, List.map_append]
  have hm : (T.map (tokOf s)).map kt = (T'.map (tokOf s')).map kt := by
    apply List.ext_getElem?
    intro i
    rw [List.getElem?_map, List.getElem?_map, List.getElem?_map, List.getElem?_map]
    by_cases hil : i < T.length
    · have ha : T[i]? = some T[i] := List.getElem?_eq_getElem hil
      have hb : T'[i]? = some (T'[i]'(by omega)) := List.getElem?_eq_getElem (by omega)
      obtain ⟨g1, g2⟩ := hi i _ _ ha hb
      rw [ha, hb]
      simp only [Option.map_some, Option.some.injEq, kt, Prod.mk.injEq]
      exact ⟨by simp [tokOf, g1], bs_inj (by rw [bs_tok, bs_tok, g2])⟩
    · rw [List.getElem?_eq_none (by omega), List.getElem?_eq_none (by omega)]; rfl
  rw [hm]
  rfl
theorem same_kt {s s' : ByteArray} {T : List (Nat × Nat × Nat)} (hT : lexR 0 (bs s) = .ok T) (r : List Nat) (hs : bs s' = bs s ++ r) : (toks s T).map kt = (toks s' T).map kt := by
  have hg := lexR_good _ _ _ _ (Nat.le_refl _) hT
  refine toks_kt rfl fun i p p' h1 h2 => ?_
  rw [h1] at h2
  injection h2 with h2
  subst h2
  refine ⟨rfl, ?_⟩
  have := (hg p (List.mem_of_getElem? h1)).2.2.1
  rw [hs, List.drop_append_of_le_length (by omega), List.take_append_of_le_length (by rw [List.length_drop]; omega)]
theorem front_kt {s s' : ByteArray} {T : List (Nat × Nat × Nat)} {b : Nat} (hs : bs s' = b :: bs s) : (toks s T).map kt = (toks s' (T.map fun t => (t.1, t.2.1 + 1, t.2.2))).map kt := by
  refine toks_kt (by simp) fun i p p' h1 h2 => ?_
  rw [List.getElem?_map, h1] at h2
  simp only [Option.map_some, Option.some.injEq] at h2
  subst h2
  exact ⟨rfl, by rw [hs, List.drop_succ_cons]⟩
end Go.Proofs.Ythadhnmbddddbaa
