/- LexWrites: for every input it returns true and leaves its argument as it was. No condition. -/
import Derived.Test.YthadhnmbddddbaaWrites
import Derived.Test.YthadhnmbddddbaaRow
namespace Go.Proofs.Ythadhnmbddddbaa
open Go.ChangeShapes Go.WideShapes Go.ChangeAt Go.RowKit Go.Joins Go.Deep
set_option maxRecDepth 100000
theorem list_of {α : Type} {P : Nat → α → Prop} : ∀ n, (∀ i, i < n → ∃ x, P i x) → ∃ L : List α, L.length = n ∧ ∀ i x, L[i]? = some x → P i x
  | 0, _ => ⟨[], rfl, fun i x h => by simp at h⟩
  | n + 1, h => by
    obtain ⟨L, h1, h2⟩ := list_of n fun i hi => h i (by omega)
    obtain ⟨x, hx⟩ := h n (by omega)
    refine ⟨L ++ [x], by simp [h1], fun i y hy => ?_⟩
    by_cases hi : i < n
    · rw [List.getElem?_append_left (by omega)] at hy; exact h2 i y hy
    · rw [List.getElem?_append_right (by omega)] at hy
      have : i - L.length = 0 := by have := (List.getElem?_eq_some_iff.1 hy).1; simp at this; omega
      rw [this] at hy
      simp only [List.getElem?_cons_zero, Option.some.injEq] at hy
      subst hy
      have : i = n := by omega
      subst this; exact hx
theorem arr_of {α : Type} {enc : α → List Value} {sz n : Nat} {W : World} {a : Addr} (Q : α → Prop) (hne : ∀ x, ∃ v, (enc x)[0]? = some v) (h : ∀ i, i < n → ∃ x : α, Q x ∧ ∀ j v, (enc x)[j]? = some v → W.cell? (a.add (i * sz + j)) = some v) :
    ∃ L : List α, L.length = n ∧ Arr W (some a) sz (L.map enc) ∧ ∀ x ∈ L, Q x := by
  obtain ⟨L, h1, h2⟩ := list_of n h
  refine ⟨L, h1, fun hpos => ?_, fun x hx => by obtain ⟨i, hi⟩ := List.mem_iff_getElem?.1 hx; exact (h2 i x hi).1⟩
  rw [List.length_map] at hpos
  obtain ⟨b, o, s⟩ := a
  obtain ⟨x, hx⟩ : ∃ x, L[0]? = some x := ⟨_, List.getElem?_eq_getElem hpos⟩
  obtain ⟨v, hv⟩ := hne x
  have hc := (h2 0 x hx).2 0 v hv
  rw [Nat.zero_mul, Nat.add_zero] at hc
  cases s with
  | some s =>
    have e : Addr.add ⟨b, o, some s⟩ 0 = ⟨b, o, some s⟩ := if_pos rfl
    rw [e] at hc
    simp only [World.cell?] at hc
    split at hc <;> simp at hc
  | none =>
    rw [addr_add, Nat.add_zero] at hc
    refine ⟨b, o, rfl, ?_, fun i l hl j u hu => ?_⟩
    · simp only [World.cell?] at hc
      cases hb : W.heap[b]? with
      | none => rw [hb] at hc; cases hc
      | some ob => exact (Array.getElem?_eq_some_iff.1 hb).1
    · rw [List.getElem?_map] at hl
      cases hy : L[i]? with
      | none => rw [hy] at hl; cases hl
      | some y =>
        rw [hy] at hl
        simp only [Option.map_some, Option.some.injEq] at hl
        subst hl
        have := (h2 i y hy).2 j u hu
        rw [addr_add] at this
        rw [Nat.add_assoc]; exact this
section
variable {H : Type} {enc : TypeId × Value → H} {W : World} {base n : Nat} {sp : Nat → Bool} {held : Bool}
theorem open_toks {cs : List Value} {y : DataW H × List MemPlace} (h : DataW.trod enc Try.prog W base sp held n 23 cs = some y) :
    ∃ (v : Value) (L : List Tk), cs = [v] ∧ TokArr W v L ∧ L.length ≤ maxLen ∧ ∀ t ∈ L, t.text.size ≤ maxLen := by
  rcases open_slice_fields Try.underlying23 Try.underlying32 (by kernel_rfl) (by kernel_rfl) h with ⟨rfl, _⟩ | ⟨a, len, cap, m, D, Pl, rfl, _, hl, hc, hm, _, hi⟩
  · exact ⟨_, [], rfl, ⟨none, 0, rfl, Nat.le_refl _, fun h => by simp at h⟩, by simp, fun t h => by simp at h⟩
  · obtain ⟨L, h1, h2, h3⟩ := arr_of (enc := encTk) (sz := 4) (n := len) (W := W) (a := a) (fun t => t.text.size ≤ maxLen) (fun x => ⟨_, rfl⟩) fun i him => by
      obtain ⟨ys, k, _, _, _, hf⟩ := hi i (by rw [hm]; split <;> omega)
      obtain ⟨v0, y0, c0, _, t0⟩ := hf 0 _ rfl
      obtain ⟨v1, y1, c1, _, t1⟩ := hf 1 _ rfl
      obtain ⟨v2, y2, c2, _, t2⟩ := hf 2 _ rfl
      obtain ⟨v3, y3, c3, _, t3⟩ := hf 3 _ rfl
      obtain ⟨a0, e0, _⟩ := DataW.trod_int Try.underlying3 t0
      obtain ⟨a1, e1, _⟩ := DataW.trod_int Try.underlying3 t1
      obtain ⟨a2, e2, _⟩ := DataW.trod_int Try.underlying3 t2
      obtain ⟨a3, e3, _, hs3⟩ := DataW.trod_string Try.underlying9 t3
      simp only [List.cons.injEq, and_true] at e0 e1 e2 e3
      subst e0 e1 e2 e3
      refine ⟨⟨a0, a1, a2, a3⟩, hs3, fun j v hv => ?_⟩
      match j, hv with
      | 0, hv => simp only [encTk, List.getElem?_cons_zero, Option.some.injEq] at hv; subst hv; exact c0
      | 1, hv => simp only [encTk, List.getElem?_cons_succ, List.getElem?_cons_zero, Option.some.injEq] at hv; subst hv; exact c1
      | 2, hv => simp only [encTk, List.getElem?_cons_succ, List.getElem?_cons_zero, Option.some.injEq] at hv; subst hv; exact c2
      | 3, hv => simp only [encTk, List.getElem?_cons_succ, List.getElem?_cons_zero, Option.some.injEq] at hv; subst hv; exact c3
      | j + 4, hv => simp [encTk] at hv
    exact ⟨_, L, by rw [← h1], ⟨some a, cap, rfl, by omega, h2⟩, by omega, h3⟩
end
theorem writes_lifted (os : Os) (started : os.Started) (H : Type) (enc : TypeId × Value → H) :
    ReturnsInHanded {} Try.checked os 4 .any (Rows.lexWritesSpec.pre6 enc Try.prog Try.f4 Rows.lexWritesRow.domain false) (Rows.lexWritesSpec.post enc Try.prog Try.f4 false true false false) := by
  refine returnsInHanded_of_change (C := Try.checked) ownNone started (by kernel_rfl) Try.func4
    (ChangeSpec.witness6 (enc := enc) (C := Try.checked) false ⟨#[], #[.slice none 0 0], []⟩ 8 (by kernel_rfl) (by kernel_rfl) (by kernel_rfl) (by kernel_rfl)) ?_
  intro W base args ds gs before hval0 hW hcnd _
  have hval : ∀ (j : Nat) t v, Try.f4.params[j]? = some t → args[j]? = some v → Value.okWide Try.prog W .any base t v := hval0
  have hW' := hW
  obtain ⟨p, q, hA0, hV, rfl, hfz, hnd⟩ := hW
  have hA : DataW.TrodAll enc Try.prog W 0 (fun _ => true) true Try.f4.params.toList args.toList ds p := hA0
  rw [Try.params4] at hA hval
  obtain ⟨v0, d0, rfl, rfl, h0⟩ := trodAll_one hA
  obtain ⟨a2, n2, cc2, rfl⟩ := okWide_slice Try.underlying23 (hval 0 _ _ rfl rfl)
  obtain ⟨fuel, h1⟩ := h0
  obtain ⟨v, L, e5, hT, hTn, hTz⟩ := open_toks h1
  injection e5 with e5
  subst e5
  unfold maxLen at hTn hTz
  exact row_close laidAll (by kernel_rfl) rfl (by kernel_rfl) Try.underlying4 hW' rfl rfl rfl (writes_any _ L W hT (by omega) (fun t ht => by have := hTz t ht; omega))
theorem lexWrites_holds : Rows.LexWritesSaid :=
  OpenClaim.holds_of_wide 4 Try.f4 rfl rfl rfl rfl rfl rfl rfl ⟨rfl, rfl, rfl, rfl, rfl⟩ rfl rfl rfl rfl rfl (by kernel_rfl) Try.func4 (by kernel_rfl)
    (of_decide_eq_true (by kernel_rfl)) (by unfold Func.isWrapper; first | (rw [if_pos (by decide +kernel)]; kernel_rfl) | (rw [if_neg (by decide +kernel)]; exact ⟨rfl, rfl⟩))
    (fun os started H enc _ => writes_lifted os started H enc)
end Go.Proofs.Ythadhnmbddddbaa
