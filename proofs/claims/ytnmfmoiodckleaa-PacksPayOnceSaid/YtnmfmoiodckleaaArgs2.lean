/- Arguments: a list of calls. -/
import Derived.Test.YtnmfmoiodckleaaArgs
import Derived.Test.YtnmfmoiodckleaaRuns
namespace Go.Proofs.Ytnmfmoiodckleaa
open Go.ChangeShapes Go.WideShapes Go.ChangeAt Go.RowKit Go.Joins Go.Deep
section
variable {H : Type} {enc : TypeId × Value → H} {W : World} {base n : Nat} {sp : Nat → Bool} {held : Bool}
theorem open_ops {cs : List Value} {y : DataW H × List MemPlace} (h : DataW.trod enc Try.prog W base sp held n 36 cs = some y) :
    ∃ (A : Option Addr) (c : Nat) (L : List COp), cs = [.slice A L.length c] ∧ Arr W A 4 (L.map encOp) ∧ L.length ≤ maxLen := by
  rcases open_slice_fields Try.underlying36 Try.underlying38 (by kernel_rfl) (by kernel_rfl) h with ⟨rfl, _⟩ | ⟨a, len, cap, m, D, Pl, rfl, _, hl, hc, hm, _, hi⟩
  · exact ⟨none, 0, [], rfl, fun h => by simp at h, by simp⟩
  · obtain ⟨L, h1, h2⟩ := arr_of (enc := encOp) (sz := 4) (n := len) (W := W) (a := a) (fun x => ⟨_, rfl⟩) fun i him => by
      obtain ⟨ys, k, _, _, _, hf⟩ := hi i (by rw [hm]; split <;> omega)
      obtain ⟨v0, y0, c0, _, t0⟩ := hf 0 _ rfl
      obtain ⟨v1, y1, c1, _, t1⟩ := hf 1 _ rfl
      obtain ⟨v2, y2, c2, _, t2⟩ := hf 2 _ rfl
      obtain ⟨v3, y3, c3, _, t3⟩ := hf 3 _ rfl
      obtain ⟨a0, e0, _⟩ := DataW.trod_int Try.underlying3 t0
      obtain ⟨a1, e1, _⟩ := DataW.trod_int Try.underlying3 t1
      obtain ⟨a2, e2, _⟩ := DataW.trod_int Try.underlying3 t2
      obtain ⟨a3, e3, _⟩ := DataW.trod_string Try.underlying9 t3
      simp only [List.cons.injEq, and_true] at e0 e1 e2 e3
      subst e0 e1 e2 e3
      refine ⟨⟨a0, a1, a2, a3⟩, fun j v hv => ?_⟩
      match j, hv with
      | 0, hv => simp only [encOp, List.getElem?_cons_zero, Option.some.injEq] at hv; subst hv; exact c0
      | 1, hv => simp only [encOp, List.getElem?_cons_succ, List.getElem?_cons_zero, Option.some.injEq] at hv; subst hv; exact c1
      | 2, hv => simp only [encOp, List.getElem?_cons_succ, List.getElem?_cons_zero, Option.some.injEq] at hv; subst hv; exact c2
      | 3, hv => simp only [encOp, List.getElem?_cons_succ, List.getElem?_cons_zero, Option.some.injEq] at hv; subst hv; exact c3
      | j + 4, hv => simp [encOp] at hv
    exact ⟨some a, cap, L, by rw [h1], h2, by omega⟩
end
end Go.Proofs.Ytnmfmoiodckleaa
