/- Arguments: a byte, a row of bytes. -/
import Derived.Test.YthadhnmbddddbaaWritesR
namespace Go.Proofs.Ythadhnmbddddbaa
open Go.ChangeShapes Go.WideShapes Go.ChangeAt Go.RowKit Go.Joins Go.Deep
theorem u8_wf {n : Int} (h : (Lit.int .u8 n).wf = true) : 0 ≤ n ∧ n ≤ 255 := by
  have e0 : IntKind.u8.min = 0 := by decide
  have e1 : IntKind.u8.max = 255 := by decide
  simp [Lit.wf, e0, e1] at h
  exact h
def encB (n : Nat) : List Value := [.int .u8 n]
section
variable {H : Type} {enc : TypeId × Value → H} {W : World} {base n : Nat} {sp : Nat → Bool} {held : Bool}
theorem open_bytes {cs : List Value} {y : DataW H × List MemPlace} (h : DataW.trod enc Try.prog W base sp held n 36 cs = some y) :
    ∃ (A : Option Addr) (c : Nat) (L : List Nat), cs = [.slice A L.length c] ∧ Arr W A 1 (L.map encB) ∧ L.length ≤ maxLen ∧ ∀ x ∈ L, x < 256 := by
  rcases open_slice Try.underlying36 h with ⟨rfl, _⟩ | ⟨a, len, cap, m, n', D, Pl, rfl, hb, hl, hm, hmm, hx, hi⟩
  · exact ⟨none, 0, [], rfl, fun h => by simp at h, by simp, fun x h => by simp at h⟩
  · have hC : Try.prog.cellsOf 5 = 1 := by kernel_rfl
    obtain ⟨L, h1, h2, h3⟩ := arr_of (enc := encB) (sz := 1) (n := len) (W := W) (a := a) (fun x => x < 256) (fun x => ⟨_, rfl⟩) fun i him => by
      obtain ⟨cs', hc', ht⟩ := hi i (by rw [hmm]; split <;> omega)
      rw [hC] at hc'
      obtain ⟨_, hcl, hat⟩ := World.cells?_some hc'
      match cs', hcl with
      | [v], _ =>
        obtain ⟨z, ez, _, hwf⟩ := DataW.trod_int Try.underlying5 ht
        simp only [List.cons.injEq, and_true] at ez
        subst ez
        have hz := u8_wf hwf
        refine ⟨z.toNat, by omega, fun j u hu => ?_⟩
        cases j with
        | zero =>
          simp only [encB, List.getElem?_cons_zero, Option.some.injEq] at hu
          subst hu
          have h0 := hat 0 (by omega)
          rw [Go.Deep.add_add] at h0
          rw [h0]
          simp only [List.getElem?_cons_zero, Option.some.injEq, Value.int.injEq, true_and]
          omega
        | succ j => simp [encB] at hu
    exact ⟨some a, cap, L, by rw [h1], h2, by omega, h3⟩
end
end Go.Proofs.Ythadhnmbddddbaa
