/- PacksRuns: the walk. -/
import Derived.Test.YtnmfmoiodckleaaRefG
import Derived.Test.YtnmfmoiodckleaaCall
import Derived.Test.YtnmfmoiodckleaaArgs
namespace Go.Proofs.Ytnmfmoiodckleaa
open Go.RowKit
set_option maxRecDepth 100000
set_option linter.unusedSimpArgs false
theorem new_bd {name : ByteArray} {price P S : Int} {L : List Lvl} {T : List Inst} (h : newE name price P S L T = 0) : 1 ≤ P ∧ P ≤ 32 := by
  unfold newE at h
  by_cases hc : chk name price P S L = 0
  · have := chk_ok hc; omega
  · rw [if_pos hc] at h; exact absurd h hc
theorem new_inv {name : ByteArray} {price P S : Int} {L : List Lvl} {T : List Inst} (h : newE name price P S L T = 0) : Inv T (st0 P.toNat T.length) := by
  have hchk : chk name price P S L = 0 := by
    unfold newE at h
    by_cases hc : chk name price P S L = 0
    · exact hc
    · rw [if_pos hc] at h; exact absurd h hc
  have hT : chkT S T 0 T = 0 ∧ (T.length : Int) = P * S := by
    unfold newE at h
    rw [if_neg (by rw [hchk]; simp)] at h
    split at h
    · cases h
    · rename_i h2; exact ⟨h, Classical.not_not.1 h2⟩
  obtain ⟨hP1, hP2, hS1, hS2⟩ := chk_ok hchk
  have key : ∀ k, k ≤ T.length → chkT S T k (T.drop k) = 0 ∧ ∀ i x, i < k → T[i]? = some x → ¬ x.bad S i := by
    intro k
    induction k with
    | zero => exact fun _ => ⟨hT.1, fun i x hi => absurd hi (Nat.not_lt_zero _)⟩
    | succ k ih =>
      intro hk
      obtain ⟨h1, h2⟩ := ih (by omega)
      obtain ⟨t, ht⟩ : ∃ t, T[k]? = some t := ⟨_, List.getElem?_eq_getElem (by omega)⟩
      rw [chkT_step ht] at h1
      split at h1
      · cases h1
      · rename_i hb
        split at h1
        · cases h1
        · refine ⟨h1, fun i x hi hx => ?_⟩
          rcases Nat.lt_or_eq_of_le (Nat.lt_succ_iff.1 hi) with h3 | rfl
          · exact h2 i x h3 hx
          · rw [ht] at hx; injection hx with hx; subst hx; exact hb
  have hall := (key T.length (Nat.le_refl _)).2
  refine st0_inv (fun i x hx => ?_) (fun i x hx => ?_)
  · have hb := hall i x (List.getElem?_eq_some_iff.1 hx).1 hx
    have hi : (i : Int) < P * S := by have := (List.getElem?_eq_some_iff.1 hx).1; omega
    unfold Inst.bad at hb
    have h0 : 0 ≤ (i : Int) / S := Int.ediv_nonneg (by omega) (by omega)
    have h1 : (i : Int) / S < P := Int.ediv_lt_of_lt_mul (by omega) hi
    omega
  · have hb := hall i x (List.getElem?_eq_some_iff.1 hx).1 hx
    unfold Inst.bad at hb
    omega
end Go.Proofs.Ytnmfmoiodckleaa
