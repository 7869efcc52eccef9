/- LexNumbers: for every input it returns true and leaves its arguments as they were. No condition. -/
import Derived.Test.YthadhnmbddddbaaNumbers
import Derived.Test.YthadhnmbddddbaaRow
import Derived.Test.YthadhnmbddddbaaByteArgs
import Derived.ChangeMaps5
namespace Go.Proofs.Ythadhnmbddddbaa
open Go.ChangeShapes Go.WideShapes Go.ChangeAt Go.RowKit Go.Joins Go.Deep
set_option maxRecDepth 100000
theorem numbers_lifted (os : Os) (started : os.Started) (H : Type) (enc : TypeId × Value → H) :
    ReturnsInHanded {} Try.checked os 9 .any (Rows.lexNumbersSpec.pre6 enc Try.prog Try.f9 Rows.lexNumbersRow.domain false) (Rows.lexNumbersSpec.post enc Try.prog Try.f9 false true false false) := by
  refine returnsInHanded_of_change (C := Try.checked) ownNone started (by kernel_rfl) Try.func9
    (ChangeSpec.witness6 (enc := enc) (C := Try.checked) false ⟨#[], #[.slice none 0 0], []⟩ 8 (by kernel_rfl) (by kernel_rfl) (by kernel_rfl) (by kernel_rfl)) ?_
  intro W base args ds gs before hval0 hW hcnd _
  have hval : ∀ (j : Nat) t v, Try.f9.params[j]? = some t → args[j]? = some v → Value.okWide Try.prog W .any base t v := hval0
  have hW' := hW
  obtain ⟨p, q, hA0, hV, rfl, hfz, hnd⟩ := hW
  have hA : DataW.TrodAll enc Try.prog W 0 (fun _ => true) true Try.f9.params.toList args.toList ds p := hA0
  rw [Try.params9] at hA hval
  obtain ⟨v0, d0, rfl, rfl, h0⟩ := trodAll_one hA
  obtain ⟨a2, n2, cc2, rfl⟩ := okWide_slice Try.underlying36 (hval 0 _ _ rfl rfl)
  obtain ⟨fuel, h1⟩ := h0
  obtain ⟨A, c, L, e5, hL, hLn, hLz⟩ := open_bytes h1
  injection e5 with e5
  injection e5 with e5 e6 e7
  subst e5 e6 e7
  unfold maxLen at hLn
  exact row_close laidAll (by kernel_rfl) rfl (by kernel_rfl) Try.underlying4 hW' rfl rfl rfl (numbers_any _ _ L W hL (by omega) hLz)
theorem lexNumbers_holds : Rows.LexNumbersSaid :=
  OpenClaim.holds_of_wide 9 Try.f9 rfl rfl rfl rfl rfl rfl rfl ⟨rfl, rfl, rfl, rfl, rfl⟩ rfl rfl rfl rfl rfl (by kernel_rfl) Try.func9 (by kernel_rfl)
    (of_decide_eq_true (by kernel_rfl)) (by unfold Func.isWrapper; first | (rw [if_pos (by decide +kernel)]; kernel_rfl) | (rw [if_neg (by decide +kernel)]; exact ⟨rfl, rfl⟩))
    (fun os started H enc _ => numbers_lifted os started H enc)
end Go.Proofs.Ythadhnmbddddbaa
