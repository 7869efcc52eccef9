/- LexBlanks: for every input it returns true and leaves its arguments as they were. No condition. -/
import Derived.Test.YthadhnmbddddbaaBlanks
import Derived.Test.YthadhnmbddddbaaRow
import Derived.Test.YthadhnmbddddbaaByteArgs
import Derived.ChangeMaps5
namespace Go.Proofs.Ythadhnmbddddbaa
open Go.ChangeShapes Go.WideShapes Go.ChangeAt Go.RowKit Go.Joins Go.Deep
set_option maxRecDepth 100000
theorem blanks_lifted (os : Os) (started : os.Started) (H : Type) (enc : TypeId × Value → H) :
    ReturnsInHanded {} Try.checked os 7 .any (Rows.lexBlanksSpec.pre6 enc Try.prog Try.f7 Rows.lexBlanksRow.domain false) (Rows.lexBlanksSpec.post enc Try.prog Try.f7 false true false false) := by
  refine returnsInHanded_of_change (C := Try.checked) ownNone started (by kernel_rfl) Try.func7
    (ChangeSpec.witness6 (enc := enc) (C := Try.checked) false ⟨#[], #[.string .empty, .int .u8 0], []⟩ 8 (by kernel_rfl) (by kernel_rfl) (by kernel_rfl) (by kernel_rfl)) ?_
  intro W base args ds gs before hval0 hW hcnd _
  have hval : ∀ (j : Nat) t v, Try.f7.params[j]? = some t → args[j]? = some v → Value.okWide Try.prog W .any base t v := hval0
  have hW' := hW
  obtain ⟨p, q, hA0, hV, rfl, hfz, hnd⟩ := hW
  have hA : DataW.TrodAll enc Try.prog W 0 (fun _ => true) true Try.f7.params.toList args.toList ds p := hA0
  rw [Try.params7] at hA hval
  obtain ⟨v0, v1, d0, d1, p0, p1, rfl, rfl, rfl, h0, h1⟩ := trodAll_two hA
  obtain ⟨s, rfl, rfl, rfl, hs⟩ := Go.ChangeMaps.open_string Try.underlying9 (hval 0 _ _ rfl rfl) h0
  obtain ⟨n, rfl⟩ := okWide_int Try.underlying5 (hval 1 _ _ rfl rfl)
  obtain ⟨fuel, h1⟩ := h1
  obtain ⟨n', e1, hx, hwf⟩ := DataW.trod_int Try.underlying5 h1
  have e1' : n = n' := by simpa [Value.cells] using e1
  subst e1'
  unfold maxLen at hs
  have hn := u8_wf hwf
  exact row_close laidAll (by kernel_rfl) rfl (by kernel_rfl) Try.underlying4 hW' rfl rfl rfl (blanks_any s n W (by omega) hn)
theorem lexBlanks_holds : Rows.LexBlanksSaid :=
  OpenClaim.holds_of_wide 7 Try.f7 rfl rfl rfl rfl rfl rfl rfl ⟨rfl, rfl, rfl, rfl, rfl⟩ rfl rfl rfl rfl rfl (by kernel_rfl) Try.func7 (by kernel_rfl)
    (of_decide_eq_true (by kernel_rfl)) (by unfold Func.isWrapper; first | (rw [if_pos (by decide +kernel)]; kernel_rfl) | (rw [if_neg (by decide +kernel)]; exact ⟨rfl, rfl⟩))
    (fun os started H enc _ => blanks_lifted os started H enc)
end Go.Proofs.Ythadhnmbddddbaa
