/- LexRefuses: for every input it returns true and leaves its arguments as they were. No condition. -/
import Derived.Test.YthadhnmbddddbaaRefuses
import Derived.Test.YthadhnmbddddbaaRow
import Derived.Test.YthadhnmbddddbaaByteArgs
import Derived.ChangeMaps5
namespace Go.Proofs.Ythadhnmbddddbaa
open Go.ChangeShapes Go.WideShapes Go.ChangeAt Go.RowKit Go.Joins Go.Deep
set_option maxRecDepth 100000
theorem refuses_lifted (os : Os) (started : os.Started) (H : Type) (enc : TypeId × Value → H) :
    ReturnsInHanded {} Try.checked os 8 .any (Rows.lexRefusesSpec.pre6 enc Try.prog Try.f8 Rows.lexRefusesRow.domain false) (Rows.lexRefusesSpec.post enc Try.prog Try.f8 false true false false) := by
  refine returnsInHanded_of_change (C := Try.checked) ownNone started (by kernel_rfl) Try.func8
    (ChangeSpec.witness6 (enc := enc) (C := Try.checked) false ⟨#[], #[.string .empty, .int .u8 0], []⟩ 8 (by kernel_rfl) (by kernel_rfl) (by kernel_rfl) (by kernel_rfl)) ?_
  intro W base args ds gs before hval0 hW hcnd _
  have hval : ∀ (j : Nat) t v, Try.f8.params[j]? = some t → args[j]? = some v → Value.okWide Try.prog W .any base t v := hval0
  have hW' := hW
  obtain ⟨p, q, hA0, hV, rfl, hfz, hnd⟩ := hW
  have hA : DataW.TrodAll enc Try.prog W 0 (fun _ => true) true Try.f8.params.toList args.toList ds p := hA0
  rw [Try.params8] at hA hval
  obtain ⟨v0, v1, d0, d1, p0, p1, rfl, rfl, rfl, h0, h1⟩ := trodAll_two hA
  obtain ⟨s, rfl, rfl, rfl, hs⟩ := Go.ChangeMaps.open_string Try.underlying9 (hval 0 _ _ rfl rfl) h0
  obtain ⟨n, rfl⟩ := okWide_int Try.underlying5 (hval 1 _ _ rfl rfl)
  obtain ⟨fuel, h1⟩ := h1
  obtain ⟨n', e1, hx, hwf⟩ := DataW.trod_int Try.underlying5 h1
  have e1' : n = n' := by simpa [Value.cells] using e1
  subst e1'
  unfold maxLen at hs
  have hn := u8_wf hwf
  obtain ⟨m, rfl⟩ : ∃ m : Nat, n = m := ⟨n.toNat, by omega⟩
  exact row_close laidAll (by kernel_rfl) rfl (by kernel_rfl) Try.underlying4 hW' rfl rfl rfl (refuses_any s m W (by omega) (by omega))
theorem lexRefuses_holds : Rows.LexRefusesSaid :=
  OpenClaim.holds_of_wide 8 Try.f8 rfl rfl rfl rfl rfl rfl rfl ⟨rfl, rfl, rfl, rfl, rfl⟩ rfl rfl rfl rfl rfl (by kernel_rfl) Try.func8 (by kernel_rfl)
    (of_decide_eq_true (by kernel_rfl)) (by unfold Func.isWrapper; first | (rw [if_pos (by decide +kernel)]; kernel_rfl) | (rw [if_neg (by decide +kernel)]; exact ⟨rfl, rfl⟩))
    (fun os started H enc _ => refuses_lifted os started H enc)
end Go.Proofs.Ythadhnmbddddbaa
