/- PacksStates: for every input it returns true and leaves its arguments as they were. No condition. -/
import Derived.Test.YtnmfmoiodckleaaStates
import Derived.Test.YtnmfmoiodckleaaArgs2
namespace Go.Proofs.Ytnmfmoiodckleaa
open Go.ChangeShapes Go.WideShapes Go.ChangeAt Go.RowKit Go.Joins Go.Deep
set_option maxRecDepth 100000
theorem states_lifted (os : Os) (started : os.Started) (H : Type) (enc : TypeId × Value → H) :
    ReturnsInHanded {} Try.checked os 6 .any (Rows.packsStatesSpec.pre6 enc Try.prog Try.f6 Rows.packsStatesRow.domain false) (Rows.packsStatesSpec.post enc Try.prog Try.f6 false true false false) := by
  refine returnsInHanded_of_change (C := Try.checked) ownNone started (by kernel_rfl) Try.func6
    (ChangeSpec.witness6 (enc := enc) (C := Try.checked) false ⟨#[], #[.agg #[.string .empty, .int .i64 0, .int .i64 0, .int .i64 0, .slice none 0 0], .slice none 0 0, .slice none 0 0], []⟩ 8 (by kernel_rfl) (by kernel_rfl) (by kernel_rfl) (by kernel_rfl)) ?_
  intro W base args ds gs before hval0 hW hcnd _
  have hval : ∀ (j : Nat) t v, Try.f6.params[j]? = some t → args[j]? = some v → Value.okWide Try.prog W .any base t v := hval0
  have hW' := hW
  obtain ⟨p, q, hA0, hV, rfl, hfz, hnd⟩ := hW
  have hA : DataW.TrodAll enc Try.prog W 0 (fun _ => true) true Try.f6.params.toList args.toList ds p := hA0
  rw [Try.params6] at hA hval
  obtain ⟨v0, v1, v2, d0, d1, d2, p0, p1, p2, rfl, rfl, rfl, h0, h1, h2⟩ := trodAll_three hA
  obtain ⟨c0, c1, c2, c3, c4, y0, y1, y2, y3, y4, n, rfl, rfl, rfl, t0, t1, t2, t3, t4⟩ := open_agg5 Try.underlying24 (by kernel_rfl) (by kernel_rfl) (hval 0 _ _ rfl rfl) h0
  obtain ⟨name, e0, _, hname⟩ := DataW.trod_string Try.underlying9 t0
  obtain ⟨price, e1, _⟩ := DataW.trod_int Try.underlying3 t1
  obtain ⟨P, e2, _⟩ := DataW.trod_int Try.underlying3 t2
  obtain ⟨S, e3, _⟩ := DataW.trod_int Try.underlying3 t3
  obtain ⟨A, c, L, e4, hL, hLn⟩ := open_levels t4
  simp only [List.cons.injEq, and_true] at e0 e1 e2 e3 e4
  subst e0 e1 e2 e3 e4
  obtain ⟨a2, n2, cc2, rfl⟩ := okWide_slice Try.underlying25 (hval 1 _ _ rfl rfl)
  obtain ⟨fuel, h1⟩ := h1
  obtain ⟨A2, c2, T, e5, hT, hTn⟩ := open_insts h1
  injection e5 with e5
  injection e5 with e5 e6 e7
  subst e5 e6 e7
  obtain ⟨a3, n3, cc3, rfl⟩ := okWide_slice Try.underlying36 (hval 2 _ _ rfl rfl)
  obtain ⟨fuel2, h2⟩ := h2
  obtain ⟨A3, c3, O, e5, hO, hOn⟩ := open_ops h2
  injection e5 with e5
  injection e5 with e5 e6 e7
  subst e5 e6 e7
  unfold maxLen at hname hLn hTn hOn
  exact row_close laidAll (by kernel_rfl) rfl (by kernel_rfl) Try.underlying4 hW' rfl rfl rfl (states_any name price P S A c L a2 cc2 T a3 cc3 O W (by omega) hL hT hO (by omega))
theorem packsStates_holds : Rows.PacksStatesSaid :=
  OpenClaim.holds_of_wide 6 Try.f6 rfl rfl rfl rfl rfl rfl rfl ⟨rfl, rfl, rfl, rfl, rfl⟩ rfl rfl rfl rfl rfl (by kernel_rfl) Try.func6 (by kernel_rfl)
    (of_decide_eq_true (by kernel_rfl)) (by unfold Func.isWrapper; first | (rw [if_pos (by decide +kernel)]; kernel_rfl) | (rw [if_neg (by decide +kernel)]; exact ⟨rfl, rfl⟩))
    (fun os started H enc _ => states_lifted os started H enc)
end Go.Proofs.Ytnmfmoiodckleaa
