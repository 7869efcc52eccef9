/- A slice that grows by append. -/
import Derived.Test.YtnmfmoiodckleaaRefB
import Derived.Test.YtnmfmoiodckleaaRuns
namespace Go.Proofs.Ytnmfmoiodckleaa
open Go.RowKit
section
variable {P : Program} {w w' : World} {base e sz n c : Nat} {A : Option Addr} {xs news : List Value}
theorem owns_nil (w : World) (base e sz : Nat) : w.ownsRow base e sz (.slice none 0 0) 0 [] := ⟨by simp, .inl ⟨rfl, rfl⟩⟩
theorem owns_only {lo hi : Nat} {v : Value} (h : w.ownsRow base e sz v n xs) (ho : Only lo hi w w') (hr : hi ≤ base) : w'.ownsRow base e sz v n xs :=
  owns_keep (m := 0) h fun g hg => by
    obtain ⟨h1, h2⟩ := owns_ge h hg
    exact ho.block g h2 (.inr (by omega))
theorem owns_below {v : Value} (h : w.ownsRow base e sz v n xs) (hb : Below w.heap.size w w') : w'.ownsRow base e sz v n xs :=
  owns_keep (m := 0) h fun g hg => hb.block g (owns_ge h hg).2
theorem push1 {T ty bytes : Nat} (h : w.ownsRow base e sz (.slice A n c) n xs) (hb : base ≤ w.heap.size) (hI : sliceI P T = some (e, sz, bytes)) (hn : news.length = sz) (h1 : ∀ u ∈ news, u.oneCell' = true)
    (h63 : n + 1 ≤ 1000000000) (hby : bytes ≤ 10000) :
    ∃ A' c' w2, vAppend P T T ty (.slice A n c) (.slice (some ⟨w.heap.size, 0, none⟩) 1 1) (w.alloc (.cells news.toArray e)) = .ok (.value (.slice A' (n + 1) c')) w2 ∧
      w2.ownsRow base e sz (.slice A' (n + 1) c') (n + 1) (xs ++ news) ∧ Below base w w2 ∧ w.heap.size ≤ w2.heap.size := by
  have hba := below_alloc w (.cells news.toArray e)
  obtain ⟨A', c', w2, he, ho, hg', hbk⟩ := vAppend_own (P := P) (ty := ty) (m := 1) (c := 1) (b := w.heap.size) (o := 0) (news := news) hI (owns_below h hba) (by rw [hn, Nat.one_mul])
    (fun j u hu => by rw [Nat.zero_add, (new_block w news.toArray e).1 j]; simpa using hu) h1 h63 hby (by rw [World.size_alloc]; omega)
  have hgrow : Below base (w.alloc (.cells news.toArray e)) w2 := grown_below hg' (fun g hg => (owns_ge h hg).1) (by rw [World.size_alloc]; omega)
  have hB := (hba.mono hb).trans hgrow
  exact ⟨A', c', w2, he, ho, hB, hB.size⟩
end
end Go.Proofs.Ytnmfmoiodckleaa
