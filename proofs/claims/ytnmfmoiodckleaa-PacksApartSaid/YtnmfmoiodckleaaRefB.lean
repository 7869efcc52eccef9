/- The reference's object in memory; lotteryref42.New. -/
import Derived.Test.YtnmfmoiodckleaaRefA
namespace Go.Proofs.Ytnmfmoiodckleaa
open Go.RowKit
set_option maxRecDepth 100000
set_option linter.unusedSimpArgs false
/-- Two slices that grow by append, and a block gy beside them that is stored into. -/
structure Pair (w0 w' : World) (gy : Nat) (e1 s1 e2 s2 : Nat) (A1 : Option Addr) (c1 n1 : Nat) (xs1 : List Value) (A2 : Option Addr) (c2 n2 : Nat) (xs2 : List Value) : Prop where
  only : Only gy (gy + 1) w0 w'
  o1 : w'.ownsRow w0.heap.size e1 s1 (.slice A1 n1 c1) n1 xs1
  o2 : w'.ownsRow w0.heap.size e2 s2 (.slice A2 n2 c2) n2 xs2
  dis : ∀ g, (Value.slice A1 n1 c1).ownBlock = some g → (Value.slice A2 n2 c2).ownBlock ≠ some g
theorem owns_keep {w w' : World} {base e size n m : Nat} {v : Value} {xs : List Value} (h : w.ownsRow base e size v n xs) (hb : ∀ g, v.ownBlock = some g → w'.heap[g]? = w.heap[g]?) : w'.ownsRow base e size v n xs := by
  refine ⟨h.1, ?_⟩
  rcases h.2 with h0 | ⟨g, cap, cur, rfl, h1, h2, h3⟩
  · exact .inl h0
  · exact .inr ⟨g, cap, cur, rfl, h1, (hb g rfl).trans h2, h3⟩
theorem owns_ge {w : World} {base e size n : Nat} {v : Value} {xs : List Value} (h : w.ownsRow base e size v n xs) {g : Nat} (hg : v.ownBlock = some g) : base ≤ g ∧ g < w.heap.size := by
  rcases h.2 with ⟨rfl, _⟩ | ⟨g', cap, cur, rfl, h1, h2, h3⟩
  · cases hg
  · simp only [Value.ownBlock, Option.some.injEq] at hg
    subst hg
    exact ⟨h1, (Array.getElem?_eq_some_iff.1 h2).1⟩
theorem Only.then_below {lo hi : Nat} {a b c : World} (h : Only lo hi a b) (k : Below a.heap.size b c) : Only lo hi a c :=
  ⟨k.os.trans h.os, k.tape.trans h.tape, k.output.trans h.output, Nat.le_trans h.size k.size, fun i hi' hr => (k.block i hi').trans (h.block i hi' hr)⟩
section
variable {P : Program} {w0 w' : World} {gy e1 s1 e2 s2 : Nat} {A1 A2 : Option Addr} {c1 n1 c2 n2 : Nat} {xs1 xs2 news : List Value}
theorem Pair.swap (h : Pair w0 w' gy e1 s1 e2 s2 A1 c1 n1 xs1 A2 c2 n2 xs2) : Pair w0 w' gy e2 s2 e1 s1 A2 c2 n2 xs2 A1 c1 n1 xs1 := ⟨h.only, h.o2, h.o1, fun g h1 h2 => h.dis g h2 h1⟩
theorem Pair.drew (h : Pair w0 w' gy e1 s1 e2 s2 A1 c1 n1 xs1 A2 c2 n2 xs2) : Pair w0 w'.drew gy e1 s1 e2 s2 A1 c1 n1 xs1 A2 c2 n2 xs2 := ⟨h.only.drew, h.o1, h.o2, h.dis⟩
theorem Pair.store (h : Pair w0 w' gy e1 s1 e2 s2 A1 c1 n1 xs1 A2 c2 n2 xs2) (hgy : gy < w0.heap.size) (o : Nat) (v : Value) : Pair w0 (w'.setCell ⟨gy, o, none⟩ v) gy e1 s1 e2 s2 A1 c1 n1 xs1 A2 c2 n2 xs2 := by
  refine ⟨h.only.setCell (p := ⟨gy, o, none⟩) (Nat.le_refl _) (Nat.lt_succ_self _) v, owns_keep (m := 0) h.o1 fun g hg => ?_, owns_keep (m := 0) h.o2 fun g hg => ?_, h.dis⟩
  · have := (owns_ge h.o1 hg).1
    exact Below.heap_setCell _ _ _ _ (by show g ≠ gy; omega)
  · have := (owns_ge h.o2 hg).1
    exact Below.heap_setCell _ _ _ _ (by show g ≠ gy; omega)
theorem Pair.push {T ty bytes : Nat} (h : Pair w0 w' gy e1 s1 e2 s2 A1 c1 n1 xs1 A2 c2 n2 xs2) (hgy : gy < w0.heap.size) (hI : sliceI P T = some (e1, s1, bytes)) (hn : news.length = s1) (h1 : ∀ u ∈ news, u.oneCell' = true)
    (h63 : n1 + 1 ≤ 1000000000) (hby : bytes ≤ 10000) :
    ∃ A c w2, vAppend P T T ty (.slice A1 n1 c1) (.slice (some ⟨w'.heap.size, 0, none⟩) 1 1) (w'.alloc (.cells news.toArray e1)) = .ok (.value (.slice A (n1 + 1) c)) w2 ∧
      Pair w0 w2 gy e1 s1 e2 s2 A c (n1 + 1) (xs1 ++ news) A2 c2 n2 xs2 ∧ Below w0.heap.size w' w2 ∧ ∀ T' cs, Row w' gy T' cs → Row w2 gy T' cs := by
  have hsz := h.only.size
  have hb := below_alloc w' (.cells news.toArray e1)
  have ho1 : (w'.alloc (.cells news.toArray e1)).ownsRow w0.heap.size e1 s1 (.slice A1 n1 c1) n1 xs1 := owns_keep (m := 0) h.o1 fun g hg => hb.block g (owns_ge h.o1 hg).2
  obtain ⟨A, c, w2, he, ho, hg', hbk⟩ := vAppend_own (P := P) (ty := ty) (m := 1) (c := 1) (b := w'.heap.size) (o := 0) (news := news) hI ho1 (by rw [hn, Nat.one_mul])
    (fun j u hu => by rw [Nat.zero_add, (new_block w' news.toArray e1).1 j]; simpa using hu) h1 h63 hby (by rw [World.size_alloc]; omega)
  have hrow : ∀ g, (Value.slice A1 n1 c1).ownBlock = some g → w0.heap.size ≤ g := fun g hg => (owns_ge h.o1 hg).1
  have hgrow : Below w0.heap.size (w'.alloc (.cells news.toArray e1)) w2 := grown_below hg' hrow (by rw [World.size_alloc]; omega)
  refine ⟨A, c, w2, he, ⟨(h.only.alloc _).then_below hgrow, ho, owns_keep (m := 0) h.o2 fun g hg => ?_, fun g hg1 hg2 => ?_⟩, (hb.mono hsz).trans hgrow, fun T' cs hr => ?_⟩
  · have hge := owns_ge h.o2 hg
    refine (hg'.block g ?_ ?_).trans (hb.block g hge.2)
    · rw [World.size_alloc]; omega
    · intro e; exact h.dis g e.symm hg
  · have hge := owns_ge h.o2 hg2
    rcases hbk with e | e
    · exact h.dis g (e ▸ hg1) hg2
    · rw [e] at hg1
      injection hg1 with hg1
      rw [World.size_alloc] at hg1
      omega
  · exact hr.of_block ((hgrow.block gy hgy).trans (hb.block gy (by omega)))
end
end Go.Proofs.Ytnmfmoiodckleaa
