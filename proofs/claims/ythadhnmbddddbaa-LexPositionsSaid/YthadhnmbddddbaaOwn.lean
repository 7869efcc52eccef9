/- Rows of cells that are owned and grow; lists of records in a row. No program in sight. -/
import Derived.Test.YthadhnmbddddbaaOrd
namespace Go.Proofs.Ythadhnmbddddbaa
open Go.RowKit
/-- What owns something is a row. -/
theorem owns_row {w : World} {base size n c : Nat} {e : TypeId} {A : Option Addr} {xs : List Value} (h : w.ownsRow base e size (.slice A n c) n xs) (hn : 0 < n) : ∃ g, A = some ⟨g, 0, none⟩ ∧ base ≤ g ∧ Row w g e xs ∧ n ≤ c ∧ c ≤ maxLen := by
  rcases h.2 with ⟨_, h0⟩ | ⟨g, cap, cur, he, hb, hg, hnc, hcm, _, ht⟩
  · omega
  · injection he with h1 h2 h3
    subst h3
    exact ⟨g, h1, hb, ⟨cur, hg, _, by rw [← ht]; exact (List.take_append_drop _ _).symm⟩, hnc, hcm⟩
theorem grown_below {w w' : World} {row : Option Nat} {B : Nat} (h : w.grownBy w' row) (hr : ∀ g, row = some g → B ≤ g) (hB : B ≤ w.heap.size) : Below B w w' :=
  ⟨h.os, h.tape, h.output, h.size, fun k hk => h.block k (Nat.lt_of_lt_of_le hk hB) (fun e => by have := hr k e.symm; omega)⟩
theorem flat_len {α : Type} {enc : α → List Value} {sz : Nat} (he : ∀ x, (enc x).length = sz) : ∀ L : List α, (L.flatMap enc).length = L.length * sz
  | [] => by simp
  | x :: r => by rw [List.flatMap_cons, List.length_append, he, flat_len he r, List.length_cons, Nat.succ_mul]; omega
theorem owns_keep {w w' : World} {base e size n m : Nat} {v : Value} {xs : List Value} (h : w.ownsRow base e size v n xs) (hb : ∀ g, v.ownBlock = some g → w'.heap[g]? = w.heap[g]?) : w'.ownsRow base e size v n xs := by
  refine ⟨h.1, ?_⟩
  rcases h.2 with h0 | ⟨g, cap, cur, rfl, h1, h2, h3⟩
  · exact .inl h0
  · exact .inr ⟨g, cap, cur, rfl, h1, (hb g rfl).trans h2, h3⟩
theorem owns_ge {w : World} {base e size n : Nat} {v : Value} {xs : List Value} (h : w.ownsRow base e size v n xs) {g : Nat} (hg : v.ownBlock = some g) : base ≤ g ∧ g < w.heap.size := by
  rcases h.2 with ⟨rfl, _⟩ | ⟨g', cap, cur, rfl, h1, h2, h3⟩
  · cases hg
  · simp only [Value.ownBlock, Option.some.injEq] at hg
    subst hg
    exact ⟨h1, (Array.getElem?_eq_some_iff.1 h2).1⟩
theorem Only.then_below {lo hi : Nat} {a b c : World} (h : Only lo hi a b) (k : Below a.heap.size b c) : Only lo hi a c :=
  ⟨k.os.trans h.os, k.tape.trans h.tape, k.output.trans h.output, Nat.le_trans h.size k.size, fun i hi' hr => (k.block i hi').trans (h.block i hi' hr)⟩
theorem flat_cell {α : Type} {enc : α → List Value} {sz : Nat} (he : ∀ x, (enc x).length = sz) {x : α} {j : Nat} {v : Value} (hv : (enc x)[j]? = some v) :
    ∀ (L : List α) (i : Nat), L[i]? = some x → (L.flatMap enc)[i * sz + j]? = some v
  | [], i, h => by simp at h
  | y :: r, i, h => by
    have hjl : j < sz := by rw [← he x]; exact (List.getElem?_eq_some_iff.1 hv).1
    rw [List.flatMap_cons]
    cases i with
    | zero =>
      simp only [List.getElem?_cons_zero, Option.some.injEq] at h
      subst h
      rw [Nat.zero_mul, Nat.zero_add, List.getElem?_append_left (by rw [he]; exact hjl), hv]
    | succ i =>
      rw [List.getElem?_cons_succ] at h
      rw [List.getElem?_append_right (by rw [he, Nat.succ_mul]; omega), he, show (i + 1) * sz + j - sz = i * sz + j from by rw [Nat.succ_mul]; omega]
      exact flat_cell he hv r i h
theorem flat_set {α : Type} {enc : α → List Value} {sz : Nat} (he : ∀ x, (enc x).length = sz) {x y : α} {j : Nat} {v : Value} (hj : j < sz) (hy : (enc x).set j v = enc y) :
    ∀ (L : List α) (i : Nat), L[i]? = some x → (L.flatMap enc).set (i * sz + j) v = (L.set i y).flatMap enc
  | [], i, h => by simp at h
  | z :: r, i, h => by
    cases i with
    | zero =>
      simp only [List.getElem?_cons_zero, Option.some.injEq] at h
      subst h
      rw [List.flatMap_cons, Nat.zero_mul, Nat.zero_add, List.set_append_left _ _ (by rw [he]; exact hj), hy]; rfl
    | succ i =>
      rw [List.getElem?_cons_succ] at h
      rw [List.flatMap_cons, List.set_append_right _ _ (by rw [he, Nat.succ_mul]; omega), he, show (i + 1) * sz + j - sz = i * sz + j from by rw [Nat.succ_mul]; omega, flat_set he hj hy r i h]; rfl
theorem make_row (w : World) (z : List Value) (n : Nat) (T : TypeId) (hz : 0 < z.length) : Row (w.alloc (.cells (madeCells z.toArray (n * z.length)) T)) w.heap.size T ((List.replicate n z).flatten) :=
  ⟨_, heap_alloc_new w _, [], by rw [madeCells_flat _ _ hz, List.append_nil]⟩
theorem rep_snoc (k : Nat) (v : Value) : List.replicate (k + 1) v = List.replicate k v ++ [v] := by
  rw [List.replicate_succ']
section
variable {P : Program} {w w' : World} {base e sz n c : Nat} {A : Option Addr} {xs news : List Value}
theorem owns_nil (w : World) (base e sz : Nat) : w.ownsRow base e sz (.slice none 0 0) 0 [] := ⟨by simp, .inl ⟨rfl, rfl⟩⟩
theorem owns_only {lo hi : Nat} {v : Value} (h : w.ownsRow base e sz v n xs) (ho : Only lo hi w w') (hr : hi ≤ base) : w'.ownsRow base e sz v n xs :=
  owns_keep (m := 0) h fun g hg => by
    obtain ⟨h1, h2⟩ := owns_ge h hg
    exact ho.block g h2 (.inr (by omega))
theorem owns_below {v : Value} (h : w.ownsRow base e sz v n xs) (hb : Below w.heap.size w w') : w'.ownsRow base e sz v n xs :=
  owns_keep (m := 0) h fun g hg => hb.block g (owns_ge h hg).2
theorem push1 {T ty bytes : Nat} (h : w.ownsRow base e sz (.slice A n c) n xs) (hb : base ≤ w.heap.size) (hI : sliceI P T = some (e, sz, bytes)) (hn : news.length = sz) (h1 : ∀ u ∈ news, u.oneCell' = true)
    (h63 : n + 1 ≤ 1000000000) (hby : bytes ≤ 10000) :
    ∃ A' c' w2, vAppend P T T ty (.slice A n c) (.slice (some ⟨w.heap.size, 0, none⟩) 1 1) (w.alloc (.cells news.toArray e)) = .ok (.value (.slice A' (n + 1) c')) w2 ∧
      w2.ownsRow base e sz (.slice A' (n + 1) c') (n + 1) (xs ++ news) ∧ Below base w w2 ∧ w.heap.size ≤ w2.heap.size := by
  have hba := below_alloc w (.cells news.toArray e)
  obtain ⟨A', c', w2, he, ho, hg', hbk⟩ := vAppend_own (P := P) (ty := ty) (m := 1) (c := 1) (b := w.heap.size) (o := 0) (news := news) hI (owns_below h hba) (by rw [hn, Nat.one_mul])
    (fun j u hu => by rw [Nat.zero_add, (new_block w news.toArray e).1 j]; simpa using hu) h1 h63 hby (by rw [World.size_alloc]; omega)
  have hgrow : Below base (w.alloc (.cells news.toArray e)) w2 := grown_below hg' (fun g hg => (owns_ge h hg).1) (by rw [World.size_alloc]; omega)
  have hB := (hba.mono hb).trans hgrow
  exact ⟨A', c', w2, he, ho, hB, hB.size⟩
end
end Go.Proofs.Ythadhnmbddddbaa
