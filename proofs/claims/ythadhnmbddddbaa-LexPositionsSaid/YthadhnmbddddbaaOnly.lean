/- Frames: what a call that writes to blocks lo .. hi-1 (and makes new ones) leaves as it was; a slice's row of cells that is owned. -/
import Derived.Test.YthadhnmbddddbaaMem
namespace Go.Proofs.Ythadhnmbddddbaa
open Go.RowKit
/-- Of the blocks that are there in w, only those from lo to hi-1 may have turned. -/
structure Only (lo hi : Nat) (w w' : World) : Prop where
  os : w'.os = w.os
  tape : w'.tape = w.tape
  output : w'.output = w.output
  size : w.heap.size ≤ w'.heap.size
  block : ∀ k, k < w.heap.size → (k < lo ∨ hi ≤ k) → w'.heap[k]? = w.heap[k]?
section
variable {lo hi : Nat} {a b w w' : World}
theorem Only.refl (lo hi : Nat) (w : World) : Only lo hi w w := ⟨rfl, rfl, rfl, Nat.le_refl _, fun _ _ _ => rfl⟩
theorem Only.trans (h : Only lo hi a b) (k : Only lo hi b w) : Only lo hi a w :=
  ⟨k.os.trans h.os, k.tape.trans h.tape, k.output.trans h.output, Nat.le_trans h.size k.size, fun i hi' hr => (k.block i (Nat.lt_of_lt_of_le hi' h.size) hr).trans (h.block i hi' hr)⟩
theorem Only.of_below (h : Below w.heap.size w w') : Only lo hi w w' := ⟨h.os, h.tape, h.output, h.size, fun k hk _ => h.block k hk⟩
theorem Only.drew (h : Only lo hi a w) : Only lo hi a w.drew := ⟨h.os, h.tape, h.output, h.size, h.block⟩
theorem Only.alloc (h : Only lo hi a w) (o : Obj) : Only lo hi a (w.alloc o) := h.trans (Only.of_below (below_alloc w o))
theorem Only.setCell (h : Only lo hi a w) {p : Addr} (h1 : lo ≤ p.block) (h2 : p.block < hi) (v : Value) : Only lo hi a (w.setCell p v) :=
  h.trans ⟨rfl, rfl, rfl, by simp [World.setCell], fun k _ hr => Below.heap_setCell _ _ _ _ (by omega)⟩
theorem Only.below (h : Only lo hi w w') : Below (min lo w.heap.size) w w' := ⟨h.os, h.tape, h.output, h.size, fun k hk => h.block k (by omega) (by omega)⟩
theorem Only.cell (h : Only lo hi w w') {g o : Nat} (hg : g < w.heap.size) (hr : g < lo ∨ hi ≤ g) : w'.cell? ⟨g, o, none⟩ = w.cell? ⟨g, o, none⟩ := World.cell?_of_block (w := w) (h.block g hg hr)
theorem Only.frozen (h : Only lo hi w w') {g o : Nat} (hg : g < w.heap.size) (hr : g < lo ∨ hi ≤ g) : w'.frozen? ⟨g, o, none⟩ = w.frozen? ⟨g, o, none⟩ := World.frozen?_of_block (w := w) (h.block g hg hr)
theorem Only.wide {lo' hi' : Nat} (h : Only lo hi w w') (h1 : lo' ≤ lo) (h2 : hi ≤ hi') : Only lo' hi' w w' := ⟨h.os, h.tape, h.output, h.size, fun k hk hr => h.block k hk (by omega)⟩
/-- Everything from lo on may turn: then only what lies below lo is said. -/
theorem Only.low (h : Only lo hi w w') (hl : lo ≤ w.heap.size) : Below lo w w' := ⟨h.os, h.tape, h.output, h.size, fun k hk => h.block k (by omega) (.inl hk)⟩
end
/-- A row of cells: block g holds the cells cs (and perhaps more behind them), none frozen. -/
def Row (w : World) (g : Nat) (T : TypeId) (cs : List Value) : Prop := ∃ cur : Array Value, w.heap[g]? = some (.cells cur T (0, 0)) ∧ ∃ r, cur.toList = cs ++ r
section
variable {w w' : World} {g : Nat} {T : TypeId} {cs : List Value}
theorem Row.lt (h : Row w g T cs) : g < w.heap.size := by
  obtain ⟨cur, hc, _⟩ := h
  exact (Array.getElem?_eq_some_iff.1 hc).1
theorem Row.cell (h : Row w g T cs) {i : Nat} {v : Value} (hv : cs[i]? = some v) : w.cell? ⟨g, i, none⟩ = some v := by
  obtain ⟨cur, hc, r, hr⟩ := h
  have h1 : cur[i]? = some v := by
    rw [← Array.getElem?_toList, hr, List.getElem?_append_left (List.getElem?_eq_some_iff.1 hv).1]; exact hv
  simp [World.cell?, hc, h1]
theorem Row.frozen (h : Row w g T cs) (i : Nat) : w.frozen? ⟨g, i, none⟩ = false := by
  obtain ⟨cur, hc, _⟩ := h
  simp [World.frozen?, hc]
theorem Row.of_block (h : Row w g T cs) (hb : w'.heap[g]? = w.heap[g]?) : Row w' g T cs := by
  obtain ⟨cur, hc, hr⟩ := h
  exact ⟨cur, hb.trans hc, hr⟩
theorem Row.only {lo hi : Nat} (h : Row w g T cs) (ho : Only lo hi w w') (hr : g < lo ∨ hi ≤ g) : Row w' g T cs := h.of_block (ho.block g h.lt hr)
theorem Row.below (h : Row w g T cs) (ho : Below w.heap.size w w') : Row w' g T cs := h.of_block (ho.block g h.lt)
theorem Row.drew (h : Row w g T cs) : Row w.drew g T cs := h
theorem Row.alloc (h : Row w g T cs) (o : Obj) : Row (w.alloc o) g T cs := h.below (below_alloc w o)
theorem Row.new (w : World) (T : TypeId) (cs : List Value) : Row (w.alloc (.cells cs.toArray T)) w.heap.size T cs := ⟨cs.toArray, heap_alloc_new w _, [], by simp⟩
theorem Row.set_ (h : Row w g T cs) {i : Nat} (hi : i < cs.length) (v : Value) : Row (w.setCell ⟨g, i, none⟩ v) g T (cs.set i v) := by
  obtain ⟨cur, hc, r, hr⟩ := h
  refine ⟨cur.setIfInBounds i v, ?_, r, ?_⟩
  · simp [World.setCell, Array.getElem?_modify, hc]
  · rw [Array.toList_setIfInBounds, hr, List.set_append_left _ _ hi]
theorem Row.far (h : Row w g T cs) {p : Addr} (hp : g ≠ p.block) (v : Value) : Row (w.setCell p v) g T cs := h.of_block (Below.heap_setCell w p v g hp)
theorem Row.arr {α : Type} {enc : α → List Value} {sz : Nat} {L : List α} (h : Row w g T (L.flatMap enc)) (he : ∀ x, (enc x).length = sz) : Arr w (some ⟨g, 0, none⟩) sz (L.map enc) := fun _ => by
  refine ⟨g, 0, rfl, h.lt, fun i l hl j v hv => ?_⟩
  rw [List.getElem?_map] at hl
  cases hx : L[i]? with
  | none => rw [hx] at hl; cases hl
  | some x =>
    rw [hx] at hl
    simp only [Option.map_some, Option.some.injEq] at hl
    subst hl
    have key : ∀ (L : List α) (i : Nat), L[i]? = some x → (L.flatMap enc)[i * sz + j]? = (enc x)[j]? := by
      intro L
      induction L with
      | nil => intro i h; simp at h
      | cons y r ih =>
        intro i h
        have hjl : j < sz := by rw [← he x]; exact (List.getElem?_eq_some_iff.1 hv).1
        rw [List.flatMap_cons]
        cases i with
        | zero =>
          simp only [List.getElem?_cons_zero, Option.some.injEq] at h
          subst h
          rw [Nat.zero_mul, Nat.zero_add, List.getElem?_append_left (by rw [he]; exact hjl)]
        | succ i =>
          rw [List.getElem?_cons_succ] at h
          rw [List.getElem?_append_right (by rw [he, Nat.succ_mul]; omega), he, ← ih i h, show (i + 1) * sz + j - sz = i * sz + j from by rw [Nat.succ_mul]; omega]
    rw [Nat.zero_add]
    exact h.cell (by rw [key L i hx]; exact hv)
end
end Go.Proofs.Ythadhnmbddddbaa
