/- Small lemmas for the walks of this seat: worlds, frames, closers. No program in sight. -/
import Derived.Test.YthadhnmbddddbaaRows
import Derived.Test.YthadhnmbddddbaaPlain
import Derived.WalkKit
import Derived.WalkSpells
import Derived.WalkLawsBesides
import Derived.BigQuiet
import Derived.Deep.QuietTactic
import Derived.Lib.Hide
namespace Go.Proofs.Ythadhnmbddddbaa
open Go.RowKit
universe u

/-- An equation that simp takes with its proof (not by unfolding). -/
theorem nr {α : Sort u} {a b : α} (h : a = b) : a = b := h
theorem ret_int {k : IntKind} {a b : Int} (h : a = b) : Ending.returned (.int k a) = .returned (.int k b) := by rw [h]
theorem ret_bool {a b : Bool} (h : a = b) : Ending.returned (.bool a) = .returned (.bool b) := by rw [h]
theorem bcell {W w1 : World} {B : Nat} (hb : Below B W w1) : (∀ b o, b < B → w1.cell? ⟨b, o, none⟩ = W.cell? ⟨b, o, none⟩) ∧ (∀ b o, b < B → w1.frozen? ⟨b, o, none⟩ = W.frozen? ⟨b, o, none⟩) :=
  ⟨fun b o h => hb.cell (p := ⟨b, o, none⟩) h, fun b o h => hb.frozen (p := ⟨b, o, none⟩) h⟩
theorem new_block (w : World) (cs : Array Value) (T : TypeId) : (∀ i, (w.alloc (.cells cs T)).cell? ⟨w.heap.size, i, none⟩ = cs[i]?) ∧ (w.alloc (.cells cs T)).heap.size = w.heap.size + 1 ∧ Below w.heap.size w (w.alloc (.cells cs T)) :=
  ⟨fun i => World.cell?_alloc_at _ _ _ _ rfl, World.size_alloc _ _, (Below.refl _ _).alloc (Nat.le_refl _) _⟩
theorem below_alloc (w : World) (o : Obj) : Below w.heap.size w (w.alloc o) := (Below.refl _ _).alloc (Nat.le_refl _) _
theorem below_alloc_of {B : Nat} {a w : World} (h : Below B a w) (o : Obj) (hB : B ≤ a.heap.size) : Below B a (w.alloc o) := h.alloc (Nat.le_trans hB h.size) o
/-- A slice's elements lie in memory: element i is the list Ls[i] of cells, sz cells each. -/
def Arr (w : World) (A : Option Addr) (sz : Nat) (Ls : List (List Value)) : Prop :=
  0 < Ls.length → ∃ b o, A = some ⟨b, o, none⟩ ∧ b < w.heap.size ∧ ∀ i l, Ls[i]? = some l → ∀ j v, l[j]? = some v → w.cell? ⟨b, o + i * sz + j, none⟩ = some v
theorem Arr.below {w w' : World} {A : Option Addr} {sz : Nat} {Ls : List (List Value)} (h : Arr w A sz Ls) (hB : Below w.heap.size w w') : Arr w' A sz Ls := fun hn => by
  obtain ⟨b, o, e, hb, hc⟩ := h hn
  exact ⟨b, o, e, Nat.lt_of_lt_of_le hb hB.size, fun i l hl j v hv => ((bcell hB).1 _ _ hb).trans (hc i l hl j v hv)⟩
theorem Arr.drew {w : World} {A : Option Addr} {sz : Nat} {Ls : List (List Value)} (h : Arr w A sz Ls) : Arr w.drew A sz Ls := h
theorem Arr.at_ {α : Type} {enc : α → List Value} {w : World} {A : Option Addr} {sz : Nat} {L : List α} (h : Arr w A sz (L.map enc)) {k : Nat} {v : α} (hv : L[k]? = some v) :
    ∃ b o, A = some ⟨b, o, none⟩ ∧ b < w.heap.size ∧ ∀ j u, (enc v)[j]? = some u → w.cell? ⟨b, o + k * sz + j, none⟩ = some u := by
  obtain ⟨hk, _⟩ := List.getElem?_eq_some_iff.1 hv
  obtain ⟨b, o, e, hb, hc⟩ := h (by rw [List.length_map]; omega)
  exact ⟨b, o, e, hb, fun j u hu => hc k (enc v) (by rw [List.getElem?_map, hv]; rfl) j u hu⟩
end Go.Proofs.Ythadhnmbddddbaa
