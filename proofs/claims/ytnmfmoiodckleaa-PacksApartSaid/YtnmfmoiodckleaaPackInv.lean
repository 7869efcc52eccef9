/- Plain: what holds of the state at all times: a pack's mark, what was paid. -/
import Derived.Test.YtnmfmoiodckleaaPackC
namespace Go.Proofs.Ytnmfmoiodckleaa
def anyScr (p : Int) : List Inst → List Bool → Bool
  | x :: r, b :: bs => (decide (x.pack = p) && b) || anyScr p r bs
  | _, _ => false
def paidF : List Inst → List Bool → Int × Int
  | x :: r, b :: bs => if b = true ∧ 0 < x.prize then ((paidF r bs).1 + 1, (paidF r bs).2 + x.prize) else paidF r bs
  | _, _ => (0, 0)
structure Inv (T : List Inst) (s : PSt) : Prop extends PWf T s where
  mark : ∀ (i : Nat) (q : Int × Int × Bool), s.pk[i]? = some q → q.2.2 = anyScr (i + 1) T s.scr
  paid : paidF T s.scr = (s.paid, s.sum)
theorem anyScr_set (p : Int) : ∀ (T : List Inst) (bs : List Bool) (i : Nat) (x : Inst), T[i]? = some x → i < bs.length → anyScr p T (bs.set i true) = (anyScr p T bs || decide (x.pack = p))
  | [], _, i, x, h, _ => by simp at h
  | y :: r, [], i, x, _, h => by simp at h
  | y :: r, b :: bs, 0, x, h, _ => by
    simp only [List.getElem?_cons_zero, Option.some.injEq] at h
    subst h
    simp only [List.set_cons_zero, anyScr]
    cases decide (y.pack = p) <;> cases b <;> cases anyScr p r bs <;> rfl
  | y :: r, b :: bs, i + 1, x, h, hb => by
    rw [List.getElem?_cons_succ] at h
    simp only [List.set_cons_succ, anyScr]
    rw [anyScr_set p r bs i x h (by simpa using hb), Bool.or_assoc]
theorem paidF_set : ∀ (T : List Inst) (bs : List Bool) (i : Nat) (x : Inst), T[i]? = some x → bs[i]? = some false →
    paidF T (bs.set i true) = if 0 < x.prize then ((paidF T bs).1 + 1, (paidF T bs).2 + x.prize) else paidF T bs
  | [], _, i, x, h, _ => by simp at h
  | y :: r, [], i, x, _, h => by simp at h
  | y :: r, b :: bs, 0, x, h, hb => by
    simp only [List.getElem?_cons_zero, Option.some.injEq] at h hb
    subst h hb
    simp only [List.set_cons_zero, paidF]
    by_cases hp : 0 < y.prize <;> simp [hp]
  | y :: r, b :: bs, i + 1, x, h, hb => by
    rw [List.getElem?_cons_succ] at h hb
    simp only [List.set_cons_succ, paidF]
    rw [paidF_set r bs i x h hb]
    split <;> split <;> simp <;> omega
theorem paidF_bd : ∀ (T : List Inst) (bs : List Bool), (∀ (i : Nat) (x : Inst), T[i]? = some x → 0 ≤ x.prize ∧ x.prize ≤ 1000000000000) → 0 ≤ (paidF T bs).1 ∧ (paidF T bs).1 ≤ T.length ∧ 0 ≤ (paidF T bs).2 ∧ (paidF T bs).2 ≤ T.length * 1000000000000
  | [], bs, _ => by simp [paidF]
  | x :: r, [], h => by simp [paidF]; omega
  | x :: r, b :: bs, h => by
    have ih := paidF_bd r bs fun i y hy => h (i + 1) y (by simpa using hy)
    have hx := h 0 x rfl
    simp only [paidF, List.length_cons]
    split <;> omega
theorem st0_inv {T : List Inst} {P : Nat} (h1 : ∀ (i : Nat) (x : Inst), T[i]? = some x → 1 ≤ x.pack ∧ x.pack ≤ P) (h2 : ∀ (i : Nat) (x : Inst), T[i]? = some x → 0 ≤ x.prize ∧ x.prize ≤ 1000000000000) : Inv T (st0 P T.length) := by
  have a0 : ∀ (p : Int) (T : List Inst) (n : Nat), anyScr p T (List.replicate n false) = false := by
    intro p T
    induction T with
    | nil => intro n; cases n <;> rfl
    | cons x r ih => intro n; cases n with
      | zero => rfl
      | succ n => simp [List.replicate_succ, anyScr, ih]
  have p0 : ∀ (T : List Inst) (n : Nat), paidF T (List.replicate n false) = (0, 0) := by
    intro T
    induction T with
    | nil => intro n; cases n <;> rfl
    | cons x r ih => intro n; cases n with
      | zero => rfl
      | succ n => simp [List.replicate_succ, paidF, ih]
  refine { pk := fun i x hx => by simpa [st0] using h1 i x hx, pr := h2, sl := by simp [st0], mark := fun i q hq => ?_, paid := by simp [st0, p0] }
  simp only [st0] at hq ⊢
  rw [a0]
  have := List.mem_of_getElem? hq
  rw [List.mem_replicate] at this
  rw [this.2]
end Go.Proofs.Ytnmfmoiodckleaa
