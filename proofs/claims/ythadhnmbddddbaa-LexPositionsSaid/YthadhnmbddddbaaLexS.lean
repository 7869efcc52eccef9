/- Plain: the tokens of a text. No program in sight. -/
import Derived.Test.YthadhnmbddddbaaLexP
namespace Go.Proofs.Ythadhnmbddddbaa
structure Tk where
  kind : Int
  line : Int
  col : Int
  text : ByteArray
/-- Line and column behind some bytes. -/
def step1 (p : Int × Int) (c : Nat) : Int × Int := if c = 10 then (p.1 + 1, 1) else (p.1, p.2 + 1)
def place (l : List Nat) : Int × Int := l.foldl step1 (1, 1)
def lexL : Nat → Nat → List Nat → Except Nat (List (Nat × Nat × Nat))
  | 0, _, _ => .ok []
  | _ + 1, _, [] => .ok []
  | f + 1, at_, c :: r =>
    if (piece (c :: r)).2 = 0 then .error at_
    else if (piece (c :: r)).1 = 0 then lexL f (at_ + (piece (c :: r)).2) ((c :: r).drop (piece (c :: r)).2)
    else match lexL f (at_ + (piece (c :: r)).2) ((c :: r).drop (piece (c :: r)).2) with
      | .ok T => .ok (((piece (c :: r)).1, at_, (piece (c :: r)).2) :: T)
      | .error e => .error e
def lexR (at_ : Nat) (l : List Nat) : Except Nat (List (Nat × Nat × Nat)) := lexL l.length at_ l
theorem lexL_fuel : ∀ (f g at_ : Nat) (l : List Nat), l.length ≤ f → l.length ≤ g → lexL f at_ l = lexL g at_ l
  | 0, 0, _, _, _, _ => rfl
  | 0, g + 1, _, [], _, _ => rfl
  | f + 1, 0, _, [], _, _ => rfl
  | f + 1, g + 1, _, [], _, _ => rfl
  | 0, g + 1, _, c :: r, h, _ => by simp at h
  | f + 1, 0, _, c :: r, _, h => by simp at h
  | f + 1, g + 1, at_, c :: r, h1, h2 => by
    rw [lexL, lexL]
    split
    · rfl
    · have hd : ((c :: r).drop (piece (c :: r)).2).length ≤ r.length := by rw [List.length_drop, List.length_cons]; omega
      rw [List.length_cons] at h1 h2
      rw [lexL_fuel f g _ _ (by omega) (by omega)]
theorem lexR_nil (at_ : Nat) : lexR at_ [] = .ok [] := rfl
def consR (t : Nat × Nat × Nat) : Except Nat (List (Nat × Nat × Nat)) → Except Nat (List (Nat × Nat × Nat))
  | .ok T => .ok (t :: T)
  | .error e => .error e
theorem lexR_cons (at_ c : Nat) (r : List Nat) : lexR at_ (c :: r) =
    if (piece (c :: r)).2 = 0 then .error at_
    else if (piece (c :: r)).1 = 0 then lexR (at_ + (piece (c :: r)).2) ((c :: r).drop (piece (c :: r)).2)
    else consR ((piece (c :: r)).1, at_, (piece (c :: r)).2) (lexR (at_ + (piece (c :: r)).2) ((c :: r).drop (piece (c :: r)).2)) := by
  unfold lexR
  rw [List.length_cons, lexL]
  split
  · rfl
  · have hd : ((c :: r).drop (piece (c :: r)).2).length ≤ r.length := by rw [List.length_drop, List.length_cons]; omega
    rw [lexL_fuel r.length ((c :: r).drop (piece (c :: r)).2).length _ _ hd (Nat.le_refl _)]
    rfl
def joinR (D : List (Nat × Nat × Nat)) : Except Nat (List (Nat × Nat × Nat)) → Except Nat (List (Nat × Nat × Nat))
  | .ok T => .ok (D ++ T)
  | .error e => .error e
theorem joinR_cons (D : List (Nat × Nat × Nat)) (t : Nat × Nat × Nat) (R : Except Nat (List (Nat × Nat × Nat))) : joinR D (consR t R) = joinR (D ++ [t]) R := by
  cases R <;> simp [joinR, consR]
def tokOf (s : ByteArray) (t : Nat × Nat × Nat) : Tk := ⟨t.1, (place ((bs s).take t.2.1)).1, (place ((bs s).take t.2.1)).2, s.extract t.2.1 (t.2.1 + t.2.2)⟩
def endTok (s : ByteArray) : Tk := ⟨0, (place (bs s)).1, (place (bs s)).2, ByteArray.empty⟩
/-- What Scan gives: the error, its offset, the tokens. -/
def scanE (s : ByteArray) : Int × Int × List Tk :=
  if 32768 < s.size then (3, 0, []) else match lexR 0 (bs s) with
    | .error e => (1, e, [])
    | .ok T => (0, 0, T.map (tokOf s) ++ [endTok s])
/-! Places. -/
theorem place_append (a b : List Nat) : place (a ++ b) = b.foldl step1 (place a) := by unfold place; rw [List.foldl_append]
theorem fold_plain : ∀ (b : List Nat) (p : Int × Int), (∀ c ∈ b, c ≠ 10) → b.foldl step1 p = (p.1, p.2 + b.length)
  | [], p, _ => by simp
  | c :: r, p, h => by
    rw [List.foldl_cons, fold_plain r _ fun d hd => h d (by simp [hd])]
    unfold step1
    rw [if_neg (h c (by simp))]
    simp only [List.length_cons, Prod.mk.injEq, true_and]
    omega
theorem fold_line : ∀ (b : List Nat) (p : Int × Int), (b.foldl step1 p).1 = p.1 + b.count 10
  | [], p => by simp
  | c :: r, p => by
    rw [List.foldl_cons, fold_line r]
    unfold step1
    by_cases h : c = 10
    · subst h
      rw [if_pos rfl, List.count_cons_self]; simp only; omega
    · rw [if_neg h, List.count_cons_of_ne h]
/-- The column behind text whose last line feed stands at k. -/
theorem fold_col (b : List Nat) (p : Int × Int) (k : Nat) (hk : b[k]? = some 10) (hn : ∀ j, k < j → b[j]? ≠ some 10) : (b.foldl step1 p).2 = b.length - k := by
  have hkl := (List.getElem?_eq_some_iff.1 hk).1
  have e : b = b.take k ++ 10 :: b.drop (k + 1) := by
    have h1 := List.getElem?_eq_some_iff.1 hk
    obtain ⟨h1, h2⟩ := h1
    conv => lhs; rw [← List.take_append_drop k b, List.drop_eq_getElem_cons h1, h2]
  have hd : ∀ c ∈ b.drop (k + 1), c ≠ 10 := by
    intro c hc e2
    subst e2
    obtain ⟨i, hi⟩ := List.mem_iff_getElem?.1 hc
    rw [List.getElem?_drop] at hi
    exact hn _ (by omega) hi
  rw [e, List.foldl_append, List.foldl_cons, fold_plain _ _ hd]
  have : step1 (List.foldl step1 p (b.take k)) 10 = ((List.foldl step1 p (b.take k)).1 + 1, 1) := by unfold step1; rw [if_pos rfl]
  rw [this]
  simp only [List.length_append, List.length_take, List.length_cons, List.length_drop]
  omega
/-- A piece that is a token holds no line feed. -/
theorem piece_plain (l : List Nat) (h : (piece l).1 ≠ 0) : ∀ c ∈ l.take (piece l).2, c ≠ 10 := by
  have key : ∀ (q : Nat → Bool), q 10 = false → ∀ c ∈ l.take (spn q l), c ≠ 10 := by
    intro q hq c hc e
    subst e
    obtain ⟨i, hi⟩ := List.mem_iff_getElem?.1 hc
    rw [List.getElem?_take] at hi
    split at hi
    · rename_i hil
      obtain ⟨d, hd, hqd⟩ := spn_at l i hil
      rw [hi] at hd
      injection hd with hd
      subst hd
      rw [hq] at hqd; cases hqd
    · cases hi
  cases l with
  | nil => intro c hc; simp at hc
  | cons a r =>
    rw [piece] at h ⊢
    split at h
    · simp at h
    · split at h
      · simp at h
      · rename_i h1 h2
        rw [if_neg h1, if_neg h2]
        split at h
        · rename_i h3; rw [if_pos h3]; exact key wordB (by decide)
        · rename_i h3
          rw [if_neg h3]
          split at h
          · rename_i h4
            rw [if_pos h4]
            split
            · intro c hc; simp at hc
            · exact key digitB (by decide)
          · rename_i h4
            rw [if_neg h4]
            split at h
            · rename_i h5
              rw [if_pos h5]
              intro c hc
              simp only [List.take_succ_cons, List.take_zero, List.mem_cons, List.not_mem_nil, or_false] at hc
              subst hc
              intro e
              subst e
              exact absurd h5 (by decide)
            · simp at h
end Go.Proofs.Ythadhnmbddddbaa
