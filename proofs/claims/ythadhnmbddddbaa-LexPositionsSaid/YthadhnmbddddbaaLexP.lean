/- Plain: bytes of a string as numbers; kinds of bytes; the first piece of a text. No program in sight. -/
import Derived.Test.YthadhnmbddddbaaPlain
namespace Go.Proofs.Ythadhnmbddddbaa
def bs (s : ByteArray) : List Nat := s.data.toList.map UInt8.toNat
theorem bs_len (s : ByteArray) : (bs s).length = s.size := by simp [bs]
theorem bs_lt (s : ByteArray) : ∀ c ∈ bs s, c < 256 := by
  intro c hc
  obtain ⟨b, _, rfl⟩ := List.mem_map.1 hc
  exact UInt8.toNat_lt _
theorem bt_bs (s : ByteArray) (i : Nat) : bt s i = (bs s).getD i 0 := by
  unfold bt bs
  rw [List.getD_eq_getElem?_getD, List.getD_eq_getElem?_getD, List.getElem?_map]
  cases s.data.toList[i]? <;> rfl
theorem bs_get {s : ByteArray} {i : Nat} (h : i < s.size) : (bs s)[i]? = some (bt s i) := by
  rw [bt_bs, List.getD_eq_getElem?_getD]
  have : i < (bs s).length := by rw [bs_len]; exact h
  rw [List.getElem?_eq_getElem this]; rfl
theorem bs_extract (s : ByteArray) (a b : Nat) : bs (s.extract a b) = ((bs s).drop a).take (b - a) := by
  unfold bs
  rw [ByteArray.data_extract, Array.toList_extract, List.extract_eq_take_drop, List.map_take, List.map_drop]
theorem bs_append (s t : ByteArray) : bs (s ++ t) = bs s ++ bs t := by
  unfold bs
  rw [ByteArray.data_append, Array.toList_append, List.map_append]
theorem bs_inj {s t : ByteArray} (h : bs s = bs t) : s = t := by
  apply ByteArray.ext
  apply Array.ext'
  unfold bs at h
  exact (List.map_inj_right (fun a b e => UInt8.toNat_inj.1 e)).1 h
theorem bs_empty : bs ByteArray.empty = [] := rfl
def blankB (c : Nat) : Bool := c == 32 || c == 9 || c == 13 || c == 10
def letterB (c : Nat) : Bool := decide (97 ≤ c) && decide (c ≤ 122)
def digitB (c : Nat) : Bool := decide (48 ≤ c) && decide (c ≤ 57)
def wordB (c : Nat) : Bool := letterB c || digitB c || c == 45
def remB (c : Nat) : Bool := !(c == 10)
def markB (c : Nat) : Bool := c == 123 || c == 125 || c == 59 || c == 58
def spn (q : Nat → Bool) (l : List Nat) : Nat := (l.takeWhile q).length
def badN (n c : Nat) : Bool := decide (18 < n) || (decide (1 < n) && c == 48)
/-- The kind and the length of what a text begins with: kind 0 for blanks and remarks, length 0 for an error. -/
def piece : List Nat → Nat × Nat
  | [] => (0, 0)
  | c :: r =>
    if blankB c then (0, spn blankB (c :: r))
    else if c = 35 then (0, spn remB (c :: r))
    else if letterB c then (1, spn wordB (c :: r))
    else if digitB c then (if badN (spn digitB (c :: r)) c then (2, 0) else (2, spn digitB (c :: r)))
    else if markB c then (3, 1) else (0, 0)
theorem spn_le (q : Nat → Bool) (l : List Nat) : spn q l ≤ l.length := by
  unfold spn
  induction l with
  | nil => simp
  | cons c r ih =>
    by_cases h : q c = true
    · rw [List.takeWhile_cons_of_pos h]; simpa using ih
    · rw [List.takeWhile_cons_of_neg h]; simp
theorem spn_pos {q : Nat → Bool} {c : Nat} {r : List Nat} (h : q c = true) : 1 ≤ spn q (c :: r) := by unfold spn; rw [List.takeWhile_cons_of_pos h]; simp
theorem piece_le (l : List Nat) : (piece l).2 ≤ l.length := by
  cases l with
  | nil => simp [piece]
  | cons c r =>
    rw [piece]
    have h1 := spn_le blankB (c :: r); have h2 := spn_le remB (c :: r); have h3 := spn_le wordB (c :: r); have h4 := spn_le digitB (c :: r)
    repeat' split
    all_goals simp only [List.length_cons] at *
    all_goals omega
theorem spn_at {q : Nat → Bool} : ∀ (l : List Nat) (k : Nat), k < spn q l → ∃ c, l[k]? = some c ∧ q c = true
  | [], k, h => by simp [spn] at h
  | c :: r, k, h => by
    unfold spn at h
    by_cases hq : q c = true
    · rw [List.takeWhile_cons_of_pos hq] at h
      cases k with
      | zero => exact ⟨c, rfl, hq⟩
      | succ k => obtain ⟨d, h1, h2⟩ := spn_at r k (by unfold spn; simpa using h); exact ⟨d, by simpa using h1, h2⟩
    · rw [List.takeWhile_cons_of_neg hq] at h; simp at h
/-- It is the first that is not taken. -/
theorem spn_is {q : Nat → Bool} : ∀ (l : List Nat) (k : Nat), (∀ j, j < k → ∃ c, l[j]? = some c ∧ q c = true) → (∀ c, l[k]? = some c → q c = false) → spn q l = k
  | [], k, h1, _ => by
    cases k with
    | zero => rfl
    | succ k => obtain ⟨c, h, _⟩ := h1 0 (by omega); simp at h
  | c :: r, k, h1, h2 => by
    unfold spn
    cases k with
    | zero => rw [List.takeWhile_cons_of_neg (by rw [h2 c rfl]; simp)]; rfl
    | succ k =>
      obtain ⟨d, hd, hq⟩ := h1 0 (by omega)
      simp only [List.getElem?_cons_zero, Option.some.injEq] at hd
      subst hd
      rw [List.takeWhile_cons_of_pos hq, List.length_cons]
      have := spn_is r k (fun j hj => by obtain ⟨d, h, h'⟩ := h1 (j + 1) (by omega); exact ⟨d, by simpa using h, h'⟩) (fun c hc => h2 c (by simpa using hc))
      unfold spn at this
      rw [this]
end Go.Proofs.Ythadhnmbddddbaa
