/- The plain specification of a plan's check: names, levels. No program in sight. -/
import Derived.Test.YtnmfmoiodckleaaPlain
namespace Go.Proofs.Ytnmfmoiodckleaa

def nmLow (c : Int) : Bool := decide (97 ≤ c) && decide (c ≤ 122)
def nmMore (c : Int) : Bool := (decide (48 ≤ c) && decide (c ≤ 57)) || decide (c = 45)
def nmAt (i : Nat) (c : Int) : Bool := nmLow c || (decide (0 < i) && nmMore c)
def nmUpto (s : ByteArray) (k : Nat) : Prop := ∀ j, j < k → nmAt j (bt s j) = true
def nameB (s : ByteArray) : Bool := decide (1 ≤ s.size) && decide (s.size ≤ 24) && (List.range s.size).all fun j => nmAt j (bt s j)
theorem nmAt_yes {i : Nat} {c : Int} (h : (97 ≤ c ∧ c ≤ 122) ∨ (0 < i ∧ ((48 ≤ c ∧ c ≤ 57) ∨ c = 45))) : nmAt i c = true := by
  simp only [nmAt, nmLow, nmMore, Bool.or_eq_true, Bool.and_eq_true, decide_eq_true_eq]; exact h
theorem nmAt_no {i : Nat} {c : Int} (h : ¬ ((97 ≤ c ∧ c ≤ 122) ∨ (0 < i ∧ ((48 ≤ c ∧ c ≤ 57) ∨ c = 45)))) : nmAt i c = false := by
  rw [Bool.eq_false_iff]; intro e; apply h
  simpa only [nmAt, nmLow, nmMore, Bool.or_eq_true, Bool.and_eq_true, decide_eq_true_eq] using e
theorem nmUpto_zero (s : ByteArray) : nmUpto s 0 := fun _ hj => absurd hj (Nat.not_lt_zero _)
theorem nmUpto_succ {s : ByteArray} {k : Nat} (h : nmUpto s k) (hc : nmAt k (bt s k) = true) : nmUpto s (k + 1) := by
  intro j hj
  rcases Nat.lt_or_eq_of_le (Nat.lt_succ_iff.1 hj) with h1 | rfl
  · exact h j h1
  · exact hc
theorem nameB_yes {s : ByteArray} {k : Nat} (h1 : 1 ≤ s.size) (h2 : s.size ≤ 24) (hk : s.size ≤ k) (h : nmUpto s k) : nameB s = true := by
  simp only [nameB, Bool.and_eq_true, decide_eq_true_eq, List.all_eq_true, List.mem_range]
  exact ⟨⟨h1, h2⟩, fun j hj => h j (by omega)⟩
theorem nameB_no {s : ByteArray} {k : Nat} (hk : k < s.size) (hc : nmAt k (bt s k) = false) : nameB s = false := by
  rw [Bool.eq_false_iff]; intro e
  simp only [nameB, Bool.and_eq_true, decide_eq_true_eq, List.all_eq_true, List.mem_range] at e
  have := e.2 k hk
  rw [this] at hc; cases hc
theorem nameB_short {s : ByteArray} (h : s.size < 1) : nameB s = false := by
  rw [Bool.eq_false_iff]; intro e
  simp only [nameB, Bool.and_eq_true, decide_eq_true_eq] at e
  omega
theorem nameB_long {s : ByteArray} (h : 24 < s.size) : nameB s = false := by
  rw [Bool.eq_false_iff]; intro e
  simp only [nameB, Bool.and_eq_true, decide_eq_true_eq] at e
  omega

/-- A level: prize, count, pack. -/
structure Lvl where
  prize : Int
  count : Int
  pack : Int
def Lvl.bad (P S before : Int) (v : Lvl) : Prop := v.prize < 1 ∨ before ≤ v.prize ∨ v.count < 1 ∨ P * S < v.count ∨ v.pack < 0 ∨ S < v.pack
instance (P S before : Int) (v : Lvl) : Decidable (v.bad P S before) := by unfold Lvl.bad; exact inferInstance
def chkL (P S : Int) : Int → Int → Int → List Lvl → Int
  | _, counts, packs, [] => if P * S < counts ∨ S < packs then 30 else 0
  | before, counts, packs, v :: r =>
    if v.bad P S before then 2
    else if v.count < v.pack * P then 30
    else chkL P S v.prize (counts + v.count) (packs + v.pack) r
/-- The error of a plan. -/
def chk (name : ByteArray) (price P S : Int) (L : List Lvl) : Int :=
  if nameB name = false then 4
  else if price < 1 ∨ 1000000 < price ∨ P < 1 ∨ 32 < P ∨ S < 1 ∨ 256 < S then 2
  else if L.length < 1 ∨ 12 < L.length then 3
  else chkL P S 1000000001 0 0 L
theorem chkL_step {P S before counts packs : Int} {L : List Lvl} {k : Nat} {v : Lvl} (h : L[k]? = some v) :
    chkL P S before counts packs (L.drop k) = if v.bad P S before then 2 else if v.count < v.pack * P then 30
      else chkL P S v.prize (counts + v.count) (packs + v.pack) (L.drop (k + 1)) := by
  obtain ⟨hk, rfl⟩ := List.getElem?_eq_some_iff.1 h
  rw [List.drop_eq_getElem_cons hk, chkL]
theorem bad_yes {P S before : Int} {v : Lvl} (h : v.prize < 1 ∨ before ≤ v.prize ∨ v.count < 1 ∨ P * S < v.count ∨ v.pack < 0 ∨ S < v.pack) : v.bad P S before := h
theorem bad_no {P S before : Int} {v : Lvl} (h : ¬ (v.prize < 1 ∨ before ≤ v.prize ∨ v.count < 1 ∨ P * S < v.count ∨ v.pack < 0 ∨ S < v.pack)) : ¬ v.bad P S before := h
theorem chkL_end (P S before counts packs : Int) (L : List Lvl) (k : Nat) (h : L.length ≤ k) :
    chkL P S before counts packs (L.drop k) = if P * S < counts ∨ S < packs then 30 else 0 := by
  rw [List.drop_eq_nil_of_le h, chkL]
end Go.Proofs.Ytnmfmoiodckleaa
