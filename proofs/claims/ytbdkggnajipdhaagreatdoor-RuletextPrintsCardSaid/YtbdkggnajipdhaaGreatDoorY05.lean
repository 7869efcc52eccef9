/- Texts laid one behind the other: DeckSpec, LexP, NumP, ScrP, DkP, LexS, DkQ, DkR, DkS, LexL. Each says at its head what it proves. -/
import Derived.Test.YtbdkggnajipdhaaGreatDoorY04
import Derived.Lib.ItoaLen
set_option linter.unusedSimpArgs false
/- The plain specification of a plan's check: names, levels. No program in sight. -/
namespace Go.Proofs.YtbdkggnajipdhaaGreatDoor

def nmLow (c : Int) : Bool := decide (97 ≤ c) && decide (c ≤ 122)
def nmMore (c : Int) : Bool := (decide (48 ≤ c) && decide (c ≤ 57)) || decide (c = 45)
def nmAt (i : Nat) (c : Int) : Bool := nmLow c || (decide (0 < i) && nmMore c)
def nmUpto (s : ByteArray) (k : Nat) : Prop := ∀ j, j < k → nmAt j (bt s j) = true
def nameB (s : ByteArray) : Bool := decide (1 ≤ s.size) && decide (s.size ≤ 24) && (List.range s.size).all fun j => nmAt j (bt s j)
theorem nmAt_yes {i : Nat} {c : Int} (h : (97 ≤ c ∧ c ≤ 122) ∨ (0 < i ∧ ((48 ≤ c ∧ c ≤ 57) ∨ c = 45))) : nmAt i c = true := by
  simp only [nmAt, nmLow, nmMore, Bool.or_eq_true, Bool.and_eq_true, decide_eq_true_eq]; exact h
theorem nmAt_no {i : Nat} {c : Int} (h : ¬ ((97 ≤ c ∧ c ≤ 122) ∨ (0 < i ∧ ((48 ≤ c ∧ c ≤ 57) ∨ c = 45)))) : nmAt i c = false := by
  rw [Bool.eq_false_iff]; intro e; apply h
  simpa only [nmAt, nmLow, nmMore, Bool.or_eq_true, Bool.and_eq_true, decide_eq_true_eq] using e
theorem nmUpto_zero (s : ByteArray) : nmUpto s 0 := fun _ hj => absurd hj (Nat.not_lt_zero _)
theorem nmUpto_succ {s : ByteArray} {k : Nat} (h : nmUpto s k) (hc : nmAt k (bt s k) = true) : nmUpto s (k + 1) := by
  intro j hj
  rcases Nat.lt_or_eq_of_le (Nat.lt_succ_iff.1 hj) with h1 | rfl
  · exact h j h1
  · exact hc
theorem nameB_yes {s : ByteArray} {k : Nat} (h1 : 1 ≤ s.size) (h2 : s.size ≤ 24) (hk : s.size ≤ k) (h : nmUpto s k) : nameB s = true := by
  simp only [nameB, Bool.and_eq_true, decide_eq_true_eq, List.all_eq_true, List.mem_range]
  exact ⟨⟨h1, h2⟩, fun j hj => h j (by omega)⟩
theorem nameB_no {s : ByteArray} {k : Nat} (hk : k < s.size) (hc : nmAt k (bt s k) = false) : nameB s = false := by
  rw [Bool.eq_false_iff]; intro e
  simp only [nameB, Bool.and_eq_true, decide_eq_true_eq, List.all_eq_true, List.mem_range] at e
  have := e.2 k hk
  rw [this] at hc; cases hc
theorem nameB_short {s : ByteArray} (h : s.size < 1) : nameB s = false := by
  rw [Bool.eq_false_iff]; intro e
  simp only [nameB, Bool.and_eq_true, decide_eq_true_eq] at e
  omega
theorem nameB_long {s : ByteArray} (h : 24 < s.size) : nameB s = false := by
  rw [Bool.eq_false_iff]; intro e
  simp only [nameB, Bool.and_eq_true, decide_eq_true_eq] at e
  omega

/-- A level: prize, count, pack. -/
structure Lvl where
  prize : Int
  count : Int
  pack : Int
def Lvl.bad (P S before : Int) (v : Lvl) : Prop := v.prize < 1 ∨ before ≤ v.prize ∨ v.count < 1 ∨ P * S < v.count ∨ v.pack < 0 ∨ S < v.pack
instance (P S before : Int) (v : Lvl) : Decidable (v.bad P S before) := by unfold Lvl.bad; exact inferInstance
def chkL (P S : Int) : Int → Int → Int → List Lvl → Int
  | _, counts, packs, [] => if P * S < counts ∨ S < packs then 30 else 0
  | before, counts, packs, v :: r =>
    if v.bad P S before then 2
    else if v.count < v.pack * P then 30
    else chkL P S v.prize (counts + v.count) (packs + v.pack) r
/-- The error of a plan. -/
def chk (name : ByteArray) (price P S : Int) (L : List Lvl) : Int :=
  if nameB name = false then 4
  else if price < 1 ∨ 1000000 < price ∨ P < 1 ∨ 32 < P ∨ S < 1 ∨ 256 < S then 2
  else if L.length < 1 ∨ 12 < L.length then 3
  else chkL P S 1000000001 0 0 L
theorem chkL_step {P S before counts packs : Int} {L : List Lvl} {k : Nat} {v : Lvl} (h : L[k]? = some v) :
    chkL P S before counts packs (L.drop k) = if v.bad P S before then 2 else if v.count < v.pack * P then 30
      else chkL P S v.prize (counts + v.count) (packs + v.pack) (L.drop (k + 1)) := by
  obtain ⟨hk, rfl⟩ := List.getElem?_eq_some_iff.1 h
  rw [List.drop_eq_getElem_cons hk, chkL]
theorem bad_yes {P S before : Int} {v : Lvl} (h : v.prize < 1 ∨ before ≤ v.prize ∨ v.count < 1 ∨ P * S < v.count ∨ v.pack < 0 ∨ S < v.pack) : v.bad P S before := h
theorem bad_no {P S before : Int} {v : Lvl} (h : ¬ (v.prize < 1 ∨ before ≤ v.prize ∨ v.count < 1 ∨ P * S < v.count ∨ v.pack < 0 ∨ S < v.pack)) : ¬ v.bad P S before := h
theorem chkL_end (P S before counts packs : Int) (L : List Lvl) (k : Nat) (h : L.length ≤ k) :
    chkL P S before counts packs (L.drop k) = if P * S < counts ∨ S < packs then 30 else 0 := by
  rw [List.drop_eq_nil_of_le h, chkL]
end Go.Proofs.YtbdkggnajipdhaaGreatDoor
/- Plain: bytes of a string as numbers; kinds of bytes; the first piece of a text. No program in sight. -/
namespace Go.Proofs.YtbdkggnajipdhaaGreatDoor
def bs (s : ByteArray) : List Nat := s.data.toList.map UInt8.toNat
theorem bs_len (s : ByteArray) : (bs s).length = s.size := by simp [bs]
theorem bs_lt (s : ByteArray) : ∀ c ∈ bs s, c < 256 := by
  intro c hc
  obtain ⟨b, _, rfl⟩ := List.mem_map.1 hc
  exact UInt8.toNat_lt _
theorem bt_bs (s : ByteArray) (i : Nat) : bt s i = (bs s).getD i 0 := by
  unfold bt bs
  rw [List.getD_eq_getElem?_getD, List.getD_eq_getElem?_getD, List.getElem?_map]
  cases s.data.toList[i]? <;> rfl
theorem bs_get {s : ByteArray} {i : Nat} (h : i < s.size) : (bs s)[i]? = some (bt s i) := by
  rw [bt_bs, List.getD_eq_getElem?_getD]
  have : i < (bs s).length := by rw [bs_len]; exact h
  rw [List.getElem?_eq_getElem this]; rfl
theorem bs_extract (s : ByteArray) (a b : Nat) : bs (s.extract a b) = ((bs s).drop a).take (b - a) := by
  unfold bs
  rw [ByteArray.data_extract, Array.toList_extract, List.extract_eq_take_drop, List.map_take, List.map_drop]
theorem bs_append (s t : ByteArray) : bs (s ++ t) = bs s ++ bs t := by
  unfold bs
  rw [ByteArray.data_append, Array.toList_append, List.map_append]
theorem bs_inj {s t : ByteArray} (h : bs s = bs t) : s = t := by
  apply ByteArray.ext
  apply Array.ext'
  unfold bs at h
  exact (List.map_inj_right (fun a b e => UInt8.toNat_inj.1 e)).1 h
theorem bs_empty : bs ByteArray.empty = [] := rfl
def blankB (c : Nat) : Bool := c == 32 || c == 9 || c == 13 || c == 10
def letterB (c : Nat) : Bool := decide (97 ≤ c) && decide (c ≤ 122)
def digitB (c : Nat) : Bool := decide (48 ≤ c) && decide (c ≤ 57)
def wordB (c : Nat) : Bool := letterB c || digitB c || c == 45
def remB (c : Nat) : Bool := !(c == 10)
def markB (c : Nat) : Bool := c == 123 || c == 125 || c == 59 || c == 58
def spn (q : Nat → Bool) (l : List Nat) : Nat := (l.takeWhile q).length
def badN (n c : Nat) : Bool := decide (18 < n) || (decide (1 < n) && c == 48)
/-- The kind and the length of what a text begins with: kind 0 for blanks and remarks, length 0 for an error. -/
def piece : List Nat → Nat × Nat
  | [] => (0, 0)
  | c :: r =>
    if blankB c then (0, spn blankB (c :: r))
    else if c = 35 then (0, spn remB (c :: r))
    else if letterB c then (1, spn wordB (c :: r))
    else if digitB c then (if badN (spn digitB (c :: r)) c then (2, 0) else (2, spn digitB (c :: r)))
    else if markB c then (3, 1) else (0, 0)
theorem spn_le (q : Nat → Bool) (l : List Nat) : spn q l ≤ l.length := by
  unfold spn
  induction l with
  | nil => simp
  | cons c r ih =>
    by_cases h : q c = true
    · rw [List.takeWhile_cons_of_pos h]; simpa using ih
    · rw [List.takeWhile_cons_of_neg h]; simp
theorem spn_pos {q : Nat → Bool} {c : Nat} {r : List Nat} (h : q c = true) : 1 ≤ spn q (c :: r) := by unfold spn; rw [List.takeWhile_cons_of_pos h]; simp
theorem piece_le (l : List Nat) : (piece l).2 ≤ l.length := by
  cases l with
  | nil => simp [piece]
  | cons c r =>
    rw [piece]
    have h1 := spn_le blankB (c :: r); have h2 := spn_le remB (c :: r); have h3 := spn_le wordB (c :: r); have h4 := spn_le digitB (c :: r)
    repeat' split
    all_goals simp only [List.length_cons] at *
    all_goals omega
theorem spn_at {q : Nat → Bool} : ∀ (l : List Nat) (k : Nat), k < spn q l → ∃ c, l[k]? = some c ∧ q c = true
  | [], k, h => by simp [spn] at h
  | c :: r, k, h => by
    unfold spn at h
    by_cases hq : q c = true
    · rw [List.takeWhile_cons_of_pos hq] at h
      cases k with
      | zero => exact ⟨c, rfl, hq⟩
      | succ k => obtain ⟨d, h1, h2⟩ := spn_at r k (by unfold spn; simpa using h); exact ⟨d, by simpa using h1, h2⟩
    · rw [List.takeWhile_cons_of_neg hq] at h; simp at h
/-- It is the first that is not taken. -/
theorem spn_is {q : Nat → Bool} : ∀ (l : List Nat) (k : Nat), (∀ j, j < k → ∃ c, l[j]? = some c ∧ q c = true) → (∀ c, l[k]? = some c → q c = false) → spn q l = k
  | [], k, h1, _ => by
    cases k with
    | zero => rfl
    | succ k => obtain ⟨c, h, _⟩ := h1 0 (by omega); simp at h
  | c :: r, k, h1, h2 => by
    unfold spn
    cases k with
    | zero => rw [List.takeWhile_cons_of_neg (by rw [h2 c rfl]; simp)]; rfl
    | succ k =>
      obtain ⟨d, hd, hq⟩ := h1 0 (by omega)
      simp only [List.getElem?_cons_zero, Option.some.injEq] at hd
      subst hd
      rw [List.takeWhile_cons_of_pos hq, List.length_cons]
      have := spn_is r k (fun j hj => by obtain ⟨d, h, h'⟩ := h1 (j + 1) (by omega); exact ⟨d, by simpa using h, h'⟩) (fun c hc => h2 c (by simpa using hc))
      unfold spn at this
      rw [this]
end Go.Proofs.YtbdkggnajipdhaaGreatDoor
/- Plain: decimal numbers, written and read. No program in sight. -/
namespace Go.Proofs.YtbdkggnajipdhaaGreatDoor
/-! Numbers. -/
def dec (u : Nat) : List Nat := (Lib.decDigits u).map UInt8.toNat
def fmtI (n : Int) : List Nat := (Lib.itoa n).map UInt8.toNat
def decOK : List Nat → Bool
  | [] => false
  | c :: r => (c != 48 || r.isEmpty) && (c :: r).all digitB
def valD (a : Nat) (l : List Nat) : Nat := l.foldl (fun a c => a * 10 + (c - 48)) a
def negB : List Nat → Bool
  | 45 :: _ => true
  | _ => false
def magL (l : List Nat) : List Nat := if negB l then l.drop 1 else l
def numE (l : List Nat) : Int × Int :=
  if decOK (magL l) = false ∨ (negB l = true ∧ magL l = [48]) then (0, 1)
  else if negB l then (if 9223372036854775808 < valD 0 (magL l) then (0, 9) else (-(valD 0 (magL l) : Int), 0))
  else if 9223372036854775807 < valD 0 (magL l) then (0, 9) else ((valD 0 (magL l) : Int), 0)
theorem dec_lt {u : Nat} (h : u < 10) : dec u = [48 + u] := by
  unfold dec
  rw [Lib.decDigits, dif_pos h]
  simp only [List.map_cons, List.map_nil, UInt8.toNat_ofNat']
  congr 1
  omega
theorem dec_ge {u : Nat} (h : ¬ u < 10) : dec u = dec (u / 10) ++ [48 + u % 10] := by
  unfold dec
  rw [Lib.decDigits, dif_neg h]
  simp only [List.map_append, List.map_cons, List.map_nil, UInt8.toNat_ofNat']
  congr 2
  omega
theorem dec_all : ∀ (u : Nat), ∀ c ∈ dec u, 48 ≤ c ∧ c ≤ 57 := by
  intro u
  induction u using Nat.strongRecOn with
  | _ u ih =>
    intro c hc
    by_cases h : u < 10
    · rw [dec_lt h] at hc
      simp at hc
      omega
    · rw [dec_ge h, List.mem_append] at hc
      rcases hc with hc | hc
      · exact ih (u / 10) (by omega) c hc
      · simp at hc
        omega
theorem dec_head : ∀ (u : Nat), 0 < u → ∃ c r, dec u = c :: r ∧ c ≠ 48 := by
  intro u
  induction u using Nat.strongRecOn with
  | _ u ih =>
    intro h0
    by_cases h : u < 10
    · exact ⟨_, [], dec_lt h, by omega⟩
    · obtain ⟨c, r, h1, h2⟩ := ih (u / 10) (by omega) (by omega)
      exact ⟨c, r ++ [48 + u % 10], by rw [dec_ge h, h1]; rfl, h2⟩
theorem dec_ne (u : Nat) : dec u ≠ [] := by
  by_cases h : u < 10
  · rw [dec_lt h]; simp
  · rw [dec_ge h]; simp
theorem valD_dec : ∀ (u : Nat), valD 0 (dec u) = u := by
  intro u
  induction u using Nat.strongRecOn with
  | _ u ih =>
    by_cases h : u < 10
    · rw [dec_lt h]; simp [valD]
    · have h' := ih (u / 10) (by omega)
      rw [dec_ge h]
      unfold valD at h' ⊢
      rw [List.foldl_append, h']
      simp only [List.foldl_cons, List.foldl_nil]
      omega
theorem all_digit {l : List Nat} (h : ∀ c ∈ l, 48 ≤ c ∧ c ≤ 57) : l.all digitB = true := by
  rw [List.all_eq_true]
  intro c hc
  unfold digitB
  simp [h c hc]
theorem decOK_dec (u : Nat) : decOK (dec u) = true := by
  by_cases h : u < 10
  · rw [dec_lt h]
    have := dec_all u
    rw [dec_lt h] at this
    show ((48 + u != 48 || true) && List.all _ digitB) = true
    rw [all_digit this]
    simp
  · obtain ⟨c, r, h1, h2⟩ := dec_head u (by omega)
    have := dec_all u
    rw [h1] at this ⊢
    show ((c != 48 || r.isEmpty) && List.all _ digitB) = true
    rw [all_digit this]
    simp [h2]
theorem negB_dec (u : Nat) : negB (dec u) = false := by
  have h := dec_all u
  cases hd : dec u with
  | nil => rfl
  | cons c r =>
    rw [hd] at h
    have := h c (by simp)
    unfold negB
    split
    · rename_i e; injection e with e _; omega
    · rfl
theorem fmtI_nonneg {n : Int} (h : 0 ≤ n) : fmtI n = dec n.toNat := by unfold fmtI Lib.itoa dec; rw [if_neg (by omega)]
theorem fmtI_neg {n : Int} (h : n < 0) : fmtI n = 45 :: dec n.natAbs := by unfold fmtI Lib.itoa dec; rw [if_pos h]; rfl
theorem numE_fmt {n : Int} (h0 : -9223372036854775808 ≤ n) (h1 : n ≤ 9223372036854775807) : numE (fmtI n) = (n, 0) := by
  by_cases h : n < 0
  · have hm : magL (45 :: dec n.natAbs) = dec n.natAbs := rfl
    have hn : negB (45 :: dec n.natAbs) = true := rfl
    have hz : dec n.natAbs ≠ [48] := by
      obtain ⟨c, r, h2, h3⟩ := dec_head n.natAbs (by omega)
      rw [h2]
      intro e
      injection e with e _
      exact h3 e
    rw [fmtI_neg h]
    unfold numE
    rw [hm, hn, decOK_dec, valD_dec, if_neg (by simp [hz]), if_pos rfl, if_neg (by omega)]
    simp only [Prod.mk.injEq, and_true]
    omega
  · have hm : magL (dec n.toNat) = dec n.toNat := by unfold magL; rw [negB_dec]; rfl
    rw [fmtI_nonneg (by omega)]
    unfold numE
    rw [hm, negB_dec, decOK_dec, valD_dec, if_neg (by simp), if_neg (by simp), if_neg (by omega)]
    simp only [Prod.mk.injEq, and_true]
    omega
theorem fmtI_ne (n : Int) : fmtI n ≠ [] := by
  by_cases h : n < 0
  · rw [fmtI_neg h]; simp
  · rw [fmtI_nonneg (by omega)]; exact dec_ne _
theorem fmtI_all (n : Int) : ∀ c ∈ fmtI n, (48 ≤ c ∧ c ≤ 57) ∨ c = 45 := by
  intro c hc
  by_cases h : n < 0
  · rw [fmtI_neg h, List.mem_cons] at hc
    rcases hc with hc | hc
    · exact .inr hc
    · exact .inl (dec_all _ c hc)
  · rw [fmtI_nonneg (by omega)] at hc
    exact .inl (dec_all _ c hc)
theorem valD_cons (a c : Nat) (l : List Nat) : valD a (c :: l) = valD (a * 10 + (c - 48)) l := List.foldl_cons ..
theorem valD_append (a : Nat) (l m : List Nat) : valD a (l ++ m) = valD (valD a l) m := List.foldl_append
theorem valD_ge : ∀ (l : List Nat) (a : Nat), a ≤ valD a l
  | [], a => Nat.le_refl _
  | c :: l, a => by have := valD_ge l (a * 10 + (c - 48)); rw [valD_cons]; omega
theorem valD_take (l : List Nat) (k : Nat) : valD 0 (l.take k) ≤ valD 0 l := by
  conv => rhs; rw [← List.take_append_drop k l, valD_append]
  exact valD_ge _ _
theorem valD_step {l : List Nat} {k c : Nat} (h : l[k]? = some c) : valD 0 (l.take (k + 1)) = valD 0 (l.take k) * 10 + (c - 48) := by
  rw [List.take_add_one, h, valD_append]
  exact valD_cons _ _ _
theorem decOK_cons (c : Nat) (r : List Nat) : decOK (c :: r) = ((c != 48 || r.isEmpty) && (c :: r).all digitB) := rfl
theorem digitB_iff {c : Nat} : digitB c = true ↔ 48 ≤ c ∧ c ≤ 57 := by unfold digitB; simp
theorem decOK_all {l : List Nat} (h : decOK l = true) : ∀ c ∈ l, 48 ≤ c ∧ c ≤ 57 := by
  cases l with
  | nil => cases h
  | cons c r =>
    rw [decOK_cons, Bool.and_eq_true, List.all_eq_true] at h
    exact fun d hd => digitB_iff.1 (h.2 d hd)
theorem decOK_pos {l : List Nat} (h : decOK l = true) (h0 : l ≠ [48]) : 1 ≤ valD 0 l := by
  cases l with
  | nil => cases h
  | cons c r =>
    have h1 := decOK_all h c (by simp)
    rw [decOK_cons, Bool.and_eq_true, Bool.or_eq_true] at h
    have hc : c ≠ 48 := by
      rintro rfl
      rcases h.1 with h2 | h2
      · simp at h2
      · exact h0 (by rw [List.isEmpty_iff.1 h2])
    have := valD_ge r (0 * 10 + (c - 48))
    rw [valD_cons]
    omega
theorem decOK_bad {l : List Nat} {k c : Nat} (h : l[k]? = some c) (hc : ¬ (48 ≤ c ∧ c ≤ 57)) : decOK l = false := by
  cases hd : decOK l with
  | false => rfl
  | true => exact absurd (decOK_all hd c (List.mem_of_getElem? h)) hc
theorem decOK_zero {l : List Nat} (h : l[0]? = some 48) (h1 : 1 < l.length) : decOK l = false := by
  cases l with
  | nil => rfl
  | cons c r =>
    simp only [List.getElem?_cons_zero, Option.some.injEq] at h
    subst h
    cases r with
    | nil => simp at h1
    | cons d r => rw [decOK_cons]; simp
theorem decOK_yes {l : List Nat} (h0 : l ≠ []) (h1 : ¬ (l[0]? = some 48 ∧ 1 < l.length)) (h2 : ∀ (k c : Nat), l[k]? = some c → 48 ≤ c ∧ c ≤ 57) : decOK l = true := by
  cases l with
  | nil => exact absurd rfl h0
  | cons c r =>
    rw [decOK_cons, Bool.and_eq_true]
    refine ⟨?_, all_digit fun d hd => ?_⟩
    · by_cases hc : c = 48
      · subst hc
        cases r with
        | nil => simp
        | cons d r => exact absurd ⟨rfl, by simp⟩ h1
      · simp [hc]
    · obtain ⟨k, hk⟩ := List.mem_iff_getElem?.1 hd
      exact h2 k d hk
def limN (ng : Bool) : Nat := if ng then 9223372036854775808 else 9223372036854775807
theorem numE_bad {l : List Nat} (h : decOK (magL l) = false ∨ (negB l = true ∧ magL l = [48])) : numE l = (0, 1) := by unfold numE; rw [if_pos h]
theorem numE_over {l : List Nat} (h : ¬ (decOK (magL l) = false ∨ (negB l = true ∧ magL l = [48]))) (h1 : limN (negB l) < valD 0 (magL l)) : numE l = (0, 9) := by
  unfold numE
  rw [if_neg h]
  cases hn : negB l <;> rw [hn] at h1 <;> unfold limN at h1 <;> simp only [Bool.false_eq_true, if_false, if_true] at h1 ⊢ <;> rw [if_pos h1]
theorem numE_in {l : List Nat} (h : ¬ (decOK (magL l) = false ∨ (negB l = true ∧ magL l = [48]))) (h1 : valD 0 (magL l) ≤ limN (negB l)) : numE l = (if negB l then -(valD 0 (magL l) : Int) else valD 0 (magL l), 0) := by
  unfold numE
  rw [if_neg h]
  cases hn : negB l <;> rw [hn] at h1 <;> unfold limN at h1 <;> simp only [Bool.false_eq_true, if_false, if_true] at h1 ⊢ <;> rw [if_neg (by omega)]
end Go.Proofs.YtbdkggnajipdhaaGreatDoor
/- Plain: commands, their forms, their texts. No program in sight. -/
namespace Go.Proofs.YtbdkggnajipdhaaGreatDoor
/-- A command. -/
structure Cm where
  kind : Int
  at_ : Int
  who : Int
  a : Int
  b : Int
  name : ByteArray
  text : ByteArray
  nums : List Int
  key : Int
  nonce : Int
def Cm.zero : Cm := ⟨0, 0, 0, 0, 0, ByteArray.empty, ByteArray.empty, [], 0, 0⟩
def Cm.ok (c : Cm) : Prop := (-9223372036854775808 ≤ c.kind ∧ c.kind ≤ 9223372036854775807) ∧ (-9223372036854775808 ≤ c.at_ ∧ c.at_ ≤ 9223372036854775807) ∧ (-9223372036854775808 ≤ c.who ∧ c.who ≤ 9223372036854775807) ∧
  (-9223372036854775808 ≤ c.a ∧ c.a ≤ 9223372036854775807) ∧ (-9223372036854775808 ≤ c.b ∧ c.b ≤ 9223372036854775807) ∧ (∀ n ∈ c.nums, -9223372036854775808 ≤ n ∧ n ≤ 9223372036854775807) ∧
  (0 ≤ c.key ∧ c.key ≤ 18446744073709551615) ∧ (0 ≤ c.nonce ∧ c.nonce ≤ 18446744073709551615)
structure Fm where
  kind : Int
  word : List Nat
  fields : List Nat
  nums : Int
deriving DecidableEq
def asc (s : String) : List Nat := s.toList.map Char.toNat
def fmT : List Fm := [⟨1, asc "game", asc "abt", 0⟩, ⟨2, asc "retailer", asc "wl", 5⟩, ⟨3, asc "player", asc "wa", 0⟩, ⟨4, asc "limit", asc "wl", 3⟩, ⟨5, asc "exclude", asc "wab", 0⟩,
  ⟨6, asc "sell", asc "wabnt", 0⟩, ⟨7, asc "cancel", asc "wt", 0⟩, ⟨8, asc "commit", asc "nawk", 0⟩, ⟨9, asc "reveal", asc "nawko", 0⟩, ⟨10, asc "balls", asc "nawl", -1⟩,
  ⟨11, asc "abort", asc "na", 0⟩, ⟨12, asc "settle", asc "na", 0⟩, ⟨13, asc "claim", asc "wt", 0⟩, ⟨14, asc "expire", asc "", 0⟩, ⟨15, asc "period", asc "w", 0⟩,
  ⟨16, asc "deck", asc "kt", 0⟩, ⟨17, asc "pack", asc "nawb", 0⟩, ⟨18, asc "scratch", asc "nwt", 0⟩, ⟨19, asc "debt", asc "wnab", 0⟩, ⟨20, asc "chance", asc "nakb", 0⟩]
def fmOf (k : Int) : Option Fm := fmT.find? fun f => f.kind == k
def fmNamed (l : List Nat) : Option Fm := fmT.find? fun f => f.word == l
/-- A name. -/
def scNameB (l : List Nat) : Bool := (match l with | c :: _ => letterB c | [] => false) && decide (l.length ≤ 24) && l.all wordB
/-- Are the fields that a form does not use zero? -/
def idleB (fl : List Nat) (c : Cm) : Bool := (fl.contains 119 || c.who == 0) && (fl.contains 97 || c.a == 0) && (fl.contains 98 || c.b == 0) && (fl.contains 110 || decide (bs c.name = [])) && (fl.contains 116 || decide (bs c.text = [])) &&
  (fl.contains 107 || c.key == 0) && (fl.contains 111 || c.nonce == 0)
def chkE (c : Cm) : Int := match fmOf c.kind with
  | none => 7
  | some f =>
    if c.at_ < 0 ∨ 1073741824 < c.at_ then 2
    else if idleB f.fields c = false ∨ (f.nums ≠ -1 ∧ (c.nums.length : Int) ≠ f.nums) then 8
    else if f.fields.contains 110 = true ∧ scNameB (bs c.name) = false then 4
    else if 32768 < c.text.size ∨ 256 < c.nums.length then 3
    else 0
/-! Digits of sixteen. -/
def hexd (d : Nat) : Nat := if d < 10 then 48 + d else 87 + d
def hexT : Nat → Nat → List Nat
  | 0, _ => []
  | k + 1, x => hexd (x / 16 ^ k % 16) :: hexT k x
def hexv (c : Nat) : Option Nat := if 48 ≤ c ∧ c ≤ 57 then some (c - 48) else if 97 ≤ c ∧ c ≤ 102 then some (c - 87) else none
def hexV (acc : Nat) : List Nat → Option Nat
  | [] => some acc
  | c :: r => match hexv c with
    | none => none
    | some d => hexV (acc * 16 + d) r
def hexE (l : List Nat) : Option Nat := if l.length = 16 then hexV 0 l else none
/-! Texts in quotes. -/
def plainB (c : Nat) : Bool := decide (32 ≤ c) && decide (c ≤ 126) && c != 34 && c != 92
def qB (c : Nat) : List Nat := if plainB c then [c] else if c = 34 ∨ c = 92 then [92, c] else if c = 10 then [92, 110] else [92, 120, hexd (c / 16), hexd (c % 16)]
def quoteL (l : List Nat) : List Nat := 34 :: (l.flatMap qB ++ [34])
def escS : List Nat → Option (Nat × Nat)
  | [] => none
  | c :: r => if c = 34 ∨ c = 92 then some (c, 1) else if c = 110 then some (10, 1) else if c = 120 then
      match r with
      | h :: l :: _ => (match hexv h, hexv l with
        | some x, some y => if (32 ≤ x * 16 + y ∧ x * 16 + y ≤ 126) ∨ x * 16 + y = 10 then none else some (x * 16 + y, 3)
        | _, _ => none)
      | _ => none
    else none
def unq (l : List Nat) : Option (List Nat) := match l with
  | [] => none
  | c :: r => if c = 34 then (if r = [] then some [] else none)
    else if c = 92 then (match escS r with
      | none => none
      | some (b, n) => (unq (r.drop n)).map (b :: ·))
    else if plainB c then (unq r).map (c :: ·) else none
termination_by l.length
decreasing_by all_goals (simp only [List.length_drop, List.length_cons]; omega)
def textS (l : List Nat) : Option (List Nat) := match l with
  | c :: d :: r => if c = 32 ∧ d = 34 then unq r else none
  | _ => none
/-! Fields. -/
def notSp (c : Nat) : Bool := c != 32
def cutS : List Nat → Option (List Nat × List Nat)
  | [] => none
  | c :: r => if c = 32 then some (r.takeWhile notSp, r.dropWhile notSp) else none
def numsF (f : Nat) (count : Int) (done : Nat) (l : List Nat) : Option (List Int × List Nat) :=
  if count = done ∨ (count = -1 ∧ l = []) then some ([], l) else match f with
  | 0 => none
  | f + 1 => match cutS l with
    | none => none
    | some (t, r) => if (numE t).2 ≠ 0 then none else (numsF f count (done + 1) r).map fun p => ((numE t).1 :: p.1, p.2)
def toBA (l : List Nat) : ByteArray := ⟨(l.map UInt8.ofNat).toArray⟩
def fieldS (c : Cm) (x : Nat) (t : List Nat) : Option Cm :=
  if x = 119 then (if (numE t).2 = 0 then some { c with who := (numE t).1 } else none)
  else if x = 97 then (if (numE t).2 = 0 then some { c with a := (numE t).1 } else none)
  else if x = 98 then (if (numE t).2 = 0 then some { c with b := (numE t).1 } else none)
  else if x = 110 then (if scNameB t then some { c with name := toBA t } else none)
  else if x = 107 then (hexE t).map fun (v : Nat) => { c with key := (v : Int) }
  else if x = 111 then (hexE t).map fun (v : Nat) => { c with nonce := (v : Int) }
  else none
def fieldsS (nums : Int) : Cm → List Nat → List Nat → Option Cm
  | c, [], l => if l = [] then some c else none
  | c, x :: fl, l =>
    if x = 116 then (match textS l with | none => none | some t => fieldsS nums { c with text := toBA t } fl [])
    else if x = 108 then (match numsF (l.length + 1) nums 0 l with | none => none | some (ns, r) => fieldsS nums { c with nums := ns } fl r)
    else match cutS l with
      | none => none
      | some (t, r) => (match fieldS c x t with | none => none | some c' => fieldsS nums c' fl r)
/-- One line: an error, or its command. -/
def lineS (l : List Nat) : Except Int Cm :=
  match l.dropWhile notSp with
  | [] => .error 1
  | _ :: rest => match fmNamed (rest.takeWhile notSp) with
    | none => .error 7
    | some f => if (numE (l.takeWhile notSp)).2 ≠ 0 then .error 1 else
      match fieldsS f.nums { Cm.zero with kind := f.kind, at_ := (numE (l.takeWhile notSp)).1 } f.fields (rest.dropWhile notSp) with
      | none => .error 1
      | some c => if chkE c ≠ 0 then .error (chkE c) else .ok c
def notNl (c : Nat) : Bool := c != 10
def consS (c : Cm) : Except (Int × Nat) (List Cm) → Except (Int × Nat) (List Cm)
  | .ok L => .ok (c :: L)
  | .error e => .error e
/-- The lines of a text, behind so many commands and lines. -/
def scrS (cnt num : Nat) (l : List Nat) : Except (Int × Nat) (List Cm) :=
  if h : l = [] then .ok [] else
  if l.takeWhile notNl = [] ∨ (l.takeWhile notNl).head? = some 35 then scrS cnt (num + 1) ((l.dropWhile notNl).drop 1)
  else if 512 ≤ cnt then .error (3, num + 1)
  else match lineS (l.takeWhile notNl) with
    | .error e => .error (e, num + 1)
    | .ok c => consS c (scrS (cnt + 1) (num + 1) ((l.dropWhile notNl).drop 1))
termination_by l.length
decreasing_by
  all_goals
    have h1 := congrArg List.length (List.takeWhile_append_dropWhile (p := notNl) (l := l))
    have h2 : l.length ≠ 0 := fun e => h (List.length_eq_zero_iff.1 e)
    rw [List.length_append] at h1
    rw [List.length_drop]
    rcases Nat.eq_zero_or_pos (l.takeWhile notNl).length with h3 | h3
    · rw [h3] at h1; omega
    · omega
def parseS (l : List Nat) : Except (Int × Nat) (List Cm) := if 1048576 < l.length then .error (3, 0) else scrS 0 0 l
/-! Printing. -/
def prF (c : Cm) (x : Nat) : List Nat :=
  if x = 119 then 32 :: fmtI c.who else if x = 97 then 32 :: fmtI c.a else if x = 98 then 32 :: fmtI c.b
  else if x = 110 then 32 :: bs c.name else if x = 116 then 32 :: quoteL (bs c.text)
  else if x = 107 then 32 :: hexT 16 c.key.toNat else if x = 111 then 32 :: hexT 16 c.nonce.toNat
  else c.nums.flatMap fun n => 32 :: fmtI n
def prL (c : Cm) : List Nat := match fmOf c.kind with
  | none => []
  | some f => fmtI c.at_ ++ 32 :: f.word ++ f.fields.flatMap (prF c) ++ [10]
def firstE : List Cm → Int
  | [] => 0
  | c :: L => if chkE c ≠ 0 then chkE c else firstE L
def printE (L : List Cm) : List Nat × Int := if 512 < L.length then ([], 3) else if firstE L ≠ 0 then ([], firstE L) else (L.flatMap prL, 0)
end Go.Proofs.YtbdkggnajipdhaaGreatDoor
/- Plain specification of chapter 41, the making of a deck: mixing, the stream, shuffles, prizes. No program in sight. -/
namespace Go.Proofs.YtbdkggnajipdhaaGreatDoor
def xorI (a b : Int) : Int := ((a.toNat ^^^ b.toNat : Nat) : Int)
def mixA (x : Int) : Int := xorI x (x / 1073741824) * 13787848793156543929 % 18446744073709551616
def mixB (x : Int) : Int := xorI x (x / 134217728) * 10723151780598845931 % 18446744073709551616
def mixI (x : Int) : Int := xorI (mixB (mixA x)) (mixB (mixA x) / 2147483648)
def nxtI (st : Int) : Int := (st + 11400714819323198485) % 18446744073709551616
def rejI (n : Int) : Int := (18446744073709551616 - n) % n
/-- A number below n: its value, the error, the stream's state; at most so many tries. -/
def belR (n : Int) : Nat → Int → Int × Int × Int
  | 0, st => (0, 11, st)
  | f + 1, st => if mixI (nxtI st) ≤ 18446744073709551615 - rejI n then (mixI (nxtI st) % n, 0, nxtI st) else belR n f (nxtI st)
def belE (n st : Int) : Int × Int × Int := if n < 1 ∨ 2147483648 < n then (0, 2, st) else belR n 64 st
def swp (l : List Int) (i j : Nat) : List Int := (l.set i (l.getD j 0)).set j (l.getD i 0)
def shufE : Nat → List Int → Int → List Int × Int × Int
  | 0, l, st => (l, 0, st)
  | i + 1, l, st => let b := belE (i + 2) st
    if b.2.1 = 0 then shufE i (swp l (i + 1) b.1.toNat) b.2.2 else ([], b.2.1, b.2.2)
def asc1 (n : Nat) : List Int := (List.range n).map fun (i : Nat) => (i : Int) + 1
def shuS (n : Nat) (st : Int) : List Int × Int × Int := shufE (n - 1) (asc1 n) st
/-- Prizes into the pack that begins at a place, in an order, from its k-th on. -/
def putZ (base : Nat) (order : List Int) : Nat → List Int → List Int → List Int
  | _, [], Z => Z
  | k, z :: r, Z => putZ base order (k + 1) r (Z.set (base + (order.getD k 0 - 1).toNat) z)
def sureL (L : List Lvl) : List Int := L.flatMap fun v => List.replicate v.pack.toNat v.prize
def restL (P : Int) (L : List Lvl) : List Int := L.flatMap fun v => List.replicate (v.count - v.pack * P).toNat v.prize
/-- Packs from the k-th on, f of them. -/
def guaE (S : Nat) (sure : List Int) : Nat → Nat → List Int → Int → List Int × Int × Int
  | 0, _, Z, st => (Z, 0, st)
  | f + 1, k, Z, st => let o := shuS S st
    if o.2.1 = 0 then guaE S sure f (k + 1) (putZ (k * S) o.1 0 sure Z) o.2.2 else (Z, o.2.1, o.2.2)
def freeL (Z : List Int) : List Int := ((List.range Z.length).filter fun i => Z.getD i 1 = 0).map fun (i : Nat) => (i : Int)
def scaE : List Int → List Int → Nat → List Int → Int → List Int × Int × Int
  | [], _, _, Z, st => (Z, 0, st)
  | z :: r, free, i, Z, st => let b := belE ((free.length : Int) - i) st
    if b.2.1 = 0 then scaE r (swp free i (i + b.1.toNat)) (i + 1) (Z.set ((swp free i (i + b.1.toNat)).getD i 0).toNat z) b.2.2 else (Z, b.2.1, b.2.2)
def deckZ (P S : Int) (L : List Lvl) (seed : Int) : List Int × Int :=
  let g := guaE S.toNat (sureL L) P.toNat 0 (List.replicate (P * S).toNat 0) seed
  if g.2.1 = 0 then
    let s := scaE (restL P L) (freeL g.1) 0 g.1 g.2.2
    if s.2.1 = 0 then (s.1, 0) else ([], s.2.1)
  else ([], g.2.1)
/-- A ticket: pack, index, prize, code. -/
structure Ins where
  pack : Int
  index : Int
  prize : Int
  code : ByteArray
def codeB (seed : Int) (i : Nat) : ByteArray := toBA (hexT 16 (mixI ((seed + i) % 18446744073709551616)).toNat)
def insAt (S : Nat) (seed : Int) (i : Nat) (z : Int) : Ins := ⟨((i / S : Nat) : Int) + 1, ((i % S : Nat) : Int) + 1, z, codeB seed i⟩
def insL (S : Nat) (seed : Int) (Z : List Int) : List Ins := Z.mapIdx (insAt S seed)
structure Pl where
  name : ByteArray
  price : Int
  packs : Int
  size : Int
  levels : List Lvl
def Pl.chk (p : Pl) : Int := Go.Proofs.YtbdkggnajipdhaaGreatDoor.chk p.name p.price p.packs p.size p.levels
def paid (L : List Lvl) : Int := (L.map fun v => v.prize * v.count).sum
def payE (p : Pl) : Int × Int := if p.chk = 0 then (if 1000000000000 < paid p.levels then (0, 9) else (paid p.levels, 0)) else (0, p.chk)
def buildE (p : Pl) (seed : Int) : List Ins × Int :=
  if p.chk = 0 then (insL p.size.toNat seed (deckZ p.packs p.size p.levels seed).1, (deckZ p.packs p.size p.levels seed).2) else ([], p.chk)
def exP : Pl := ⟨toBA (asc "cash"), 100, 2, 3, [⟨500, 2, 1⟩, ⟨50, 1, 0⟩]⟩
theorem exP_chk : exP.chk = 0 := by kernel_rfl
theorem exP_pay : payE exP = (1050, 0) := by kernel_rfl
theorem exP_build : (buildE exP 7).2 = 0 ∧ (buildE exP 7).1.length = 6 := ⟨by kernel_rfl, by kernel_rfl⟩
end Go.Proofs.YtbdkggnajipdhaaGreatDoor
/- Plain: the tokens of a text. No program in sight. -/
namespace Go.Proofs.YtbdkggnajipdhaaGreatDoor
structure Tk where
  kind : Int
  line : Int
  col : Int
  text : ByteArray
/-- Line and column behind some bytes. -/
def step1 (p : Int × Int) (c : Nat) : Int × Int := if c = 10 then (p.1 + 1, 1) else (p.1, p.2 + 1)
def place (l : List Nat) : Int × Int := l.foldl step1 (1, 1)
def lexL : Nat → Nat → List Nat → Except Nat (List (Nat × Nat × Nat))
  | 0, _, _ => .ok []
  | _ + 1, _, [] => .ok []
  | f + 1, at_, c :: r =>
    if (piece (c :: r)).2 = 0 then .error at_
    else if (piece (c :: r)).1 = 0 then lexL f (at_ + (piece (c :: r)).2) ((c :: r).drop (piece (c :: r)).2)
    else match lexL f (at_ + (piece (c :: r)).2) ((c :: r).drop (piece (c :: r)).2) with
      | .ok T => .ok (((piece (c :: r)).1, at_, (piece (c :: r)).2) :: T)
      | .error e => .error e
def lexR (at_ : Nat) (l : List Nat) : Except Nat (List (Nat × Nat × Nat)) := lexL l.length at_ l
theorem lexL_fuel : ∀ (f g at_ : Nat) (l : List Nat), l.length ≤ f → l.length ≤ g → lexL f at_ l = lexL g at_ l
  | 0, 0, _, _, _, _ => rfl
  | 0, g + 1, _, [], _, _ => rfl
  | f + 1, 0, _, [], _, _ => rfl
  | f + 1, g + 1, _, [], _, _ => rfl
  | 0, g + 1, _, c :: r, h, _ => by simp at h
  | f + 1, 0, _, c :: r, _, h => by simp at h
  | f + 1, g + 1, at_, c :: r, h1, h2 => by
    rw [lexL, lexL]
    split
    · rfl
    · have hd : ((c :: r).drop (piece (c :: r)).2).length ≤ r.length := by rw [List.length_drop, List.length_cons]; omega
      rw [List.length_cons] at h1 h2
      rw [lexL_fuel f g _ _ (by omega) (by omega)]
theorem lexR_nil (at_ : Nat) : lexR at_ [] = .ok [] := rfl
def consR (t : Nat × Nat × Nat) : Except Nat (List (Nat × Nat × Nat)) → Except Nat (List (Nat × Nat × Nat))
  | .ok T => .ok (t :: T)
  | .error e => .error e
theorem lexR_cons (at_ c : Nat) (r : List Nat) : lexR at_ (c :: r) =
    if (piece (c :: r)).2 = 0 then .error at_
    else if (piece (c :: r)).1 = 0 then lexR (at_ + (piece (c :: r)).2) ((c :: r).drop (piece (c :: r)).2)
    else consR ((piece (c :: r)).1, at_, (piece (c :: r)).2) (lexR (at_ + (piece (c :: r)).2) ((c :: r).drop (piece (c :: r)).2)) := by
  unfold lexR
  rw [List.length_cons, lexL]
  split
  · rfl
  · have hd : ((c :: r).drop (piece (c :: r)).2).length ≤ r.length := by rw [List.length_drop, List.length_cons]; omega
    rw [lexL_fuel r.length ((c :: r).drop (piece (c :: r)).2).length _ _ hd (Nat.le_refl _)]
    rfl
def joinR (D : List (Nat × Nat × Nat)) : Except Nat (List (Nat × Nat × Nat)) → Except Nat (List (Nat × Nat × Nat))
  | .ok T => .ok (D ++ T)
  | .error e => .error e
theorem joinR_cons (D : List (Nat × Nat × Nat)) (t : Nat × Nat × Nat) (R : Except Nat (List (Nat × Nat × Nat))) : joinR D (consR t R) = joinR (D ++ [t]) R := by
  cases R <;> simp [joinR, consR]
def tokOf (s : ByteArray) (t : Nat × Nat × Nat) : Tk := ⟨t.1, (place ((bs s).take t.2.1)).1, (place ((bs s).take t.2.1)).2, s.extract t.2.1 (t.2.1 + t.2.2)⟩
def endTok (s : ByteArray) : Tk := ⟨0, (place (bs s)).1, (place (bs s)).2, ByteArray.empty⟩
/-- What Scan gives: the error, its offset, the tokens. -/
def scanE (s : ByteArray) : Int × Int × List Tk :=
  if 32768 < s.size then (3, 0, []) else match lexR 0 (bs s) with
    | .error e => (1, e, [])
    | .ok T => (0, 0, T.map (tokOf s) ++ [endTok s])
/-! Places. -/
theorem place_append (a b : List Nat) : place (a ++ b) = b.foldl step1 (place a) := by unfold place; rw [List.foldl_append]
theorem fold_plain : ∀ (b : List Nat) (p : Int × Int), (∀ c ∈ b, c ≠ 10) → b.foldl step1 p = (p.1, p.2 + b.length)
  | [], p, _ => by simp
  | c :: r, p, h => by
    rw [List.foldl_cons, fold_plain r _ fun d hd => h d (by simp [hd])]
    unfold step1
    rw [if_neg (h c (by simp))]
    simp only [List.length_cons, Prod.mk.injEq, true_and]
    omega
theorem fold_line : ∀ (b : List Nat) (p : Int × Int), (b.foldl step1 p).1 = p.1 + b.count 10
  | [], p => by simp
  | c :: r, p => by
    rw [List.foldl_cons, fold_line r]
    unfold step1
    by_cases h : c = 10
    · subst h
      rw [if_pos rfl, List.count_cons_self]; simp only; omega
    · rw [if_neg h, List.count_cons_of_ne h]
/-- The column behind text whose last line feed stands at k. -/
theorem fold_col (b : List Nat) (p : Int × Int) (k : Nat) (hk : b[k]? = some 10) (hn : ∀ j, k < j → b[j]? ≠ some 10) : (b.foldl step1 p).2 = b.length - k := by
  have hkl := (List.getElem?_eq_some_iff.1 hk).1
  have e : b = b.take k ++ 10 :: b.drop (k + 1) := by
    have h1 := List.getElem?_eq_some_iff.1 hk
    obtain ⟨h1, h2⟩ := h1
    conv => lhs; rw [← List.take_append_drop k b, List.drop_eq_getElem_cons h1, h2]
  have hd : ∀ c ∈ b.drop (k + 1), c ≠ 10 := by
    intro c hc e2
    subst e2
    obtain ⟨i, hi⟩ := List.mem_iff_getElem?.1 hc
    rw [List.getElem?_drop] at hi
    exact hn _ (by omega) hi
  rw [e, List.foldl_append, List.foldl_cons, fold_plain _ _ hd]
  have : step1 (List.foldl step1 p (b.take k)) 10 = ((List.foldl step1 p (b.take k)).1 + 1, 1) := by unfold step1; rw [if_pos rfl]
  rw [this]
  simp only [List.length_append, List.length_take, List.length_cons, List.length_drop]
  omega
/-- A piece that is a token holds no line feed. -/
theorem piece_plain (l : List Nat) (h : (piece l).1 ≠ 0) : ∀ c ∈ l.take (piece l).2, c ≠ 10 := by
  have key : ∀ (q : Nat → Bool), q 10 = false → ∀ c ∈ l.take (spn q l), c ≠ 10 := by
    intro q hq c hc e
    subst e
    obtain ⟨i, hi⟩ := List.mem_iff_getElem?.1 hc
    rw [List.getElem?_take] at hi
    split at hi
    · rename_i hil
      obtain ⟨d, hd, hqd⟩ := spn_at l i hil
      rw [hi] at hd
      injection hd with hd
      subst hd
      rw [hq] at hqd; cases hqd
    · cases hi
  cases l with
  | nil => intro c hc; simp at hc
  | cons a r =>
    rw [piece] at h ⊢
    split at h
    · simp at h
    · split at h
      · simp at h
      · rename_i h1 h2
        rw [if_neg h1, if_neg h2]
        split at h
        · rename_i h3; rw [if_pos h3]; exact key wordB (by decide)
        · rename_i h3
          rw [if_neg h3]
          split at h
          · rename_i h4
            rw [if_pos h4]
            split
            · intro c hc; simp at hc
            · exact key digitB (by decide)
          · rename_i h4
            rw [if_neg h4]
            split at h
            · rename_i h5
              rw [if_pos h5]
              intro c hc
              simp only [List.take_succ_cons, List.take_zero, List.mem_cons, List.not_mem_nil, or_false] at hc
              subst hc
              intro e
              subst e
              exact absurd h5 (by decide)
            · simp at h
end Go.Proofs.YtbdkggnajipdhaaGreatDoor
/- Plain specification of chapter 41, a plan's text: printing, and reading tokens. No program in sight. -/
namespace Go.Proofs.YtbdkggnajipdhaaGreatDoor
def fitB (n : Int) : Bool := decide (0 ≤ n) && decide (n ≤ 999999999999999999)
def lvlT (v : Lvl) : List Nat := asc "prize " ++ fmtI v.prize ++ asc " count " ++ fmtI v.count ++ asc " pack " ++ fmtI v.pack ++ asc ";\n"
def headT (p : Pl) : List Nat := (asc "deck " ++ bs p.name ++ asc " {\n") ++ (asc "price " ++ fmtI p.price ++ asc ";\n") ++ (asc "packs " ++ fmtI p.packs ++ asc " of " ++ fmtI p.size ++ asc ";\n")
def Lvl.fits (v : Lvl) : Bool := fitB v.prize && fitB v.count && fitB v.pack
def printP (p : Pl) : List Nat :=
  if nameB p.name && (fitB p.price && fitB p.packs && fitB p.size) && p.levels.all Lvl.fits then headT p ++ p.levels.flatMap lvlT ++ asc "}\n" else []
/-! Reading. -/
def noTk : Tk := ⟨0, 0, 0, ByteArray.empty⟩
def hdT (L : List Tk) : Tk := L.headD noTk
/-- The rest behind a token; the end stays. -/
def nxT : List Tk → List Tk
  | [] => []
  | [t] => [t]
  | _ :: t :: r => t :: r
def isT (k : Int) (w : List Nat) (L : List Tk) : Option (List Tk) := if (hdT L).kind = k ∧ bs (hdT L).text = w then some (nxT L) else none
def numT (L : List Tk) : Option (Int × List Tk) := if (hdT L).kind = 2 ∧ (numE (bs (hdT L).text)).2 = 0 then some ((numE (bs (hdT L).text)).1, nxT L) else none
/-- What reads one thing and goes on; where it stands still, there is the error. -/
def thenT {α β : Type} (x : Option α) (L : List Tk) (f : α → Except (Int × List Tk) β) : Except (Int × List Tk) β := match x with
  | some a => f a
  | none => .error (1, L)
def levelT (L : List Tk) : Except (Int × List Tk) (Lvl × List Tk) :=
  thenT (numT L) L fun a => thenT (isT 1 (asc "count") a.2) a.2 fun L2 => thenT (numT L2) L2 fun b =>
    match isT 1 (asc "pack") b.2 with
    | none => .ok (⟨a.1, b.1, 0⟩, b.2)
    | some L4 => thenT (numT L4) L4 fun c => .ok (⟨a.1, b.1, c.1⟩, c.2)
/-- One item, with its semicolon: the plan so far, whether a price and packs were there. -/
def itemT (L : List Tk) (p : Pl) (pr pa : Bool) : Except (Int × List Tk) ((Pl × Bool × Bool) × List Tk) :=
  if (hdT L).kind ≠ 1 then .error (1, L)
  else if bs (hdT L).text = asc "price" then
    if pr then .error (6, L) else thenT (numT (nxT L)) (nxT L) fun a => thenT (isT 3 (asc ";") a.2) a.2 fun L3 => .ok (({ p with price := a.1 }, true, pa), L3)
  else if bs (hdT L).text = asc "packs" then
    if pa then .error (6, L) else thenT (numT (nxT L)) (nxT L) fun a => thenT (isT 1 (asc "of") a.2) a.2 fun L3 => thenT (numT L3) L3 fun b =>
      thenT (isT 3 (asc ";") b.2) b.2 fun L5 => .ok (({ p with packs := a.1, size := b.1 }, pr, true), L5)
  else if bs (hdT L).text = asc "prize" then
    match levelT (nxT L) with
    | .error e => .error e
    | .ok (v, L2) => thenT (isT 3 (asc ";") L2) L2 fun L3 => .ok (({ p with levels := p.levels ++ [v] }, pr, pa), L3)
  else .error (1, L)
def itemsT : Nat → List Tk → Pl → Bool → Bool → Except (Int × List Tk) Pl
  | 0, L, _, _, _ => .error (1, L)
  | f + 1, L, p, pr, pa => match isT 3 (asc "}") L with
    | some L' => if (hdT L').kind = 0 then .ok p else .error (1, L')
    | none => match itemT L p pr pa with
      | .error e => .error e
      | .ok ((p', pr', pa'), L') => itemsT f L' p' pr' pa'
def noPl : Pl := ⟨ByteArray.empty, 0, 0, 0, []⟩
def planT (L : List Tk) : Except (Int × List Tk) Pl :=
  thenT (isT 1 (asc "deck") L) L fun L1 =>
    if (hdT L1).kind ≠ 1 then .error (1, L1) else thenT (isT 3 (asc "{") (nxT L1)) (nxT L1) fun L3 => itemsT (L.length + 1) L3 { noPl with name := (hdT L1).text } false false
/-- A text's plan, the error, its line. -/
def parseP (s : ByteArray) : Pl × Int × Int :=
  if (scanE s).1 = 3 then (noPl, 3, 0)
  else if (scanE s).1 ≠ 0 then (noPl, (scanE s).1, 1 + (((bs s).take (scanE s).2.1.toNat).count 10 : Nat))
  else match planT (scanE s).2.2 with
    | .ok p => (p, 0, 0)
    | .error (e, L) => (noPl, e, (hdT L).line)
def exS : ByteArray := toBA (asc "deck cash { price 100; packs 2 of 3; prize 500 count 2 pack 1; prize 50 count 1; }")
theorem exS_parse : parseP exS = (exP, 0, 0) := by kernel_rfl
theorem exS2_parse : parseP (toBA (asc "deck cash { price 1; price 2; }")) = (noPl, 6, 1) := by kernel_rfl
theorem exS3_parse : parseP (toBA (asc "deck cash {\n price x; }")) = (noPl, 1, 2) := by kernel_rfl
theorem exS4_parse : parseP (toBA (asc "deck cash {")) = (noPl, 1, 1) := by kernel_rfl
theorem exP_print : printP exP = asc "deck cash {\nprice 100;\npacks 2 of 3;\nprize 500 count 2 pack 1;\nprize 50 count 1 pack 0;\n}\n" := by kernel_rfl
end Go.Proofs.YtbdkggnajipdhaaGreatDoor
/- Plain: chapter 41's reference reader, whose first error stays; it reads what the program's reader reads. No program in sight. -/
namespace Go.Proofs.YtbdkggnajipdhaaGreatDoor
structure Rd where
  L : List Tk
  err : Int
  line : Int
def Rd.fail (e : Int) (r : Rd) : Rd := if r.err = 0 then { r with err := e, line := (hdT r.L).line } else r
def Rd.next (k : Int) (w : List Nat) (r : Rd) : ByteArray × Rd :=
  if r.err ≠ 0 then (ByteArray.empty, r)
  else if (hdT r.L).kind ≠ k ∨ (w ≠ [] ∧ bs (hdT r.L).text ≠ w) then (ByteArray.empty, r.fail 1)
  else ((hdT r.L).text, { r with L := nxT r.L })
def Rd.num (r : Rd) : Int × Rd := ((numE (bs (r.next 2 []).1)).1, (r.next 2 []).2)
def Rd.is (w : List Nat) (r : Rd) : Bool := decide ((hdT r.L).kind = 1) && decide (bs (hdT r.L).text = w)
def Rd.once (w : List Nat) (had : Bool) (r : Rd) : Rd := ((if had then r.fail 6 else r).next 1 w).2
def Rd.prize (r : Rd) : Lvl × Rd :=
  let a := (r.next 1 (asc "prize")).2.num
  let b := (a.2.next 1 (asc "count")).2.num
  if b.2.err = 0 ∧ b.2.is (asc "pack") = true then
    let c := (b.2.next 1 (asc "pack")).2.num
    (⟨a.1, b.1, c.1⟩, c.2)
  else (⟨a.1, b.1, 0⟩, b.2)
def Rd.item (p : Pl) (pr pa : Bool) (r : Rd) : (Pl × Bool × Bool) × Rd :=
  if r.is (asc "price") then
    let a := (r.once (asc "price") pr).num
    (({ p with price := a.1 }, true, pa), (a.2.next 3 (asc ";")).2)
  else if r.is (asc "packs") then
    let a := (r.once (asc "packs") pa).num
    let b := (a.2.next 1 (asc "of")).2.num
    (({ p with packs := a.1, size := b.1 }, pr, true), (b.2.next 3 (asc ";")).2)
  else (({ p with levels := p.levels ++ [r.prize.1] }, pr, pa), (r.prize.2.next 3 (asc ";")).2)
def Rd.items : Nat → Pl → Bool → Bool → Rd → Pl × Rd
  | 0, p, _, _, r => (p, r)
  | f + 1, p, pr, pa, r =>
    if r.err ≠ 0 ∨ ((hdT r.L).kind = 3 ∧ bs (hdT r.L).text = asc "}") then (p, r)
    else Rd.items f (r.item p pr pa).1.1 (r.item p pr pa).1.2.1 (r.item p pr pa).1.2.2 (r.item p pr pa).2
def rparseT (T : List Tk) : Pl × Rd :=
  let r1 := (Rd.next 1 (asc "deck") ⟨T, 0, 0⟩).2
  let n := r1.next 1 []
  let r2 := (n.2.next 3 (asc "{")).2
  let x := Rd.items T.length { noPl with name := n.1 } false false r2
  (x.1, ((x.2.next 3 (asc "}")).2.next 0 []).2)
def rparseP (s : ByteArray) : Pl × Int × Int :=
  if (scanE s).1 = 3 then (noPl, 3, 0)
  else if (scanE s).1 ≠ 0 then (noPl, (scanE s).1, (place ((bs s).take (scanE s).2.1.toNat)).1)
  else if (rparseT (scanE s).2.2).2.err ≠ 0 then (noPl, (rparseT (scanE s).2.2).2.err, (rparseT (scanE s).2.2).2.line)
  else ((rparseT (scanE s).2.2).1, 0, 0)
/-! The tokens' numbers are numbers. -/
def NumOk (L : List Tk) : Prop := ∀ t ∈ L, t.kind = 2 → (numE (bs t.text)).2 = 0
theorem hd_kind {L : List Tk} (h : (hdT L).kind ≠ 0) : hdT L ∈ L := by
  cases L with
  | nil => exact absurd rfl h
  | cons t r => exact List.mem_cons_self
theorem NumOk.hd {L : List Tk} (h : NumOk L) (hk : (hdT L).kind = 2) : (numE (bs (hdT L).text)).2 = 0 := h _ (hd_kind (by omega)) hk
theorem nx_sub : ∀ (L : List Tk), ∀ t ∈ nxT L, t ∈ L
  | [], _, h => h
  | [_], _, h => h
  | _ :: _ :: _, _, h => List.mem_cons_of_mem _ h
theorem NumOk.nx {L : List Tk} (h : NumOk L) : NumOk (nxT L) := fun t ht => h t (nx_sub L t ht)
theorem is_some {k : Int} {w : List Nat} {L L' : List Tk} (h : isT k w L = some L') : (hdT L).kind = k ∧ bs (hdT L).text = w ∧ L' = nxT L := by
  unfold isT at h
  split at h
  · rename_i h1
    exact ⟨h1.1, h1.2, (Option.some.inj h).symm⟩
  · cases h
theorem is_none {k : Int} {w : List Nat} {L : List Tk} (h : isT k w L = none) : ¬ ((hdT L).kind = k ∧ bs (hdT L).text = w) := by
  unfold isT at h
  split at h
  · cases h
  · assumption
theorem num_some {L L' : List Tk} {x : Int} (h : numT L = some (x, L')) : (hdT L).kind = 2 ∧ (numE (bs (hdT L).text)).2 = 0 ∧ x = (numE (bs (hdT L).text)).1 ∧ L' = nxT L := by
  unfold numT at h
  split at h
  · rename_i h1
    have := Option.some.inj h
    simp only [Prod.mk.injEq] at this
    exact ⟨h1.1, h1.2, this.1.symm, this.2.symm⟩
  · cases h
theorem num_none {L : List Tk} (hN : NumOk L) (h : numT L = none) : (hdT L).kind ≠ 2 := by
  intro hk
  unfold numT at h
  rw [if_pos ⟨hk, hN.hd hk⟩] at h
  cases h
theorem NumOk.is {L L' : List Tk} {k : Int} {w : List Nat} (h : NumOk L) (e : isT k w L = some L') : NumOk L' := by rw [(is_some e).2.2]; exact h.nx
theorem NumOk.num {L L' : List Tk} {x : Int} (h : NumOk L) (e : numT L = some (x, L')) : NumOk L' := by rw [(num_some e).2.2.2]; exact h.nx
/-! One step. -/
theorem next_ok {k : Int} {w : List Nat} {L L' : List Tk} {l0 : Int} (h : isT k w L = some L') : Rd.next k w ⟨L, 0, l0⟩ = ((hdT L).text, ⟨L', 0, l0⟩) := by
  obtain ⟨h1, h2, rfl⟩ := is_some h
  unfold Rd.next
  rw [if_neg (fun h => h rfl), if_neg (by simp [h1, h2])]
theorem next_no {k : Int} {w : List Nat} {L : List Tk} {l0 : Int} (hw : w ≠ []) (h : isT k w L = none) : Rd.next k w ⟨L, 0, l0⟩ = (ByteArray.empty, ⟨L, 1, (hdT L).line⟩) := by
  have := is_none h
  unfold Rd.next
  rw [if_neg (fun h => h rfl), if_pos (by by_cases hk : (hdT L).kind = k <;> simp_all)]
  simp [Rd.fail]
theorem next_err {k : Int} {w : List Nat} {r : Rd} (h : r.err ≠ 0) : Rd.next k w r = (ByteArray.empty, r) := by unfold Rd.next; rw [if_pos h]
theorem rnum_ok {L L' : List Tk} {x l0 : Int} (h : numT L = some (x, L')) : Rd.num ⟨L, 0, l0⟩ = (x, ⟨L', 0, l0⟩) := by
  obtain ⟨h1, _, rfl, rfl⟩ := num_some h
  unfold Rd.num Rd.next
  rw [if_neg (fun h => h rfl), if_neg (by simp [h1])]
theorem rnum_no {L : List Tk} {l0 : Int} (hN : NumOk L) (h : numT L = none) : (Rd.num ⟨L, 0, l0⟩).2 = ⟨L, 1, (hdT L).line⟩ := by
  have := num_none hN h
  unfold Rd.num Rd.next
  rw [if_neg (fun h => h rfl), if_pos (Or.inl this)]
  simp [Rd.fail]
theorem rnum_err {r : Rd} (h : r.err ≠ 0) : (Rd.num r).2 = r := by unfold Rd.num; rw [next_err h]
theorem once_err {w : List Nat} {had : Bool} {r : Rd} (h : r.err ≠ 0) : Rd.once w had r = r := by
  unfold Rd.once
  have : (if had then r.fail 6 else r) = r := by cases had <;> simp [Rd.fail, h]
  rw [this, next_err h]
theorem prize_err {r : Rd} (h : r.err ≠ 0) : (Rd.prize r).2 = r := by
  unfold Rd.prize
  rw [next_err h]
  simp only [rnum_err h]
  rw [next_err h]
  simp only [rnum_err h]
  rw [if_neg (fun e => h e.1)]
/-- What the one reader gives as an error stands in the other. -/
def Agr {α : Type} (x : Except (Int × List Tk) (α × List Tk)) (y : α × Rd) (l0 : Int) : Prop := match x with
  | .ok a => y = (a.1, ⟨a.2, 0, l0⟩)
  | .error e => e.1 ≠ 0 ∧ y.2.err = e.1 ∧ y.2.line = (hdT e.2).line
theorem asc_ne {c : Char} {r : List Char} : (c :: r).map Char.toNat ≠ [] := by simp
theorem prize_agr {L L0 : List Tk} {l0 : Int} (hN : NumOk L) (h0 : isT 1 (asc "prize") L0 = some L) : Agr (levelT L) (Rd.prize ⟨L0, 0, l0⟩) l0 := by
  unfold levelT Rd.prize
  rw [next_ok h0]
  cases h1 : numT L with
  | none =>
    have e1 := rnum_no (l0 := l0) hN h1
    have hd : (Rd.num ⟨L, 0, l0⟩).2.err ≠ 0 := by rw [e1]; exact Int.one_ne_zero
    simp only [next_err hd, rnum_err hd]
    rw [if_neg (fun e => hd e.1)]
    exact ⟨Int.one_ne_zero, by rw [e1], by rw [e1]⟩
  | some a =>
    obtain ⟨x, L1⟩ := a
    have hN1 := hN.num h1
    simp only [thenT, rnum_ok h1]
    cases h2 : isT 1 (asc "count") L1 with
    | none =>
      have hd : (⟨L1, 1, (hdT L1).line⟩ : Rd).err ≠ 0 := Int.one_ne_zero
      rw [next_no (by decide) h2]
      simp only [rnum_err hd]
      rw [if_neg (fun e => hd e.1)]
      exact ⟨Int.one_ne_zero, rfl, rfl⟩
    | some L2 =>
      have hN2 := hN1.is h2
      rw [next_ok h2]
      dsimp only
      cases h3 : numT L2 with
      | none =>
        have e1 := rnum_no (l0 := l0) hN2 h3
        have hd : (Rd.num ⟨L2, 0, l0⟩).2.err ≠ 0 := by rw [e1]; exact Int.one_ne_zero
        dsimp only
        rw [if_neg (fun e => hd e.1)]
        exact ⟨Int.one_ne_zero, by show (Rd.num _).2.err = _; rw [e1], by show (Rd.num _).2.line = _; rw [e1]⟩
      | some b =>
        obtain ⟨y, L3⟩ := b
        have hN3 := hN2.num h3
        dsimp only
        rw [rnum_ok h3]
        dsimp only
        cases h4 : isT 1 (asc "pack") L3 with
        | none =>
          have hi : ¬ ((0 : Int) = 0 ∧ Rd.is (asc "pack") ⟨L3, 0, l0⟩ = true) := by
            have := is_none h4
            simp only [Rd.is, Bool.and_eq_true, decide_eq_true_eq, true_and]
            exact this
          rw [if_neg hi]
          rfl
        | some L4 =>
          have hi : (0 : Int) = 0 ∧ Rd.is (asc "pack") ⟨L3, 0, l0⟩ = true := by
            have := is_some h4
            simp only [Rd.is, Bool.and_eq_true, decide_eq_true_eq, true_and]
            exact ⟨this.1, this.2.1⟩
          have hN4 := hN3.is h4
          rw [if_pos hi, next_ok h4]
          dsimp only
          cases h5 : numT L4 with
          | none =>
            have e1 := rnum_no (l0 := l0) hN4 h5
            exact ⟨Int.one_ne_zero, by show (Rd.num _).2.err = _; rw [e1], by show (Rd.num _).2.line = _; rw [e1]⟩
          | some c =>
            obtain ⟨z, L5⟩ := c
            dsimp only
            rw [rnum_ok h5]
            rfl
end Go.Proofs.YtbdkggnajipdhaaGreatDoor
/- Plain: chapter 41's two readers agree on whole texts. No program in sight. -/
namespace Go.Proofs.YtbdkggnajipdhaaGreatDoor
theorem dead_agr {α : Type} (a : α) {e : Int} {L : List Tk} {r : Rd} {l0 : Int} (h : e ≠ 0) (he : r.err = e) (hl : r.line = (hdT L).line) : Agr (α := α) (.error (e, L)) (a, r) l0 := ⟨h, he, hl⟩
theorem semi_agr {α : Type} (a : α) (L : List Tk) (l0 : Int) : Agr (thenT (isT 3 (asc ";") L) L fun L3 => .ok (a, L3)) (a, (Rd.next 3 (asc ";") ⟨L, 0, l0⟩).2) l0 := by
  cases h : isT 3 (asc ";") L with
  | none => rw [next_no (by decide) h]; exact dead_agr a Int.one_ne_zero rfl rfl
  | some L3 => rw [next_ok h]; rfl
theorem ris_iff {w : List Nat} {L : List Tk} {e l : Int} : (Rd.is w ⟨L, e, l⟩ = true) ↔ ((hdT L).kind = 1 ∧ bs (hdT L).text = w) := by
  simp only [Rd.is, Bool.and_eq_true, decide_eq_true_eq]
theorem isT_yes {k : Int} {w : List Nat} {L : List Tk} (h1 : (hdT L).kind = k) (h2 : bs (hdT L).text = w) : isT k w L = some (nxT L) := by unfold isT; rw [if_pos ⟨h1, h2⟩]
theorem isT_no {k : Int} {w : List Nat} {L : List Tk} (h : ¬ ((hdT L).kind = k ∧ bs (hdT L).text = w)) : isT k w L = none := by unfold isT; rw [if_neg h]
theorem item_bad {L : List Tk} {p : Pl} {pr pa : Bool} {l0 : Int} (h : isT 1 (asc "prize") L = none) (h1 : Rd.is (asc "price") ⟨L, 0, l0⟩ = false) (h2 : Rd.is (asc "packs") ⟨L, 0, l0⟩ = false) :
    Agr (α := Pl × Bool × Bool) (.error (1, L)) (Rd.item p pr pa ⟨L, 0, l0⟩) l0 := by
  unfold Rd.item
  rw [if_neg (by rw [h1]; exact Bool.false_ne_true), if_neg (by rw [h2]; exact Bool.false_ne_true)]
  have hp : (Rd.prize ⟨L, 0, l0⟩).2 = ⟨L, 1, (hdT L).line⟩ := by
    have hd : (⟨L, 1, (hdT L).line⟩ : Rd).err ≠ 0 := Int.one_ne_zero
    unfold Rd.prize
    rw [next_no (by decide) h]
    dsimp only
    rw [rnum_err hd, next_err hd]
    dsimp only
    rw [rnum_err hd, if_neg (fun e => hd e.1)]
  rw [hp, next_err Int.one_ne_zero]
  exact dead_agr _ Int.one_ne_zero rfl rfl
theorem item_agr {L : List Tk} {p : Pl} {pr pa : Bool} {l0 : Int} (hN : NumOk L) : Agr (itemT L p pr pa) (Rd.item p pr pa ⟨L, 0, l0⟩) l0 := by
  unfold itemT
  by_cases hk : (hdT L).kind = 1
  · rw [if_neg (fun h => h hk)]
    by_cases h1 : bs (hdT L).text = asc "price"
    · rw [if_pos h1]
      have hi : isT 1 (asc "price") L = some (nxT L) := isT_yes hk h1
      unfold Rd.item
      rw [if_pos (ris_iff.2 ⟨hk, h1⟩)]
      cases pr with
      | true =>
        have e1 : Rd.once (asc "price") true ⟨L, 0, l0⟩ = ⟨L, 6, (hdT L).line⟩ := by
          unfold Rd.once
          rw [if_pos rfl]
          exact congrArg (·.2) (next_err (r := ⟨L, 6, (hdT L).line⟩) (show (6 : Int) ≠ 0 by decide))
        have hd : (⟨L, 6, (hdT L).line⟩ : Rd).err ≠ 0 := by show (6 : Int) ≠ 0; decide
        rw [if_pos rfl, e1]
        dsimp only
        rw [rnum_err hd, next_err hd]
        exact dead_agr _ (by decide) rfl rfl
      | false =>
        have e1 : Rd.once (asc "price") false ⟨L, 0, l0⟩ = ⟨nxT L, 0, l0⟩ := by
          unfold Rd.once
          rw [if_neg Bool.false_ne_true, next_ok hi]
        rw [if_neg Bool.false_ne_true, e1]
        dsimp only
        cases h2 : numT (nxT L) with
        | none =>
          have e2 := rnum_no (l0 := l0) hN.nx h2
          have hd : (Rd.num ⟨nxT L, 0, l0⟩).2.err ≠ 0 := by rw [e2]; exact Int.one_ne_zero
          rw [next_err hd]
          exact dead_agr _ Int.one_ne_zero (by rw [e2]) (by rw [e2])
        | some a =>
          obtain ⟨x, L2⟩ := a
          rw [rnum_ok h2]
          exact semi_agr _ _ _
    · rw [if_neg h1]
      by_cases h2 : bs (hdT L).text = asc "packs"
      · rw [if_pos h2]
        have hi : isT 1 (asc "packs") L = some (nxT L) := isT_yes hk h2
        unfold Rd.item
        rw [if_neg (fun h => h1 (ris_iff.1 h).2), if_pos (ris_iff.2 ⟨hk, h2⟩)]
        cases pa with
        | true =>
          have e1 : Rd.once (asc "packs") true ⟨L, 0, l0⟩ = ⟨L, 6, (hdT L).line⟩ := by
            unfold Rd.once
            rw [if_pos rfl]
            exact congrArg (·.2) (next_err (r := ⟨L, 6, (hdT L).line⟩) (show (6 : Int) ≠ 0 by decide))
          have hd : (⟨L, 6, (hdT L).line⟩ : Rd).err ≠ 0 := by show (6 : Int) ≠ 0; decide
          rw [if_pos rfl, e1]
          dsimp only
          rw [rnum_err hd, next_err hd]
          dsimp only
          rw [rnum_err hd, next_err hd]
          exact dead_agr _ (by decide) rfl rfl
        | false =>
          have e1 : Rd.once (asc "packs") false ⟨L, 0, l0⟩ = ⟨nxT L, 0, l0⟩ := by
            unfold Rd.once
            rw [if_neg Bool.false_ne_true, next_ok hi]
          rw [if_neg Bool.false_ne_true, e1]
          dsimp only
          cases h3 : numT (nxT L) with
          | none =>
            have e2 := rnum_no (l0 := l0) hN.nx h3
            have hd : (Rd.num ⟨nxT L, 0, l0⟩).2.err ≠ 0 := by rw [e2]; exact Int.one_ne_zero
            rw [next_err hd]
            dsimp only
            rw [rnum_err hd, next_err hd]
            exact dead_agr _ Int.one_ne_zero (by rw [e2]) (by rw [e2])
          | some a =>
            obtain ⟨x, L2⟩ := a
            have hN2 := hN.nx.num h3
            rw [rnum_ok h3]
            dsimp only [thenT]
            cases h4 : isT 1 (asc "of") L2 with
            | none =>
              have hd : (⟨L2, 1, (hdT L2).line⟩ : Rd).err ≠ 0 := Int.one_ne_zero
              rw [next_no (by decide) h4]
              dsimp only
              rw [rnum_err hd, next_err hd]
              exact dead_agr _ Int.one_ne_zero rfl rfl
            | some L3 =>
              have hN3 := hN2.is h4
              rw [next_ok h4]
              dsimp only
              cases h5 : numT L3 with
              | none =>
                have e2 := rnum_no (l0 := l0) hN3 h5
                have hd : (Rd.num ⟨L3, 0, l0⟩).2.err ≠ 0 := by rw [e2]; exact Int.one_ne_zero
                rw [next_err hd]
                exact dead_agr _ Int.one_ne_zero (by rw [e2]) (by rw [e2])
              | some b =>
                obtain ⟨y, L4⟩ := b
                rw [rnum_ok h5]
                exact semi_agr _ _ _
      · rw [if_neg h2]
        have n1 : Rd.is (asc "price") ⟨L, 0, l0⟩ = false := Bool.eq_false_iff.2 fun h => h1 (ris_iff.1 h).2
        have n2 : Rd.is (asc "packs") ⟨L, 0, l0⟩ = false := Bool.eq_false_iff.2 fun h => h2 (ris_iff.1 h).2
        by_cases h3 : bs (hdT L).text = asc "prize"
        · rw [if_pos h3]
          have hi : isT 1 (asc "prize") L = some (nxT L) := isT_yes hk h3
          have hp := prize_agr (l0 := l0) hN.nx hi
          unfold Rd.item
          rw [if_neg (by rw [n1]; exact Bool.false_ne_true), if_neg (by rw [n2]; exact Bool.false_ne_true)]
          cases hl : levelT (nxT L) with
          | error e =>
            rw [hl] at hp
            obtain ⟨g1, g2, g3⟩ := hp
            rw [next_err (by rw [g2]; exact g1)]
            exact ⟨g1, g2, g3⟩
          | ok a =>
            obtain ⟨v, L2⟩ := a
            rw [hl] at hp
            have hp' : Rd.prize ⟨L, 0, l0⟩ = (v, ⟨L2, 0, l0⟩) := hp
            rw [hp']
            exact semi_agr _ _ _
        · rw [if_neg h3]
          exact item_bad (isT_no fun h => h3 h.2) n1 n2
  · rw [if_pos hk]
    exact item_bad (isT_no fun h => hk h.1) (Bool.eq_false_iff.2 fun h => hk (ris_iff.1 h).1) (Bool.eq_false_iff.2 fun h => hk (ris_iff.1 h).1)
/-! An item eats a token at least. -/
theorem nx_len (L : List Tk) : (nxT L).length ≤ L.length := by
  match L with
  | [] => exact Nat.le_refl _
  | [_] => exact Nat.le_refl _
  | _ :: _ :: _ => exact Nat.le_succ _
theorem nx_lt {L : List Tk} (h : hdT (nxT L) ≠ hdT L) : (nxT L).length < L.length := by
  match L, h with
  | [], h => exact absurd rfl h
  | [_], h => exact absurd rfl h
  | _ :: _ :: _, _ => exact Nat.lt_succ_self _
theorem num_eats {L : List Tk} {x : Int × List Tk} (hk : (hdT L).kind = 1) (h : numT (nxT L) = some x) : x.2.length < L.length ∧ (nxT L).length < L.length := by
  obtain ⟨h1, _, _, h2⟩ := num_some (x := x.1) (L' := x.2) h
  have : (nxT L).length < L.length := nx_lt fun e => by rw [e, hk] at h1; exact absurd h1 (by decide)
  have := nx_len (nxT L)
  rw [h2]
  omega
theorem then_ok {α β : Type} {x : Option α} {L : List Tk} {f : α → Except (Int × List Tk) β} {b : β} (h : thenT x L f = .ok b) : ∃ a, x = some a ∧ f a = .ok b := by
  cases x with
  | none => cases h
  | some a => exact ⟨a, rfl, h⟩
theorem is_len {k : Int} {w : List Nat} {L L' : List Tk} (h : isT k w L = some L') : L'.length ≤ L.length := by rw [(is_some h).2.2]; exact nx_len L
theorem num_len {L : List Tk} {x : Int × List Tk} (h : numT L = some x) : x.2.length ≤ L.length := by rw [(num_some (x := x.1) (L' := x.2) h).2.2.2]; exact nx_len L
theorem level_len {L L' : List Tk} {v : Lvl} (h : levelT L = .ok (v, L')) : ∃ x, numT L = some x ∧ L'.length ≤ x.2.length := by
  unfold levelT at h
  obtain ⟨a, h1, h⟩ := then_ok h
  obtain ⟨L2, h2, h⟩ := then_ok h
  obtain ⟨b, h3, h⟩ := then_ok h
  refine ⟨a, h1, ?_⟩
  have l2 := is_len h2
  have l3 := num_len h3
  split at h
  · injection h with h; injection h with _ h; rw [← h]; omega
  · rename_i L4 h4
    obtain ⟨c, h5, h⟩ := then_ok h
    have l4 := is_len h4
    have l5 := num_len h5
    injection h with h; injection h with _ h; rw [← h]; omega
theorem item_eats {L L' : List Tk} {p : Pl} {pr pa : Bool} {q : Pl × Bool × Bool} (h : itemT L p pr pa = .ok (q, L')) : L'.length < L.length := by
  unfold itemT at h
  split at h
  · cases h
  · rename_i hk
    have hk : (hdT L).kind = 1 := Classical.not_not.1 hk
    split at h
    · split at h
      · cases h
      · obtain ⟨a, h1, h⟩ := then_ok h
        obtain ⟨L3, h2, h⟩ := then_ok h
        have := num_eats hk h1
        have := is_len h2
        injection h with h; injection h with _ h; rw [← h]; omega
    · split at h
      · split at h
        · cases h
        · obtain ⟨a, h1, h⟩ := then_ok h
          obtain ⟨L3, h2, h⟩ := then_ok h
          obtain ⟨b, h3, h⟩ := then_ok h
          obtain ⟨L5, h4, h⟩ := then_ok h
          have := num_eats hk h1
          have := is_len h2
          have := num_len h3
          have := is_len h4
          injection h with h; injection h with _ h; rw [← h]; omega
      · split at h
        · split at h
          · cases h
          · rename_i v L2 hl
            obtain ⟨L3, h2, h⟩ := then_ok h
            obtain ⟨x, hx, hx2⟩ := level_len hl
            have := num_eats hk hx
            have := is_len h2
            injection h with h; injection h with _ h; rw [← h]; omega
        · cases h
theorem item_num {L L' : List Tk} {p : Pl} {pr pa : Bool} {q : Pl × Bool × Bool} (hN : NumOk L) (h : itemT L p pr pa = .ok (q, L')) : NumOk L' := by
  unfold itemT at h
  split at h
  · cases h
  · split at h
    · split at h
      · cases h
      · obtain ⟨a, h1, h⟩ := then_ok h
        obtain ⟨L3, h2, h⟩ := then_ok h
        injection h with h; injection h with _ h; rw [← h]
        exact (hN.nx.num (x := a.1) (L' := a.2) h1).is h2
    · split at h
      · split at h
        · cases h
        · obtain ⟨a, h1, h⟩ := then_ok h
          obtain ⟨L3, h2, h⟩ := then_ok h
          obtain ⟨b, h3, h⟩ := then_ok h
          obtain ⟨L5, h4, h⟩ := then_ok h
          injection h with h; injection h with _ h; rw [← h]
          exact (((hN.nx.num (x := a.1) (L' := a.2) h1).is h2).num (x := b.1) (L' := b.2) h3).is h4
      · split at h
        · split at h
          · cases h
          · rename_i v L2 hl
            obtain ⟨L3, h2, h⟩ := then_ok h
            injection h with h; injection h with _ h; rw [← h]
            unfold levelT at hl
            obtain ⟨a, h1, hl⟩ := then_ok hl
            obtain ⟨M2, g2, hl⟩ := then_ok hl
            obtain ⟨b, h3, hl⟩ := then_ok hl
            have hb := ((hN.nx.num (x := a.1) (L' := a.2) h1).is g2).num (x := b.1) (L' := b.2) h3
            split at hl
            · injection hl with hl; injection hl with _ hl; rw [← hl] at h2; exact hb.is h2
            · rename_i L4 h4
              obtain ⟨c, h5, hl⟩ := then_ok hl
              injection hl with hl; injection hl with _ hl; rw [← hl] at h2
              exact ((hb.is h4).num (x := c.1) (L' := c.2) h5).is h2
        · cases h
/-! Items, and the whole. -/
def Rd.close (r : Rd) : Rd := ((r.next 3 (asc "}")).2.next 0 []).2
def AgC (x : Except (Int × List Tk) Pl) (q : Pl) (r : Rd) : Prop := match x with
  | .ok p => q = p ∧ r.err = 0
  | .error e => e.1 ≠ 0 ∧ r.err = e.1 ∧ r.line = (hdT e.2).line
theorem close_err {r : Rd} (h : r.err ≠ 0) : r.close = r := by unfold Rd.close; rw [next_err h, next_err h]
theorem items_dead : ∀ (g : Nat) (p : Pl) (pr pa : Bool) (r : Rd), r.err ≠ 0 → Rd.items g p pr pa r = (p, r)
  | 0, _, _, _, _, _ => rfl
  | _ + 1, _, _, _, _, h => by unfold Rd.items; rw [if_pos (Or.inl h)]
theorem any_ok {k : Int} {L : List Tk} {l0 : Int} (h : (hdT L).kind = k) : Rd.next k [] ⟨L, 0, l0⟩ = ((hdT L).text, ⟨nxT L, 0, l0⟩) := by
  unfold Rd.next
  rw [if_neg (fun h => h rfl), if_neg (fun o => o.elim (fun h1 => h1 h) fun h1 => h1.1 rfl)]
theorem any_no {k : Int} {L : List Tk} {l0 : Int} (h : (hdT L).kind ≠ k) : Rd.next k [] ⟨L, 0, l0⟩ = (ByteArray.empty, ⟨L, 1, (hdT L).line⟩) := by
  unfold Rd.next
  rw [if_neg (fun h => h rfl), if_pos (Or.inl h)]
  simp [Rd.fail]
theorem close_no {L : List Tk} {l0 : Int} (h : isT 3 (asc "}") L = none) : Rd.close ⟨L, 0, l0⟩ = ⟨L, 1, (hdT L).line⟩ := by
  unfold Rd.close
  rw [next_no (by decide) h, next_err Int.one_ne_zero]
theorem items_agr : ∀ (n : Nat) (L : List Tk) (p : Pl) (pr pa : Bool) (l0 : Int) (f g : Nat), L.length ≤ n → NumOk L → n < f → n ≤ g →
    AgC (itemsT f L p pr pa) (Rd.items g p pr pa ⟨L, 0, l0⟩).1 (Rd.items g p pr pa ⟨L, 0, l0⟩).2.close
  | n, L, p, pr, pa, l0, 0, g, _, _, hf, _ => absurd hf (Nat.not_lt_zero _)
  | n, L, p, pr, pa, l0, f + 1, g, hl, hN, hf, hg => by
    rw [itemsT]
    cases h : isT 3 (asc "}") L with
    | some L' =>
      have hi := is_some h
      have e : Rd.items g p pr pa ⟨L, 0, l0⟩ = (p, ⟨L, 0, l0⟩) := by
        cases g with
        | zero => rfl
        | succ g => unfold Rd.items; rw [if_pos (Or.inr ⟨hi.1, hi.2.1⟩)]
      rw [e]
      have e2 : Rd.close ⟨L, 0, l0⟩ = (Rd.next 0 [] ⟨L', 0, l0⟩).2 := by unfold Rd.close; rw [next_ok h]
      dsimp only
      rw [e2]
      by_cases hk : (hdT L').kind = 0
      · rw [if_pos hk, any_ok hk]
        exact ⟨rfl, rfl⟩
      · rw [if_neg hk, any_no hk]
        exact ⟨Int.one_ne_zero, rfl, rfl⟩
    | none =>
      have hi := is_none h
      dsimp only
      cases g with
      | zero =>
        have : L = [] := List.length_eq_zero_iff.1 (by omega)
        subst this
        show AgC _ p (Rd.close ⟨[], 0, l0⟩)
        rw [close_no h]
        exact ⟨Int.one_ne_zero, rfl, rfl⟩
      | succ g =>
        have ha := item_agr (p := p) (pr := pr) (pa := pa) (l0 := l0) hN
        have e : Rd.items (g + 1) p pr pa ⟨L, 0, l0⟩ = Rd.items g (Rd.item p pr pa ⟨L, 0, l0⟩).1.1 (Rd.item p pr pa ⟨L, 0, l0⟩).1.2.1 (Rd.item p pr pa ⟨L, 0, l0⟩).1.2.2 (Rd.item p pr pa ⟨L, 0, l0⟩).2 := by
          rw [Rd.items, if_neg (fun o => o.elim (fun h1 => h1 rfl) fun h1 => hi h1)]
        rw [e]
        cases hI : itemT L p pr pa with
        | error e =>
          rw [hI] at ha
          obtain ⟨g1, g2, g3⟩ := ha
          have hd : (Rd.item p pr pa ⟨L, 0, l0⟩).2.err ≠ 0 := by rw [g2]; exact g1
          rw [items_dead _ _ _ _ _ hd, close_err hd]
          exact ⟨g1, g2, g3⟩
        | ok a =>
          obtain ⟨⟨p', pr', pa'⟩, L'⟩ := a
          rw [hI] at ha
          have ha' : Rd.item p pr pa ⟨L, 0, l0⟩ = ((p', pr', pa'), ⟨L', 0, l0⟩) := ha
          rw [ha']
          have hlt := item_eats hI
          exact items_agr (n - 1) L' p' pr' pa' l0 f g (by omega) (item_num hN hI) (by omega) (by omega)
theorem plan_agr (T : List Tk) (hN : NumOk T) : AgC (planT T) (rparseT T).1 (rparseT T).2 := by
  unfold planT rparseT
  cases h1 : isT 1 (asc "deck") T with
  | none =>
    have hd : (⟨T, 1, (hdT T).line⟩ : Rd).err ≠ 0 := Int.one_ne_zero
    rw [next_no (by decide) h1]
    dsimp only
    rw [next_err hd]
    dsimp only
    rw [next_err hd]
    dsimp only
    rw [items_dead _ _ _ _ _ hd]
    dsimp only
    rw [next_err hd, next_err hd]
    exact ⟨Int.one_ne_zero, rfl, rfl⟩
  | some L1 =>
    have hN1 := hN.is h1
    have hl1 := is_len h1
    rw [next_ok h1]
    dsimp only [thenT]
    by_cases hk : (hdT L1).kind = 1
    · rw [if_neg (fun h => h hk), any_ok hk]
      dsimp only
      have hl2 := nx_len L1
      cases h3 : isT 3 (asc "{") (nxT L1) with
      | none =>
        have hd : (⟨nxT L1, 1, (hdT (nxT L1)).line⟩ : Rd).err ≠ 0 := Int.one_ne_zero
        rw [next_no (by decide) h3]
        dsimp only
        rw [items_dead _ _ _ _ _ hd]
        dsimp only
        rw [next_err hd, next_err hd]
        exact ⟨Int.one_ne_zero, rfl, rfl⟩
      | some L3 =>
        have hl3 := is_len h3
        rw [next_ok h3]
        exact items_agr T.length L3 _ _ _ _ _ _ (by omega) (hN1.nx.is h3) (Nat.lt_succ_self _) (Nat.le_refl _)
    · rw [if_pos hk, any_no hk]
      have hd : (⟨L1, 1, (hdT L1).line⟩ : Rd).err ≠ 0 := Int.one_ne_zero
      dsimp only
      rw [next_err hd]
      dsimp only
      rw [items_dead _ _ _ _ _ hd]
      dsimp only
      rw [next_err hd, next_err hd]
      exact ⟨Int.one_ne_zero, rfl, rfl⟩
theorem place_line : ∀ (l : List Nat) (p : Int × Int), (l.foldl step1 p).1 = p.1 + (l.count 10 : Nat)
  | [], p => by simp
  | c :: r, p => by
    rw [List.foldl_cons, place_line r, List.count_cons]
    unfold step1
    by_cases h : c = 10
    · rw [if_pos h, if_pos (by simp [h])]; simp only; omega
    · rw [if_neg h, if_neg (by simpa using h)]; simp
theorem parse_same (s : ByteArray) (hN : NumOk (scanE s).2.2) : rparseP s = parseP s := by
  unfold rparseP parseP
  split
  · rfl
  · split
    · rw [show place ((bs s).take (scanE s).2.1.toNat) = ((bs s).take (scanE s).2.1.toNat).foldl step1 (1, 1) from rfl, place_line]
    · have h := plan_agr _ hN
      cases hp : planT (scanE s).2.2 with
      | ok p =>
        rw [hp] at h
        rw [if_neg (by rw [h.2]; exact fun e => e rfl), h.1]
      | error e =>
        rw [hp] at h
        rw [if_pos (by rw [h.2.1]; exact h.1), h.2.1, h.2.2]
end Go.Proofs.YtbdkggnajipdhaaGreatDoor
/- Plain: laws of the scanner: blanks, line feeds, shifts, what its tokens are. No program in sight. -/
namespace Go.Proofs.YtbdkggnajipdhaaGreatDoor
theorem spn_cons_pos {q : Nat → Bool} {c : Nat} {r : List Nat} (h : q c = true) : spn q (c :: r) = spn q r + 1 := by unfold spn; rw [List.takeWhile_cons_of_pos h]; rfl
theorem spn_cons_neg {q : Nat → Bool} {c : Nat} {r : List Nat} (h : q c = false) : spn q (c :: r) = 0 := by unfold spn; rw [List.takeWhile_cons_of_neg (by rw [h]; simp)]; rfl
/-- One blank is passed. -/
theorem blank_one {c : Nat} (h : blankB c = true) (l : List Nat) (at_ : Nat) : lexR at_ (c :: l) = lexR (at_ + 1) l := by
  have hp : piece (c :: l) = (0, spn blankB l + 1) := by rw [piece, if_pos h, spn_cons_pos h]
  rw [lexR_cons, hp, if_neg (by simp), if_pos rfl]
  simp only [List.drop_succ_cons]
  cases l with
  | nil => simp [spn, lexR_nil]
  | cons d r =>
    by_cases hd : blankB d = true
    · have hp2 : piece (d :: r) = (0, spn blankB (d :: r)) := by rw [piece, if_pos hd]
      have := spn_pos (r := r) hd
      rw [lexR_cons (at_ + 1), hp2, if_neg (by simp only; omega), if_pos rfl]
      simp only
      rw [show at_ + (spn blankB (d :: r) + 1) = at_ + 1 + spn blankB (d :: r) from by omega]
    · rw [spn_cons_neg (by simpa using hd)]; simp
/-- A remark is passed. -/
theorem hash_one (r : List Nat) (at_ : Nat) : lexR at_ (35 :: r) = lexR (at_ + spn remB (35 :: r)) ((35 :: r).drop (spn remB (35 :: r))) := by
  have hp : piece (35 :: r) = (0, spn remB (35 :: r)) := by rw [piece, if_neg (by decide), if_pos rfl]
  rw [lexR_cons, hp, if_neg (by rw [spn_cons_pos (by decide)]; simp), if_pos rfl]
theorem blank_not {c : Nat} (h : blankB c = true) : letterB c = false ∧ digitB c = false ∧ wordB c = false ∧ markB c = false ∧ c ≠ 35 := by
  unfold wordB markB letterB digitB
  unfold blankB at h
  simp only [Bool.or_eq_true, beq_iff_eq, Bool.or_eq_false_iff, Bool.and_eq_false_iff, decide_eq_false_iff_not, beq_eq_false_iff_ne] at *
  omega
theorem spn_app {q : Nat → Bool} {b : Nat} (hb : q b = false) (r : List Nat) : ∀ l : List Nat, spn q (l ++ b :: r) = spn q l
  | [] => spn_cons_neg hb
  | c :: l => by
    rw [List.cons_append]
    by_cases h : q c = true
    · rw [spn_cons_pos h, spn_cons_pos h, spn_app hb r l]
    · rw [spn_cons_neg (by simpa using h), spn_cons_neg (by simpa using h)]
/-- The first piece, where something stands behind with which no word and no number goes on. -/
theorem piece_app {b : Nat} (hw : wordB b = false) (hd : digitB b = false) (r : List Nat) (c : Nat) (l : List Nat) (h1 : blankB c = false) (h2 : c ≠ 35) : piece (c :: l ++ b :: r) = piece (c :: l) := by
  have e1 := spn_app hw r (c :: l)
  have e2 := spn_app hd r (c :: l)
  rw [List.cons_append] at *
  simp only [piece, h1, Bool.false_eq_true, if_false, h2, e1, e2]
def thenR (R : Except Nat (List (Nat × Nat × Nat))) (S : Except Nat (List (Nat × Nat × Nat))) : Except Nat (List (Nat × Nat × Nat)) := match R with
  | .ok T => joinR T S
  | .error e => .error e
theorem thenR_cons (t : Nat × Nat × Nat) (R S : Except Nat (List (Nat × Nat × Nat))) : thenR (consR t R) S = consR t (thenR R S) := by
  cases R <;> cases S <;> simp [thenR, consR, joinR]
/-- A line feed behind a text: the text's tokens, then the rest's. -/
theorem lexR_line (r : List Nat) : ∀ (n : Nat) (l : List Nat) (at_ : Nat), l.length ≤ n → lexR at_ (l ++ 10 :: r) = thenR (lexR at_ l) (lexR (at_ + l.length) (10 :: r))
  | _, [], at_, _ => by
    rw [List.nil_append, lexR_nil, List.length_nil, Nat.add_zero]
    unfold thenR joinR
    cases lexR at_ (10 :: r) <;> rfl
  | 0, c :: l, _, h => by simp at h
  | n + 1, c :: l, at_, h => by
    rw [List.length_cons] at h
    by_cases hb : blankB c = true
    · rw [List.cons_append, blank_one hb, blank_one hb, lexR_line r n l _ (by omega), List.length_cons, show at_ + 1 + l.length = at_ + (l.length + 1) from by omega]
    · have hb : blankB c = false := by simpa using hb
      have go : ∀ k, k ≤ (c :: l).length → 1 ≤ k → lexR (at_ + k) ((c :: l ++ 10 :: r).drop k) = thenR (lexR (at_ + k) ((c :: l).drop k)) (lexR (at_ + (c :: l).length) (10 :: r)) := by
        intro k hk h1
        rw [List.drop_append_of_le_length hk, lexR_line r n _ _ (by rw [List.length_drop, List.length_cons]; omega), List.length_drop, show at_ + k + ((c :: l).length - k) = at_ + (c :: l).length from by omega]
      by_cases h35 : c = 35
      · subst h35
        have e : spn remB (35 :: (l ++ 10 :: r)) = spn remB (35 :: l) := spn_app (by decide) r (35 :: l)
        rw [List.cons_append, hash_one, hash_one, e]
        exact go _ (spn_le _ _) (spn_pos (by decide))
      · have hp := piece_app (b := 10) (by decide) (by decide) r c l hb h35
        rw [List.cons_append] at hp ⊢
        rw [lexR_cons, lexR_cons, hp]
        split
        · rfl
        · rename_i h2
          have := go (piece (c :: l)).2 (piece_le _) (by omega)
          rw [List.cons_append] at this
          split
          · exact this
          · rw [this, thenR_cons]
/-- A blank behind a text changes nothing. -/
theorem lexR_snoc {b : Nat} (hb : blankB b = true) : ∀ (n : Nat) (l : List Nat) (at_ : Nat), l.length ≤ n → lexR at_ (l ++ [b]) = lexR at_ l
  | _, [], at_, _ => by rw [List.nil_append, blank_one hb, lexR_nil, lexR_nil]
  | 0, c :: l, _, h => by simp at h
  | n + 1, c :: l, at_, h => by
    rw [List.length_cons] at h
    by_cases hc : blankB c = true
    · rw [List.cons_append, blank_one hc, blank_one hc, lexR_snoc hb n l _ (by omega)]
    · have hc : blankB c = false := by simpa using hc
      have go : ∀ k, k ≤ (c :: l).length → 1 ≤ k → lexR (at_ + k) ((c :: l ++ [b]).drop k) = lexR (at_ + k) ((c :: l).drop k) := by
        intro k hk h1
        rw [List.drop_append_of_le_length hk, lexR_snoc hb n _ _ (by rw [List.length_drop, List.length_cons]; omega)]
      by_cases h35 : c = 35
      · subst h35
        by_cases h10 : b = 10
        · subst h10
          have e : spn remB (35 :: (l ++ [10])) = spn remB (35 :: l) := spn_app (by decide) [] (35 :: l)
          rw [List.cons_append, hash_one, hash_one, e]
          exact go _ (spn_le _ _) (spn_pos (by decide))
        · have hrb : remB b = true := by unfold remB; simp [h10]
          have e : spn remB (35 :: l ++ [b]) = if spn remB (35 :: l) = (35 :: l).length then (35 :: l).length + 1 else spn remB (35 :: l) := by
            generalize (35 :: l) = m
            induction m with
            | nil => simp [spn, hrb]
            | cons d m ih =>
              rw [List.cons_append]
              by_cases hd : remB d = true
              · rw [spn_cons_pos hd, spn_cons_pos hd, ih, List.length_cons]
                split <;> split <;> omega
              · rw [spn_cons_neg (by simpa using hd), spn_cons_neg (by simpa using hd), if_neg (by simp)]
          rw [List.cons_append] at e ⊢
          rw [hash_one, hash_one, e]
          split
          · rename_i h1
            rw [h1, List.drop_eq_nil_of_le (by simp), List.drop_eq_nil_of_le (by simp), lexR_nil, lexR_nil]
          · exact go _ (spn_le _ _) (spn_pos (by decide))
      · obtain ⟨_, hd, hw, _⟩ := blank_not hb
        have hp := piece_app hw hd [] c l hc h35
        rw [List.cons_append] at hp ⊢
        rw [lexR_cons, lexR_cons, hp]
        split
        · rfl
        · rename_i h2
          have := go (piece (c :: l)).2 (piece_le _) (by omega)
          rw [List.cons_append] at this
          split
          · exact this
          · rw [this]
def shiftR (d : Nat) : Except Nat (List (Nat × Nat × Nat)) → Except Nat (List (Nat × Nat × Nat))
  | .ok T => .ok (T.map fun t => (t.1, t.2.1 + d, t.2.2))
  | .error e => .error (e + d)
theorem lexR_shift (d : Nat) : ∀ (n : Nat) (l : List Nat) (at_ : Nat), l.length ≤ n → lexR (at_ + d) l = shiftR d (lexR at_ l)
  | _, [], at_, _ => rfl
  | 0, c :: l, _, h => by simp at h
  | n + 1, c :: l, at_, h => by
    rw [lexR_cons, lexR_cons]
    split
    · rfl
    · have hd : ((c :: l).drop (piece (c :: l)).2).length ≤ n := by rw [List.length_drop]; omega
      have e : at_ + d + (piece (c :: l)).2 = at_ + (piece (c :: l)).2 + d := by omega
      split
      · rw [e, lexR_shift d n _ _ hd]
      · rw [e, lexR_shift d n _ _ hd]
        cases lexR (at_ + (piece (c :: l)).2) ((c :: l).drop (piece (c :: l)).2) <;> simp [consR, shiftR]
/-! What the tokens are. -/
def good (k : Nat) (t : List Nat) : Prop :=
  (k = 1 ∧ (∃ c r, t = c :: r ∧ letterB c = true) ∧ ∀ c ∈ t, wordB c = true) ∨
  (k = 2 ∧ (∃ c r, t = c :: r ∧ badN t.length c = false) ∧ ∀ c ∈ t, digitB c = true) ∨
  (k = 3 ∧ ∃ c, t = [c] ∧ markB c = true)
theorem spn_take {q : Nat → Bool} : ∀ l : List Nat, ∀ c ∈ l.take (spn q l), q c = true
  | [], c, h => by simp at h
  | d :: l, c, h => by
    by_cases hd : q d = true
    · rw [spn_cons_pos hd, List.take_succ_cons] at h
      rcases List.mem_cons.1 h with rfl | h
      · exact hd
      · exact spn_take l c h
    · rw [spn_cons_neg (by simpa using hd)] at h; simp at h
theorem piece_good (l : List Nat) (h1 : (piece l).1 ≠ 0) (h2 : (piece l).2 ≠ 0) : good (piece l).1 (l.take (piece l).2) := by
  cases l with
  | nil => simp [piece] at h1
  | cons c r =>
    rw [piece] at h1 h2 ⊢
    split at h1
    · simp at h1
    · rename_i a1
      rw [if_neg a1] at h2 ⊢
      split at h1
      · simp at h1
      · rename_i a2
        rw [if_neg a2] at h2 ⊢
        split at h1
        · rename_i a3
          rw [if_pos a3] at h2 ⊢
          have hw : wordB c = true := by unfold wordB; rw [a3]; rfl
          refine .inl ⟨rfl, ⟨c, r.take (spn wordB r), ?_, a3⟩, spn_take _⟩
          simp only [spn_cons_pos hw, List.take_succ_cons]
        · rename_i a3
          rw [if_neg a3] at h2 ⊢
          split at h1
          · rename_i a4
            rw [if_pos a4] at h2 ⊢
            split at h2
            · simp at h2
            · rename_i a5
              rw [if_neg a5]
              refine .inr (.inl ⟨rfl, ⟨c, r.take (spn digitB r), ?_, ?_⟩, spn_take _⟩)
              · simp only [spn_cons_pos a4, List.take_succ_cons]
              · simp only
                rw [List.length_take, Nat.min_eq_left (spn_le _ _)]
                simpa using a5
          · rename_i a4
            rw [if_neg a4] at h2 ⊢
            split at h1
            · rename_i a5
              rw [if_pos a5]
              exact .inr (.inr ⟨rfl, c, by simp, a5⟩)
            · simp at h1
theorem lexR_good : ∀ (n : Nat) (l : List Nat) (at_ : Nat) (T : List (Nat × Nat × Nat)), l.length ≤ n → lexR at_ l = .ok T →
    ∀ t ∈ T, at_ ≤ t.2.1 ∧ 1 ≤ t.2.2 ∧ t.2.1 + t.2.2 ≤ at_ + l.length ∧ good t.1 ((l.drop (t.2.1 - at_)).take t.2.2)
  | _, [], _, T, _, h => by rw [lexR_nil] at h; injection h with h; subst h; intro t ht; simp at ht
  | 0, c :: l, _, _, hl, _ => by simp at hl
  | n + 1, c :: l, at_, T, hl, h => by
    have hpl := piece_le (c :: l)
    have hpg := piece_good (c :: l)
    rw [lexR_cons] at h
    generalize piece (c :: l) = pc at *
    obtain ⟨k, m⟩ := pc
    simp only at *
    have go : ∀ T', 1 ≤ m → lexR (at_ + m) ((c :: l).drop m) = .ok T' → ∀ t ∈ T', at_ ≤ t.2.1 ∧ 1 ≤ t.2.2 ∧ t.2.1 + t.2.2 ≤ at_ + (c :: l).length ∧ good t.1 (((c :: l).drop (t.2.1 - at_)).take t.2.2) := by
      intro T' hm hT t ht
      obtain ⟨h1, h2, h3, h4⟩ := lexR_good n _ _ T' (by rw [List.length_drop]; omega) hT t ht
      rw [List.length_drop] at h3
      refine ⟨by omega, h2, by omega, ?_⟩
      rw [List.drop_drop] at h4
      rwa [show m + (t.2.1 - (at_ + m)) = t.2.1 - at_ from by omega] at h4
    split at h
    · cases h
    · rename_i a1
      split at h
      · exact go T (by omega) h
      · rename_i a2
        cases hR : lexR (at_ + m) ((c :: l).drop m) with
        | error e => rw [hR] at h; cases h
        | ok T' =>
          rw [hR] at h
          simp only [consR, Except.ok.injEq] at h
          subst h
          intro t ht
          rcases List.mem_cons.1 ht with rfl | ht
          · exact ⟨Nat.le_refl _, by simp only; omega, by simp only; omega, by simpa using hpg a2 a1⟩
          · exact go T' (by omega) hR t ht
/-- An error lies within the text. -/
theorem lexR_err : ∀ (n : Nat) (l : List Nat) (at_ x : Nat), l.length ≤ n → lexR at_ l = .error x → at_ ≤ x ∧ x < at_ + l.length
  | _, [], _, x, _, h => by rw [lexR_nil] at h; cases h
  | 0, c :: l, _, _, hl, _ => by simp at hl
  | n + 1, c :: l, at_, x, hl, h => by
    have hpl := piece_le (c :: l)
    rw [lexR_cons] at h
    split at h
    · injection h with h; subst h; simp
    · have hd : ((c :: l).drop (piece (c :: l)).2).length ≤ n := by rw [List.length_drop]; omega
      have hdl : ((c :: l).drop (piece (c :: l)).2).length = (c :: l).length - (piece (c :: l)).2 := List.length_drop
      split at h
      · have := lexR_err n _ _ x hd h; omega
      · cases hR : lexR (at_ + (piece (c :: l)).2) ((c :: l).drop (piece (c :: l)).2) with
        | error e =>
          rw [hR] at h
          simp only [consR, Except.error.injEq] at h
          subst h
          have := lexR_err n _ _ e hd hR; omega
        | ok T' => rw [hR] at h; cases h
/-- The lengths of the tokens together. -/
theorem lexR_sum : ∀ (n : Nat) (l : List Nat) (at_ : Nat) (T : List (Nat × Nat × Nat)), l.length ≤ n → lexR at_ l = .ok T → (T.map (·.2.2)).sum ≤ l.length
  | _, [], _, T, _, h => by rw [lexR_nil] at h; injection h with h; subst h; simp
  | 0, c :: l, _, _, hl, _ => by simp at hl
  | n + 1, c :: l, at_, T, hl, h => by
    have hpl := piece_le (c :: l)
    rw [lexR_cons] at h
    split at h
    · cases h
    · rename_i a1
      have hd : ((c :: l).drop (piece (c :: l)).2).length ≤ n := by rw [List.length_drop]; omega
      split at h
      · have := lexR_sum n _ _ T hd h
        rw [List.length_drop] at this; omega
      · cases hR : lexR (at_ + (piece (c :: l)).2) ((c :: l).drop (piece (c :: l)).2) with
        | error e => rw [hR] at h; cases h
        | ok T' =>
          rw [hR] at h
          simp only [consR, Except.ok.injEq] at h
          subst h
          have := lexR_sum n _ _ T' hd hR
          rw [List.length_drop] at this
          simp only [List.map_cons, List.sum_cons]; omega
/-! Text that is written out of tokens. -/
/-- A token is read as it was written, where nothing goes on behind it. -/
theorem good_piece {k : Nat} {t : List Nat} (h : good k t) (r : List Nat) (hr : ∀ c r', r = c :: r' → wordB c = false ∧ digitB c = false) : piece (t ++ r) = (k, t.length) ∧ t ≠ [] := by
  have sp : ∀ (q : Nat → Bool), (∀ c ∈ t, q c = true) → (∀ c r', r = c :: r' → q c = false) → spn q (t ++ r) = t.length := by
    intro q h1 h2
    clear h
    induction t with
    | nil => cases r with
      | nil => rfl
      | cons c r' => exact spn_cons_neg (h2 c r' rfl)
    | cons c t ih => rw [List.cons_append, spn_cons_pos (h1 c (by simp)), ih fun d hd => h1 d (by simp [hd])]; rfl
  rcases h with ⟨rfl, ⟨c, r', rfl, hc⟩, hall⟩ | ⟨rfl, ⟨c, r', rfl, hbad⟩, hall⟩ | ⟨rfl, c, rfl, hc⟩
  · have h0 : blankB c = false ∧ c ≠ 35 := by
      unfold letterB at hc; unfold blankB
      simp only [Bool.and_eq_true, decide_eq_true_eq, Bool.or_eq_false_iff, beq_eq_false_iff_ne] at *
      omega
    have e := sp wordB hall fun c r' h => (hr c r' h).1
    refine ⟨?_, by simp⟩
    rw [List.cons_append] at e ⊢
    rw [piece, if_neg (by rw [h0.1]; simp), if_neg h0.2, if_pos hc, e]
  · have hc := hall c (by simp)
    have h0 : blankB c = false ∧ c ≠ 35 ∧ letterB c = false := by
      unfold digitB at hc; unfold blankB letterB
      simp only [Bool.and_eq_true, decide_eq_true_eq, Bool.or_eq_false_iff, Bool.and_eq_false_iff, decide_eq_false_iff_not, beq_eq_false_iff_ne] at *
      omega
    have e := sp digitB hall fun c r' h => (hr c r' h).2
    refine ⟨?_, by simp⟩
    rw [List.cons_append] at e ⊢
    rw [piece, if_neg (by rw [h0.1]; simp), if_neg h0.2.1, if_neg (by rw [h0.2.2]; simp), if_pos hc, e, hbad, if_neg (by simp)]
  · have h0 : blankB c = false ∧ c ≠ 35 ∧ letterB c = false ∧ digitB c = false := by
      unfold markB at hc; unfold blankB letterB digitB
      simp only [Bool.or_eq_true, beq_iff_eq, Bool.or_eq_false_iff, Bool.and_eq_false_iff, decide_eq_false_iff_not, beq_eq_false_iff_ne] at *
      omega
    refine ⟨?_, by simp⟩
    rw [List.cons_append, List.nil_append, piece, if_neg (by rw [h0.1]; simp), if_neg h0.2.1, if_neg (by rw [h0.2.2.1]; simp), if_neg (by rw [h0.2.2.2]; simp), if_pos hc]
    rfl
theorem good_kind {k : Nat} {t : List Nat} (h : good k t) : k ≠ 0 ∧ k ≤ 3 := by
  rcases h with ⟨rfl, _⟩ | ⟨rfl, _⟩ | ⟨rfl, _⟩ <;> simp
/-- A token, a blank, the rest. -/
theorem lexR_tok_blank {k : Nat} {t : List Nat} (h : good k t) {b : Nat} (hb : blankB b = true) (r : List Nat) (at_ : Nat) : lexR at_ (t ++ b :: r) = consR (k, at_, t.length) (lexR (at_ + t.length + 1) r) := by
  obtain ⟨_, hd, hw, _⟩ := blank_not hb
  obtain ⟨hp, hne⟩ := good_piece h (b :: r) (fun c r' e => by injection e with e1 e2; subst e1; exact ⟨hw, hd⟩)
  have hk := (good_kind h).1
  cases t with
  | nil => exact absurd rfl hne
  | cons c t =>
    rw [List.cons_append] at hp ⊢
    rw [lexR_cons, hp, if_neg (by simp), if_neg hk]
    simp only
    rw [show (c :: (t ++ b :: r)).drop (c :: t).length = b :: r from by simp, blank_one hb]
theorem lexR_tok_end {k : Nat} {t : List Nat} (h : good k t) (at_ : Nat) : lexR at_ t = .ok [(k, at_, t.length)] := by
  obtain ⟨hp, hne⟩ := good_piece h [] (fun c r' e => by cases e)
  have hk := (good_kind h).1
  rw [List.append_nil] at hp
  cases t with
  | nil => exact absurd rfl hne
  | cons c t =>
    rw [lexR_cons, hp, if_neg (by simp), if_neg hk]
    simp only
    rw [List.drop_length, lexR_nil]
    rfl
end Go.Proofs.YtbdkggnajipdhaaGreatDoor
