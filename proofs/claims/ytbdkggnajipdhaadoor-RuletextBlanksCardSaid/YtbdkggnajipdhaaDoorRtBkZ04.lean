/- Texts laid one behind the other: LexP, NumP, ScrP, DkP, LexS, DkQ, DkR, DkS, LexL, DkT, DkU, RtP, PaR, Ord5, Pan. Each says at its head what it proves. -/
import Derived.Test.YtbdkggnajipdhaaDoorRtBkZ03
import Derived.Lib.ItoaLen
import Derived.Recover
set_option linter.unusedSimpArgs false
/- Plain: bytes of a string as numbers; kinds of bytes; the first piece of a text. No program in sight. -/
namespace Go.Proofs.YtbdkggnajipdhaaDoor
def bs (s : ByteArray) : List Nat := s.data.toList.map UInt8.toNat
theorem bs_len (s : ByteArray) : (bs s).length = s.size := by simp [bs]
theorem bs_lt (s : ByteArray) : ∀ c ∈ bs s, c < 256 := by
  intro c hc
  obtain ⟨b, _, rfl⟩ := List.mem_map.1 hc
  exact UInt8.toNat_lt _
theorem bt_bs (s : ByteArray) (i : Nat) : bt s i = (bs s).getD i 0 := by
  unfold bt bs
  rw [List.getD_eq_getElem?_getD, List.getD_eq_getElem?_getD, List.getElem?_map]
  cases s.data.toList[i]? <;> rfl
theorem bs_get {s : ByteArray} {i : Nat} (h : i < s.size) : (bs s)[i]? = some (bt s i) := by
  rw [bt_bs, List.getD_eq_getElem?_getD]
  have : i < (bs s).length := by rw [bs_len]; exact h
  rw [List.getElem?_eq_getElem this]; rfl
theorem bs_extract (s : ByteArray) (a b : Nat) : bs (s.extract a b) = ((bs s).drop a).take (b - a) := by
  unfold bs
  rw [ByteArray.data_extract, Array.toList_extract, List.extract_eq_take_drop, List.map_take, List.map_drop]
theorem bs_inj {s t : ByteArray} (h : bs s = bs t) : s = t := by
  apply ByteArray.ext
  apply Array.ext'
  unfold bs at h
  exact (List.map_inj_right (fun a b e => UInt8.toNat_inj.1 e)).1 h
theorem bs_empty : bs ByteArray.empty = [] := rfl
def blankB (c : Nat) : Bool := c == 32 || c == 9 || c == 13 || c == 10
def letterB (c : Nat) : Bool := decide (97 ≤ c) && decide (c ≤ 122)
def digitB (c : Nat) : Bool := decide (48 ≤ c) && decide (c ≤ 57)
def wordB (c : Nat) : Bool := letterB c || digitB c || c == 45
def remB (c : Nat) : Bool := !(c == 10)
def markB (c : Nat) : Bool := c == 123 || c == 125 || c == 59 || c == 58
def spn (q : Nat → Bool) (l : List Nat) : Nat := (l.takeWhile q).length
def badN (n c : Nat) : Bool := decide (18 < n) || (decide (1 < n) && c == 48)
/-- The kind and the length of what a text begins with: kind 0 for blanks and remarks, length 0 for an error. -/
def piece : List Nat → Nat × Nat
  | [] => (0, 0)
  | c :: r =>
    if blankB c then (0, spn blankB (c :: r))
    else if c = 35 then (0, spn remB (c :: r))
    else if letterB c then (1, spn wordB (c :: r))
    else if digitB c then (if badN (spn digitB (c :: r)) c then (2, 0) else (2, spn digitB (c :: r)))
    else if markB c then (3, 1) else (0, 0)
theorem spn_le (q : Nat → Bool) (l : List Nat) : spn q l ≤ l.length := by
  unfold spn
  induction l with
  | nil => simp
  | cons c r ih =>
    by_cases h : q c = true
    · rw [List.takeWhile_cons_of_pos h]; simpa using ih
    · rw [List.takeWhile_cons_of_neg h]; simp
theorem spn_pos {q : Nat → Bool} {c : Nat} {r : List Nat} (h : q c = true) : 1 ≤ spn q (c :: r) := by unfold spn; rw [List.takeWhile_cons_of_pos h]; simp
theorem piece_le (l : List Nat) : (piece l).2 ≤ l.length := by
  cases l with
  | nil => simp [piece]
  | cons c r =>
    rw [piece]
    have h1 := spn_le blankB (c :: r); have h2 := spn_le remB (c :: r); have h3 := spn_le wordB (c :: r); have h4 := spn_le digitB (c :: r)
    repeat' split
    all_goals simp only [List.length_cons] at *
    all_goals omega
theorem spn_at {q : Nat → Bool} : ∀ (l : List Nat) (k : Nat), k < spn q l → ∃ c, l[k]? = some c ∧ q c = true
  | [], k, h => by simp [spn] at h
  | c :: r, k, h => by
    unfold spn at h
    by_cases hq : q c = true
    · rw [List.takeWhile_cons_of_pos hq] at h
      cases k with
      | zero => exact ⟨c, rfl, hq⟩
      | succ k => obtain ⟨d, h1, h2⟩ := spn_at r k (by unfold spn; simpa using h); exact ⟨d, by simpa using h1, h2⟩
    · rw [List.takeWhile_cons_of_neg hq] at h; simp at h
/-- It is the first that is not taken. -/
theorem spn_is {q : Nat → Bool} : ∀ (l : List Nat) (k : Nat), (∀ j, j < k → ∃ c, l[j]? = some c ∧ q c = true) → (∀ c, l[k]? = some c → q c = false) → spn q l = k
  | [], k, h1, _ => by
    cases k with
    | zero => rfl
    | succ k => obtain ⟨c, h, _⟩ := h1 0 (by omega); simp at h
  | c :: r, k, h1, h2 => by
    unfold spn
    cases k with
    | zero => rw [List.takeWhile_cons_of_neg (by rw [h2 c rfl]; simp)]; rfl
    | succ k =>
      obtain ⟨d, hd, hq⟩ := h1 0 (by omega)
      simp only [List.getElem?_cons_zero, Option.some.injEq] at hd
      subst hd
      rw [List.takeWhile_cons_of_pos hq, List.length_cons]
      have := spn_is r k (fun j hj => by obtain ⟨d, h, h'⟩ := h1 (j + 1) (by omega); exact ⟨d, by simpa using h, h'⟩) (fun c hc => h2 c (by simpa using hc))
      unfold spn at this
      rw [this]
end Go.Proofs.YtbdkggnajipdhaaDoor
/- Plain: decimal numbers, written and read. No program in sight. -/
namespace Go.Proofs.YtbdkggnajipdhaaDoor
/-! Numbers. -/
def dec (u : Nat) : List Nat := (Lib.decDigits u).map UInt8.toNat
def fmtI (n : Int) : List Nat := (Lib.itoa n).map UInt8.toNat
def decOK : List Nat → Bool
  | [] => false
  | c :: r => (c != 48 || r.isEmpty) && (c :: r).all digitB
def valD (a : Nat) (l : List Nat) : Nat := l.foldl (fun a c => a * 10 + (c - 48)) a
def negB : List Nat → Bool
  | 45 :: _ => true
  | _ => false
def magL (l : List Nat) : List Nat := if negB l then l.drop 1 else l
def numE (l : List Nat) : Int × Int :=
  if decOK (magL l) = false ∨ (negB l = true ∧ magL l = [48]) then (0, 1)
  else if negB l then (if 9223372036854775808 < valD 0 (magL l) then (0, 9) else (-(valD 0 (magL l) : Int), 0))
  else if 9223372036854775807 < valD 0 (magL l) then (0, 9) else ((valD 0 (magL l) : Int), 0)
theorem dec_lt {u : Nat} (h : u < 10) : dec u = [48 + u] := by
  unfold dec
  rw [Lib.decDigits, dif_pos h]
  simp only [List.map_cons, List.map_nil, UInt8.toNat_ofNat']
  congr 1
  omega
theorem dec_ge {u : Nat} (h : ¬ u < 10) : dec u = dec (u / 10) ++ [48 + u % 10] := by
  unfold dec
  rw [Lib.decDigits, dif_neg h]
  simp only [List.map_append, List.map_cons, List.map_nil, UInt8.toNat_ofNat']
  congr 2
  omega
theorem all_digit {l : List Nat} (h : ∀ c ∈ l, 48 ≤ c ∧ c ≤ 57) : l.all digitB = true := by
  rw [List.all_eq_true]
  intro c hc
  unfold digitB
  simp [h c hc]
theorem fmtI_nonneg {n : Int} (h : 0 ≤ n) : fmtI n = dec n.toNat := by unfold fmtI Lib.itoa dec; rw [if_neg (by omega)]
theorem valD_cons (a c : Nat) (l : List Nat) : valD a (c :: l) = valD (a * 10 + (c - 48)) l := List.foldl_cons ..
theorem valD_append (a : Nat) (l m : List Nat) : valD a (l ++ m) = valD (valD a l) m := List.foldl_append
theorem valD_ge : ∀ (l : List Nat) (a : Nat), a ≤ valD a l
  | [], a => Nat.le_refl _
  | c :: l, a => by have := valD_ge l (a * 10 + (c - 48)); rw [valD_cons]; omega
theorem valD_take (l : List Nat) (k : Nat) : valD 0 (l.take k) ≤ valD 0 l := by
  conv => rhs; rw [← List.take_append_drop k l, valD_append]
  exact valD_ge _ _
theorem valD_step {l : List Nat} {k c : Nat} (h : l[k]? = some c) : valD 0 (l.take (k + 1)) = valD 0 (l.take k) * 10 + (c - 48) := by
  rw [List.take_add_one, h, valD_append]
  exact valD_cons _ _ _
theorem decOK_cons (c : Nat) (r : List Nat) : decOK (c :: r) = ((c != 48 || r.isEmpty) && (c :: r).all digitB) := rfl
theorem digitB_iff {c : Nat} : digitB c = true ↔ 48 ≤ c ∧ c ≤ 57 := by unfold digitB; simp
theorem decOK_all {l : List Nat} (h : decOK l = true) : ∀ c ∈ l, 48 ≤ c ∧ c ≤ 57 := by
  cases l with
  | nil => cases h
  | cons c r =>
    rw [decOK_cons, Bool.and_eq_true, List.all_eq_true] at h
    exact fun d hd => digitB_iff.1 (h.2 d hd)
theorem decOK_pos {l : List Nat} (h : decOK l = true) (h0 : l ≠ [48]) : 1 ≤ valD 0 l := by
  cases l with
  | nil => cases h
  | cons c r =>
    have h1 := decOK_all h c (by simp)
    rw [decOK_cons, Bool.and_eq_true, Bool.or_eq_true] at h
    have hc : c ≠ 48 := by
      rintro rfl
      rcases h.1 with h2 | h2
      · simp at h2
      · exact h0 (by rw [List.isEmpty_iff.1 h2])
    have := valD_ge r (0 * 10 + (c - 48))
    rw [valD_cons]
    omega
theorem decOK_bad {l : List Nat} {k c : Nat} (h : l[k]? = some c) (hc : ¬ (48 ≤ c ∧ c ≤ 57)) : decOK l = false := by
  cases hd : decOK l with
  | false => rfl
  | true => exact absurd (decOK_all hd c (List.mem_of_getElem? h)) hc
theorem decOK_zero {l : List Nat} (h : l[0]? = some 48) (h1 : 1 < l.length) : decOK l = false := by
  cases l with
  | nil => rfl
  | cons c r =>
    simp only [List.getElem?_cons_zero, Option.some.injEq] at h
    subst h
    cases r with
    | nil => simp at h1
    | cons d r => rw [decOK_cons]; simp
theorem decOK_yes {l : List Nat} (h0 : l ≠ []) (h1 : ¬ (l[0]? = some 48 ∧ 1 < l.length)) (h2 : ∀ (k c : Nat), l[k]? = some c → 48 ≤ c ∧ c ≤ 57) : decOK l = true := by
  cases l with
  | nil => exact absurd rfl h0
  | cons c r =>
    rw [decOK_cons, Bool.and_eq_true]
    refine ⟨?_, all_digit fun d hd => ?_⟩
    · by_cases hc : c = 48
      · subst hc
        cases r with
        | nil => simp
        | cons d r => exact absurd ⟨rfl, by simp⟩ h1
      · simp [hc]
    · obtain ⟨k, hk⟩ := List.mem_iff_getElem?.1 hd
      exact h2 k d hk
def limN (ng : Bool) : Nat := if ng then 9223372036854775808 else 9223372036854775807
theorem numE_bad {l : List Nat} (h : decOK (magL l) = false ∨ (negB l = true ∧ magL l = [48])) : numE l = (0, 1) := by unfold numE; rw [if_pos h]
theorem numE_over {l : List Nat} (h : ¬ (decOK (magL l) = false ∨ (negB l = true ∧ magL l = [48]))) (h1 : limN (negB l) < valD 0 (magL l)) : numE l = (0, 9) := by
  unfold numE
  rw [if_neg h]
  cases hn : negB l <;> rw [hn] at h1 <;> unfold limN at h1 <;> simp only [Bool.false_eq_true, if_false, if_true] at h1 ⊢ <;> rw [if_pos h1]
theorem numE_in {l : List Nat} (h : ¬ (decOK (magL l) = false ∨ (negB l = true ∧ magL l = [48]))) (h1 : valD 0 (magL l) ≤ limN (negB l)) : numE l = (if negB l then -(valD 0 (magL l) : Int) else valD 0 (magL l), 0) := by
  unfold numE
  rw [if_neg h]
  cases hn : negB l <;> rw [hn] at h1 <;> unfold limN at h1 <;> simp only [Bool.false_eq_true, if_false, if_true] at h1 ⊢ <;> rw [if_neg (by omega)]
end Go.Proofs.YtbdkggnajipdhaaDoor
/- Plain: commands, their forms, their texts. No program in sight. -/
namespace Go.Proofs.YtbdkggnajipdhaaDoor
/-- A command. -/
structure Cm where
  kind : Int
  at_ : Int
  who : Int
  a : Int
  b : Int
  name : ByteArray
  text : ByteArray
  nums : List Int
  key : Int
  nonce : Int
def Cm.zero : Cm := ⟨0, 0, 0, 0, 0, ByteArray.empty, ByteArray.empty, [], 0, 0⟩
def Cm.ok (c : Cm) : Prop := (-9223372036854775808 ≤ c.kind ∧ c.kind ≤ 9223372036854775807) ∧ (-9223372036854775808 ≤ c.at_ ∧ c.at_ ≤ 9223372036854775807) ∧ (-9223372036854775808 ≤ c.who ∧ c.who ≤ 9223372036854775807) ∧
  (-9223372036854775808 ≤ c.a ∧ c.a ≤ 9223372036854775807) ∧ (-9223372036854775808 ≤ c.b ∧ c.b ≤ 9223372036854775807) ∧ (∀ n ∈ c.nums, -9223372036854775808 ≤ n ∧ n ≤ 9223372036854775807) ∧
  (0 ≤ c.key ∧ c.key ≤ 18446744073709551615) ∧ (0 ≤ c.nonce ∧ c.nonce ≤ 18446744073709551615)
def asc (s : String) : List Nat := s.toList.map Char.toNat
/-! Digits of sixteen. -/
/-! Texts in quotes. -/
/-! Fields. -/
def toBA (l : List Nat) : ByteArray := ⟨(l.map UInt8.ofNat).toArray⟩
/-! Printing. -/
end Go.Proofs.YtbdkggnajipdhaaDoor
/- Plain specification of chapter 41, the making of a deck: mixing, the stream, shuffles, prizes. No program in sight. -/
namespace Go.Proofs.YtbdkggnajipdhaaDoor
end Go.Proofs.YtbdkggnajipdhaaDoor
/- Plain: the tokens of a text. No program in sight. -/
namespace Go.Proofs.YtbdkggnajipdhaaDoor
structure Tk where
  kind : Int
  line : Int
  col : Int
  text : ByteArray
/-- Line and column behind some bytes. -/
def step1 (p : Int × Int) (c : Nat) : Int × Int := if c = 10 then (p.1 + 1, 1) else (p.1, p.2 + 1)
def place (l : List Nat) : Int × Int := l.foldl step1 (1, 1)
def lexL : Nat → Nat → List Nat → Except Nat (List (Nat × Nat × Nat))
  | 0, _, _ => .ok []
  | _ + 1, _, [] => .ok []
  | f + 1, at_, c :: r =>
    if (piece (c :: r)).2 = 0 then .error at_
    else if (piece (c :: r)).1 = 0 then lexL f (at_ + (piece (c :: r)).2) ((c :: r).drop (piece (c :: r)).2)
    else match lexL f (at_ + (piece (c :: r)).2) ((c :: r).drop (piece (c :: r)).2) with
      | .ok T => .ok (((piece (c :: r)).1, at_, (piece (c :: r)).2) :: T)
      | .error e => .error e
def lexR (at_ : Nat) (l : List Nat) : Except Nat (List (Nat × Nat × Nat)) := lexL l.length at_ l
theorem lexL_fuel : ∀ (f g at_ : Nat) (l : List Nat), l.length ≤ f → l.length ≤ g → lexL f at_ l = lexL g at_ l
  | 0, 0, _, _, _, _ => rfl
  | 0, g + 1, _, [], _, _ => rfl
  | f + 1, 0, _, [], _, _ => rfl
  | f + 1, g + 1, _, [], _, _ => rfl
  | 0, g + 1, _, c :: r, h, _ => by simp at h
  | f + 1, 0, _, c :: r, _, h => by simp at h
  | f + 1, g + 1, at_, c :: r, h1, h2 => by
    rw [lexL, lexL]
    split
    · rfl
    · have hd : ((c :: r).drop (piece (c :: r)).2).length ≤ r.length := by rw [List.length_drop, List.length_cons]; omega
      rw [List.length_cons] at h1 h2
      rw [lexL_fuel f g _ _ (by omega) (by omega)]
theorem lexR_nil (at_ : Nat) : lexR at_ [] = .ok [] := rfl
def consR (t : Nat × Nat × Nat) : Except Nat (List (Nat × Nat × Nat)) → Except Nat (List (Nat × Nat × Nat))
  | .ok T => .ok (t :: T)
  | .error e => .error e
theorem lexR_cons (at_ c : Nat) (r : List Nat) : lexR at_ (c :: r) =
    if (piece (c :: r)).2 = 0 then .error at_
    else if (piece (c :: r)).1 = 0 then lexR (at_ + (piece (c :: r)).2) ((c :: r).drop (piece (c :: r)).2)
    else consR ((piece (c :: r)).1, at_, (piece (c :: r)).2) (lexR (at_ + (piece (c :: r)).2) ((c :: r).drop (piece (c :: r)).2)) := by
  unfold lexR
  rw [List.length_cons, lexL]
  split
  · rfl
  · have hd : ((c :: r).drop (piece (c :: r)).2).length ≤ r.length := by rw [List.length_drop, List.length_cons]; omega
    rw [lexL_fuel r.length ((c :: r).drop (piece (c :: r)).2).length _ _ hd (Nat.le_refl _)]
    rfl
def joinR (D : List (Nat × Nat × Nat)) : Except Nat (List (Nat × Nat × Nat)) → Except Nat (List (Nat × Nat × Nat))
  | .ok T => .ok (D ++ T)
  | .error e => .error e
theorem joinR_cons (D : List (Nat × Nat × Nat)) (t : Nat × Nat × Nat) (R : Except Nat (List (Nat × Nat × Nat))) : joinR D (consR t R) = joinR (D ++ [t]) R := by
  cases R <;> simp [joinR, consR]
def tokOf (s : ByteArray) (t : Nat × Nat × Nat) : Tk := ⟨t.1, (place ((bs s).take t.2.1)).1, (place ((bs s).take t.2.1)).2, s.extract t.2.1 (t.2.1 + t.2.2)⟩
def endTok (s : ByteArray) : Tk := ⟨0, (place (bs s)).1, (place (bs s)).2, ByteArray.empty⟩
/-- What Scan gives: the error, its offset, the tokens. -/
def scanE (s : ByteArray) : Int × Int × List Tk :=
  if 32768 < s.size then (3, 0, []) else match lexR 0 (bs s) with
    | .error e => (1, e, [])
    | .ok T => (0, 0, T.map (tokOf s) ++ [endTok s])
/-! Places. -/
theorem place_append (a b : List Nat) : place (a ++ b) = b.foldl step1 (place a) := by unfold place; rw [List.foldl_append]
theorem fold_plain : ∀ (b : List Nat) (p : Int × Int), (∀ c ∈ b, c ≠ 10) → b.foldl step1 p = (p.1, p.2 + b.length)
  | [], p, _ => by simp
  | c :: r, p, h => by
    rw [List.foldl_cons, fold_plain r _ fun d hd => h d (by simp [hd])]
    unfold step1
    rw [if_neg (h c (by simp))]
    simp only [List.length_cons, Prod.mk.injEq, true_and]
    omega
theorem fold_line : ∀ (b : List Nat) (p : Int × Int), (b.foldl step1 p).1 = p.1 + b.count 10
  | [], p => by simp
  | c :: r, p => by
    rw [List.foldl_cons, fold_line r]
    unfold step1
    by_cases h : c = 10
    · subst h
      rw [if_pos rfl, List.count_cons_self]; simp only; omega
    · rw [if_neg h, List.count_cons_of_ne h]
/-- The column behind text whose last line feed stands at k. -/
theorem fold_col (b : List Nat) (p : Int × Int) (k : Nat) (hk : b[k]? = some 10) (hn : ∀ j, k < j → b[j]? ≠ some 10) : (b.foldl step1 p).2 = b.length - k := by
  have hkl := (List.getElem?_eq_some_iff.1 hk).1
  have e : b = b.take k ++ 10 :: b.drop (k + 1) := by
    have h1 := List.getElem?_eq_some_iff.1 hk
    obtain ⟨h1, h2⟩ := h1
    conv => lhs; rw [← List.take_append_drop k b, List.drop_eq_getElem_cons h1, h2]
  have hd : ∀ c ∈ b.drop (k + 1), c ≠ 10 := by
    intro c hc e2
    subst e2
    obtain ⟨i, hi⟩ := List.mem_iff_getElem?.1 hc
    rw [List.getElem?_drop] at hi
    exact hn _ (by omega) hi
  rw [e, List.foldl_append, List.foldl_cons, fold_plain _ _ hd]
  have : step1 (List.foldl step1 p (b.take k)) 10 = ((List.foldl step1 p (b.take k)).1 + 1, 1) := by unfold step1; rw [if_pos rfl]
  rw [this]
  simp only [List.length_append, List.length_take, List.length_cons, List.length_drop]
  omega
/-- A piece that is a token holds no line feed. -/
theorem piece_plain (l : List Nat) (h : (piece l).1 ≠ 0) : ∀ c ∈ l.take (piece l).2, c ≠ 10 := by
  have key : ∀ (q : Nat → Bool), q 10 = false → ∀ c ∈ l.take (spn q l), c ≠ 10 := by
    intro q hq c hc e
    subst e
    obtain ⟨i, hi⟩ := List.mem_iff_getElem?.1 hc
    rw [List.getElem?_take] at hi
    split at hi
    · rename_i hil
      obtain ⟨d, hd, hqd⟩ := spn_at l i hil
      rw [hi] at hd
      injection hd with hd
      subst hd
      rw [hq] at hqd; cases hqd
    · cases hi
  cases l with
  | nil => intro c hc; simp at hc
  | cons a r =>
    rw [piece] at h ⊢
    split at h
    · simp at h
    · split at h
      · simp at h
      · rename_i h1 h2
        rw [if_neg h1, if_neg h2]
        split at h
        · rename_i h3; rw [if_pos h3]; exact key wordB (by decide)
        · rename_i h3
          rw [if_neg h3]
          split at h
          · rename_i h4
            rw [if_pos h4]
            split
            · intro c hc; simp at hc
            · exact key digitB (by decide)
          · rename_i h4
            rw [if_neg h4]
            split at h
            · rename_i h5
              rw [if_pos h5]
              intro c hc
              simp only [List.take_succ_cons, List.take_zero, List.mem_cons, List.not_mem_nil, or_false] at hc
              subst hc
              intro e
              subst e
              exact absurd h5 (by decide)
            · simp at h
end Go.Proofs.YtbdkggnajipdhaaDoor
/- Plain specification of chapter 41, a plan's text: printing, and reading tokens. No program in sight. -/
namespace Go.Proofs.YtbdkggnajipdhaaDoor
def fitB (n : Int) : Bool := decide (0 ≤ n) && decide (n ≤ 999999999999999999)
/-! Reading. -/
def noTk : Tk := ⟨0, 0, 0, ByteArray.empty⟩
def hdT (L : List Tk) : Tk := L.headD noTk
/-- The rest behind a token; the end stays. -/
def nxT : List Tk → List Tk
  | [] => []
  | [t] => [t]
  | _ :: t :: r => t :: r
def isT (k : Int) (w : List Nat) (L : List Tk) : Option (List Tk) := if (hdT L).kind = k ∧ bs (hdT L).text = w then some (nxT L) else none
def numT (L : List Tk) : Option (Int × List Tk) := if (hdT L).kind = 2 ∧ (numE (bs (hdT L).text)).2 = 0 then some ((numE (bs (hdT L).text)).1, nxT L) else none
/-- What reads one thing and goes on; where it stands still, there is the error. -/
def thenT {α β : Type} (x : Option α) (L : List Tk) (f : α → Except (Int × List Tk) β) : Except (Int × List Tk) β := match x with
  | some a => f a
  | none => .error (1, L)
end Go.Proofs.YtbdkggnajipdhaaDoor
/- Plain: chapter 41's reference reader, whose first error stays; it reads what the program's reader reads. No program in sight. -/
namespace Go.Proofs.YtbdkggnajipdhaaDoor
structure Rd where
  L : List Tk
  err : Int
  line : Int
def Rd.fail (e : Int) (r : Rd) : Rd := if r.err = 0 then { r with err := e, line := (hdT r.L).line } else r
def Rd.next (k : Int) (w : List Nat) (r : Rd) : ByteArray × Rd :=
  if r.err ≠ 0 then (ByteArray.empty, r)
  else if (hdT r.L).kind ≠ k ∨ (w ≠ [] ∧ bs (hdT r.L).text ≠ w) then (ByteArray.empty, r.fail 1)
  else ((hdT r.L).text, { r with L := nxT r.L })
def Rd.num (r : Rd) : Int × Rd := ((numE (bs (r.next 2 []).1)).1, (r.next 2 []).2)
def Rd.is (w : List Nat) (r : Rd) : Bool := decide ((hdT r.L).kind = 1) && decide (bs (hdT r.L).text = w)
def Rd.once (w : List Nat) (had : Bool) (r : Rd) : Rd := ((if had then r.fail 6 else r).next 1 w).2
def Rd.prize (r : Rd) : Lvl × Rd :=
  let a := (r.next 1 (asc "prize")).2.num
  let b := (a.2.next 1 (asc "count")).2.num
  if b.2.err = 0 ∧ b.2.is (asc "pack") = true then
    let c := (b.2.next 1 (asc "pack")).2.num
    (⟨a.1, b.1, c.1⟩, c.2)
  else (⟨a.1, b.1, 0⟩, b.2)
/-! The tokens' numbers are numbers. -/
def NumOk (L : List Tk) : Prop := ∀ t ∈ L, t.kind = 2 → (numE (bs t.text)).2 = 0
theorem hd_kind {L : List Tk} (h : (hdT L).kind ≠ 0) : hdT L ∈ L := by
  cases L with
  | nil => exact absurd rfl h
  | cons t r => exact List.mem_cons_self
theorem NumOk.hd {L : List Tk} (h : NumOk L) (hk : (hdT L).kind = 2) : (numE (bs (hdT L).text)).2 = 0 := h _ (hd_kind (by omega)) hk
theorem nx_sub : ∀ (L : List Tk), ∀ t ∈ nxT L, t ∈ L
  | [], _, h => h
  | [_], _, h => h
  | _ :: _ :: _, _, h => List.mem_cons_of_mem _ h
theorem NumOk.nx {L : List Tk} (h : NumOk L) : NumOk (nxT L) := fun t ht => h t (nx_sub L t ht)
theorem is_some {k : Int} {w : List Nat} {L L' : List Tk} (h : isT k w L = some L') : (hdT L).kind = k ∧ bs (hdT L).text = w ∧ L' = nxT L := by
  unfold isT at h
  split at h
  · rename_i h1
    exact ⟨h1.1, h1.2, (Option.some.inj h).symm⟩
  · cases h
theorem is_none {k : Int} {w : List Nat} {L : List Tk} (h : isT k w L = none) : ¬ ((hdT L).kind = k ∧ bs (hdT L).text = w) := by
  unfold isT at h
  split at h
  · cases h
  · assumption
theorem num_some {L L' : List Tk} {x : Int} (h : numT L = some (x, L')) : (hdT L).kind = 2 ∧ (numE (bs (hdT L).text)).2 = 0 ∧ x = (numE (bs (hdT L).text)).1 ∧ L' = nxT L := by
  unfold numT at h
  split at h
  · rename_i h1
    have := Option.some.inj h
    simp only [Prod.mk.injEq] at this
    exact ⟨h1.1, h1.2, this.1.symm, this.2.symm⟩
  · cases h
theorem NumOk.is {L L' : List Tk} {k : Int} {w : List Nat} (h : NumOk L) (e : isT k w L = some L') : NumOk L' := by rw [(is_some e).2.2]; exact h.nx
theorem NumOk.num {L L' : List Tk} {x : Int} (h : NumOk L) (e : numT L = some (x, L')) : NumOk L' := by rw [(num_some e).2.2.2]; exact h.nx
/-! One step. -/
end Go.Proofs.YtbdkggnajipdhaaDoor
/- Plain: chapter 41's two readers agree on whole texts. No program in sight. -/
namespace Go.Proofs.YtbdkggnajipdhaaDoor
theorem isT_yes {k : Int} {w : List Nat} {L : List Tk} (h1 : (hdT L).kind = k) (h2 : bs (hdT L).text = w) : isT k w L = some (nxT L) := by unfold isT; rw [if_pos ⟨h1, h2⟩]
theorem isT_no {k : Int} {w : List Nat} {L : List Tk} (h : ¬ ((hdT L).kind = k ∧ bs (hdT L).text = w)) : isT k w L = none := by unfold isT; rw [if_neg h]
/-! An item eats a token at least. -/
theorem nx_len (L : List Tk) : (nxT L).length ≤ L.length := by
  match L with
  | [] => exact Nat.le_refl _
  | [_] => exact Nat.le_refl _
  | _ :: _ :: _ => exact Nat.le_succ _
theorem then_ok {α β : Type} {x : Option α} {L : List Tk} {f : α → Except (Int × List Tk) β} {b : β} (h : thenT x L f = .ok b) : ∃ a, x = some a ∧ f a = .ok b := by
  cases x with
  | none => cases h
  | some a => exact ⟨a, rfl, h⟩
theorem is_len {k : Int} {w : List Nat} {L L' : List Tk} (h : isT k w L = some L') : L'.length ≤ L.length := by rw [(is_some h).2.2]; exact nx_len L
theorem num_len {L : List Tk} {x : Int × List Tk} (h : numT L = some x) : x.2.length ≤ L.length := by rw [(num_some (x := x.1) (L' := x.2) h).2.2.2]; exact nx_len L
/-! Items, and the whole. -/
def Rd.close (r : Rd) : Rd := ((r.next 3 (asc "}")).2.next 0 []).2
end Go.Proofs.YtbdkggnajipdhaaDoor
/- Plain: laws of the scanner: blanks, line feeds, shifts, what its tokens are. No program in sight. -/
namespace Go.Proofs.YtbdkggnajipdhaaDoor
theorem spn_cons_pos {q : Nat → Bool} {c : Nat} {r : List Nat} (h : q c = true) : spn q (c :: r) = spn q r + 1 := by unfold spn; rw [List.takeWhile_cons_of_pos h]; rfl
theorem spn_cons_neg {q : Nat → Bool} {c : Nat} {r : List Nat} (h : q c = false) : spn q (c :: r) = 0 := by unfold spn; rw [List.takeWhile_cons_of_neg (by rw [h]; simp)]; rfl
/-- One blank is passed. -/
theorem blank_one {c : Nat} (h : blankB c = true) (l : List Nat) (at_ : Nat) : lexR at_ (c :: l) = lexR (at_ + 1) l := by
  have hp : piece (c :: l) = (0, spn blankB l + 1) := by rw [piece, if_pos h, spn_cons_pos h]
  rw [lexR_cons, hp, if_neg (by simp), if_pos rfl]
  simp only [List.drop_succ_cons]
  cases l with
  | nil => simp [spn, lexR_nil]
  | cons d r =>
    by_cases hd : blankB d = true
    · have hp2 : piece (d :: r) = (0, spn blankB (d :: r)) := by rw [piece, if_pos hd]
      have := spn_pos (r := r) hd
      rw [lexR_cons (at_ + 1), hp2, if_neg (by simp only; omega), if_pos rfl]
      simp only
      rw [show at_ + (spn blankB (d :: r) + 1) = at_ + 1 + spn blankB (d :: r) from by omega]
    · rw [spn_cons_neg (by simpa using hd)]; simp
/-- A remark is passed. -/
theorem hash_one (r : List Nat) (at_ : Nat) : lexR at_ (35 :: r) = lexR (at_ + spn remB (35 :: r)) ((35 :: r).drop (spn remB (35 :: r))) := by
  have hp : piece (35 :: r) = (0, spn remB (35 :: r)) := by rw [piece, if_neg (by decide), if_pos rfl]
  rw [lexR_cons, hp, if_neg (by rw [spn_cons_pos (by decide)]; simp), if_pos rfl]
/-! What the tokens are. -/
def good (k : Nat) (t : List Nat) : Prop :=
  (k = 1 ∧ (∃ c r, t = c :: r ∧ letterB c = true) ∧ ∀ c ∈ t, wordB c = true) ∨
  (k = 2 ∧ (∃ c r, t = c :: r ∧ badN t.length c = false) ∧ ∀ c ∈ t, digitB c = true) ∨
  (k = 3 ∧ ∃ c, t = [c] ∧ markB c = true)
theorem spn_take {q : Nat → Bool} : ∀ l : List Nat, ∀ c ∈ l.take (spn q l), q c = true
  | [], c, h => by simp at h
  | d :: l, c, h => by
    by_cases hd : q d = true
    · rw [spn_cons_pos hd, List.take_succ_cons] at h
      rcases List.mem_cons.1 h with rfl | h
      · exact hd
      · exact spn_take l c h
    · rw [spn_cons_neg (by simpa using hd)] at h; simp at h
theorem piece_good (l : List Nat) (h1 : (piece l).1 ≠ 0) (h2 : (piece l).2 ≠ 0) : good (piece l).1 (l.take (piece l).2) := by
  cases l with
  | nil => simp [piece] at h1
  | cons c r =>
    rw [piece] at h1 h2 ⊢
    split at h1
    · simp at h1
    · rename_i a1
      rw [if_neg a1] at h2 ⊢
      split at h1
      · simp at h1
      · rename_i a2
        rw [if_neg a2] at h2 ⊢
        split at h1
        · rename_i a3
          rw [if_pos a3] at h2 ⊢
          have hw : wordB c = true := by unfold wordB; rw [a3]; rfl
          refine .inl ⟨rfl, ⟨c, r.take (spn wordB r), ?_, a3⟩, spn_take _⟩
          simp only [spn_cons_pos hw, List.take_succ_cons]
        · rename_i a3
          rw [if_neg a3] at h2 ⊢
          split at h1
          · rename_i a4
            rw [if_pos a4] at h2 ⊢
            split at h2
            · simp at h2
            · rename_i a5
              rw [if_neg a5]
              refine .inr (.inl ⟨rfl, ⟨c, r.take (spn digitB r), ?_, ?_⟩, spn_take _⟩)
              · simp only [spn_cons_pos a4, List.take_succ_cons]
              · simp only
                rw [List.length_take, Nat.min_eq_left (spn_le _ _)]
                simpa using a5
          · rename_i a4
            rw [if_neg a4] at h2 ⊢
            split at h1
            · rename_i a5
              rw [if_pos a5]
              exact .inr (.inr ⟨rfl, c, by simp, a5⟩)
            · simp at h1
theorem lexR_good : ∀ (n : Nat) (l : List Nat) (at_ : Nat) (T : List (Nat × Nat × Nat)), l.length ≤ n → lexR at_ l = .ok T →
    ∀ t ∈ T, at_ ≤ t.2.1 ∧ 1 ≤ t.2.2 ∧ t.2.1 + t.2.2 ≤ at_ + l.length ∧ good t.1 ((l.drop (t.2.1 - at_)).take t.2.2)
  | _, [], _, T, _, h => by rw [lexR_nil] at h; injection h with h; subst h; intro t ht; simp at ht
  | 0, c :: l, _, _, hl, _ => by simp at hl
  | n + 1, c :: l, at_, T, hl, h => by
    have hpl := piece_le (c :: l)
    have hpg := piece_good (c :: l)
    rw [lexR_cons] at h
    generalize piece (c :: l) = pc at *
    obtain ⟨k, m⟩ := pc
    simp only at *
    have go : ∀ T', 1 ≤ m → lexR (at_ + m) ((c :: l).drop m) = .ok T' → ∀ t ∈ T', at_ ≤ t.2.1 ∧ 1 ≤ t.2.2 ∧ t.2.1 + t.2.2 ≤ at_ + (c :: l).length ∧ good t.1 (((c :: l).drop (t.2.1 - at_)).take t.2.2) := by
      intro T' hm hT t ht
      obtain ⟨h1, h2, h3, h4⟩ := lexR_good n _ _ T' (by rw [List.length_drop]; omega) hT t ht
      rw [List.length_drop] at h3
      refine ⟨by omega, h2, by omega, ?_⟩
      rw [List.drop_drop] at h4
      rwa [show m + (t.2.1 - (at_ + m)) = t.2.1 - at_ from by omega] at h4
    split at h
    · cases h
    · rename_i a1
      split at h
      · exact go T (by omega) h
      · rename_i a2
        cases hR : lexR (at_ + m) ((c :: l).drop m) with
        | error e => rw [hR] at h; cases h
        | ok T' =>
          rw [hR] at h
          simp only [consR, Except.ok.injEq] at h
          subst h
          intro t ht
          rcases List.mem_cons.1 ht with rfl | ht
          · exact ⟨Nat.le_refl _, by simp only; omega, by simp only; omega, by simpa using hpg a2 a1⟩
          · exact go T' (by omega) hR t ht
/-- An error lies within the text. -/
theorem lexR_err : ∀ (n : Nat) (l : List Nat) (at_ x : Nat), l.length ≤ n → lexR at_ l = .error x → at_ ≤ x ∧ x < at_ + l.length
  | _, [], _, x, _, h => by rw [lexR_nil] at h; cases h
  | 0, c :: l, _, _, hl, _ => by simp at hl
  | n + 1, c :: l, at_, x, hl, h => by
    have hpl := piece_le (c :: l)
    rw [lexR_cons] at h
    split at h
    · injection h with h; subst h; simp
    · have hd : ((c :: l).drop (piece (c :: l)).2).length ≤ n := by rw [List.length_drop]; omega
      have hdl : ((c :: l).drop (piece (c :: l)).2).length = (c :: l).length - (piece (c :: l)).2 := List.length_drop
      split at h
      · have := lexR_err n _ _ x hd h; omega
      · cases hR : lexR (at_ + (piece (c :: l)).2) ((c :: l).drop (piece (c :: l)).2) with
        | error e =>
          rw [hR] at h
          simp only [consR, Except.error.injEq] at h
          subst h
          have := lexR_err n _ _ e hd hR; omega
        | ok T' => rw [hR] at h; cases h
/-- The lengths of the tokens together. -/
theorem lexR_sum : ∀ (n : Nat) (l : List Nat) (at_ : Nat) (T : List (Nat × Nat × Nat)), l.length ≤ n → lexR at_ l = .ok T → (T.map (·.2.2)).sum ≤ l.length
  | _, [], _, T, _, h => by rw [lexR_nil] at h; injection h with h; subst h; simp
  | 0, c :: l, _, _, hl, _ => by simp at hl
  | n + 1, c :: l, at_, T, hl, h => by
    have hpl := piece_le (c :: l)
    rw [lexR_cons] at h
    split at h
    · cases h
    · rename_i a1
      have hd : ((c :: l).drop (piece (c :: l)).2).length ≤ n := by rw [List.length_drop]; omega
      split at h
      · have := lexR_sum n _ _ T hd h
        rw [List.length_drop] at this; omega
      · cases hR : lexR (at_ + (piece (c :: l)).2) ((c :: l).drop (piece (c :: l)).2) with
        | error e => rw [hR] at h; cases h
        | ok T' =>
          rw [hR] at h
          simp only [consR, Except.ok.injEq] at h
          subst h
          have := lexR_sum n _ _ T' hd hR
          rw [List.length_drop] at this
          simp only [List.map_cons, List.sum_cons]; omega
/-! Text that is written out of tokens. -/
/-- A token is read as it was written, where nothing goes on behind it. -/
theorem good_piece {k : Nat} {t : List Nat} (h : good k t) (r : List Nat) (hr : ∀ c r', r = c :: r' → wordB c = false ∧ digitB c = false) : piece (t ++ r) = (k, t.length) ∧ t ≠ [] := by
  have sp : ∀ (q : Nat → Bool), (∀ c ∈ t, q c = true) → (∀ c r', r = c :: r' → q c = false) → spn q (t ++ r) = t.length := by
    intro q h1 h2
    clear h
    induction t with
    | nil => cases r with
      | nil => rfl
      | cons c r' => exact spn_cons_neg (h2 c r' rfl)
    | cons c t ih => rw [List.cons_append, spn_cons_pos (h1 c (by simp)), ih fun d hd => h1 d (by simp [hd])]; rfl
  rcases h with ⟨rfl, ⟨c, r', rfl, hc⟩, hall⟩ | ⟨rfl, ⟨c, r', rfl, hbad⟩, hall⟩ | ⟨rfl, c, rfl, hc⟩
  · have h0 : blankB c = false ∧ c ≠ 35 := by
      unfold letterB at hc; unfold blankB
      simp only [Bool.and_eq_true, decide_eq_true_eq, Bool.or_eq_false_iff, beq_eq_false_iff_ne] at *
      omega
    have e := sp wordB hall fun c r' h => (hr c r' h).1
    refine ⟨?_, by simp⟩
    rw [List.cons_append] at e ⊢
    rw [piece, if_neg (by rw [h0.1]; simp), if_neg h0.2, if_pos hc, e]
  · have hc := hall c (by simp)
    have h0 : blankB c = false ∧ c ≠ 35 ∧ letterB c = false := by
      unfold digitB at hc; unfold blankB letterB
      simp only [Bool.and_eq_true, decide_eq_true_eq, Bool.or_eq_false_iff, Bool.and_eq_false_iff, decide_eq_false_iff_not, beq_eq_false_iff_ne] at *
      omega
    have e := sp digitB hall fun c r' h => (hr c r' h).2
    refine ⟨?_, by simp⟩
    rw [List.cons_append] at e ⊢
    rw [piece, if_neg (by rw [h0.1]; simp), if_neg h0.2.1, if_neg (by rw [h0.2.2]; simp), if_pos hc, e, hbad, if_neg (by simp)]
  · have h0 : blankB c = false ∧ c ≠ 35 ∧ letterB c = false ∧ digitB c = false := by
      unfold markB at hc; unfold blankB letterB digitB
      simp only [Bool.or_eq_true, beq_iff_eq, Bool.or_eq_false_iff, Bool.and_eq_false_iff, decide_eq_false_iff_not, beq_eq_false_iff_ne] at *
      omega
    refine ⟨?_, by simp⟩
    rw [List.cons_append, List.nil_append, piece, if_neg (by rw [h0.1]; simp), if_neg h0.2.1, if_neg (by rw [h0.2.2.1]; simp), if_neg (by rw [h0.2.2.2]; simp), if_pos hc]
    rfl
theorem good_kind {k : Nat} {t : List Nat} (h : good k t) : k ≠ 0 ∧ k ≤ 3 := by
  rcases h with ⟨rfl, _⟩ | ⟨rfl, _⟩ | ⟨rfl, _⟩ <;> simp
end Go.Proofs.YtbdkggnajipdhaaDoor
/- Plain: chapter 41, what is printed is read again as the plan. No program in sight. -/
namespace Go.Proofs.YtbdkggnajipdhaaDoor
theorem lexR_tok {k : Nat} {t : List Nat} (h : good k t) (r : List Nat) (hr : ∀ c r', r = c :: r' → wordB c = false ∧ digitB c = false) (at_ : Nat) : lexR at_ (t ++ r) = consR (k, at_, t.length) (lexR (at_ + t.length) r) := by
  obtain ⟨hp, hne⟩ := good_piece h r hr
  have hk := (good_kind h).1
  cases t with
  | nil => exact absurd rfl hne
  | cons c t =>
    rw [List.cons_append] at hp ⊢
    rw [lexR_cons, hp, if_neg (by simp), if_neg hk]
    simp only
    rw [show (c :: (t ++ r)).drop (c :: t).length = r from by simp]
/-- A text and what stands in it: kinds and words. -/
def Lx (l : List Nat) (S : List (Nat × List Nat)) : Prop :=
  ∀ at_, ∃ T, lexR at_ l = .ok T ∧ (∀ t ∈ T, at_ ≤ t.2.1) ∧ T.map (fun t => (t.1, (l.drop (t.2.1 - at_)).take t.2.2)) = S
theorem Lx_nil : Lx [] [] := fun _ => ⟨[], rfl, fun t h => (by simp at h), rfl⟩
theorem Lx_blank {b : Nat} {r : List Nat} {S : List (Nat × List Nat)} (hb : blankB b = true) (h : Lx r S) : Lx (b :: r) S := fun at_ => by
  obtain ⟨T, h1, h2, h3⟩ := h (at_ + 1)
  refine ⟨T, by rw [blank_one hb, h1], fun t ht => by have := h2 t ht; omega, ?_⟩
  rw [← h3]
  refine List.map_congr_left fun t ht => ?_
  have := h2 t ht
  rw [show t.2.1 - at_ = (t.2.1 - (at_ + 1)) + 1 by omega, List.drop_succ_cons]
theorem Lx_tok {k : Nat} {t r : List Nat} {S : List (Nat × List Nat)} (hg : good k t) (hr : ∀ c r', r = c :: r' → wordB c = false ∧ digitB c = false) (h : Lx r S) : Lx (t ++ r) ((k, t) :: S) := fun at_ => by
  obtain ⟨T, h1, h2, h3⟩ := h (at_ + t.length)
  refine ⟨(k, at_, t.length) :: T, by rw [lexR_tok hg r hr, h1]; rfl, fun x hx => ?_, ?_⟩
  · rcases List.mem_cons.1 hx with rfl | hx
    · exact Nat.le_refl _
    · have := h2 x hx; omega
  · rw [List.map_cons]
    congr 1
    · simp
    · rw [← h3]
      refine List.map_congr_left fun x hx => ?_
      have := h2 x hx
      rw [show x.2.1 - at_ = t.length + (x.2.1 - (at_ + t.length)) by omega, List.drop_append, List.drop_eq_nil_of_le (by omega), List.nil_append, Nat.add_sub_cancel_left]
def Kt (t : Tk) : Int × List Nat := (t.kind, bs t.text)
/-- A whole text's tokens. -/
theorem scan_Lx {s : ByteArray} {S : List (Nat × List Nat)} (hs : s.size ≤ 32768) (h : Lx (bs s) S) :
    ∃ L, scanE s = (0, 0, L) ∧ L.map Kt = S.map (fun x => ((x.1 : Int), x.2)) ++ [(0, [])] := by
  obtain ⟨T, h1, _, h3⟩ := h 0
  refine ⟨T.map (tokOf s) ++ [endTok s], by unfold scanE; rw [if_neg (by omega), h1], ?_⟩
  rw [List.map_append, ← h3, List.map_map, List.map_map]
  congr 1
  refine List.map_congr_left fun t _ => ?_
  show ((t.1 : Int), bs (s.extract t.2.1 (t.2.1 + t.2.2))) = _
  rw [bs_extract, Nat.add_sub_cancel_left]
  rfl
/-! The tokens of a printed plan. -/
theorem dec_len {u : Nat} (h : u < 1000000000000000000) : (dec u).length ≤ 18 := by
  have key : ∀ (k u : Nat), u < 10 ^ (k + 1) → (dec u).length ≤ k + 1 := by
    intro k
    induction k with
    | zero => intro u h; rw [dec_lt (by simpa using h)]; simp
    | succ k ih =>
      intro u h
      by_cases h1 : u < 10
      · rw [dec_lt h1]; simp
      · rw [dec_ge h1, List.length_append]
        have := ih (u / 10) (by rw [Nat.pow_succ] at h; omega)
        simp only [List.length_cons, List.length_nil]
        omega
  exact key 17 u h
theorem fit_nat {n : Int} (h : fitB n = true) : 0 ≤ n ∧ n.toNat < 1000000000000000000 := by
  unfold fitB at h
  simp only [Bool.and_eq_true, decide_eq_true_eq] at h
  omega
theorem fmt_dec {n : Int} (h : fitB n = true) : fmtI n = dec n.toNat := fmtI_nonneg (fit_nat h).1
end Go.Proofs.YtbdkggnajipdhaaDoor
/- Plain: chapter 41, a printed plan is read again as the plan; the tokens' numbers are numbers. No program in sight. -/
namespace Go.Proofs.YtbdkggnajipdhaaDoor
theorem valD_bd : ∀ (l : List Nat) (a : Nat), (∀ c ∈ l, digitB c = true) → valD a l < (a + 1) * 10 ^ l.length
  | [], a, _ => by simp [valD]
  | c :: r, a, h => by
    have hc := h c (by simp)
    unfold digitB at hc
    simp only [Bool.and_eq_true, decide_eq_true_eq] at hc
    have ih := valD_bd r (a * 10 + (c - 48)) fun d hd => h d (by simp [hd])
    have e : valD a (c :: r) = valD (a * 10 + (c - 48)) r := rfl
    rw [e, List.length_cons, Nat.pow_succ]
    refine Nat.lt_of_lt_of_le ih ?_
    rw [Nat.mul_comm (10 ^ r.length) 10, ← Nat.mul_assoc]
    exact Nat.mul_le_mul_right _ (by omega)
/-! Reading what was printed. -/
end Go.Proofs.YtbdkggnajipdhaaDoor
/- Plain specification of chapter 11: games, their rules as text, reading tokens. No program in sight. -/
namespace Go.Proofs.YtbdkggnajipdhaaDoor
structure Ad where
  name : ByteArray
  kind : Int
  price : Int
  factors : List Int
  digits : Int
  serials : List Int
structure Ti where
  main : Int
  bonus : Int
  extra : Int
  mode : Int
  kind : Int
  value : Int
/-- A game: its name, its 19 numbers in their order, add-ons, tiers. -/
structure Gm where
  name : ByteArray
  n : Nat → Int
  addons : List Ad
  tiers : List Ti
def putN (n : Nat → Int) (i : Nat) (v : Int) : Nat → Int := fun j => if j = i then v else n j
def noGm : Gm := ⟨ByteArray.empty, fun _ => 0, [], []⟩
/-! Reading. -/
def bindT {α β : Type} (x : Except (Int × List Tk) α) (f : α → Except (Int × List Tk) β) : Except (Int × List Tk) β := match x with
  | .ok a => f a
  | .error e => .error e
def lessT (m : Int) (L : List Tk) : Option (Int × List Tk) := match numT L with
  | some x => if x.1 ≤ m then some x else none
  | none => none
def numsT : Nat → List Tk → List Int × List Tk
  | 0, L => ([], L)
  | f + 1, L => match numT L with
    | none => ([], L)
    | some a => (a.1 :: (numsT f a.2).1, (numsT f a.2).2)
def simpleI (w : List Nat) : Option Nat :=
  if w = asc "extra" then some 6 else if w = asc "price" then some 1 else if w = asc "draws" then some 7 else if w = asc "system" then some 8 else if w = asc "close" then some 11
  else if w = asc "cancel" then some 12 else if w = asc "expiry" then some 13 else if w = asc "pool" then some 14 else if w = asc "reserve" then some 15 else if w = asc "round" then some 16
  else if w = asc "cap" then some 17 else if w = asc "rolls" then some 18 else none
def dayW : List (List Nat) := [asc "mon", asc "tue", asc "wed", asc "thu", asc "fri", asc "sat", asc "sun"]
def dayI (w : List Nat) : Option Nat := dayW.findIdx? fun d => decide (d = w)
def pairT (L : List Tk) : Except (Int × List Tk) ((Int × Int) × List Tk) :=
  thenT (numT L) L fun a => thenT (isT 1 (asc "of") a.2) a.2 fun L2 => thenT (numT L2) L2 fun b => .ok ((a.1, b.1), b.2)
def daysT : Nat → List Tk → Nat → Except (Int × List Tk) (Nat × List Tk)
  | 0, L, _ => .error (1, L)
  | f + 1, L, d =>
    if d ≠ 0 ∧ (hdT L).kind = 1 ∧ bs (hdT L).text = asc "at" then .ok (d, nxT L)
    else if (hdT L).kind ≠ 1 then .error (1, L)
    else match dayI (bs (hdT L).text) with
      | none => .error (1, L)
      | some i => if d / 2 ^ i % 2 = 1 then .error (1, L) else daysT f (nxT L) (d + 2 ^ i)
def dayT (L : List Tk) : Except (Int × List Tk) ((Int × Int) × List Tk) :=
  bindT (daysT L.length L 0) fun d => thenT (lessT 23 d.2) d.2 fun h => thenT (isT 3 (asc ":") h.2) h.2 fun L3 => thenT (lessT 59 L3) L3 fun m => .ok (((d.1 : Int), 60 * h.1 + m.1), m.2)
def addonT (L : List Tk) : Except (Int × List Tk) (Ad × List Tk) :=
  if (hdT L).kind ≠ 1 then .error (1, L)
  else if (hdT (nxT L)).kind ≠ 1 then .error (1, nxT L)
  else if bs (hdT (nxT L)).text = asc "factor" then
    thenT (numT (nxT (nxT L))) (nxT (nxT L)) fun a => .ok (⟨(hdT L).text, 1, a.1, (numsT a.2.length a.2).1, 0, []⟩, (numsT a.2.length a.2).2)
  else if bs (hdT (nxT L)).text = asc "serial" then
    thenT (numT (nxT (nxT L))) (nxT (nxT L)) fun a => thenT (numT a.2) a.2 fun b => .ok (⟨(hdT L).text, 2, a.1, [], b.1, (numsT b.2.length b.2).1⟩, (numsT b.2.length b.2).2)
  else .error (1, nxT L)
def hitT (w : List Nat) (L : List Tk) : Except (Int × List Tk) (Int × List Tk) := match isT 1 w L with
  | some L1 => thenT (numT L1) L1 fun a => .ok a
  | none => .ok (0, L)
/-- How a tier compares: its mode, and three numbers. -/
def modeT (L : List Tk) : Except (Int × List Tk) ((Int × Int × Int × Int) × List Tk) :=
  match isT 1 (asc "exact") L with
  | some L1 => .ok ((1, 0, 0, 0), L1)
  | none => match isT 1 (asc "box") L with
    | some L1 => .ok ((2, 0, 0, 0), L1)
    | none => match isT 1 (asc "front") L with
      | some L1 => thenT (numT L1) L1 fun a => .ok ((3, a.1, 0, 0), a.2)
      | none => match isT 1 (asc "back") L with
        | some L1 => thenT (numT L1) L1 fun a => .ok ((4, a.1, 0, 0), a.2)
        | none => bindT (hitT (asc "main") L) fun a => bindT (hitT (asc "bonus") a.2) fun b => bindT (hitT (asc "extra") b.2) fun c => .ok ((0, a.1, b.1, c.1), c.2)
def prizeK (w : List Nat) : Option Int := if w = asc "fixed" then some 1 else if w = asc "share" then some 2 else if w = asc "jackpot" then some 3 else none
def tierT (L : List Tk) : Except (Int × List Tk) (Ti × List Tk) :=
  bindT (modeT L) fun m =>
    if (hdT m.2).kind ≠ 1 then .error (1, m.2)
    else match prizeK (bs (hdT m.2).text) with
      | none => .error (1, m.2)
      | some k => thenT (numT (nxT m.2)) (nxT m.2) fun v => .ok (⟨m.1.2.1, m.1.2.2.1, m.1.2.2.2, m.1.1, k, v.1⟩, v.2)
/-- One item, without its semicolon: the game so far, the items that were there. -/
def itemG (L : List Tk) (g : Gm) (seen : List (List Nat)) : Except (Int × List Tk) ((Gm × List (List Nat)) × List Tk) :=
  if (hdT L).kind ≠ 1 then .error (1, L)
  else if bs (hdT L).text = asc "choose" ∨ bs (hdT L).text = asc "digits" then
    if asc "choose" ∈ seen then .error (6, L)
    else bindT (pairT (nxT L)) fun a => .ok (({ g with n := putN (putN (putN g.n 0 (if bs (hdT L).text = asc "digits" then 2 else 1)) 2 a.1.1) 3 a.1.2 }, asc "choose" :: seen), a.2)
  else if bs (hdT L).text = asc "bonus" then
    if asc "bonus" ∈ seen then .error (6, L)
    else bindT (pairT (nxT L)) fun a => .ok (({ g with n := putN (putN g.n 4 a.1.1) 5 a.1.2 }, asc "bonus" :: seen), a.2)
  else if bs (hdT L).text = asc "days" then
    if asc "days" ∈ seen then .error (6, L)
    else bindT (dayT (nxT L)) fun a => .ok (({ g with n := putN (putN g.n 9 a.1.1) 10 a.1.2 }, asc "days" :: seen), a.2)
  else if bs (hdT L).text = asc "addon" then bindT (addonT (nxT L)) fun a => .ok (({ g with addons := g.addons ++ [a.1] }, seen), a.2)
  else if bs (hdT L).text = asc "tier" then bindT (tierT (nxT L)) fun a => .ok (({ g with tiers := g.tiers ++ [a.1] }, seen), a.2)
  else match simpleI (bs (hdT L).text) with
    | none => .error (1, L)
    | some i => if bs (hdT L).text ∈ seen then .error (6, L)
      else thenT (numT (nxT L)) (nxT L) fun a => .ok (({ g with n := putN g.n i a.1 }, bs (hdT L).text :: seen), a.2)
def gitemsT : Nat → List Tk → Gm → List (List Nat) → Except (Int × List Tk) ((Gm × List (List Nat)) × List Tk)
  | 0, L, _, _ => .error (1, L)
  | f + 1, L, g, seen =>
    if (hdT L).kind = 1 then bindT (itemG L g seen) fun a => thenT (isT 3 (asc ";") a.2) a.2 fun L2 => gitemsT f L2 a.1.1 a.1.2
    else .ok ((g, seen), L)
def closeT (x : (Gm × List (List Nat)) × List Tk) : Except (Int × List Tk) Gm :=
  thenT (isT 3 (asc "}") x.2) x.2 fun L => if (hdT L).kind = 0 then .ok (if asc "system" ∈ x.1.2 then x.1.1 else { x.1.1 with n := putN x.1.1.n 8 (x.1.1.n 2) }) else .error (1, L)
def gm0 (s : ByteArray) : Gm := ⟨s, putN (putN (fun _ => 0) 7 1) 16 1, [], []⟩
def gameT (L : List Tk) : Except (Int × List Tk) Gm :=
  thenT (isT 1 (asc "game") L) L fun L1 =>
    if (hdT L1).kind ≠ 1 then .error (1, L1)
    else thenT (isT 3 (asc "{") (nxT L1)) (nxT L1) fun L3 => bindT (gitemsT L3.length L3 (gm0 (hdT L1).text) []) closeT
/-- A text's game, the error, its line. -/
def parseG (s : ByteArray) : Gm × Int × Int :=
  if (scanE s).1 = 3 then (noGm, 3, 0)
  else if (scanE s).1 ≠ 0 then (noGm, (scanE s).1, 1 + (((bs s).take (scanE s).2.1.toNat).count 10 : Nat))
  else match gameT (scanE s).2.2 with
    | .ok g => (g, 0, 0)
    | .error (e, L) => (noGm, e, (hdT L).line)
/-! Printing. -/
def wordL (l : List Nat) : Bool := (match l with | c :: _ => letterB c | [] => false) && l.all wordB
structure Pr where
  X : List Nat
  bad : Bool
def Pr.req (p : Pr) (c : Bool) : Pr := ⟨p.X, p.bad || !c⟩
def Pr.add (p : Pr) (l : List Nat) : Pr := ⟨p.X ++ l, p.bad⟩
def Pr.lim (p : Pr) : Pr := p.req (decide (p.X.length ≤ 32768))
def Pr.ws (p : Pr) (l : List (List Nat)) : Pr := (p.add (l.flatMap (32 :: ·))).lim
def Pr.nums : Pr → List Int → Pr
  | p, [] => p
  | p, n :: r => if (p.req (fitB n)).bad then p.req (fitB n) else ((p.req (fitB n)).ws [fmtI n]).nums r
def Pr.nm (p : Pr) (s : ByteArray) : Pr := if (p.req (wordL (bs s))).bad then p.req (wordL (bs s)) else (p.req (wordL (bs s))).ws [bs s]
def Pr.begin (p : Pr) (w : List Nat) : Pr := (p.add [32]).ws [w]
def Pr.fin (p : Pr) : Pr := (p.add (asc ";\n")).lim
def Pr.opt (p : Pr) (w : List Nat) (n std : Int) : Pr := if n = std then p else ((p.begin w).nums [n]).fin
def Pr.two (p : Pr) (w : List Nat) (a b : Int) : Pr := ((((p.begin w).nums [a]).ws [asc "of"]).nums [b]).fin
def Pr.head (p : Pr) (n : Nat → Int) : Pr :=
  if n 0 = 1 ∨ n 0 = 2 then
    let p1 := p.two (if n 0 = 1 then asc "choose" else asc "digits") (n 2) (n 3)
    let p2 := if n 4 ≠ 0 ∨ n 5 ≠ 0 then p1.two (asc "bonus") (n 4) (n 5) else p1
    (((p2.opt (asc "extra") (n 6) 0).opt (asc "price") (n 1) 0).opt (asc "draws") (n 7) 1).opt (asc "system") (n 8) (n 2)
  else ⟨p.X, true⟩
def dayL (d : Nat) : List (List Nat) := ((List.range 7).filter fun i => d / 2 ^ i % 2 == 1).map fun i => dayW.getD i []
def Pr.dayw (p : Pr) (d : Nat) : Pr := (dayL d).foldl (fun p w => p.ws [w]) p
def Pr.days (p : Pr) (n : Nat → Int) : Pr :=
  let p := p.req (decide (0 ≤ n 9) && decide (n 9 ≤ 127) && decide (0 ≤ n 10) && decide (n 10 ≤ 1439))
  if n 9 = 0 then p.req (decide (n 10 = 0))
  else if p.bad then p
  else ((((((p.begin (asc "days")).dayw (n 9).toNat).ws [asc "at"]).nums [n 10 / 60]).ws [asc ":"]).nums [n 10 % 60]).fin
def Pr.addon (p : Pr) (a : Ad) : Pr :=
  let p := (p.begin (asc "addon")).nm a.name
  (if a.kind = 1 then (((p.req (decide (a.digits = 0) && decide (a.serials.length = 0))).ws [asc "factor"]).nums [a.price]).nums a.factors
   else if a.kind = 2 then (((p.req (decide (a.factors.length = 0))).ws [asc "serial"]).nums [a.price, a.digits]).nums a.serials
   else ⟨p.X, true⟩).fin
def Pr.hits (p : Pr) (w : List Nat) (n : Int) : Pr := if n = 0 then p else (p.ws [w]).nums [n]
def Pr.mode (p : Pr) (t : Ti) : Pr :=
  if t.mode = 0 then ((p.hits (asc "main") t.main).hits (asc "bonus") t.bonus).hits (asc "extra") t.extra
  else if t.mode = 1 ∨ t.mode = 2 then (p.req (decide (t.main = 0) && decide (t.bonus = 0) && decide (t.extra = 0))).ws [if t.mode = 1 then asc "exact" else asc "box"]
  else if t.mode = 3 ∨ t.mode = 4 then ((p.req (decide (t.bonus = 0) && decide (t.extra = 0))).ws [if t.mode = 3 then asc "front" else asc "back"]).nums [t.main]
  else ⟨p.X, true⟩
def Pr.tier (p : Pr) (t : Ti) : Pr :=
  let p := (p.begin (asc "tier")).mode t
  ((if t.kind = 1 then p.ws [asc "fixed"] else if t.kind = 2 then p.ws [asc "share"] else if t.kind = 3 then p.ws [asc "jackpot"] else ⟨p.X, true⟩).nums [t.value]).fin
def Pr.all {α : Type} (f : Pr → α → Pr) : Pr → List α → Pr
  | p, [] => p
  | p, a :: r => if p.bad then p else Pr.all f (f p a) r
def Pr.opts (p : Pr) (n : Nat → Int) : Pr :=
  (((((((p.opt (asc "close") (n 11) 0).opt (asc "cancel") (n 12) 0).opt (asc "expiry") (n 13) 0).opt (asc "pool") (n 14) 0).opt (asc "reserve") (n 15) 0).opt (asc "round") (n 16) 1).opt (asc "cap") (n 17) 0).opt (asc "rolls") (n 18) 0
def Pr.game (g : Gm) : Pr :=
  let p := ((((⟨asc "game", false⟩ : Pr).nm g.name).add (asc " {\n")).head g.n).days g.n
  ((Pr.all Pr.tier (Pr.all Pr.addon (p.opts g.n) g.addons) g.tiers).add (asc "}\n")).lim
def printG (g : Gm) : List Nat := if (Pr.game g).bad then [] else (Pr.game g).X
/-! Examples. -/
def exT : Gm := ⟨toBA (asc "d"), fun i => if i = 0 then 2 else if i = 2 then 3 else if i = 3 then 10 else if i = 7 then 1 else if i = 8 then 3 else if i = 9 then 36 else if i = 10 then 1230 else if i = 16 then 1 else 0,
  [⟨toBA (asc "joker"), 2, 100, [], 2, [300, 5000]⟩], [⟨0, 0, 0, 1, 1, 50000⟩, ⟨2, 0, 0, 3, 1, 500⟩]⟩
end Go.Proofs.YtbdkggnajipdhaaDoor
/- The engine's rules for this chapter: bits of ints, lookups, a set of strings. No function of the program in sight. -/
namespace Go.Proofs.YtbdkggnajipdhaaDoor
open Go.RowKit
set_option maxRecDepth 100000
section
variable {P : Program} {T : TypeId} {x y : Operand} {w : World}
theorem bits_nat {n a : Nat} (h : a < 2 ^ n) : (BitVec.ofInt n (a : Int)).toNat = a := by
  rw [BitVec.toNat_ofInt, Int.emod_eq_of_lt (Int.natCast_nonneg a) (by exact_mod_cast h), Int.toNat_natCast]
theorem vBin_andN {a b : Nat} (ha : a < 4611686018427387904) (hb : b < 4611686018427387904) : vBin P .and T x y (.int .i64 a) (.int .i64 b) w = .ok (.value (.int .i64 ((a &&& b : Nat) : Int))) w := by
  have hbits : (2 : Nat) ^ IntKind.i64.bits = 18446744073709551616 := by decide
  have e : ((BitVec.ofInt IntKind.i64.bits (a : Int) &&& BitVec.ofInt IntKind.i64.bits (b : Int)).toNat : Int) = ((a &&& b : Nat) : Int) := by
    rw [BitVec.toNat_and, bits_nat (by omega), bits_nat (by omega)]
  have hle : a &&& b ≤ a := Nat.and_le_left
  have e2 : IntKind.i64.wrap ((a &&& b : Nat) : Int) = ((a &&& b : Nat) : Int) := IntWalk.i64_in _ (by omega)
  simp [vBin, eqGuard, binOp, Op.intBits, -BitVec.toNat_and, -BitVec.toNat_or, -BitVec.toNat_ofInt, -BitVec.ofInt_ofNat, -BitVec.ofInt_natCast, e, e2]
theorem vBin_orN {a b : Nat} (ha : a < 4611686018427387904) (hb : b < 4611686018427387904) : vBin P .or T x y (.int .i64 a) (.int .i64 b) w = .ok (.value (.int .i64 ((a ||| b : Nat) : Int))) w := by
  have hbits : (2 : Nat) ^ IntKind.i64.bits = 18446744073709551616 := by decide
  have e : ((BitVec.ofInt IntKind.i64.bits (a : Int) ||| BitVec.ofInt IntKind.i64.bits (b : Int)).toNat : Int) = ((a ||| b : Nat) : Int) := by
    rw [BitVec.toNat_or, bits_nat (by omega), bits_nat (by omega)]
  have hle : a ||| b < 2 ^ 62 := Nat.or_lt_two_pow (by omega) (by omega)
  have e2 : IntKind.i64.wrap ((a ||| b : Nat) : Int) = ((a ||| b : Nat) : Int) := IntWalk.i64_in _ (by omega)
  simp [vBin, eqGuard, binOp, Op.intBits, -BitVec.toNat_and, -BitVec.toNat_or, -BitVec.toNat_ofInt, -BitVec.ofInt_ofNat, -BitVec.ofInt_natCast, e, e2]
theorem vBin_shlN {k : IntKind} {i : Nat} (hi : i < 7) : vBin P .shl T x y (.int .i64 1) (.int k i) w = .ok (.value (.int .i64 ((2 ^ i : Nat) : Int))) w := by
  have e : IntKind.i64.wrap (1 * 2 ^ (min (i : Int).toNat IntKind.i64.bits)) = ((2 ^ i : Nat) : Int) := by
    have : ∀ i : Fin 7, IntKind.i64.wrap (1 * 2 ^ (min (i.1 : Int).toNat IntKind.i64.bits)) = ((2 ^ i.1 : Nat) : Int) := by decide +kernel
    exact this ⟨i, hi⟩
  simp only [vBin, eqGuard, binOp, Op.shift]
  simp [show ¬ ((i : Int) < 0) by omega]
  first | done | (simpa using e)
theorem vLookup_str0 {l : List (ByteArray × Value × Nat)} {clk g : Nat} {k : ByteArray} {z : Value} (hz : mapZ P T = some z) (hg : w.heap[g]? = some (.map (mkS l) clk)) :
    vLookup P T (.map (some g)) (.string k) false w = .ok (.value ((sget k l).getD z)) w := by
  obtain ⟨K, E, inf, hT, hK, hE, hzz⟩ := mapZ_is hz
  have hf := findNow_str (k := k) l 0
  cases hs : sfind k 0 l with
  | none =>
    rw [hs] at hf
    simp [vLookup, Instr.lookup, Sem.run_bind, run_underlying hT w, getObj, Sem.run, hg, run_checkKey_str hK, run_underlying hK w, Instr.findKey, mkS, hf, zeroValue, typeInfo, hE, hzz, sget, hs]
  | some p =>
    rw [hs] at hf
    simp [vLookup, Instr.lookup, Sem.run_bind, run_underlying hT w, getObj, Sem.run, hg, run_checkKey_str hK, run_underlying hK w, Instr.findKey, mkS, hf, sget, hs]
end
/-- The map at g holds the words seen. -/
def SeenIn (w : World) (g : Nat) (seen : List (List Nat)) : Prop := ∃ (l : List (ByteArray × Value × Nat)) (clk : Nat), w.heap[g]? = some (.map (mkS l) clk) ∧ ∀ k, (bs k ∈ seen → sget k l = some (.bool true)) ∧ (bs k ∉ seen → sget k l = none)
theorem SeenIn.kept {X : List Nat} {w w' : World} {g : Nat} {seen : List (List Nat)} (h : SeenIn w g seen) (k : Kept X w w') (hg : g ∉ X) : SeenIn w' g seen := by
  obtain ⟨l, clk, h1, h2⟩ := h
  exact ⟨l, clk, (k.block g (Array.getElem?_eq_some_iff.1 h1).1 hg).trans h1, h2⟩
theorem SeenIn.lt {w : World} {g : Nat} {seen : List (List Nat)} (h : SeenIn w g seen) : g < w.heap.size := by
  obtain ⟨l, clk, h1, h2⟩ := h
  exact (Array.getElem?_eq_some_iff.1 h1).1
theorem SeenIn.new (w : World) : SeenIn (w.alloc (.map #[] 0)) w.heap.size [] := ⟨[], 0, heap_alloc_new w _, fun k => ⟨fun h => (by cases h), fun _ => rfl⟩⟩
theorem sfind_app (k : ByteArray) (x : ByteArray × Value × Nat) : ∀ (l : List (ByteArray × Value × Nat)) (i : Nat), sfind k i (l ++ [x]) = match sfind k i l with
    | some p => some p
    | none => if k = x.1 then some (i + l.length, x.2.1) else none
  | [], i => by
    obtain ⟨k', v, b⟩ := x
    rw [List.nil_append, sfind, sfind, sfind]; rfl
  | (k', v, b) :: r, i => by
    rw [List.cons_append, sfind, sfind]
    by_cases h : k = k'
    · rw [if_pos h, if_pos h]
    · rw [if_neg h, if_neg h, sfind_app k x r (i + 1)]
      cases sfind k (i + 1) r with
      | some p => rfl
      | none => simp only [List.length_cons]; split <;> simp <;> omega
theorem SeenIn.add {w : World} {g : Nat} {seen : List (List Nat)} {s : ByteArray} {l : List (ByteArray × Value × Nat)} {clk : Nat} (h1 : w.heap[g]? = some (.map (mkS l) clk)) (h2 : ∀ k, (bs k ∈ seen → sget k l = some (.bool true)) ∧ (bs k ∉ seen → sget k l = none)) (hs : bs s ∉ seen) :
    SeenIn (setO w g (.map (mkS (l ++ [(s, .bool true, clk)])) (clk + 1))) g (bs s :: seen) := by
  refine ⟨_, _, setO_at _ (Array.getElem?_eq_some_iff.1 h1).1, fun k => ?_⟩
  unfold sget
  rw [sfind_app]
  by_cases hk : k = s
  · subst hk
    refine ⟨fun _ => ?_, fun h => absurd List.mem_cons_self h⟩
    have := (h2 k).2 hs
    unfold sget at this
    cases hf : sfind k 0 l with
    | some p => rw [hf] at this; cases this
    | none => simp
  · constructor
    · intro h
      rcases List.mem_cons.1 h with h | h
      · exact absurd (bs_inj h) hk
      · have := (h2 k).1 h
        unfold sget at this
        cases hf : sfind k 0 l with
        | some p => rw [hf] at this; exact this
        | none => rw [hf] at this; cases this
    · intro h
      have := (h2 k).2 (fun e => h (List.mem_cons_of_mem _ e))
      unfold sget at this
      cases hf : sfind k 0 l with
      | some p => rw [hf] at this; cases this
      | none => simp [hk]
theorem setO_kept {X : List Nat} {a w : World} {g : Nat} (h : Kept X a w) (hg : g ∈ X) (o : Obj) : Kept X a (setO w g o) :=
  h.trans ⟨rfl, rfl, rfl, by rw [setO_size]; exact Nat.le_refl _, fun k hk hx => setO_block o (fun e => hx (e ▸ hg))⟩
/-- Numbers as values. -/
def iW (l : List Int) : List Value := l.map fun n => Value.int .i64 n
/-! Days. -/
theorem day_bits (d i : Nat) (hd : d < 128) (hi : i < 7) : (d &&& 2 ^ i = 0 ↔ ¬ d / 2 ^ i % 2 = 1) ∧ (¬ d / 2 ^ i % 2 = 1 → d ||| 2 ^ i = d + 2 ^ i ∧ d + 2 ^ i < 128) := by
  have : ∀ (d : Fin 128) (i : Fin 7), (d.1 &&& 2 ^ i.1 = 0 ↔ ¬ d.1 / 2 ^ i.1 % 2 = 1) ∧ (¬ d.1 / 2 ^ i.1 % 2 = 1 → d.1 ||| 2 ^ i.1 = d.1 + 2 ^ i.1 ∧ d.1 + 2 ^ i.1 < 128) := by decide +kernel
  exact this ⟨d, hd⟩ ⟨i, hi⟩
theorem dayI_lt {w : List Nat} {i : Nat} (h : dayI w = some i) : i < 7 ∧ dayW[i]? = some w ∧ ∀ j, j < i → dayW[j]? ≠ some w := by
  unfold dayI at h
  rw [List.findIdx?_eq_some_iff_getElem] at h
  obtain ⟨h1, h2, h3⟩ := h
  refine ⟨h1, ?_, fun j hj e => ?_⟩
  · rw [List.getElem?_eq_getElem h1]; simpa using h2
  · have := h3 j hj
    rw [List.getElem?_eq_getElem (by omega)] at e
    simp only [Option.some.injEq] at e
    simp [e] at this
theorem dayI_at {w : List Nat} {i : Nat} (h1 : dayW[i]? = some w) (h2 : ∀ j d, j < i → dayW[j]? = some d → d ≠ w) : dayI w = some i := by
  unfold dayI
  rw [List.findIdx?_eq_some_iff_getElem]
  obtain ⟨hi, he⟩ := List.getElem?_eq_some_iff.1 h1
  refine ⟨hi, by simpa using he, fun j hj => ?_⟩
  have := h2 j _ hj (List.getElem?_eq_getElem (by omega))
  simpa using this
theorem dayI_none {w : List Nat} (h2 : ∀ j d, j < 7 → dayW[j]? = some d → d ≠ w) : dayI w = none := by
  unfold dayI
  rw [List.findIdx?_eq_none_iff]
  intro d hd
  obtain ⟨j, hj⟩ := List.mem_iff_getElem?.1 hd
  have hl := (List.getElem?_eq_some_iff.1 hj).1
  have := h2 j d hl hj
  simpa using this
end Go.Proofs.YtbdkggnajipdhaaDoor
/- Regions that draw their order: a reader that waits for a condition. -/
namespace Go.Proofs.YtbdkggnajipdhaaDoor
open Go.RowKit
end Go.Proofs.YtbdkggnajipdhaaDoor
/- The engine where calls may panic: the same as XEng's E and W, with a place for what is asked once the code panics; frames that have deferred calls. No function of the program in sight. -/
namespace Go.Proofs.YtbdkggnajipdhaaDoor
open Go.RowKit
/-- The frame 'a' has n slots σ and the deferred calls ds. -/
structure FrD (ds : List Deferred) (n : Nat) (σ : Sl) (a : Act) : Prop where
  size : a.tmps.size = n
  defers : a.defers = ds
  at_ : ∀ i, a.tmps.getD i undef = σ i
theorem FrD.eval {ds : List Deferred} {n : Nat} {σ : Sl} {a : Act} (h : FrD ds n σ a) : a.eval = ev σ := by
  funext o
  cases o <;> first | rfl | exact h.at_ _
theorem FrD.fr {ds : List Deferred} {n : Nat} {σ : Sl} {a : Act} (h : FrD ds n σ a) : Fr n σ { a with defers := [] } := ⟨h.size, rfl, h.at_⟩
theorem FrD.put {ds : List Deferred} {n : Nat} {σ : Sl} {a : Act} (h : FrD ds n σ a) (d : Option Nat) (v : Value) : FrD ds n (put n σ d v) (a.put d v) := by
  have hq := h.fr.put d v
  refine ⟨?_, ?_, fun i => ?_⟩
  · have := hq.size; cases d <;> simpa [Act.put] using this
  · cases d <;> exact h.defers
  · have := hq.at_ i; cases d <;> exact this
theorem wanted_someD {ds : List Deferred} {n : Nat} {σ : Sl} {a : Act} (h : FrD ds n σ a) {ops : Array Oper} {o : Oper} {j : Nat} {b : Bool} (hg : o.guard = some (j, b)) :
    Region.wanted o (yielded ops a.tmps) = isB b (gval σ (gslot ops j)) := wanted_some h.fr hg
/-- How a call ends: R behind a return, X behind a panic. -/
def Ends (R : Value → World → Prop) (X : List PanicEntry → World → Prop) : Ending → World → Prop
  | .returned v, w => R v w
  | .panicked c, w => X c w
  | .outgrown, _ => False
theorem Ends_ret (R : Value → World → Prop) (X : List PanicEntry → World → Prop) (v : Value) (w : World) : Ends R X (.returned v) w = R v w := nr rfl
theorem Ends_pan (R : Value → World → Prop) (X : List PanicEntry → World → Prop) (c : List PanicEntry) (w : World) : Ends R X (.panicked c) w = X c w := nr rfl
def OkvX (P : Program) (R : Value → World → Prop) (X : List PanicEntry → World → Prop) : Result Next → Prop
  | .ok (.value v) w' => R v w'
  | .ok .skip w' => R undef w'
  | .ok (.enter f args) w' => Calls P f args w' (Ends R X)
  | .halt (.panic v) w' => X [{ v, recovered := false }] w'
  | _ => False
def GBX (P : Program) (g : Bool) (r : Result Next) (R : Value → World → Prop) (X : List PanicEntry → World → Prop) (w : World) : Prop := if g then OkvX P R X r else R undef w
/-- The operations of a region in their order; X: what is asked once one of them panics. -/
def EX (P : Program) (n : Nat) (ops : Array Oper) (X : List PanicEntry → Sl → World → Prop) : List Oper → Sl → World → (Sl → World → Prop) → Prop
  | [], σ, w, K => K σ w
  | ⟨d, op, ty, _, _, g⟩ :: r, σ, w, K => match g with
    | none => OkvX P (fun v w' => EX P n ops X r (put n σ d v) w' K) (fun c w' => X c σ w') (run1 P op ty σ w)
    | some (j, b) => GBX P (isB b (gval σ (gslot ops j))) (run1 P op ty σ w) (fun v w' => EX P n ops X r (put n σ d v) w' K) (fun c w' => X c σ w') w
section
variable {P : Program} {n : Nat} {X : List PanicEntry → Sl → World → Prop}
theorem EX_nil (ops : Array Oper) (σ : Sl) (w : World) (K : Sl → World → Prop) : EX P n ops X [] σ w K = K σ w := nr rfl
theorem EX_op (ops : Array Oper) (d : Option Nat) (op : Op) (ty : TypeId) (p : String) (af : Array Edge) (r : List Oper) (σ : Sl) (w : World) (K : Sl → World → Prop) :
    EX P n ops X (⟨d, op, ty, p, af, none⟩ :: r) σ w K = OkvX P (fun v w' => EX P n ops X r (put n σ d v) w' K) (fun c w' => X c σ w') (run1 P op ty σ w) := nr rfl
theorem EX_opg (ops : Array Oper) (d : Option Nat) (op : Op) (ty : TypeId) (p : String) (af : Array Edge) (j : Nat) (b : Bool) (r : List Oper) (σ : Sl) (w : World) (K : Sl → World → Prop) :
    EX P n ops X (⟨d, op, ty, p, af, some (j, b)⟩ :: r) σ w K = GBX P (isB b (gval σ (gslot ops j))) (run1 P op ty σ w) (fun v w' => EX P n ops X r (put n σ d v) w' K) (fun c w' => X c σ w') w := nr rfl
theorem OkvX_value (R : Value → World → Prop) (Y : List PanicEntry → World → Prop) (v : Value) (w : World) : OkvX P R Y (.ok (.value v) w) = R v w := nr rfl
theorem OkvX_skip (R : Value → World → Prop) (Y : List PanicEntry → World → Prop) (w : World) : OkvX P R Y (.ok .skip w) = R undef w := nr rfl
theorem OkvX_enter (R : Value → World → Prop) (Y : List PanicEntry → World → Prop) (f : FuncId) (args : Array Value) (w : World) : OkvX P R Y (.ok (.enter f args) w) = Calls P f args w (Ends R Y) := nr rfl
theorem OkvX_panic (R : Value → World → Prop) (Y : List PanicEntry → World → Prop) (v : Value) (w : World) : OkvX P R Y (.halt (.panic v) w) = Y [{ v, recovered := false }] w := nr rfl
theorem GBX_true (r : Result Next) (R : Value → World → Prop) (Y : List PanicEntry → World → Prop) (w : World) : GBX P true r R Y w = OkvX P R Y r := nr rfl
theorem GBX_false (r : Result Next) (R : Value → World → Prop) (Y : List PanicEntry → World → Prop) (w : World) : GBX P false r R Y w = R undef w := by simp [GBX]
theorem GBX_value (g : Bool) (v : Value) (R : Value → World → Prop) (Y : List PanicEntry → World → Prop) (w : World) : GBX P g (.ok (.value v) w) R Y w = R (cv g v) w := by cases g <;> simp [GBX, OkvX, cv]
@[congr] theorem OkvX_congr {R : Value → World → Prop} {Y : List PanicEntry → World → Prop} {r r' : Result Next} (h : r = r') : OkvX P R Y r = OkvX P R Y r' := by rw [h]
@[congr] theorem GBX_congr {g g' : Bool} {r r' : Result Next} {R : Value → World → Prop} {Y : List PanicEntry → World → Prop} {w : World} (hg : g = g') (hr : g' = true → r = r') : GBX P g r R Y w = GBX P g' r' R Y w := by
  subst hg; cases g
  · rfl
  · rw [hr rfl]
@[congr] theorem EX_congr {ops : Array Oper} {l : List Oper} {σ σ' : Sl} {w w' : World} {K : Sl → World → Prop} (h : σ = σ') (h' : w = w') : EX P n ops X l σ w K = EX P n ops X l σ' w' K := by rw [h, h']
end
theorem Oper.wp_of_OkvX {P : Program} {n : Nat} {ds : List Deferred} {σ : Sl} {a : Act} {w : World} (hf : FrD ds n σ a) {o : Oper} {R : Value → World → Prop} {Y : List PanicEntry → World → Prop} {next : Act → World → Prop} {Q : Exit → Act → World → Prop}
    (h : OkvX P R Y (run1 P o.op o.type σ w)) (hR : ∀ v w', R v w' → next (a.put o.dst v) w') (hY : ∀ c w', Y c w' → Q (.panic c) a w') : o.wp P a w next Q := by
  unfold Oper.wp
  have e : (execOp a.eval o).run P w = run1 P o.op o.type σ w := by rw [hf.eval]; rfl
  rw [e]
  generalize run1 P o.op o.type σ w = r at h
  cases r with
  | halt x w' => cases x <;> simp only [OkvX] at h <;> simp only [Oper.upon]; exact hY _ _ h
  | ok nx w' =>
    cases nx <;> simp only [OkvX] at h <;> simp only [Oper.upon]
    case value v => exact hR _ _ h
    case skip => exact hR _ _ h
    case enter f args =>
      refine h.mono fun e w'' he => ?_
      cases e with
      | returned v => exact hR _ _ he
      | panicked c => exact hY _ _ he
      | outgrown => exact he.elim
theorem EX_sound {P : Program} {n : Nat} {ds : List Deferred} {ops : Array Oper} {X : List PanicEntry → Sl → World → Prop} {K : Sl → World → Prop} {Q : Exit → Act → World → Prop} (hQ : ∀ σ a w, FrD ds n σ a → K σ w → Q .normal a w)
    (hX : ∀ c σ a w, FrD ds n σ a → X c σ w → Q (.panic c) a w) :
    ∀ (l : List Oper) (σ : Sl) (a : Act) (w : World), FrD ds n σ a → EX P n ops X l σ w K → wpList P ops Q l a w
  | [], σ, a, w, hf, h => hQ _ _ _ hf h
  | ⟨d, op, ty, p, af, none⟩ :: r, σ, a, w, hf, h => by
    unfold wpList
    rw [if_pos (wanted_none rfl)]
    exact .inl (Oper.wp_of_OkvX hf (o := ⟨d, op, ty, p, af, none⟩) h (fun v w' hE => EX_sound hQ hX r _ _ _ (hf.put d v) hE) fun c w' hc => hX _ _ _ _ hf hc)
  | ⟨d, op, ty, p, af, some (j, b)⟩ :: r, σ, a, w, hf, h => by
    unfold wpList
    rw [EX_opg, GBX] at h
    rw [wanted_someD hf rfl]
    split
    · rename_i hw
      rw [if_pos hw] at h
      exact .inl (Oper.wp_of_OkvX hf (o := ⟨d, op, ty, p, af, some (j, b)⟩) h (fun v w' hE => EX_sound hQ hX r _ _ _ (hf.put d v) hE) fun c w' hc => hX _ _ _ _ hf hc)
    · rename_i hw
      rw [if_neg hw] at h
      exact EX_sound hQ hX r _ _ _ (hf.put d undef) h
def liftD (ds : List Deferred) (n : Nat) (Q : Exit → Sl → World → Prop) : Exit → Act → World → Prop := fun e a w => ∃ σ, FrD ds n σ a ∧ Q e σ w
def RawD (ds : List Deferred) (P : Program) (n : Nat) (c : Code) (Q : Exit → Sl → World → Prop) (σ : Sl) (w : World) : Prop := ∀ a, FrD ds n σ a → c.wp P (liftD ds n Q) a w
/-- No panic: what is asked of a region that cannot panic. -/
def noP (Q : Exit → Sl → World → Prop) : Exit → Sl → World → Prop
  | .panic _, _, _ => False
  | e, σ, w => Q e σ w
theorem noP_pan {Q : Exit → Sl → World → Prop} (c : List PanicEntry) (σ : Sl) (w : World) : ¬ noP Q (.panic c) σ w := fun h => h
theorem noP_normal {Q : Exit → Sl → World → Prop} {σ : Sl} {w : World} : noP Q .normal σ w = Q .normal σ w := nr rfl
theorem noP_ret {Q : Exit → Sl → World → Prop} {σ : Sl} {w : World} : noP Q .ret σ w = Q .ret σ w := nr rfl
theorem noP_exit {Q : Exit → Sl → World → Prop} {id : Nat} {σ : Sl} {w : World} : noP Q (.exit id) σ w = Q (.exit id) σ w := nr rfl
theorem RawD_of {P : Program} {n : Nat} {c : Code} {Q : Exit → Sl → World → Prop} {σ : Sl} {w : World} (h : Raw P n c Q σ w) : RawD [] P n c Q σ w :=
  fun a hf => wp_mono (h a ⟨hf.size, hf.defers, hf.at_⟩) fun _ _ _ ⟨σ', hf', hq⟩ => ⟨σ', ⟨hf'.size, hf'.defers, hf'.at_⟩, hq⟩
/-- A region that cannot panic. -/
theorem RawD_np {P : Program} {n : Nat} {c : Code} {Q : Exit → Sl → World → Prop} {σ : Sl} {w : World} (h : Raw P n c (noP Q) σ w) : RawD [] P n c Q σ w := by
  refine RawD_of (Raw_mono (fun e σ w hq => ?_) h)
  cases e
  case panic c => exact hq.elim
  all_goals exact hq
theorem RawD_mono {ds : List Deferred} {P : Program} {n : Nat} {c : Code} {Q Q' : Exit → Sl → World → Prop} {σ : Sl} {w : World} (h : ∀ e σ w, Q e σ w → Q' e σ w) (hr : RawD ds P n c Q σ w) : RawD ds P n c Q' σ w :=
  fun a hf => wp_mono (hr a hf) fun _ _ _ ⟨σ', hf', hq⟩ => ⟨σ', hf', h _ _ _ hq⟩
def WX (ds : List Deferred) (P : Program) (n : Nat) : Code → (Exit → Sl → World → Prop) → Sl → World → Prop
  | .skip, Q, σ, w => Q .normal σ w
  | .region id ops draw, Q, σ, w => if draw then RawD ds P n (.region id ops true) Q σ w else EX P n ops (fun c => Q (.panic c)) ops.toList σ w (Q .normal)
  | .seq a b, Q, σ, w => WX ds P n a (thenX (WX ds P n b Q) Q) σ w
  | .cond c x y, Q, σ, w => condX (ev σ c) (WX ds P n x Q σ w) (WX ds P n y Q σ w)
  | .block id c, Q, σ, w => WX ds P n c (inX id Q) σ w
  | .exit id, Q, σ, w => Q (.exit id) σ w
  | .ret, Q, σ, w => Q .ret σ w
  | .goto l, Q, σ, w => Q (.goto l) σ w
  | .label _, Q, σ, w => Q .normal σ w
  | c, Q, σ, w => RawD ds P n c Q σ w
section
variable {ds : List Deferred} {P : Program} {n : Nat} {Q : Exit → Sl → World → Prop} {σ : Sl} {w : World}
theorem WX_skip : WX ds P n .skip Q σ w = Q .normal σ w := nr rfl
theorem WX_region {id : Nat} {l : List Oper} : WX ds P n (.region id l.toArray false) Q σ w = EX P n l.toArray (fun c => Q (.panic c)) l σ w (Q .normal) := by simp [WX]
theorem WX_draw {id : Nat} {ops : Array Oper} : WX ds P n (.region id ops true) Q σ w = RawD ds P n (.region id ops true) Q σ w := nr rfl
theorem WX_seq {a b : Code} : WX ds P n (.seq a b) Q σ w = WX ds P n a (thenX (WX ds P n b Q) Q) σ w := nr rfl
theorem WX_cond {c : Operand} {x y : Code} : WX ds P n (.cond c x y) Q σ w = condX (ev σ c) (WX ds P n x Q σ w) (WX ds P n y Q σ w) := nr rfl
theorem WX_block {id : Nat} {c : Code} : WX ds P n (.block id c) Q σ w = WX ds P n c (inX id Q) σ w := nr rfl
theorem WX_exit {id : Nat} : WX ds P n (.exit id) Q σ w = Q (.exit id) σ w := nr rfl
theorem WX_ret : WX ds P n .ret Q σ w = Q .ret σ w := nr rfl
theorem WX_goto {l : Nat} : WX ds P n (.goto l) Q σ w = Q (.goto l) σ w := nr rfl
theorem WX_label {l : Nat} : WX ds P n (.label l) Q σ w = Q .normal σ w := nr rfl
theorem WX_loop {c : Code} : WX ds P n (.loop c) Q σ w = RawD ds P n (.loop c) Q σ w := nr rfl
theorem thenX_pan {K : Sl → World → Prop} {c : List PanicEntry} : thenX K Q (.panic c) σ w = Q (.panic c) σ w := nr rfl
theorem inX_pan {id : Nat} {c : List PanicEntry} : inX id Q (.panic c) σ w = Q (.panic c) σ w := nr rfl
@[congr] theorem WX_congr {c : Code} {σ σ' : Sl} {w w' : World} (h : σ = σ') (h' : w = w') : WX ds P n c Q σ w = WX ds P n c Q σ' w' := by rw [h, h']
@[congr] theorem RawD_congr {c : Code} {σ σ' : Sl} {w w' : World} (h : σ = σ') (h' : w = w') : RawD ds P n c Q σ w = RawD ds P n c Q σ' w' := by rw [h, h']
theorem WX_if_t {c : Operand} {x y : Code} (hc : ev σ c = .bool true) (h1 : WX ds P n x Q σ w) : WX ds P n (.cond c x y) Q σ w := by
  rw [WX_cond, hc]; exact ⟨fun _ => h1, fun h => (by cases h)⟩
theorem WX_if_f {c : Operand} {x y : Code} (hc : ev σ c = .bool false) (h1 : WX ds P n y Q σ w) : WX ds P n (.cond c x y) Q σ w := by
  rw [WX_cond, hc]; exact ⟨fun h => (by cases h), fun _ => h1⟩
theorem WX_if {c : Operand} {x y : Code} {t : Bool} (hc : ev σ c = .bool t) (h1 : t = true → WX ds P n x Q σ w) (h2 : t = false → WX ds P n y Q σ w) : WX ds P n (.cond c x y) Q σ w := by
  rw [WX_cond, hc]; exact ⟨h1, h2⟩
end
theorem WX_sound {ds : List Deferred} {P : Program} {n : Nat} : ∀ (c : Code) (Q : Exit → Sl → World → Prop) (σ : Sl) (w : World), WX ds P n c Q σ w → RawD ds P n c Q σ w := by
  intro c
  induction c with
  | skip => intro Q σ w h a hf; exact wp_skip ⟨σ, hf, h⟩
  | region id ops draw =>
    intro Q σ w h a hf
    cases draw with
    | true => exact h a hf
    | false =>
      refine wp_region_list ?_
      exact EX_sound (K := Q .normal) (X := fun c => Q (.panic c)) (fun σ' a' w' hf' hk => ⟨σ', hf', hk⟩) (fun c σ' a' w' hf' hk => ⟨σ', hf', hk⟩) _ _ _ _ hf (by simpa [WX] using h)
  | seq x y ihx ihy =>
    intro Q σ w h a hf
    refine wp_seq (wp_mono (ihx _ _ _ h a hf) ?_)
    rintro e a' w' ⟨σ', hf', hq⟩
    cases e
    case normal => exact ihy _ _ _ hq a' hf'
    all_goals exact ⟨σ', hf', hq⟩
  | cond c x y ihx ihy =>
    intro Q σ w h a hf
    rw [WX_cond] at h
    have hc : a.eval c = ev σ c := by rw [hf.eval]
    generalize ev σ c = v at h hc
    cases v with
    | bool t =>
      refine wp_cond_split hc (fun ht => ihx _ _ _ (h.1 ht) a hf) (fun ht => ihy _ _ _ (h.2 ht) a hf)
    | _ => exact h.elim
  | block id c ih =>
    intro Q σ w h a hf
    refine wp_block (wp_mono (ih _ _ _ h a hf) ?_)
    rintro e a' w' ⟨σ', hf', hq⟩
    cases e
    case exit id' =>
      simp only [inX] at hq
      simp only [Exit.inBlock]
      split
      · rename_i he; rw [if_pos he] at hq; exact ⟨σ', hf', hq⟩
      · rename_i he; rw [if_neg he] at hq; exact ⟨σ', hf', hq⟩
    all_goals exact ⟨σ', hf', hq⟩
  | exit id => intro Q σ w h a hf; exact wp_exit ⟨σ, hf, h⟩
  | ret => intro Q σ w h a hf; exact wp_ret ⟨σ, hf, h⟩
  | goto l => intro Q σ w h a hf; exact wp_goto ⟨σ, hf, h⟩
  | label l => intro Q σ w h a hf; exact wp_label ⟨σ, hf, h⟩
  | _ => intro Q σ w h a hf; exact h a hf
/-- A loop. -/
theorem RawD_loop {ds : List Deferred} {P : Program} {n : Nat} {c : Code} {Q : Exit → Sl → World → Prop} {σ : Sl} {w : World} (I : Sl → World → Prop) (μ : Sl → World → Nat) (h0 : I σ w)
    (round : ∀ σ w, I σ w → ∀ K : Sl → World → Prop, (∀ σ' w', I σ' w' → μ σ' w' < μ σ w → K σ' w') → WX ds P n c (thenX K Q) σ w) : RawD ds P n (.loop c) Q σ w := by
  intro a hf
  have round : ∀ σ w, I σ w → WX ds P n c (thenX (fun σ' w' => I σ' w' ∧ μ σ' w' < μ σ w) Q) σ w := fun σ w hI => round σ w hI _ fun _ _ h1 h2 => ⟨h1, h2⟩
  refine wp_loop (fun a w => FrD ds n (fun i => a.tmps.getD i undef) a ∧ I (fun i => a.tmps.getD i undef) w) (fun a w => μ (fun i => a.tmps.getD i undef) w) ?_ ?_
  · have e : (fun i => a.tmps.getD i undef) = σ := funext hf.at_
    rw [e]; exact ⟨hf, h0⟩
  · rintro a w ⟨hf, hI⟩
    refine wp_mono (WX_sound _ _ _ _ (round _ w hI) a hf) ?_
    rintro e a' w' ⟨σ', hf', hq⟩
    cases e
    case normal =>
      have e : (fun i => a'.tmps.getD i undef) = σ' := funext hf'.at_
      simp only [Exit.then]
      rw [e]; exact ⟨⟨hf', hq.1⟩, hq.2⟩
    all_goals exact ⟨σ', hf', hq⟩
/-- The end of a function that may panic. -/
def postX (P : Program) (fn : Func) (R : Ending → World → Prop) : Exit → Sl → World → Prop
  | .normal, σ, w | .ret, σ, w => resE P fn.results σ w fun v => R (.returned v) w
  | .panic c, _, w => R (.panicked c) w
  | _, _, _ => False
theorem postX_normal {P : Program} {fn : Func} {R : Ending → World → Prop} {σ : Sl} {w : World} : postX P fn R .normal σ w = resE P fn.results σ w fun v => R (.returned v) w := nr rfl
theorem postX_ret {P : Program} {fn : Func} {R : Ending → World → Prop} {σ : Sl} {w : World} : postX P fn R .ret σ w = resE P fn.results σ w fun v => R (.returned v) w := nr rfl
theorem postX_pan {P : Program} {fn : Func} {R : Ending → World → Prop} {c : List PanicEntry} {σ : Sl} {w : World} : postX P fn R (.panic c) σ w = R (.panicked c) w := nr rfl
theorem calls_WX {P : Program} {f : FuncId} {fn : Func} {c : Code} {l : List Value} {w : World} {R : Ending → World → Prop} (hf : P.funcs[f]? = some fn) (hb : fn.body = some c) (n : Nat) (hn : fn.ntmps = n) (hl : l.length ≤ n)
    (h : WX [] P n c (postX P fn R) (init l 0 bot) w) : Calls P f l.toArray w R := by
  refine calls_of_wp hf hb ?_
  have hfr : FrD [] n (init l 0 bot) { tmps := l.toArray ++ Array.replicate (fn.ntmps - l.toArray.size) undef, defers := [] } := by
    refine ⟨by simp [hn]; omega, rfl, fun i => ?_⟩
    rw [getD_append_undef, init_at]
    by_cases hi : i < l.length
    · rw [if_pos ⟨Nat.zero_le _, by simpa using hi⟩]; rfl
    · rw [if_neg (by omega)]
      simp [bot, List.getD_eq_getElem?_getD, List.getElem?_eq_none (Nat.le_of_not_lt hi)]
  refine wp_mono (WX_sound _ _ _ _ h _ hfr) ?_
  rintro e a w' ⟨σ, hf', hq⟩
  have ht : (fun i => a.tmps.getD i undef) = σ := funext hf'.at_
  cases e <;> simp only [postX] at hq
  case normal => obtain ⟨v, hv, hR⟩ := resE_is hq ht; exact ⟨hf'.defers, v, hv, hR⟩
  case ret => obtain ⟨v, hv, hR⟩ := resE_is hq ht; exact ⟨hf'.defers, v, hv, hR⟩
  case panic c => exact ⟨hf'.defers, hq⟩
/-! Cutting a proof at a place where several ways meet. -/
theorem OkvX_mono {P : Program} {R R' : Value → World → Prop} {Y Y' : List PanicEntry → World → Prop} {r : Result Next} (h : ∀ v w, R v w → R' v w) (hy : ∀ c w, Y c w → Y' c w) (hr : OkvX P R Y r) : OkvX P R' Y' r := by
  cases r with
  | halt x w' => cases x <;> simp only [OkvX] at hr ⊢; exact hy _ _ hr
  | ok nx w' =>
    cases nx
    case value v => exact h _ _ hr
    case skip => exact h _ _ hr
    case enter f args =>
      refine Calls.mono hr fun e w'' he => ?_
      cases e with
      | returned v => exact h _ _ he
      | panicked c => exact hy _ _ he
      | outgrown => exact he.elim
    all_goals exact hr
theorem EX_mono {P : Program} {n : Nat} {ops : Array Oper} {X X' : List PanicEntry → Sl → World → Prop} {K K' : Sl → World → Prop} (h : ∀ σ w, K σ w → K' σ w) (hx : ∀ c σ w, X c σ w → X' c σ w) : ∀ (l : List Oper) (σ : Sl) (w : World), EX P n ops X l σ w K → EX P n ops X' l σ w K'
  | [], σ, w, hE => h _ _ hE
  | ⟨d, op, ty, p, af, none⟩ :: r, σ, w, hE => OkvX_mono (fun _ _ hv => EX_mono h hx r _ _ hv) (fun _ _ hc => hx _ _ _ hc) hE
  | ⟨d, op, ty, p, af, some (j, b)⟩ :: r, σ, w, hE => by
    rw [EX_opg, GBX] at *
    split
    · rename_i hg; rw [if_pos hg] at hE; exact OkvX_mono (fun _ _ hv => EX_mono h hx r _ _ hv) (fun _ _ hc => hx _ _ _ hc) hE
    · rename_i hg; rw [if_neg hg] at hE; exact EX_mono h hx r _ _ hE
theorem WX_mono {ds : List Deferred} {P : Program} {n : Nat} : ∀ (c : Code) {Q Q' : Exit → Sl → World → Prop} {σ : Sl} {w : World}, (∀ e σ w, Q e σ w → Q' e σ w) → WX ds P n c Q σ w → WX ds P n c Q' σ w := by
  intro c
  induction c with
  | skip => intro Q Q' σ w h hw; exact h _ _ _ hw
  | region id ops draw =>
    intro Q Q' σ w h hw
    cases draw with
    | true => exact RawD_mono h hw
    | false => exact EX_mono (fun σ w hk => h _ _ _ hk) (fun c σ w hk => h _ _ _ hk) _ _ _ hw
  | seq x y ihx ihy =>
    intro Q Q' σ w h hw
    refine ihx (fun e σ' w' hq => ?_) hw
    cases e
    case normal => exact ihy h hq
    all_goals exact h _ _ _ hq
  | cond c x y ihx ihy =>
    intro Q Q' σ w h hw
    rw [WX_cond] at *
    generalize ev σ c = v at *
    cases v with
    | bool t => exact ⟨fun ht => ihx h (hw.1 ht), fun ht => ihy h (hw.2 ht)⟩
    | _ => exact hw.elim
  | block id c ih =>
    intro Q Q' σ w h hw
    refine ih (fun e σ' w' hq => ?_) hw
    cases e
    case exit id' =>
      simp only [inX] at *
      split
      · rename_i he; rw [if_pos he] at hq; exact h _ _ _ hq
      · rename_i he; rw [if_neg he] at hq; exact h _ _ _ hq
    all_goals exact h _ _ _ hq
  | exit id => intro Q Q' σ w h hw; exact h _ _ _ hw
  | ret => intro Q Q' σ w h hw; exact h _ _ _ hw
  | goto l => intro Q Q' σ w h hw; exact h _ _ _ hw
  | label l => intro Q Q' σ w h hw; exact h _ _ _ hw
  | _ => intro Q Q' σ w h hw; exact RawD_mono h hw
theorem WX_cut {ds : List Deferred} {P : Program} {n : Nat} {x y : Code} {Q : Exit → Sl → World → Prop} {σ : Sl} {w : World} (J : Sl → World → Prop) (h2 : ∀ σ w, J σ w → WX ds P n y Q σ w) (h1 : WX ds P n x (thenX J Q) σ w) : WX ds P n (x.seq y) Q σ w := by
  rw [WX_seq]
  refine WX_mono x (fun e σ' w' hq => ?_) h1
  cases e
  case normal => exact h2 _ _ hq
  all_goals exact hq
/-- One piece of code, what follows kept closed. -/
theorem WX_piece {ds : List Deferred} {P : Program} {n : Nat} {x y : Code} {Q : Exit → Sl → World → Prop} {σ : Sl} {w : World} (h : ∀ K : Exit → Sl → World → Prop, (∀ σ w, WX ds P n y Q σ w → K .normal σ w) → (∀ e σ w, e ≠ .normal → Q e σ w → K e σ w) → WX ds P n x K σ w) : WX ds P n (x.seq y) Q σ w := by
  rw [WX_seq]
  exact h _ (fun σ w h => h) (fun e σ w hne hq => by
    cases e
    case normal => exact absurd rfl hne
    all_goals exact hq)
/-- Ways that meet at the end and at one exit. -/
def joinX (id : Nat) (J : Sl → World → Prop) (X : List PanicEntry → World → Prop) : Exit → Sl → World → Prop
  | .normal, σ, w => J σ w
  | .exit i, σ, w => i = id ∧ J σ w
  | .panic c, _, w => X c w
  | _, _, _ => False
theorem joinX_normal {id : Nat} {J : Sl → World → Prop} {X : List PanicEntry → World → Prop} {σ : Sl} {w : World} : joinX id J X .normal σ w = J σ w := nr rfl
theorem joinX_exit {id : Nat} {J : Sl → World → Prop} {X : List PanicEntry → World → Prop} {σ : Sl} {w : World} : joinX id J X (.exit id) σ w = J σ w := nr (by show (id = id ∧ J σ w) = J σ w; simp)
theorem joinX_pan {id : Nat} {J : Sl → World → Prop} {X : List PanicEntry → World → Prop} {c : List PanicEntry} {σ : Sl} {w : World} : joinX id J X (.panic c) σ w = X c w := nr rfl
theorem WX_join {ds : List Deferred} {P : Program} {n : Nat} {c : Code} {Q : Exit → Sl → World → Prop} {σ : Sl} {w : World} (id : Nat) (J : Sl → World → Prop) (X : List PanicEntry → World → Prop) (hn : ∀ σ w, J σ w → Q .normal σ w) (he : ∀ σ w, J σ w → Q (.exit id) σ w)
    (hx : ∀ c σ w, X c w → Q (.panic c) σ w) (h1 : WX ds P n c (joinX id J X) σ w) : WX ds P n c Q σ w :=
  WX_mono c (fun e σ' w' hq => by
    cases e
    case normal => exact hn _ _ hq
    case exit i => obtain ⟨rfl, hq⟩ := hq; exact he _ _ hq
    case panic c => exact hx _ _ _ hq
    all_goals exact hq.elim) h1
theorem WX_joinX {ds : List Deferred} {P : Program} {n : Nat} {c : Code} {Q : Exit → Sl → World → Prop} {σ : Sl} {w : World} {id : Nat} (J : Sl → World → Prop) (X : List PanicEntry → World → Prop) (hn : ∀ σ w, J σ w → Q .normal σ w)
    (hx : ∀ c σ w, X c w → Q (.panic c) σ w) (h1 : WX ds P n c (joinX id J X) σ w) : WX ds P n c (inX id Q) σ w :=
  WX_join id J X (fun σ w h => hn σ w h) (fun σ w h => by rw [inX_exit_same]; exact hn σ w h) (fun c σ w h => hx c σ w h) h1
/-- One piece of code, what follows kept closed. -/
theorem W_piece {P : Program} {n : Nat} {x y : Code} {Q : Exit → Sl → World → Prop} {σ : Sl} {w : World} (h : ∀ K : Exit → Sl → World → Prop, (∀ σ w, W P n y Q σ w → K .normal σ w) → (∀ e σ w, e ≠ .normal → Q e σ w → K e σ w) → W P n x K σ w) : W P n (x.seq y) Q σ w := by
  rw [W_seq]
  exact h _ (fun σ w h => h) (fun e σ w hne hq => by
    cases e
    case normal => exact absurd rfl hne
    all_goals exact hq)
theorem W_pieceP {P : Program} {n : Nat} {x y : Code} {Q : Exit → Sl → World → Prop} {σ : Sl} {w : World} (hp : ∀ c σ w, ¬ Q (.panic c) σ w) (h : ∀ K : Exit → Sl → World → Prop, (∀ σ w, W P n y Q σ w → K .normal σ w) → (∀ e σ w, e ≠ .normal → Q e σ w → K e σ w) → (∀ c σ w, ¬ K (.panic c) σ w) → W P n x K σ w) : W P n (x.seq y) Q σ w := by
  rw [W_seq]
  exact h _ (fun σ w h => h) (fun e σ w hne hq => by
    cases e
    case normal => exact absurd rfl hne
    all_goals exact hq) (fun c σ w h => hp c σ w h)
theorem W_cutS {P : Program} {n : Nat} {x y : Code} {Q : Exit → Sl → World → Prop} {σ : Sl} {w : World} (J : Sl → World → Prop) (h2 : ∀ σ w, J σ w → W P n y Q σ w) (h1 : W P n x (thenX J Q) σ w) : W P n (x.seq y) Q σ w := by
  rw [W_seq]
  refine W_mono x (fun e σ' w' hq => ?_) h1
  cases e
  case normal => exact h2 _ _ hq
  all_goals exact hq
/-! A value in an interface; panic. -/
section
variable {P : Program} {T : TypeId} {w : World}
def vMakeI (P : Program) (T : TypeId) (u : Value) (w : World) : Result Next := (do pure (.value (← Instr.makeInterface T u)) : Sem Next).run P w
def vPanic (P : Program) (u : Value) (w : World) : Result Next := (do pure (.value (← Instr.panic u)) : Sem Next).run P w
theorem r_makeI (ty : TypeId) (σ : Sl) (x : Operand) : run1 P (.makeInterface T x) ty σ w = vMakeI P T (ev σ x) w := nr rfl
theorem r_panic (ty : TypeId) (σ : Sl) (x : Operand) : run1 P (.panic x) ty σ w = vPanic P (ev σ x) w := nr rfl
def cncB (P : Program) (T : TypeId) : Bool := match P.underlying T with
  | some (.struct _) => true
  | _ => false
def jMakeI (P : Program) (T : TypeId) (u : Value) (w : World) : Result Next := vMakeI P T u w
theorem vMakeI_at {u : Value} : vMakeI P T u w = ifB (cncB P T) (.ok (.value (.iface T u)) w) (jMakeI P T u w) := by
  refine ifB_of (fun h => ?_) rfl
  unfold cncB at h
  cases hd : P.underlying T with
  | none => rw [hd] at h; cases h
  | some d =>
    rw [hd] at h
    cases d with
    | struct fs => simp [vMakeI, Instr.makeInterface, Sem.run_bind, run_underlying hd w]
    | _ => cases h
theorem vPanic_iface {u : Value} : vPanic P (.iface T u) w = .halt (.panic (.iface T u)) w := by simp [vPanic, Instr.panic, goPanic, Sem.run_bind, Sem.run]
end
/-- The rules of this text. -/
theorem PZ : (type_of% @EX_nil) ∧ (type_of% @EX_op) ∧ (type_of% @EX_opg) ∧ (type_of% @OkvX_value) ∧ (type_of% @OkvX_skip) ∧ (type_of% @OkvX_enter) ∧ (type_of% @OkvX_panic) ∧ (type_of% @GBX_true) ∧ (type_of% @GBX_false) ∧ (type_of% @GBX_value) ∧ (type_of% @WX_skip) ∧ (type_of% @WX_region) ∧ (type_of% @WX_draw) ∧ (type_of% @WX_seq) ∧ (type_of% @WX_block) ∧ (type_of% @WX_exit) ∧ (type_of% @WX_ret) ∧ (type_of% @WX_goto) ∧ (type_of% @WX_label) ∧ (type_of% @WX_loop) ∧ (type_of% @thenX_pan) ∧ (type_of% @inX_pan) ∧ (type_of% @postX_normal) ∧ (type_of% @postX_ret) ∧ (type_of% @postX_pan) ∧ (type_of% @noP_normal) ∧ (type_of% @noP_ret) ∧ (type_of% @noP_exit) ∧ (type_of% @Ends_ret) ∧ (type_of% @Ends_pan) ∧ (type_of% @joinX_normal) ∧ (type_of% @joinX_exit) ∧ (type_of% @joinX_pan) ∧ (type_of% @r_makeI) ∧ (type_of% @r_panic) ∧ (type_of% @vMakeI_at) ∧ (type_of% @vPanic_iface) ∧ (type_of% @trivial) := ⟨@EX_nil, @EX_op, @EX_opg, @OkvX_value, @OkvX_skip, @OkvX_enter, @OkvX_panic, @GBX_true, @GBX_false, @GBX_value, @WX_skip, @WX_region, @WX_draw, @WX_seq, @WX_block, @WX_exit, @WX_ret, @WX_goto, @WX_label, @WX_loop, @thenX_pan, @inX_pan, @postX_normal, @postX_ret, @postX_pan, @noP_normal, @noP_ret, @noP_exit, @Ends_ret, @Ends_pan, @joinX_normal, @joinX_exit, @joinX_pan, @r_makeI, @r_panic, @vMakeI_at, @vPanic_iface, @trivial⟩
end Go.Proofs.YtbdkggnajipdhaaDoor
