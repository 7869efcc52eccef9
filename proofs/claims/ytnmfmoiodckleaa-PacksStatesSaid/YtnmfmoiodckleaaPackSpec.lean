/- The plain specification of packs: making them, and the calls. No program in sight. -/
import Derived.Test.YtnmfmoiodckleaaDeckSpec
namespace Go.Proofs.Ytnmfmoiodckleaa
structure Inst where
  pack : Int
  index : Int
  prize : Int
  code : ByteArray
/-- The first ticket with a code, counted from i. -/
def fndF (c : ByteArray) : Nat → List Inst → Option Nat
  | _, [] => none
  | i, x :: r => if x.code = c then some i else fndF c (i + 1) r
def fnd (T : List Inst) (c : ByteArray) : Option Nat := fndF c 0 T
def Inst.bad (S : Int) (i : Nat) (t : Inst) : Prop := t.pack ≠ i / S + 1 ∨ t.index ≠ i % S + 1 ∨ t.prize < 0 ∨ 1000000000000 < t.prize
instance (S : Int) (i : Nat) (t : Inst) : Decidable (t.bad S i) := by unfold Inst.bad; exact inferInstance
/-- The error of the tickets from number i on (L: all of them). -/
def chkT (S : Int) (L : List Inst) : Nat → List Inst → Int
  | _, [] => 0
  | i, t :: r => if t.bad S i then 2 else if (fnd (L.take i) t.code).isSome then 6 else chkT S L (i + 1) r
def newE (name : ByteArray) (price P S : Int) (L : List Lvl) (T : List Inst) : Int :=
  if chk name price P S L ≠ 0 then chk name price P S L
  else if (T.length : Int) ≠ P * S then 3
  else chkT S T 0 T
theorem chkT_step {S : Int} {L : List Inst} {k : Nat} {t : Inst} (h : L[k]? = some t) : chkT S L k (L.drop k) = if t.bad S k then 2 else if (fnd (L.take k) t.code).isSome then 6 else chkT S L (k + 1) (L.drop (k + 1)) := by
  obtain ⟨hk, rfl⟩ := List.getElem?_eq_some_iff.1 h
  rw [List.drop_eq_getElem_cons hk, chkT]
theorem chkT_end {S : Int} {L : List Inst} {k : Nat} (h : L.length ≤ k) : chkT S L k (L.drop k) = 0 := by
  rw [List.drop_eq_nil_of_le h, chkT]
/-- What a plan that passes is. -/
theorem chk_ok {name : ByteArray} {price P S : Int} {L : List Lvl} (h : chk name price P S L = 0) : 1 ≤ P ∧ P ≤ 32 ∧ 1 ≤ S ∧ S ≤ 256 := by
  unfold chk at h
  split at h
  · omega
  · split at h
    · omega
    · omega

/-- The state of packs: each one's state, terminal and mark; the tickets' marks; what was paid. -/
structure PSt where
  pk : List (Int × Int × Bool)
  scr : List Bool
  paid : Int
  sum : Int
def st0 (P n : Nat) : PSt := ⟨List.replicate P (0, 0, false), List.replicate n false, 0, 0⟩
def tmB (t : Int) : Bool := decide (1 ≤ t) && decide (t ≤ 32)
def PSt.at_ (s : PSt) (p : Int) : Option (Int × Int × Bool) := if p < 1 ∨ (s.pk.length : Int) < p then none else s.pk[(p - 1).toNat]?
def PSt.act (s : PSt) (p t : Int) : Int × PSt :=
  match s.at_ p with
  | none => (2, s)
  | some q => if tmB t = false then (2, s) else if q.1 ≠ 0 then (8, s) else (0, { s with pk := s.pk.set (p - 1).toNat (1, t, q.2.2) })
def PSt.ret (s : PSt) (p t : Int) : Int × PSt :=
  match s.at_ p with
  | none => (2, s)
  | some q => if tmB t = false then (2, s) else if q.1 ≠ 1 then (8, s) else if q.2.1 ≠ t then (2, s) else if q.2.2 = true then (8, s)
    else (0, { s with pk := s.pk.set (p - 1).toNat (2, q.2.1, q.2.2) })
def PSt.scratch (T : List Inst) (s : PSt) (c : ByteArray) (t : Int) : (Int × Int) × PSt :=
  if tmB t = false then ((0, 2), s) else
  match fnd T c with
  | none => ((0, 5), s)
  | some i => match T[i]? with
    | none => ((0, 5), s)
    | some x => match s.at_ x.pack with
      | none => ((0, 5), s)
      | some q => if q.1 ≠ 1 then ((0, 8), s) else if q.2.1 ≠ t then ((0, 2), s) else if s.scr.getD i false = true then ((0, 17), s)
        else ((x.prize, 0), { pk := s.pk.set (x.pack - 1).toNat (q.1, q.2.1, true), scr := s.scr.set i true, paid := if 0 < x.prize then s.paid + 1 else s.paid, sum := if 0 < x.prize then s.sum + x.prize else s.sum })
def PSt.state (s : PSt) (p : Int) : Int := match s.at_ p with
  | none => 0
  | some q => q.1
end Go.Proofs.Ytnmfmoiodckleaa
