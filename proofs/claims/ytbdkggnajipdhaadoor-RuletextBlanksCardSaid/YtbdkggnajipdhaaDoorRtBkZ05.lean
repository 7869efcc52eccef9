/- Texts laid one behind the other: RtQ, Shelf, LexC, ScrQ, ArG, Arr, Byt, PbA, PbB. Each says at its head what it proves. -/
import Derived.Test.YtbdkggnajipdhaaDoorRtBkZ04
import Derived.Shelf.Strings.Builder1
import Derived.Shelf.Strings.Builder2
import Derived.Shelf.Strings.OnBuilder
import Derived.Shelf.Strings.BuilderF
import Derived.Shelf.Strings.BuilderK
import Derived.Shelf.Utf8.RuneCount
import Derived.Shelf.Strings.Builder2Cap
import Derived.Shelf.Strconv.Itoa0
import Derived.Shelf.Strconv.Itoa1
import Derived.Shelf.LaysM
import Derived.Shelf.Strconv.Itoa2
import Derived.Shelf.Strconv.Itoa3
import Derived.Shelf.Strings.Search1
import Derived.Shelf.Strings.Search2
import Derived.Shelf.Strings.Search3
import Derived.Shelf.Strings.Count
import Derived.Shelf.Strings.Shaped
import Derived.Shelf.Strings.LastIndex
import Derived.Shelf.Strings.Split
import Derived.Shelf.Strings.RuneCount
import Derived.Test.YtbdkggnajipdhaaDoorProg
import Derived.Laws.BytesString
import Derived.Lib.AppendIntMem
import Derived.Lib.UnsafeStr
set_option linter.unusedSimpArgs false
/- Plain: chapter 11, what is printed, as a text of items. No program in sight. -/
namespace Go.Proofs.YtbdkggnajipdhaaDoor
def Pr.Ok (p : Pr) : Prop := p.bad = false → p.X.length ≤ 32768
/-- From p to q the text l is written, if c holds and there is room. -/
def Pr.Step (p q : Pr) (c : Bool) (l : List Nat) : Prop := p.Ok → q.Ok ∧ (q.bad = false ↔ (p.bad = false ∧ c = true ∧ (p.X ++ l).length ≤ 32768)) ∧ (q.bad = false → q.X = p.X ++ l)
theorem Pr.Step.trans {p q r : Pr} {c c' : Bool} {l l' : List Nat} (h1 : Pr.Step p q c l) (h2 : Pr.Step q r c' l') : Pr.Step p r (c && c') (l ++ l') := by
  intro hp
  obtain ⟨a1, a2, a3⟩ := h1 hp
  obtain ⟨b1, b2, b3⟩ := h2 a1
  refine ⟨b1, ?_, ?_⟩
  · rw [b2]
    constructor
    · rintro ⟨x1, x2, x3⟩
      obtain ⟨y1, y2, y3⟩ := a2.1 x1
      rw [a3 x1, List.append_assoc] at x3
      exact ⟨y1, by rw [y2, x2]; rfl, x3⟩
    · rintro ⟨x1, x2, x3⟩
      rw [Bool.and_eq_true] at x2
      have hl : (p.X ++ l).length ≤ 32768 := by simp only [List.length_append] at x3 ⊢; omega
      have hq := a2.2 ⟨x1, x2.1, hl⟩
      exact ⟨hq, x2.2, by rw [a3 hq, List.append_assoc]; exact x3⟩
  · intro hr
    rw [b3 hr, a3 (b2.1 hr).1, List.append_assoc]
theorem Pr.Step.id (p : Pr) : Pr.Step p p true [] := fun hp => ⟨hp, ⟨fun h => ⟨h, rfl, by rw [List.append_nil]; exact hp h⟩, fun h => h.1⟩, fun _ => (List.append_nil _).symm⟩
theorem Pr.Step.cast {p q : Pr} {c c' : Bool} {l l' : List Nat} (h : Pr.Step p q c l) (hc : c = c') (hl : l = l') : Pr.Step p q c' l' := by subst hc; subst hl; exact h
theorem Pr.Step.bad {p q : Pr} (l : List Nat) (h : q.bad = true) : Pr.Step p q false l :=
  fun _ => ⟨fun e => (by rw [h] at e; cases e), ⟨fun e => (by rw [h] at e; cases e), fun e => (by cases e.2.1)⟩, fun e => (by rw [h] at e; cases e)⟩
/-- Where p is bad already. -/
theorem Pr.Step.dead {p q : Pr} (c : Bool) (l : List Nat) (hp : p.bad = true) (h : q.bad = true) : Pr.Step p q c l :=
  fun _ => ⟨fun e => (by rw [h] at e; cases e), ⟨fun e => (by rw [h] at e; cases e), fun e => (by rw [hp] at e; cases e.1)⟩, fun e => (by rw [h] at e; cases e)⟩
theorem Pr.Step.req (p : Pr) (c : Bool) : Pr.Step p (p.req c) c [] := by
  intro hp
  unfold Pr.req
  refine ⟨fun e => ?_, ?_, fun e => (List.append_nil _).symm⟩
  · simp only [Bool.or_eq_false_iff] at e; exact hp e.1
  · simp only [Bool.or_eq_false_iff, Bool.not_eq_false']
    exact ⟨fun h => ⟨h.1, h.2, by rw [List.append_nil]; exact hp h.1⟩, fun h => ⟨h.1, h.2.1⟩⟩
theorem Pr.Step.lim (p : Pr) (l : List Nat) : Pr.Step p (p.add l).lim true l := by
  intro hp
  unfold Pr.lim Pr.req Pr.add
  refine ⟨fun e => ?_, ?_, fun _ => rfl⟩
  · simp only [Bool.or_eq_false_iff, Bool.not_eq_false', decide_eq_true_eq] at e; exact e.2
  · simp only [Bool.or_eq_false_iff, Bool.not_eq_false', decide_eq_true_eq, true_and]
theorem Pr.add_add (p : Pr) (s t : List Nat) : (p.add s).add t = p.add (s ++ t) := by unfold Pr.add; rw [List.append_assoc]
theorem Pr.add_nil (p : Pr) : p.add [] = p := by unfold Pr.add; rw [List.append_nil]
theorem Pr.Step.wsA (p : Pr) (s : List Nat) (w : List (List Nat)) : Pr.Step p ((p.add s).ws w) true (s ++ w.flatMap (32 :: ·)) := by
  unfold Pr.ws; rw [Pr.add_add]; exact Pr.Step.lim p _
theorem Pr.Step.ws (p : Pr) (w : List (List Nat)) : Pr.Step p (p.ws w) true (w.flatMap (32 :: ·)) := Pr.Step.lim p _
theorem Pr.Step.beginA (p : Pr) (s w : List Nat) : Pr.Step p ((p.add s).begin w) true (s ++ (32 :: 32 :: w)) := by
  unfold Pr.begin; rw [Pr.add_add]
  exact (Pr.Step.wsA p (s ++ [32]) [w]).cast rfl (by simp)
theorem Pr.Step.begin (p : Pr) (w : List Nat) : Pr.Step p (p.begin w) true (32 :: 32 :: w) := by
  have h := Pr.Step.beginA p [] w
  rw [Pr.add_nil] at h; exact h
theorem Pr.Step.fin (p : Pr) : Pr.Step p p.fin true (asc ";\n") := Pr.Step.lim p _
def numW (L : List Int) : List Nat := L.flatMap fun n => 32 :: fmtI n
theorem Pr.Step.nums : ∀ (L : List Int) (p : Pr), Pr.Step p (p.nums L) (L.all fitB) (numW L)
  | [], p => Pr.Step.id p
  | n :: r, p => by
    unfold Pr.nums
    split
    · rename_i h
      have h' := h
      unfold Pr.req at h'
      simp only [Bool.or_eq_true, Bool.not_eq_true'] at h'
      rcases h' with h' | h'
      · exact Pr.Step.dead _ _ h' h
      · exact (Pr.Step.bad _ h).cast (by rw [List.all_cons, h']; rfl) rfl
    · refine (((Pr.Step.req p (fitB n)).trans (Pr.Step.ws _ [fmtI n])).trans (Pr.Step.nums r _)).cast (by rw [List.all_cons, Bool.and_true]) ?_
      simp [numW]
theorem Pr.Step.nm (p : Pr) (s : ByteArray) : Pr.Step p (p.nm s) (wordL (bs s)) (32 :: bs s) := by
  unfold Pr.nm
  split
  · rename_i h
    have h' := h
    unfold Pr.req at h'
    simp only [Bool.or_eq_true, Bool.not_eq_true'] at h'
    rcases h' with h' | h'
    · exact Pr.Step.dead _ _ h' h
    · exact (Pr.Step.bad _ h).cast h'.symm rfl
  · exact ((Pr.Step.req p _).trans (Pr.Step.ws _ [bs s])).cast (by rw [Bool.and_true]) (by simp)
/-! Items. -/
inductive It where
  | two (w : List Nat) (a b : Int)
  | num (w : List Nat) (n : Int)
  | days (d : Nat) (t : Int)
  | addon (a : Ad)
  | tier (t : Ti)
def kindW (k : Int) : List Nat := if k = 1 then asc "fixed" else if k = 2 then asc "share" else asc "jackpot"
def hitW (w : List Nat) (n : Int) : List (List Nat) := if n = 0 then [] else [w, fmtI n]
def modeW (t : Ti) : List (List Nat) :=
  if t.mode = 0 then hitW (asc "main") t.main ++ hitW (asc "bonus") t.bonus ++ hitW (asc "extra") t.extra
  else if t.mode = 1 then [asc "exact"] else if t.mode = 2 then [asc "box"] else if t.mode = 3 then [asc "front", fmtI t.main] else [asc "back", fmtI t.main]
/-- The words of an item. -/
def It.words : It → List (List Nat)
  | .two w a b => [w, fmtI a, asc "of", fmtI b]
  | .num w n => [w, fmtI n]
  | .days d t => [asc "days"] ++ dayL d ++ [asc "at", fmtI (t / 60), asc ":", fmtI (t % 60)]
  | .addon a => if a.kind = 1 then [asc "addon", bs a.name, asc "factor", fmtI a.price] ++ a.factors.map fmtI else [asc "addon", bs a.name, asc "serial", fmtI a.price, fmtI a.digits] ++ a.serials.map fmtI
  | .tier t => [asc "tier"] ++ modeW t ++ [kindW t.kind, fmtI t.value]
def hitB (n : Int) : Bool := decide (n = 0) || fitB n
def Ad.fine (a : Ad) : Bool := wordL (bs a.name) && (if a.kind = 1 then (decide (a.digits = 0) && decide (a.serials.length = 0)) && fitB a.price && a.factors.all fitB else if a.kind = 2 then decide (a.factors.length = 0) && (fitB a.price && (fitB a.digits && true)) && a.serials.all fitB else false)
def Ti.fineM (t : Ti) : Bool :=
  if t.mode = 0 then hitB t.main && hitB t.bonus && hitB t.extra
  else if t.mode = 1 ∨ t.mode = 2 then decide (t.main = 0) && decide (t.bonus = 0) && decide (t.extra = 0)
  else if t.mode = 3 ∨ t.mode = 4 then (decide (t.bonus = 0) && decide (t.extra = 0)) && fitB t.main else false
def Ti.fine (t : Ti) : Bool := t.fineM && (decide (t.kind = 1) || decide (t.kind = 2) || decide (t.kind = 3)) && fitB t.value
def It.fine : It → Bool
  | .two _ a b => fitB a && fitB b
  | .num _ n => fitB n
  | .days d t => decide (d ≤ 127) && decide (0 ≤ t) && decide (t ≤ 1439)
  | .addon a => a.fine
  | .tier t => t.fine
def lineG (i : It) : List Nat := 32 :: (i.words.flatMap (32 :: ·) ++ asc ";\n")
theorem Pr.Step.two (p : Pr) (s w : List Nat) (a b : Int) : Pr.Step p ((p.add s).two w a b) (It.two w a b).fine (s ++ lineG (.two w a b)) := by
  unfold Pr.two
  refine (((((Pr.Step.beginA p s w).trans (Pr.Step.nums [a] _)).trans (Pr.Step.ws _ [asc "of"])).trans (Pr.Step.nums [b] _)).trans (Pr.Step.fin _)).cast ?_ ?_
  · simp [It.fine]
  · simp [lineG, It.words, numW]
theorem Pr.Step.opt (p : Pr) (w : List Nat) (n std : Int) : Pr.Step p (p.opt w n std) (decide (n = std) || fitB n) (if n = std then [] else lineG (.num w n)) := by
  unfold Pr.opt
  by_cases h : n = std
  · rw [if_pos h, if_pos h]; exact (Pr.Step.id p).cast (by simp [h]) rfl
  · rw [if_neg h, if_neg h]
    refine (((Pr.Step.begin p w).trans (Pr.Step.nums [n] _)).trans (Pr.Step.fin _)).cast ?_ ?_
    · simp [h]
    · simp [lineG, It.words, numW]
theorem Pr.Step.dayw : ∀ (l : List (List Nat)) (p : Pr), Pr.Step p (l.foldl (fun p w => p.ws [w]) p) true (l.flatMap (32 :: ·))
  | [], p => Pr.Step.id p
  | w :: r, p => by
    rw [List.foldl_cons]
    exact ((Pr.Step.ws p [w]).trans (Pr.Step.dayw r _)).cast rfl (by simp)
def daysC (n : Nat → Int) : Bool := (decide (0 ≤ n 9) && decide (n 9 ≤ 127) && decide (0 ≤ n 10) && decide (n 10 ≤ 1439)) && (!decide (n 9 = 0) || decide (n 10 = 0))
theorem Pr.Step.days (p : Pr) (n : Nat → Int) : Pr.Step p (p.days n) (daysC n) (if n 9 = 0 then [] else lineG (.days (n 9).toNat (n 10))) := by
  unfold Pr.days daysC
  by_cases h : n 9 = 0
  · dsimp only
    rw [if_pos h, if_pos h]
    exact ((Pr.Step.req p _).trans (Pr.Step.req _ _)).cast (by simp [h]) rfl
  · dsimp only
    rw [if_neg h, if_neg h]
    split
    · rename_i hb
      have hb' := hb
      unfold Pr.req at hb'
      simp only [Bool.or_eq_true, Bool.not_eq_true'] at hb'
      rcases hb' with hb' | hb'
      · exact Pr.Step.dead _ _ hb' hb
      · exact (Pr.Step.bad _ hb).cast (by rw [hb']; rfl) rfl
    · rename_i hb
      unfold Pr.req at hb
      simp only [Bool.not_eq_true, Bool.or_eq_false_iff, Bool.not_eq_false'] at hb
      have hb2 := hb.2
      simp only [Bool.and_eq_true, decide_eq_true_eq] at hb2
      refine (((((((((Pr.Step.req p _).trans (Pr.Step.begin _ _)).trans (Pr.Step.dayw (dayL (n 9).toNat) _)).trans (Pr.Step.ws _ [asc "at"])).trans (Pr.Step.nums [n 10 / 60] _)).trans (Pr.Step.ws _ [asc ":"])).trans (Pr.Step.nums [n 10 % 60] _)).trans (Pr.Step.fin _))).cast ?_ ?_
      · have f1 : fitB (n 10 / 60) = true := by unfold fitB; simp only [Bool.and_eq_true, decide_eq_true_eq]; omega
        have f2 : fitB (n 10 % 60) = true := by unfold fitB; simp only [Bool.and_eq_true, decide_eq_true_eq]; omega
        simp [f1, f2, h]
      · simp [lineG, It.words, numW]
theorem Pr.Step.addon (p : Pr) (a : Ad) : Pr.Step p (p.addon a) a.fine (lineG (.addon a)) := by
  unfold Pr.addon Ad.fine
  dsimp only
  have h0 := (Pr.Step.begin p (asc "addon")).trans (Pr.Step.nm _ a.name)
  by_cases h1 : a.kind = 1
  · rw [if_pos h1, if_pos h1]
    refine (((((h0.trans (Pr.Step.req _ _)).trans (Pr.Step.ws _ _)).trans (Pr.Step.nums [a.price] _)).trans (Pr.Step.nums a.factors _)).trans (Pr.Step.fin _)).cast ?_ ?_
    · simp [Bool.and_assoc]
    · simp [lineG, It.words, numW, h1, List.flatMap_map]
  · rw [if_neg h1, if_neg h1]
    by_cases h2 : a.kind = 2
    · rw [if_pos h2, if_pos h2]
      refine (((((h0.trans (Pr.Step.req _ _)).trans (Pr.Step.ws _ _)).trans (Pr.Step.nums [a.price, a.digits] _)).trans (Pr.Step.nums a.serials _)).trans (Pr.Step.fin _)).cast ?_ ?_
      · simp [Bool.and_assoc]
      · simp [lineG, It.words, numW, h1, List.flatMap_map]
    · rw [if_neg h2, if_neg h2]
      refine (Pr.Step.bad _ ?_).cast (by simp) rfl
      unfold Pr.fin Pr.lim Pr.req Pr.add; rfl
theorem Pr.Step.hits (p : Pr) (w : List Nat) (n : Int) : Pr.Step p (p.hits w n) (hitB n) ((hitW w n).flatMap (32 :: ·)) := by
  unfold Pr.hits hitB hitW
  by_cases h : n = 0
  · rw [if_pos h, if_pos h]; exact (Pr.Step.id p).cast (by simp [h]) rfl
  · rw [if_neg h, if_neg h]
    exact ((Pr.Step.ws p [w]).trans (Pr.Step.nums [n] _)).cast (by simp [h]) (by simp [numW])
theorem Pr.Step.mode (p : Pr) (t : Ti) : Pr.Step p (p.mode t) t.fineM ((modeW t).flatMap (32 :: ·)) := by
  unfold Pr.mode Ti.fineM modeW
  by_cases h0 : t.mode = 0
  · rw [if_pos h0, if_pos h0, if_pos h0]
    exact (((Pr.Step.hits p _ _).trans (Pr.Step.hits _ _ _)).trans (Pr.Step.hits _ _ _)).cast rfl (by simp)
  rw [if_neg h0, if_neg h0, if_neg h0]
  by_cases h1 : t.mode = 1 ∨ t.mode = 2
  · rw [if_pos h1, if_pos h1]
    refine ((Pr.Step.req p _).trans (Pr.Step.ws _ _)).cast (by rw [Bool.and_true]) ?_
    by_cases e : t.mode = 1
    · rw [if_pos e, if_pos e]; rfl
    · rw [if_neg e, if_neg e, if_pos (h1.resolve_left e)]; rfl
  rw [if_neg h1, if_neg h1, if_neg (fun e => h1 (.inl e)), if_neg (fun e => h1 (.inr e))]
  by_cases h3 : t.mode = 3 ∨ t.mode = 4
  · rw [if_pos h3, if_pos h3]
    refine (((Pr.Step.req p _).trans (Pr.Step.ws _ _)).trans (Pr.Step.nums [t.main] _)).cast (by simp) ?_
    by_cases e : t.mode = 3
    · rw [if_pos e, if_pos e]; simp [numW]
    · rw [if_neg e, if_neg e]; simp [numW]
  · rw [if_neg h3, if_neg h3]
    exact Pr.Step.bad _ rfl
theorem Pr.Step.tier (p : Pr) (t : Ti) : Pr.Step p (p.tier t) t.fine (lineG (.tier t)) := by
  unfold Pr.tier Ti.fine
  dsimp only
  have h0 := (Pr.Step.begin p (asc "tier")).trans (Pr.Step.mode _ t)
  have hk : Pr.Step ((p.begin (asc "tier")).mode t) (if t.kind = 1 then ((p.begin (asc "tier")).mode t).ws [asc "fixed"] else if t.kind = 2 then ((p.begin (asc "tier")).mode t).ws [asc "share"] else if t.kind = 3 then ((p.begin (asc "tier")).mode t).ws [asc "jackpot"] else ⟨((p.begin (asc "tier")).mode t).X, true⟩)
      (decide (t.kind = 1) || decide (t.kind = 2) || decide (t.kind = 3)) (32 :: kindW t.kind) := by
    unfold kindW
    by_cases h1 : t.kind = 1
    · rw [if_pos h1, if_pos h1]; exact (Pr.Step.ws _ _).cast (by simp [h1]) (by simp)
    rw [if_neg h1, if_neg h1]
    by_cases h2 : t.kind = 2
    · rw [if_pos h2, if_pos h2]; exact (Pr.Step.ws _ _).cast (by simp [h2]) (by simp)
    rw [if_neg h2, if_neg h2]
    by_cases h3 : t.kind = 3
    · rw [if_pos h3]; exact (Pr.Step.ws _ _).cast (by simp [h3]) (by simp)
    · rw [if_neg h3]; exact (Pr.Step.bad _ rfl).cast (by simp [h1, h2, h3]) rfl
  refine (((h0.trans hk).trans (Pr.Step.nums [t.value] _)).trans (Pr.Step.fin _)).cast ?_ ?_
  · simp [Bool.and_assoc]
  · simp [lineG, It.words, numW]
theorem Pr.Step.all {α : Type} {f : Pr → α → Pr} {c : α → Bool} {l : α → List Nat} (h : ∀ p a, Pr.Step p (f p a) (c a) (l a)) : ∀ (L : List α) (p : Pr), Pr.Step p (Pr.all f p L) (L.all c) (L.flatMap l)
  | [], p => Pr.Step.id p
  | a :: r, p => by
    unfold Pr.all
    split
    · rename_i hb; exact Pr.Step.dead _ _ hb hb
    · exact (h p a).trans (Pr.Step.all h r _)
/-! The whole. -/
def optI (w : List Nat) (n std : Int) : List It := if n = std then [] else [.num w n]
def headI (n : Nat → Int) : List It := [.two (if n 0 = 1 then asc "choose" else asc "digits") (n 2) (n 3)] ++ (if n 4 ≠ 0 ∨ n 5 ≠ 0 then [.two (asc "bonus") (n 4) (n 5)] else []) ++
  (optI (asc "extra") (n 6) 0 ++ optI (asc "price") (n 1) 0 ++ optI (asc "draws") (n 7) 1 ++ optI (asc "system") (n 8) (n 2))
def daysI (n : Nat → Int) : List It := if n 9 = 0 then [] else [.days (n 9).toNat (n 10)]
def optsI (n : Nat → Int) : List It := optI (asc "close") (n 11) 0 ++ optI (asc "cancel") (n 12) 0 ++ optI (asc "expiry") (n 13) 0 ++ optI (asc "pool") (n 14) 0 ++ optI (asc "reserve") (n 15) 0 ++ optI (asc "round") (n 16) 1 ++ optI (asc "cap") (n 17) 0 ++ optI (asc "rolls") (n 18) 0
theorem Pr.Step.optI (p : Pr) (w : List Nat) (n std : Int) : Pr.Step p (p.opt w n std) ((optI w n std).all It.fine) ((Go.Proofs.YtbdkggnajipdhaaDoor.optI w n std).flatMap lineG) := by
  refine (Pr.Step.opt p w n std).cast ?_ ?_
  · unfold Go.Proofs.YtbdkggnajipdhaaDoor.optI; by_cases h : n = std <;> simp [h, It.fine]
  · unfold Go.Proofs.YtbdkggnajipdhaaDoor.optI; by_cases h : n = std <;> simp [h]
theorem Pr.Step.head (p : Pr) (s : List Nat) (n : Nat → Int) : Pr.Step p ((p.add s).head n) ((decide (n 0 = 1) || decide (n 0 = 2)) && (headI n).all It.fine) (s ++ (headI n).flatMap lineG) := by
  unfold Pr.head
  by_cases h : n 0 = 1 ∨ n 0 = 2
  · rw [if_pos h]
    dsimp only
    have hb : Pr.Step ((p.add s).two (if n 0 = 1 then asc "choose" else asc "digits") (n 2) (n 3)) (if n 4 ≠ 0 ∨ n 5 ≠ 0 then ((p.add s).two (if n 0 = 1 then asc "choose" else asc "digits") (n 2) (n 3)).two (asc "bonus") (n 4) (n 5) else (p.add s).two (if n 0 = 1 then asc "choose" else asc "digits") (n 2) (n 3))
        ((if n 4 ≠ 0 ∨ n 5 ≠ 0 then [It.two (asc "bonus") (n 4) (n 5)] else []).all It.fine) ((if n 4 ≠ 0 ∨ n 5 ≠ 0 then [It.two (asc "bonus") (n 4) (n 5)] else []).flatMap lineG) := by
      by_cases e : n 4 ≠ 0 ∨ n 5 ≠ 0
      · rw [if_pos e, if_pos e]
        have := Pr.Step.two ((p.add s).two (if n 0 = 1 then asc "choose" else asc "digits") (n 2) (n 3)) [] (asc "bonus") (n 4) (n 5)
        rw [Pr.add_nil] at this
        exact this.cast (by simp) (by simp)
      · rw [if_neg e, if_neg e]; exact Pr.Step.id _
    refine ((((((Pr.Step.two p s _ _ _).trans hb).trans (Pr.Step.optI _ _ _ _)).trans (Pr.Step.optI _ _ _ _)).trans (Pr.Step.optI _ _ _ _)).trans (Pr.Step.optI _ _ _ _)).cast ?_ ?_
    · have hd : (decide (n 0 = 1) || decide (n 0 = 2)) = true := by simpa using h
      rw [hd]
      unfold headI
      simp only [List.all_append, List.all_cons, List.all_nil, Bool.and_true, Bool.true_and, Bool.and_assoc]
    · unfold headI
      simp only [List.flatMap_append, List.flatMap_cons, List.flatMap_nil, List.append_nil, List.append_assoc]
  · rw [if_neg h]
    refine (Pr.Step.bad _ rfl).cast ?_ rfl
    have hd : (decide (n 0 = 1) || decide (n 0 = 2)) = false := by simpa using h
    rw [hd]; rfl
theorem Pr.Step.opts (p : Pr) (n : Nat → Int) : Pr.Step p (p.opts n) ((optsI n).all It.fine) ((optsI n).flatMap lineG) := by
  unfold Pr.opts optsI
  refine ((((((((Pr.Step.optI p _ _ _).trans (Pr.Step.optI _ _ _ _)).trans (Pr.Step.optI _ _ _ _)).trans (Pr.Step.optI _ _ _ _)).trans (Pr.Step.optI _ _ _ _)).trans (Pr.Step.optI _ _ _ _)).trans (Pr.Step.optI _ _ _ _)).trans (Pr.Step.optI _ _ _ _)).cast ?_ ?_
  · simp only [List.all_append, Bool.and_assoc]
  · simp only [List.flatMap_append, List.append_assoc]
theorem Pr.Step.daysI (p : Pr) (n : Nat → Int) : Pr.Step p (p.days n) (daysC n) ((Go.Proofs.YtbdkggnajipdhaaDoor.daysI n).flatMap lineG) := by
  refine (Pr.Step.days p n).cast rfl ?_
  unfold Go.Proofs.YtbdkggnajipdhaaDoor.daysI; by_cases h : n 9 = 0 <;> simp [h]
/-- All that a game's cells hold. -/
def gmC (G : Gm) : ByteArray × List Int × List Ad × List Ti := (G.name, (List.range 19).map G.n, G.addons, G.tiers)
end Go.Proofs.YtbdkggnajipdhaaDoor
/- Contracts of Go's library, laid by the kit's tools over this translation (wip/shelf.py keeps those that are used). -/
namespace Go.Proofs
open Go.Shelf
def Tryd.lays169_ren : Go.Shelf.Ren := ⟨fun | 169 => 22 | n => n, fun | 70 => 47 | 9 => 9 | 0 => 0 | 72 => 50 | 37 => 48 | 127 => 81 | 3 => 3 | 5 => 5 | n => n, fun | n => n⟩
theorem Tryd.lays169 : Go.Proofs.Lays.n169 Tryd.prog Tryd.lays169_ren := {
  mixed := by kernel_rfl
  f169 := Tryd.func22.trans (congrArg some (by kernel_rfl))
  t0 := Tryd.underlying0
  a0 := Tryd.isAgg0
  z0 := Tryd.sizeOf0
  v0 := Tryd.zeroValue0
  t3 := Tryd.underlying3
  a3 := Tryd.isAgg3
  z3 := Tryd.sizeOf3
  v3 := Tryd.zeroValue3
  t9 := Tryd.underlying9
  a9 := Tryd.isAgg9
  z9 := Tryd.sizeOf9
  v9 := Tryd.zeroValue9
  t37 := Tryd.underlying48
  a37 := Tryd.isAgg48
  z37 := Tryd.sizeOf48
  v37 := Tryd.zeroValue48
  t70 := Tryd.underlying47
  a70 := Tryd.isAgg47
  z70 := Tryd.sizeOf47
  v70 := Tryd.zeroValue47
  t72 := Tryd.underlying50
  a72 := Tryd.isAgg50
  z72 := Tryd.sizeOf50
  v72 := Tryd.zeroValue50
  t127 := Tryd.underlying81
  a127 := Tryd.isAgg81
  z127 := Tryd.sizeOf81
  v127 := Tryd.zeroValue81 }
theorem Tryd.Builder_Extra_169 : Builder.Extra Tryd.prog Tryd.lays169_ren := {
  sizeBuilder := by kernel_rfl
  liesBuilder := by kernel_rfl
  t5 := Tryd.underlying5
  a5 := Tryd.isAgg5
  z5 := Tryd.sizeOf5
  v5 := Tryd.zeroValue5
  infoByte := by kernel_rfl
  cellsByte := by kernel_rfl
  sizeByte := by kernel_rfl
  neB5 := by decide }
open Go.RowKit in
/-- (*strings.Builder).String: "String returns the accumulated string.": WHATEVER THE BUILDER HOLDS. (LAID: no walk: one application.) -/
theorem Tryd.Builder_String_any (B b : Nat) (l : List UInt8) (w : World) (h : Lib.IsBuilder 50 5 B b (Lib.byteCells l) w) (hBw : B ≤ w.heap.size) :
    Calls Tryd.prog 22 #[.pointer (some ⟨b, 0, none⟩)] w fun e w' => e = .returned (.string ⟨l.toArray⟩) ∧ Below B w w' := Any.Builder_String_any Tryd.lays169 Tryd.Builder_Extra_169 B b l w h hBw
def Tryd.laysM171_ren : Go.Shelf.Ren := ⟨fun | 171 => 75 | 243 => 84 | 246 => 88 | 283 => 90 | 284 => 91 | 285 => 92 | 286 => 93 | 129 => 95 | 317 => 94 | 318 => 96 | 319 => 97 | 320 => 98 | 337 => 99 | 338 => 100 | n => n, fun | 3 => 3 | 9 => 9 | 2 => 2 | 4 => 4 | 171 => 113 | 0 => 0 | 53 => 112 | 37 => 48 | 5 => 5 | 173 => 116 | 212 => 119 | 51 => 106 | 20 => 20 | 213 => 120 | 46 => 104 | 232 => 124 | 233 => 125 | n => n, fun | 17 => 2 | 18 => 3 | 19 => 4 | n => n⟩
theorem Tryd.laysM171 : Go.Proofs.LaysM.n171 Tryd.prog Tryd.laysM171_ren := {
  mixed := by kernel_rfl
  f129 := Tryd.func95.trans (congrArg some (by kernel_rfl))
  f171 := Tryd.func75.trans (congrArg some (by kernel_rfl))
  f243 := Tryd.func84.trans (congrArg some (by kernel_rfl))
  f246 := Tryd.func88.trans (congrArg some (by kernel_rfl))
  f283 := Tryd.func90.trans (congrArg some (by kernel_rfl))
  f284 := Tryd.func91.trans (congrArg some (by kernel_rfl))
  f285 := Tryd.func92.trans (congrArg some (by kernel_rfl))
  f286 := Tryd.func93.trans (congrArg some (by kernel_rfl))
  f317 := Tryd.func94.trans (congrArg some (by kernel_rfl))
  f318 := Tryd.func96.trans (congrArg some (by kernel_rfl))
  f319 := Tryd.func97.trans (congrArg some (by kernel_rfl))
  f320 := Tryd.func98.trans (congrArg some (by kernel_rfl))
  f337 := Tryd.func99.trans (congrArg some (by kernel_rfl))
  f338 := Tryd.func100.trans (congrArg some (by kernel_rfl))
  t0 := Tryd.underlying0
  a0 := Tryd.isAgg0
  z0 := Tryd.sizeOf0
  v0 := Tryd.zeroValue0
  t2 := Tryd.underlying2
  a2 := Tryd.isAgg2
  z2 := Tryd.sizeOf2
  v2 := Tryd.zeroValue2
  t3 := Tryd.underlying3
  a3 := Tryd.isAgg3
  z3 := Tryd.sizeOf3
  v3 := Tryd.zeroValue3
  t4 := Tryd.underlying4
  a4 := Tryd.isAgg4
  z4 := Tryd.sizeOf4
  v4 := Tryd.zeroValue4
  t5 := Tryd.underlying5
  a5 := Tryd.isAgg5
  z5 := Tryd.sizeOf5
  v5 := Tryd.zeroValue5
  t9 := Tryd.underlying9
  a9 := Tryd.isAgg9
  z9 := Tryd.sizeOf9
  v9 := Tryd.zeroValue9
  t20 := Tryd.underlying20
  a20 := Tryd.isAgg20
  z20 := Tryd.sizeOf20
  v20 := Tryd.zeroValue20
  t37 := Tryd.underlying48
  a37 := Tryd.isAgg48
  z37 := Tryd.sizeOf48
  v37 := Tryd.zeroValue48
  t46 := Tryd.underlying104
  a46 := Tryd.isAgg104
  z46 := Tryd.sizeOf104
  v46 := Tryd.zeroValue104
  t51 := Tryd.underlying106
  a51 := Tryd.isAgg106
  z51 := Tryd.sizeOf106
  v51 := Tryd.zeroValue106
  t53 := Tryd.underlying112
  a53 := Tryd.isAgg112
  z53 := Tryd.sizeOf112
  v53 := Tryd.zeroValue112
  t171 := Tryd.underlying113
  a171 := Tryd.isAgg113
  z171 := Tryd.sizeOf113
  v171 := Tryd.zeroValue113
  t173 := Tryd.underlying116
  a173 := Tryd.isAgg116
  z173 := Tryd.sizeOf116
  v173 := Tryd.zeroValue116
  t212 := Tryd.underlying119
  a212 := Tryd.isAgg119
  z212 := Tryd.sizeOf119
  v212 := Tryd.zeroValue119
  t213 := Tryd.underlying120
  a213 := Tryd.isAgg120
  z213 := Tryd.sizeOf120
  t232 := Tryd.underlying124
  a232 := Tryd.isAgg124
  z232 := Tryd.sizeOf124
  v232 := Tryd.zeroValue124
  t233 := Tryd.underlying125
  a233 := Tryd.isAgg125
  z233 := Tryd.sizeOf125
  v233 := Tryd.zeroValue125
  g17 := by kernel_rfl
  g18 := by kernel_rfl
  g19 := by kernel_rfl
  i0 := by kernel_rfl
  i2 := by kernel_rfl
  i3 := by kernel_rfl
  i4 := by kernel_rfl
  i5 := by kernel_rfl
  i9 := by kernel_rfl
  i20 := by kernel_rfl
  i37 := by kernel_rfl
  i46 := by kernel_rfl
  i51 := by kernel_rfl
  i53 := by kernel_rfl
  i171 := by kernel_rfl
  i173 := by kernel_rfl
  i212 := by kernel_rfl
  i232 := by kernel_rfl
  i233 := by kernel_rfl
  m17 := by kernel_rfl
  m18 := by kernel_rfl
  m19 := by kernel_rfl }
open Go.RowKit Go.Sort Go.Lib in
/-- strconv.Itoa: "Itoa is equivalent to FormatInt(int64(i), 10).": i's DECIMAL NUMERAL ('Lib.itoa': a '-' where i is negative, then the digits), FOR EVERY int. The world behind the call: the world before it, new blocks behind the heap (the library's 'var a [24]byte'), draws. (LAID: no walk: one application.) -/
theorem Tryd.strconv_Itoa (n : Int) (h0 : -9223372036854775808 ≤ n) (h1 : n ≤ 9223372036854775807) (w : World) (htab : Lib.TabIs Tryd.prog w "internal/strconv.uint64pow10" .u64 Lib.pow10Tab) :
    Calls Tryd.prog 75 #[.int .i64 n] w fun e w' => e = .returned (.string ⟨(Lib.itoa n).toArray⟩) ∧ ∃ k os, w' = grow (w.drewN k) os := Any.strconv_Itoa Tryd.laysM171 n h0 h1 w htab
def Tryd.lays138_ren : Go.Shelf.Ren := ⟨fun | 138 => 24 | 195 => 40 | 218 => 41 | 143 => 42 | 219 => 65 | 217 => 76 | 225 => 77 | 224 => 78 | 267 => 79 | 266 => 85 | 314 => 86 | n => n, fun | 9 => 9 | 3 => 3 | 4 => 4 | 5 => 5 | 0 => 0 | 46 => 104 | 146 => 107 | 51 => 106 | n => n, fun | 1 => 1 | n => n⟩
theorem Tryd.lays138 : Go.Proofs.Lays.n138 Tryd.prog Tryd.lays138_ren := {
  mixed := by kernel_rfl
  f138 := Tryd.func24.trans (congrArg some (by kernel_rfl))
  f143 := Tryd.func42.trans (congrArg some (by kernel_rfl))
  f195 := Tryd.func40.trans (congrArg some (by kernel_rfl))
  f217 := Tryd.func76.trans (congrArg some (by kernel_rfl))
  f218 := Tryd.func41.trans (congrArg some (by kernel_rfl))
  f219 := Tryd.func65.trans (congrArg some (by kernel_rfl))
  f224 := Tryd.func78.trans (congrArg some (by kernel_rfl))
  f225 := Tryd.func77.trans (congrArg some (by kernel_rfl))
  f266 := Tryd.func85.trans (congrArg some (by kernel_rfl))
  f267 := Tryd.func79.trans (congrArg some (by kernel_rfl))
  f314 := Tryd.func86.trans (congrArg some (by kernel_rfl))
  t0 := Tryd.underlying0
  a0 := Tryd.isAgg0
  z0 := Tryd.sizeOf0
  v0 := Tryd.zeroValue0
  t3 := Tryd.underlying3
  a3 := Tryd.isAgg3
  z3 := Tryd.sizeOf3
  v3 := Tryd.zeroValue3
  t4 := Tryd.underlying4
  a4 := Tryd.isAgg4
  z4 := Tryd.sizeOf4
  v4 := Tryd.zeroValue4
  t5 := Tryd.underlying5
  a5 := Tryd.isAgg5
  z5 := Tryd.sizeOf5
  v5 := Tryd.zeroValue5
  t9 := Tryd.underlying9
  a9 := Tryd.isAgg9
  z9 := Tryd.sizeOf9
  v9 := Tryd.zeroValue9
  t46 := Tryd.underlying104
  a46 := Tryd.isAgg104
  z46 := Tryd.sizeOf104
  v46 := Tryd.zeroValue104
  t51 := Tryd.underlying106
  a51 := Tryd.isAgg106
  z51 := Tryd.sizeOf106
  v51 := Tryd.zeroValue106
  t146 := Tryd.underlying107
  a146 := Tryd.isAgg107
  z146 := Tryd.sizeOf107
  v146 := Tryd.zeroValue107
  g1 := by kernel_rfl }
open Go.RowKit Go.Lib in
/-- strings.Count AT A substr OF ONE BYTE ('hp'): "Count counts the number of non-overlapping instances of substr in s.": IT RETURNS 'Lib.countByte s (that byte)'; the world is as it was. ✋ NO CONTRACT HERE YET at an empty substr (utf8.RuneCountInString) or at a longer one (a loop over strings.Index). (LAID: no walk: one application.) -/
theorem Tryd.strings_Count_one (s : ByteArray) (c : UInt8) (w : World) :
    Calls Tryd.prog 24 #[.string s, .string ⟨#[c]⟩] w fun e w' => e = .returned (.int .i64 (Lib.countByte s.data.toList c)) ∧ w' = w := Any.strings_Count_one Tryd.lays138 s c w
def Tryd.lays149_ren : Go.Shelf.Ren := ⟨fun | 149 => 39 | 222 => 64 | n => n, fun | 9 => 9 | 5 => 5 | 3 => 3 | 4 => 4 | n => n, fun | n => n⟩
theorem Tryd.lays149 : Go.Proofs.Lays.n149 Tryd.prog Tryd.lays149_ren := {
  mixed := by kernel_rfl
  f149 := Tryd.func39.trans (congrArg some (by kernel_rfl))
  f222 := Tryd.func64.trans (congrArg some (by kernel_rfl))
  t3 := Tryd.underlying3
  a3 := Tryd.isAgg3
  z3 := Tryd.sizeOf3
  v3 := Tryd.zeroValue3
  t4 := Tryd.underlying4
  a4 := Tryd.isAgg4
  z4 := Tryd.sizeOf4
  v4 := Tryd.zeroValue4
  t5 := Tryd.underlying5
  a5 := Tryd.isAgg5
  z5 := Tryd.sizeOf5
  v5 := Tryd.zeroValue5
  t9 := Tryd.underlying9
  a9 := Tryd.isAgg9
  z9 := Tryd.sizeOf9
  v9 := Tryd.zeroValue9 }
open Go.RowKit Go.Lib in
/-- strings.LastIndexByte: "LastIndexByte returns the index of the last instance of c in s, or -1 if c is not present in s." (LAID: no walk: one application.) -/
theorem Tryd.strings_LastIndexByte (s : ByteArray) (c : Int) (hs : s.size < 4611686018427387904) (w : World) :
    Calls Tryd.prog 39 #[.string s, .int .u8 c] w fun e w' => e = .returned (.int .i64 (Lib.lastIndexByte s c)) ∧ w' = w := Any.strings_LastIndexByte Tryd.lays149 s c hs w
end Go.Proofs
/- Walks: strings.Builder: copyCheck, WriteByte, WriteString. -/
namespace Go.Proofs.YtbdkggnajipdhaaDoor
open Nat (reduceAdd reduceMul reduceSub reduceEqDiff reduceLT reduceLeDiff)
open Go.RowKit
set_option maxRecDepth 100000
/-- What is neither the builder's block nor a row of bytes stays. -/
def Keeps (b : Nat) (w w' : World) : Prop := ∀ (k : Nat) (o : Obj), k ≠ b → w.heap[k]? = some o → (∀ cs f, o ≠ .cells cs 5 f) → w'.heap[k]? = some o
theorem Keeps.refl (b : Nat) (w : World) : Keeps b w w := fun _ _ _ h _ => h
theorem Keeps.trans {b : Nat} {x y z : World} (h : Keeps b x y) (k : Keeps b y z) : Keeps b x z := fun i o hi ho hn => k i o hi (h i o hi ho hn) hn
theorem Keeps.setCell (b o : Nat) (v : Value) (w : World) : Keeps b w (w.setCell ⟨b, o, none⟩ v) := fun k _ hk ho _ => (Below.heap_setCell w ⟨b, o, none⟩ v k hk).trans ho
theorem Keeps.alloc (b : Nat) (w : World) (ob : Obj) : Keeps b w (w.alloc ob) := fun k _ _ ho _ => ((below_alloc w ob).block k (Array.getElem?_eq_some_iff.1 ho).1).trans ho
theorem Keeps.grown {b B n : Nat} {v : Value} {xs : List Value} {w w' : World} (ho : w.ownsRow B 5 1 v n xs) (hg : w.grownBy w' v.ownBlock) : Keeps b w w' := fun k o _ hk hn => by
  refine (hg.block k (Array.getElem?_eq_some_iff.1 hk).1 (fun e => ?_)).trans hk
  rcases ho.2 with ⟨rfl, _⟩ | ⟨g, cap, cur, rfl, _, hh, _⟩
  · cases e
  · simp only [Value.ownBlock, Option.some.injEq] at e
    subst e
    rw [hk] at hh
    injection hh with hh
    exact hn _ _ hh
theorem copyCheck_any (B b : Nat) (l : List Value) (w : World) (h : Lib.IsBuilder 50 5 B b l w) :
    Calls Tryd.prog 31 #[.pointer (some ⟨b, 0, none⟩)] w fun e w' => e = .returned (.tuple #[]) ∧ Lib.BuilderAt 50 5 B b (.pointer (some ⟨b, 0, none⟩)) l w' ∧ Below B w w' ∧ Keeps b w w' := by
  refine calls_W (l := [_]) Tryd.func31 rfl _ Tryd.ntmps31 (by simp) ?_
  obtain ⟨j, hj, hjs⟩ := Option.map_eq_some_iff.1 (show (Tryd.prog.info? 50).map (·.size) = some 2 by kernel_rfl)
  have ne : ∀ (x y : Operand) (w : World), vBin Tryd.prog .neq 47 x y (.pointer (some ⟨b, 0, none⟩)) (.pointer (some ⟨b, 0, none⟩)) w = .ok (.value (.bool false)) w := fun x y w => by
    simp only [vBin, eqGuard]
    simp [Lib.run_neq_ptr_same w _ Tryd.underlying47 hj]
  rcases h with h | h
  · have c0 := h.cell0
    have z0 := h.frozen0
    have cs : (w.setCell ⟨b, 0, none⟩ (.pointer (some ⟨b, 0, none⟩))).cell? ⟨b, 0, none⟩ = some (.pointer (some ⟨b, 0, none⟩)) := by rw [cS_same, c0]; rfl
    have cv1 : vConvert Tryd.prog 47 90 (.pointer (some ⟨b, 0, none⟩)) w = .ok (.value (.pointer (some ⟨b, 0, none⟩))) w := by
      simp [vConvert, Lib.run_to_unsafe w ⟨b, 0, none⟩ Tryd.underlying47 Tryd.underlying90 hj (by rw [hjs]; decide) h.shape (Nat.zero_lt_succ 1)]
    have cv2 : vConvert Tryd.prog 90 47 (.pointer (some ⟨b, 0, none⟩)) w = .ok (.value (.pointer (some ⟨b, 0, none⟩))) w := by
      simp [vConvert, Lib.run_from_unsafe w ⟨b, 0, none⟩ Tryd.underlying90 Tryd.underlying47 hj h.shape (by kernel_rfl)]
    have cl : vCall Tryd.prog 53 #[.pointer (some ⟨b, 0, none⟩)] w = .ok (.value (.pointer (some ⟨b, 0, none⟩))) w := by
      unfold vCall
      rw [run_callFunc_extern Tryd.func53 (by kernel_rfl) (by kernel_rfl) (by kernel_rfl) (e := Extern.AbiNoEscape.same) (by kernel_rfl), Lib.run_noEscape]
      rfl
    rw [vCall_at] at cl
    simp +contextual (maxSteps := 2000000) (disch := first | omega | (simp only [SZ]; first | done | omega) | (simp only [TS] at *; omega)) only [RZ, ovw, oneC, reduceAdd, reduceMul, reduceSub, reduceEqDiff, reduceLT, ↓reduceIte, Int.reduceToNat, reduceLeDiff,  c0]
    refine W_if_t rfl ?_
    simp +contextual (maxSteps := 2000000) (disch := first | omega | (simp only [SZ]; first | done | omega) | (simp only [TS] at *; omega)) only [RZ, ovw, oneC, reduceAdd, reduceMul, reduceSub, reduceEqDiff, reduceLT, ↓reduceIte, Int.reduceToNat, reduceLeDiff,  c0, z0, cv1, cv2, cl, cs, ne]
    exact ⟨h.used _, (Below.refl B w).setCell (p := ⟨b, 0, none⟩) h.1 _, Keeps.setCell _ _ _ _⟩
  · have c0 := h.cell0
    simp +contextual (maxSteps := 2000000) (disch := first | omega | (simp only [SZ]; first | done | omega) | (simp only [TS] at *; omega)) only [RZ, ovw, oneC, reduceAdd, reduceMul, reduceSub, reduceEqDiff, reduceLT, ↓reduceIte, Int.reduceToNat, reduceLeDiff,  c0]
    refine W_if_f rfl ?_
    simp +contextual (maxSteps := 2000000) (disch := first | omega | (simp only [SZ]; first | done | omega) | (simp only [TS] at *; omega)) only [RZ, ovw, oneC, reduceAdd, reduceMul, reduceSub, reduceEqDiff, reduceLT, ↓reduceIte, Int.reduceToNat, reduceLeDiff,  c0, ne]
    refine W_if_f rfl ?_
    simp +contextual (maxSteps := 2000000) (disch := first | omega | (simp only [SZ]; first | done | omega) | (simp only [TS] at *; omega)) only [RZ, ovw, oneC, reduceAdd, reduceMul, reduceSub, reduceEqDiff, reduceLT, ↓reduceIte, Int.reduceToNat, reduceLeDiff]
    exact ⟨h, Below.refl B _, Keeps.refl _ _⟩
theorem writeString_any (B b : Nat) (l : List Value) (s : ByteArray) (w : World) (h : Lib.IsBuilder 50 5 B b l w) (hlen : l.length + s.size ≤ 1000000000) (hBw : B ≤ w.heap.size) :
    Calls Tryd.prog 13 #[.pointer (some ⟨b, 0, none⟩), .string s] w fun e w' => e = .returned (.tuple #[.int .i64 s.size, .nilIface]) ∧ Lib.IsBuilder 50 5 B b (l ++ Lib.strCells s) w' ∧ Below B w w' ∧ Keeps b w w' := by
  refine calls_W (l := [_, _]) Tryd.func13 rfl _ Tryd.ntmps13 (by simp) ?_
  simp +contextual (maxSteps := 2000000) (disch := first | omega | (simp only [SZ]; first | done | omega) | (simp only [TS] at *; omega)) only [RZ, ovw, oneC, reduceAdd, reduceMul, reduceSub, reduceEqDiff, reduceLT, ↓reduceIte, Int.reduceToNat, reduceLeDiff]
  refine (copyCheck_any B b l w h).mono ?_
  rintro e w1 ⟨rfl, ⟨hB, v, hbk, hown, hne⟩, hb1, hkp⟩
  refine ⟨_, rfl, ?_⟩
  obtain ⟨i0, hi, hz0, hz1, hz2⟩ := info_parts (show (Tryd.prog.info? 5).map (fun i => (i.zero, i.size, i.bytes)) = some (some (.int .u8 0), 1, 1) by kernel_rfl)
  obtain ⟨A, n, cp, rfl, rfl⟩ : ∃ A n cp, v = .slice A n cp ∧ n = l.length := by
    rcases hown.2 with ⟨hv, h0⟩ | ⟨g, cap, cur, hv, _⟩
    · exact ⟨none, 0, 0, hv, h0.symm⟩
    · exact ⟨_, _, _, hv, rfl⟩
  have c1 : w1.cell? ⟨b, 1, none⟩ = some (.slice A l.length cp) := by rw [Lib.cell_of_heap hbk]; rfl
  have hsz := hb1.size
  obtain ⟨v', w2, he0, hown2, hg2, _⟩ := Lib.run_append_own_string (P := Tryd.prog) (w := w1) B 48 9 48 5 i0 Tryd.underlying48 Tryd.underlying9 hi hz0 hz1 hz2 (.slice A l.length cp) l.length l hown s (by unfold maxLen; omega) (by omega) (by omega)
  have he : vAppend Tryd.prog 48 9 48 (.slice A l.length cp) (.string s) w1 = .ok (.value v') w2 := by simp [vAppend, he0]
  obtain ⟨A', n', c', rfl⟩ : ∃ A n cp, v' = .slice A n cp := by
    rcases hown2.2 with ⟨hv, _⟩ | ⟨g, cap, cur, hv, _⟩
    · exact ⟨_, _, _, hv⟩
    · exact ⟨_, _, _, hv⟩
  have hlt : b < w1.heap.size := by
    rcases Nat.lt_or_ge b w1.heap.size with h' | h'
    · exact h'
    · simp [Array.getElem?_eq_none h'] at hbk
  have hb2 : w2.heap[b]? = some (.cells #[.pointer (some ⟨b, 0, none⟩), .slice A l.length cp] 50 (0, 0)) := by
    rw [hg2.block b hlt (fun e => hne e.symm)]
    exact hbk
  have d1 : w2.cell? ⟨b, 1, none⟩ = some (.slice A l.length cp) := by rw [Lib.cell_of_heap hb2]; rfl
  have f1 : w2.frozen? ⟨b, 1, none⟩ = false := Lib.frozen_of_heap hb2 1
  simp +contextual (maxSteps := 2000000) (disch := first | omega | (simp only [SZ]; first | done | omega) | (simp only [TS] at *; omega)) only [RZ, ovw, oneC, reduceAdd, reduceMul, reduceSub, reduceEqDiff, reduceLT, ↓reduceIte, Int.reduceToNat, reduceLeDiff,  c1, he, d1, f1]
  exact ⟨.inr (Lib.BuilderAt.put (T := 50) (e := 5) hB hb2 (bs' := l ++ Lib.strCells s) (by simpa [Lib.strCells_length] using hown2) (by decide)),
    (hb1.grown hg2 (by omega) (fun k hk => (hown.lt k hk).1)).setCell (p := ⟨b, 1, none⟩) hB _,
    (hkp.trans (Keeps.grown hown hg2)).trans (Keeps.setCell _ _ _ _)⟩
theorem isB_below {B b : Nat} {l : List Value} {w w' : World} (h : Lib.IsBuilder 50 5 B b l w) (hb : Below w.heap.size w w') : Lib.IsBuilder 50 5 B b l w' := by
  have key : ∀ p, Lib.BuilderAt 50 5 B b p l w → Lib.BuilderAt 50 5 B b p l w' := by
    rintro p ⟨hB, v, hbk, hown, hne⟩
    have hlt : b < w.heap.size := (Array.getElem?_eq_some_iff.1 hbk).1
    exact ⟨hB, v, (hb.block b hlt).trans hbk, owns_below hown hb, hne⟩
  exact h.elim (fun h => .inl (key _ h)) (fun h => .inr (key _ h))
end Go.Proofs.YtbdkggnajipdhaaDoor
/- Plain: numbers, digits of sixteen and quoted texts are read as they were written. No program in sight. -/
namespace Go.Proofs.YtbdkggnajipdhaaDoor
theorem bs_toBA {l : List Nat} (h : ∀ c ∈ l, c < 256) : bs (toBA l) = l := by
  unfold bs toBA
  simp only [List.map_map]
  conv => rhs; rw [← List.map_id l]
  refine List.map_congr_left fun c hc => ?_
  have := h c hc
  simp only [Function.comp, id]
  simp only [UInt8.toNat_ofNat']
  omega
/-! Digits of sixteen. -/
/-! Texts in quotes. -/
end Go.Proofs.YtbdkggnajipdhaaDoor
/- The engine's rules for arrays. -/
namespace Go.Proofs.YtbdkggnajipdhaaDoor
open Go.RowKit
set_option maxRecDepth 100000
theorem vLoad_arr {P : Program} {T e : TypeId} {n N b o : Nat} {w : World} {l : List Value} (hd : P.underlying T = some (.array n e)) (hs : (P.info? T).map (·.size) = some N) (h : ldN w b o N = some l) :
    vLoad P T (.pointer (some ⟨b, o, none⟩)) w = .ok (.value (.agg l.toArray)) w := by
  obtain ⟨inf, hq, hz⟩ := Option.map_eq_some_iff.1 hs
  have hagg : (isAgg T).run P w = .ok true w := by
    unfold isAgg
    rw [Sem.run_bind, run_underlying hd w]
    simp
  have hl := run_loadCells_ldN P w b N o 0 l #[] h
  simp [vLoad, Instr.loadAt, Instr.sureAddr, loadVar, Sem.run_bind, hagg, sizeOf, typeInfo, hq, hz, loadCells, hl]
theorem ldN_of {w : World} {b : Nat} : ∀ (l : List Value) (o : Nat), (∀ i v, l[i]? = some v → w.cell? ⟨b, o + i, none⟩ = some v) → ldN w b o l.length = some l
  | [], o, _ => rfl
  | v :: l, o, h => by
    have h0 := h 0 v rfl
    rw [Nat.add_zero] at h0
    rw [List.length_cons, ldN, h0, ldN_of l (o + 1) fun i u hu => by rw [show o + 1 + i = o + (i + 1) by omega]; exact h (i + 1) u hu]
end Go.Proofs.YtbdkggnajipdhaaDoor
/- What the listed variables hold. -/
namespace Go.Proofs.YtbdkggnajipdhaaDoor
open Go.RowKit
set_option maxRecDepth 100000
def dayC : List Value := dayW.map fun d => .string (toBA d)
theorem vIndex_arrS {P : Program} {T e : TypeId} {n : Nat} {w : World} {cs : Array Value} {k : IntKind} {i : Nat} {v : Value} (hd : P.underlying T = some (.array n e)) (he : P.underlying e = some .string) (hs : (P.info? e).map (·.size) = some 1) (hi : i < n) (hv : cs[i]? = some v) :
    vIndex P T (.agg cs) (.int k i) w = .ok (.value v) w := by
  obtain ⟨inf, hq, hz⟩ := Option.map_eq_some_iff.1 hs
  have hagg : (isAgg e).run P w = .ok false w := by
    unfold isAgg
    rw [Sem.run_bind, run_underlying he w]
    simp
  have h2 : (0 : Int) ≤ i ∧ (i : Int) < n := by omega
  simp [vIndex, Instr.index, asIntOf, Sem.run_bind, run_underlying hd, h2, sizeOf, typeInfo, hq, hz, part, hagg, hv]
  omega
theorem day_index {d : List Nat} {i : Nat} (h : dayW[i]? = some d) (w : World) : vIndex Tryd.prog 79 (.agg dayC.toArray) (.int .i64 i) w = .ok (.value (.string (toBA d))) w := by
  have hi : i < 7 := by have := (List.getElem?_eq_some_iff.1 h).1; exact this
  refine vIndex_arrS Tryd.underlying79 Tryd.underlying9 (by kernel_rfl) hi ?_
  rw [List.getElem?_toArray]
  unfold dayC
  rw [List.getElem?_map, h]
  rfl
/-- What the listed variables hold. -/
structure Laid (w : World) : Prop where
  size : 5 ≤ w.heap.size
  day : ∀ i v, dayC[i]? = some v → w.cell? ⟨0, i, none⟩ = some v
  pow : Lib.TabIs Tryd.prog w "internal/strconv.uint64pow10" .u64 Lib.pow10Tab
theorem Laid.below {B : Nat} {w w' : World} (h : Laid w) (hb : Below B w w') (hB : 5 ≤ B) : Laid w' :=
  ⟨Nat.le_trans h.size hb.size, fun i v hv => (hb.cell (p := ⟨0, i, none⟩) (by show 0 < B; omega)).trans (h.day i v hv), by
    have hg : Tryd.prog.globalNamed "internal/strconv.uint64pow10" = some 2 := by kernel_rfl
    have h2 := h.pow
    unfold Lib.TabIs World.var? at h2 ⊢
    rw [hg] at h2 ⊢
    simp only [Option.bind_some] at h2 ⊢
    rw [hb.block 2 (by omega)]
    exact h2⟩
theorem Laid.kept {X : List Nat} {w w' : World} (h : Laid w) (k : Kept X w w') (hX : ∀ x ∈ X, 5 ≤ x) : Laid w' := by
  have hs := h.size
  refine h.below (B := min 5 w.heap.size) ⟨k.os, k.tape, k.output, k.size, fun i hi => k.block i (by omega) (fun hx => by have := hX i hx; omega)⟩ (by omega)
theorem Laid.load {w : World} (h : Laid w) : vLoad Tryd.prog 79 (.pointer (some ⟨0, 0, none⟩)) w = .ok (.value (.agg dayC.toArray)) w :=
  vLoad_arr Tryd.underlying79 (by kernel_rfl) (ldN_of (b := 0) dayC 0 (fun i v hv => by rw [Nat.zero_add]; exact h.day i v hv))
end Go.Proofs.YtbdkggnajipdhaaDoor
/- Bytes in memory: rows that grow, and the strings that they become. -/
namespace Go.Proofs.YtbdkggnajipdhaaDoor
open Go.RowKit
set_option maxRecDepth 100000
/-- Bytes that lie in memory become a string. -/
theorem bytes_str {w : World} {a : Addr} {cap : Nat} (ns : List Nat) (hn : ∀ n ∈ ns, n < 256) (h : ∀ j v, (ns.map fun (n : Nat) => Value.int .u8 (n : Int))[j]? = some v → w.cell? (a.add j) = some v) :
    ∃ s : ByteArray, bs s = ns ∧ vConvert Tryd.prog 48 9 (.slice (some a) ns.length cap) w = .ok (.value (.string s)) w := by
  have hl := run_loadCells_list (P := Tryd.prog) (w := w) a (ns.map fun (n : Nat) => Value.int .u8 (n : Int)) h
  rw [List.length_map] at hl
  have hr := run_bytesToString (P := Tryd.prog) w a ns.length cap (ns.map fun (n : Nat) => (n : Int)) (by rw [List.map_map]; exact hl)
  refine ⟨_, ?_, by simp only [vConvert, Sem.run_bind, run_convert_bytes_string w _ _ _ _ _ _ Tryd.underlying48 Tryd.underlying5 Tryd.underlying9, hr, Result.andThen, Sem.run_pure]; rfl⟩
  have key : ∀ (ns : List Nat) (s : ByteArray), (∀ n ∈ ns, n < 256) → bs ((ns.map fun (n : Nat) => (n : Int)).foldl (fun r n => r.push (UInt8.ofNat n.toNat)) s) = bs s ++ ns := by
    intro ns
    induction ns with
    | nil => intro s _; simp
    | cons n r ih =>
      intro s hs
      rw [List.map_cons, List.foldl_cons, ih _ fun m hm => hs m (by simp [hm])]
      have hn := hs n (by simp)
      have e : bs (s.push (UInt8.ofNat (n : Int).toNat)) = bs s ++ [n] := by
        unfold bs
        rw [ByteArray.data_push, Array.toList_push, List.map_append]
        simp [Nat.mod_eq_of_lt hn]
      rw [e, List.append_assoc]
      rfl
  rw [key ns _ hn, bs_empty, List.nil_append]
def byV (X : List Nat) : List Value := X.map fun (n : Nat) => Value.int .u8 (n : Int)
/-- A row of bytes that is nobody else's. -/
def BytIn (base : Nat) (w : World) (v : Value) (X : List Nat) : Prop := ∃ g c, v = .slice (some ⟨g, 0, none⟩) X.length c ∧ w.ownsRow base 5 1 v X.length (byV X) ∧ (∀ n ∈ X, n < 256) ∧ X.length ≤ 100000000
theorem BytIn.push {base : Nat} {w : World} {v : Value} {X : List Nat} (h : BytIn base w v X) (hb : base ≤ w.heap.size) (n : Nat) (hn : n < 256) (hl : X.length + 1 ≤ 100000000) :
    ∃ v' w2, vAppend Tryd.prog 48 48 48 v (.slice (some ⟨w.heap.size, 0, none⟩) 1 1) (w.alloc (.cells #[.int .u8 (n : Int)] 5)) = .ok (.value v') w2 ∧ BytIn base w2 v' (X ++ [n]) ∧ Below base w w2 ∧ w.heap.size ≤ w2.heap.size := by
  obtain ⟨g, c, rfl, ho, hx, _⟩ := h
  have hI : sliceI Tryd.prog 48 = some (5, 1, 1) := by kernel_rfl
  obtain ⟨A2, c2, w2, he, hown2, hb2, hs2⟩ := push1 (P := Tryd.prog) (T := 48) (ty := 48) (news := [.int .u8 (n : Int)]) ho hb hI rfl (fun u hu => by simp at hu; subst hu; rfl) (by omega) (by omega)
  obtain ⟨g2, rfl, _⟩ := owns_row hown2 (by omega)
  refine ⟨_, w2, he, ⟨g2, c2, by simp, ?_, fun m hm => ?_, by simp; omega⟩, hb2, hs2⟩
  · have : (X ++ [n]).length = X.length + 1 := by simp
    rw [this]
    unfold byV at *
    rw [List.map_append]
    exact hown2
  · rcases List.mem_append.1 hm with h | h
    · exact hx m h
    · simp at h; omega
theorem BytIn.str {base : Nat} {w : World} {v : Value} {X : List Nat} (h : BytIn base w v X) : ∃ s : ByteArray, bs s = X ∧ vConvert Tryd.prog 48 9 v w = .ok (.value (.string s)) w := by
  obtain ⟨g, c, rfl, ho, hx, _⟩ := h
  refine bytes_str X hx fun j u hu => ?_
  have hj : 0 < X.length := by
    have := (List.getElem?_eq_some_iff.1 hu).1
    rw [List.length_map] at this
    omega
  obtain ⟨g2, e, _, ⟨cur, hg, r, hr⟩, _⟩ := owns_row ho hj
  injection e with e
  injection e with e
  subst e
  rw [addr_add, Nat.zero_add, Lib.cell_of_heap hg]
  have hlt := (List.getElem?_eq_some_iff.1 hu).1
  rw [← Array.getElem?_toList, hr, List.getElem?_append_left (by unfold byV; exact hlt)]
  exact hu
end Go.Proofs.YtbdkggnajipdhaaDoor
/- Walks: strings.Builder at the beginning of a printer: copyCheck, WriteByte, WriteString, Len, String. -/
namespace Go.Proofs.YtbdkggnajipdhaaDoor
open Nat (reduceAdd reduceMul reduceSub reduceEqDiff reduceLT reduceLeDiff)
open Go.RowKit
set_option maxRecDepth 100000
theorem strCells_bs (s : ByteArray) : Lib.strCells s = byV (bs s) := by
  unfold Lib.strCells byV bs
  rw [List.map_map]
  rfl
theorem byV_len (X : List Nat) : (byV X).length = X.length := List.length_map ..
theorem byV_app (X Y : List Nat) : byV (X ++ Y) = byV X ++ byV Y := List.map_append
/-- The printer at block g: what is written so far, whether it is bad. -/
structure PbI (g : Nat) (w : World) (q A : Option Addr) (c : Nat) (p : Pr) : Prop where
  blk : w.heap[g]? = some (.cells #[.pointer q, .slice A p.X.length c, .bool p.bad] 52 (0, 0))
  q0 : q = none ∨ q = some ⟨g, 0, none⟩
  own : w.ownsRow (g + 1) 5 1 (.slice A p.X.length c) p.X.length (byV p.X)
  small : ∀ n ∈ p.X, n < 256
def PbIn (g : Nat) (w : World) (p : Pr) : Prop := ∃ q A c, PbI g w q A c p
/-- A printer's step turns its own block and rows of bytes. -/
def KB (g : Nat) (w w' : World) : Prop := Below g w w' ∧ Keeps g w w'
theorem KB.refl (g : Nat) (w : World) : KB g w w := ⟨Below.refl _ _, Keeps.refl _ _⟩
theorem KB.trans {g : Nat} {a b c : World} (h : KB g a b) (k : KB g b c) : KB g a c := ⟨h.1.trans k.1, h.2.trans k.2⟩
theorem KB.alloc {g : Nat} {a w : World} (h : KB g a w) (hg : g ≤ w.heap.size) (o : Obj) : KB g a (w.alloc o) := ⟨h.1.trans ((below_alloc w o).mono hg), h.2.trans (Keeps.alloc _ _ _)⟩
theorem KB.below {g : Nat} {a w w' : World} (h : KB g a w) (hg : g ≤ w.heap.size) (k : Below w.heap.size w w') : KB g a w' := ⟨h.1.trans (k.mono hg), h.2.trans fun i o _ ho _ => (k.block i (Array.getElem?_eq_some_iff.1 ho).1).trans ho⟩
theorem Row.kb {g b : Nat} {w w' : World} {T : TypeId} {cs : List Value} (h : Row w b T cs) (k : KB g w w') (hb : b ≠ g) (hT : T ≠ 5) : Row w' b T cs := by
  obtain ⟨cur, hc, r, hr⟩ := h
  exact ⟨cur, k.2 b _ hb hc (fun cs f e => by injection e with _ e; exact hT e), r, hr⟩
theorem PbI.row {g : Nat} {w : World} {q A : Option Addr} {c : Nat} {p : Pr} (h : PbI g w q A c p) : Row w g 52 [.pointer q, .slice A p.X.length c, .bool p.bad] := ⟨_, h.blk, [], by simp⟩
theorem PbIn.lt {g : Nat} {w : World} {p : Pr} (h : PbIn g w p) : g < w.heap.size := by obtain ⟨q, A, c, h⟩ := h; exact h.row.lt
theorem PbI.below {g : Nat} {w w' : World} {q A : Option Addr} {c : Nat} {p : Pr} (h : PbI g w q A c p) (k : Below w.heap.size w w') : PbI g w' q A c p :=
  ⟨(k.block g h.row.lt).trans h.blk, h.q0, owns_below h.own k, h.small⟩
theorem PbIn.below {g : Nat} {w w' : World} {p : Pr} (h : PbIn g w p) (k : Below w.heap.size w w') : PbIn g w' p := by obtain ⟨q, A, c, h⟩ := h; exact ⟨q, A, c, h.below k⟩
theorem PbIn.alloc {g : Nat} {w : World} {p : Pr} (h : PbIn g w p) (o : Obj) : PbIn g (w.alloc o) p := h.below (below_alloc w o)
theorem PbI.ne {g : Nat} {w : World} {q A : Option Addr} {c : Nat} {p : Pr} (h : PbI g w q A c p) : (Value.slice A p.X.length c).ownBlock ≠ some g := fun hb => by
  have := (owns_ge h.own hb).1
  omega
/-- The addressee of the builder is laid. -/
theorem PbI.used {g : Nat} {w : World} {q A : Option Addr} {c : Nat} {p : Pr} (h : PbI g w q A c p) : PbI g (w.setCell ⟨g, 0, none⟩ (.pointer (some ⟨g, 0, none⟩))) (some ⟨g, 0, none⟩) A c p :=
  ⟨by simp [World.setCell, Array.getElem?_modify, h.blk], .inr rfl, owns_keep h.own fun b hb => Below.heap_setCell _ _ _ _ (fun e => h.ne (by rw [hb]; exact congrArg some e)), h.small⟩
theorem bad_set {g : Nat} {w : World} {q A : Option Addr} {c : Nat} {p : Pr} (h : PbI g w q A c p) (b : Bool) : PbI g (w.setCell ⟨g, 2, none⟩ (.bool b)) q A c ⟨p.X, b⟩ :=
  ⟨by simp [World.setCell, Array.getElem?_modify, h.blk], h.q0, owns_keep h.own fun k hk => Below.heap_setCell _ _ _ _ (fun e => h.ne (by rw [hk]; exact congrArg some e)), h.small⟩
theorem pbCheck_any {g : Nat} {w : World} {q A : Option Addr} {c : Nat} {p : Pr} (h : PbI g w q A c p) : Calls Tryd.prog 31 #[.pointer (some ⟨g, 0, none⟩)] w fun e w' => e = .returned (.tuple #[]) ∧ PbI g w' (some ⟨g, 0, none⟩) A c p ∧ KB g w w' := by
  refine calls_W (l := [_]) Tryd.func31 rfl _ Tryd.ntmps31 (by simp) ?_
  obtain ⟨j, hj, hjs⟩ := Option.map_eq_some_iff.1 (show (Tryd.prog.info? 50).map (·.size) = some 2 by kernel_rfl)
  have ne : ∀ (x y : Operand) (w : World), vBin Tryd.prog .neq 47 x y (.pointer (some ⟨g, 0, none⟩)) (.pointer (some ⟨g, 0, none⟩)) w = .ok (.value (.bool false)) w := fun x y w => by
    simp only [vBin, eqGuard]
    simp [Lib.run_neq_ptr_same w _ Tryd.underlying47 hj]
  have hsh : w.shape? g = some (52, 3) := by simp [World.shape?, h.blk]
  rcases h.q0 with rfl | rfl
  · have c0 := h.row.cell (i := 0) rfl
    have z0 := h.row.frozen 0
    have cs : (w.setCell ⟨g, 0, none⟩ (.pointer (some ⟨g, 0, none⟩))).cell? ⟨g, 0, none⟩ = some (.pointer (some ⟨g, 0, none⟩)) := by rw [cS_same, c0]; rfl
    have cv1 : vConvert Tryd.prog 47 90 (.pointer (some ⟨g, 0, none⟩)) w = .ok (.value (.pointer (some ⟨g, 0, none⟩))) w := by
      simp [vConvert, Lib.run_to_unsafe w ⟨g, 0, none⟩ Tryd.underlying47 Tryd.underlying90 hj (by rw [hjs]; decide) hsh (Nat.zero_lt_succ 2)]
    have cv2 : vConvert Tryd.prog 90 47 (.pointer (some ⟨g, 0, none⟩)) w = .ok (.value (.pointer (some ⟨g, 0, none⟩))) w := by
      simp [vConvert, Lib.run_from_unsafe w ⟨g, 0, none⟩ Tryd.underlying90 Tryd.underlying47 hj hsh (by kernel_rfl)]
    have cl : vCall Tryd.prog 53 #[.pointer (some ⟨g, 0, none⟩)] w = .ok (.value (.pointer (some ⟨g, 0, none⟩))) w := by
      unfold vCall
      rw [run_callFunc_extern Tryd.func53 (by kernel_rfl) (by kernel_rfl) (by kernel_rfl) (e := Extern.AbiNoEscape.same) (by kernel_rfl), Lib.run_noEscape]
      rfl
    rw [vCall_at] at cl
    simp +contextual (maxSteps := 2000000) (disch := first | omega | (simp only [SZ]; first | done | omega) | (simp only [TS] at *; omega)) only [RZ, ovw, oneC, reduceAdd, reduceMul, reduceSub, reduceEqDiff, reduceLT, ↓reduceIte, Int.reduceToNat, reduceLeDiff,  c0]
    refine W_if_t rfl ?_
    simp +contextual (maxSteps := 2000000) (disch := first | omega | (simp only [SZ]; first | done | omega) | (simp only [TS] at *; omega)) only [RZ, ovw, oneC, reduceAdd, reduceMul, reduceSub, reduceEqDiff, reduceLT, ↓reduceIte, Int.reduceToNat, reduceLeDiff,  c0, z0, cv1, cv2, cl, cs, ne]
    exact ⟨h.used, (Below.refl _ w).setCell (p := ⟨g, 0, none⟩) (Nat.le_refl _) _, Keeps.setCell _ _ _ _⟩
  · have c0 := h.row.cell (i := 0) rfl
    simp +contextual (maxSteps := 2000000) (disch := first | omega | (simp only [SZ]; first | done | omega) | (simp only [TS] at *; omega)) only [RZ, ovw, oneC, reduceAdd, reduceMul, reduceSub, reduceEqDiff, reduceLT, ↓reduceIte, Int.reduceToNat, reduceLeDiff,  c0]
    refine W_if_f rfl ?_
    simp +contextual (maxSteps := 2000000) (disch := first | omega | (simp only [SZ]; first | done | omega) | (simp only [TS] at *; omega)) only [RZ, ovw, oneC, reduceAdd, reduceMul, reduceSub, reduceEqDiff, reduceLT, ↓reduceIte, Int.reduceToNat, reduceLeDiff,  c0, ne]
    refine W_if_f rfl ?_
    simp +contextual (maxSteps := 2000000) (disch := first | omega | (simp only [SZ]; first | done | omega) | (simp only [TS] at *; omega)) only [RZ, ovw, oneC, reduceAdd, reduceMul, reduceSub, reduceEqDiff, reduceLT, ↓reduceIte, Int.reduceToNat, reduceLeDiff]
    exact ⟨h, KB.refl _ _⟩
theorem pbByte_any {g : Nat} {w : World} {p : Pr} (h : PbIn g w p) (n : Nat) (hn : n < 256) (hl : p.X.length + 1 ≤ 1000000000) :
    Calls Tryd.prog 54 #[.pointer (some ⟨g, 0, none⟩), .int .u8 n] w fun e w' => e = .returned .nilIface ∧ PbIn g w' (p.add [n]) ∧ KB g w w' := by
  refine calls_W (l := [_, _]) Tryd.func54 rfl _ Tryd.ntmps54 (by simp) ?_
  obtain ⟨q, A, c, h⟩ := h
  simp +contextual (maxSteps := 2000000) (disch := first | omega | (simp only [SZ]; first | done | omega) | (simp only [TS] at *; omega)) only [RZ, ovw, oneC, reduceAdd, reduceMul, reduceSub, reduceEqDiff, reduceLT, ↓reduceIte, Int.reduceToNat, reduceLeDiff]
  refine (pbCheck_any h).mono ?_
  rintro e w1 ⟨rfl, h1, k1⟩
  refine ⟨_, rfl, ?_⟩
  have hI : sliceI Tryd.prog 48 = some (5, 1, 1) := by kernel_rfl
  have c1 := h1.row.cell (i := 1) rfl
  have hlt := h1.row.lt
  have hsz := k1.1.size
  obtain ⟨A', c', w2, he, hown2, hg2, _⟩ := vAppend_own (P := Tryd.prog) (T := 48) (ty := 48) (m := 1) (c := 1) (b := w1.heap.size) (o := 0) (news := [.int .u8 n]) hI (h1.own.alloc (.cells #[.int .u8 n] 5)) rfl
    (fun j u hu => by rw [Nat.zero_add, (new_block w1 #[.int .u8 n] 5).1 j]; simpa using hu) (fun u hu => by simp at hu; subst hu; rfl) (by omega) (by omega) (by rw [World.size_alloc]; omega)
  have hb2 : w2.heap[g]? = some (.cells #[.pointer (some ⟨g, 0, none⟩), .slice A p.X.length c, .bool p.bad] 52 (0, 0)) := by
    rw [hg2.block g (by simp; omega) (fun e => h1.ne e.symm), Lib.alloc_old w1 _ g hlt]
    exact h1.blk
  have d1 : w2.cell? ⟨g, 1, none⟩ = some (.slice A p.X.length c) := by rw [Lib.cell_of_heap hb2]; rfl
  have f1 : w2.frozen? ⟨g, 1, none⟩ = false := Lib.frozen_of_heap hb2 1
  simp +contextual (maxSteps := 2000000) (disch := first | omega | (simp only [SZ]; first | done | omega) | (simp only [TS] at *; omega)) only [RZ, ovw, oneC, reduceAdd, reduceMul, reduceSub, reduceEqDiff, reduceLT, ↓reduceIte, Int.reduceToNat, reduceLeDiff,  c1, he, d1, f1]
  refine ⟨⟨some ⟨g, 0, none⟩, A', c', ?_, .inr rfl, ?_, ?_⟩, (k1.1.alloc (by omega) _).grown hg2 (by simp; omega) (fun k hk => by have := (h1.own.lt k hk).1; omega) |>.setCell (p := ⟨g, 1, none⟩) (Nat.le_refl _) _,
    ((k1.2.trans (Keeps.alloc _ _ _)).trans (Keeps.grown (h1.own.alloc _) hg2)).trans (Keeps.setCell _ _ _ _)⟩
  · simp [World.setCell, Array.getElem?_modify, hb2, Pr.add]
  · have : (byV (p.X ++ [n])) = byV p.X ++ [.int .u8 n] := byV_app _ _
    have h3 := owns_keep (w' := w2.setCell ⟨g, 1, none⟩ (.slice A' (p.X.length + 1) c')) hown2 fun b hb => Below.heap_setCell _ _ _ _ (by
      have := (owns_ge hown2 hb).1
      show b ≠ g
      omega)
    unfold Pr.add
    rw [this, List.length_append]
    exact h3
  · intro m hm
    rcases List.mem_append.1 hm with hm | hm
    · exact h.small m hm
    · simp at hm; omega
theorem pbStr_any {g : Nat} {w : World} {p : Pr} (h : PbIn g w p) (s : ByteArray) (hl : p.X.length + s.size ≤ 1000000000) :
    Calls Tryd.prog 13 #[.pointer (some ⟨g, 0, none⟩), .string s] w fun e w' => e = .returned (.tuple #[.int .i64 s.size, .nilIface]) ∧ PbIn g w' (p.add (bs s)) ∧ KB g w w' := by
  refine calls_W (l := [_, _]) Tryd.func13 rfl _ Tryd.ntmps13 (by simp) ?_
  obtain ⟨q, A, c, h⟩ := h
  simp +contextual (maxSteps := 2000000) (disch := first | omega | (simp only [SZ]; first | done | omega) | (simp only [TS] at *; omega)) only [RZ, ovw, oneC, reduceAdd, reduceMul, reduceSub, reduceEqDiff, reduceLT, ↓reduceIte, Int.reduceToNat, reduceLeDiff]
  refine (pbCheck_any h).mono ?_
  rintro e w1 ⟨rfl, h1, k1⟩
  refine ⟨_, rfl, ?_⟩
  obtain ⟨i0, hi, hz0, hz1, hz2⟩ := info_parts (show (Tryd.prog.info? 5).map (fun i => (i.zero, i.size, i.bytes)) = some (some (.int .u8 0), 1, 1) by kernel_rfl)
  have c1 := h1.row.cell (i := 1) rfl
  have hlt := h1.row.lt
  have hsz := k1.1.size
  obtain ⟨v', w2, he0, hown2, hg2, _⟩ := Lib.run_append_own_string (P := Tryd.prog) (w := w1) (g + 1) 48 9 48 5 i0 Tryd.underlying48 Tryd.underlying9 hi hz0 hz1 hz2 (.slice A p.X.length c) p.X.length (byV p.X) h1.own s (by unfold maxLen; omega) (by omega) (by omega)
  have he : vAppend Tryd.prog 48 9 48 (.slice A p.X.length c) (.string s) w1 = .ok (.value v') w2 := by simp [vAppend, he0]
  obtain ⟨A', n', c', rfl, hn'⟩ : ∃ A n c, v' = .slice A n c ∧ n = p.X.length + s.size := by
    rcases hown2.2 with ⟨hv, h0⟩ | ⟨g, cap, cur, hv, _⟩
    · exact ⟨none, 0, 0, hv, h0.symm⟩
    · exact ⟨_, _, _, hv, rfl⟩
  subst hn'
  have hb2 : w2.heap[g]? = some (.cells #[.pointer (some ⟨g, 0, none⟩), .slice A p.X.length c, .bool p.bad] 52 (0, 0)) := by
    rw [hg2.block g hlt (fun e => h1.ne e.symm)]
    exact h1.blk
  have d1 : w2.cell? ⟨g, 1, none⟩ = some (.slice A p.X.length c) := by rw [Lib.cell_of_heap hb2]; rfl
  have f1 : w2.frozen? ⟨g, 1, none⟩ = false := Lib.frozen_of_heap hb2 1
  simp +contextual (maxSteps := 2000000) (disch := first | omega | (simp only [SZ]; first | done | omega) | (simp only [TS] at *; omega)) only [RZ, ovw, oneC, reduceAdd, reduceMul, reduceSub, reduceEqDiff, reduceLT, ↓reduceIte, Int.reduceToNat, reduceLeDiff,  c1, he, d1, f1]
  refine ⟨⟨some ⟨g, 0, none⟩, A', c', ?_, .inr rfl, ?_, ?_⟩, (k1.1.grown hg2 (by omega) (fun k hk => by have := (h1.own.lt k hk).1; omega)).setCell (p := ⟨g, 1, none⟩) (Nat.le_refl _) _,
    (k1.2.trans (Keeps.grown h1.own hg2)).trans (Keeps.setCell _ _ _ _)⟩
  · simp [World.setCell, Array.getElem?_modify, hb2, Pr.add, bs_len]
  · have h3 := owns_keep (w' := w2.setCell ⟨g, 1, none⟩ (.slice A' (p.X.length + s.size) c')) hown2 fun b hb => Below.heap_setCell _ _ _ _ (by
      have := (owns_ge hown2 hb).1
      show b ≠ g
      omega)
    unfold Pr.add
    rw [List.length_append, bs_len, byV_app, ← strCells_bs]
    exact h3
  · intro m hm
    rcases List.mem_append.1 hm with hm | hm
    · exact h.small m hm
    · exact bs_lt s m hm
theorem pbLen_any {g : Nat} {w : World} {p : Pr} (h : PbIn g w p) : Calls Tryd.prog 21 #[.pointer (some ⟨g, 0, none⟩)] w fun e w' => e = .returned (.int .i64 p.X.length) ∧ w = w' := by
  refine calls_W (l := [_]) Tryd.func21 rfl _ Tryd.ntmps21 (by simp) ?_
  obtain ⟨q, A, c, h⟩ := h
  have c1 := h.row.cell (i := 1) rfl
  simp +contextual (maxSteps := 2000000) (disch := first | omega | (simp only [SZ]; first | done | omega) | (simp only [TS] at *; omega)) only [RZ, ovw, oneC, reduceAdd, reduceMul, reduceSub, reduceEqDiff, reduceLT, ↓reduceIte, Int.reduceToNat, reduceLeDiff,  c1]
end Go.Proofs.YtbdkggnajipdhaaDoor
/- Walks: the printer's methods: require, write, begin, end, numbers, name, option, hits; num.Format. -/
namespace Go.Proofs.YtbdkggnajipdhaaDoor
open Nat (reduceAdd reduceMul reduceSub reduceEqDiff reduceLT reduceLeDiff)
open Go.RowKit
set_option maxRecDepth 100000
def nR (n : Int) : Prop := -9223372036854775808 ≤ n ∧ n ≤ 9223372036854775807
def fmtB (n : Int) : ByteArray := ⟨(Lib.itoa n).toArray⟩
theorem bs_fmtB (n : Int) : bs (fmtB n) = fmtI n := rfl
theorem format_any (n : Int) (w : World) (hL : Laid w) (hn : nR n) : Calls Tryd.prog 55 #[.int .i64 n] w fun e w' => e = .returned (.string (fmtB n)) ∧ Below w.heap.size w w' := by
  refine calls_W (l := [_]) Tryd.func55 rfl _ Tryd.ntmps55 (by simp) ?_
  simp +contextual (maxSteps := 2000000) (disch := first | omega | (simp only [SZ]; first | done | omega) | (simp only [TS] at *; omega)) only [RZ, ovw, oneC, reduceAdd, reduceMul, reduceSub, reduceEqDiff, reduceLT, ↓reduceIte, Int.reduceToNat, reduceLeDiff]
  refine (Tryd.strconv_Itoa n hn.1 hn.2 w hL.pow).mono ?_
  rintro e w1 ⟨rfl, k, os, rfl⟩
  refine ⟨_, rfl, ?_⟩
  simp +contextual (maxSteps := 2000000) (disch := first | omega | (simp only [SZ]; first | done | omega) | (simp only [TS] at *; omega)) only [RZ, ovw, oneC, reduceAdd, reduceMul, reduceSub, reduceEqDiff, reduceLT, ↓reduceIte, Int.reduceToNat, reduceLeDiff]
  exact ⟨rfl, Lib.below_grow _ w (Nat.le_refl _) k os⟩
theorem Laid.kb {g : Nat} {w w' : World} (h : Laid w) (k : KB g w w') (hg : 5 ≤ g) : Laid w' := h.below k.1 (by omega)
section
variable {g : Nat} {w : World} {p : Pr}
/-- How texts grow. -/
theorem add_len (p : Pr) (l : List Nat) : (p.add l).X.length = p.X.length + l.length := by unfold Pr.add; rw [List.length_append]
theorem ws_len (p : Pr) (l : List (List Nat)) : (p.ws l).X.length = p.X.length + (l.flatMap (32 :: ·)).length := add_len p _
theorem fit_len {n : Int} (h : fitB n = true) : (fmtI n).length ≤ 18 := by
  rw [fmt_dec h]; exact dec_len (fit_nat h).2
theorem pbRequire_any (h : PbIn g w p) (b : Bool) : Calls Tryd.prog 20 #[.pointer (some ⟨g, 0, none⟩), .bool b] w fun e w' => e = .returned (.tuple #[]) ∧ PbIn g w' (p.req b) ∧ KB g w w' := by
  refine calls_W (l := [_, _]) Tryd.func20 rfl _ Tryd.ntmps20 (by simp) ?_
  obtain ⟨q, A, c, h⟩ := h
  cases b with
  | true =>
    refine W_piece fun K hK hX => ?_
    simp +contextual (maxSteps := 2000000) (disch := first | omega | (simp only [SZ]; first | done | omega) | (simp only [TS] at *; omega)) only [RZ, ovw, oneC, reduceAdd, reduceMul, reduceSub, reduceEqDiff, reduceLT, ↓reduceIte, Int.reduceToNat, reduceLeDiff]
    refine hK _ _ ?_
    clear hK hX K
    refine W_if_f rfl ?_
    simp +contextual (maxSteps := 2000000) (disch := first | omega | (simp only [SZ]; first | done | omega) | (simp only [TS] at *; omega)) only [RZ, ovw, oneC, reduceAdd, reduceMul, reduceSub, reduceEqDiff, reduceLT, ↓reduceIte, Int.reduceToNat, reduceLeDiff]
    refine ⟨⟨q, A, c, ?_⟩, KB.refl _ _⟩
    have : p.req true = p := by unfold Pr.req; rw [Bool.not_true, Bool.or_false]
    rw [this]; exact h
  | false =>
    refine W_piece fun K hK hX => ?_
    simp +contextual (maxSteps := 2000000) (disch := first | omega | (simp only [SZ]; first | done | omega) | (simp only [TS] at *; omega)) only [RZ, ovw, oneC, reduceAdd, reduceMul, reduceSub, reduceEqDiff, reduceLT, ↓reduceIte, Int.reduceToNat, reduceLeDiff]
    refine hK _ _ ?_
    clear hK hX K
    refine W_if_t rfl ?_
    have c2 := h.row.cell (i := 2) rfl
    have z2 := h.row.frozen 2
    simp +contextual (maxSteps := 2000000) (disch := first | omega | (simp only [SZ]; first | done | omega) | (simp only [TS] at *; omega)) only [RZ, ovw, oneC, reduceAdd, reduceMul, reduceSub, reduceEqDiff, reduceLT, ↓reduceIte, Int.reduceToNat, reduceLeDiff,  c2, z2]
    refine ⟨⟨q, A, c, ?_⟩, (Below.refl _ w).setCell (p := ⟨g, 2, none⟩) (Nat.le_refl _) _, Keeps.setCell _ _ _ _⟩
    have : p.req false = ⟨p.X, true⟩ := by unfold Pr.req; rw [Bool.not_false, Bool.or_true]
    rw [this]; exact bad_set h true
theorem pbWrite_any {L : List ByteArray} {A : Option Addr} {c : Nat} (h : PbIn g w p) (hA : ∀ w', KB g w w' → Arr w' A 1 (L.map fun s => [Value.string s])) (hl : L.length ≤ 1000) (hlen : (p.ws (L.map bs)).X.length ≤ 900000000) :
    Calls Tryd.prog 33 #[.pointer (some ⟨g, 0, none⟩), .slice A L.length c] w fun e w' => e = .returned (.tuple #[]) ∧ PbIn g w' (p.ws (L.map bs)) ∧ KB g w w' := by
  refine calls_W (l := [_, _]) Tryd.func33 rfl _ Tryd.ntmps33 (by simp) ?_
  rw [ws_len] at hlen
  refine W_cutS (fun σ w1 => σ 0 = .pointer (some ⟨g, 0, none⟩) ∧ PbIn g w1 (p.add ((L.map bs).flatMap (32 :: ·))) ∧ KB g w w1) ?_ ?_
  · rintro σ w1 ⟨f0, h1, k1⟩
    simp +contextual (maxSteps := 2000000) (disch := first | omega | (simp only [SZ]; first | done | omega) | (simp only [TS] at *; omega)) only [RZ, ovw, oneC, reduceAdd, reduceMul, reduceSub, reduceEqDiff, reduceLT, ↓reduceIte, Int.reduceToNat, reduceLeDiff,  f0]
    refine (pbLen_any h1).mono ?_
    rintro e w2 ⟨rfl, rfl⟩
    refine ⟨_, rfl, ?_⟩
    have hln : (p.add ((L.map bs).flatMap (32 :: ·))).X.length = p.X.length + ((L.map bs).flatMap (32 :: ·)).length := add_len _ _
    have hd : (((p.add ((L.map bs).flatMap (32 :: ·))).X.length : Int) ≤ 32768) = ((p.add ((L.map bs).flatMap (32 :: ·))).X.length ≤ 32768) := by
      apply propext; omega
    simp +contextual (maxSteps := 2000000) (disch := first | omega | (simp only [SZ]; first | done | omega) | (simp only [TS] at *; omega)) only [RZ, ovw, oneC, reduceAdd, reduceMul, reduceSub, reduceEqDiff, reduceLT, ↓reduceIte, Int.reduceToNat, reduceLeDiff,  f0]
    rw [show decide (((p.add ((L.map bs).flatMap (32 :: ·))).X.length : Int) ≤ 32768) = decide ((p.add ((L.map bs).flatMap (32 :: ·))).X.length ≤ 32768) by simp only [hd]]
    refine (pbRequire_any h1 _).mono ?_
    rintro e w2 ⟨rfl, h2, k2⟩
    refine ⟨_, rfl, ?_⟩
    simp +contextual (maxSteps := 2000000) (disch := first | omega | (simp only [SZ]; first | done | omega) | (simp only [TS] at *; omega)) only [RZ, ovw, oneC, reduceAdd, reduceMul, reduceSub, reduceEqDiff, reduceLT, ↓reduceIte, Int.reduceToNat, reduceLeDiff]
    exact ⟨h2, k1.trans k2⟩
  · refine W_piece fun K hK hX => ?_
    simp +contextual (maxSteps := 2000000) (disch := first | omega | (simp only [SZ]; first | done | omega) | (simp only [TS] at *; omega)) only [RZ, ovw, oneC, reduceAdd, reduceMul, reduceSub, reduceEqDiff, reduceLT, ↓reduceIte, Int.reduceToNat, reduceLeDiff]
    refine hK _ _ ?_
    clear hK hX K
    rw [W_block, W_loop]
    refine Raw_loop (fun σ w1 => ∃ k : Nat, k ≤ L.length ∧ PbIn g w1 (p.add (((L.take k).map bs).flatMap (32 :: ·))) ∧ KB g w w1 ∧ σ 0 = .pointer (some ⟨g, 0, none⟩) ∧ σ 6 = .slice A L.length c ∧ σ 7 = .int .i64 L.length ∧ σ 8 = .int .i64 k) (fun σ _ => L.length - (intOf (σ 8)).toNat) ?_ ?_
    · exact ⟨0, Nat.zero_le _, by rw [List.take_zero, List.map_nil, List.flatMap_nil, Pr.add_nil]; exact h, KB.refl _ _, rfl, rfl, rfl, rfl⟩
    rintro σ w1 ⟨k, hk, h1, k1, f0, f6, f7, f8⟩ K hK
    simp +contextual (maxSteps := 2000000) (disch := first | omega | (simp only [SZ]; first | done | omega) | (simp only [TS] at *; omega)) only [RZ, ovw, oneC, reduceAdd, reduceMul, reduceSub, reduceEqDiff, reduceLT, ↓reduceIte, Int.reduceToNat, reduceLeDiff,  f0, f6, f7, f8]
    (refine W_if rfl (fun hc => ?_) (fun hc => ?_) <;> (try simp only [TS] at hc))
    · obtain ⟨s, hsk⟩ : ∃ s, L[k]? = some s := ⟨_, List.getElem?_eq_getElem (by omega)⟩
      obtain ⟨b, o, rfl, hb, hcell⟩ := (hA w1 k1).at_ (enc := fun s => [Value.string s]) hsk
      have l0 := hcell 0 _ rfl
      rw [Nat.add_zero, Nat.mul_one] at l0
      have hmem : s ∈ L := List.mem_of_getElem? hsk
      have htk : ((L.take (k + 1)).map bs).flatMap (32 :: ·) = ((L.take k).map bs).flatMap (32 :: ·) ++ 32 :: bs s := by
        rw [List.take_add_one, hsk]
        simp
      have hle : (((L.take (k + 1)).map bs).flatMap (32 :: ·)).length ≤ ((L.map bs).flatMap (32 :: ·)).length := by
        conv => rhs; rw [← List.take_append_drop (k + 1) L, List.map_append, List.flatMap_append, List.length_append]
        omega
      rw [htk, List.length_append, List.length_cons, bs_len] at hle
      have hl1 := add_len p (((L.take k).map bs).flatMap (32 :: ·))
      simp +contextual (maxSteps := 2000000) (disch := first | omega | (simp only [SZ]; first | done | omega) | (simp only [TS] at *; omega)) only [RZ, ovw, oneC, reduceAdd, reduceMul, reduceSub, reduceEqDiff, reduceLT, ↓reduceIte, Int.reduceToNat, reduceLeDiff,  f0, f6, f7, f8, l0]
      refine (pbByte_any h1 32 (by omega) (by omega)).mono ?_
      rintro e w2 ⟨rfl, h2, k2⟩
      refine ⟨_, rfl, ?_⟩
      rw [Pr.add_add] at h2
      have hl2 := add_len p (((L.take k).map bs).flatMap (32 :: ·) ++ [32])
      rw [List.length_append, List.length_singleton] at hl2
      try simp +contextual (maxSteps := 2000000) (disch := first | omega | (simp only [SZ]; first | done | omega) | (simp only [TS] at *; omega)) only [RZ, ovw, oneC, reduceAdd, reduceMul, reduceSub, reduceEqDiff, reduceLT, ↓reduceIte, Int.reduceToNat, reduceLeDiff,  f0, f6, f7, f8]
      refine (pbStr_any h2 s (by omega)).mono ?_
      rintro e w3 ⟨rfl, h3, k3⟩
      refine ⟨_, rfl, ?_⟩
      rw [Pr.add_add, List.append_assoc, List.singleton_append, ← htk] at h3
      try simp +contextual (maxSteps := 2000000) (disch := first | omega | (simp only [SZ]; first | done | omega) | (simp only [TS] at *; omega)) only [RZ, ovw, oneC, reduceAdd, reduceMul, reduceSub, reduceEqDiff, reduceLT, ↓reduceIte, Int.reduceToNat, reduceLeDiff,  f0, f6, f7, f8]
      refine hK _ _ ⟨k + 1, by omega, h3, (k1.trans k2).trans k3, ?_⟩ ?_
      · simp +contextual (maxSteps := 2000000) (disch := first | omega | (simp only [SZ]; first | done | omega) | (simp only [TS] at *; omega)) only [RZ, ovw, oneC, reduceAdd, reduceMul, reduceSub, reduceEqDiff, reduceLT, ↓reduceIte, Int.reduceToNat, reduceLeDiff,  f0, f6, f7, f8]
      · simp +contextual (maxSteps := 2000000) (disch := first | omega | (simp only [SZ]; first | done | omega) | (simp only [TS] at *; omega)) only [RZ, ovw, oneC, reduceAdd, reduceMul, reduceSub, reduceEqDiff, reduceLT, ↓reduceIte, Int.reduceToNat, reduceLeDiff,  intOf, f8]
        omega
    · have hkl : k = L.length := by omega
      subst hkl
      rw [List.take_length] at h1
      simp +contextual (maxSteps := 2000000) (disch := first | omega | (simp only [SZ]; first | done | omega) | (simp only [TS] at *; omega)) only [RZ, ovw, oneC, reduceAdd, reduceMul, reduceSub, reduceEqDiff, reduceLT, ↓reduceIte, Int.reduceToNat, reduceLeDiff,  f0, f6, f7, f8]
      exact ⟨h1, k1⟩
/-- One new cell row is kept by the printer's steps. -/
theorem arr_new {Ty : TypeId} {Ls : List (List Value)} {b : Nat} (hR : Row w b Ty Ls.flatten) (hb : b ≠ g) (hT : Ty ≠ 5) (hl : ∀ v ∈ Ls, v.length = 1) : ∀ w', KB g w w' → Arr w' (some ⟨b, 0, none⟩) 1 Ls := fun w' k => by
  have h := hR.kb k hb hT
  intro hn
  refine ⟨b, 0, rfl, h.lt, fun i l hi j v hv => h.cell ?_⟩
  have key : ∀ (Vs : List (List Value)) (i : Nat), (∀ v ∈ Vs, v.length = 1) → Vs[i]? = some l → Vs.flatten[0 + i * 1 + j]? = some v := by
    intro Vs
    induction Vs with
    | nil => intro i _ h; simp at h
    | cons x r ih =>
      intro i hl hi
      rw [List.flatten_cons]
      have hx := hl x (by simp)
      cases i with
      | zero =>
        simp only [List.getElem?_cons_zero, Option.some.injEq] at hi
        subst hi
        have hj := (List.getElem?_eq_some_iff.1 hv).1
        rw [List.getElem?_append_left (by omega), show 0 + 0 * 1 + j = j by omega]
        exact hv
      | succ i =>
        rw [List.getElem?_cons_succ] at hi
        have := ih i (fun v hv => hl v (by simp [hv])) hi
        rw [List.getElem?_append_right (by omega), hx, show 0 + (i + 1) * 1 + j - 1 = 0 + i * 1 + j by omega]
        exact this
  exact key Ls i hl hi
/-- Words of a literal list. -/
theorem pbWords_any (h : PbIn g w p) (L : List ByteArray) (hl : L.length ≤ 1000) (hlen : (p.ws (L.map bs)).X.length ≤ 900000000) :
    Calls Tryd.prog 33 #[.pointer (some ⟨g, 0, none⟩), .slice (some ⟨w.heap.size, 0, none⟩) L.length L.length] (w.alloc (.cells (L.map Value.string).toArray 9)) fun e w' => e = .returned (.tuple #[]) ∧ PbIn g w' (p.ws (L.map bs)) ∧ KB g w w' := by
  have hlt := h.lt
  have hR := Row.new w 9 (L.map Value.string)
  have e1 : ∀ L : List ByteArray, (L.map fun s => [Value.string s]).flatten = L.map Value.string := fun L => by
    induction L with
    | nil => rfl
    | cons s r ih => rw [List.map_cons, List.flatten_cons, ih]; rfl
  rw [← e1 L] at hR
  rw [e1 L] at hR
  refine (pbWrite_any (L := L) (h.alloc _) (arr_new (by rw [e1 L]; exact hR) (by omega) (by decide) (fun v hv => by obtain ⟨s, _, rfl⟩ := List.mem_map.1 hv; rfl)) hl hlen).mono ?_
  rintro e w' ⟨h1, h2, h3⟩
  exact ⟨h1, h2, ((KB.refl g w).alloc (by omega) _).trans h3⟩
theorem pbBegin_any (h : PbIn g w p) (s : ByteArray) (hlen : p.X.length + s.size ≤ 800000000) : Calls Tryd.prog 34 #[.pointer (some ⟨g, 0, none⟩), .string s] w fun e w' => e = .returned (.tuple #[]) ∧ PbIn g w' (p.begin (bs s)) ∧ KB g w w' := by
  refine calls_W (l := [_, _]) Tryd.func34 rfl _ Tryd.ntmps34 (by simp) ?_
  refine W_piece fun K hK hX => ?_
  simp +contextual (maxSteps := 2000000) (disch := first | omega | (simp only [SZ]; first | done | omega) | (simp only [TS] at *; omega)) only [RZ, ovw, oneC, reduceAdd, reduceMul, reduceSub, reduceEqDiff, reduceLT, ↓reduceIte, Int.reduceToNat, reduceLeDiff]
  refine (pbByte_any h 32 (by omega) (by omega)).mono ?_
  rintro e w1 ⟨rfl, h1, k1⟩
  refine ⟨_, rfl, ?_⟩
  try simp +contextual (maxSteps := 2000000) (disch := first | omega | (simp only [SZ]; first | done | omega) | (simp only [TS] at *; omega)) only [RZ, ovw, oneC, reduceAdd, reduceMul, reduceSub, reduceEqDiff, reduceLT, ↓reduceIte, Int.reduceToNat, reduceLeDiff]
  refine hK _ _ ?_
  clear hK hX K
  simp +contextual (maxSteps := 2000000) (disch := first | omega | (simp only [SZ]; first | done | omega) | (simp only [TS] at *; omega)) only [RZ, ovw, oneC, reduceAdd, reduceMul, reduceSub, reduceEqDiff, reduceLT, ↓reduceIte, Int.reduceToNat, reduceLeDiff]
  have hl1 := ws_len (p.add [32]) ([s].map bs)
  rw [add_len] at hl1
  simp only [List.map_cons, List.map_nil, List.flatMap_cons, List.flatMap_nil, List.append_nil, List.length_cons, List.length_nil, bs_len] at hl1
  refine (pbWords_any h1 [s] (by simp) (by simp only [List.map_cons, List.map_nil]; omega)).mono ?_
  rintro e w2 ⟨rfl, h2, k2⟩
  refine ⟨_, rfl, ?_⟩
  simp +contextual (maxSteps := 2000000) (disch := first | omega | (simp only [SZ]; first | done | omega) | (simp only [TS] at *; omega)) only [RZ, ovw, oneC, reduceAdd, reduceMul, reduceSub, reduceEqDiff, reduceLT, ↓reduceIte, Int.reduceToNat, reduceLeDiff]
  exact ⟨h2, k1.trans k2⟩
theorem pbEnd_any (h : PbIn g w p) (hlen : p.X.length ≤ 800000000) : Calls Tryd.prog 36 #[.pointer (some ⟨g, 0, none⟩)] w fun e w' => e = .returned (.tuple #[]) ∧ PbIn g w' p.fin ∧ KB g w w' := by
  refine calls_W (l := [_]) Tryd.func36 rfl _ Tryd.ntmps36 (by simp) ?_
  refine W_piece fun K hK hX => ?_
  simp +contextual (maxSteps := 2000000) (disch := first | omega | (simp only [SZ]; first | done | omega) | (simp only [TS] at *; omega)) only [RZ, ovw, oneC, reduceAdd, reduceMul, reduceSub, reduceEqDiff, reduceLT, ↓reduceIte, Int.reduceToNat, reduceLeDiff]
  refine (pbStr_any h ⟨#[59, 10]⟩ (by rw [ba_lit]; simp; omega)).mono ?_
  rintro e w1 ⟨rfl, h1, k1⟩
  refine ⟨_, rfl, ?_⟩
  rw [show bs ⟨#[59, 10]⟩ = asc ";\n" by decide +kernel] at h1
  try simp +contextual (maxSteps := 2000000) (disch := first | omega | (simp only [SZ]; first | done | omega) | (simp only [TS] at *; omega)) only [RZ, ovw, oneC, reduceAdd, reduceMul, reduceSub, reduceEqDiff, reduceLT, ↓reduceIte, Int.reduceToNat, reduceLeDiff]
  refine hK _ _ ?_
  clear hK hX K
  simp +contextual (maxSteps := 2000000) (disch := first | omega | (simp only [SZ]; first | done | omega) | (simp only [TS] at *; omega)) only [RZ, ovw, oneC, reduceAdd, reduceMul, reduceSub, reduceEqDiff, reduceLT, ↓reduceIte, Int.reduceToNat, reduceLeDiff]
  refine (pbLen_any h1).mono ?_
  rintro e w2 ⟨rfl, rfl⟩
  refine ⟨_, rfl, ?_⟩
  have hd : (((p.add (asc ";\n")).X.length : Int) ≤ 32768) = ((p.add (asc ";\n")).X.length ≤ 32768) := by
    apply propext; omega
  try simp +contextual (maxSteps := 2000000) (disch := first | omega | (simp only [SZ]; first | done | omega) | (simp only [TS] at *; omega)) only [RZ, ovw, oneC, reduceAdd, reduceMul, reduceSub, reduceEqDiff, reduceLT, ↓reduceIte, Int.reduceToNat, reduceLeDiff]
  rw [show decide (((p.add (asc ";\n")).X.length : Int) ≤ 32768) = decide ((p.add (asc ";\n")).X.length ≤ 32768) by simp only [hd]]
  refine (pbRequire_any h1 _).mono ?_
  rintro e w3 ⟨rfl, h2, k2⟩
  refine ⟨_, rfl, ?_⟩
  simp +contextual (maxSteps := 2000000) (disch := first | omega | (simp only [SZ]; first | done | omega) | (simp only [TS] at *; omega)) only [RZ, ovw, oneC, reduceAdd, reduceMul, reduceSub, reduceEqDiff, reduceLT, ↓reduceIte, Int.reduceToNat, reduceLeDiff]
  exact ⟨h2, k1.trans k2⟩
theorem nums_cons (p : Pr) (n : Int) (r : List Int) : p.nums (n :: r) = if (p.req (fitB n)).bad then p.req (fitB n) else ((p.req (fitB n)).ws [fmtI n]).nums r := rfl
theorem ws_ok {p : Pr} {l : List (List Nat)} (h : (p.ws l).bad = false) : (p.ws l).X.length ≤ 32768 := by
  unfold Pr.ws Pr.lim Pr.req at h
  simp only [Bool.or_eq_false_iff, Bool.not_eq_false', decide_eq_true_eq] at h
  exact h.2
theorem nums_max : ∀ (L : List Int) (p : Pr), (p.nums L).X.length ≤ max p.X.length 32768 + 19
  | [], p => by show p.X.length ≤ _; omega
  | n :: r, p => by
    unfold Pr.nums
    split
    · show p.X.length ≤ _; omega
    · rename_i hb
      have hb' := hb
      unfold Pr.req at hb'
      simp only [Bool.not_eq_true, Bool.or_eq_false_iff, Bool.not_eq_false'] at hb'
      have hf := fit_len hb'.2
      have hq : ((p.req (fitB n)).ws [fmtI n]).X.length = p.X.length + (1 + (fmtI n).length) := by
        rw [ws_len]
        show p.X.length + _ = _
        simp; omega
      have ih := nums_max r ((p.req (fitB n)).ws [fmtI n])
      by_cases hbig : ((p.req (fitB n)).ws [fmtI n]).bad = true
      · have hdead : ∀ (r : List Int) (q : Pr), q.bad = true → (q.nums r).X = q.X := by
          intro r
          cases r with
          | nil => intro q _; rfl
          | cons m r =>
            intro q hq
            unfold Pr.nums
            have : (q.req (fitB m)).bad = true := by unfold Pr.req; rw [hq]; rfl
            rw [if_pos this]
            rfl
        rw [hdead r _ hbig, hq]
        omega
      · have : ((p.req (fitB n)).ws [fmtI n]).X.length ≤ 32768 := by
          have hb2 : ((p.req (fitB n)).ws [fmtI n]).bad = false := by simpa using hbig
          unfold Pr.ws Pr.lim at hb2
          unfold Pr.req at hb2
          simp only [Bool.or_eq_false_iff, Bool.not_eq_false', decide_eq_true_eq] at hb2
          exact hb2.2
        omega
theorem pbNumbers_any {L : List Int} {A : Option Addr} {c : Nat} (h : PbIn g w p) (hA : ∀ w', KB g w w' → Arr w' A 1 (L.map fun n => [Value.int .i64 n])) (hW : Laid w) (hg : 5 ≤ g) (hl : L.length ≤ 1000000000) (hlen : p.X.length ≤ 700000000) :
    Calls Tryd.prog 35 #[.pointer (some ⟨g, 0, none⟩), .slice A L.length c] w fun e w' => e = .returned (.tuple #[]) ∧ PbIn g w' (p.nums L) ∧ KB g w w' := by
  refine calls_W (l := [_, _]) Tryd.func35 rfl _ Tryd.ntmps35 (by simp) ?_
  refine W_piece fun K hK hX => ?_
  simp +contextual (maxSteps := 2000000) (disch := first | omega | (simp only [SZ]; first | done | omega) | (simp only [TS] at *; omega)) only [RZ, ovw, oneC, reduceAdd, reduceMul, reduceSub, reduceEqDiff, reduceLT, ↓reduceIte, Int.reduceToNat, reduceLeDiff]
  refine hK _ _ ?_
  clear hK hX K
  rw [W_block, W_loop]
  refine Raw_loop (fun σ w1 => ∃ (k : Nat) (pk : Pr), k ≤ L.length ∧ PbIn g w1 pk ∧ pk.nums (L.drop k) = p.nums L ∧ pk.X.length ≤ max p.X.length 32768 + 19 ∧ (pk.bad = false → pk.X.length ≤ max p.X.length 32768) ∧ KB g w w1 ∧ σ 0 = .pointer (some ⟨g, 0, none⟩) ∧ σ 6 = .slice A L.length c ∧ σ 7 = .int .i64 L.length ∧ σ 8 = .int .i64 k) (fun σ _ => L.length - (intOf (σ 8)).toNat) ?_ ?_
  · exact ⟨0, p, Nat.zero_le _, h, by rw [List.drop_zero], by omega, fun _ => by omega, KB.refl _ _, rfl, rfl, rfl, rfl⟩
  rintro σ w1 ⟨k, pk, hk, h1, hn1, hx1, hx0, k1, f0, f6, f7, f8⟩ K hK
  simp +contextual (maxSteps := 2000000) (disch := first | omega | (simp only [SZ]; first | done | omega) | (simp only [TS] at *; omega)) only [RZ, ovw, oneC, reduceAdd, reduceMul, reduceSub, reduceEqDiff, reduceLT, ↓reduceIte, Int.reduceToNat, reduceLeDiff,  f0, f6, f7, f8]
  (refine W_if rfl (fun hc => ?_) (fun hc => ?_) <;> (try simp only [TS] at hc))
  · obtain ⟨n, hnk⟩ : ∃ n, L[k]? = some n := ⟨_, List.getElem?_eq_getElem (by omega)⟩
    obtain ⟨b, o, rfl, hb, hcell⟩ := (hA w1 k1).at_ (enc := fun n => [Value.int .i64 n]) hnk
    have l0 := hcell 0 _ rfl
    rw [Nat.add_zero, Nat.mul_one] at l0
    have hdk : L.drop k = n :: L.drop (k + 1) := by
      rw [List.drop_eq_getElem_cons (by omega)]
      congr 1
      exact (List.getElem?_eq_some_iff.1 hnk).2
    rw [hdk, nums_cons] at hn1
    refine W_piece fun K1 hK1 hX1 => ?_
    rw [W_block]
    refine W_piece fun K2 hK2 hX2 => ?_
    simp +contextual (maxSteps := 2000000) (disch := first | omega | (simp only [SZ]; first | done | omega) | (simp only [TS] at *; omega)) only [RZ, ovw, oneC, reduceAdd, reduceMul, reduceSub, reduceEqDiff, reduceLT, ↓reduceIte, Int.reduceToNat, reduceLeDiff,  f0, f6, f7, f8, l0]
    refine hK2 _ _ ?_
    clear hK2 hX2 K2
    refine W_piece fun K2 hK2 hX2 => ?_
    simp +contextual (maxSteps := 2000000) (disch := first | omega | (simp only [SZ]; first | done | omega) | (simp only [TS] at *; omega)) only [RZ, ovw, oneC, reduceAdd, reduceMul, reduceSub, reduceEqDiff, reduceLT, ↓reduceIte, Int.reduceToNat, reduceLeDiff,  f0, f6, f7, f8]
    rw [show (decide (0 ≤ n) && decide (n ≤ 999999999999999999)) = fitB n from rfl]
    refine (pbRequire_any h1 (fitB n)).mono ?_
    rintro e w2 ⟨rfl, h2, k2⟩
    refine ⟨_, rfl, ?_⟩
    try simp +contextual (maxSteps := 2000000) (disch := first | omega | (simp only [SZ]; first | done | omega) | (simp only [TS] at *; omega)) only [RZ, ovw, oneC, reduceAdd, reduceMul, reduceSub, reduceEqDiff, reduceLT, ↓reduceIte, Int.reduceToNat, reduceLeDiff,  f0, f6, f7, f8]
    refine hK2 _ _ ?_
    clear hK2 hX2 K2
    obtain ⟨q, A2, c2, h2i⟩ := id h2
    have d2 := h2i.row.cell (i := 2) rfl
    refine W_piece fun K2 hK2 hX2 => ?_
    refine W_piece fun K3 hK3 hX3 => ?_
    simp +contextual (maxSteps := 2000000) (disch := first | omega | (simp only [SZ]; first | done | omega) | (simp only [TS] at *; omega)) only [RZ, ovw, oneC, reduceAdd, reduceMul, reduceSub, reduceEqDiff, reduceLT, ↓reduceIte, Int.reduceToNat, reduceLeDiff,  f0, f6, f7, f8, d2]
    refine hK3 _ _ ?_
    clear hK3 hX3 K3
    cases hbd : (pk.req (fitB n)).bad with
    | true =>
      rw [if_pos hbd] at hn1
      refine W_if_t rfl ?_
      rw [W_ret]
      refine hX2 _ _ _ (fun h => by cases h) ?_
      rw [inX_ret]
      refine hX1 _ _ _ (fun h => by cases h) ?_
      rw [← hn1]
      simp +contextual (maxSteps := 2000000) (disch := first | omega | (simp only [SZ]; first | done | omega) | (simp only [TS] at *; omega)) only [RZ, ovw, oneC, reduceAdd, reduceMul, reduceSub, reduceEqDiff, reduceLT, ↓reduceIte, Int.reduceToNat, reduceLeDiff,  f0]
      exact ⟨h2, k1.trans k2⟩
    | false =>
      rw [if_neg (by rw [hbd]; simp)] at hn1
      refine W_if_f rfl ?_
      rw [W_skip]
      refine hK2 _ _ ?_
      clear hK2 hX2 K2
      have hfb : fitB n = true := by
        unfold Pr.req at hbd
        simp only [Bool.or_eq_false_iff, Bool.not_eq_false'] at hbd
        exact hbd.2
      have hpb : pk.bad = false := by
        unfold Pr.req at hbd
        simp only [Bool.or_eq_false_iff] at hbd
        exact hbd.1
      have hnr : nR n := by have := fit_nat hfb; unfold nR; omega
      have hW2 : Laid w2 := (hW.kb k1 hg).kb k2 hg
      have hlt2 := h2.lt
      simp +contextual (maxSteps := 2000000) (disch := first | omega | (simp only [SZ]; first | done | omega) | (simp only [TS] at *; omega)) only [RZ, ovw, oneC, reduceAdd, reduceMul, reduceSub, reduceEqDiff, reduceLT, ↓reduceIte, Int.reduceToNat, reduceLeDiff,  f0, f6, f7, f8]
      refine (format_any n w2 hW2 hnr).mono ?_
      rintro e w3 ⟨rfl, hB3⟩
      refine ⟨_, rfl, ?_⟩
      have h3 := h2.below hB3
      have k3 := (k1.trans k2).below (by omega) hB3
      have hwl : ((pk.req (fitB n)).ws ([fmtB n].map bs)).X.length = pk.X.length + (1 + (fmtI n).length) := by
        rw [ws_len]
        show pk.X.length + _ = _
        simp [bs_fmtB]; omega
      have hf18 := fit_len hfb
      try simp +contextual (maxSteps := 2000000) (disch := first | omega | (simp only [SZ]; first | done | omega) | (simp only [TS] at *; omega)) only [RZ, ovw, oneC, reduceAdd, reduceMul, reduceSub, reduceEqDiff, reduceLT, ↓reduceIte, Int.reduceToNat, reduceLeDiff,  f0, f6, f7, f8]
      refine (pbWords_any h3 [fmtB n] (by simp) (by omega)).mono ?_
      rintro e w4 ⟨rfl, h4, k4⟩
      refine ⟨_, rfl, ?_⟩
      try simp +contextual (maxSteps := 2000000) (disch := first | omega | (simp only [SZ]; first | done | omega) | (simp only [TS] at *; omega)) only [RZ, ovw, oneC, reduceAdd, reduceMul, reduceSub, reduceEqDiff, reduceLT, ↓reduceIte, Int.reduceToNat, reduceLeDiff,  f0, f6, f7, f8]
      refine hK1 _ _ ?_
      clear hK1 hX1 K1
      simp +contextual (maxSteps := 2000000) (disch := first | omega | (simp only [SZ]; first | done | omega) | (simp only [TS] at *; omega)) only [RZ, ovw, oneC, reduceAdd, reduceMul, reduceSub, reduceEqDiff, reduceLT, ↓reduceIte, Int.reduceToNat, reduceLeDiff,  f0, f6, f7, f8]
      refine hK _ _ ⟨k + 1, (pk.req (fitB n)).ws [fmtI n], by omega, h4, hn1, ?_, ?_, k3.trans k4, ?_⟩ ?_
      · have := hx0 hpb
        have hwl : ((pk.req (fitB n)).ws [fmtI n]).X.length = pk.X.length + (1 + (fmtI n).length) := hwl
        omega
      · intro hb
        have := ws_ok hb
        omega
      · simp +contextual (maxSteps := 2000000) (disch := first | omega | (simp only [SZ]; first | done | omega) | (simp only [TS] at *; omega)) only [RZ, ovw, oneC, reduceAdd, reduceMul, reduceSub, reduceEqDiff, reduceLT, ↓reduceIte, Int.reduceToNat, reduceLeDiff,  f0, f6, f7, f8]
      · simp +contextual (maxSteps := 2000000) (disch := first | omega | (simp only [SZ]; first | done | omega) | (simp only [TS] at *; omega)) only [RZ, ovw, oneC, reduceAdd, reduceMul, reduceSub, reduceEqDiff, reduceLT, ↓reduceIte, Int.reduceToNat, reduceLeDiff,  intOf, f8]
        omega
  · have hkl : k = L.length := by omega
    subst hkl
    rw [List.drop_length] at hn1
    have hn1 : pk = p.nums L := hn1
    subst hn1
    simp +contextual (maxSteps := 2000000) (disch := first | omega | (simp only [SZ]; first | done | omega) | (simp only [TS] at *; omega)) only [RZ, ovw, oneC, reduceAdd, reduceMul, reduceSub, reduceEqDiff, reduceLT, ↓reduceIte, Int.reduceToNat, reduceLeDiff,  f0, f6, f7, f8]
    exact ⟨h1, k1⟩
end
end Go.Proofs.YtbdkggnajipdhaaDoor
