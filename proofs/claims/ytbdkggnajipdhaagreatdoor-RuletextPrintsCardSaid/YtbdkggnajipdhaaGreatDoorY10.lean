/- Texts laid one behind the other: RtQ, RtR. Each says at its head what it proves. -/
import Derived.Test.YtbdkggnajipdhaaGreatDoorY09
set_option linter.unusedSimpArgs false
/- Plain: chapter 11, what is printed, as a text of items. No program in sight. -/
namespace Go.Proofs.YtbdkggnajipdhaaGreatDoor
def Pr.Ok (p : Pr) : Prop := p.bad = false → p.X.length ≤ 32768
/-- From p to q the text l is written, if c holds and there is room. -/
def Pr.Step (p q : Pr) (c : Bool) (l : List Nat) : Prop := p.Ok → q.Ok ∧ (q.bad = false ↔ (p.bad = false ∧ c = true ∧ (p.X ++ l).length ≤ 32768)) ∧ (q.bad = false → q.X = p.X ++ l)
theorem Pr.Step.trans {p q r : Pr} {c c' : Bool} {l l' : List Nat} (h1 : Pr.Step p q c l) (h2 : Pr.Step q r c' l') : Pr.Step p r (c && c') (l ++ l') := by
  intro hp
  obtain ⟨a1, a2, a3⟩ := h1 hp
  obtain ⟨b1, b2, b3⟩ := h2 a1
  refine ⟨b1, ?_, ?_⟩
  · rw [b2]
    constructor
    · rintro ⟨x1, x2, x3⟩
      obtain ⟨y1, y2, y3⟩ := a2.1 x1
      rw [a3 x1, List.append_assoc] at x3
      exact ⟨y1, by rw [y2, x2]; rfl, x3⟩
    · rintro ⟨x1, x2, x3⟩
      rw [Bool.and_eq_true] at x2
      have hl : (p.X ++ l).length ≤ 32768 := by simp only [List.length_append] at x3 ⊢; omega
      have hq := a2.2 ⟨x1, x2.1, hl⟩
      exact ⟨hq, x2.2, by rw [a3 hq, List.append_assoc]; exact x3⟩
  · intro hr
    rw [b3 hr, a3 (b2.1 hr).1, List.append_assoc]
theorem Pr.Step.id (p : Pr) : Pr.Step p p true [] := fun hp => ⟨hp, ⟨fun h => ⟨h, rfl, by rw [List.append_nil]; exact hp h⟩, fun h => h.1⟩, fun _ => (List.append_nil _).symm⟩
theorem Pr.Step.cast {p q : Pr} {c c' : Bool} {l l' : List Nat} (h : Pr.Step p q c l) (hc : c = c') (hl : l = l') : Pr.Step p q c' l' := by subst hc; subst hl; exact h
theorem Pr.Step.bad {p q : Pr} (l : List Nat) (h : q.bad = true) : Pr.Step p q false l :=
  fun _ => ⟨fun e => (by rw [h] at e; cases e), ⟨fun e => (by rw [h] at e; cases e), fun e => (by cases e.2.1)⟩, fun e => (by rw [h] at e; cases e)⟩
/-- Where p is bad already. -/
theorem Pr.Step.dead {p q : Pr} (c : Bool) (l : List Nat) (hp : p.bad = true) (h : q.bad = true) : Pr.Step p q c l :=
  fun _ => ⟨fun e => (by rw [h] at e; cases e), ⟨fun e => (by rw [h] at e; cases e), fun e => (by rw [hp] at e; cases e.1)⟩, fun e => (by rw [h] at e; cases e)⟩
theorem Pr.Step.req (p : Pr) (c : Bool) : Pr.Step p (p.req c) c [] := by
  intro hp
  unfold Pr.req
  refine ⟨fun e => ?_, ?_, fun e => (List.append_nil _).symm⟩
  · simp only [Bool.or_eq_false_iff] at e; exact hp e.1
  · simp only [Bool.or_eq_false_iff, Bool.not_eq_false']
    exact ⟨fun h => ⟨h.1, h.2, by rw [List.append_nil]; exact hp h.1⟩, fun h => ⟨h.1, h.2.1⟩⟩
theorem Pr.Step.lim (p : Pr) (l : List Nat) : Pr.Step p (p.add l).lim true l := by
  intro hp
  unfold Pr.lim Pr.req Pr.add
  refine ⟨fun e => ?_, ?_, fun _ => rfl⟩
  · simp only [Bool.or_eq_false_iff, Bool.not_eq_false', decide_eq_true_eq] at e; exact e.2
  · simp only [Bool.or_eq_false_iff, Bool.not_eq_false', decide_eq_true_eq, true_and]
theorem Pr.add_add (p : Pr) (s t : List Nat) : (p.add s).add t = p.add (s ++ t) := by unfold Pr.add; rw [List.append_assoc]
theorem Pr.add_nil (p : Pr) : p.add [] = p := by unfold Pr.add; rw [List.append_nil]
theorem Pr.Step.wsA (p : Pr) (s : List Nat) (w : List (List Nat)) : Pr.Step p ((p.add s).ws w) true (s ++ w.flatMap (32 :: ·)) := by
  unfold Pr.ws; rw [Pr.add_add]; exact Pr.Step.lim p _
theorem Pr.Step.ws (p : Pr) (w : List (List Nat)) : Pr.Step p (p.ws w) true (w.flatMap (32 :: ·)) := Pr.Step.lim p _
theorem Pr.Step.beginA (p : Pr) (s w : List Nat) : Pr.Step p ((p.add s).begin w) true (s ++ (32 :: 32 :: w)) := by
  unfold Pr.begin; rw [Pr.add_add]
  exact (Pr.Step.wsA p (s ++ [32]) [w]).cast rfl (by simp)
theorem Pr.Step.begin (p : Pr) (w : List Nat) : Pr.Step p (p.begin w) true (32 :: 32 :: w) := by
  have h := Pr.Step.beginA p [] w
  rw [Pr.add_nil] at h; exact h
theorem Pr.Step.fin (p : Pr) : Pr.Step p p.fin true (asc ";\n") := Pr.Step.lim p _
def numW (L : List Int) : List Nat := L.flatMap fun n => 32 :: fmtI n
theorem Pr.Step.nums : ∀ (L : List Int) (p : Pr), Pr.Step p (p.nums L) (L.all fitB) (numW L)
  | [], p => Pr.Step.id p
  | n :: r, p => by
    unfold Pr.nums
    split
    · rename_i h
      have h' := h
      unfold Pr.req at h'
      simp only [Bool.or_eq_true, Bool.not_eq_true'] at h'
      rcases h' with h' | h'
      · exact Pr.Step.dead _ _ h' h
      · exact (Pr.Step.bad _ h).cast (by rw [List.all_cons, h']; rfl) rfl
    · refine (((Pr.Step.req p (fitB n)).trans (Pr.Step.ws _ [fmtI n])).trans (Pr.Step.nums r _)).cast (by rw [List.all_cons, Bool.and_true]) ?_
      simp [numW]
theorem Pr.Step.nm (p : Pr) (s : ByteArray) : Pr.Step p (p.nm s) (wordL (bs s)) (32 :: bs s) := by
  unfold Pr.nm
  split
  · rename_i h
    have h' := h
    unfold Pr.req at h'
    simp only [Bool.or_eq_true, Bool.not_eq_true'] at h'
    rcases h' with h' | h'
    · exact Pr.Step.dead _ _ h' h
    · exact (Pr.Step.bad _ h).cast h'.symm rfl
  · exact ((Pr.Step.req p _).trans (Pr.Step.ws _ [bs s])).cast (by rw [Bool.and_true]) (by simp)
/-! Items. -/
inductive It where
  | two (w : List Nat) (a b : Int)
  | num (w : List Nat) (n : Int)
  | days (d : Nat) (t : Int)
  | addon (a : Ad)
  | tier (t : Ti)
def kindW (k : Int) : List Nat := if k = 1 then asc "fixed" else if k = 2 then asc "share" else asc "jackpot"
def hitW (w : List Nat) (n : Int) : List (List Nat) := if n = 0 then [] else [w, fmtI n]
def modeW (t : Ti) : List (List Nat) :=
  if t.mode = 0 then hitW (asc "main") t.main ++ hitW (asc "bonus") t.bonus ++ hitW (asc "extra") t.extra
  else if t.mode = 1 then [asc "exact"] else if t.mode = 2 then [asc "box"] else if t.mode = 3 then [asc "front", fmtI t.main] else [asc "back", fmtI t.main]
/-- The words of an item. -/
def It.words : It → List (List Nat)
  | .two w a b => [w, fmtI a, asc "of", fmtI b]
  | .num w n => [w, fmtI n]
  | .days d t => [asc "days"] ++ dayL d ++ [asc "at", fmtI (t / 60), asc ":", fmtI (t % 60)]
  | .addon a => if a.kind = 1 then [asc "addon", bs a.name, asc "factor", fmtI a.price] ++ a.factors.map fmtI else [asc "addon", bs a.name, asc "serial", fmtI a.price, fmtI a.digits] ++ a.serials.map fmtI
  | .tier t => [asc "tier"] ++ modeW t ++ [kindW t.kind, fmtI t.value]
def hitB (n : Int) : Bool := decide (n = 0) || fitB n
def Ad.fine (a : Ad) : Bool := wordL (bs a.name) && (if a.kind = 1 then (decide (a.digits = 0) && decide (a.serials.length = 0)) && fitB a.price && a.factors.all fitB else if a.kind = 2 then decide (a.factors.length = 0) && (fitB a.price && (fitB a.digits && true)) && a.serials.all fitB else false)
def Ti.fineM (t : Ti) : Bool :=
  if t.mode = 0 then hitB t.main && hitB t.bonus && hitB t.extra
  else if t.mode = 1 ∨ t.mode = 2 then decide (t.main = 0) && decide (t.bonus = 0) && decide (t.extra = 0)
  else if t.mode = 3 ∨ t.mode = 4 then (decide (t.bonus = 0) && decide (t.extra = 0)) && fitB t.main else false
def Ti.fine (t : Ti) : Bool := t.fineM && (decide (t.kind = 1) || decide (t.kind = 2) || decide (t.kind = 3)) && fitB t.value
def It.fine : It → Bool
  | .two _ a b => fitB a && fitB b
  | .num _ n => fitB n
  | .days d t => decide (d ≤ 127) && decide (0 ≤ t) && decide (t ≤ 1439)
  | .addon a => a.fine
  | .tier t => t.fine
def lineG (i : It) : List Nat := 32 :: (i.words.flatMap (32 :: ·) ++ asc ";\n")
theorem fm1 (w : List Nat) : [w].flatMap (32 :: ·) = 32 :: w := by simp
theorem Pr.Step.two (p : Pr) (s w : List Nat) (a b : Int) : Pr.Step p ((p.add s).two w a b) (It.two w a b).fine (s ++ lineG (.two w a b)) := by
  unfold Pr.two
  refine (((((Pr.Step.beginA p s w).trans (Pr.Step.nums [a] _)).trans (Pr.Step.ws _ [asc "of"])).trans (Pr.Step.nums [b] _)).trans (Pr.Step.fin _)).cast ?_ ?_
  · simp [It.fine]
  · simp [lineG, It.words, numW]
theorem Pr.Step.opt (p : Pr) (w : List Nat) (n std : Int) : Pr.Step p (p.opt w n std) (decide (n = std) || fitB n) (if n = std then [] else lineG (.num w n)) := by
  unfold Pr.opt
  by_cases h : n = std
  · rw [if_pos h, if_pos h]; exact (Pr.Step.id p).cast (by simp [h]) rfl
  · rw [if_neg h, if_neg h]
    refine (((Pr.Step.begin p w).trans (Pr.Step.nums [n] _)).trans (Pr.Step.fin _)).cast ?_ ?_
    · simp [h]
    · simp [lineG, It.words, numW]
theorem Pr.Step.dayw : ∀ (l : List (List Nat)) (p : Pr), Pr.Step p (l.foldl (fun p w => p.ws [w]) p) true (l.flatMap (32 :: ·))
  | [], p => Pr.Step.id p
  | w :: r, p => by
    rw [List.foldl_cons]
    exact ((Pr.Step.ws p [w]).trans (Pr.Step.dayw r _)).cast rfl (by simp)
def daysC (n : Nat → Int) : Bool := (decide (0 ≤ n 9) && decide (n 9 ≤ 127) && decide (0 ≤ n 10) && decide (n 10 ≤ 1439)) && (!decide (n 9 = 0) || decide (n 10 = 0))
theorem Pr.Step.days (p : Pr) (n : Nat → Int) : Pr.Step p (p.days n) (daysC n) (if n 9 = 0 then [] else lineG (.days (n 9).toNat (n 10))) := by
  unfold Pr.days daysC
  by_cases h : n 9 = 0
  · dsimp only
    rw [if_pos h, if_pos h]
    exact ((Pr.Step.req p _).trans (Pr.Step.req _ _)).cast (by simp [h]) rfl
  · dsimp only
    rw [if_neg h, if_neg h]
    split
    · rename_i hb
      have hb' := hb
      unfold Pr.req at hb'
      simp only [Bool.or_eq_true, Bool.not_eq_true'] at hb'
      rcases hb' with hb' | hb'
      · exact Pr.Step.dead _ _ hb' hb
      · exact (Pr.Step.bad _ hb).cast (by rw [hb']; rfl) rfl
    · rename_i hb
      unfold Pr.req at hb
      simp only [Bool.not_eq_true, Bool.or_eq_false_iff, Bool.not_eq_false'] at hb
      have hb2 := hb.2
      simp only [Bool.and_eq_true, decide_eq_true_eq] at hb2
      refine (((((((((Pr.Step.req p _).trans (Pr.Step.begin _ _)).trans (Pr.Step.dayw (dayL (n 9).toNat) _)).trans (Pr.Step.ws _ [asc "at"])).trans (Pr.Step.nums [n 10 / 60] _)).trans (Pr.Step.ws _ [asc ":"])).trans (Pr.Step.nums [n 10 % 60] _)).trans (Pr.Step.fin _))).cast ?_ ?_
      · have f1 : fitB (n 10 / 60) = true := by unfold fitB; simp only [Bool.and_eq_true, decide_eq_true_eq]; omega
        have f2 : fitB (n 10 % 60) = true := by unfold fitB; simp only [Bool.and_eq_true, decide_eq_true_eq]; omega
        simp [f1, f2, h]
      · simp [lineG, It.words, numW]
theorem Pr.Step.addon (p : Pr) (a : Ad) : Pr.Step p (p.addon a) a.fine (lineG (.addon a)) := by
  unfold Pr.addon Ad.fine
  dsimp only
  have h0 := (Pr.Step.begin p (asc "addon")).trans (Pr.Step.nm _ a.name)
  by_cases h1 : a.kind = 1
  · rw [if_pos h1, if_pos h1]
    refine (((((h0.trans (Pr.Step.req _ _)).trans (Pr.Step.ws _ _)).trans (Pr.Step.nums [a.price] _)).trans (Pr.Step.nums a.factors _)).trans (Pr.Step.fin _)).cast ?_ ?_
    · simp [Bool.and_assoc]
    · simp [lineG, It.words, numW, h1, List.flatMap_map]
  · rw [if_neg h1, if_neg h1]
    by_cases h2 : a.kind = 2
    · rw [if_pos h2, if_pos h2]
      refine (((((h0.trans (Pr.Step.req _ _)).trans (Pr.Step.ws _ _)).trans (Pr.Step.nums [a.price, a.digits] _)).trans (Pr.Step.nums a.serials _)).trans (Pr.Step.fin _)).cast ?_ ?_
      · simp [Bool.and_assoc]
      · simp [lineG, It.words, numW, h1, List.flatMap_map]
    · rw [if_neg h2, if_neg h2]
      refine (Pr.Step.bad _ ?_).cast (by simp) rfl
      unfold Pr.fin Pr.lim Pr.req Pr.add; rfl
theorem Pr.Step.hits (p : Pr) (w : List Nat) (n : Int) : Pr.Step p (p.hits w n) (hitB n) ((hitW w n).flatMap (32 :: ·)) := by
  unfold Pr.hits hitB hitW
  by_cases h : n = 0
  · rw [if_pos h, if_pos h]; exact (Pr.Step.id p).cast (by simp [h]) rfl
  · rw [if_neg h, if_neg h]
    exact ((Pr.Step.ws p [w]).trans (Pr.Step.nums [n] _)).cast (by simp [h]) (by simp [numW])
theorem Pr.Step.mode (p : Pr) (t : Ti) : Pr.Step p (p.mode t) t.fineM ((modeW t).flatMap (32 :: ·)) := by
  unfold Pr.mode Ti.fineM modeW
  by_cases h0 : t.mode = 0
  · rw [if_pos h0, if_pos h0, if_pos h0]
    exact (((Pr.Step.hits p _ _).trans (Pr.Step.hits _ _ _)).trans (Pr.Step.hits _ _ _)).cast rfl (by simp)
  rw [if_neg h0, if_neg h0, if_neg h0]
  by_cases h1 : t.mode = 1 ∨ t.mode = 2
  · rw [if_pos h1, if_pos h1]
    refine ((Pr.Step.req p _).trans (Pr.Step.ws _ _)).cast (by rw [Bool.and_true]) ?_
    by_cases e : t.mode = 1
    · rw [if_pos e, if_pos e]; rfl
    · rw [if_neg e, if_neg e, if_pos (h1.resolve_left e)]; rfl
  rw [if_neg h1, if_neg h1, if_neg (fun e => h1 (.inl e)), if_neg (fun e => h1 (.inr e))]
  by_cases h3 : t.mode = 3 ∨ t.mode = 4
  · rw [if_pos h3, if_pos h3]
    refine (((Pr.Step.req p _).trans (Pr.Step.ws _ _)).trans (Pr.Step.nums [t.main] _)).cast (by simp) ?_
    by_cases e : t.mode = 3
    · rw [if_pos e, if_pos e]; simp [numW]
    · rw [if_neg e, if_neg e]; simp [numW]
  · rw [if_neg h3, if_neg h3]
    exact Pr.Step.bad _ rfl
theorem Pr.Step.tier (p : Pr) (t : Ti) : Pr.Step p (p.tier t) t.fine (lineG (.tier t)) := by
  unfold Pr.tier Ti.fine
  dsimp only
  have h0 := (Pr.Step.begin p (asc "tier")).trans (Pr.Step.mode _ t)
  have hk : Pr.Step ((p.begin (asc "tier")).mode t) (if t.kind = 1 then ((p.begin (asc "tier")).mode t).ws [asc "fixed"] else if t.kind = 2 then ((p.begin (asc "tier")).mode t).ws [asc "share"] else if t.kind = 3 then ((p.begin (asc "tier")).mode t).ws [asc "jackpot"] else ⟨((p.begin (asc "tier")).mode t).X, true⟩)
      (decide (t.kind = 1) || decide (t.kind = 2) || decide (t.kind = 3)) (32 :: kindW t.kind) := by
    unfold kindW
    by_cases h1 : t.kind = 1
    · rw [if_pos h1, if_pos h1]; exact (Pr.Step.ws _ _).cast (by simp [h1]) (by simp)
    rw [if_neg h1, if_neg h1]
    by_cases h2 : t.kind = 2
    · rw [if_pos h2, if_pos h2]; exact (Pr.Step.ws _ _).cast (by simp [h2]) (by simp)
    rw [if_neg h2, if_neg h2]
    by_cases h3 : t.kind = 3
    · rw [if_pos h3]; exact (Pr.Step.ws _ _).cast (by simp [h3]) (by simp)
    · rw [if_neg h3]; exact (Pr.Step.bad _ rfl).cast (by simp [h1, h2, h3]) rfl
  refine (((h0.trans hk).trans (Pr.Step.nums [t.value] _)).trans (Pr.Step.fin _)).cast ?_ ?_
  · simp [Bool.and_assoc]
  · simp [lineG, It.words, numW]
theorem Pr.Step.all {α : Type} {f : Pr → α → Pr} {c : α → Bool} {l : α → List Nat} (h : ∀ p a, Pr.Step p (f p a) (c a) (l a)) : ∀ (L : List α) (p : Pr), Pr.Step p (Pr.all f p L) (L.all c) (L.flatMap l)
  | [], p => Pr.Step.id p
  | a :: r, p => by
    unfold Pr.all
    split
    · rename_i hb; exact Pr.Step.dead _ _ hb hb
    · exact (h p a).trans (Pr.Step.all h r _)
/-! The whole. -/
def optI (w : List Nat) (n std : Int) : List It := if n = std then [] else [.num w n]
def headI (n : Nat → Int) : List It := [.two (if n 0 = 1 then asc "choose" else asc "digits") (n 2) (n 3)] ++ (if n 4 ≠ 0 ∨ n 5 ≠ 0 then [.two (asc "bonus") (n 4) (n 5)] else []) ++
  (optI (asc "extra") (n 6) 0 ++ optI (asc "price") (n 1) 0 ++ optI (asc "draws") (n 7) 1 ++ optI (asc "system") (n 8) (n 2))
def daysI (n : Nat → Int) : List It := if n 9 = 0 then [] else [.days (n 9).toNat (n 10)]
def optsI (n : Nat → Int) : List It := optI (asc "close") (n 11) 0 ++ optI (asc "cancel") (n 12) 0 ++ optI (asc "expiry") (n 13) 0 ++ optI (asc "pool") (n 14) 0 ++ optI (asc "reserve") (n 15) 0 ++ optI (asc "round") (n 16) 1 ++ optI (asc "cap") (n 17) 0 ++ optI (asc "rolls") (n 18) 0
def itemsG (g : Gm) : List It := headI g.n ++ daysI g.n ++ optsI g.n ++ g.addons.map .addon ++ g.tiers.map .tier
def fineG (g : Gm) : Bool := wordL (bs g.name) && (decide (g.n 0 = 1) || decide (g.n 0 = 2)) && daysC g.n && (itemsG g).all It.fine
def textG (g : Gm) : List Nat := asc "game" ++ (32 :: bs g.name) ++ asc " {\n" ++ (itemsG g).flatMap lineG ++ asc "}\n"
theorem Pr.Step.optI (p : Pr) (w : List Nat) (n std : Int) : Pr.Step p (p.opt w n std) ((optI w n std).all It.fine) ((Go.Proofs.YtbdkggnajipdhaaGreatDoor.optI w n std).flatMap lineG) := by
  refine (Pr.Step.opt p w n std).cast ?_ ?_
  · unfold Go.Proofs.YtbdkggnajipdhaaGreatDoor.optI; by_cases h : n = std <;> simp [h, It.fine]
  · unfold Go.Proofs.YtbdkggnajipdhaaGreatDoor.optI; by_cases h : n = std <;> simp [h]
theorem Pr.Step.head (p : Pr) (s : List Nat) (n : Nat → Int) : Pr.Step p ((p.add s).head n) ((decide (n 0 = 1) || decide (n 0 = 2)) && (headI n).all It.fine) (s ++ (headI n).flatMap lineG) := by
  unfold Pr.head
  by_cases h : n 0 = 1 ∨ n 0 = 2
  · rw [if_pos h]
    dsimp only
    have hb : Pr.Step ((p.add s).two (if n 0 = 1 then asc "choose" else asc "digits") (n 2) (n 3)) (if n 4 ≠ 0 ∨ n 5 ≠ 0 then ((p.add s).two (if n 0 = 1 then asc "choose" else asc "digits") (n 2) (n 3)).two (asc "bonus") (n 4) (n 5) else (p.add s).two (if n 0 = 1 then asc "choose" else asc "digits") (n 2) (n 3))
        ((if n 4 ≠ 0 ∨ n 5 ≠ 0 then [It.two (asc "bonus") (n 4) (n 5)] else []).all It.fine) ((if n 4 ≠ 0 ∨ n 5 ≠ 0 then [It.two (asc "bonus") (n 4) (n 5)] else []).flatMap lineG) := by
      by_cases e : n 4 ≠ 0 ∨ n 5 ≠ 0
      · rw [if_pos e, if_pos e]
        have := Pr.Step.two ((p.add s).two (if n 0 = 1 then asc "choose" else asc "digits") (n 2) (n 3)) [] (asc "bonus") (n 4) (n 5)
        rw [Pr.add_nil] at this
        exact this.cast (by simp) (by simp)
      · rw [if_neg e, if_neg e]; exact Pr.Step.id _
    refine ((((((Pr.Step.two p s _ _ _).trans hb).trans (Pr.Step.optI _ _ _ _)).trans (Pr.Step.optI _ _ _ _)).trans (Pr.Step.optI _ _ _ _)).trans (Pr.Step.optI _ _ _ _)).cast ?_ ?_
    · have hd : (decide (n 0 = 1) || decide (n 0 = 2)) = true := by simpa using h
      rw [hd]
      unfold headI
      simp only [List.all_append, List.all_cons, List.all_nil, Bool.and_true, Bool.true_and, Bool.and_assoc]
    · unfold headI
      simp only [List.flatMap_append, List.flatMap_cons, List.flatMap_nil, List.append_nil, List.append_assoc]
  · rw [if_neg h]
    refine (Pr.Step.bad _ rfl).cast ?_ rfl
    have hd : (decide (n 0 = 1) || decide (n 0 = 2)) = false := by simpa using h
    rw [hd]; rfl
theorem Pr.Step.opts (p : Pr) (n : Nat → Int) : Pr.Step p (p.opts n) ((optsI n).all It.fine) ((optsI n).flatMap lineG) := by
  unfold Pr.opts optsI
  refine ((((((((Pr.Step.optI p _ _ _).trans (Pr.Step.optI _ _ _ _)).trans (Pr.Step.optI _ _ _ _)).trans (Pr.Step.optI _ _ _ _)).trans (Pr.Step.optI _ _ _ _)).trans (Pr.Step.optI _ _ _ _)).trans (Pr.Step.optI _ _ _ _)).trans (Pr.Step.optI _ _ _ _)).cast ?_ ?_
  · simp only [List.all_append, Bool.and_assoc]
  · simp only [List.flatMap_append, List.append_assoc]
theorem daysC_fine {n : Nat → Int} (h : daysC n = true) : (daysI n).all It.fine = true := by
  unfold daysC at h
  unfold daysI
  simp only [Bool.and_eq_true, decide_eq_true_eq] at h
  by_cases e : n 9 = 0
  · rw [if_pos e]; rfl
  · rw [if_neg e]
    simp only [List.all_cons, List.all_nil, It.fine, Bool.and_true, Bool.and_eq_true, decide_eq_true_eq]
    omega
theorem Pr.Step.daysI (p : Pr) (n : Nat → Int) : Pr.Step p (p.days n) (daysC n) ((Go.Proofs.YtbdkggnajipdhaaGreatDoor.daysI n).flatMap lineG) := by
  refine (Pr.Step.days p n).cast rfl ?_
  unfold Go.Proofs.YtbdkggnajipdhaaGreatDoor.daysI; by_cases h : n 9 = 0 <;> simp [h]
theorem game_step (g : Gm) : Pr.Step ⟨asc "game", false⟩ (Pr.game g) (fineG g) ((32 :: bs g.name) ++ asc " {\n" ++ (itemsG g).flatMap lineG ++ asc "}\n") := by
  unfold Pr.game
  dsimp only
  refine (((((((Pr.Step.nm _ g.name).trans (Pr.Step.head _ (asc " {\n") g.n)).trans (Pr.Step.daysI _ g.n)).trans (Pr.Step.opts _ g.n)).trans (Pr.Step.all (fun p a => Pr.Step.addon p a) g.addons _)).trans (Pr.Step.all (fun p t => Pr.Step.tier p t) g.tiers _)).trans (Pr.Step.lim _ (asc "}\n"))).cast ?_ ?_
  · unfold fineG itemsG
    simp only [List.all_append, List.all_map, Bool.and_true]
    rw [Bool.eq_iff_iff]
    simp only [Bool.and_eq_true]
    constructor
    · rintro ⟨⟨⟨⟨⟨h1, h2, h3⟩, h4⟩, h5⟩, h6⟩, h7⟩
      exact ⟨⟨⟨h1, h2⟩, h4⟩, ⟨⟨⟨h3, daysC_fine h4⟩, h5⟩, h6⟩, h7⟩
    · rintro ⟨⟨⟨h1, h2⟩, h4⟩, ⟨⟨⟨h3, _⟩, h5⟩, h6⟩, h7⟩
      exact ⟨⟨⟨⟨⟨h1, h2, h3⟩, h4⟩, h5⟩, h6⟩, h7⟩
  · unfold itemsG
    simp only [List.flatMap_append, List.flatMap_map, List.append_assoc]
theorem printG_is (g : Gm) : printG g = if fineG g = true ∧ (textG g).length ≤ 32768 then textG g else [] := by
  obtain ⟨_, h2, h3⟩ := game_step g (show Pr.Ok ⟨asc "game", false⟩ from fun _ => by decide)
  have e : (⟨asc "game", false⟩ : Pr).X ++ ((32 :: bs g.name) ++ asc " {\n" ++ (itemsG g).flatMap lineG ++ asc "}\n") = textG g := by
    unfold textG; simp only [List.append_assoc]
  rw [e] at h2 h3
  unfold printG
  cases hb : (Pr.game g).bad with
  | false =>
    rw [if_neg (by simp), if_pos (h2.1 hb).2, h3 hb]
  | true =>
    rw [if_pos rfl, if_neg]
    intro hc
    rw [h2.2 ⟨rfl, hc⟩] at hb
    cases hb
theorem textG_ne (g : Gm) : textG g ≠ [] := by
  intro h
  have := congrArg List.length h
  unfold textG at this
  simp only [List.length_append, List.length_cons, List.length_nil] at this
  omega
def bonusI (n : Nat → Int) : List It := if n 4 ≠ 0 ∨ n 5 ≠ 0 then [.two (asc "bonus") (n 4) (n 5)] else []
theorem headI_is (n : Nat → Int) : headI n = [.two (if n 0 = 1 then asc "choose" else asc "digits") (n 2) (n 3)] ++ bonusI n ++ (optI (asc "extra") (n 6) 0 ++ optI (asc "price") (n 1) 0 ++ optI (asc "draws") (n 7) 1 ++ optI (asc "system") (n 8) (n 2)) := rfl
/-- All that a game's cells hold. -/
def gmC (G : Gm) : ByteArray × List Int × List Ad × List Ti := (G.name, (List.range 19).map G.n, G.addons, G.tiers)
end Go.Proofs.YtbdkggnajipdhaaGreatDoor
/- Plain: chapter 11, what is printed is read again. No program in sight. -/
namespace Go.Proofs.YtbdkggnajipdhaaGreatDoor
theorem thenT_some {α β : Type} {x : Option α} {a : α} {L : List Tk} {f : α → Except (Int × List Tk) β} (h : x = some a) : thenT x L f = f a := by rw [h]; rfl
theorem bindT_ok {α β : Type} {x : Except (Int × List Tk) α} {a : α} {f : α → Except (Int × List Tk) β} (h : x = .ok a) : bindT x f = f a := by rw [h]; rfl
/-! Tokens of items. -/
def hitS (w : List Nat) (n : Int) : List (Nat × List Nat) := if n = 0 then [] else [(1, w), (2, dec n.toNat)]
def modeS (t : Ti) : List (Nat × List Nat) :=
  if t.mode = 0 then hitS (asc "main") t.main ++ (hitS (asc "bonus") t.bonus ++ hitS (asc "extra") t.extra)
  else if t.mode = 1 then [(1, asc "exact")] else if t.mode = 2 then [(1, asc "box")] else if t.mode = 3 then [(1, asc "front"), (2, dec t.main.toNat)] else [(1, asc "back"), (2, dec t.main.toNat)]
def numS (L : List Int) : List (Nat × List Nat) := L.map fun n => (2, dec n.toNat)
def dayX (is : List Nat) : List (Nat × List Nat) := is.map fun i => (1, dayW.getD i [])
def dayB (d : Nat) : List Nat := (List.range 7).filter fun i => d / 2 ^ i % 2 == 1
def It.toks : It → List (Nat × List Nat)
  | .two w a b => [(1, w), (2, dec a.toNat), (1, asc "of"), (2, dec b.toNat)]
  | .num w n => [(1, w), (2, dec n.toNat)]
  | .days d t => (1, asc "days") :: (dayX (dayB d) ++ [(1, asc "at"), (2, dec (t / 60).toNat), (3, asc ":"), (2, dec (t % 60).toNat)])
  | .addon a => if a.kind = 1 then (1, asc "addon") :: (1, bs a.name) :: (1, asc "factor") :: (2, dec a.price.toNat) :: numS a.factors else (1, asc "addon") :: (1, bs a.name) :: (1, asc "serial") :: (2, dec a.price.toNat) :: (2, dec a.digits.toNat) :: numS a.serials
  | .tier t => (1, asc "tier") :: (modeS t ++ [(1, kindW t.kind), (2, dec t.value.toNat)])
/-- The first word is one of the language. -/
def It.wok : It → Bool
  | .two w _ _ => decide (w = asc "choose") || decide (w = asc "digits") || decide (w = asc "bonus")
  | .num w _ => (simpleI w).isSome
  | _ => true
theorem good_word {l : List Nat} (h : wordL l = true) : good 1 l := by
  unfold wordL at h
  rw [Bool.and_eq_true] at h
  cases l with
  | nil => cases h.1
  | cons c r => exact Or.inl ⟨rfl, ⟨c, r, rfl, h.1⟩, fun d hd => List.all_eq_true.1 h.2 d hd⟩
theorem good_fit {n : Int} (h : fitB n = true) : good 2 (dec n.toNat) := good_dec (fit_nat h).2
def simpleW : List (List Nat) := [asc "extra", asc "price", asc "draws", asc "system", asc "close", asc "cancel", asc "expiry", asc "pool", asc "reserve", asc "round", asc "cap", asc "rolls"]
theorem simple_mem {w : List Nat} (h : (simpleI w).isSome = true) : w ∈ simpleW := by
  apply Classical.byContradiction
  intro hn
  simp only [simpleW, List.mem_cons, List.not_mem_nil, or_false, not_or] at hn
  obtain ⟨a1, a2, a3, a4, a5, a6, a7, a8, a9, a10, a11, a12⟩ := hn
  unfold simpleI at h
  rw [if_neg a1, if_neg a2, if_neg a3, if_neg a4, if_neg a5, if_neg a6, if_neg a7, if_neg a8, if_neg a9, if_neg a10, if_neg a11, if_neg a12] at h
  cases h
theorem simpleW_word : simpleW.all wordL = true := by decide +kernel
theorem simple_good {w : List Nat} (h : (simpleI w).isSome = true) : good 1 w := good_word (List.all_eq_true.1 simpleW_word w (simple_mem h))
theorem dayW_good (i : Nat) (h : i < 7) : good 1 (dayW.getD i []) := by
  have : ∀ i : Fin 7, wordL (dayW.getD i.1 []) = true := by decide +kernel
  exact good_word (this ⟨i, h⟩)
theorem dayB_lt {d i : Nat} (h : i ∈ dayB d) : i < 7 := List.mem_range.1 (List.mem_filter.1 h).1
theorem fits_words (L : List Int) (h : L.all fitB = true) : (numS L).map (·.2) = L.map fmtI ∧ ∀ x ∈ numS L, good x.1 x.2 := by
  rw [List.all_eq_true] at h
  constructor
  · unfold numS
    rw [List.map_map]
    exact List.map_congr_left fun n hn => (fmt_dec (h n hn)).symm
  · intro x hx
    obtain ⟨n, hn, rfl⟩ := List.mem_map.1 hx
    exact good_fit (h n hn)
theorem hit_words {w : List Nat} (hw : good 1 w) {n : Int} (h : hitB n = true) : (hitS w n).map (·.2) = hitW w n ∧ ∀ x ∈ hitS w n, good x.1 x.2 := by
  unfold hitB at h
  unfold hitS hitW
  by_cases e : n = 0
  · rw [if_pos e, if_pos e]; exact ⟨rfl, fun x hx => by cases hx⟩
  · have hf : fitB n = true := by simpa [e] using h
    rw [if_neg e, if_neg e]
    refine ⟨by simp [fmt_dec hf], fun x hx => ?_⟩
    rcases List.mem_cons.1 hx with rfl | hx
    · exact hw
    · rw [List.mem_singleton] at hx; subst hx; exact good_fit hf
theorem app_words {A B : List (Nat × List Nat)} {a b : List (List Nat)} (h1 : A.map (·.2) = a ∧ ∀ x ∈ A, good x.1 x.2) (h2 : B.map (·.2) = b ∧ ∀ x ∈ B, good x.1 x.2) : (A ++ B).map (·.2) = a ++ b ∧ ∀ x ∈ A ++ B, good x.1 x.2 :=
  ⟨by rw [List.map_append, h1.1, h2.1], fun x hx => (List.mem_append.1 hx).elim (h1.2 x) (h2.2 x)⟩
theorem one_word {k : Nat} {w : List Nat} (h : good k w) : [(k, w)].map (·.2) = [w] ∧ ∀ x ∈ [(k, w)], good x.1 x.2 := ⟨rfl, fun x hx => by rw [List.mem_singleton] at hx; subst hx; exact h⟩
theorem cons_word {k : Nat} {w : List Nat} {B : List (Nat × List Nat)} {b : List (List Nat)} (h : good k w) (h2 : B.map (·.2) = b ∧ ∀ x ∈ B, good x.1 x.2) : ((k, w) :: B).map (·.2) = w :: b ∧ ∀ x ∈ (k, w) :: B, good x.1 x.2 := app_words (one_word h) h2
theorem num_word {n : Int} {B : List (Nat × List Nat)} {b : List (List Nat)} (h : fitB n = true) (h2 : B.map (·.2) = b ∧ ∀ x ∈ B, good x.1 x.2) : ((2, dec n.toNat) :: B).map (·.2) = fmtI n :: b ∧ ∀ x ∈ (2, dec n.toNat) :: B, good x.1 x.2 := by
  rw [fmt_dec h]; exact cons_word (good_fit h) h2
theorem nil_words : (([] : List (Nat × List Nat)).map (·.2) = []) ∧ ∀ x ∈ ([] : List (Nat × List Nat)), good x.1 x.2 := ⟨rfl, fun x hx => by cases hx⟩
theorem day_words (d : Nat) : (dayX (dayB d)).map (·.2) = dayL d ∧ ∀ x ∈ dayX (dayB d), good x.1 x.2 := by
  refine ⟨by unfold dayX dayL dayB; rw [List.map_map]; rfl, fun x hx => ?_⟩
  obtain ⟨i, hi, rfl⟩ := List.mem_map.1 hx
  exact dayW_good i (dayB_lt hi)
theorem mode_words {t : Ti} (h : t.fineM = true) : (modeS t).map (·.2) = modeW t ∧ ∀ x ∈ modeS t, good x.1 x.2 := by
  unfold Ti.fineM at h
  unfold modeS modeW
  by_cases h0 : t.mode = 0
  · rw [if_pos h0] at h ⊢
    rw [if_pos h0]
    simp only [Bool.and_eq_true] at h
    rw [← List.append_assoc]
    exact app_words (app_words (hit_words (good_word (by decide +kernel)) h.1.1) (hit_words (good_word (by decide +kernel)) h.1.2)) (hit_words (good_word (by decide +kernel)) h.2)
  rw [if_neg h0] at h ⊢
  rw [if_neg h0]
  by_cases h1 : t.mode = 1
  · rw [if_pos h1, if_pos h1]; exact one_word (good_word (by decide +kernel))
  rw [if_neg h1, if_neg h1]
  by_cases h2 : t.mode = 2
  · rw [if_pos h2, if_pos h2]; exact one_word (good_word (by decide +kernel))
  rw [if_neg h2, if_neg h2]
  rw [if_neg (fun e => e.elim h1 h2)] at h
  by_cases h3 : t.mode = 3
  · rw [if_pos h3, if_pos h3]
    rw [if_pos (.inl h3)] at h
    rw [Bool.and_eq_true] at h
    exact cons_word (good_word (by decide +kernel)) (num_word h.2 nil_words)
  rw [if_neg h3, if_neg h3]
  by_cases h4 : t.mode = 4
  · rw [if_pos (.inr h4)] at h
    rw [Bool.and_eq_true] at h
    exact cons_word (good_word (by decide +kernel)) (num_word h.2 nil_words)
  · rw [if_neg (fun e => e.elim h3 h4)] at h; cases h
theorem day_fit {t : Int} (h0 : 0 ≤ t) (h1 : t ≤ 1439) : fitB (t / 60) = true ∧ fitB (t % 60) = true := by
  unfold fitB; simp only [Bool.and_eq_true, decide_eq_true_eq]; omega
/-- An item's words are its tokens' texts. -/
theorem item_words {i : It} (hf : i.fine = true) (hw : i.wok = true) : i.toks.map (·.2) = i.words ∧ ∀ x ∈ i.toks, good x.1 x.2 := by
  cases i with
  | two w a b =>
    simp only [It.fine, Bool.and_eq_true] at hf
    have hg : good 1 w := by
      simp only [It.wok, Bool.or_eq_true, decide_eq_true_eq] at hw
      rcases hw with (rfl | rfl) | rfl <;> exact good_word (by decide +kernel)
    exact cons_word hg (num_word hf.1 (cons_word (good_word (by decide +kernel)) (num_word hf.2 nil_words)))
  | num w n => exact cons_word (simple_good hw) (num_word hf nil_words)
  | days d t =>
    simp only [It.fine, Bool.and_eq_true, decide_eq_true_eq] at hf
    obtain ⟨f1, f2⟩ := day_fit hf.1.2 hf.2
    exact cons_word (good_word (by decide +kernel)) (app_words (day_words d) (cons_word (good_word (by decide +kernel)) (num_word f1 (cons_word (gm (by decide)) (num_word f2 nil_words)))))
  | addon a =>
    simp only [It.fine, Ad.fine, Bool.and_eq_true] at hf
    simp only [It.toks, It.words]
    by_cases h1 : a.kind = 1
    · rw [if_pos h1] at hf ⊢
      rw [if_pos h1]
      simp only [Bool.and_eq_true] at hf
      exact cons_word (good_word (by decide +kernel)) (cons_word (good_word hf.1) (cons_word (good_word (by decide +kernel)) (num_word hf.2.1.2 (fits_words _ hf.2.2))))
    · rw [if_neg h1] at hf ⊢
      rw [if_neg h1]
      by_cases h2 : a.kind = 2
      · rw [if_pos h2] at hf
        simp only [Bool.and_eq_true, and_true] at hf
        exact cons_word (good_word (by decide +kernel)) (cons_word (good_word hf.1) (cons_word (good_word (by decide +kernel)) (num_word hf.2.1.2.1 (num_word hf.2.1.2.2 (fits_words _ hf.2.2)))))
      · rw [if_neg h2] at hf; cases hf.2
  | tier t =>
    simp only [It.fine, Ti.fine, Bool.and_eq_true] at hf
    refine cons_word (good_word (by decide +kernel)) (app_words (mode_words hf.1.1) (cons_word (good_word ?_) (num_word hf.2 nil_words)))
    unfold kindW
    repeat' split
    all_goals decide +kernel
/-- Words, each behind a space. -/
theorem Lx_words {r : List Nat} {S : List (Nat × List Nat)} (hr : ∀ c r', r = c :: r' → wordB c = false ∧ digitB c = false) (h : Lx r S) :
    ∀ A : List (Nat × List Nat), (∀ x ∈ A, good x.1 x.2) → Lx ((A.map (·.2)).flatMap (32 :: ·) ++ r) (A ++ S)
  | [], _ => h
  | x :: A, hA => by
    rw [List.map_cons, List.flatMap_cons, List.cons_append, List.cons_append, List.append_assoc, List.cons_append]
    refine Lx_blank (by decide) (Lx_tok (hA x (by simp)) (fun c r' e => ?_) (Lx_words hr h A fun y hy => hA y (by simp [hy])))
    cases A with
    | nil => exact hr c r' e
    | cons y A =>
      rw [List.map_cons, List.flatMap_cons, List.cons_append, List.cons_append] at e
      exact sep32 c r' e
theorem Lx_line {i : It} (hf : i.fine = true) (hw : i.wok = true) {r : List Nat} {S : List (Nat × List Nat)} (h : Lx r S) : Lx (lineG i ++ r) (i.toks ++ (3, asc ";") :: S) := by
  obtain ⟨h1, h2⟩ := item_words hf hw
  unfold lineG
  rw [List.cons_append, List.append_assoc]
  refine Lx_blank (by decide) ?_
  rw [← h1]
  exact Lx_words sep59 (Lx_tok (gm (by decide)) sep10 (Lx_blank (by decide) h)) _ h2
def itemsS (V : List It) : List (Nat × List Nat) := V.flatMap fun i => i.toks ++ [(3, asc ";")]
theorem Lx_lines : ∀ (V : List It), V.all It.fine = true → V.all It.wok = true → ∀ {r : List Nat} {S : List (Nat × List Nat)}, Lx r S → Lx (V.flatMap lineG ++ r) (itemsS V ++ S)
  | [], _, _, _, _, h => h
  | i :: V, hf, hw, r, S, h => by
    rw [List.all_cons, Bool.and_eq_true] at hf hw
    rw [List.flatMap_cons, List.append_assoc]
    have := Lx_line hf.1 hw.1 (Lx_lines V hf.2 hw.2 h)
    unfold itemsS at this ⊢
    rw [List.flatMap_cons, List.append_assoc, List.append_assoc]
    exact this
def gameS (n : List Nat) (V : List It) : List (Nat × List Nat) := (1, asc "game") :: (1, n) :: (3, asc "{") :: (itemsS V ++ [(3, asc "}")])
def gameX (n : List Nat) (V : List It) : List Nat := asc "game" ++ (32 :: n) ++ asc " {\n" ++ V.flatMap lineG ++ asc "}\n"
theorem game_Lx {n : List Nat} (hn : wordL n = true) {V : List It} (hf : V.all It.fine = true) (hw : V.all It.wok = true) : Lx (gameX n V) (gameS n V) := by
  have h := Lx_lines V hf hw (Lx_tok (k := 3) (t := asc "}") (gm (by decide)) sep10 (Lx_blank (by decide) Lx_nil))
  have h1 := Lx_tok (k := 3) (t := asc "{") (gm (by decide)) sep10 (Lx_blank (b := 10) (by decide) h)
  have h2 := Lx_tok (good_word hn) sep32 (Lx_blank (b := 32) (by decide) h1)
  have h3 := Lx_tok (k := 1) (t := asc "game") (good_word (by decide +kernel)) sep32 (Lx_blank (b := 32) (by decide) h2)
  have e : gameX n V = asc "game" ++ 32 :: (n ++ 32 :: (asc "{" ++ 10 :: (V.flatMap lineG ++ (asc "}" ++ 10 :: [])))) := by
    unfold gameX
    rw [show asc " {\n" = 32 :: (asc "{" ++ [10]) by decide +kernel, show asc "}\n" = asc "}" ++ [10] by decide +kernel]
    simp only [List.append_assoc, List.cons_append, List.nil_append]
  rw [e]
  exact h3
/-! Reading. -/
theorem st_less {L : List Tk} {n m : Int} {M : List (Int × List Nat)} (hn : fitB n = true) (hm : n ≤ m) (h : L.map Kt = (2, dec n.toNat) :: M) (hM : M ≠ []) : lessT m L = some (n, nxT L) ∧ (nxT L).map Kt = M := by
  obtain ⟨h1, h2⟩ := st_num hn h hM
  unfold lessT
  rw [h1]
  exact ⟨if_pos hm, h2⟩
theorem st_len {L : List Tk} {M : List (Int × List Nat)} (h : L.map Kt = M) : L.length = M.length := by rw [← h, List.length_map]
theorem nums_read {M : List (Int × List Nat)} (hM : M ≠ []) (hk : ∀ x ∈ M.head?, x.1 ≠ 2) : ∀ (Z : List Int) (f : Nat) (L : List Tk), Z.all fitB = true → Z.length < f → L.map Kt = inK (numS Z) ++ M → ∃ L', numsT f L = (Z, L') ∧ L'.map Kt = M
  | [], f + 1, L, _, _, h => by
    have h : L.map Kt = M := h
    obtain ⟨x, M', rfl⟩ : ∃ x M', M = x :: M' := by cases M with | nil => exact absurd rfl hM | cons x M' => exact ⟨x, M', rfl⟩
    refine ⟨L, ?_, h⟩
    have hx := hk x (by simp)
    unfold numsT
    have : numT L = none := by
      unfold numT
      rw [if_neg]
      intro e
      cases L with
      | nil => cases h
      | cons t r =>
        rw [List.map_cons, List.cons.injEq] at h
        apply hx
        rw [← h.1]
        exact e.1
    rw [this]
  | n :: Z, f + 1, L, hz, hf, h => by
    rw [List.all_cons, Bool.and_eq_true] at hz
    have h' : L.map Kt = (2, dec n.toNat) :: (inK (numS Z) ++ M) := h
    obtain ⟨e, h2⟩ := st_num hz.1 h' (by intro e; exact hM (List.append_eq_nil_iff.1 e).2)
    obtain ⟨L', e3, h3⟩ := nums_read hM hk Z f (nxT L) hz.2 (by simpa using hf) h2
    refine ⟨L', ?_, h3⟩
    unfold numsT
    rw [e]
    dsimp only
    rw [e3]
theorem hit_read {w : List Nat} {n : Int} (hn : hitB n = true) {L : List Tk} {M : List (Int × List Nat)} (hM : M ≠ []) (hd : ∀ x ∈ M.head?, x ≠ (1, w)) (h : L.map Kt = inK (hitS w n) ++ M) : ∃ L', hitT w L = .ok (n, L') ∧ L'.map Kt = M := by
  unfold hitS at h
  unfold hitT
  by_cases e : n = 0
  · subst e
    rw [if_pos rfl] at h
    have h : L.map Kt = M := h
    obtain ⟨x, M', rfl⟩ : ∃ x M', M = x :: M' := by cases M with | nil => exact absurd rfl hM | cons x M' => exact ⟨x, M', rfl⟩
    have : isT 1 w L = none := isT_no fun e => by
      cases L with
      | nil => cases h
      | cons t r =>
        rw [List.map_cons, List.cons.injEq] at h
        refine hd x (by simp) ?_
        rw [← h.1]
        exact Prod.ext e.1 e.2
    rw [this]
    exact ⟨L, rfl, h⟩
  · rw [if_neg e] at h
    have hf : fitB n = true := by unfold hitB at hn; simpa [e] using hn
    have h' : L.map Kt = (1, w) :: (2, dec n.toNat) :: M := h
    obtain ⟨e1, h1⟩ := st_is h' (by simp)
    obtain ⟨e2, h2⟩ := st_num hf h1 hM
    rw [e1]
    dsimp only
    rw [thenT_some e2]
    exact ⟨_, rfl, h2⟩
theorem is_not {k : Int} {w : List Nat} {L : List Tk} {x : Int × List Nat} {M : List (Int × List Nat)} (h : L.map Kt = x :: M) (hx : x ≠ (k, w)) : isT k w L = none := isT_no fun e => by
  cases L with
  | nil => cases h
  | cons t r =>
    rw [List.map_cons, List.cons.injEq] at h
    apply hx
    rw [← h.1]
    exact Prod.ext e.1 e.2
theorem pair_read {a b : Int} (ha : fitB a = true) (hb : fitB b = true) {L : List Tk} {M : List (Int × List Nat)} (hM : M ≠ []) (h : L.map Kt = (2, dec a.toNat) :: (1, asc "of") :: (2, dec b.toNat) :: M) : ∃ L', pairT L = .ok ((a, b), L') ∧ L'.map Kt = M := by
  obtain ⟨e1, h1⟩ := st_num ha h (by simp)
  obtain ⟨e2, h2⟩ := st_is h1 (by simp)
  obtain ⟨e3, h3⟩ := st_num hb h2 hM
  refine ⟨_, ?_, h3⟩
  unfold pairT
  rw [thenT_some e1, thenT_some e2, thenT_some e3]
/-- Weekdays one after the other. -/
def dayA : List Nat → Nat → Option Nat
  | [], d => some d
  | i :: r, d => if d / 2 ^ i % 2 = 1 then none else dayA r (d + 2 ^ i)
theorem dayA_B (d : Nat) (h : d ≤ 127) : dayA (dayB d) 0 = some d := by
  have : ∀ d : Fin 128, dayA (dayB d.1) 0 = some d.1 := by decide +kernel
  exact this ⟨d, by omega⟩
theorem dayI_W {i : Nat} (h : i < 7) : dayI (dayW.getD i []) = some i ∧ dayW.getD i [] ≠ asc "at" := by
  have : ∀ i : Fin 7, dayI (dayW.getD i.1 []) = some i.1 ∧ dayW.getD i.1 [] ≠ asc "at" := by decide +kernel
  exact this ⟨i, h⟩
theorem days_read {M : List (Int × List Nat)} (hM : M ≠ []) : ∀ (is : List Nat) (d r : Nat) (f : Nat) (L : List Tk), (∀ i ∈ is, i < 7) → dayA is d = some r → r ≠ 0 → is.length < f → L.map Kt = inK (dayX is) ++ (1, asc "at") :: M → ∃ L', daysT f L d = .ok (r, L') ∧ L'.map Kt = M
  | [], d, r, f + 1, L, _, ha, hr, _, h => by
    have ha : d = r := Option.some.inj ha
    subst ha
    have h : L.map Kt = (1, asc "at") :: M := h
    obtain ⟨h1, h2, h3⟩ := st_next h hM
    refine ⟨_, ?_, h3⟩
    unfold daysT
    rw [if_pos ⟨hr, h1, h2⟩]
  | i :: is, d, r, f + 1, L, hi, ha, hr, hf, h => by
    have hi7 := hi i (by simp)
    obtain ⟨w1, w2⟩ := dayI_W hi7
    have h' : L.map Kt = (1, dayW.getD i []) :: (inK (dayX is) ++ (1, asc "at") :: M) := h
    obtain ⟨h1, h2, h3⟩ := st_next h' (by simp)
    unfold dayA at ha
    split at ha
    · cases ha
    · rename_i hb
      obtain ⟨L', e, hL⟩ := days_read hM is (d + 2 ^ i) r f (nxT L) (fun j hj => hi j (by simp [hj])) ha hr (by simpa using hf) h3
      refine ⟨L', ?_, hL⟩
      unfold daysT
      rw [if_neg (fun e => w2 (h2.symm.trans e.2.2)), if_neg (fun e => e h1), h2, w1]
      dsimp only
      rw [if_neg hb, e]
def It.key : It → Option (List Nat)
  | .two w _ _ => some (if w = asc "bonus" then asc "bonus" else asc "choose")
  | .num w _ => some w
  | .days _ _ => some (asc "days")
  | _ => none
def It.eff (g : Gm) : It → Gm
  | .two w a b => if w = asc "bonus" then { g with n := putN (putN g.n 4 a) 5 b } else { g with n := putN (putN (putN g.n 0 (if w = asc "digits" then 2 else 1)) 2 a) 3 b }
  | .num w n => match simpleI w with | some i => { g with n := putN g.n i n } | none => g
  | .days d t => { g with n := putN (putN g.n 9 d) 10 t }
  | .addon a => { g with addons := g.addons ++ [a] }
  | .tier t => { g with tiers := g.tiers ++ [t] }
def It.see (seen : List (List Nat)) (i : It) : List (List Nat) := match i.key with | some k => k :: seen | none => seen
theorem day_read {d : Nat} {t : Int} (h0 : d ≠ 0) (h1 : d ≤ 127) (h2 : 0 ≤ t) (h3 : t ≤ 1439) {L : List Tk} {M : List (Int × List Nat)} (hM : M ≠ [])
    (h : L.map Kt = inK (dayX (dayB d)) ++ (1, asc "at") :: (2, dec (t / 60).toNat) :: (3, asc ":") :: (2, dec (t % 60).toNat) :: M) : ∃ L', dayT L = .ok (((d : Int), t), L') ∧ L'.map Kt = M := by
  obtain ⟨f1, f2⟩ := day_fit h2 h3
  obtain ⟨L1, e1, k1⟩ := days_read (M := (2, dec (t / 60).toNat) :: (3, asc ":") :: (2, dec (t % 60).toNat) :: M) (by simp) (dayB d) 0 d L.length L (fun i hi => dayB_lt hi) (dayA_B d h1) h0
    (by rw [st_len h]; simp [inK, dayX] <;> omega) h
  obtain ⟨e2, k2⟩ := st_less f1 (show t / 60 ≤ 23 by omega) k1 (by simp)
  obtain ⟨e3, k3⟩ := st_is k2 (by simp)
  obtain ⟨e4, k4⟩ := st_less f2 (show t % 60 ≤ 59 by omega) k3 hM
  refine ⟨_, ?_, k4⟩
  unfold dayT
  rw [bindT_ok e1, thenT_some e2, thenT_some e3, thenT_some e4]
  dsimp only
  rw [show 60 * (t / 60) + t % 60 = t by omega]
theorem kindW_prize {k : Int} (h : (decide (k = 1) || decide (k = 2) || decide (k = 3)) = true) : prizeK (kindW k) = some k := by
  simp only [Bool.or_eq_true, decide_eq_true_eq] at h
  rcases h with (rfl | rfl) | rfl <;> decide +kernel
theorem kindW_ne (k : Int) : kindW k ≠ asc "main" ∧ kindW k ≠ asc "bonus" ∧ kindW k ≠ asc "extra" ∧ kindW k ≠ asc "exact" ∧ kindW k ≠ asc "box" ∧ kindW k ≠ asc "front" ∧ kindW k ≠ asc "back" := by
  unfold kindW
  repeat' split
  all_goals decide +kernel
theorem mode_read {t : Ti} (hf : t.fineM = true) {L : List Tk} {M : List (Int × List Nat)} (h : L.map Kt = inK (modeS t) ++ (1, kindW t.kind) :: M) : ∃ L', modeT L = .ok ((t.mode, t.main, t.bonus, t.extra), L') ∧ L'.map Kt = (1, kindW t.kind) :: M := by
  obtain ⟨k1, k2, k3, k4, k5, k6, k7⟩ := kindW_ne t.kind
  unfold Ti.fineM at hf
  unfold modeS at h
  have ne1 : ∀ {a b : List Nat}, a ≠ b → ((1 : Int), a) ≠ (1, b) := fun h e => h (congrArg Prod.snd e)
  by_cases h0 : t.mode = 0
  · rw [if_pos h0] at hf h
    simp only [Bool.and_eq_true] at hf
    have hA : ∀ w : List Nat, w ≠ asc "main" → w ≠ asc "bonus" → w ≠ asc "extra" → kindW t.kind ≠ w → isT 1 w L = none := by
      intro w n1 n2 n3 n4
      unfold hitS at h
      by_cases a1 : t.main = 0 <;> by_cases a2 : t.bonus = 0 <;> by_cases a3 : t.extra = 0 <;> simp only [a1, a2, a3, ↓reduceIte, List.nil_append, List.append_nil, inK, List.map_cons, List.map_nil, List.cons_append, List.map_append] at h <;>
        exact is_not h (ne1 (by first | exact n4 | exact Ne.symm n1 | exact Ne.symm n2 | exact Ne.symm n3))
    have h' : L.map Kt = inK (hitS (asc "main") t.main) ++ (inK (hitS (asc "bonus") t.bonus) ++ (inK (hitS (asc "extra") t.extra) ++ (1, kindW t.kind) :: M)) := by
      rw [h]; simp [inK, List.map_append, List.append_assoc]
    obtain ⟨L1, e1, g1⟩ := hit_read hf.1.1 (by simp) (by
      unfold hitS
      by_cases a2 : t.bonus = 0 <;> by_cases a3 : t.extra = 0 <;> simp only [a2, a3, ↓reduceIte, List.nil_append, inK, List.map_cons, List.map_nil, List.cons_append, List.head?_cons, Option.mem_some_iff] <;> rintro x rfl <;> refine ne1 ?_ <;> first | exact k1 | decide +kernel) h'
    obtain ⟨L2, e2, g2⟩ := hit_read hf.1.2 (by simp) (by
      unfold hitS
      by_cases a3 : t.extra = 0 <;> simp only [a3, ↓reduceIte, List.nil_append, inK, List.map_cons, List.map_nil, List.cons_append, List.head?_cons, Option.mem_some_iff] <;> rintro x rfl <;> refine ne1 ?_ <;> first | exact k2 | decide +kernel) g1
    obtain ⟨L3, e3, g3⟩ := hit_read hf.2 (by simp) (by
      simp only [List.head?_cons, Option.mem_some_iff]; rintro x rfl; exact ne1 k3) g2
    refine ⟨L3, ?_, g3⟩
    unfold modeT
    rw [hA _ (by decide +kernel) (by decide +kernel) (by decide +kernel) k4, hA _ (by decide +kernel) (by decide +kernel) (by decide +kernel) k5, hA _ (by decide +kernel) (by decide +kernel) (by decide +kernel) k6, hA _ (by decide +kernel) (by decide +kernel) (by decide +kernel) k7]
    dsimp only
    rw [bindT_ok e1, bindT_ok e2, bindT_ok e3, h0]
  rw [if_neg h0] at hf h
  by_cases h12 : t.mode = 1 ∨ t.mode = 2
  · rw [if_pos h12] at hf
    simp only [Bool.and_eq_true, decide_eq_true_eq] at hf
    obtain ⟨⟨z1, z2⟩, z3⟩ := hf
    by_cases h1 : t.mode = 1
    · rw [if_pos h1] at h
      have h' : L.map Kt = (1, asc "exact") :: (1, kindW t.kind) :: M := h
      obtain ⟨e1, g1⟩ := st_is h' (by simp)
      refine ⟨_, ?_, g1⟩
      unfold modeT
      rw [e1, h1, z1, z2, z3]
    · have h2 := h12.resolve_left h1
      rw [if_neg h1, if_pos h2] at h
      have h' : L.map Kt = (1, asc "box") :: (1, kindW t.kind) :: M := h
      obtain ⟨e1, g1⟩ := st_is h' (by simp)
      refine ⟨_, ?_, g1⟩
      unfold modeT
      rw [is_not h' (ne1 (by decide +kernel)), e1, h2, z1, z2, z3]
  rw [if_neg h12] at hf
  rw [if_neg (fun e => h12 (.inl e)), if_neg (fun e => h12 (.inr e))] at h
  by_cases h34 : t.mode = 3 ∨ t.mode = 4
  · rw [if_pos h34] at hf
    simp only [Bool.and_eq_true, decide_eq_true_eq] at hf
    obtain ⟨⟨z2, z3⟩, hm⟩ := hf
    by_cases h3 : t.mode = 3
    · rw [if_pos h3] at h
      have h' : L.map Kt = (1, asc "front") :: (2, dec t.main.toNat) :: (1, kindW t.kind) :: M := h
      obtain ⟨e1, g1⟩ := st_is h' (by simp)
      obtain ⟨e2, g2⟩ := st_num hm g1 (by simp)
      refine ⟨_, ?_, g2⟩
      unfold modeT
      rw [is_not h' (ne1 (by decide +kernel)), is_not h' (ne1 (by decide +kernel)), e1]
      dsimp only
      rw [thenT_some e2, h3, z2, z3]
    · have h4 := h34.resolve_left h3
      rw [if_neg h3] at h
      have h' : L.map Kt = (1, asc "back") :: (2, dec t.main.toNat) :: (1, kindW t.kind) :: M := h
      obtain ⟨e1, g1⟩ := st_is h' (by simp)
      obtain ⟨e2, g2⟩ := st_num hm g1 (by simp)
      refine ⟨_, ?_, g2⟩
      unfold modeT
      rw [is_not h' (ne1 (by decide +kernel)), is_not h' (ne1 (by decide +kernel)), is_not h' (ne1 (by decide +kernel)), e1]
      dsimp only
      rw [thenT_some e2, h4, z2, z3]
  · rw [if_neg h34] at hf; cases hf
theorem tier_read {t : Ti} (hf : t.fine = true) {L : List Tk} {M : List (Int × List Nat)} (hM : M ≠ []) (h : L.map Kt = inK (modeS t) ++ (1, kindW t.kind) :: (2, dec t.value.toNat) :: M) : ∃ L', tierT L = .ok (t, L') ∧ L'.map Kt = M := by
  unfold Ti.fine at hf
  simp only [Bool.and_eq_true] at hf
  obtain ⟨L1, e1, h1⟩ := mode_read hf.1.1 h
  obtain ⟨n1, n2, n3⟩ := st_next h1 (by simp)
  obtain ⟨e2, h2⟩ := st_num hf.2 n3 hM
  refine ⟨_, ?_, h2⟩
  unfold tierT
  rw [bindT_ok e1, if_neg (fun e => e n1), n2, kindW_prize (by simpa using hf.1.2)]
  dsimp only
  rw [thenT_some e2]
theorem addon_read {a : Ad} (hf : a.fine = true) {L : List Tk} {M : List (Int × List Nat)} (hM : M ≠ []) (hk : ∀ x ∈ M.head?, x.1 ≠ 2)
    (h : L.map Kt = inK (if a.kind = 1 then (1, bs a.name) :: (1, asc "factor") :: (2, dec a.price.toNat) :: numS a.factors else (1, bs a.name) :: (1, asc "serial") :: (2, dec a.price.toNat) :: (2, dec a.digits.toNat) :: numS a.serials) ++ M) : ∃ L', addonT L = .ok (a, L') ∧ L'.map Kt = M := by
  unfold Ad.fine at hf
  rw [Bool.and_eq_true] at hf
  obtain ⟨hn, hf⟩ := hf
  by_cases h1 : a.kind = 1
  · rw [if_pos h1] at hf h
    simp only [Bool.and_eq_true, decide_eq_true_eq] at hf
    obtain ⟨⟨⟨z1, z2⟩, hp⟩, hl⟩ := hf
    have h' : L.map Kt = (1, bs a.name) :: (1, asc "factor") :: (2, dec a.price.toNat) :: (inK (numS a.factors) ++ M) := h
    obtain ⟨n1, n2, n3⟩ := st_next h' (by simp)
    obtain ⟨m1, m2, m3⟩ := st_next n3 (by simp)
    obtain ⟨e3, h3⟩ := st_num hp m3 (by intro e; exact hM (List.append_eq_nil_iff.1 e).2)
    obtain ⟨L', e4, h4⟩ := nums_read hM hk a.factors (nxT (nxT (nxT L))).length _ hl (by
      rw [st_len h3]; cases M with | nil => exact absurd rfl hM | cons x M => simp [inK, numS] <;> omega) h3
    refine ⟨L', ?_, h4⟩
    unfold addonT
    rw [if_neg (fun e => e n1), if_neg (fun e => e m1), if_pos m2, thenT_some e3, e4]
    have hnm := bs_inj n2
    have hs : a.serials = [] := List.eq_nil_of_length_eq_zero z2
    obtain ⟨nm, k, p, fs, dg, sr⟩ := a
    dsimp only at *
    subst h1 hs z1 hnm
    rfl
  · rw [if_neg h1] at hf h
    by_cases h2 : a.kind = 2
    · rw [if_pos h2] at hf
      simp only [Bool.and_eq_true, decide_eq_true_eq, and_true] at hf
      obtain ⟨⟨z1, hp, hd⟩, hl⟩ := hf
      have h' : L.map Kt = (1, bs a.name) :: (1, asc "serial") :: (2, dec a.price.toNat) :: (2, dec a.digits.toNat) :: (inK (numS a.serials) ++ M) := h
      obtain ⟨n1, n2, n3⟩ := st_next h' (by simp)
      obtain ⟨m1, m2, m3⟩ := st_next n3 (by simp)
      obtain ⟨e3, h3⟩ := st_num hp m3 (by simp)
      obtain ⟨e5, h5⟩ := st_num hd h3 (by intro e; exact hM (List.append_eq_nil_iff.1 e).2)
      obtain ⟨L', e4, h4⟩ := nums_read hM hk a.serials (nxT (nxT (nxT (nxT L)))).length _ hl (by
        rw [st_len h5]; cases M with | nil => exact absurd rfl hM | cons x M => simp [inK, numS] <;> omega) h5
      refine ⟨L', ?_, h4⟩
      unfold addonT
      rw [if_neg (fun e => e n1), if_neg (fun e => e m1), if_neg (by rw [m2]; decide +kernel), if_pos m2, thenT_some e3, thenT_some e5, e4]
      have hnm := bs_inj n2
      have hs : a.factors = [] := List.eq_nil_of_length_eq_zero z1
      obtain ⟨nm, k, p, fs, dg, sr⟩ := a
      dsimp only at *
      subst h2 hs hnm
      rfl
    · rw [if_neg h2] at hf; cases hf
theorem simple_ne {w : List Nat} (h : (simpleI w).isSome = true) : w ≠ asc "choose" ∧ w ≠ asc "digits" ∧ w ≠ asc "bonus" ∧ w ≠ asc "days" ∧ w ≠ asc "addon" ∧ w ≠ asc "tier" := by
  have hm := simple_mem h
  refine ⟨?_, ?_, ?_, ?_, ?_, ?_⟩ <;> (rintro rfl; exact absurd hm (by decide +kernel))
/-- One item is read. -/
theorem item_read {i : It} (hf : i.fine = true) (hw : i.wok = true) (hz : ∀ d t, i = .days d t → d ≠ 0) {L : List Tk} {M : List (Int × List Nat)} (hM : M ≠ []) (hk : ∀ x ∈ M.head?, x.1 ≠ 2) (h : L.map Kt = inK i.toks ++ M) {g : Gm} {seen : List (List Nat)}
    (hs : ∀ k, i.key = some k → k ∉ seen) : ∃ L', itemG L g seen = .ok ((i.eff g, i.see seen), L') ∧ L'.map Kt = M := by
  cases i with
  | two w a b =>
    simp only [It.fine, Bool.and_eq_true] at hf
    have h' : L.map Kt = (1, w) :: (2, dec a.toNat) :: (1, asc "of") :: (2, dec b.toNat) :: M := h
    obtain ⟨n1, n2, n3⟩ := st_next h' (by simp)
    obtain ⟨L', e, k⟩ := pair_read hf.1 hf.2 hM n3
    refine ⟨L', ?_, k⟩
    have hs := hs _ rfl
    unfold itemG
    rw [if_neg (fun e => e n1), n2]
    by_cases hb : w = asc "bonus"
    · subst hb
      rw [if_pos rfl] at hs
      rw [if_neg (by decide +kernel), if_pos rfl, if_neg hs, bindT_ok e]
      simp only [It.eff, It.see, It.key, if_pos]
    · have hcd : w = asc "choose" ∨ w = asc "digits" := by simpa [It.wok, hb] using hw
      rw [if_neg hb] at hs
      rw [if_pos hcd, if_neg hs, bindT_ok e]
      simp only [It.eff, It.see, It.key, if_neg hb]
  | num w n =>
    have h' : L.map Kt = (1, w) :: (2, dec n.toNat) :: M := h
    obtain ⟨n1, n2, n3⟩ := st_next h' (by simp)
    obtain ⟨e, k⟩ := st_num hf n3 hM
    refine ⟨_, ?_, k⟩
    have hs := hs _ rfl
    obtain ⟨w1, w2, w3, w4, w5, w6⟩ := simple_ne hw
    obtain ⟨j, hj⟩ : ∃ j, simpleI w = some j := Option.isSome_iff_exists.1 hw
    unfold itemG
    rw [if_neg (fun e => e n1), n2, if_neg (fun e => e.elim w1 w2), if_neg w3, if_neg w4, if_neg w5, if_neg w6, hj]
    dsimp only
    rw [if_neg hs, thenT_some e]
    simp only [It.eff, It.see, It.key, hj]
  | days d t =>
    simp only [It.fine, Bool.and_eq_true, decide_eq_true_eq] at hf
    have h' : L.map Kt = (1, asc "days") :: (inK (dayX (dayB d)) ++ (1, asc "at") :: (2, dec (t / 60).toNat) :: (3, asc ":") :: (2, dec (t % 60).toNat) :: M) := by
      rw [h]; simp [It.toks, inK, List.map_append]
    obtain ⟨n1, n2, n3⟩ := st_next h' (by simp)
    obtain ⟨L', e, k⟩ := day_read (hz d t rfl) hf.1.1 hf.1.2 hf.2 hM n3
    refine ⟨L', ?_, k⟩
    have hs := hs _ rfl
    unfold itemG
    rw [if_neg (fun e => e n1), n2, if_neg (by decide +kernel), if_neg (by decide +kernel), if_pos rfl, if_neg hs, bindT_ok e]
    rfl
  | addon a =>
    have h' : L.map Kt = (1, asc "addon") :: (inK (if a.kind = 1 then (1, bs a.name) :: (1, asc "factor") :: (2, dec a.price.toNat) :: numS a.factors else (1, bs a.name) :: (1, asc "serial") :: (2, dec a.price.toNat) :: (2, dec a.digits.toNat) :: numS a.serials) ++ M) := by
      rw [h]; by_cases e : a.kind = 1
      · simp only [It.toks, if_pos e]; rfl
      · simp only [It.toks, if_neg e]; rfl
    obtain ⟨n1, n2, n3⟩ := st_next h' (by intro e; exact hM (List.append_eq_nil_iff.1 e).2)
    obtain ⟨L', e, k⟩ := addon_read hf hM hk n3
    refine ⟨L', ?_, k⟩
    unfold itemG
    rw [if_neg (fun e => e n1), n2, if_neg (by decide +kernel), if_neg (by decide +kernel), if_neg (by decide +kernel), if_pos rfl, bindT_ok e]
    rfl
  | tier t =>
    have h' : L.map Kt = (1, asc "tier") :: (inK (modeS t) ++ (1, kindW t.kind) :: (2, dec t.value.toNat) :: M) := by
      rw [h]; simp [It.toks, inK, List.map_append]
    obtain ⟨n1, n2, n3⟩ := st_next h' (by simp)
    obtain ⟨L', e, k⟩ := tier_read hf hM n3
    refine ⟨L', ?_, k⟩
    unfold itemG
    rw [if_neg (fun e => e n1), n2, if_neg (by decide +kernel), if_neg (by decide +kernel), if_neg (by decide +kernel), if_neg (by decide +kernel), if_pos rfl, bindT_ok e]
    rfl
end Go.Proofs.YtbdkggnajipdhaaGreatDoor
