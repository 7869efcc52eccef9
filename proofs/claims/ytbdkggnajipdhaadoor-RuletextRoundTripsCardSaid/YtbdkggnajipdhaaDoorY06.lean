/- Texts laid one behind the other: RtP, LexA, LexB, Shelf, LexC. Each says at its head what it proves. -/
import Derived.Test.YtbdkggnajipdhaaDoorY05
import Derived.Shelf.Strings.Builder1
import Derived.Shelf.Strconv.Itoa0
import Derived.Shelf.Strconv.Itoa1
import Derived.Shelf.LaysM
import Derived.Shelf.Strconv.Itoa2
import Derived.Shelf.Strconv.Itoa3
import Derived.Shelf.Strings.Search1
import Derived.Shelf.Strings.Search2
import Derived.Shelf.Strings.Search3
import Derived.Shelf.Strings.Count
import Derived.Shelf.Strings.Shaped
import Derived.Shelf.Strings.LastIndex
import Derived.Test.YtbdkggnajipdhaaDoorProg
set_option linter.unusedSimpArgs false
/- Plain specification of chapter 11: games, their rules as text, reading tokens. No program in sight. -/
namespace Go.Proofs.YtbdkggnajipdhaaDoor
structure Ad where
  name : ByteArray
  kind : Int
  price : Int
  factors : List Int
  digits : Int
  serials : List Int
structure Ti where
  main : Int
  bonus : Int
  extra : Int
  mode : Int
  kind : Int
  value : Int
/-- A game: its name, its 19 numbers in their order, add-ons, tiers. -/
structure Gm where
  name : ByteArray
  n : Nat → Int
  addons : List Ad
  tiers : List Ti
def putN (n : Nat → Int) (i : Nat) (v : Int) : Nat → Int := fun j => if j = i then v else n j
def noGm : Gm := ⟨ByteArray.empty, fun _ => 0, [], []⟩
/-! Reading. -/
def bindT {α β : Type} (x : Except (Int × List Tk) α) (f : α → Except (Int × List Tk) β) : Except (Int × List Tk) β := match x with
  | .ok a => f a
  | .error e => .error e
def lessT (m : Int) (L : List Tk) : Option (Int × List Tk) := match numT L with
  | some x => if x.1 ≤ m then some x else none
  | none => none
def numsT : Nat → List Tk → List Int × List Tk
  | 0, L => ([], L)
  | f + 1, L => match numT L with
    | none => ([], L)
    | some a => (a.1 :: (numsT f a.2).1, (numsT f a.2).2)
def simpleI (w : List Nat) : Option Nat :=
  if w = asc "extra" then some 6 else if w = asc "price" then some 1 else if w = asc "draws" then some 7 else if w = asc "system" then some 8 else if w = asc "close" then some 11
  else if w = asc "cancel" then some 12 else if w = asc "expiry" then some 13 else if w = asc "pool" then some 14 else if w = asc "reserve" then some 15 else if w = asc "round" then some 16
  else if w = asc "cap" then some 17 else if w = asc "rolls" then some 18 else none
def dayW : List (List Nat) := [asc "mon", asc "tue", asc "wed", asc "thu", asc "fri", asc "sat", asc "sun"]
def dayI (w : List Nat) : Option Nat := dayW.findIdx? fun d => decide (d = w)
def pairT (L : List Tk) : Except (Int × List Tk) ((Int × Int) × List Tk) :=
  thenT (numT L) L fun a => thenT (isT 1 (asc "of") a.2) a.2 fun L2 => thenT (numT L2) L2 fun b => .ok ((a.1, b.1), b.2)
def daysT : Nat → List Tk → Nat → Except (Int × List Tk) (Nat × List Tk)
  | 0, L, _ => .error (1, L)
  | f + 1, L, d =>
    if d ≠ 0 ∧ (hdT L).kind = 1 ∧ bs (hdT L).text = asc "at" then .ok (d, nxT L)
    else if (hdT L).kind ≠ 1 then .error (1, L)
    else match dayI (bs (hdT L).text) with
      | none => .error (1, L)
      | some i => if d / 2 ^ i % 2 = 1 then .error (1, L) else daysT f (nxT L) (d + 2 ^ i)
def dayT (L : List Tk) : Except (Int × List Tk) ((Int × Int) × List Tk) :=
  bindT (daysT L.length L 0) fun d => thenT (lessT 23 d.2) d.2 fun h => thenT (isT 3 (asc ":") h.2) h.2 fun L3 => thenT (lessT 59 L3) L3 fun m => .ok (((d.1 : Int), 60 * h.1 + m.1), m.2)
def addonT (L : List Tk) : Except (Int × List Tk) (Ad × List Tk) :=
  if (hdT L).kind ≠ 1 then .error (1, L)
  else if (hdT (nxT L)).kind ≠ 1 then .error (1, nxT L)
  else if bs (hdT (nxT L)).text = asc "factor" then
    thenT (numT (nxT (nxT L))) (nxT (nxT L)) fun a => .ok (⟨(hdT L).text, 1, a.1, (numsT a.2.length a.2).1, 0, []⟩, (numsT a.2.length a.2).2)
  else if bs (hdT (nxT L)).text = asc "serial" then
    thenT (numT (nxT (nxT L))) (nxT (nxT L)) fun a => thenT (numT a.2) a.2 fun b => .ok (⟨(hdT L).text, 2, a.1, [], b.1, (numsT b.2.length b.2).1⟩, (numsT b.2.length b.2).2)
  else .error (1, nxT L)
def hitT (w : List Nat) (L : List Tk) : Except (Int × List Tk) (Int × List Tk) := match isT 1 w L with
  | some L1 => thenT (numT L1) L1 fun a => .ok a
  | none => .ok (0, L)
/-- How a tier compares: its mode, and three numbers. -/
def modeT (L : List Tk) : Except (Int × List Tk) ((Int × Int × Int × Int) × List Tk) :=
  match isT 1 (asc "exact") L with
  | some L1 => .ok ((1, 0, 0, 0), L1)
  | none => match isT 1 (asc "box") L with
    | some L1 => .ok ((2, 0, 0, 0), L1)
    | none => match isT 1 (asc "front") L with
      | some L1 => thenT (numT L1) L1 fun a => .ok ((3, a.1, 0, 0), a.2)
      | none => match isT 1 (asc "back") L with
        | some L1 => thenT (numT L1) L1 fun a => .ok ((4, a.1, 0, 0), a.2)
        | none => bindT (hitT (asc "main") L) fun a => bindT (hitT (asc "bonus") a.2) fun b => bindT (hitT (asc "extra") b.2) fun c => .ok ((0, a.1, b.1, c.1), c.2)
def prizeK (w : List Nat) : Option Int := if w = asc "fixed" then some 1 else if w = asc "share" then some 2 else if w = asc "jackpot" then some 3 else none
def tierT (L : List Tk) : Except (Int × List Tk) (Ti × List Tk) :=
  bindT (modeT L) fun m =>
    if (hdT m.2).kind ≠ 1 then .error (1, m.2)
    else match prizeK (bs (hdT m.2).text) with
      | none => .error (1, m.2)
      | some k => thenT (numT (nxT m.2)) (nxT m.2) fun v => .ok (⟨m.1.2.1, m.1.2.2.1, m.1.2.2.2, m.1.1, k, v.1⟩, v.2)
/-- One item, without its semicolon: the game so far, the items that were there. -/
def itemG (L : List Tk) (g : Gm) (seen : List (List Nat)) : Except (Int × List Tk) ((Gm × List (List Nat)) × List Tk) :=
  if (hdT L).kind ≠ 1 then .error (1, L)
  else if bs (hdT L).text = asc "choose" ∨ bs (hdT L).text = asc "digits" then
    if asc "choose" ∈ seen then .error (6, L)
    else bindT (pairT (nxT L)) fun a => .ok (({ g with n := putN (putN (putN g.n 0 (if bs (hdT L).text = asc "digits" then 2 else 1)) 2 a.1.1) 3 a.1.2 }, asc "choose" :: seen), a.2)
  else if bs (hdT L).text = asc "bonus" then
    if asc "bonus" ∈ seen then .error (6, L)
    else bindT (pairT (nxT L)) fun a => .ok (({ g with n := putN (putN g.n 4 a.1.1) 5 a.1.2 }, asc "bonus" :: seen), a.2)
  else if bs (hdT L).text = asc "days" then
    if asc "days" ∈ seen then .error (6, L)
    else bindT (dayT (nxT L)) fun a => .ok (({ g with n := putN (putN g.n 9 a.1.1) 10 a.1.2 }, asc "days" :: seen), a.2)
  else if bs (hdT L).text = asc "addon" then bindT (addonT (nxT L)) fun a => .ok (({ g with addons := g.addons ++ [a.1] }, seen), a.2)
  else if bs (hdT L).text = asc "tier" then bindT (tierT (nxT L)) fun a => .ok (({ g with tiers := g.tiers ++ [a.1] }, seen), a.2)
  else match simpleI (bs (hdT L).text) with
    | none => .error (1, L)
    | some i => if bs (hdT L).text ∈ seen then .error (6, L)
      else thenT (numT (nxT L)) (nxT L) fun a => .ok (({ g with n := putN g.n i a.1 }, bs (hdT L).text :: seen), a.2)
def gitemsT : Nat → List Tk → Gm → List (List Nat) → Except (Int × List Tk) ((Gm × List (List Nat)) × List Tk)
  | 0, L, _, _ => .error (1, L)
  | f + 1, L, g, seen =>
    if (hdT L).kind = 1 then bindT (itemG L g seen) fun a => thenT (isT 3 (asc ";") a.2) a.2 fun L2 => gitemsT f L2 a.1.1 a.1.2
    else .ok ((g, seen), L)
def closeT (x : (Gm × List (List Nat)) × List Tk) : Except (Int × List Tk) Gm :=
  thenT (isT 3 (asc "}") x.2) x.2 fun L => if (hdT L).kind = 0 then .ok (if asc "system" ∈ x.1.2 then x.1.1 else { x.1.1 with n := putN x.1.1.n 8 (x.1.1.n 2) }) else .error (1, L)
def gm0 (s : ByteArray) : Gm := ⟨s, putN (putN (fun _ => 0) 7 1) 16 1, [], []⟩
def gameT (L : List Tk) : Except (Int × List Tk) Gm :=
  thenT (isT 1 (asc "game") L) L fun L1 =>
    if (hdT L1).kind ≠ 1 then .error (1, L1)
    else thenT (isT 3 (asc "{") (nxT L1)) (nxT L1) fun L3 => bindT (gitemsT L3.length L3 (gm0 (hdT L1).text) []) closeT
/-- A text's game, the error, its line. -/
def parseG (s : ByteArray) : Gm × Int × Int :=
  if (scanE s).1 = 3 then (noGm, 3, 0)
  else if (scanE s).1 ≠ 0 then (noGm, (scanE s).1, 1 + (((bs s).take (scanE s).2.1.toNat).count 10 : Nat))
  else match gameT (scanE s).2.2 with
    | .ok g => (g, 0, 0)
    | .error (e, L) => (noGm, e, (hdT L).line)
/-! Printing. -/
def wordL (l : List Nat) : Bool := (match l with | c :: _ => letterB c | [] => false) && l.all wordB
structure Pr where
  X : List Nat
  bad : Bool
def Pr.req (p : Pr) (c : Bool) : Pr := ⟨p.X, p.bad || !c⟩
def Pr.add (p : Pr) (l : List Nat) : Pr := ⟨p.X ++ l, p.bad⟩
def Pr.lim (p : Pr) : Pr := p.req (decide (p.X.length ≤ 32768))
def Pr.ws (p : Pr) (l : List (List Nat)) : Pr := (p.add (l.flatMap (32 :: ·))).lim
def Pr.nums : Pr → List Int → Pr
  | p, [] => p
  | p, n :: r => if (p.req (fitB n)).bad then p.req (fitB n) else ((p.req (fitB n)).ws [fmtI n]).nums r
def Pr.nm (p : Pr) (s : ByteArray) : Pr := if (p.req (wordL (bs s))).bad then p.req (wordL (bs s)) else (p.req (wordL (bs s))).ws [bs s]
def Pr.begin (p : Pr) (w : List Nat) : Pr := (p.add [32]).ws [w]
def Pr.fin (p : Pr) : Pr := (p.add (asc ";\n")).lim
def Pr.opt (p : Pr) (w : List Nat) (n std : Int) : Pr := if n = std then p else ((p.begin w).nums [n]).fin
def Pr.two (p : Pr) (w : List Nat) (a b : Int) : Pr := ((((p.begin w).nums [a]).ws [asc "of"]).nums [b]).fin
def Pr.head (p : Pr) (n : Nat → Int) : Pr :=
  if n 0 = 1 ∨ n 0 = 2 then
    let p1 := p.two (if n 0 = 1 then asc "choose" else asc "digits") (n 2) (n 3)
    let p2 := if n 4 ≠ 0 ∨ n 5 ≠ 0 then p1.two (asc "bonus") (n 4) (n 5) else p1
    (((p2.opt (asc "extra") (n 6) 0).opt (asc "price") (n 1) 0).opt (asc "draws") (n 7) 1).opt (asc "system") (n 8) (n 2)
  else ⟨p.X, true⟩
def dayL (d : Nat) : List (List Nat) := ((List.range 7).filter fun i => d / 2 ^ i % 2 == 1).map fun i => dayW.getD i []
def Pr.dayw (p : Pr) (d : Nat) : Pr := (dayL d).foldl (fun p w => p.ws [w]) p
def Pr.days (p : Pr) (n : Nat → Int) : Pr :=
  let p := p.req (decide (0 ≤ n 9) && decide (n 9 ≤ 127) && decide (0 ≤ n 10) && decide (n 10 ≤ 1439))
  if n 9 = 0 then p.req (decide (n 10 = 0))
  else if p.bad then p
  else ((((((p.begin (asc "days")).dayw (n 9).toNat).ws [asc "at"]).nums [n 10 / 60]).ws [asc ":"]).nums [n 10 % 60]).fin
def Pr.addon (p : Pr) (a : Ad) : Pr :=
  let p := (p.begin (asc "addon")).nm a.name
  (if a.kind = 1 then (((p.req (decide (a.digits = 0) && decide (a.serials.length = 0))).ws [asc "factor"]).nums [a.price]).nums a.factors
   else if a.kind = 2 then (((p.req (decide (a.factors.length = 0))).ws [asc "serial"]).nums [a.price, a.digits]).nums a.serials
   else ⟨p.X, true⟩).fin
def Pr.hits (p : Pr) (w : List Nat) (n : Int) : Pr := if n = 0 then p else (p.ws [w]).nums [n]
def Pr.mode (p : Pr) (t : Ti) : Pr :=
  if t.mode = 0 then ((p.hits (asc "main") t.main).hits (asc "bonus") t.bonus).hits (asc "extra") t.extra
  else if t.mode = 1 ∨ t.mode = 2 then (p.req (decide (t.main = 0) && decide (t.bonus = 0) && decide (t.extra = 0))).ws [if t.mode = 1 then asc "exact" else asc "box"]
  else if t.mode = 3 ∨ t.mode = 4 then ((p.req (decide (t.bonus = 0) && decide (t.extra = 0))).ws [if t.mode = 3 then asc "front" else asc "back"]).nums [t.main]
  else ⟨p.X, true⟩
def Pr.tier (p : Pr) (t : Ti) : Pr :=
  let p := (p.begin (asc "tier")).mode t
  ((if t.kind = 1 then p.ws [asc "fixed"] else if t.kind = 2 then p.ws [asc "share"] else if t.kind = 3 then p.ws [asc "jackpot"] else ⟨p.X, true⟩).nums [t.value]).fin
def Pr.all {α : Type} (f : Pr → α → Pr) : Pr → List α → Pr
  | p, [] => p
  | p, a :: r => if p.bad then p else Pr.all f (f p a) r
def Pr.opts (p : Pr) (n : Nat → Int) : Pr :=
  (((((((p.opt (asc "close") (n 11) 0).opt (asc "cancel") (n 12) 0).opt (asc "expiry") (n 13) 0).opt (asc "pool") (n 14) 0).opt (asc "reserve") (n 15) 0).opt (asc "round") (n 16) 1).opt (asc "cap") (n 17) 0).opt (asc "rolls") (n 18) 0
def Pr.game (g : Gm) : Pr :=
  let p := ((((⟨asc "game", false⟩ : Pr).nm g.name).add (asc " {\n")).head g.n).days g.n
  ((Pr.all Pr.tier (Pr.all Pr.addon (p.opts g.n) g.addons) g.tiers).add (asc "}\n")).lim
def printG (g : Gm) : List Nat := if (Pr.game g).bad then [] else (Pr.game g).X
/-! Examples. -/
def exG : ByteArray := toBA (asc "game d {\n  digits 3 of 10;\n  days wed sat at 20 : 30;\n  addon joker serial 100 2 300 5000;\n  tier exact fixed 50000;\n  tier front 2 fixed 500;\n}\n")
def exT : Gm := ⟨toBA (asc "d"), fun i => if i = 0 then 2 else if i = 2 then 3 else if i = 3 then 10 else if i = 7 then 1 else if i = 8 then 3 else if i = 9 then 36 else if i = 10 then 1230 else if i = 16 then 1 else 0,
  [⟨toBA (asc "joker"), 2, 100, [], 2, [300, 5000]⟩], [⟨0, 0, 0, 1, 1, 50000⟩, ⟨2, 0, 0, 3, 1, 500⟩]⟩
end Go.Proofs.YtbdkggnajipdhaaDoor
/- Walks: kinds of bytes, span, piece. -/
namespace Go.Proofs.YtbdkggnajipdhaaDoor
open Go.RowKit
set_option maxRecDepth 100000
def blankI (c : Int) : Bool := decide (c = 32) || decide (c = 9) || decide (c = 13) || decide (c = 10)
def letterI (c : Int) : Bool := decide (97 ≤ c) && decide (c ≤ 122)
def digitI (c : Int) : Bool := decide (48 ≤ c) && decide (c ≤ 57)
def wordI (c : Int) : Bool := letterI c || digitI c || decide (c = 45)
def remI (c : Int) : Bool := !decide (c = 10)
def markI (c : Int) : Bool := decide (c = 123) || decide (c = 125) || decide (c = 59) || decide (c = 58)
theorem isBlank_any (c : Int) (w : World) : Calls Tryd.prog 56 #[.int .i32 c] w fun e w' => e = .returned (.bool (blankI c)) ∧ w = w' := by
  refine calls_W (l := [_]) Tryd.func56 rfl _ Tryd.ntmps56 (by simp) ?_
  simp +contextual (maxSteps := 2000000) (disch := (first | omega | (simp only [SZ]; done) | (simp only [SZ]; omega) | (simp only [TS] at *; omega))) only [RZ, gval, gslot, fillL, ovw, numb, catL, ldN, agL, okC, oneC, init, Nat.reduceAdd, Nat.reduceMul, Nat.reduceSub, Nat.reduceEqDiff, Nat.reduceLT, ↓reduceIte, Int.reduceToNat, Int.reduceAdd, Int.reduceSub, Int.reduceMul, Int.reduceLT, Int.reduceLE, Int.reduceEq, Nat.reduceLeDiff]
  exact rfl
theorem isDigit_any (c : Int) (w : World) : Calls Tryd.prog 61 #[.int .i32 c] w fun e w' => e = .returned (.bool (digitI c)) ∧ w = w' := by
  refine calls_W (l := [_]) Tryd.func61 rfl _ Tryd.ntmps61 (by simp) ?_
  simp +contextual (maxSteps := 2000000) (disch := (first | omega | (simp only [SZ]; done) | (simp only [SZ]; omega) | (simp only [TS] at *; omega))) only [RZ, gval, gslot, fillL, ovw, numb, catL, ldN, agL, okC, oneC, init, Nat.reduceAdd, Nat.reduceMul, Nat.reduceSub, Nat.reduceEqDiff, Nat.reduceLT, ↓reduceIte, Int.reduceToNat, Int.reduceAdd, Int.reduceSub, Int.reduceMul, Int.reduceLT, Int.reduceLE, Int.reduceEq, Nat.reduceLeDiff]
  exact rfl
theorem isLetter_any (c : Int) (w : World) : Calls Tryd.prog 59 #[.int .i32 c] w fun e w' => e = .returned (.bool (letterI c)) ∧ w = w' := by
  refine calls_W (l := [_]) Tryd.func59 rfl _ Tryd.ntmps59 (by simp) ?_
  simp +contextual (maxSteps := 2000000) (disch := (first | omega | (simp only [SZ]; done) | (simp only [SZ]; omega) | (simp only [TS] at *; omega))) only [RZ, gval, gslot, fillL, ovw, numb, catL, ldN, agL, okC, oneC, init, Nat.reduceAdd, Nat.reduceMul, Nat.reduceSub, Nat.reduceEqDiff, Nat.reduceLT, ↓reduceIte, Int.reduceToNat, Int.reduceAdd, Int.reduceSub, Int.reduceMul, Int.reduceLT, Int.reduceLE, Int.reduceEq, Nat.reduceLeDiff]
  exact rfl
theorem inRemark_any (c : Int) (w : World) : Calls Tryd.prog 58 #[.int .i32 c] w fun e w' => e = .returned (.bool (remI c)) ∧ w = w' := by
  refine calls_W (l := [_]) Tryd.func58 rfl _ Tryd.ntmps58 (by simp) ?_
  simp +contextual (maxSteps := 2000000) (disch := (first | omega | (simp only [SZ]; done) | (simp only [SZ]; omega) | (simp only [TS] at *; omega))) only [RZ, gval, gslot, fillL, ovw, numb, catL, ldN, agL, okC, oneC, init, Nat.reduceAdd, Nat.reduceMul, Nat.reduceSub, Nat.reduceEqDiff, Nat.reduceLT, ↓reduceIte, Int.reduceToNat, Int.reduceAdd, Int.reduceSub, Int.reduceMul, Int.reduceLT, Int.reduceLE, Int.reduceEq, Nat.reduceLeDiff]
  exact rfl
theorem isMark_any (c : Int) (w : World) : Calls Tryd.prog 63 #[.int .i32 c] w fun e w' => e = .returned (.bool (markI c)) ∧ w = w' := by
  refine calls_W (l := [_]) Tryd.func63 rfl _ Tryd.ntmps63 (by simp) ?_
  simp +contextual (maxSteps := 2000000) (disch := (first | omega | (simp only [SZ]; done) | (simp only [SZ]; omega) | (simp only [TS] at *; omega))) only [RZ, gval, gslot, fillL, ovw, numb, catL, ldN, agL, okC, oneC, init, Nat.reduceAdd, Nat.reduceMul, Nat.reduceSub, Nat.reduceEqDiff, Nat.reduceLT, ↓reduceIte, Int.reduceToNat, Int.reduceAdd, Int.reduceSub, Int.reduceMul, Int.reduceLT, Int.reduceLE, Int.reduceEq, Nat.reduceLeDiff]
  exact rfl
theorem inWord_any (c : Int) (w : World) : Calls Tryd.prog 60 #[.int .i32 c] w fun e w' => e = .returned (.bool (wordI c)) ∧ w = w' := by
  refine calls_W (l := [_]) Tryd.func60 rfl _ Tryd.ntmps60 (by simp) ?_
  simp +contextual (maxSteps := 2000000) (disch := (first | omega | (simp only [SZ]; done) | (simp only [SZ]; omega) | (simp only [TS] at *; omega))) only [RZ, gval, gslot, fillL, ovw, numb, catL, ldN, agL, okC, oneC, init, Nat.reduceAdd, Nat.reduceMul, Nat.reduceSub, Nat.reduceEqDiff, Nat.reduceLT, ↓reduceIte, Int.reduceToNat, Int.reduceAdd, Int.reduceSub, Int.reduceMul, Int.reduceLT, Int.reduceLE, Int.reduceEq, Nat.reduceLeDiff]
  refine (isLetter_any c _).mono ?_
  rintro e w' ⟨rfl, rfl⟩
  refine ⟨_, rfl, ?_⟩
  simp +contextual (maxSteps := 2000000) (disch := (first | omega | (simp only [SZ]; done) | (simp only [SZ]; omega) | (simp only [TS] at *; omega))) only [RZ, gval, gslot, fillL, ovw, numb, catL, ldN, agL, okC, oneC, init, Nat.reduceAdd, Nat.reduceMul, Nat.reduceSub, Nat.reduceEqDiff, Nat.reduceLT, ↓reduceIte, Int.reduceToNat, Int.reduceAdd, Int.reduceSub, Int.reduceMul, Int.reduceLT, Int.reduceLE, Int.reduceEq, Nat.reduceLeDiff]
  refine GB_call (fun _ => isDigit_any c _) ?_
  simp +contextual (maxSteps := 2000000) (disch := (first | omega | (simp only [SZ]; done) | (simp only [SZ]; omega) | (simp only [TS] at *; omega))) only [RZ, gval, gslot, fillL, ovw, numb, catL, ldN, agL, okC, oneC, init, Nat.reduceAdd, Nat.reduceMul, Nat.reduceSub, Nat.reduceEqDiff, Nat.reduceLT, ↓reduceIte, Int.reduceToNat, Int.reduceAdd, Int.reduceSub, Int.reduceMul, Int.reduceLT, Int.reduceLE, Int.reduceEq, Nat.reduceLeDiff]
  exact rfl
theorem rblank_any (c : Int) (w : World) : Calls Tryd.prog 48 #[.int .u8 c] w fun e w' => e = .returned (.bool (blankI c)) ∧ w = w' := by
  refine calls_W (l := [_]) Tryd.func48 rfl _ Tryd.ntmps48 (by simp) ?_
  simp +contextual (maxSteps := 2000000) (disch := (first | omega | (simp only [SZ]; done) | (simp only [SZ]; omega) | (simp only [TS] at *; omega))) only [RZ, gval, gslot, fillL, ovw, numb, catL, ldN, agL, okC, oneC, init, Nat.reduceAdd, Nat.reduceMul, Nat.reduceSub, Nat.reduceEqDiff, Nat.reduceLT, ↓reduceIte, Int.reduceToNat, Int.reduceAdd, Int.reduceSub, Int.reduceMul, Int.reduceLT, Int.reduceLE, Int.reduceEq, Nat.reduceLeDiff]
  exact rfl
theorem rdigit_any (c : Int) (w : World) : Calls Tryd.prog 51 #[.int .u8 c] w fun e w' => e = .returned (.bool (digitI c)) ∧ w = w' := by
  refine calls_W (l := [_]) Tryd.func51 rfl _ Tryd.ntmps51 (by simp) ?_
  simp +contextual (maxSteps := 2000000) (disch := (first | omega | (simp only [SZ]; done) | (simp only [SZ]; omega) | (simp only [TS] at *; omega))) only [RZ, gval, gslot, fillL, ovw, numb, catL, ldN, agL, okC, oneC, init, Nat.reduceAdd, Nat.reduceMul, Nat.reduceSub, Nat.reduceEqDiff, Nat.reduceLT, ↓reduceIte, Int.reduceToNat, Int.reduceAdd, Int.reduceSub, Int.reduceMul, Int.reduceLT, Int.reduceLE, Int.reduceEq, Nat.reduceLeDiff]
  exact rfl
theorem rletter_any (c : Int) (w : World) : Calls Tryd.prog 50 #[.int .u8 c] w fun e w' => e = .returned (.bool (letterI c)) ∧ w = w' := by
  refine calls_W (l := [_]) Tryd.func50 rfl _ Tryd.ntmps50 (by simp) ?_
  simp +contextual (maxSteps := 2000000) (disch := (first | omega | (simp only [SZ]; done) | (simp only [SZ]; omega) | (simp only [TS] at *; omega))) only [RZ, gval, gslot, fillL, ovw, numb, catL, ldN, agL, okC, oneC, init, Nat.reduceAdd, Nat.reduceMul, Nat.reduceSub, Nat.reduceEqDiff, Nat.reduceLT, ↓reduceIte, Int.reduceToNat, Int.reduceAdd, Int.reduceSub, Int.reduceMul, Int.reduceLT, Int.reduceLE, Int.reduceEq, Nat.reduceLeDiff]
  exact rfl
theorem rmark_any (c : Int) (w : World) : Calls Tryd.prog 49 #[.int .u8 c] w fun e w' => e = .returned (.bool (markI c)) ∧ w = w' := by
  refine calls_W (l := [_]) Tryd.func49 rfl _ Tryd.ntmps49 (by simp) ?_
  simp +contextual (maxSteps := 2000000) (disch := (first | omega | (simp only [SZ]; done) | (simp only [SZ]; omega) | (simp only [TS] at *; omega))) only [RZ, gval, gslot, fillL, ovw, numb, catL, ldN, agL, okC, oneC, init, Nat.reduceAdd, Nat.reduceMul, Nat.reduceSub, Nat.reduceEqDiff, Nat.reduceLT, ↓reduceIte, Int.reduceToNat, Int.reduceAdd, Int.reduceSub, Int.reduceMul, Int.reduceLT, Int.reduceLE, Int.reduceEq, Nat.reduceLeDiff]
  exact rfl
theorem badNumber_any (s : ByteArray) (w : World) (hs : s.size ≤ 9223372036854775807) : Calls Tryd.prog 62 #[.string s] w fun e w' => e = .returned (.bool (badN s.size (bt s 0))) ∧ w = w' := by
  refine calls_W (l := [_]) Tryd.func62 rfl _ Tryd.ntmps62 (by simp) ?_
  simp +contextual (maxSteps := 2000000) (disch := (first | omega | (simp only [SZ]; done) | (simp only [SZ]; omega) | (simp only [TS] at *; omega))) only [RZ, gval, gslot, fillL, ovw, numb, catL, ldN, agL, okC, oneC, init, Nat.reduceAdd, Nat.reduceMul, Nat.reduceSub, Nat.reduceEqDiff, Nat.reduceLT, ↓reduceIte, Int.reduceToNat, Int.reduceAdd, Int.reduceSub, Int.reduceMul, Int.reduceLT, Int.reduceLE, Int.reduceEq, Nat.reduceLeDiff]
  refine ret_bool ?_
  unfold badN
  rw [Bool.eq_iff_iff]
  simp only [Bool.or_eq_true, Bool.and_eq_true, decide_eq_true_eq, beq_iff_eq]
  omega
theorem blankIB (c : Nat) : blankI c = blankB c := by
  unfold blankI blankB; rw [Bool.eq_iff_iff]; simp only [Bool.or_eq_true, Bool.and_eq_true, decide_eq_true_eq, beq_iff_eq]; omega
theorem letterIB (c : Nat) : letterI c = letterB c := by
  unfold letterI letterB; rw [Bool.eq_iff_iff]; simp only [Bool.or_eq_true, Bool.and_eq_true, decide_eq_true_eq, beq_iff_eq]; omega
theorem digitIB (c : Nat) : digitI c = digitB c := by
  unfold digitI digitB; rw [Bool.eq_iff_iff]; simp only [Bool.or_eq_true, Bool.and_eq_true, decide_eq_true_eq, beq_iff_eq]; omega
theorem wordIB (c : Nat) : wordI c = wordB c := by
  have e : decide ((c : Int) = 45) = (c == 45) := by rw [Bool.eq_iff_iff]; simp only [decide_eq_true_eq, beq_iff_eq]; omega
  unfold wordI wordB; rw [letterIB, digitIB, e]
theorem remIB (c : Nat) : remI c = remB c := by
  unfold remI remB; rw [Bool.eq_iff_iff]; simp only [Bool.not_eq_true', decide_eq_false_iff_not, beq_eq_false_iff_ne, ne_eq]; omega
theorem markIB (c : Nat) : markI c = markB c := by
  unfold markI markB; rw [Bool.eq_iff_iff]; simp only [Bool.or_eq_true, Bool.and_eq_true, decide_eq_true_eq, beq_iff_eq]; omega
/-- A rune at a place: its bytes. -/
theorem get_bt {s : ByteArray} {i : Nat} (h : i < s.size) : (s.get! i).toNat = bt s i := by
  unfold bt
  have : s.get! i = s.data.toList.getD i 0 := by
    show s.data[i]! = _
    have h' : i < s.data.size := h
    rw [getElem!_pos s.data i h', List.getD_eq_getElem?_getD, List.getElem?_eq_getElem (by simpa using h')]
    simp
  rw [this]
theorem decode_lo {s : ByteArray} {i : Nat} (h : i < s.size) (hb : bt s i < 128) : Utf8.decode s i = (bt s i, 1) := by
  have e := get_bt h
  unfold Utf8.decode
  simp only [Nat.add_zero, e]
  rw [if_pos hb]
theorem decode_hi {s : ByteArray} {i : Nat} (h : i < s.size) (hb : 128 ≤ bt s i) : 128 ≤ (Utf8.decode s i).1 ∧ 1 ≤ (Utf8.decode s i).2 ∧ i + (Utf8.decode s i).2 ≤ s.size ∧ ∀ j, j < (Utf8.decode s i).2 → 128 ≤ bt s (i + j) := by
  have e := get_bt h
  have c : ∀ k, (decide (i + k < s.size) && (s.get! (i + k)).toNat / 64 == 2) = true → i + k < s.size ∧ 128 ≤ bt s (i + k) := by
    intro k hk
    rw [Bool.and_eq_true, decide_eq_true_eq, beq_iff_eq] at hk
    rw [get_bt hk.1] at hk
    exact ⟨hk.1, by omega⟩
  have one : ∀ j, j < 1 → 128 ≤ bt s (i + j) := by
    intro j hj
    obtain rfl : j = 0 := by omega
    exact hb
  unfold Utf8.decode Utf8.runeError
  simp only [Nat.add_zero, e]
  rw [if_neg (by omega)]
  split
  · rename_i h1
    rw [Bool.and_eq_true] at h1
    have c1 := c 1 h1.2
    split
    · refine ⟨by simp only; omega, by simp, by simp only; omega, fun j hj => ?_⟩
      simp only at hj
      match j, hj with
      | 0, _ => exact hb
      | 1, _ => exact c1.2
    · exact ⟨by simp, by simp, by simp only; omega, one⟩
  split
  · rename_i h1
    rw [Bool.and_eq_true, Bool.and_eq_true] at h1
    have c1 := c 1 h1.1.2
    have c2 := c 2 h1.2
    split
    · rename_i h2
      rw [Bool.and_eq_true, decide_eq_true_eq] at h2
      refine ⟨by simp only; omega, by simp, by simp only; omega, fun j hj => ?_⟩
      simp only at hj
      match j, hj with
      | 0, _ => exact hb
      | 1, _ => exact c1.2
      | 2, _ => exact c2.2
    · exact ⟨by simp, by simp, by simp only; omega, one⟩
  split
  · rename_i h1
    rw [Bool.and_eq_true, Bool.and_eq_true, Bool.and_eq_true] at h1
    have c1 := c 1 h1.1.1.2
    have c2 := c 2 h1.1.2
    have c3 := c 3 h1.2
    split
    · rename_i h2
      rw [Bool.and_eq_true, decide_eq_true_eq] at h2
      refine ⟨by simp only; omega, by simp, by simp only; omega, fun j hj => ?_⟩
      simp only at hj
      match j, hj with
      | 0, _ => exact hb
      | 1, _ => exact c1.2
      | 2, _ => exact c2.2
      | 3, _ => exact c3.2
    · exact ⟨by simp, by simp, by simp only; omega, one⟩
  exact ⟨by simp, by simp, by simp only; omega, one⟩
theorem decode_top (s : ByteArray) (i : Nat) : (Utf8.decode s i).1 ≤ 1114111 := by
  have hb := UInt8.toNat_lt (s.get! i)
  have hb' : (s.get! (i + 0)).toNat < 256 := by rw [Nat.add_zero]; exact hb
  unfold Utf8.decode Utf8.runeError
  simp only
  repeat' split
  all_goals first
    | (simp only; omega)
    | (rename_i h; simp only [Utf8.valid, Bool.and_eq_true, Bool.or_eq_true, decide_eq_true_eq] at h; simp only; omega)
def iterPos (w : World) (g : Nat) : Nat := match w.heap[g]? with
  | some (.stringIter _ p) => p
  | _ => 0
theorem span_any (s : ByteArray) (f : FuncId) (p : Int → Bool) (q : Nat → Bool) (hi : Bool) (w : World) (hs : s.size ≤ 9223372036854775807) (hb : bodyB Tryd.prog f = true)
    (hf : ∀ c w, Calls Tryd.prog f #[.int .i32 c] w fun e w' => e = .returned (.bool (p c)) ∧ w = w')
    (h1 : ∀ c : Nat, p c = q c) (h2 : ∀ c : Nat, 128 ≤ c → q c = hi) :
    Calls Tryd.prog 57 #[.string s, .func (.func f) #[] #[]] w fun e w' => e = .returned (.int .i64 (spn q (bs s))) ∧ Below w.heap.size w w' := by
  refine calls_W (l := [_, _]) Tryd.func57 rfl _ Tryd.ntmps57 (by simp) ?_
  simp +contextual (maxSteps := 2000000) (disch := (first | omega | (simp only [SZ]; done) | (simp only [SZ]; omega) | (simp only [TS] at *; omega))) only [RZ, gval, gslot, fillL, ovw, numb, catL, ldN, agL, okC, oneC, init, Nat.reduceAdd, Nat.reduceMul, Nat.reduceSub, Nat.reduceEqDiff, Nat.reduceLT, ↓reduceIte, Int.reduceToNat, Int.reduceAdd, Int.reduceSub, Int.reduceMul, Int.reduceLT, Int.reduceLE, Int.reduceEq, Nat.reduceLeDiff]
  refine Raw_loop (fun σ w' => Below w.heap.size w w' ∧ w.heap.size < w'.heap.size ∧ σ 0 = .string s ∧ σ 1 = .func (.func f) #[] #[] ∧ σ 8 = .pointer (some ⟨w.heap.size, 0, none⟩) ∧ ∃ pos, pos ≤ s.size ∧ w'.heap[w.heap.size]? = some (.stringIter s pos) ∧ ∀ j, j < pos → q (bt s j) = true)
    (fun _ w' => s.size - iterPos w' w.heap.size) ?_ ?_
  · simp +contextual (maxSteps := 2000000) (disch := (first | omega | (simp only [SZ]; done) | (simp only [SZ]; omega) | (simp only [TS] at *; omega))) only [RZ, gval, gslot, fillL, ovw, numb, catL, ldN, agL, okC, oneC, init, Nat.reduceAdd, Nat.reduceMul, Nat.reduceSub, Nat.reduceEqDiff, Nat.reduceLT, ↓reduceIte, Int.reduceToNat, Int.reduceAdd, Int.reduceSub, Int.reduceMul, Int.reduceLT, Int.reduceLE, Int.reduceEq, Nat.reduceLeDiff]
    exact ⟨below_alloc _ _, by simp, 0, Nat.zero_le _, heap_alloc_new _ _, fun j h => absurd h (Nat.not_lt_zero _)⟩
  rintro σ w' ⟨hB, hsz, e0, e1, e8, pos, hp, hit, hq⟩ K hK
  by_cases hps : pos < s.size
  · have hn := vNext_some (P := Tryd.prog) (ty := 0) hit hps
    have hdec : (Utf8.decode s pos).1 ≤ 1114111 ∧ 1 ≤ (Utf8.decode s pos).2 ∧ pos + (Utf8.decode s pos).2 ≤ s.size ∧ (p (Utf8.decode s pos).1 = q (bt s pos)) ∧ ∀ j, j < (Utf8.decode s pos).2 → q (bt s (pos + j)) = q (bt s pos) := by
      by_cases hlo : bt s pos < 128
      · rw [decode_lo hps hlo]
        refine ⟨by simp only; omega, Nat.le_refl _, hps, h1 _, fun j hj => ?_⟩
        obtain rfl : j = 0 := by simp only at hj; omega
        rfl
      · obtain ⟨d1, d2, d3, d4⟩ := decode_hi hps (by omega)
        refine ⟨decode_top s pos, d2, d3, ?_, fun j hj => ?_⟩
        · rw [h1, h2 _ d1, h2 _ (by omega)]
        · rw [h2 _ (d4 j hj), h2 _ (by omega)]
    obtain ⟨hd0, hd1, hd2, hd3, hd4⟩ := hdec
    generalize Utf8.decode s pos = cd at *
    have hb2 : Below w.heap.size w (setO w' w.heap.size (.stringIter s (pos + cd.2))) := setO_below hB (Nat.le_refl _) _
    have hi2 : (setO w' w.heap.size (.stringIter s (pos + cd.2))).heap[w.heap.size]? = some (.stringIter s (pos + cd.2)) := setO_at _ hsz
    have hs2 : w.heap.size < (setO w' w.heap.size (.stringIter s (pos + cd.2))).heap.size := by rw [setO_size]; exact hsz
    have hmu : iterPos w' w.heap.size = pos := by unfold iterPos; rw [hit]
    simp +contextual (maxSteps := 2000000) (disch := (first | omega | (simp only [SZ]; done) | (simp only [SZ]; omega) | (simp only [TS] at *; omega))) only [RZ, gval, gslot, fillL, ovw, numb, catL, ldN, agL, okC, oneC, init, Nat.reduceAdd, Nat.reduceMul, Nat.reduceSub, Nat.reduceEqDiff, Nat.reduceLT, ↓reduceIte, Int.reduceToNat, Int.reduceAdd, Int.reduceSub, Int.reduceMul, Int.reduceLT, Int.reduceLE, Int.reduceEq, Nat.reduceLeDiff,  e0, e1, e8, hn]
    generalize setO w' w.heap.size (.stringIter s (pos + cd.2)) = w2 at *
    have hmu2 : iterPos w2 w.heap.size = pos + cd.2 := by unfold iterPos; rw [hi2]
    refine W_if_t rfl ?_
    simp +contextual (maxSteps := 2000000) (disch := (first | omega | (simp only [SZ]; done) | (simp only [SZ]; omega) | (simp only [TS] at *; omega))) only [RZ, gval, gslot, fillL, ovw, numb, catL, ldN, agL, okC, oneC, init, Nat.reduceAdd, Nat.reduceMul, Nat.reduceSub, Nat.reduceEqDiff, Nat.reduceLT, ↓reduceIte, Int.reduceToNat, Int.reduceAdd, Int.reduceSub, Int.reduceMul, Int.reduceLT, Int.reduceLE, Int.reduceEq, Nat.reduceLeDiff,  e0, e1, e8, hb]
    refine (hf _ _).mono ?_
    rintro e w3 ⟨rfl, rfl⟩
    refine ⟨_, rfl, ?_⟩
    rw [hd3]
    simp +contextual (maxSteps := 2000000) (disch := (first | omega | (simp only [SZ]; done) | (simp only [SZ]; omega) | (simp only [TS] at *; omega))) only [RZ, gval, gslot, fillL, ovw, numb, catL, ldN, agL, okC, oneC, init, Nat.reduceAdd, Nat.reduceMul, Nat.reduceSub, Nat.reduceEqDiff, Nat.reduceLT, ↓reduceIte, Int.reduceToNat, Int.reduceAdd, Int.reduceSub, Int.reduceMul, Int.reduceLT, Int.reduceLE, Int.reduceEq, Nat.reduceLeDiff,  e0, e1, e8]
    (refine W_if rfl (fun hc => ?_) (fun hc => ?_) <;> (try simp only [TS] at hc))
    · simp +contextual (maxSteps := 2000000) (disch := (first | omega | (simp only [SZ]; done) | (simp only [SZ]; omega) | (simp only [TS] at *; omega))) only [RZ, gval, gslot, fillL, ovw, numb, catL, ldN, agL, okC, oneC, init, Nat.reduceAdd, Nat.reduceMul, Nat.reduceSub, Nat.reduceEqDiff, Nat.reduceLT, ↓reduceIte, Int.reduceToNat, Int.reduceAdd, Int.reduceSub, Int.reduceMul, Int.reduceLT, Int.reduceLE, Int.reduceEq, Nat.reduceLeDiff]
      refine ⟨?_, hb2⟩
      rw [show spn q (bs s) = pos from spn_is _ _ (fun j hj => ⟨_, bs_get (by omega), hq j hj⟩) (fun c hc' => by rw [bs_get hps] at hc'; injection hc' with hc'; rw [← hc']; exact hc)]
    · simp +contextual (maxSteps := 2000000) (disch := (first | omega | (simp only [SZ]; done) | (simp only [SZ]; omega) | (simp only [TS] at *; omega))) only [RZ, gval, gslot, fillL, ovw, numb, catL, ldN, agL, okC, oneC, init, Nat.reduceAdd, Nat.reduceMul, Nat.reduceSub, Nat.reduceEqDiff, Nat.reduceLT, ↓reduceIte, Int.reduceToNat, Int.reduceAdd, Int.reduceSub, Int.reduceMul, Int.reduceLT, Int.reduceLE, Int.reduceEq, Nat.reduceLeDiff]
      refine hK _ _ ⟨hb2, hs2, e0, e1, e8, pos + cd.2, hd2, hi2, fun j hj => ?_⟩ ?_
      · by_cases hj2 : j < pos
        · exact hq j hj2
        · have := hd4 (j - pos) (by omega)
          rw [show pos + (j - pos) = j from by omega] at this
          rw [this]; exact hc
      · rw [hmu, hmu2]; omega
  · have hn := vNext_end (P := Tryd.prog) (ty := 0) hit hps
    simp +contextual (maxSteps := 2000000) (disch := (first | omega | (simp only [SZ]; done) | (simp only [SZ]; omega) | (simp only [TS] at *; omega))) only [RZ, gval, gslot, fillL, ovw, numb, catL, ldN, agL, okC, oneC, init, Nat.reduceAdd, Nat.reduceMul, Nat.reduceSub, Nat.reduceEqDiff, Nat.reduceLT, ↓reduceIte, Int.reduceToNat, Int.reduceAdd, Int.reduceSub, Int.reduceMul, Int.reduceLT, Int.reduceLE, Int.reduceEq, Nat.reduceLeDiff,  e0, e1, e8, hn]
    refine W_if_f rfl ?_
    simp +contextual (maxSteps := 2000000) (disch := (first | omega | (simp only [SZ]; done) | (simp only [SZ]; omega) | (simp only [TS] at *; omega))) only [RZ, gval, gslot, fillL, ovw, numb, catL, ldN, agL, okC, oneC, init, Nat.reduceAdd, Nat.reduceMul, Nat.reduceSub, Nat.reduceEqDiff, Nat.reduceLT, ↓reduceIte, Int.reduceToNat, Int.reduceAdd, Int.reduceSub, Int.reduceMul, Int.reduceLT, Int.reduceLE, Int.reduceEq, Nat.reduceLeDiff,  e0]
    refine ⟨?_, hB⟩
    rw [show spn q (bs s) = s.size from spn_is _ _ (fun j hj => ⟨_, bs_get (by omega), hq j (by omega)⟩) (fun c hc' => by rw [List.getElem?_eq_none (by rw [bs_len]; omega)] at hc'; cases hc')]
end Go.Proofs.YtbdkggnajipdhaaDoor
/- Walks: piece. -/
namespace Go.Proofs.YtbdkggnajipdhaaDoor
open Go.RowKit
set_option maxRecDepth 100000
theorem span_blank (s : ByteArray) (w : World) (hs : s.size ≤ 9223372036854775807) : Calls Tryd.prog 57 #[.string s, .func (.func 56) #[] #[]] w fun e w' => e = .returned (.int .i64 (spn blankB (bs s))) ∧ Below w.heap.size w w' :=
  span_any s _ blankI blankB false w hs (by kernel_rfl) (fun c w => isBlank_any c w) blankIB (fun c h => by unfold blankB; simp only [Bool.or_eq_false_iff, beq_eq_false_iff_ne]; omega)
theorem span_word (s : ByteArray) (w : World) (hs : s.size ≤ 9223372036854775807) : Calls Tryd.prog 57 #[.string s, .func (.func 60) #[] #[]] w fun e w' => e = .returned (.int .i64 (spn wordB (bs s))) ∧ Below w.heap.size w w' :=
  span_any s _ wordI wordB false w hs (by kernel_rfl) (fun c w => inWord_any c w) wordIB (fun c h => by unfold wordB letterB digitB; simp only [Bool.or_eq_false_iff, Bool.and_eq_false_iff, decide_eq_false_iff_not, beq_eq_false_iff_ne]; omega)
theorem span_digit (s : ByteArray) (w : World) (hs : s.size ≤ 9223372036854775807) : Calls Tryd.prog 57 #[.string s, .func (.func 61) #[] #[]] w fun e w' => e = .returned (.int .i64 (spn digitB (bs s))) ∧ Below w.heap.size w w' :=
  span_any s _ digitI digitB false w hs (by kernel_rfl) (fun c w => isDigit_any c w) digitIB (fun c h => by unfold digitB; simp only [Bool.and_eq_false_iff, decide_eq_false_iff_not]; omega)
theorem span_remark (s : ByteArray) (w : World) (hs : s.size ≤ 9223372036854775807) : Calls Tryd.prog 57 #[.string s, .func (.func 58) #[] #[]] w fun e w' => e = .returned (.int .i64 (spn remB (bs s))) ∧ Below w.heap.size w w' :=
  span_any s _ remI remB true w hs (by kernel_rfl) (fun c w => inRemark_any c w) remIB (fun c h => by unfold remB; simp only [Bool.not_eq_true', beq_eq_false_iff_ne]; omega)
theorem piece_any (s : ByteArray) (w : World) (hs : s.size ≤ 9223372036854775807) (h0 : 0 < s.size) :
    Calls Tryd.prog 38 #[.string s] w fun e w' => e = .returned (.tuple #[.int .i64 (piece (bs s)).1, .int .i64 (piece (bs s)).2]) ∧ Below w.heap.size w w' := by
  refine calls_W (l := [_]) Tryd.func38 rfl _ Tryd.ntmps38 (by simp) ?_
  have hlt := bt_lt s 0
  obtain ⟨r, hr⟩ : ∃ r, bs s = bt s 0 :: r := by
    have h1 := bs_get h0
    cases hb : bs s with
    | nil => rw [hb] at h1; simp at h1
    | cons c r => rw [hb] at h1; simp only [List.getElem?_cons_zero, Option.some.injEq] at h1; exact ⟨r, by rw [h1]⟩
  have hle := spn_le digitB (bs s)
  rw [bs_len] at hle
  generalize hc0 : bt s 0 = c0 at *
  have hP : piece (bs s) = if blankB c0 then (0, spn blankB (bs s)) else if c0 = 35 then (0, spn remB (bs s)) else if letterB c0 then (1, spn wordB (bs s)) else if digitB c0 then (if badN (spn digitB (bs s)) c0 then (2, 0) else (2, spn digitB (bs s))) else if markB c0 then (3, 1) else (0, 0) := by rw [hr, piece]
  rw [hP]
  simp +contextual (maxSteps := 2000000) (disch := (first | omega | (simp only [SZ]; done) | (simp only [SZ]; omega) | (simp only [TS] at *; omega))) only [RZ, gval, gslot, fillL, ovw, numb, catL, ldN, agL, okC, oneC, init, Nat.reduceAdd, Nat.reduceMul, Nat.reduceSub, Nat.reduceEqDiff, Nat.reduceLT, ↓reduceIte, Int.reduceToNat, Int.reduceAdd, Int.reduceSub, Int.reduceMul, Int.reduceLT, Int.reduceLE, Int.reduceEq, Nat.reduceLeDiff,  hc0]
  refine (isBlank_any _ _).mono ?_
  rintro e w1 ⟨rfl, rfl⟩
  refine ⟨_, rfl, ?_⟩
  rw [blankIB]
  simp +contextual (maxSteps := 2000000) (disch := (first | omega | (simp only [SZ]; done) | (simp only [SZ]; omega) | (simp only [TS] at *; omega))) only [RZ, gval, gslot, fillL, ovw, numb, catL, ldN, agL, okC, oneC, init, Nat.reduceAdd, Nat.reduceMul, Nat.reduceSub, Nat.reduceEqDiff, Nat.reduceLT, ↓reduceIte, Int.reduceToNat, Int.reduceAdd, Int.reduceSub, Int.reduceMul, Int.reduceLT, Int.reduceLE, Int.reduceEq, Nat.reduceLeDiff]
  (refine W_if rfl (fun hc => ?_) (fun hc => ?_) <;> (try simp only [TS] at hc))
  · rw [if_pos hc]
    simp +contextual (maxSteps := 2000000) (disch := (first | omega | (simp only [SZ]; done) | (simp only [SZ]; omega) | (simp only [TS] at *; omega))) only [RZ, gval, gslot, fillL, ovw, numb, catL, ldN, agL, okC, oneC, init, Nat.reduceAdd, Nat.reduceMul, Nat.reduceSub, Nat.reduceEqDiff, Nat.reduceLT, ↓reduceIte, Int.reduceToNat, Int.reduceAdd, Int.reduceSub, Int.reduceMul, Int.reduceLT, Int.reduceLE, Int.reduceEq, Nat.reduceLeDiff]
    refine (span_blank s _ hs).mono ?_
    rintro e w2 ⟨rfl, hb⟩
    refine ⟨_, rfl, ?_⟩
    simp +contextual (maxSteps := 2000000) (disch := (first | omega | (simp only [SZ]; done) | (simp only [SZ]; omega) | (simp only [TS] at *; omega))) only [RZ, gval, gslot, fillL, ovw, numb, catL, ldN, agL, okC, oneC, init, Nat.reduceAdd, Nat.reduceMul, Nat.reduceSub, Nat.reduceEqDiff, Nat.reduceLT, ↓reduceIte, Int.reduceToNat, Int.reduceAdd, Int.reduceSub, Int.reduceMul, Int.reduceLT, Int.reduceLE, Int.reduceEq, Nat.reduceLeDiff]
    exact ⟨rfl, hb⟩
  rw [if_neg (by rw [hc]; simp)]
  clear hc
  simp +contextual (maxSteps := 2000000) (disch := (first | omega | (simp only [SZ]; done) | (simp only [SZ]; omega) | (simp only [TS] at *; omega))) only [RZ, gval, gslot, fillL, ovw, numb, catL, ldN, agL, okC, oneC, init, Nat.reduceAdd, Nat.reduceMul, Nat.reduceSub, Nat.reduceEqDiff, Nat.reduceLT, ↓reduceIte, Int.reduceToNat, Int.reduceAdd, Int.reduceSub, Int.reduceMul, Int.reduceLT, Int.reduceLE, Int.reduceEq, Nat.reduceLeDiff]
  (refine W_if rfl (fun hc => ?_) (fun hc => ?_) <;> (try simp only [TS] at hc))
  · rw [if_pos (by omega)]
    simp +contextual (maxSteps := 2000000) (disch := (first | omega | (simp only [SZ]; done) | (simp only [SZ]; omega) | (simp only [TS] at *; omega))) only [RZ, gval, gslot, fillL, ovw, numb, catL, ldN, agL, okC, oneC, init, Nat.reduceAdd, Nat.reduceMul, Nat.reduceSub, Nat.reduceEqDiff, Nat.reduceLT, ↓reduceIte, Int.reduceToNat, Int.reduceAdd, Int.reduceSub, Int.reduceMul, Int.reduceLT, Int.reduceLE, Int.reduceEq, Nat.reduceLeDiff]
    refine (span_remark s _ hs).mono ?_
    rintro e w2 ⟨rfl, hb⟩
    refine ⟨_, rfl, ?_⟩
    simp +contextual (maxSteps := 2000000) (disch := (first | omega | (simp only [SZ]; done) | (simp only [SZ]; omega) | (simp only [TS] at *; omega))) only [RZ, gval, gslot, fillL, ovw, numb, catL, ldN, agL, okC, oneC, init, Nat.reduceAdd, Nat.reduceMul, Nat.reduceSub, Nat.reduceEqDiff, Nat.reduceLT, ↓reduceIte, Int.reduceToNat, Int.reduceAdd, Int.reduceSub, Int.reduceMul, Int.reduceLT, Int.reduceLE, Int.reduceEq, Nat.reduceLeDiff]
    exact ⟨rfl, hb⟩
  rw [if_neg (by omega)]
  clear hc
  simp +contextual (maxSteps := 2000000) (disch := (first | omega | (simp only [SZ]; done) | (simp only [SZ]; omega) | (simp only [TS] at *; omega))) only [RZ, gval, gslot, fillL, ovw, numb, catL, ldN, agL, okC, oneC, init, Nat.reduceAdd, Nat.reduceMul, Nat.reduceSub, Nat.reduceEqDiff, Nat.reduceLT, ↓reduceIte, Int.reduceToNat, Int.reduceAdd, Int.reduceSub, Int.reduceMul, Int.reduceLT, Int.reduceLE, Int.reduceEq, Nat.reduceLeDiff]
  refine (isLetter_any _ _).mono ?_
  rintro e w1 ⟨rfl, rfl⟩
  refine ⟨_, rfl, ?_⟩
  rw [letterIB]
  simp +contextual (maxSteps := 2000000) (disch := (first | omega | (simp only [SZ]; done) | (simp only [SZ]; omega) | (simp only [TS] at *; omega))) only [RZ, gval, gslot, fillL, ovw, numb, catL, ldN, agL, okC, oneC, init, Nat.reduceAdd, Nat.reduceMul, Nat.reduceSub, Nat.reduceEqDiff, Nat.reduceLT, ↓reduceIte, Int.reduceToNat, Int.reduceAdd, Int.reduceSub, Int.reduceMul, Int.reduceLT, Int.reduceLE, Int.reduceEq, Nat.reduceLeDiff]
  (refine W_if rfl (fun hc => ?_) (fun hc => ?_) <;> (try simp only [TS] at hc))
  · rw [if_pos hc]
    simp +contextual (maxSteps := 2000000) (disch := (first | omega | (simp only [SZ]; done) | (simp only [SZ]; omega) | (simp only [TS] at *; omega))) only [RZ, gval, gslot, fillL, ovw, numb, catL, ldN, agL, okC, oneC, init, Nat.reduceAdd, Nat.reduceMul, Nat.reduceSub, Nat.reduceEqDiff, Nat.reduceLT, ↓reduceIte, Int.reduceToNat, Int.reduceAdd, Int.reduceSub, Int.reduceMul, Int.reduceLT, Int.reduceLE, Int.reduceEq, Nat.reduceLeDiff]
    refine (span_word s _ hs).mono ?_
    rintro e w2 ⟨rfl, hb⟩
    refine ⟨_, rfl, ?_⟩
    simp +contextual (maxSteps := 2000000) (disch := (first | omega | (simp only [SZ]; done) | (simp only [SZ]; omega) | (simp only [TS] at *; omega))) only [RZ, gval, gslot, fillL, ovw, numb, catL, ldN, agL, okC, oneC, init, Nat.reduceAdd, Nat.reduceMul, Nat.reduceSub, Nat.reduceEqDiff, Nat.reduceLT, ↓reduceIte, Int.reduceToNat, Int.reduceAdd, Int.reduceSub, Int.reduceMul, Int.reduceLT, Int.reduceLE, Int.reduceEq, Nat.reduceLeDiff]
    exact ⟨rfl, hb⟩
  rw [if_neg (by rw [hc]; simp)]
  clear hc
  simp +contextual (maxSteps := 2000000) (disch := (first | omega | (simp only [SZ]; done) | (simp only [SZ]; omega) | (simp only [TS] at *; omega))) only [RZ, gval, gslot, fillL, ovw, numb, catL, ldN, agL, okC, oneC, init, Nat.reduceAdd, Nat.reduceMul, Nat.reduceSub, Nat.reduceEqDiff, Nat.reduceLT, ↓reduceIte, Int.reduceToNat, Int.reduceAdd, Int.reduceSub, Int.reduceMul, Int.reduceLT, Int.reduceLE, Int.reduceEq, Nat.reduceLeDiff]
  refine (isDigit_any _ _).mono ?_
  rintro e w1 ⟨rfl, rfl⟩
  refine ⟨_, rfl, ?_⟩
  rw [digitIB]
  simp +contextual (maxSteps := 2000000) (disch := (first | omega | (simp only [SZ]; done) | (simp only [SZ]; omega) | (simp only [TS] at *; omega))) only [RZ, gval, gslot, fillL, ovw, numb, catL, ldN, agL, okC, oneC, init, Nat.reduceAdd, Nat.reduceMul, Nat.reduceSub, Nat.reduceEqDiff, Nat.reduceLT, ↓reduceIte, Int.reduceToNat, Int.reduceAdd, Int.reduceSub, Int.reduceMul, Int.reduceLT, Int.reduceLE, Int.reduceEq, Nat.reduceLeDiff]
  (refine W_if rfl (fun hc => ?_) (fun hc => ?_) <;> (try simp only [TS] at hc))
  · rw [if_pos hc]
    have hcd := hc
    clear hc
    simp +contextual (maxSteps := 2000000) (disch := (first | omega | (simp only [SZ]; done) | (simp only [SZ]; omega) | (simp only [TS] at *; omega))) only [RZ, gval, gslot, fillL, ovw, numb, catL, ldN, agL, okC, oneC, init, Nat.reduceAdd, Nat.reduceMul, Nat.reduceSub, Nat.reduceEqDiff, Nat.reduceLT, ↓reduceIte, Int.reduceToNat, Int.reduceAdd, Int.reduceSub, Int.reduceMul, Int.reduceLT, Int.reduceLE, Int.reduceEq, Nat.reduceLeDiff]
    refine (span_digit s _ hs).mono ?_
    rintro e w2 ⟨rfl, hb⟩
    refine ⟨_, rfl, ?_⟩
    have hn1 : 1 ≤ spn digitB (bs s) := by rw [hr]; exact spn_pos hcd
    have hsz : (s.extract 0 (spn digitB (bs s))).size = spn digitB (bs s) := by rw [← bs_len, bs_extract, List.length_take, List.drop_zero, bs_len]; omega
    have hbt : bt (s.extract 0 (spn digitB (bs s))) 0 = c0 := by
      rw [bt_bs, bs_extract, List.drop_zero, hr, List.getD_eq_getElem?_getD, List.getElem?_take_of_lt (by rw [← hr]; omega)]; rfl
    simp +contextual (maxSteps := 2000000) (disch := (first | omega | (simp only [SZ]; done) | (simp only [SZ]; omega) | (simp only [TS] at *; omega))) only [RZ, gval, gslot, fillL, ovw, numb, catL, ldN, agL, okC, oneC, init, Nat.reduceAdd, Nat.reduceMul, Nat.reduceSub, Nat.reduceEqDiff, Nat.reduceLT, ↓reduceIte, Int.reduceToNat, Int.reduceAdd, Int.reduceSub, Int.reduceMul, Int.reduceLT, Int.reduceLE, Int.reduceEq, Nat.reduceLeDiff]
    refine (badNumber_any _ _ (by rw [hsz]; omega)).mono ?_
    rintro e w3 ⟨rfl, rfl⟩
    refine ⟨_, rfl, ?_⟩
    rw [hsz, hbt]
    simp +contextual (maxSteps := 2000000) (disch := (first | omega | (simp only [SZ]; done) | (simp only [SZ]; omega) | (simp only [TS] at *; omega))) only [RZ, gval, gslot, fillL, ovw, numb, catL, ldN, agL, okC, oneC, init, Nat.reduceAdd, Nat.reduceMul, Nat.reduceSub, Nat.reduceEqDiff, Nat.reduceLT, ↓reduceIte, Int.reduceToNat, Int.reduceAdd, Int.reduceSub, Int.reduceMul, Int.reduceLT, Int.reduceLE, Int.reduceEq, Nat.reduceLeDiff]
    (refine W_if rfl (fun hc => ?_) (fun hc => ?_) <;> (try simp only [TS] at hc))
    · rw [if_pos hc]
      simp +contextual (maxSteps := 2000000) (disch := (first | omega | (simp only [SZ]; done) | (simp only [SZ]; omega) | (simp only [TS] at *; omega))) only [RZ, gval, gslot, fillL, ovw, numb, catL, ldN, agL, okC, oneC, init, Nat.reduceAdd, Nat.reduceMul, Nat.reduceSub, Nat.reduceEqDiff, Nat.reduceLT, ↓reduceIte, Int.reduceToNat, Int.reduceAdd, Int.reduceSub, Int.reduceMul, Int.reduceLT, Int.reduceLE, Int.reduceEq, Nat.reduceLeDiff]
      exact ⟨rfl, hb⟩
    · rw [if_neg (by rw [hc]; simp)]
      simp +contextual (maxSteps := 2000000) (disch := (first | omega | (simp only [SZ]; done) | (simp only [SZ]; omega) | (simp only [TS] at *; omega))) only [RZ, gval, gslot, fillL, ovw, numb, catL, ldN, agL, okC, oneC, init, Nat.reduceAdd, Nat.reduceMul, Nat.reduceSub, Nat.reduceEqDiff, Nat.reduceLT, ↓reduceIte, Int.reduceToNat, Int.reduceAdd, Int.reduceSub, Int.reduceMul, Int.reduceLT, Int.reduceLE, Int.reduceEq, Nat.reduceLeDiff]
      exact ⟨rfl, hb⟩
  rw [if_neg (by rw [hc]; simp)]
  clear hc
  simp +contextual (maxSteps := 2000000) (disch := (first | omega | (simp only [SZ]; done) | (simp only [SZ]; omega) | (simp only [TS] at *; omega))) only [RZ, gval, gslot, fillL, ovw, numb, catL, ldN, agL, okC, oneC, init, Nat.reduceAdd, Nat.reduceMul, Nat.reduceSub, Nat.reduceEqDiff, Nat.reduceLT, ↓reduceIte, Int.reduceToNat, Int.reduceAdd, Int.reduceSub, Int.reduceMul, Int.reduceLT, Int.reduceLE, Int.reduceEq, Nat.reduceLeDiff]
  refine (isMark_any _ _).mono ?_
  rintro e w1 ⟨rfl, rfl⟩
  refine ⟨_, rfl, ?_⟩
  rw [markIB]
  simp +contextual (maxSteps := 2000000) (disch := (first | omega | (simp only [SZ]; done) | (simp only [SZ]; omega) | (simp only [TS] at *; omega))) only [RZ, gval, gslot, fillL, ovw, numb, catL, ldN, agL, okC, oneC, init, Nat.reduceAdd, Nat.reduceMul, Nat.reduceSub, Nat.reduceEqDiff, Nat.reduceLT, ↓reduceIte, Int.reduceToNat, Int.reduceAdd, Int.reduceSub, Int.reduceMul, Int.reduceLT, Int.reduceLE, Int.reduceEq, Nat.reduceLeDiff]
  (refine W_if rfl (fun hc => ?_) (fun hc => ?_) <;> (try simp only [TS] at hc))
  · rw [if_pos hc]
    simp +contextual (maxSteps := 2000000) (disch := (first | omega | (simp only [SZ]; done) | (simp only [SZ]; omega) | (simp only [TS] at *; omega))) only [RZ, gval, gslot, fillL, ovw, numb, catL, ldN, agL, okC, oneC, init, Nat.reduceAdd, Nat.reduceMul, Nat.reduceSub, Nat.reduceEqDiff, Nat.reduceLT, ↓reduceIte, Int.reduceToNat, Int.reduceAdd, Int.reduceSub, Int.reduceMul, Int.reduceLT, Int.reduceLE, Int.reduceEq, Nat.reduceLeDiff]
    exact ⟨rfl, Below.refl _ _⟩
  rw [if_neg (by rw [hc]; simp)]
  simp +contextual (maxSteps := 2000000) (disch := (first | omega | (simp only [SZ]; done) | (simp only [SZ]; omega) | (simp only [TS] at *; omega))) only [RZ, gval, gslot, fillL, ovw, numb, catL, ldN, agL, okC, oneC, init, Nat.reduceAdd, Nat.reduceMul, Nat.reduceSub, Nat.reduceEqDiff, Nat.reduceLT, ↓reduceIte, Int.reduceToNat, Int.reduceAdd, Int.reduceSub, Int.reduceMul, Int.reduceLT, Int.reduceLE, Int.reduceEq, Nat.reduceLeDiff]
  exact ⟨rfl, Below.refl _ _⟩
end Go.Proofs.YtbdkggnajipdhaaDoor
/- Contracts of Go's library, laid by the kit's tools over this translation (wip/shelf.py keeps those that are used). -/
namespace Go.Proofs
open Go.Shelf
def Tryd.lays169_ren : Go.Shelf.Ren := ⟨fun | 169 => 22 | n => n, fun | 70 => 47 | 9 => 9 | 0 => 0 | 72 => 50 | 37 => 48 | 127 => 81 | 3 => 3 | 5 => 5 | n => n, fun | n => n⟩
theorem Tryd.lays169 : Go.Proofs.Lays.n169 Tryd.prog Tryd.lays169_ren := {
  mixed := by kernel_rfl
  f169 := Tryd.func22.trans (congrArg some (by kernel_rfl))
  t0 := Tryd.underlying0
  a0 := Tryd.isAgg0
  z0 := Tryd.sizeOf0
  v0 := Tryd.zeroValue0
  t3 := Tryd.underlying3
  a3 := Tryd.isAgg3
  z3 := Tryd.sizeOf3
  v3 := Tryd.zeroValue3
  t9 := Tryd.underlying9
  a9 := Tryd.isAgg9
  z9 := Tryd.sizeOf9
  v9 := Tryd.zeroValue9
  t37 := Tryd.underlying48
  a37 := Tryd.isAgg48
  z37 := Tryd.sizeOf48
  v37 := Tryd.zeroValue48
  t70 := Tryd.underlying47
  a70 := Tryd.isAgg47
  z70 := Tryd.sizeOf47
  v70 := Tryd.zeroValue47
  t72 := Tryd.underlying50
  a72 := Tryd.isAgg50
  z72 := Tryd.sizeOf50
  v72 := Tryd.zeroValue50
  t127 := Tryd.underlying81
  a127 := Tryd.isAgg81
  z127 := Tryd.sizeOf81
  v127 := Tryd.zeroValue81 }
theorem Tryd.Builder_Extra_169 : Builder.Extra Tryd.prog Tryd.lays169_ren := {
  sizeBuilder := by kernel_rfl
  liesBuilder := by kernel_rfl
  t5 := Tryd.underlying5
  a5 := Tryd.isAgg5
  z5 := Tryd.sizeOf5
  v5 := Tryd.zeroValue5
  infoByte := by kernel_rfl
  cellsByte := by kernel_rfl
  sizeByte := by kernel_rfl
  neB5 := by decide }
open Go.RowKit in
/-- (*strings.Builder).String: "String returns the accumulated string.": WHATEVER THE BUILDER HOLDS. (LAID: no walk: one application.) -/
theorem Tryd.Builder_String_any (B b : Nat) (l : List UInt8) (w : World) (h : Lib.IsBuilder 50 5 B b (Lib.byteCells l) w) (hBw : B ≤ w.heap.size) :
    Calls Tryd.prog 22 #[.pointer (some ⟨b, 0, none⟩)] w fun e w' => e = .returned (.string ⟨l.toArray⟩) ∧ Below B w w' := Any.Builder_String_any Tryd.lays169 Tryd.Builder_Extra_169 B b l w h hBw
def Tryd.laysM171_ren : Go.Shelf.Ren := ⟨fun | 171 => 75 | 243 => 84 | 246 => 88 | 283 => 90 | 284 => 91 | 285 => 92 | 286 => 93 | 129 => 95 | 317 => 94 | 318 => 96 | 319 => 97 | 320 => 98 | 337 => 99 | 338 => 100 | n => n, fun | 3 => 3 | 9 => 9 | 2 => 2 | 4 => 4 | 171 => 113 | 0 => 0 | 53 => 112 | 37 => 48 | 5 => 5 | 173 => 116 | 212 => 119 | 51 => 106 | 20 => 20 | 213 => 120 | 46 => 104 | 232 => 124 | 233 => 125 | n => n, fun | 17 => 2 | 18 => 3 | 19 => 4 | n => n⟩
theorem Tryd.laysM171 : Go.Proofs.LaysM.n171 Tryd.prog Tryd.laysM171_ren := {
  mixed := by kernel_rfl
  f129 := Tryd.func95.trans (congrArg some (by kernel_rfl))
  f171 := Tryd.func75.trans (congrArg some (by kernel_rfl))
  f243 := Tryd.func84.trans (congrArg some (by kernel_rfl))
  f246 := Tryd.func88.trans (congrArg some (by kernel_rfl))
  f283 := Tryd.func90.trans (congrArg some (by kernel_rfl))
  f284 := Tryd.func91.trans (congrArg some (by kernel_rfl))
  f285 := Tryd.func92.trans (congrArg some (by kernel_rfl))
  f286 := Tryd.func93.trans (congrArg some (by kernel_rfl))
  f317 := Tryd.func94.trans (congrArg some (by kernel_rfl))
  f318 := Tryd.func96.trans (congrArg some (by kernel_rfl))
  f319 := Tryd.func97.trans (congrArg some (by kernel_rfl))
  f320 := Tryd.func98.trans (congrArg some (by kernel_rfl))
  f337 := Tryd.func99.trans (congrArg some (by kernel_rfl))
  f338 := Tryd.func100.trans (congrArg some (by kernel_rfl))
  t0 := Tryd.underlying0
  a0 := Tryd.isAgg0
  z0 := Tryd.sizeOf0
  v0 := Tryd.zeroValue0
  t2 := Tryd.underlying2
  a2 := Tryd.isAgg2
  z2 := Tryd.sizeOf2
  v2 := Tryd.zeroValue2
  t3 := Tryd.underlying3
  a3 := Tryd.isAgg3
  z3 := Tryd.sizeOf3
  v3 := Tryd.zeroValue3
  t4 := Tryd.underlying4
  a4 := Tryd.isAgg4
  z4 := Tryd.sizeOf4
  v4 := Tryd.zeroValue4
  t5 := Tryd.underlying5
  a5 := Tryd.isAgg5
  z5 := Tryd.sizeOf5
  v5 := Tryd.zeroValue5
  t9 := Tryd.underlying9
  a9 := Tryd.isAgg9
  z9 := Tryd.sizeOf9
  v9 := Tryd.zeroValue9
  t20 := Tryd.underlying20
  a20 := Tryd.isAgg20
  z20 := Tryd.sizeOf20
  v20 := Tryd.zeroValue20
  t37 := Tryd.underlying48
  a37 := Tryd.isAgg48
  z37 := Tryd.sizeOf48
  v37 := Tryd.zeroValue48
  t46 := Tryd.underlying104
  a46 := Tryd.isAgg104
  z46 := Tryd.sizeOf104
  v46 := Tryd.zeroValue104
  t51 := Tryd.underlying106
  a51 := Tryd.isAgg106
  z51 := Tryd.sizeOf106
  v51 := Tryd.zeroValue106
  t53 := Tryd.underlying112
  a53 := Tryd.isAgg112
  z53 := Tryd.sizeOf112
  v53 := Tryd.zeroValue112
  t171 := Tryd.underlying113
  a171 := Tryd.isAgg113
  z171 := Tryd.sizeOf113
  v171 := Tryd.zeroValue113
  t173 := Tryd.underlying116
  a173 := Tryd.isAgg116
  z173 := Tryd.sizeOf116
  v173 := Tryd.zeroValue116
  t212 := Tryd.underlying119
  a212 := Tryd.isAgg119
  z212 := Tryd.sizeOf119
  v212 := Tryd.zeroValue119
  t213 := Tryd.underlying120
  a213 := Tryd.isAgg120
  z213 := Tryd.sizeOf120
  t232 := Tryd.underlying124
  a232 := Tryd.isAgg124
  z232 := Tryd.sizeOf124
  v232 := Tryd.zeroValue124
  t233 := Tryd.underlying125
  a233 := Tryd.isAgg125
  z233 := Tryd.sizeOf125
  v233 := Tryd.zeroValue125
  g17 := by kernel_rfl
  g18 := by kernel_rfl
  g19 := by kernel_rfl
  i0 := by kernel_rfl
  i2 := by kernel_rfl
  i3 := by kernel_rfl
  i4 := by kernel_rfl
  i5 := by kernel_rfl
  i9 := by kernel_rfl
  i20 := by kernel_rfl
  i37 := by kernel_rfl
  i46 := by kernel_rfl
  i51 := by kernel_rfl
  i53 := by kernel_rfl
  i171 := by kernel_rfl
  i173 := by kernel_rfl
  i212 := by kernel_rfl
  i232 := by kernel_rfl
  i233 := by kernel_rfl
  m17 := by kernel_rfl
  m18 := by kernel_rfl
  m19 := by kernel_rfl }
open Go.RowKit Go.Sort Go.Lib in
/-- strconv.Itoa: "Itoa is equivalent to FormatInt(int64(i), 10).": i's DECIMAL NUMERAL ('Lib.itoa': a '-' where i is negative, then the digits), FOR EVERY int. The world behind the call: the world before it, new blocks behind the heap (the library's 'var a [24]byte'), draws. (LAID: no walk: one application.) -/
theorem Tryd.strconv_Itoa (n : Int) (h0 : -9223372036854775808 ≤ n) (h1 : n ≤ 9223372036854775807) (w : World) (htab : Lib.TabIs Tryd.prog w "internal/strconv.uint64pow10" .u64 Lib.pow10Tab) :
    Calls Tryd.prog 75 #[.int .i64 n] w fun e w' => e = .returned (.string ⟨(Lib.itoa n).toArray⟩) ∧ ∃ k os, w' = grow (w.drewN k) os := Any.strconv_Itoa Tryd.laysM171 n h0 h1 w htab
def Tryd.lays138_ren : Go.Shelf.Ren := ⟨fun | 138 => 24 | 195 => 40 | 218 => 41 | 143 => 42 | 219 => 65 | 217 => 76 | 225 => 77 | 224 => 78 | 267 => 79 | 266 => 85 | 314 => 86 | n => n, fun | 9 => 9 | 3 => 3 | 4 => 4 | 5 => 5 | 0 => 0 | 46 => 104 | 146 => 107 | 51 => 106 | n => n, fun | 1 => 1 | n => n⟩
theorem Tryd.lays138 : Go.Proofs.Lays.n138 Tryd.prog Tryd.lays138_ren := {
  mixed := by kernel_rfl
  f138 := Tryd.func24.trans (congrArg some (by kernel_rfl))
  f143 := Tryd.func42.trans (congrArg some (by kernel_rfl))
  f195 := Tryd.func40.trans (congrArg some (by kernel_rfl))
  f217 := Tryd.func76.trans (congrArg some (by kernel_rfl))
  f218 := Tryd.func41.trans (congrArg some (by kernel_rfl))
  f219 := Tryd.func65.trans (congrArg some (by kernel_rfl))
  f224 := Tryd.func78.trans (congrArg some (by kernel_rfl))
  f225 := Tryd.func77.trans (congrArg some (by kernel_rfl))
  f266 := Tryd.func85.trans (congrArg some (by kernel_rfl))
  f267 := Tryd.func79.trans (congrArg some (by kernel_rfl))
  f314 := Tryd.func86.trans (congrArg some (by kernel_rfl))
  t0 := Tryd.underlying0
  a0 := Tryd.isAgg0
  z0 := Tryd.sizeOf0
  v0 := Tryd.zeroValue0
  t3 := Tryd.underlying3
  a3 := Tryd.isAgg3
  z3 := Tryd.sizeOf3
  v3 := Tryd.zeroValue3
  t4 := Tryd.underlying4
  a4 := Tryd.isAgg4
  z4 := Tryd.sizeOf4
  v4 := Tryd.zeroValue4
  t5 := Tryd.underlying5
  a5 := Tryd.isAgg5
  z5 := Tryd.sizeOf5
  v5 := Tryd.zeroValue5
  t9 := Tryd.underlying9
  a9 := Tryd.isAgg9
  z9 := Tryd.sizeOf9
  v9 := Tryd.zeroValue9
  t46 := Tryd.underlying104
  a46 := Tryd.isAgg104
  z46 := Tryd.sizeOf104
  v46 := Tryd.zeroValue104
  t51 := Tryd.underlying106
  a51 := Tryd.isAgg106
  z51 := Tryd.sizeOf106
  v51 := Tryd.zeroValue106
  t146 := Tryd.underlying107
  a146 := Tryd.isAgg107
  z146 := Tryd.sizeOf107
  v146 := Tryd.zeroValue107
  g1 := by kernel_rfl }
open Go.RowKit Go.Lib in
/-- strings.Count AT A substr OF ONE BYTE ('hp'): "Count counts the number of non-overlapping instances of substr in s.": IT RETURNS 'Lib.countByte s (that byte)'; the world is as it was. ✋ NO CONTRACT HERE YET at an empty substr (utf8.RuneCountInString) or at a longer one (a loop over strings.Index). (LAID: no walk: one application.) -/
theorem Tryd.strings_Count_one (s : ByteArray) (c : UInt8) (w : World) :
    Calls Tryd.prog 24 #[.string s, .string ⟨#[c]⟩] w fun e w' => e = .returned (.int .i64 (Lib.countByte s.data.toList c)) ∧ w' = w := Any.strings_Count_one Tryd.lays138 s c w
def Tryd.lays149_ren : Go.Shelf.Ren := ⟨fun | 149 => 39 | 222 => 64 | n => n, fun | 9 => 9 | 5 => 5 | 3 => 3 | 4 => 4 | n => n, fun | n => n⟩
theorem Tryd.lays149 : Go.Proofs.Lays.n149 Tryd.prog Tryd.lays149_ren := {
  mixed := by kernel_rfl
  f149 := Tryd.func39.trans (congrArg some (by kernel_rfl))
  f222 := Tryd.func64.trans (congrArg some (by kernel_rfl))
  t3 := Tryd.underlying3
  a3 := Tryd.isAgg3
  z3 := Tryd.sizeOf3
  v3 := Tryd.zeroValue3
  t4 := Tryd.underlying4
  a4 := Tryd.isAgg4
  z4 := Tryd.sizeOf4
  v4 := Tryd.zeroValue4
  t5 := Tryd.underlying5
  a5 := Tryd.isAgg5
  z5 := Tryd.sizeOf5
  v5 := Tryd.zeroValue5
  t9 := Tryd.underlying9
  a9 := Tryd.isAgg9
  z9 := Tryd.sizeOf9
  v9 := Tryd.zeroValue9 }
open Go.RowKit Go.Lib in
/-- strings.LastIndexByte: "LastIndexByte returns the index of the last instance of c in s, or -1 if c is not present in s." (LAID: no walk: one application.) -/
theorem Tryd.strings_LastIndexByte (s : ByteArray) (c : Int) (hs : s.size < 4611686018427387904) (w : World) :
    Calls Tryd.prog 39 #[.string s, .int .u8 c] w fun e w' => e = .returned (.int .i64 (Lib.lastIndexByte s c)) ∧ w' = w := Any.strings_LastIndexByte Tryd.lays149 s c hs w

end Go.Proofs
/- Walks: strings.Builder: copyCheck, WriteByte, WriteString. -/
namespace Go.Proofs.YtbdkggnajipdhaaDoor
open Go.RowKit
set_option maxRecDepth 100000
/-- What is neither the builder's block nor a row of bytes stays. -/
def Keeps (b : Nat) (w w' : World) : Prop := ∀ (k : Nat) (o : Obj), k ≠ b → w.heap[k]? = some o → (∀ cs f, o ≠ .cells cs 5 f) → w'.heap[k]? = some o
theorem Keeps.refl (b : Nat) (w : World) : Keeps b w w := fun _ _ _ h _ => h
theorem Keeps.trans {b : Nat} {x y z : World} (h : Keeps b x y) (k : Keeps b y z) : Keeps b x z := fun i o hi ho hn => k i o hi (h i o hi ho hn) hn
theorem Keeps.setCell (b o : Nat) (v : Value) (w : World) : Keeps b w (w.setCell ⟨b, o, none⟩ v) := fun k _ hk ho _ => (Below.heap_setCell w ⟨b, o, none⟩ v k hk).trans ho
theorem Keeps.alloc (b : Nat) (w : World) (ob : Obj) : Keeps b w (w.alloc ob) := fun k _ _ ho _ => ((below_alloc w ob).block k (Array.getElem?_eq_some_iff.1 ho).1).trans ho
theorem Keeps.grown {b B n : Nat} {v : Value} {xs : List Value} {w w' : World} (ho : w.ownsRow B 5 1 v n xs) (hg : w.grownBy w' v.ownBlock) : Keeps b w w' := fun k o _ hk hn => by
  refine (hg.block k (Array.getElem?_eq_some_iff.1 hk).1 (fun e => ?_)).trans hk
  rcases ho.2 with ⟨rfl, _⟩ | ⟨g, cap, cur, rfl, _, hh, _⟩
  · cases e
  · simp only [Value.ownBlock, Option.some.injEq] at e
    subst e
    rw [hk] at hh
    injection hh with hh
    exact hn _ _ hh
theorem copyCheck_any (B b : Nat) (l : List Value) (w : World) (h : Lib.IsBuilder 50 5 B b l w) :
    Calls Tryd.prog 31 #[.pointer (some ⟨b, 0, none⟩)] w fun e w' => e = .returned (.tuple #[]) ∧ Lib.BuilderAt 50 5 B b (.pointer (some ⟨b, 0, none⟩)) l w' ∧ Below B w w' ∧ Keeps b w w' := by
  refine calls_W (l := [_]) Tryd.func31 rfl _ Tryd.ntmps31 (by simp) ?_
  obtain ⟨j, hj, hjs⟩ := Option.map_eq_some_iff.1 (show (Tryd.prog.info? 50).map (·.size) = some 2 by kernel_rfl)
  have ne : ∀ (x y : Operand) (w : World), vBin Tryd.prog .neq 47 x y (.pointer (some ⟨b, 0, none⟩)) (.pointer (some ⟨b, 0, none⟩)) w = .ok (.value (.bool false)) w := fun x y w => by
    simp only [vBin, eqGuard]
    simp [Lib.run_neq_ptr_same w _ Tryd.underlying47 hj]
  rcases h with h | h
  · have c0 := h.cell0
    have z0 := h.frozen0
    have cs : (w.setCell ⟨b, 0, none⟩ (.pointer (some ⟨b, 0, none⟩))).cell? ⟨b, 0, none⟩ = some (.pointer (some ⟨b, 0, none⟩)) := by rw [cS_same, c0]; rfl
    have cv1 : vConvert Tryd.prog 47 90 (.pointer (some ⟨b, 0, none⟩)) w = .ok (.value (.pointer (some ⟨b, 0, none⟩))) w := by
      simp [vConvert, Lib.run_to_unsafe w ⟨b, 0, none⟩ Tryd.underlying47 Tryd.underlying90 hj (by rw [hjs]; decide) h.shape (Nat.zero_lt_succ 1)]
    have cv2 : vConvert Tryd.prog 90 47 (.pointer (some ⟨b, 0, none⟩)) w = .ok (.value (.pointer (some ⟨b, 0, none⟩))) w := by
      simp [vConvert, Lib.run_from_unsafe w ⟨b, 0, none⟩ Tryd.underlying90 Tryd.underlying47 hj h.shape (by kernel_rfl)]
    have cl : vCall Tryd.prog 53 #[.pointer (some ⟨b, 0, none⟩)] w = .ok (.value (.pointer (some ⟨b, 0, none⟩))) w := by
      unfold vCall
      rw [run_callFunc_extern Tryd.func53 (by kernel_rfl) (by kernel_rfl) (by kernel_rfl) (e := Extern.AbiNoEscape.same) (by kernel_rfl), Lib.run_noEscape]
      rfl
    rw [vCall_at] at cl
    simp +contextual (maxSteps := 2000000) (disch := (first | omega | (simp only [SZ]; done) | (simp only [SZ]; omega) | (simp only [TS] at *; omega))) only [RZ, gval, gslot, fillL, ovw, numb, catL, ldN, agL, okC, oneC, init, Nat.reduceAdd, Nat.reduceMul, Nat.reduceSub, Nat.reduceEqDiff, Nat.reduceLT, ↓reduceIte, Int.reduceToNat, Int.reduceAdd, Int.reduceSub, Int.reduceMul, Int.reduceLT, Int.reduceLE, Int.reduceEq, Nat.reduceLeDiff,  c0]
    refine W_if_t rfl ?_
    simp +contextual (maxSteps := 2000000) (disch := (first | omega | (simp only [SZ]; done) | (simp only [SZ]; omega) | (simp only [TS] at *; omega))) only [RZ, gval, gslot, fillL, ovw, numb, catL, ldN, agL, okC, oneC, init, Nat.reduceAdd, Nat.reduceMul, Nat.reduceSub, Nat.reduceEqDiff, Nat.reduceLT, ↓reduceIte, Int.reduceToNat, Int.reduceAdd, Int.reduceSub, Int.reduceMul, Int.reduceLT, Int.reduceLE, Int.reduceEq, Nat.reduceLeDiff,  c0, z0, cv1, cv2, cl, cs, ne]
    exact ⟨h.used _, (Below.refl B w).setCell (p := ⟨b, 0, none⟩) h.1 _, Keeps.setCell _ _ _ _⟩
  · have c0 := h.cell0
    simp +contextual (maxSteps := 2000000) (disch := (first | omega | (simp only [SZ]; done) | (simp only [SZ]; omega) | (simp only [TS] at *; omega))) only [RZ, gval, gslot, fillL, ovw, numb, catL, ldN, agL, okC, oneC, init, Nat.reduceAdd, Nat.reduceMul, Nat.reduceSub, Nat.reduceEqDiff, Nat.reduceLT, ↓reduceIte, Int.reduceToNat, Int.reduceAdd, Int.reduceSub, Int.reduceMul, Int.reduceLT, Int.reduceLE, Int.reduceEq, Nat.reduceLeDiff,  c0]
    refine W_if_f rfl ?_
    simp +contextual (maxSteps := 2000000) (disch := (first | omega | (simp only [SZ]; done) | (simp only [SZ]; omega) | (simp only [TS] at *; omega))) only [RZ, gval, gslot, fillL, ovw, numb, catL, ldN, agL, okC, oneC, init, Nat.reduceAdd, Nat.reduceMul, Nat.reduceSub, Nat.reduceEqDiff, Nat.reduceLT, ↓reduceIte, Int.reduceToNat, Int.reduceAdd, Int.reduceSub, Int.reduceMul, Int.reduceLT, Int.reduceLE, Int.reduceEq, Nat.reduceLeDiff,  c0, ne]
    refine W_if_f rfl ?_
    simp +contextual (maxSteps := 2000000) (disch := (first | omega | (simp only [SZ]; done) | (simp only [SZ]; omega) | (simp only [TS] at *; omega))) only [RZ, gval, gslot, fillL, ovw, numb, catL, ldN, agL, okC, oneC, init, Nat.reduceAdd, Nat.reduceMul, Nat.reduceSub, Nat.reduceEqDiff, Nat.reduceLT, ↓reduceIte, Int.reduceToNat, Int.reduceAdd, Int.reduceSub, Int.reduceMul, Int.reduceLT, Int.reduceLE, Int.reduceEq, Nat.reduceLeDiff]
    exact ⟨h, Below.refl B _, Keeps.refl _ _⟩
theorem writeByte_any (B b : Nat) (l : List Value) (c : Int) (w : World) (h : Lib.IsBuilder 50 5 B b l w) (hlen : l.length + 1 ≤ 1000000000) (hBw : B ≤ w.heap.size) :
    Calls Tryd.prog 54 #[.pointer (some ⟨b, 0, none⟩), .int .u8 c] w fun e w' => e = .returned .nilIface ∧ Lib.IsBuilder 50 5 B b (l ++ [.int .u8 c]) w' ∧ Below B w w' ∧ Keeps b w w' := by
  refine calls_W (l := [_, _]) Tryd.func54 rfl _ Tryd.ntmps54 (by simp) ?_
  simp +contextual (maxSteps := 2000000) (disch := (first | omega | (simp only [SZ]; done) | (simp only [SZ]; omega) | (simp only [TS] at *; omega))) only [RZ, gval, gslot, fillL, ovw, numb, catL, ldN, agL, okC, oneC, init, Nat.reduceAdd, Nat.reduceMul, Nat.reduceSub, Nat.reduceEqDiff, Nat.reduceLT, ↓reduceIte, Int.reduceToNat, Int.reduceAdd, Int.reduceSub, Int.reduceMul, Int.reduceLT, Int.reduceLE, Int.reduceEq, Nat.reduceLeDiff]
  refine (copyCheck_any B b l w h).mono ?_
  rintro e w1 ⟨rfl, ⟨hB, v, hbk, hown, hne⟩, hb1, hkp⟩
  refine ⟨_, rfl, ?_⟩
  have hI : sliceI Tryd.prog 48 = some (5, 1, 1) := by kernel_rfl
  obtain ⟨A, n, cp, rfl, rfl⟩ : ∃ A n cp, v = .slice A n cp ∧ n = l.length := by
    rcases hown.2 with ⟨hv, h0⟩ | ⟨g, cap, cur, hv, _⟩
    · exact ⟨none, 0, 0, hv, h0.symm⟩
    · exact ⟨_, _, _, hv, rfl⟩
  have c1 : w1.cell? ⟨b, 1, none⟩ = some (.slice A l.length cp) := by rw [Lib.cell_of_heap hbk]; rfl
  have hsz := hb1.size
  obtain ⟨A', c', w2, he, hown2, hg2, _⟩ := vAppend_own (P := Tryd.prog) (T := 48) (ty := 48) (m := 1) (c := 1) (b := w1.heap.size) (o := 0) (news := [.int .u8 c]) hI (hown.alloc (.cells #[.int .u8 c] 5)) rfl
    (fun j u hu => by rw [Nat.zero_add, (new_block w1 #[.int .u8 c] 5).1 j]; simpa using hu) (fun u hu => by simp at hu; subst hu; rfl) (by omega) (by omega) (by rw [World.size_alloc]; omega)
  have hlt : b < w1.heap.size := by
    rcases Nat.lt_or_ge b w1.heap.size with h' | h'
    · exact h'
    · simp [Array.getElem?_eq_none h'] at hbk
  have hb2 : w2.heap[b]? = some (.cells #[.pointer (some ⟨b, 0, none⟩), .slice A l.length cp] 50 (0, 0)) := by
    rw [hg2.block b (by simp; omega) (fun e => hne e.symm), Lib.alloc_old w1 _ b hlt]
    exact hbk
  have d1 : w2.cell? ⟨b, 1, none⟩ = some (.slice A l.length cp) := by rw [Lib.cell_of_heap hb2]; rfl
  have f1 : w2.frozen? ⟨b, 1, none⟩ = false := Lib.frozen_of_heap hb2 1
  simp +contextual (maxSteps := 2000000) (disch := (first | omega | (simp only [SZ]; done) | (simp only [SZ]; omega) | (simp only [TS] at *; omega))) only [RZ, gval, gslot, fillL, ovw, numb, catL, ldN, agL, okC, oneC, init, Nat.reduceAdd, Nat.reduceMul, Nat.reduceSub, Nat.reduceEqDiff, Nat.reduceLT, ↓reduceIte, Int.reduceToNat, Int.reduceAdd, Int.reduceSub, Int.reduceMul, Int.reduceLT, Int.reduceLE, Int.reduceEq, Nat.reduceLeDiff,  c1, he, d1, f1]
  exact ⟨.inr (Lib.BuilderAt.put (T := 50) (e := 5) hB hb2 (bs' := l ++ [.int .u8 c]) (by simpa using hown2) (by decide)),
    ((hb1.alloc (by omega) _).grown hg2 (by simp; omega) (fun k hk => (hown.lt k hk).1)).setCell (p := ⟨b, 1, none⟩) hB _,
    ((hkp.trans (Keeps.alloc _ _ _)).trans (Keeps.grown (hown.alloc _) hg2)).trans (Keeps.setCell _ _ _ _)⟩
theorem writeString_any (B b : Nat) (l : List Value) (s : ByteArray) (w : World) (h : Lib.IsBuilder 50 5 B b l w) (hlen : l.length + s.size ≤ 1000000000) (hBw : B ≤ w.heap.size) :
    Calls Tryd.prog 13 #[.pointer (some ⟨b, 0, none⟩), .string s] w fun e w' => e = .returned (.tuple #[.int .i64 s.size, .nilIface]) ∧ Lib.IsBuilder 50 5 B b (l ++ Lib.strCells s) w' ∧ Below B w w' ∧ Keeps b w w' := by
  refine calls_W (l := [_, _]) Tryd.func13 rfl _ Tryd.ntmps13 (by simp) ?_
  simp +contextual (maxSteps := 2000000) (disch := (first | omega | (simp only [SZ]; done) | (simp only [SZ]; omega) | (simp only [TS] at *; omega))) only [RZ, gval, gslot, fillL, ovw, numb, catL, ldN, agL, okC, oneC, init, Nat.reduceAdd, Nat.reduceMul, Nat.reduceSub, Nat.reduceEqDiff, Nat.reduceLT, ↓reduceIte, Int.reduceToNat, Int.reduceAdd, Int.reduceSub, Int.reduceMul, Int.reduceLT, Int.reduceLE, Int.reduceEq, Nat.reduceLeDiff]
  refine (copyCheck_any B b l w h).mono ?_
  rintro e w1 ⟨rfl, ⟨hB, v, hbk, hown, hne⟩, hb1, hkp⟩
  refine ⟨_, rfl, ?_⟩
  obtain ⟨i0, hi, hz0, hz1, hz2⟩ := info_parts (show (Tryd.prog.info? 5).map (fun i => (i.zero, i.size, i.bytes)) = some (some (.int .u8 0), 1, 1) by kernel_rfl)
  obtain ⟨A, n, cp, rfl, rfl⟩ : ∃ A n cp, v = .slice A n cp ∧ n = l.length := by
    rcases hown.2 with ⟨hv, h0⟩ | ⟨g, cap, cur, hv, _⟩
    · exact ⟨none, 0, 0, hv, h0.symm⟩
    · exact ⟨_, _, _, hv, rfl⟩
  have c1 : w1.cell? ⟨b, 1, none⟩ = some (.slice A l.length cp) := by rw [Lib.cell_of_heap hbk]; rfl
  have hsz := hb1.size
  obtain ⟨v', w2, he0, hown2, hg2, _⟩ := Lib.run_append_own_string (P := Tryd.prog) (w := w1) B 48 9 48 5 i0 Tryd.underlying48 Tryd.underlying9 hi hz0 hz1 hz2 (.slice A l.length cp) l.length l hown s (by unfold maxLen; omega) (by omega) (by omega)
  have he : vAppend Tryd.prog 48 9 48 (.slice A l.length cp) (.string s) w1 = .ok (.value v') w2 := by simp [vAppend, he0]
  obtain ⟨A', n', c', rfl⟩ : ∃ A n cp, v' = .slice A n cp := by
    rcases hown2.2 with ⟨hv, _⟩ | ⟨g, cap, cur, hv, _⟩
    · exact ⟨_, _, _, hv⟩
    · exact ⟨_, _, _, hv⟩
  have hlt : b < w1.heap.size := by
    rcases Nat.lt_or_ge b w1.heap.size with h' | h'
    · exact h'
    · simp [Array.getElem?_eq_none h'] at hbk
  have hb2 : w2.heap[b]? = some (.cells #[.pointer (some ⟨b, 0, none⟩), .slice A l.length cp] 50 (0, 0)) := by
    rw [hg2.block b hlt (fun e => hne e.symm)]
    exact hbk
  have d1 : w2.cell? ⟨b, 1, none⟩ = some (.slice A l.length cp) := by rw [Lib.cell_of_heap hb2]; rfl
  have f1 : w2.frozen? ⟨b, 1, none⟩ = false := Lib.frozen_of_heap hb2 1
  simp +contextual (maxSteps := 2000000) (disch := (first | omega | (simp only [SZ]; done) | (simp only [SZ]; omega) | (simp only [TS] at *; omega))) only [RZ, gval, gslot, fillL, ovw, numb, catL, ldN, agL, okC, oneC, init, Nat.reduceAdd, Nat.reduceMul, Nat.reduceSub, Nat.reduceEqDiff, Nat.reduceLT, ↓reduceIte, Int.reduceToNat, Int.reduceAdd, Int.reduceSub, Int.reduceMul, Int.reduceLT, Int.reduceLE, Int.reduceEq, Nat.reduceLeDiff,  c1, he, d1, f1]
  exact ⟨.inr (Lib.BuilderAt.put (T := 50) (e := 5) hB hb2 (bs' := l ++ Lib.strCells s) (by simpa [Lib.strCells_length] using hown2) (by decide)),
    (hb1.grown hg2 (by omega) (fun k hk => (hown.lt k hk).1)).setCell (p := ⟨b, 1, none⟩) hB _,
    (hkp.trans (Keeps.grown hown hg2)).trans (Keeps.setCell _ _ _ _)⟩
theorem isB_below {B b : Nat} {l : List Value} {w w' : World} (h : Lib.IsBuilder 50 5 B b l w) (hb : Below w.heap.size w w') : Lib.IsBuilder 50 5 B b l w' := by
  have key : ∀ p, Lib.BuilderAt 50 5 B b p l w → Lib.BuilderAt 50 5 B b p l w' := by
    rintro p ⟨hB, v, hbk, hown, hne⟩
    have hlt : b < w.heap.size := (Array.getElem?_eq_some_iff.1 hbk).1
    exact ⟨hB, v, (hb.block b hlt).trans hbk, owns_below hown hb, hne⟩
  exact h.elim (fun h => .inl (key _ h)) (fun h => .inr (key _ h))
end Go.Proofs.YtbdkggnajipdhaaDoor
