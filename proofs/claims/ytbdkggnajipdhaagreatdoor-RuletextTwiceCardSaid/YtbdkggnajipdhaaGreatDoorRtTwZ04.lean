/- Texts laid one behind the other: Own, Ord2, Ord3, Kep, DeckSpec, LexP, NumP, ScrP, DkP, LexS, DkQ, DkR, DkS, LexL, DkT, DkU, RtP, PaR, Ord5. Each says at its head what it proves. -/
import Derived.Test.YtbdkggnajipdhaaGreatDoorRtTwZ03
import Derived.Lib.ItoaLen
set_option linter.unusedSimpArgs false
/- Rows of cells that are owned and grow; lists of records in a row. No program in sight. -/
namespace Go.Proofs.YtbdkggnajipdhaaGreatDoor
open Go.RowKit
/-- What owns something is a row. -/
theorem owns_row {w : World} {base size n c : Nat} {e : TypeId} {A : Option Addr} {xs : List Value} (h : w.ownsRow base e size (.slice A n c) n xs) (hn : 0 < n) : ∃ g, A = some ⟨g, 0, none⟩ ∧ base ≤ g ∧ Row w g e xs ∧ n ≤ c ∧ c ≤ maxLen := by
  rcases h.2 with ⟨_, h0⟩ | ⟨g, cap, cur, he, hb, hg, hnc, hcm, _, ht⟩
  · omega
  · injection he with h1 h2 h3
    subst h3
    exact ⟨g, h1, hb, ⟨cur, hg, _, by rw [← ht]; exact (List.take_append_drop _ _).symm⟩, hnc, hcm⟩
theorem grown_below {w w' : World} {row : Option Nat} {B : Nat} (h : w.grownBy w' row) (hr : ∀ g, row = some g → B ≤ g) (hB : B ≤ w.heap.size) : Below B w w' :=
  ⟨h.os, h.tape, h.output, h.size, fun k hk => h.block k (Nat.lt_of_lt_of_le hk hB) (fun e => by have := hr k e.symm; omega)⟩
theorem owns_keep {w w' : World} {base e size n : Nat} {v : Value} {xs : List Value} (h : w.ownsRow base e size v n xs) (hb : ∀ g, v.ownBlock = some g → w'.heap[g]? = w.heap[g]?) : w'.ownsRow base e size v n xs := by
  refine ⟨h.1, ?_⟩
  rcases h.2 with h0 | ⟨g, cap, cur, rfl, h1, h2, h3⟩
  · exact .inl h0
  · exact .inr ⟨g, cap, cur, rfl, h1, (hb g rfl).trans h2, h3⟩
theorem owns_ge {w : World} {base e size n : Nat} {v : Value} {xs : List Value} (h : w.ownsRow base e size v n xs) {g : Nat} (hg : v.ownBlock = some g) : base ≤ g ∧ g < w.heap.size := by
  rcases h.2 with ⟨rfl, _⟩ | ⟨g', cap, cur, rfl, h1, h2, h3⟩
  · cases hg
  · simp only [Value.ownBlock, Option.some.injEq] at hg
    subst hg
    exact ⟨h1, (Array.getElem?_eq_some_iff.1 h2).1⟩
section
variable {P : Program} {w w' : World} {base e sz n c : Nat} {A : Option Addr} {xs news : List Value}
theorem owns_nil (w : World) (base e sz : Nat) : w.ownsRow base e sz (.slice none 0 0) 0 [] := ⟨by simp, .inl ⟨rfl, rfl⟩⟩
theorem owns_below {v : Value} (h : w.ownsRow base e sz v n xs) (hb : Below w.heap.size w w') : w'.ownsRow base e sz v n xs :=
  owns_keep h fun g hg => hb.block g (owns_ge h hg).2
theorem push1 {T ty bytes : Nat} (h : w.ownsRow base e sz (.slice A n c) n xs) (hb : base ≤ w.heap.size) (hI : sliceI P T = some (e, sz, bytes)) (hn : news.length = sz) (h1 : ∀ u ∈ news, u.oneCell' = true)
    (h63 : n + 1 ≤ 1000000000) (hby : bytes ≤ 10000) :
    ∃ A' c' w2, vAppend P T T ty (.slice A n c) (.slice (some ⟨w.heap.size, 0, none⟩) 1 1) (w.alloc (.cells news.toArray e)) = .ok (.value (.slice A' (n + 1) c')) w2 ∧
      w2.ownsRow base e sz (.slice A' (n + 1) c') (n + 1) (xs ++ news) ∧ Below base w w2 ∧ w.heap.size ≤ w2.heap.size := by
  have hba := below_alloc w (.cells news.toArray e)
  obtain ⟨A', c', w2, he, ho, hg', hbk⟩ := vAppend_own (P := P) (ty := ty) (m := 1) (c := 1) (b := w.heap.size) (o := 0) (news := news) hI (owns_below h hba) (by rw [hn, Nat.one_mul])
    (fun j u hu => by rw [Nat.zero_add, (new_block w news.toArray e).1 j]; simpa using hu) h1 h63 hby (by rw [World.size_alloc]; omega)
  have hgrow : Below base (w.alloc (.cells news.toArray e)) w2 := grown_below hg' (fun g hg => (owns_ge h hg).1) (by rw [World.size_alloc]; omega)
  have hB := (hba.mono hb).trans hgrow
  exact ⟨A', c', w2, he, ho, hB, hB.size⟩
end
end Go.Proofs.YtbdkggnajipdhaaGreatDoor
/- Regions that draw their order: slot readers (in any world alike), and a chain behind them. -/
namespace Go.Proofs.YtbdkggnajipdhaaGreatDoor
open Go.RowKit
section
variable {P : Program} {n : Nat} {ops : Array Oper} {Q : Exit → Sl → World → Prop} {σ : Sl} {w : World}
def chB (ops : Array Oper) : Array Bool → List Nat → Bool
  | L, [] => decide (Region.ready .any ops L = [])
  | L, j :: r => decide (Region.ready .any ops L = [j]) && (match ops[j]? with
    | some ⟨_, _, _, _, _, none⟩ => true
    | _ => false) && chB ops (L.setIfInBounds j true) r
/-! The same where the readers read memory: S is what all worlds of the chain meet. Guarded operations may stand in the chain. -/
def chG (ops : Array Oper) : Array Bool → List Nat → Bool
  | L, [] => decide (Region.ready .any ops L = [])
  | L, j :: r => decide (Region.ready .any ops L = [j]) && (ops[j]?).isSome && chG ops (L.setIfInBounds j true) r
def EC (P : Program) (n : Nat) (ops : Array Oper) (S : World → Prop) : List Oper → Sl → World → (Sl → World → Prop) → Prop
  | [], σ, w, K => K σ w
  | ⟨d, op, ty, _, _, g⟩ :: r, σ, w, K => match g with
    | none => Okv P (fun v w' => S w' ∧ EC P n ops S r (put n σ d v) w' K) (run1 P op ty σ w)
    | some (j, b) => GB P (isB b (gval σ (gslot ops j))) (run1 P op ty σ w) (fun v w' => S w' ∧ EC P n ops S r (put n σ d v) w' K) w
theorem EC_nil (S : World → Prop) (σ : Sl) (w : World) (K : Sl → World → Prop) : EC P n ops S [] σ w K = K σ w := nr rfl
theorem EC_op (S : World → Prop) (d : Option Nat) (op : Op) (ty : TypeId) (p : String) (af : Array Edge) (r : List Oper) (σ : Sl) (w : World) (K : Sl → World → Prop) :
    EC P n ops S (⟨d, op, ty, p, af, none⟩ :: r) σ w K = Okv P (fun v w' => S w' ∧ EC P n ops S r (put n σ d v) w' K) (run1 P op ty σ w) := nr rfl
theorem EC_opg (S : World → Prop) (d : Option Nat) (op : Op) (ty : TypeId) (p : String) (af : Array Edge) (j : Nat) (b : Bool) (r : List Oper) (σ : Sl) (w : World) (K : Sl → World → Prop) :
    EC P n ops S (⟨d, op, ty, p, af, some (j, b)⟩ :: r) σ w K = GB P (isB b (gval σ (gslot ops j))) (run1 P op ty σ w) (fun v w' => S w' ∧ EC P n ops S r (put n σ d v) w' K) w := nr rfl
@[congr] theorem EC_congr {S : World → Prop} {l : List Oper} {σ σ' : Sl} {w w' : World} {K : Sl → World → Prop} (h : σ = σ') (h' : w = w') : EC P n ops S l σ w K = EC P n ops S l σ' w' K := by rw [h, h']
theorem OpO_ofg {S : World → Prop} {fuel : Nat} {listed : Array Bool} (i : Nat) {d : Option Nat} {op : Op} {ty : TypeId} {p : String} {af : Array Edge} {j : Nat} {b : Bool} (hi : ops[i]? = some ⟨d, op, ty, p, af, some (j, b)⟩)
    (h : GB P (isB b (gval σ (gslot ops j))) (run1 P op ty σ w) (fun v w' => S w' ∧ Ord P n ops Q S fuel (listed.setIfInBounds i true) (put n σ d v) w') w) : OpO P n ops Q S fuel listed σ w i := by
  intro a hfr
  unfold wpOp
  simp only [hi]
  rw [wanted_some hfr rfl]
  unfold GB at h
  split
  · rename_i hg
    rw [if_pos hg] at h
    exact .inl (Oper.wp_of_Okv hfr (o := ⟨d, op, ty, p, af, some (j, b)⟩) h fun v w' hE => ⟨hE.1, hE.2 _ (hfr.put d v)⟩)
  · rename_i hg
    rw [if_neg hg] at h
    exact ⟨h.1, h.2 _ (hfr.put d undef)⟩
theorem GB_mono {g : Bool} {R R' : Value → World → Prop} {r : Result Next} (h : ∀ v w, R v w → R' v w) (hr : GB P g r R w) : GB P g r R' w := by
  unfold GB at *
  split
  · rename_i hg
    rw [if_pos hg] at hr
    exact Okv_mono h hr
  · rename_i hg
    rw [if_neg hg] at hr
    exact h _ _ hr
theorem Ord_chainS (S : World → Prop) : ∀ (js : List Nat) (listed : Array Bool) (σ : Sl) (w : World), chG ops listed js = true → EC P n ops S (opsL ops js) σ w (Q .normal) → Ord P n ops Q S js.length listed σ w
  | [], L, σ, w, h, hE => Ord_done (of_decide_eq_true h) hE
  | j :: r, L, σ, w, h, hE => by
    rw [chG, Bool.and_eq_true, Bool.and_eq_true] at h
    obtain ⟨⟨h1, h2⟩, h3⟩ := h
    rw [opsL_cons] at hE
    cases ho : ops[j]? with
    | none => rw [ho] at h2; cases h2
    | some o =>
      obtain ⟨d, op, ty, p, af, g⟩ := o
      refine Ord_all [j] (of_decide_eq_true h1) (by simp) fun k hk => ?_
      obtain rfl : k = j := by simpa using hk
      cases g with
      | some g =>
        obtain ⟨gj, gb⟩ := g
        rw [ho, optL_some, EC_opg] at hE
        exact OpO_ofg k ho (GB_mono (fun v w' hh => ⟨hh.1, Ord_chainS S r _ _ _ h3 hh.2⟩) hE)
      | none =>
        rw [ho, optL_some, EC_op] at hE
        exact OpO_of k ho (Okv_mono (fun v w' hh => ⟨hh.1, Ord_chainS S r _ _ _ h3 hh.2⟩) hE)
theorem Raw_rcS (S : World → Prop) (is js : List Nat) {τ : Sl} {id : Nat} (hm : P.follows .mixedOrders = true) (hsz : ops.size = js.length + is.length) (hs : Region.noSelect ops = true) (hB : rdB n ops (Array.replicate (js.length + is.length) false) is = true)
    (hc : chG ops (markL (Array.replicate (js.length + is.length) false) is) js = true) (hQ : ∀ c σ w, ¬ Q (.panic c) σ w) (hS : S w.drew)
    (hv : ∀ w', S w' → V P n w' (opsL ops is) σ (fun σ' => σ' = τ)) (h : EC P n ops S (opsL ops js) τ w.drew (Q .normal)) : Raw P n (.region id ops true) Q σ w :=
  Raw_ord S _ hsz hm (Ord_reads is js.length rfl hs hB hQ hS hv (Ord_chainS S js _ _ _ hc h))
end
end Go.Proofs.YtbdkggnajipdhaaGreatDoor
/- Regions that draw their order, where those that write wait for those that read: the pure ones are taken first, at the values that they yield in the world at hand. -/
namespace Go.Proofs.YtbdkggnajipdhaaGreatDoor
open Go.RowKit
section
variable {P : Program} {md : Region.Mode} {ops : Array Oper} {Q : Exit → Act → World → Prop} {pl : List Nat}
/-- Whatever order is picked from here on; the operations of the list pl leave the world as it is. -/
def wpAnyT (P : Program) (md : Region.Mode) (ops : Array Oper) (Q : Exit → Act → World → Prop) (pl : List Nat) : Nat → Array Bool → Act → World → Prop
  | 0, listed, a, w => Region.ready md ops listed = [] ∧ Q .normal a w
  | fuel + 1, listed, a, w =>
    (Region.ready md ops listed = [] → Q .normal a w) ∧
    ∀ i ∈ Region.ready md ops listed, wpOp P ops Q i (fun a' w' => (pl.contains i = true → w' = w) ∧ wpAnyT P md ops Q pl fuel (listed.setIfInBounds i true) a' w') a w
end
section
variable {P : Program} {n : Nat} {ops : Array Oper} {Q : Exit → Sl → World → Prop} {σ : Sl} {w : World} {fuel : Nat} {listed : Array Bool} {pl : List Nat}
def OrdT (P : Program) (n : Nat) (ops : Array Oper) (Q : Exit → Sl → World → Prop) (pl : List Nat) (fuel : Nat) (listed : Array Bool) (σ : Sl) (w : World) : Prop :=
  ∀ a, Fr n σ a → wpAnyT P .any ops (lift n Q) pl fuel listed a w
@[congr] theorem OrdT_congr {σ σ' : Sl} {w w' : World} (h : σ = σ') (h' : w = w') : OrdT P n ops Q pl fuel listed σ w = OrdT P n ops Q pl fuel listed σ' w' := by rw [h, h']
end
end Go.Proofs.YtbdkggnajipdhaaGreatDoor
/- Frames: all blocks but the listed ones stay. -/
namespace Go.Proofs.YtbdkggnajipdhaaGreatDoor
open Go.RowKit
set_option maxRecDepth 100000
/-- All blocks but the listed ones stay. -/
structure Kept (X : List Nat) (w w' : World) : Prop where
  os : w'.os = w.os
  tape : w'.tape = w.tape
  output : w'.output = w.output
  size : w.heap.size ≤ w'.heap.size
  block : ∀ k, k < w.heap.size → k ∉ X → w'.heap[k]? = w.heap[k]?
section
variable {X : List Nat} {a w w' : World}
theorem Kept.refl (X : List Nat) (w : World) : Kept X w w := ⟨rfl, rfl, rfl, Nat.le_refl _, fun _ _ _ => rfl⟩
theorem Kept.trans (h : Kept X a w) (k : Kept X w w') : Kept X a w' :=
  ⟨k.os.trans h.os, k.tape.trans h.tape, k.output.trans h.output, Nat.le_trans h.size k.size, fun g hg hr => (k.block g (Nat.lt_of_lt_of_le hg h.size) hr).trans (h.block g hg hr)⟩
theorem Kept.of_below (h : Below w.heap.size w w') : Kept X w w' := ⟨h.os, h.tape, h.output, h.size, fun g hg _ => h.block g hg⟩
theorem Kept.of_only {g : Nat} (h : Only g (g + 1) w w') (hg : g ∈ X) : Kept X w w' :=
  ⟨h.os, h.tape, h.output, h.size, fun k hk hr => h.block k hk (by have : k ≠ g := fun e => hr (e ▸ hg); omega)⟩
theorem Kept.alloc (h : Kept X a w) (o : Obj) : Kept X a (w.alloc o) := h.trans (Kept.of_below (below_alloc w o))
theorem Kept.drew (h : Kept X a w) : Kept X a w.drew := ⟨h.os, h.tape, h.output, h.size, h.block⟩
theorem Kept.setCell (h : Kept X a w) {p : Addr} (hp : p.block ∈ X) (v : Value) : Kept X a (w.setCell p v) :=
  h.trans (Kept.of_only (g := p.block) ((Only.refl p.block (p.block + 1) w).setCell (Nat.le_refl _) (Nat.lt_succ_self _) v) hp)
theorem Row.kept {g : Nat} {T : TypeId} {cs : List Value} (h : Row w g T cs) (k : Kept X w w') (hg : g ∉ X) : Row w' g T cs := h.of_block (k.block g h.lt hg)
/-- What is new may be listed too. -/
theorem Kept.less {Y : List Nat} (h : Kept X w w') (hY : ∀ k ∈ X, k < w.heap.size → k ∈ Y) : Kept Y w w' :=
  ⟨h.os, h.tape, h.output, h.size, fun k hk hr => h.block k hk fun hx => hr (hY k hx hk)⟩
theorem Kept.only {g : Nat} (h : Kept [g] w w') : Only g (g + 1) w w' := ⟨h.os, h.tape, h.output, h.size, fun k hk hr => h.block k hk (by simp; omega)⟩
theorem Kept.cell {g o : Nat} (h : Kept X w w') (hg : g < w.heap.size) (hr : g ∉ X) : w'.cell? ⟨g, o, none⟩ = w.cell? ⟨g, o, none⟩ := World.cell?_of_block (w := w) (h.block g hg hr)
theorem Kept.frozen {g o : Nat} (h : Kept X w w') (hg : g < w.heap.size) (hr : g ∉ X) : w'.frozen? ⟨g, o, none⟩ = w.frozen? ⟨g, o, none⟩ := World.frozen?_of_block (w := w) (h.block g hg hr)
end
theorem Arr.kept {X : List Nat} {w w' : World} {A : Option Addr} {sz : Nat} {Ls : List (List Value)} (h : Arr w A sz Ls) (k : Kept X w w') (hA : ∀ b o, A = some ⟨b, o, none⟩ → b ∉ X) : Arr w' A sz Ls := fun hn => by
  obtain ⟨b, o, e, hb, hc⟩ := h hn
  exact ⟨b, o, e, Nat.lt_of_lt_of_le hb k.size, fun i l hl j u hu => (k.cell hb (hA b o e)).trans (hc i l hl j u hu)⟩
end Go.Proofs.YtbdkggnajipdhaaGreatDoor
/- The plain specification of a plan's check: names, levels. No program in sight. -/
namespace Go.Proofs.YtbdkggnajipdhaaGreatDoor

/-- A level: prize, count, pack. -/
structure Lvl where
  prize : Int
  count : Int
  pack : Int
def Lvl.bad (P S before : Int) (v : Lvl) : Prop := v.prize < 1 ∨ before ≤ v.prize ∨ v.count < 1 ∨ P * S < v.count ∨ v.pack < 0 ∨ S < v.pack
instance (P S before : Int) (v : Lvl) : Decidable (v.bad P S before) := by unfold Lvl.bad; exact inferInstance
end Go.Proofs.YtbdkggnajipdhaaGreatDoor
/- Plain: bytes of a string as numbers; kinds of bytes; the first piece of a text. No program in sight. -/
namespace Go.Proofs.YtbdkggnajipdhaaGreatDoor
def bs (s : ByteArray) : List Nat := s.data.toList.map UInt8.toNat
theorem bs_len (s : ByteArray) : (bs s).length = s.size := by simp [bs]
theorem bs_lt (s : ByteArray) : ∀ c ∈ bs s, c < 256 := by
  intro c hc
  obtain ⟨b, _, rfl⟩ := List.mem_map.1 hc
  exact UInt8.toNat_lt _
theorem bt_bs (s : ByteArray) (i : Nat) : bt s i = (bs s).getD i 0 := by
  unfold bt bs
  rw [List.getD_eq_getElem?_getD, List.getD_eq_getElem?_getD, List.getElem?_map]
  cases s.data.toList[i]? <;> rfl
theorem bs_get {s : ByteArray} {i : Nat} (h : i < s.size) : (bs s)[i]? = some (bt s i) := by
  rw [bt_bs, List.getD_eq_getElem?_getD]
  have : i < (bs s).length := by rw [bs_len]; exact h
  rw [List.getElem?_eq_getElem this]; rfl
theorem bs_extract (s : ByteArray) (a b : Nat) : bs (s.extract a b) = ((bs s).drop a).take (b - a) := by
  unfold bs
  rw [ByteArray.data_extract, Array.toList_extract, List.extract_eq_take_drop, List.map_take, List.map_drop]
theorem bs_inj {s t : ByteArray} (h : bs s = bs t) : s = t := by
  apply ByteArray.ext
  apply Array.ext'
  unfold bs at h
  exact (List.map_inj_right (fun a b e => UInt8.toNat_inj.1 e)).1 h
theorem bs_empty : bs ByteArray.empty = [] := rfl
def blankB (c : Nat) : Bool := c == 32 || c == 9 || c == 13 || c == 10
def letterB (c : Nat) : Bool := decide (97 ≤ c) && decide (c ≤ 122)
def digitB (c : Nat) : Bool := decide (48 ≤ c) && decide (c ≤ 57)
def wordB (c : Nat) : Bool := letterB c || digitB c || c == 45
def remB (c : Nat) : Bool := !(c == 10)
def markB (c : Nat) : Bool := c == 123 || c == 125 || c == 59 || c == 58
def spn (q : Nat → Bool) (l : List Nat) : Nat := (l.takeWhile q).length
def badN (n c : Nat) : Bool := decide (18 < n) || (decide (1 < n) && c == 48)
/-- The kind and the length of what a text begins with: kind 0 for blanks and remarks, length 0 for an error. -/
def piece : List Nat → Nat × Nat
  | [] => (0, 0)
  | c :: r =>
    if blankB c then (0, spn blankB (c :: r))
    else if c = 35 then (0, spn remB (c :: r))
    else if letterB c then (1, spn wordB (c :: r))
    else if digitB c then (if badN (spn digitB (c :: r)) c then (2, 0) else (2, spn digitB (c :: r)))
    else if markB c then (3, 1) else (0, 0)
theorem spn_le (q : Nat → Bool) (l : List Nat) : spn q l ≤ l.length := by
  unfold spn
  induction l with
  | nil => simp
  | cons c r ih =>
    by_cases h : q c = true
    · rw [List.takeWhile_cons_of_pos h]; simpa using ih
    · rw [List.takeWhile_cons_of_neg h]; simp
theorem spn_pos {q : Nat → Bool} {c : Nat} {r : List Nat} (h : q c = true) : 1 ≤ spn q (c :: r) := by unfold spn; rw [List.takeWhile_cons_of_pos h]; simp
theorem piece_le (l : List Nat) : (piece l).2 ≤ l.length := by
  cases l with
  | nil => simp [piece]
  | cons c r =>
    rw [piece]
    have h1 := spn_le blankB (c :: r); have h2 := spn_le remB (c :: r); have h3 := spn_le wordB (c :: r); have h4 := spn_le digitB (c :: r)
    repeat' split
    all_goals simp only [List.length_cons] at *
    all_goals omega
theorem spn_at {q : Nat → Bool} : ∀ (l : List Nat) (k : Nat), k < spn q l → ∃ c, l[k]? = some c ∧ q c = true
  | [], k, h => by simp [spn] at h
  | c :: r, k, h => by
    unfold spn at h
    by_cases hq : q c = true
    · rw [List.takeWhile_cons_of_pos hq] at h
      cases k with
      | zero => exact ⟨c, rfl, hq⟩
      | succ k => obtain ⟨d, h1, h2⟩ := spn_at r k (by unfold spn; simpa using h); exact ⟨d, by simpa using h1, h2⟩
    · rw [List.takeWhile_cons_of_neg hq] at h; simp at h
/-- It is the first that is not taken. -/
theorem spn_is {q : Nat → Bool} : ∀ (l : List Nat) (k : Nat), (∀ j, j < k → ∃ c, l[j]? = some c ∧ q c = true) → (∀ c, l[k]? = some c → q c = false) → spn q l = k
  | [], k, h1, _ => by
    cases k with
    | zero => rfl
    | succ k => obtain ⟨c, h, _⟩ := h1 0 (by omega); simp at h
  | c :: r, k, h1, h2 => by
    unfold spn
    cases k with
    | zero => rw [List.takeWhile_cons_of_neg (by rw [h2 c rfl]; simp)]; rfl
    | succ k =>
      obtain ⟨d, hd, hq⟩ := h1 0 (by omega)
      simp only [List.getElem?_cons_zero, Option.some.injEq] at hd
      subst hd
      rw [List.takeWhile_cons_of_pos hq, List.length_cons]
      have := spn_is r k (fun j hj => by obtain ⟨d, h, h'⟩ := h1 (j + 1) (by omega); exact ⟨d, by simpa using h, h'⟩) (fun c hc => h2 c (by simpa using hc))
      unfold spn at this
      rw [this]
end Go.Proofs.YtbdkggnajipdhaaGreatDoor
/- Plain: decimal numbers, written and read. No program in sight. -/
namespace Go.Proofs.YtbdkggnajipdhaaGreatDoor
/-! Numbers. -/
def dec (u : Nat) : List Nat := (Lib.decDigits u).map UInt8.toNat
def fmtI (n : Int) : List Nat := (Lib.itoa n).map UInt8.toNat
def decOK : List Nat → Bool
  | [] => false
  | c :: r => (c != 48 || r.isEmpty) && (c :: r).all digitB
def valD (a : Nat) (l : List Nat) : Nat := l.foldl (fun a c => a * 10 + (c - 48)) a
def negB : List Nat → Bool
  | 45 :: _ => true
  | _ => false
def magL (l : List Nat) : List Nat := if negB l then l.drop 1 else l
def numE (l : List Nat) : Int × Int :=
  if decOK (magL l) = false ∨ (negB l = true ∧ magL l = [48]) then (0, 1)
  else if negB l then (if 9223372036854775808 < valD 0 (magL l) then (0, 9) else (-(valD 0 (magL l) : Int), 0))
  else if 9223372036854775807 < valD 0 (magL l) then (0, 9) else ((valD 0 (magL l) : Int), 0)
theorem dec_lt {u : Nat} (h : u < 10) : dec u = [48 + u] := by
  unfold dec
  rw [Lib.decDigits, dif_pos h]
  simp only [List.map_cons, List.map_nil, UInt8.toNat_ofNat']
  congr 1
  omega
theorem dec_ge {u : Nat} (h : ¬ u < 10) : dec u = dec (u / 10) ++ [48 + u % 10] := by
  unfold dec
  rw [Lib.decDigits, dif_neg h]
  simp only [List.map_append, List.map_cons, List.map_nil, UInt8.toNat_ofNat']
  congr 2
  omega
theorem dec_all : ∀ (u : Nat), ∀ c ∈ dec u, 48 ≤ c ∧ c ≤ 57 := by
  intro u
  induction u using Nat.strongRecOn with
  | _ u ih =>
    intro c hc
    by_cases h : u < 10
    · rw [dec_lt h] at hc
      simp at hc
      omega
    · rw [dec_ge h, List.mem_append] at hc
      rcases hc with hc | hc
      · exact ih (u / 10) (by omega) c hc
      · simp at hc
        omega
theorem dec_head : ∀ (u : Nat), 0 < u → ∃ c r, dec u = c :: r ∧ c ≠ 48 := by
  intro u
  induction u using Nat.strongRecOn with
  | _ u ih =>
    intro h0
    by_cases h : u < 10
    · exact ⟨_, [], dec_lt h, by omega⟩
    · obtain ⟨c, r, h1, h2⟩ := ih (u / 10) (by omega) (by omega)
      exact ⟨c, r ++ [48 + u % 10], by rw [dec_ge h, h1]; rfl, h2⟩
theorem valD_dec : ∀ (u : Nat), valD 0 (dec u) = u := by
  intro u
  induction u using Nat.strongRecOn with
  | _ u ih =>
    by_cases h : u < 10
    · rw [dec_lt h]; simp [valD]
    · have h' := ih (u / 10) (by omega)
      rw [dec_ge h]
      unfold valD at h' ⊢
      rw [List.foldl_append, h']
      simp only [List.foldl_cons, List.foldl_nil]
      omega
theorem all_digit {l : List Nat} (h : ∀ c ∈ l, 48 ≤ c ∧ c ≤ 57) : l.all digitB = true := by
  rw [List.all_eq_true]
  intro c hc
  unfold digitB
  simp [h c hc]
theorem decOK_dec (u : Nat) : decOK (dec u) = true := by
  by_cases h : u < 10
  · rw [dec_lt h]
    have := dec_all u
    rw [dec_lt h] at this
    show ((48 + u != 48 || true) && List.all _ digitB) = true
    rw [all_digit this]
    simp
  · obtain ⟨c, r, h1, h2⟩ := dec_head u (by omega)
    have := dec_all u
    rw [h1] at this ⊢
    show ((c != 48 || r.isEmpty) && List.all _ digitB) = true
    rw [all_digit this]
    simp [h2]
theorem negB_dec (u : Nat) : negB (dec u) = false := by
  have h := dec_all u
  cases hd : dec u with
  | nil => rfl
  | cons c r =>
    rw [hd] at h
    have := h c (by simp)
    unfold negB
    split
    · rename_i e; injection e with e _; omega
    · rfl
theorem fmtI_nonneg {n : Int} (h : 0 ≤ n) : fmtI n = dec n.toNat := by unfold fmtI Lib.itoa dec; rw [if_neg (by omega)]
theorem fmtI_neg {n : Int} (h : n < 0) : fmtI n = 45 :: dec n.natAbs := by unfold fmtI Lib.itoa dec; rw [if_pos h]; rfl
theorem numE_fmt {n : Int} (h0 : -9223372036854775808 ≤ n) (h1 : n ≤ 9223372036854775807) : numE (fmtI n) = (n, 0) := by
  by_cases h : n < 0
  · have hm : magL (45 :: dec n.natAbs) = dec n.natAbs := rfl
    have hn : negB (45 :: dec n.natAbs) = true := rfl
    have hz : dec n.natAbs ≠ [48] := by
      obtain ⟨c, r, h2, h3⟩ := dec_head n.natAbs (by omega)
      rw [h2]
      intro e
      injection e with e _
      exact h3 e
    rw [fmtI_neg h]
    unfold numE
    rw [hm, hn, decOK_dec, valD_dec, if_neg (by simp [hz]), if_pos rfl, if_neg (by omega)]
    simp only [Prod.mk.injEq, and_true]
    omega
  · have hm : magL (dec n.toNat) = dec n.toNat := by unfold magL; rw [negB_dec]; rfl
    rw [fmtI_nonneg (by omega)]
    unfold numE
    rw [hm, negB_dec, decOK_dec, valD_dec, if_neg (by simp), if_neg (by simp), if_neg (by omega)]
    simp only [Prod.mk.injEq, and_true]
    omega
theorem valD_cons (a c : Nat) (l : List Nat) : valD a (c :: l) = valD (a * 10 + (c - 48)) l := List.foldl_cons ..
theorem valD_append (a : Nat) (l m : List Nat) : valD a (l ++ m) = valD (valD a l) m := List.foldl_append
theorem valD_ge : ∀ (l : List Nat) (a : Nat), a ≤ valD a l
  | [], a => Nat.le_refl _
  | c :: l, a => by have := valD_ge l (a * 10 + (c - 48)); rw [valD_cons]; omega
theorem valD_take (l : List Nat) (k : Nat) : valD 0 (l.take k) ≤ valD 0 l := by
  conv => rhs; rw [← List.take_append_drop k l, valD_append]
  exact valD_ge _ _
theorem valD_step {l : List Nat} {k c : Nat} (h : l[k]? = some c) : valD 0 (l.take (k + 1)) = valD 0 (l.take k) * 10 + (c - 48) := by
  rw [List.take_add_one, h, valD_append]
  exact valD_cons _ _ _
theorem decOK_cons (c : Nat) (r : List Nat) : decOK (c :: r) = ((c != 48 || r.isEmpty) && (c :: r).all digitB) := rfl
theorem digitB_iff {c : Nat} : digitB c = true ↔ 48 ≤ c ∧ c ≤ 57 := by unfold digitB; simp
theorem decOK_all {l : List Nat} (h : decOK l = true) : ∀ c ∈ l, 48 ≤ c ∧ c ≤ 57 := by
  cases l with
  | nil => cases h
  | cons c r =>
    rw [decOK_cons, Bool.and_eq_true, List.all_eq_true] at h
    exact fun d hd => digitB_iff.1 (h.2 d hd)
theorem decOK_pos {l : List Nat} (h : decOK l = true) (h0 : l ≠ [48]) : 1 ≤ valD 0 l := by
  cases l with
  | nil => cases h
  | cons c r =>
    have h1 := decOK_all h c (by simp)
    rw [decOK_cons, Bool.and_eq_true, Bool.or_eq_true] at h
    have hc : c ≠ 48 := by
      rintro rfl
      rcases h.1 with h2 | h2
      · simp at h2
      · exact h0 (by rw [List.isEmpty_iff.1 h2])
    have := valD_ge r (0 * 10 + (c - 48))
    rw [valD_cons]
    omega
theorem decOK_bad {l : List Nat} {k c : Nat} (h : l[k]? = some c) (hc : ¬ (48 ≤ c ∧ c ≤ 57)) : decOK l = false := by
  cases hd : decOK l with
  | false => rfl
  | true => exact absurd (decOK_all hd c (List.mem_of_getElem? h)) hc
theorem decOK_zero {l : List Nat} (h : l[0]? = some 48) (h1 : 1 < l.length) : decOK l = false := by
  cases l with
  | nil => rfl
  | cons c r =>
    simp only [List.getElem?_cons_zero, Option.some.injEq] at h
    subst h
    cases r with
    | nil => simp at h1
    | cons d r => rw [decOK_cons]; simp
theorem decOK_yes {l : List Nat} (h0 : l ≠ []) (h1 : ¬ (l[0]? = some 48 ∧ 1 < l.length)) (h2 : ∀ (k c : Nat), l[k]? = some c → 48 ≤ c ∧ c ≤ 57) : decOK l = true := by
  cases l with
  | nil => exact absurd rfl h0
  | cons c r =>
    rw [decOK_cons, Bool.and_eq_true]
    refine ⟨?_, all_digit fun d hd => ?_⟩
    · by_cases hc : c = 48
      · subst hc
        cases r with
        | nil => simp
        | cons d r => exact absurd ⟨rfl, by simp⟩ h1
      · simp [hc]
    · obtain ⟨k, hk⟩ := List.mem_iff_getElem?.1 hd
      exact h2 k d hk
def limN (ng : Bool) : Nat := if ng then 9223372036854775808 else 9223372036854775807
theorem numE_bad {l : List Nat} (h : decOK (magL l) = false ∨ (negB l = true ∧ magL l = [48])) : numE l = (0, 1) := by unfold numE; rw [if_pos h]
theorem numE_over {l : List Nat} (h : ¬ (decOK (magL l) = false ∨ (negB l = true ∧ magL l = [48]))) (h1 : limN (negB l) < valD 0 (magL l)) : numE l = (0, 9) := by
  unfold numE
  rw [if_neg h]
  cases hn : negB l <;> rw [hn] at h1 <;> unfold limN at h1 <;> simp only [Bool.false_eq_true, if_false, if_true] at h1 ⊢ <;> rw [if_pos h1]
theorem numE_in {l : List Nat} (h : ¬ (decOK (magL l) = false ∨ (negB l = true ∧ magL l = [48]))) (h1 : valD 0 (magL l) ≤ limN (negB l)) : numE l = (if negB l then -(valD 0 (magL l) : Int) else valD 0 (magL l), 0) := by
  unfold numE
  rw [if_neg h]
  cases hn : negB l <;> rw [hn] at h1 <;> unfold limN at h1 <;> simp only [Bool.false_eq_true, if_false, if_true] at h1 ⊢ <;> rw [if_neg (by omega)]
end Go.Proofs.YtbdkggnajipdhaaGreatDoor
/- Plain: commands, their forms, their texts. No program in sight. -/
namespace Go.Proofs.YtbdkggnajipdhaaGreatDoor
/-- A command. -/
structure Cm where
  kind : Int
  at_ : Int
  who : Int
  a : Int
  b : Int
  name : ByteArray
  text : ByteArray
  nums : List Int
  key : Int
  nonce : Int
def Cm.zero : Cm := ⟨0, 0, 0, 0, 0, ByteArray.empty, ByteArray.empty, [], 0, 0⟩
def Cm.ok (c : Cm) : Prop := (-9223372036854775808 ≤ c.kind ∧ c.kind ≤ 9223372036854775807) ∧ (-9223372036854775808 ≤ c.at_ ∧ c.at_ ≤ 9223372036854775807) ∧ (-9223372036854775808 ≤ c.who ∧ c.who ≤ 9223372036854775807) ∧
  (-9223372036854775808 ≤ c.a ∧ c.a ≤ 9223372036854775807) ∧ (-9223372036854775808 ≤ c.b ∧ c.b ≤ 9223372036854775807) ∧ (∀ n ∈ c.nums, -9223372036854775808 ≤ n ∧ n ≤ 9223372036854775807) ∧
  (0 ≤ c.key ∧ c.key ≤ 18446744073709551615) ∧ (0 ≤ c.nonce ∧ c.nonce ≤ 18446744073709551615)
def asc (s : String) : List Nat := s.toList.map Char.toNat
/-! Digits of sixteen. -/
/-! Texts in quotes. -/
/-! Fields. -/
def toBA (l : List Nat) : ByteArray := ⟨(l.map UInt8.ofNat).toArray⟩
/-! Printing. -/
end Go.Proofs.YtbdkggnajipdhaaGreatDoor
/- Plain specification of chapter 41, the making of a deck: mixing, the stream, shuffles, prizes. No program in sight. -/
namespace Go.Proofs.YtbdkggnajipdhaaGreatDoor
structure Pl where
  name : ByteArray
  price : Int
  packs : Int
  size : Int
  levels : List Lvl
end Go.Proofs.YtbdkggnajipdhaaGreatDoor
/- Plain: the tokens of a text. No program in sight. -/
namespace Go.Proofs.YtbdkggnajipdhaaGreatDoor
structure Tk where
  kind : Int
  line : Int
  col : Int
  text : ByteArray
/-- Line and column behind some bytes. -/
def step1 (p : Int × Int) (c : Nat) : Int × Int := if c = 10 then (p.1 + 1, 1) else (p.1, p.2 + 1)
def place (l : List Nat) : Int × Int := l.foldl step1 (1, 1)
def lexL : Nat → Nat → List Nat → Except Nat (List (Nat × Nat × Nat))
  | 0, _, _ => .ok []
  | _ + 1, _, [] => .ok []
  | f + 1, at_, c :: r =>
    if (piece (c :: r)).2 = 0 then .error at_
    else if (piece (c :: r)).1 = 0 then lexL f (at_ + (piece (c :: r)).2) ((c :: r).drop (piece (c :: r)).2)
    else match lexL f (at_ + (piece (c :: r)).2) ((c :: r).drop (piece (c :: r)).2) with
      | .ok T => .ok (((piece (c :: r)).1, at_, (piece (c :: r)).2) :: T)
      | .error e => .error e
def lexR (at_ : Nat) (l : List Nat) : Except Nat (List (Nat × Nat × Nat)) := lexL l.length at_ l
theorem lexL_fuel : ∀ (f g at_ : Nat) (l : List Nat), l.length ≤ f → l.length ≤ g → lexL f at_ l = lexL g at_ l
  | 0, 0, _, _, _, _ => rfl
  | 0, g + 1, _, [], _, _ => rfl
  | f + 1, 0, _, [], _, _ => rfl
  | f + 1, g + 1, _, [], _, _ => rfl
  | 0, g + 1, _, c :: r, h, _ => by simp at h
  | f + 1, 0, _, c :: r, _, h => by simp at h
  | f + 1, g + 1, at_, c :: r, h1, h2 => by
    rw [lexL, lexL]
    split
    · rfl
    · have hd : ((c :: r).drop (piece (c :: r)).2).length ≤ r.length := by rw [List.length_drop, List.length_cons]; omega
      rw [List.length_cons] at h1 h2
      rw [lexL_fuel f g _ _ (by omega) (by omega)]
theorem lexR_nil (at_ : Nat) : lexR at_ [] = .ok [] := rfl
def consR (t : Nat × Nat × Nat) : Except Nat (List (Nat × Nat × Nat)) → Except Nat (List (Nat × Nat × Nat))
  | .ok T => .ok (t :: T)
  | .error e => .error e
theorem lexR_cons (at_ c : Nat) (r : List Nat) : lexR at_ (c :: r) =
    if (piece (c :: r)).2 = 0 then .error at_
    else if (piece (c :: r)).1 = 0 then lexR (at_ + (piece (c :: r)).2) ((c :: r).drop (piece (c :: r)).2)
    else consR ((piece (c :: r)).1, at_, (piece (c :: r)).2) (lexR (at_ + (piece (c :: r)).2) ((c :: r).drop (piece (c :: r)).2)) := by
  unfold lexR
  rw [List.length_cons, lexL]
  split
  · rfl
  · have hd : ((c :: r).drop (piece (c :: r)).2).length ≤ r.length := by rw [List.length_drop, List.length_cons]; omega
    rw [lexL_fuel r.length ((c :: r).drop (piece (c :: r)).2).length _ _ hd (Nat.le_refl _)]
    rfl
def joinR (D : List (Nat × Nat × Nat)) : Except Nat (List (Nat × Nat × Nat)) → Except Nat (List (Nat × Nat × Nat))
  | .ok T => .ok (D ++ T)
  | .error e => .error e
theorem joinR_cons (D : List (Nat × Nat × Nat)) (t : Nat × Nat × Nat) (R : Except Nat (List (Nat × Nat × Nat))) : joinR D (consR t R) = joinR (D ++ [t]) R := by
  cases R <;> simp [joinR, consR]
def tokOf (s : ByteArray) (t : Nat × Nat × Nat) : Tk := ⟨t.1, (place ((bs s).take t.2.1)).1, (place ((bs s).take t.2.1)).2, s.extract t.2.1 (t.2.1 + t.2.2)⟩
def endTok (s : ByteArray) : Tk := ⟨0, (place (bs s)).1, (place (bs s)).2, ByteArray.empty⟩
/-- What Scan gives: the error, its offset, the tokens. -/
def scanE (s : ByteArray) : Int × Int × List Tk :=
  if 32768 < s.size then (3, 0, []) else match lexR 0 (bs s) with
    | .error e => (1, e, [])
    | .ok T => (0, 0, T.map (tokOf s) ++ [endTok s])
/-! Places. -/
theorem place_append (a b : List Nat) : place (a ++ b) = b.foldl step1 (place a) := by unfold place; rw [List.foldl_append]
theorem fold_plain : ∀ (b : List Nat) (p : Int × Int), (∀ c ∈ b, c ≠ 10) → b.foldl step1 p = (p.1, p.2 + b.length)
  | [], p, _ => by simp
  | c :: r, p, h => by
    rw [List.foldl_cons, fold_plain r _ fun d hd => h d (by simp [hd])]
    unfold step1
    rw [if_neg (h c (by simp))]
    simp only [List.length_cons, Prod.mk.injEq, true_and]
    omega
theorem fold_line : ∀ (b : List Nat) (p : Int × Int), (b.foldl step1 p).1 = p.1 + b.count 10
  | [], p => by simp
  | c :: r, p => by
    rw [List.foldl_cons, fold_line r]
    unfold step1
    by_cases h : c = 10
    · subst h
      rw [if_pos rfl, List.count_cons_self]; simp only; omega
    · rw [if_neg h, List.count_cons_of_ne h]
/-- The column behind text whose last line feed stands at k. -/
theorem fold_col (b : List Nat) (p : Int × Int) (k : Nat) (hk : b[k]? = some 10) (hn : ∀ j, k < j → b[j]? ≠ some 10) : (b.foldl step1 p).2 = b.length - k := by
  have hkl := (List.getElem?_eq_some_iff.1 hk).1
  have e : b = b.take k ++ 10 :: b.drop (k + 1) := by
    have h1 := List.getElem?_eq_some_iff.1 hk
    obtain ⟨h1, h2⟩ := h1
    conv => lhs; rw [← List.take_append_drop k b, List.drop_eq_getElem_cons h1, h2]
  have hd : ∀ c ∈ b.drop (k + 1), c ≠ 10 := by
    intro c hc e2
    subst e2
    obtain ⟨i, hi⟩ := List.mem_iff_getElem?.1 hc
    rw [List.getElem?_drop] at hi
    exact hn _ (by omega) hi
  rw [e, List.foldl_append, List.foldl_cons, fold_plain _ _ hd]
  have : step1 (List.foldl step1 p (b.take k)) 10 = ((List.foldl step1 p (b.take k)).1 + 1, 1) := by unfold step1; rw [if_pos rfl]
  rw [this]
  simp only [List.length_append, List.length_take, List.length_cons, List.length_drop]
  omega
/-- A piece that is a token holds no line feed. -/
theorem piece_plain (l : List Nat) (h : (piece l).1 ≠ 0) : ∀ c ∈ l.take (piece l).2, c ≠ 10 := by
  have key : ∀ (q : Nat → Bool), q 10 = false → ∀ c ∈ l.take (spn q l), c ≠ 10 := by
    intro q hq c hc e
    subst e
    obtain ⟨i, hi⟩ := List.mem_iff_getElem?.1 hc
    rw [List.getElem?_take] at hi
    split at hi
    · rename_i hil
      obtain ⟨d, hd, hqd⟩ := spn_at l i hil
      rw [hi] at hd
      injection hd with hd
      subst hd
      rw [hq] at hqd; cases hqd
    · cases hi
  cases l with
  | nil => intro c hc; simp at hc
  | cons a r =>
    rw [piece] at h ⊢
    split at h
    · simp at h
    · split at h
      · simp at h
      · rename_i h1 h2
        rw [if_neg h1, if_neg h2]
        split at h
        · rename_i h3; rw [if_pos h3]; exact key wordB (by decide)
        · rename_i h3
          rw [if_neg h3]
          split at h
          · rename_i h4
            rw [if_pos h4]
            split
            · intro c hc; simp at hc
            · exact key digitB (by decide)
          · rename_i h4
            rw [if_neg h4]
            split at h
            · rename_i h5
              rw [if_pos h5]
              intro c hc
              simp only [List.take_succ_cons, List.take_zero, List.mem_cons, List.not_mem_nil, or_false] at hc
              subst hc
              intro e
              subst e
              exact absurd h5 (by decide)
            · simp at h
end Go.Proofs.YtbdkggnajipdhaaGreatDoor
/- Plain specification of chapter 41, a plan's text: printing, and reading tokens. No program in sight. -/
namespace Go.Proofs.YtbdkggnajipdhaaGreatDoor
def fitB (n : Int) : Bool := decide (0 ≤ n) && decide (n ≤ 999999999999999999)
/-! Reading. -/
def noTk : Tk := ⟨0, 0, 0, ByteArray.empty⟩
def hdT (L : List Tk) : Tk := L.headD noTk
/-- The rest behind a token; the end stays. -/
def nxT : List Tk → List Tk
  | [] => []
  | [t] => [t]
  | _ :: t :: r => t :: r
def isT (k : Int) (w : List Nat) (L : List Tk) : Option (List Tk) := if (hdT L).kind = k ∧ bs (hdT L).text = w then some (nxT L) else none
def numT (L : List Tk) : Option (Int × List Tk) := if (hdT L).kind = 2 ∧ (numE (bs (hdT L).text)).2 = 0 then some ((numE (bs (hdT L).text)).1, nxT L) else none
/-- What reads one thing and goes on; where it stands still, there is the error. -/
def thenT {α β : Type} (x : Option α) (L : List Tk) (f : α → Except (Int × List Tk) β) : Except (Int × List Tk) β := match x with
  | some a => f a
  | none => .error (1, L)
end Go.Proofs.YtbdkggnajipdhaaGreatDoor
/- Plain: chapter 41's reference reader, whose first error stays; it reads what the program's reader reads. No program in sight. -/
namespace Go.Proofs.YtbdkggnajipdhaaGreatDoor
structure Rd where
  L : List Tk
  err : Int
  line : Int
def Rd.fail (e : Int) (r : Rd) : Rd := if r.err = 0 then { r with err := e, line := (hdT r.L).line } else r
def Rd.next (k : Int) (w : List Nat) (r : Rd) : ByteArray × Rd :=
  if r.err ≠ 0 then (ByteArray.empty, r)
  else if (hdT r.L).kind ≠ k ∨ (w ≠ [] ∧ bs (hdT r.L).text ≠ w) then (ByteArray.empty, r.fail 1)
  else ((hdT r.L).text, { r with L := nxT r.L })
def Rd.num (r : Rd) : Int × Rd := ((numE (bs (r.next 2 []).1)).1, (r.next 2 []).2)
def Rd.is (w : List Nat) (r : Rd) : Bool := decide ((hdT r.L).kind = 1) && decide (bs (hdT r.L).text = w)
def Rd.once (w : List Nat) (had : Bool) (r : Rd) : Rd := ((if had then r.fail 6 else r).next 1 w).2
def Rd.prize (r : Rd) : Lvl × Rd :=
  let a := (r.next 1 (asc "prize")).2.num
  let b := (a.2.next 1 (asc "count")).2.num
  if b.2.err = 0 ∧ b.2.is (asc "pack") = true then
    let c := (b.2.next 1 (asc "pack")).2.num
    (⟨a.1, b.1, c.1⟩, c.2)
  else (⟨a.1, b.1, 0⟩, b.2)
/-! The tokens' numbers are numbers. -/
def NumOk (L : List Tk) : Prop := ∀ t ∈ L, t.kind = 2 → (numE (bs t.text)).2 = 0
theorem hd_kind {L : List Tk} (h : (hdT L).kind ≠ 0) : hdT L ∈ L := by
  cases L with
  | nil => exact absurd rfl h
  | cons t r => exact List.mem_cons_self
theorem NumOk.hd {L : List Tk} (h : NumOk L) (hk : (hdT L).kind = 2) : (numE (bs (hdT L).text)).2 = 0 := h _ (hd_kind (by omega)) hk
theorem nx_sub : ∀ (L : List Tk), ∀ t ∈ nxT L, t ∈ L
  | [], _, h => h
  | [_], _, h => h
  | _ :: _ :: _, _, h => List.mem_cons_of_mem _ h
theorem NumOk.nx {L : List Tk} (h : NumOk L) : NumOk (nxT L) := fun t ht => h t (nx_sub L t ht)
theorem is_some {k : Int} {w : List Nat} {L L' : List Tk} (h : isT k w L = some L') : (hdT L).kind = k ∧ bs (hdT L).text = w ∧ L' = nxT L := by
  unfold isT at h
  split at h
  · rename_i h1
    exact ⟨h1.1, h1.2, (Option.some.inj h).symm⟩
  · cases h
theorem is_none {k : Int} {w : List Nat} {L : List Tk} (h : isT k w L = none) : ¬ ((hdT L).kind = k ∧ bs (hdT L).text = w) := by
  unfold isT at h
  split at h
  · cases h
  · assumption
theorem num_some {L L' : List Tk} {x : Int} (h : numT L = some (x, L')) : (hdT L).kind = 2 ∧ (numE (bs (hdT L).text)).2 = 0 ∧ x = (numE (bs (hdT L).text)).1 ∧ L' = nxT L := by
  unfold numT at h
  split at h
  · rename_i h1
    have := Option.some.inj h
    simp only [Prod.mk.injEq] at this
    exact ⟨h1.1, h1.2, this.1.symm, this.2.symm⟩
  · cases h
theorem NumOk.is {L L' : List Tk} {k : Int} {w : List Nat} (h : NumOk L) (e : isT k w L = some L') : NumOk L' := by rw [(is_some e).2.2]; exact h.nx
theorem NumOk.num {L L' : List Tk} {x : Int} (h : NumOk L) (e : numT L = some (x, L')) : NumOk L' := by rw [(num_some e).2.2.2]; exact h.nx
/-! One step. -/
end Go.Proofs.YtbdkggnajipdhaaGreatDoor
/- Plain: chapter 41's two readers agree on whole texts. No program in sight. -/
namespace Go.Proofs.YtbdkggnajipdhaaGreatDoor
theorem isT_yes {k : Int} {w : List Nat} {L : List Tk} (h1 : (hdT L).kind = k) (h2 : bs (hdT L).text = w) : isT k w L = some (nxT L) := by unfold isT; rw [if_pos ⟨h1, h2⟩]
theorem isT_no {k : Int} {w : List Nat} {L : List Tk} (h : ¬ ((hdT L).kind = k ∧ bs (hdT L).text = w)) : isT k w L = none := by unfold isT; rw [if_neg h]
/-! An item eats a token at least. -/
theorem nx_len (L : List Tk) : (nxT L).length ≤ L.length := by
  match L with
  | [] => exact Nat.le_refl _
  | [_] => exact Nat.le_refl _
  | _ :: _ :: _ => exact Nat.le_succ _
theorem then_ok {α β : Type} {x : Option α} {L : List Tk} {f : α → Except (Int × List Tk) β} {b : β} (h : thenT x L f = .ok b) : ∃ a, x = some a ∧ f a = .ok b := by
  cases x with
  | none => cases h
  | some a => exact ⟨a, rfl, h⟩
theorem is_len {k : Int} {w : List Nat} {L L' : List Tk} (h : isT k w L = some L') : L'.length ≤ L.length := by rw [(is_some h).2.2]; exact nx_len L
theorem num_len {L : List Tk} {x : Int × List Tk} (h : numT L = some x) : x.2.length ≤ L.length := by rw [(num_some (x := x.1) (L' := x.2) h).2.2.2]; exact nx_len L
/-! Items, and the whole. -/
def Rd.close (r : Rd) : Rd := ((r.next 3 (asc "}")).2.next 0 []).2
theorem place_line : ∀ (l : List Nat) (p : Int × Int), (l.foldl step1 p).1 = p.1 + (l.count 10 : Nat)
  | [], p => by simp
  | c :: r, p => by
    rw [List.foldl_cons, place_line r, List.count_cons]
    unfold step1
    by_cases h : c = 10
    · rw [if_pos h, if_pos (by simp [h])]; simp only; omega
    · rw [if_neg h, if_neg (by simpa using h)]; simp
end Go.Proofs.YtbdkggnajipdhaaGreatDoor
/- Plain: laws of the scanner: blanks, line feeds, shifts, what its tokens are. No program in sight. -/
namespace Go.Proofs.YtbdkggnajipdhaaGreatDoor
theorem spn_cons_pos {q : Nat → Bool} {c : Nat} {r : List Nat} (h : q c = true) : spn q (c :: r) = spn q r + 1 := by unfold spn; rw [List.takeWhile_cons_of_pos h]; rfl
theorem spn_cons_neg {q : Nat → Bool} {c : Nat} {r : List Nat} (h : q c = false) : spn q (c :: r) = 0 := by unfold spn; rw [List.takeWhile_cons_of_neg (by rw [h]; simp)]; rfl
/-- One blank is passed. -/
theorem blank_one {c : Nat} (h : blankB c = true) (l : List Nat) (at_ : Nat) : lexR at_ (c :: l) = lexR (at_ + 1) l := by
  have hp : piece (c :: l) = (0, spn blankB l + 1) := by rw [piece, if_pos h, spn_cons_pos h]
  rw [lexR_cons, hp, if_neg (by simp), if_pos rfl]
  simp only [List.drop_succ_cons]
  cases l with
  | nil => simp [spn, lexR_nil]
  | cons d r =>
    by_cases hd : blankB d = true
    · have hp2 : piece (d :: r) = (0, spn blankB (d :: r)) := by rw [piece, if_pos hd]
      have := spn_pos (r := r) hd
      rw [lexR_cons (at_ + 1), hp2, if_neg (by simp only; omega), if_pos rfl]
      simp only
      rw [show at_ + (spn blankB (d :: r) + 1) = at_ + 1 + spn blankB (d :: r) from by omega]
    · rw [spn_cons_neg (by simpa using hd)]; simp
/-- A remark is passed. -/
theorem hash_one (r : List Nat) (at_ : Nat) : lexR at_ (35 :: r) = lexR (at_ + spn remB (35 :: r)) ((35 :: r).drop (spn remB (35 :: r))) := by
  have hp : piece (35 :: r) = (0, spn remB (35 :: r)) := by rw [piece, if_neg (by decide), if_pos rfl]
  rw [lexR_cons, hp, if_neg (by rw [spn_cons_pos (by decide)]; simp), if_pos rfl]
theorem blank_not {c : Nat} (h : blankB c = true) : letterB c = false ∧ digitB c = false ∧ wordB c = false ∧ markB c = false ∧ c ≠ 35 := by
  unfold wordB markB letterB digitB
  unfold blankB at h
  simp only [Bool.or_eq_true, beq_iff_eq, Bool.or_eq_false_iff, Bool.and_eq_false_iff, decide_eq_false_iff_not, beq_eq_false_iff_ne] at *
  omega
theorem spn_app {q : Nat → Bool} {b : Nat} (hb : q b = false) (r : List Nat) : ∀ l : List Nat, spn q (l ++ b :: r) = spn q l
  | [] => spn_cons_neg hb
  | c :: l => by
    rw [List.cons_append]
    by_cases h : q c = true
    · rw [spn_cons_pos h, spn_cons_pos h, spn_app hb r l]
    · rw [spn_cons_neg (by simpa using h), spn_cons_neg (by simpa using h)]
/-- The first piece, where something stands behind with which no word and no number goes on. -/
theorem piece_app {b : Nat} (hw : wordB b = false) (hd : digitB b = false) (r : List Nat) (c : Nat) (l : List Nat) (h1 : blankB c = false) (h2 : c ≠ 35) : piece (c :: l ++ b :: r) = piece (c :: l) := by
  have e1 := spn_app hw r (c :: l)
  have e2 := spn_app hd r (c :: l)
  rw [List.cons_append] at *
  simp only [piece, h1, Bool.false_eq_true, if_false, h2, e1, e2]
def thenR (R : Except Nat (List (Nat × Nat × Nat))) (S : Except Nat (List (Nat × Nat × Nat))) : Except Nat (List (Nat × Nat × Nat)) := match R with
  | .ok T => joinR T S
  | .error e => .error e
theorem thenR_cons (t : Nat × Nat × Nat) (R S : Except Nat (List (Nat × Nat × Nat))) : thenR (consR t R) S = consR t (thenR R S) := by
  cases R <;> cases S <;> simp [thenR, consR, joinR]
/-- A line feed behind a text: the text's tokens, then the rest's. -/
theorem lexR_line (r : List Nat) : ∀ (n : Nat) (l : List Nat) (at_ : Nat), l.length ≤ n → lexR at_ (l ++ 10 :: r) = thenR (lexR at_ l) (lexR (at_ + l.length) (10 :: r))
  | _, [], at_, _ => by
    rw [List.nil_append, lexR_nil, List.length_nil, Nat.add_zero]
    unfold thenR joinR
    cases lexR at_ (10 :: r) <;> rfl
  | 0, c :: l, _, h => by simp at h
  | n + 1, c :: l, at_, h => by
    rw [List.length_cons] at h
    by_cases hb : blankB c = true
    · rw [List.cons_append, blank_one hb, blank_one hb, lexR_line r n l _ (by omega), List.length_cons, show at_ + 1 + l.length = at_ + (l.length + 1) from by omega]
    · have hb : blankB c = false := by simpa using hb
      have go : ∀ k, k ≤ (c :: l).length → 1 ≤ k → lexR (at_ + k) ((c :: l ++ 10 :: r).drop k) = thenR (lexR (at_ + k) ((c :: l).drop k)) (lexR (at_ + (c :: l).length) (10 :: r)) := by
        intro k hk h1
        rw [List.drop_append_of_le_length hk, lexR_line r n _ _ (by rw [List.length_drop, List.length_cons]; omega), List.length_drop, show at_ + k + ((c :: l).length - k) = at_ + (c :: l).length from by omega]
      by_cases h35 : c = 35
      · subst h35
        have e : spn remB (35 :: (l ++ 10 :: r)) = spn remB (35 :: l) := spn_app (by decide) r (35 :: l)
        rw [List.cons_append, hash_one, hash_one, e]
        exact go _ (spn_le _ _) (spn_pos (by decide))
      · have hp := piece_app (b := 10) (by decide) (by decide) r c l hb h35
        rw [List.cons_append] at hp ⊢
        rw [lexR_cons, lexR_cons, hp]
        split
        · rfl
        · rename_i h2
          have := go (piece (c :: l)).2 (piece_le _) (by omega)
          rw [List.cons_append] at this
          split
          · exact this
          · rw [this, thenR_cons]
/-- A blank behind a text changes nothing. -/
theorem lexR_snoc {b : Nat} (hb : blankB b = true) : ∀ (n : Nat) (l : List Nat) (at_ : Nat), l.length ≤ n → lexR at_ (l ++ [b]) = lexR at_ l
  | _, [], at_, _ => by rw [List.nil_append, blank_one hb, lexR_nil, lexR_nil]
  | 0, c :: l, _, h => by simp at h
  | n + 1, c :: l, at_, h => by
    rw [List.length_cons] at h
    by_cases hc : blankB c = true
    · rw [List.cons_append, blank_one hc, blank_one hc, lexR_snoc hb n l _ (by omega)]
    · have hc : blankB c = false := by simpa using hc
      have go : ∀ k, k ≤ (c :: l).length → 1 ≤ k → lexR (at_ + k) ((c :: l ++ [b]).drop k) = lexR (at_ + k) ((c :: l).drop k) := by
        intro k hk h1
        rw [List.drop_append_of_le_length hk, lexR_snoc hb n _ _ (by rw [List.length_drop, List.length_cons]; omega)]
      by_cases h35 : c = 35
      · subst h35
        by_cases h10 : b = 10
        · subst h10
          have e : spn remB (35 :: (l ++ [10])) = spn remB (35 :: l) := spn_app (by decide) [] (35 :: l)
          rw [List.cons_append, hash_one, hash_one, e]
          exact go _ (spn_le _ _) (spn_pos (by decide))
        · have hrb : remB b = true := by unfold remB; simp [h10]
          have e : spn remB (35 :: l ++ [b]) = if spn remB (35 :: l) = (35 :: l).length then (35 :: l).length + 1 else spn remB (35 :: l) := by
            generalize (35 :: l) = m
            induction m with
            | nil => simp [spn, hrb]
            | cons d m ih =>
              rw [List.cons_append]
              by_cases hd : remB d = true
              · rw [spn_cons_pos hd, spn_cons_pos hd, ih, List.length_cons]
                split <;> split <;> omega
              · rw [spn_cons_neg (by simpa using hd), spn_cons_neg (by simpa using hd), if_neg (by simp)]
          rw [List.cons_append] at e ⊢
          rw [hash_one, hash_one, e]
          split
          · rename_i h1
            rw [h1, List.drop_eq_nil_of_le (by simp), List.drop_eq_nil_of_le (by simp), lexR_nil, lexR_nil]
          · exact go _ (spn_le _ _) (spn_pos (by decide))
      · obtain ⟨_, hd, hw, _⟩ := blank_not hb
        have hp := piece_app hw hd [] c l hc h35
        rw [List.cons_append] at hp ⊢
        rw [lexR_cons, lexR_cons, hp]
        split
        · rfl
        · rename_i h2
          have := go (piece (c :: l)).2 (piece_le _) (by omega)
          rw [List.cons_append] at this
          split
          · exact this
          · rw [this]
/-! What the tokens are. -/
def good (k : Nat) (t : List Nat) : Prop :=
  (k = 1 ∧ (∃ c r, t = c :: r ∧ letterB c = true) ∧ ∀ c ∈ t, wordB c = true) ∨
  (k = 2 ∧ (∃ c r, t = c :: r ∧ badN t.length c = false) ∧ ∀ c ∈ t, digitB c = true) ∨
  (k = 3 ∧ ∃ c, t = [c] ∧ markB c = true)
theorem spn_take {q : Nat → Bool} : ∀ l : List Nat, ∀ c ∈ l.take (spn q l), q c = true
  | [], c, h => by simp at h
  | d :: l, c, h => by
    by_cases hd : q d = true
    · rw [spn_cons_pos hd, List.take_succ_cons] at h
      rcases List.mem_cons.1 h with rfl | h
      · exact hd
      · exact spn_take l c h
    · rw [spn_cons_neg (by simpa using hd)] at h; simp at h
theorem piece_good (l : List Nat) (h1 : (piece l).1 ≠ 0) (h2 : (piece l).2 ≠ 0) : good (piece l).1 (l.take (piece l).2) := by
  cases l with
  | nil => simp [piece] at h1
  | cons c r =>
    rw [piece] at h1 h2 ⊢
    split at h1
    · simp at h1
    · rename_i a1
      rw [if_neg a1] at h2 ⊢
      split at h1
      · simp at h1
      · rename_i a2
        rw [if_neg a2] at h2 ⊢
        split at h1
        · rename_i a3
          rw [if_pos a3] at h2 ⊢
          have hw : wordB c = true := by unfold wordB; rw [a3]; rfl
          refine .inl ⟨rfl, ⟨c, r.take (spn wordB r), ?_, a3⟩, spn_take _⟩
          simp only [spn_cons_pos hw, List.take_succ_cons]
        · rename_i a3
          rw [if_neg a3] at h2 ⊢
          split at h1
          · rename_i a4
            rw [if_pos a4] at h2 ⊢
            split at h2
            · simp at h2
            · rename_i a5
              rw [if_neg a5]
              refine .inr (.inl ⟨rfl, ⟨c, r.take (spn digitB r), ?_, ?_⟩, spn_take _⟩)
              · simp only [spn_cons_pos a4, List.take_succ_cons]
              · simp only
                rw [List.length_take, Nat.min_eq_left (spn_le _ _)]
                simpa using a5
          · rename_i a4
            rw [if_neg a4] at h2 ⊢
            split at h1
            · rename_i a5
              rw [if_pos a5]
              exact .inr (.inr ⟨rfl, c, by simp, a5⟩)
            · simp at h1
theorem lexR_good : ∀ (n : Nat) (l : List Nat) (at_ : Nat) (T : List (Nat × Nat × Nat)), l.length ≤ n → lexR at_ l = .ok T →
    ∀ t ∈ T, at_ ≤ t.2.1 ∧ 1 ≤ t.2.2 ∧ t.2.1 + t.2.2 ≤ at_ + l.length ∧ good t.1 ((l.drop (t.2.1 - at_)).take t.2.2)
  | _, [], _, T, _, h => by rw [lexR_nil] at h; injection h with h; subst h; intro t ht; simp at ht
  | 0, c :: l, _, _, hl, _ => by simp at hl
  | n + 1, c :: l, at_, T, hl, h => by
    have hpl := piece_le (c :: l)
    have hpg := piece_good (c :: l)
    rw [lexR_cons] at h
    generalize piece (c :: l) = pc at *
    obtain ⟨k, m⟩ := pc
    simp only at *
    have go : ∀ T', 1 ≤ m → lexR (at_ + m) ((c :: l).drop m) = .ok T' → ∀ t ∈ T', at_ ≤ t.2.1 ∧ 1 ≤ t.2.2 ∧ t.2.1 + t.2.2 ≤ at_ + (c :: l).length ∧ good t.1 (((c :: l).drop (t.2.1 - at_)).take t.2.2) := by
      intro T' hm hT t ht
      obtain ⟨h1, h2, h3, h4⟩ := lexR_good n _ _ T' (by rw [List.length_drop]; omega) hT t ht
      rw [List.length_drop] at h3
      refine ⟨by omega, h2, by omega, ?_⟩
      rw [List.drop_drop] at h4
      rwa [show m + (t.2.1 - (at_ + m)) = t.2.1 - at_ from by omega] at h4
    split at h
    · cases h
    · rename_i a1
      split at h
      · exact go T (by omega) h
      · rename_i a2
        cases hR : lexR (at_ + m) ((c :: l).drop m) with
        | error e => rw [hR] at h; cases h
        | ok T' =>
          rw [hR] at h
          simp only [consR, Except.ok.injEq] at h
          subst h
          intro t ht
          rcases List.mem_cons.1 ht with rfl | ht
          · exact ⟨Nat.le_refl _, by simp only; omega, by simp only; omega, by simpa using hpg a2 a1⟩
          · exact go T' (by omega) hR t ht
/-- An error lies within the text. -/
theorem lexR_err : ∀ (n : Nat) (l : List Nat) (at_ x : Nat), l.length ≤ n → lexR at_ l = .error x → at_ ≤ x ∧ x < at_ + l.length
  | _, [], _, x, _, h => by rw [lexR_nil] at h; cases h
  | 0, c :: l, _, _, hl, _ => by simp at hl
  | n + 1, c :: l, at_, x, hl, h => by
    have hpl := piece_le (c :: l)
    rw [lexR_cons] at h
    split at h
    · injection h with h; subst h; simp
    · have hd : ((c :: l).drop (piece (c :: l)).2).length ≤ n := by rw [List.length_drop]; omega
      have hdl : ((c :: l).drop (piece (c :: l)).2).length = (c :: l).length - (piece (c :: l)).2 := List.length_drop
      split at h
      · have := lexR_err n _ _ x hd h; omega
      · cases hR : lexR (at_ + (piece (c :: l)).2) ((c :: l).drop (piece (c :: l)).2) with
        | error e =>
          rw [hR] at h
          simp only [consR, Except.error.injEq] at h
          subst h
          have := lexR_err n _ _ e hd hR; omega
        | ok T' => rw [hR] at h; cases h
/-- The lengths of the tokens together. -/
theorem lexR_sum : ∀ (n : Nat) (l : List Nat) (at_ : Nat) (T : List (Nat × Nat × Nat)), l.length ≤ n → lexR at_ l = .ok T → (T.map (·.2.2)).sum ≤ l.length
  | _, [], _, T, _, h => by rw [lexR_nil] at h; injection h with h; subst h; simp
  | 0, c :: l, _, _, hl, _ => by simp at hl
  | n + 1, c :: l, at_, T, hl, h => by
    have hpl := piece_le (c :: l)
    rw [lexR_cons] at h
    split at h
    · cases h
    · rename_i a1
      have hd : ((c :: l).drop (piece (c :: l)).2).length ≤ n := by rw [List.length_drop]; omega
      split at h
      · have := lexR_sum n _ _ T hd h
        rw [List.length_drop] at this; omega
      · cases hR : lexR (at_ + (piece (c :: l)).2) ((c :: l).drop (piece (c :: l)).2) with
        | error e => rw [hR] at h; cases h
        | ok T' =>
          rw [hR] at h
          simp only [consR, Except.ok.injEq] at h
          subst h
          have := lexR_sum n _ _ T' hd hR
          rw [List.length_drop] at this
          simp only [List.map_cons, List.sum_cons]; omega
/-! Text that is written out of tokens. -/
/-- A token is read as it was written, where nothing goes on behind it. -/
theorem good_piece {k : Nat} {t : List Nat} (h : good k t) (r : List Nat) (hr : ∀ c r', r = c :: r' → wordB c = false ∧ digitB c = false) : piece (t ++ r) = (k, t.length) ∧ t ≠ [] := by
  have sp : ∀ (q : Nat → Bool), (∀ c ∈ t, q c = true) → (∀ c r', r = c :: r' → q c = false) → spn q (t ++ r) = t.length := by
    intro q h1 h2
    clear h
    induction t with
    | nil => cases r with
      | nil => rfl
      | cons c r' => exact spn_cons_neg (h2 c r' rfl)
    | cons c t ih => rw [List.cons_append, spn_cons_pos (h1 c (by simp)), ih fun d hd => h1 d (by simp [hd])]; rfl
  rcases h with ⟨rfl, ⟨c, r', rfl, hc⟩, hall⟩ | ⟨rfl, ⟨c, r', rfl, hbad⟩, hall⟩ | ⟨rfl, c, rfl, hc⟩
  · have h0 : blankB c = false ∧ c ≠ 35 := by
      unfold letterB at hc; unfold blankB
      simp only [Bool.and_eq_true, decide_eq_true_eq, Bool.or_eq_false_iff, beq_eq_false_iff_ne] at *
      omega
    have e := sp wordB hall fun c r' h => (hr c r' h).1
    refine ⟨?_, by simp⟩
    rw [List.cons_append] at e ⊢
    rw [piece, if_neg (by rw [h0.1]; simp), if_neg h0.2, if_pos hc, e]
  · have hc := hall c (by simp)
    have h0 : blankB c = false ∧ c ≠ 35 ∧ letterB c = false := by
      unfold digitB at hc; unfold blankB letterB
      simp only [Bool.and_eq_true, decide_eq_true_eq, Bool.or_eq_false_iff, Bool.and_eq_false_iff, decide_eq_false_iff_not, beq_eq_false_iff_ne] at *
      omega
    have e := sp digitB hall fun c r' h => (hr c r' h).2
    refine ⟨?_, by simp⟩
    rw [List.cons_append] at e ⊢
    rw [piece, if_neg (by rw [h0.1]; simp), if_neg h0.2.1, if_neg (by rw [h0.2.2]; simp), if_pos hc, e, hbad, if_neg (by simp)]
  · have h0 : blankB c = false ∧ c ≠ 35 ∧ letterB c = false ∧ digitB c = false := by
      unfold markB at hc; unfold blankB letterB digitB
      simp only [Bool.or_eq_true, beq_iff_eq, Bool.or_eq_false_iff, Bool.and_eq_false_iff, decide_eq_false_iff_not, beq_eq_false_iff_ne] at *
      omega
    refine ⟨?_, by simp⟩
    rw [List.cons_append, List.nil_append, piece, if_neg (by rw [h0.1]; simp), if_neg h0.2.1, if_neg (by rw [h0.2.2.1]; simp), if_neg (by rw [h0.2.2.2]; simp), if_pos hc]
    rfl
theorem good_kind {k : Nat} {t : List Nat} (h : good k t) : k ≠ 0 ∧ k ≤ 3 := by
  rcases h with ⟨rfl, _⟩ | ⟨rfl, _⟩ | ⟨rfl, _⟩ <;> simp
end Go.Proofs.YtbdkggnajipdhaaGreatDoor
/- Plain: chapter 41, what is printed is read again as the plan. No program in sight. -/
namespace Go.Proofs.YtbdkggnajipdhaaGreatDoor
theorem lexR_tok {k : Nat} {t : List Nat} (h : good k t) (r : List Nat) (hr : ∀ c r', r = c :: r' → wordB c = false ∧ digitB c = false) (at_ : Nat) : lexR at_ (t ++ r) = consR (k, at_, t.length) (lexR (at_ + t.length) r) := by
  obtain ⟨hp, hne⟩ := good_piece h r hr
  have hk := (good_kind h).1
  cases t with
  | nil => exact absurd rfl hne
  | cons c t =>
    rw [List.cons_append] at hp ⊢
    rw [lexR_cons, hp, if_neg (by simp), if_neg hk]
    simp only
    rw [show (c :: (t ++ r)).drop (c :: t).length = r from by simp]
/-- A text and what stands in it: kinds and words. -/
def Lx (l : List Nat) (S : List (Nat × List Nat)) : Prop :=
  ∀ at_, ∃ T, lexR at_ l = .ok T ∧ (∀ t ∈ T, at_ ≤ t.2.1) ∧ T.map (fun t => (t.1, (l.drop (t.2.1 - at_)).take t.2.2)) = S
theorem Lx_nil : Lx [] [] := fun _ => ⟨[], rfl, fun t h => (by simp at h), rfl⟩
theorem Lx_blank {b : Nat} {r : List Nat} {S : List (Nat × List Nat)} (hb : blankB b = true) (h : Lx r S) : Lx (b :: r) S := fun at_ => by
  obtain ⟨T, h1, h2, h3⟩ := h (at_ + 1)
  refine ⟨T, by rw [blank_one hb, h1], fun t ht => by have := h2 t ht; omega, ?_⟩
  rw [← h3]
  refine List.map_congr_left fun t ht => ?_
  have := h2 t ht
  rw [show t.2.1 - at_ = (t.2.1 - (at_ + 1)) + 1 by omega, List.drop_succ_cons]
theorem Lx_tok {k : Nat} {t r : List Nat} {S : List (Nat × List Nat)} (hg : good k t) (hr : ∀ c r', r = c :: r' → wordB c = false ∧ digitB c = false) (h : Lx r S) : Lx (t ++ r) ((k, t) :: S) := fun at_ => by
  obtain ⟨T, h1, h2, h3⟩ := h (at_ + t.length)
  refine ⟨(k, at_, t.length) :: T, by rw [lexR_tok hg r hr, h1]; rfl, fun x hx => ?_, ?_⟩
  · rcases List.mem_cons.1 hx with rfl | hx
    · exact Nat.le_refl _
    · have := h2 x hx; omega
  · rw [List.map_cons]
    congr 1
    · simp
    · rw [← h3]
      refine List.map_congr_left fun x hx => ?_
      have := h2 x hx
      rw [show x.2.1 - at_ = t.length + (x.2.1 - (at_ + t.length)) by omega, List.drop_append, List.drop_eq_nil_of_le (by omega), List.nil_append, Nat.add_sub_cancel_left]
def Kt (t : Tk) : Int × List Nat := (t.kind, bs t.text)
/-- A whole text's tokens. -/
theorem scan_Lx {s : ByteArray} {S : List (Nat × List Nat)} (hs : s.size ≤ 32768) (h : Lx (bs s) S) :
    ∃ L, scanE s = (0, 0, L) ∧ L.map Kt = S.map (fun x => ((x.1 : Int), x.2)) ++ [(0, [])] := by
  obtain ⟨T, h1, _, h3⟩ := h 0
  refine ⟨T.map (tokOf s) ++ [endTok s], by unfold scanE; rw [if_neg (by omega), h1], ?_⟩
  rw [List.map_append, ← h3, List.map_map, List.map_map]
  congr 1
  refine List.map_congr_left fun t _ => ?_
  show ((t.1 : Int), bs (s.extract t.2.1 (t.2.1 + t.2.2))) = _
  rw [bs_extract, Nat.add_sub_cancel_left]
  rfl
/-! The tokens of a printed plan. -/
theorem dec_len {u : Nat} (h : u < 1000000000000000000) : (dec u).length ≤ 18 := by
  have key : ∀ (k u : Nat), u < 10 ^ (k + 1) → (dec u).length ≤ k + 1 := by
    intro k
    induction k with
    | zero => intro u h; rw [dec_lt (by simpa using h)]; simp
    | succ k ih =>
      intro u h
      by_cases h1 : u < 10
      · rw [dec_lt h1]; simp
      · rw [dec_ge h1, List.length_append]
        have := ih (u / 10) (by rw [Nat.pow_succ] at h; omega)
        simp only [List.length_cons, List.length_nil]
        omega
  exact key 17 u h
theorem good_dec {u : Nat} (h : u < 1000000000000000000) : good 2 (dec u) := by
  refine Or.inr (Or.inl ⟨rfl, ?_, fun c hc => by have := dec_all u c hc; unfold digitB; simp [this]⟩)
  have hl := dec_len h
  by_cases h1 : u < 10
  · rw [dec_lt h1]
    exact ⟨_, [], rfl, by simp [badN]⟩
  · obtain ⟨c, r, h2, h3⟩ := dec_head u (by omega)
    refine ⟨c, r, h2, ?_⟩
    unfold badN
    simp only [Bool.or_eq_false_iff, decide_eq_false_iff_not, Bool.and_eq_false_iff, beq_eq_false_iff_ne]
    exact ⟨by omega, Or.inr h3⟩
/-- What follows a word begins with none of its bytes. -/
theorem sepC {b : Nat} {l : List Nat} (h : wordB b = false ∧ digitB b = false) : ∀ c r', b :: l = c :: r' → wordB c = false ∧ digitB c = false := fun c r' e => by injection e with e1 _; rw [← e1]; exact h
theorem sep32 {l : List Nat} : ∀ c r', 32 :: l = c :: r' → wordB c = false ∧ digitB c = false := sepC (by decide)
theorem sep10 {l : List Nat} : ∀ c r', 10 :: l = c :: r' → wordB c = false ∧ digitB c = false := sepC (by decide)
theorem sep59 {l : List Nat} : ∀ c r', asc ";" ++ l = c :: r' → wordB c = false ∧ digitB c = false := sepC (by decide)
theorem gm {c : Nat} (h : markB c = true) : good 3 [c] := Or.inr (Or.inr ⟨rfl, c, rfl, h⟩)
theorem fit_nat {n : Int} (h : fitB n = true) : 0 ≤ n ∧ n.toNat < 1000000000000000000 := by
  unfold fitB at h
  simp only [Bool.and_eq_true, decide_eq_true_eq] at h
  omega
theorem fmt_dec {n : Int} (h : fitB n = true) : fmtI n = dec n.toNat := fmtI_nonneg (fit_nat h).1
end Go.Proofs.YtbdkggnajipdhaaGreatDoor
/- Plain: chapter 41, a printed plan is read again as the plan; the tokens' numbers are numbers. No program in sight. -/
namespace Go.Proofs.YtbdkggnajipdhaaGreatDoor
theorem valD_bd : ∀ (l : List Nat) (a : Nat), (∀ c ∈ l, digitB c = true) → valD a l < (a + 1) * 10 ^ l.length
  | [], a, _ => by simp [valD]
  | c :: r, a, h => by
    have hc := h c (by simp)
    unfold digitB at hc
    simp only [Bool.and_eq_true, decide_eq_true_eq] at hc
    have ih := valD_bd r (a * 10 + (c - 48)) fun d hd => h d (by simp [hd])
    have e : valD a (c :: r) = valD (a * 10 + (c - 48)) r := rfl
    rw [e, List.length_cons, Nat.pow_succ]
    refine Nat.lt_of_lt_of_le ih ?_
    rw [Nat.mul_comm (10 ^ r.length) 10, ← Nat.mul_assoc]
    exact Nat.mul_le_mul_right _ (by omega)
/-! Reading what was printed. -/
theorem st_next {L : List Tk} {k : Int} {w : List Nat} {M : List (Int × List Nat)} (h : L.map Kt = (k, w) :: M) (hM : M ≠ []) : (hdT L).kind = k ∧ bs (hdT L).text = w ∧ (nxT L).map Kt = M := by
  match L, h with
  | [], h => cases h
  | [t], h =>
    simp only [List.map_cons, List.map_nil, List.cons.injEq] at h
    exact absurd h.2.symm hM
  | t :: u :: r, h =>
    simp only [List.map_cons, List.cons.injEq, Kt, Prod.mk.injEq] at h
    exact ⟨h.1.1, h.1.2, by rw [← h.2]; rfl⟩
theorem st_is {L : List Tk} {k : Int} {w : List Nat} {M : List (Int × List Nat)} (h : L.map Kt = (k, w) :: M) (hM : M ≠ []) : isT k w L = some (nxT L) ∧ (nxT L).map Kt = M :=
  ⟨isT_yes (st_next h hM).1 (st_next h hM).2.1, (st_next h hM).2.2⟩
theorem st_num {L : List Tk} {n : Int} {M : List (Int × List Nat)} (hn : fitB n = true) (h : L.map Kt = (2, dec n.toNat) :: M) (hM : M ≠ []) : numT L = some (n, nxT L) ∧ (nxT L).map Kt = M := by
  obtain ⟨h1, h2, h3⟩ := st_next h hM
  have e : numE (dec n.toNat) = (n, 0) := by
    rw [← fmt_dec hn]
    have := fit_nat hn
    exact numE_fmt (by omega) (by omega)
  refine ⟨?_, h3⟩
  unfold numT
  rw [h1, h2, e, if_pos ⟨rfl, rfl⟩]
def inK (S : List (Nat × List Nat)) : List (Int × List Nat) := S.map fun x => ((x.1 : Int), x.2)
end Go.Proofs.YtbdkggnajipdhaaGreatDoor
/- Plain specification of chapter 11: games, their rules as text, reading tokens. No program in sight. -/
namespace Go.Proofs.YtbdkggnajipdhaaGreatDoor
structure Ad where
  name : ByteArray
  kind : Int
  price : Int
  factors : List Int
  digits : Int
  serials : List Int
structure Ti where
  main : Int
  bonus : Int
  extra : Int
  mode : Int
  kind : Int
  value : Int
/-- A game: its name, its 19 numbers in their order, add-ons, tiers. -/
structure Gm where
  name : ByteArray
  n : Nat → Int
  addons : List Ad
  tiers : List Ti
def putN (n : Nat → Int) (i : Nat) (v : Int) : Nat → Int := fun j => if j = i then v else n j
def noGm : Gm := ⟨ByteArray.empty, fun _ => 0, [], []⟩
/-! Reading. -/
def bindT {α β : Type} (x : Except (Int × List Tk) α) (f : α → Except (Int × List Tk) β) : Except (Int × List Tk) β := match x with
  | .ok a => f a
  | .error e => .error e
def lessT (m : Int) (L : List Tk) : Option (Int × List Tk) := match numT L with
  | some x => if x.1 ≤ m then some x else none
  | none => none
def numsT : Nat → List Tk → List Int × List Tk
  | 0, L => ([], L)
  | f + 1, L => match numT L with
    | none => ([], L)
    | some a => (a.1 :: (numsT f a.2).1, (numsT f a.2).2)
def simpleI (w : List Nat) : Option Nat :=
  if w = asc "extra" then some 6 else if w = asc "price" then some 1 else if w = asc "draws" then some 7 else if w = asc "system" then some 8 else if w = asc "close" then some 11
  else if w = asc "cancel" then some 12 else if w = asc "expiry" then some 13 else if w = asc "pool" then some 14 else if w = asc "reserve" then some 15 else if w = asc "round" then some 16
  else if w = asc "cap" then some 17 else if w = asc "rolls" then some 18 else none
def dayW : List (List Nat) := [asc "mon", asc "tue", asc "wed", asc "thu", asc "fri", asc "sat", asc "sun"]
def dayI (w : List Nat) : Option Nat := dayW.findIdx? fun d => decide (d = w)
def pairT (L : List Tk) : Except (Int × List Tk) ((Int × Int) × List Tk) :=
  thenT (numT L) L fun a => thenT (isT 1 (asc "of") a.2) a.2 fun L2 => thenT (numT L2) L2 fun b => .ok ((a.1, b.1), b.2)
def daysT : Nat → List Tk → Nat → Except (Int × List Tk) (Nat × List Tk)
  | 0, L, _ => .error (1, L)
  | f + 1, L, d =>
    if d ≠ 0 ∧ (hdT L).kind = 1 ∧ bs (hdT L).text = asc "at" then .ok (d, nxT L)
    else if (hdT L).kind ≠ 1 then .error (1, L)
    else match dayI (bs (hdT L).text) with
      | none => .error (1, L)
      | some i => if d / 2 ^ i % 2 = 1 then .error (1, L) else daysT f (nxT L) (d + 2 ^ i)
def dayT (L : List Tk) : Except (Int × List Tk) ((Int × Int) × List Tk) :=
  bindT (daysT L.length L 0) fun d => thenT (lessT 23 d.2) d.2 fun h => thenT (isT 3 (asc ":") h.2) h.2 fun L3 => thenT (lessT 59 L3) L3 fun m => .ok (((d.1 : Int), 60 * h.1 + m.1), m.2)
def addonT (L : List Tk) : Except (Int × List Tk) (Ad × List Tk) :=
  if (hdT L).kind ≠ 1 then .error (1, L)
  else if (hdT (nxT L)).kind ≠ 1 then .error (1, nxT L)
  else if bs (hdT (nxT L)).text = asc "factor" then
    thenT (numT (nxT (nxT L))) (nxT (nxT L)) fun a => .ok (⟨(hdT L).text, 1, a.1, (numsT a.2.length a.2).1, 0, []⟩, (numsT a.2.length a.2).2)
  else if bs (hdT (nxT L)).text = asc "serial" then
    thenT (numT (nxT (nxT L))) (nxT (nxT L)) fun a => thenT (numT a.2) a.2 fun b => .ok (⟨(hdT L).text, 2, a.1, [], b.1, (numsT b.2.length b.2).1⟩, (numsT b.2.length b.2).2)
  else .error (1, nxT L)
def hitT (w : List Nat) (L : List Tk) : Except (Int × List Tk) (Int × List Tk) := match isT 1 w L with
  | some L1 => thenT (numT L1) L1 fun a => .ok a
  | none => .ok (0, L)
/-- How a tier compares: its mode, and three numbers. -/
def modeT (L : List Tk) : Except (Int × List Tk) ((Int × Int × Int × Int) × List Tk) :=
  match isT 1 (asc "exact") L with
  | some L1 => .ok ((1, 0, 0, 0), L1)
  | none => match isT 1 (asc "box") L with
    | some L1 => .ok ((2, 0, 0, 0), L1)
    | none => match isT 1 (asc "front") L with
      | some L1 => thenT (numT L1) L1 fun a => .ok ((3, a.1, 0, 0), a.2)
      | none => match isT 1 (asc "back") L with
        | some L1 => thenT (numT L1) L1 fun a => .ok ((4, a.1, 0, 0), a.2)
        | none => bindT (hitT (asc "main") L) fun a => bindT (hitT (asc "bonus") a.2) fun b => bindT (hitT (asc "extra") b.2) fun c => .ok ((0, a.1, b.1, c.1), c.2)
def prizeK (w : List Nat) : Option Int := if w = asc "fixed" then some 1 else if w = asc "share" then some 2 else if w = asc "jackpot" then some 3 else none
def tierT (L : List Tk) : Except (Int × List Tk) (Ti × List Tk) :=
  bindT (modeT L) fun m =>
    if (hdT m.2).kind ≠ 1 then .error (1, m.2)
    else match prizeK (bs (hdT m.2).text) with
      | none => .error (1, m.2)
      | some k => thenT (numT (nxT m.2)) (nxT m.2) fun v => .ok (⟨m.1.2.1, m.1.2.2.1, m.1.2.2.2, m.1.1, k, v.1⟩, v.2)
/-- One item, without its semicolon: the game so far, the items that were there. -/
def itemG (L : List Tk) (g : Gm) (seen : List (List Nat)) : Except (Int × List Tk) ((Gm × List (List Nat)) × List Tk) :=
  if (hdT L).kind ≠ 1 then .error (1, L)
  else if bs (hdT L).text = asc "choose" ∨ bs (hdT L).text = asc "digits" then
    if asc "choose" ∈ seen then .error (6, L)
    else bindT (pairT (nxT L)) fun a => .ok (({ g with n := putN (putN (putN g.n 0 (if bs (hdT L).text = asc "digits" then 2 else 1)) 2 a.1.1) 3 a.1.2 }, asc "choose" :: seen), a.2)
  else if bs (hdT L).text = asc "bonus" then
    if asc "bonus" ∈ seen then .error (6, L)
    else bindT (pairT (nxT L)) fun a => .ok (({ g with n := putN (putN g.n 4 a.1.1) 5 a.1.2 }, asc "bonus" :: seen), a.2)
  else if bs (hdT L).text = asc "days" then
    if asc "days" ∈ seen then .error (6, L)
    else bindT (dayT (nxT L)) fun a => .ok (({ g with n := putN (putN g.n 9 a.1.1) 10 a.1.2 }, asc "days" :: seen), a.2)
  else if bs (hdT L).text = asc "addon" then bindT (addonT (nxT L)) fun a => .ok (({ g with addons := g.addons ++ [a.1] }, seen), a.2)
  else if bs (hdT L).text = asc "tier" then bindT (tierT (nxT L)) fun a => .ok (({ g with tiers := g.tiers ++ [a.1] }, seen), a.2)
  else match simpleI (bs (hdT L).text) with
    | none => .error (1, L)
    | some i => if bs (hdT L).text ∈ seen then .error (6, L)
      else thenT (numT (nxT L)) (nxT L) fun a => .ok (({ g with n := putN g.n i a.1 }, bs (hdT L).text :: seen), a.2)
def gitemsT : Nat → List Tk → Gm → List (List Nat) → Except (Int × List Tk) ((Gm × List (List Nat)) × List Tk)
  | 0, L, _, _ => .error (1, L)
  | f + 1, L, g, seen =>
    if (hdT L).kind = 1 then bindT (itemG L g seen) fun a => thenT (isT 3 (asc ";") a.2) a.2 fun L2 => gitemsT f L2 a.1.1 a.1.2
    else .ok ((g, seen), L)
def closeT (x : (Gm × List (List Nat)) × List Tk) : Except (Int × List Tk) Gm :=
  thenT (isT 3 (asc "}") x.2) x.2 fun L => if (hdT L).kind = 0 then .ok (if asc "system" ∈ x.1.2 then x.1.1 else { x.1.1 with n := putN x.1.1.n 8 (x.1.1.n 2) }) else .error (1, L)
def gm0 (s : ByteArray) : Gm := ⟨s, putN (putN (fun _ => 0) 7 1) 16 1, [], []⟩
def gameT (L : List Tk) : Except (Int × List Tk) Gm :=
  thenT (isT 1 (asc "game") L) L fun L1 =>
    if (hdT L1).kind ≠ 1 then .error (1, L1)
    else thenT (isT 3 (asc "{") (nxT L1)) (nxT L1) fun L3 => bindT (gitemsT L3.length L3 (gm0 (hdT L1).text) []) closeT
/-- A text's game, the error, its line. -/
def parseG (s : ByteArray) : Gm × Int × Int :=
  if (scanE s).1 = 3 then (noGm, 3, 0)
  else if (scanE s).1 ≠ 0 then (noGm, (scanE s).1, 1 + (((bs s).take (scanE s).2.1.toNat).count 10 : Nat))
  else match gameT (scanE s).2.2 with
    | .ok g => (g, 0, 0)
    | .error (e, L) => (noGm, e, (hdT L).line)
/-! Printing. -/
def wordL (l : List Nat) : Bool := (match l with | c :: _ => letterB c | [] => false) && l.all wordB
structure Pr where
  X : List Nat
  bad : Bool
def Pr.req (p : Pr) (c : Bool) : Pr := ⟨p.X, p.bad || !c⟩
def Pr.add (p : Pr) (l : List Nat) : Pr := ⟨p.X ++ l, p.bad⟩
def Pr.lim (p : Pr) : Pr := p.req (decide (p.X.length ≤ 32768))
def Pr.ws (p : Pr) (l : List (List Nat)) : Pr := (p.add (l.flatMap (32 :: ·))).lim
def Pr.nums : Pr → List Int → Pr
  | p, [] => p
  | p, n :: r => if (p.req (fitB n)).bad then p.req (fitB n) else ((p.req (fitB n)).ws [fmtI n]).nums r
def Pr.nm (p : Pr) (s : ByteArray) : Pr := if (p.req (wordL (bs s))).bad then p.req (wordL (bs s)) else (p.req (wordL (bs s))).ws [bs s]
def Pr.begin (p : Pr) (w : List Nat) : Pr := (p.add [32]).ws [w]
def Pr.fin (p : Pr) : Pr := (p.add (asc ";\n")).lim
def Pr.opt (p : Pr) (w : List Nat) (n std : Int) : Pr := if n = std then p else ((p.begin w).nums [n]).fin
def Pr.two (p : Pr) (w : List Nat) (a b : Int) : Pr := ((((p.begin w).nums [a]).ws [asc "of"]).nums [b]).fin
def Pr.head (p : Pr) (n : Nat → Int) : Pr :=
  if n 0 = 1 ∨ n 0 = 2 then
    let p1 := p.two (if n 0 = 1 then asc "choose" else asc "digits") (n 2) (n 3)
    let p2 := if n 4 ≠ 0 ∨ n 5 ≠ 0 then p1.two (asc "bonus") (n 4) (n 5) else p1
    (((p2.opt (asc "extra") (n 6) 0).opt (asc "price") (n 1) 0).opt (asc "draws") (n 7) 1).opt (asc "system") (n 8) (n 2)
  else ⟨p.X, true⟩
def dayL (d : Nat) : List (List Nat) := ((List.range 7).filter fun i => d / 2 ^ i % 2 == 1).map fun i => dayW.getD i []
def Pr.dayw (p : Pr) (d : Nat) : Pr := (dayL d).foldl (fun p w => p.ws [w]) p
def Pr.days (p : Pr) (n : Nat → Int) : Pr :=
  let p := p.req (decide (0 ≤ n 9) && decide (n 9 ≤ 127) && decide (0 ≤ n 10) && decide (n 10 ≤ 1439))
  if n 9 = 0 then p.req (decide (n 10 = 0))
  else if p.bad then p
  else ((((((p.begin (asc "days")).dayw (n 9).toNat).ws [asc "at"]).nums [n 10 / 60]).ws [asc ":"]).nums [n 10 % 60]).fin
def Pr.addon (p : Pr) (a : Ad) : Pr :=
  let p := (p.begin (asc "addon")).nm a.name
  (if a.kind = 1 then (((p.req (decide (a.digits = 0) && decide (a.serials.length = 0))).ws [asc "factor"]).nums [a.price]).nums a.factors
   else if a.kind = 2 then (((p.req (decide (a.factors.length = 0))).ws [asc "serial"]).nums [a.price, a.digits]).nums a.serials
   else ⟨p.X, true⟩).fin
def Pr.hits (p : Pr) (w : List Nat) (n : Int) : Pr := if n = 0 then p else (p.ws [w]).nums [n]
def Pr.mode (p : Pr) (t : Ti) : Pr :=
  if t.mode = 0 then ((p.hits (asc "main") t.main).hits (asc "bonus") t.bonus).hits (asc "extra") t.extra
  else if t.mode = 1 ∨ t.mode = 2 then (p.req (decide (t.main = 0) && decide (t.bonus = 0) && decide (t.extra = 0))).ws [if t.mode = 1 then asc "exact" else asc "box"]
  else if t.mode = 3 ∨ t.mode = 4 then ((p.req (decide (t.bonus = 0) && decide (t.extra = 0))).ws [if t.mode = 3 then asc "front" else asc "back"]).nums [t.main]
  else ⟨p.X, true⟩
def Pr.tier (p : Pr) (t : Ti) : Pr :=
  let p := (p.begin (asc "tier")).mode t
  ((if t.kind = 1 then p.ws [asc "fixed"] else if t.kind = 2 then p.ws [asc "share"] else if t.kind = 3 then p.ws [asc "jackpot"] else ⟨p.X, true⟩).nums [t.value]).fin
def Pr.all {α : Type} (f : Pr → α → Pr) : Pr → List α → Pr
  | p, [] => p
  | p, a :: r => if p.bad then p else Pr.all f (f p a) r
def Pr.opts (p : Pr) (n : Nat → Int) : Pr :=
  (((((((p.opt (asc "close") (n 11) 0).opt (asc "cancel") (n 12) 0).opt (asc "expiry") (n 13) 0).opt (asc "pool") (n 14) 0).opt (asc "reserve") (n 15) 0).opt (asc "round") (n 16) 1).opt (asc "cap") (n 17) 0).opt (asc "rolls") (n 18) 0
def Pr.game (g : Gm) : Pr :=
  let p := ((((⟨asc "game", false⟩ : Pr).nm g.name).add (asc " {\n")).head g.n).days g.n
  ((Pr.all Pr.tier (Pr.all Pr.addon (p.opts g.n) g.addons) g.tiers).add (asc "}\n")).lim
def printG (g : Gm) : List Nat := if (Pr.game g).bad then [] else (Pr.game g).X
/-! Examples. -/
def exT : Gm := ⟨toBA (asc "d"), fun i => if i = 0 then 2 else if i = 2 then 3 else if i = 3 then 10 else if i = 7 then 1 else if i = 8 then 3 else if i = 9 then 36 else if i = 10 then 1230 else if i = 16 then 1 else 0,
  [⟨toBA (asc "joker"), 2, 100, [], 2, [300, 5000]⟩], [⟨0, 0, 0, 1, 1, 50000⟩, ⟨2, 0, 0, 3, 1, 500⟩]⟩
end Go.Proofs.YtbdkggnajipdhaaGreatDoor
/- The engine's rules for this chapter: bits of ints, lookups, a set of strings. No function of the program in sight. -/
namespace Go.Proofs.YtbdkggnajipdhaaGreatDoor
open Go.RowKit
set_option maxRecDepth 100000
section
variable {P : Program} {T : TypeId} {x y : Operand} {w : World}
theorem bits_nat {n a : Nat} (h : a < 2 ^ n) : (BitVec.ofInt n (a : Int)).toNat = a := by
  rw [BitVec.toNat_ofInt, Int.emod_eq_of_lt (Int.natCast_nonneg a) (by exact_mod_cast h), Int.toNat_natCast]
theorem vBin_andN {a b : Nat} (ha : a < 4611686018427387904) (hb : b < 4611686018427387904) : vBin P .and T x y (.int .i64 a) (.int .i64 b) w = .ok (.value (.int .i64 ((a &&& b : Nat) : Int))) w := by
  have hbits : (2 : Nat) ^ IntKind.i64.bits = 18446744073709551616 := by decide
  have e : ((BitVec.ofInt IntKind.i64.bits (a : Int) &&& BitVec.ofInt IntKind.i64.bits (b : Int)).toNat : Int) = ((a &&& b : Nat) : Int) := by
    rw [BitVec.toNat_and, bits_nat (by omega), bits_nat (by omega)]
  have hle : a &&& b ≤ a := Nat.and_le_left
  have e2 : IntKind.i64.wrap ((a &&& b : Nat) : Int) = ((a &&& b : Nat) : Int) := IntWalk.i64_in _ (by omega)
  simp [vBin, eqGuard, binOp, Op.intBits, -BitVec.toNat_and, -BitVec.toNat_or, -BitVec.toNat_ofInt, -BitVec.ofInt_ofNat, -BitVec.ofInt_natCast, e, e2]
theorem vBin_orN {a b : Nat} (ha : a < 4611686018427387904) (hb : b < 4611686018427387904) : vBin P .or T x y (.int .i64 a) (.int .i64 b) w = .ok (.value (.int .i64 ((a ||| b : Nat) : Int))) w := by
  have hbits : (2 : Nat) ^ IntKind.i64.bits = 18446744073709551616 := by decide
  have e : ((BitVec.ofInt IntKind.i64.bits (a : Int) ||| BitVec.ofInt IntKind.i64.bits (b : Int)).toNat : Int) = ((a ||| b : Nat) : Int) := by
    rw [BitVec.toNat_or, bits_nat (by omega), bits_nat (by omega)]
  have hle : a ||| b < 2 ^ 62 := Nat.or_lt_two_pow (by omega) (by omega)
  have e2 : IntKind.i64.wrap ((a ||| b : Nat) : Int) = ((a ||| b : Nat) : Int) := IntWalk.i64_in _ (by omega)
  simp [vBin, eqGuard, binOp, Op.intBits, -BitVec.toNat_and, -BitVec.toNat_or, -BitVec.toNat_ofInt, -BitVec.ofInt_ofNat, -BitVec.ofInt_natCast, e, e2]
theorem vBin_shlN {k : IntKind} {i : Nat} (hi : i < 7) : vBin P .shl T x y (.int .i64 1) (.int k i) w = .ok (.value (.int .i64 ((2 ^ i : Nat) : Int))) w := by
  have e : IntKind.i64.wrap (1 * 2 ^ (min (i : Int).toNat IntKind.i64.bits)) = ((2 ^ i : Nat) : Int) := by
    have : ∀ i : Fin 7, IntKind.i64.wrap (1 * 2 ^ (min (i.1 : Int).toNat IntKind.i64.bits)) = ((2 ^ i.1 : Nat) : Int) := by decide +kernel
    exact this ⟨i, hi⟩
  simp only [vBin, eqGuard, binOp, Op.shift]
  simp [show ¬ ((i : Int) < 0) by omega]
  first | done | (simpa using e)
theorem vLookup_str0 {l : List (ByteArray × Value × Nat)} {clk g : Nat} {k : ByteArray} {z : Value} (hz : mapZ P T = some z) (hg : w.heap[g]? = some (.map (mkS l) clk)) :
    vLookup P T (.map (some g)) (.string k) false w = .ok (.value ((sget k l).getD z)) w := by
  obtain ⟨K, E, inf, hT, hK, hE, hzz⟩ := mapZ_is hz
  have hf := findNow_str (k := k) l 0
  cases hs : sfind k 0 l with
  | none =>
    rw [hs] at hf
    simp [vLookup, Instr.lookup, Sem.run_bind, run_underlying hT w, getObj, Sem.run, hg, run_checkKey_str hK, run_underlying hK w, Instr.findKey, mkS, hf, zeroValue, typeInfo, hE, hzz, sget, hs]
  | some p =>
    rw [hs] at hf
    simp [vLookup, Instr.lookup, Sem.run_bind, run_underlying hT w, getObj, Sem.run, hg, run_checkKey_str hK, run_underlying hK w, Instr.findKey, mkS, hf, sget, hs]
end
/-- The map at g holds the words seen. -/
def SeenIn (w : World) (g : Nat) (seen : List (List Nat)) : Prop := ∃ (l : List (ByteArray × Value × Nat)) (clk : Nat), w.heap[g]? = some (.map (mkS l) clk) ∧ ∀ k, (bs k ∈ seen → sget k l = some (.bool true)) ∧ (bs k ∉ seen → sget k l = none)
theorem SeenIn.kept {X : List Nat} {w w' : World} {g : Nat} {seen : List (List Nat)} (h : SeenIn w g seen) (k : Kept X w w') (hg : g ∉ X) : SeenIn w' g seen := by
  obtain ⟨l, clk, h1, h2⟩ := h
  exact ⟨l, clk, (k.block g (Array.getElem?_eq_some_iff.1 h1).1 hg).trans h1, h2⟩
theorem SeenIn.lt {w : World} {g : Nat} {seen : List (List Nat)} (h : SeenIn w g seen) : g < w.heap.size := by
  obtain ⟨l, clk, h1, h2⟩ := h
  exact (Array.getElem?_eq_some_iff.1 h1).1
theorem SeenIn.new (w : World) : SeenIn (w.alloc (.map #[] 0)) w.heap.size [] := ⟨[], 0, heap_alloc_new w _, fun k => ⟨fun h => (by cases h), fun _ => rfl⟩⟩
theorem sfind_app (k : ByteArray) (x : ByteArray × Value × Nat) : ∀ (l : List (ByteArray × Value × Nat)) (i : Nat), sfind k i (l ++ [x]) = match sfind k i l with
    | some p => some p
    | none => if k = x.1 then some (i + l.length, x.2.1) else none
  | [], i => by
    obtain ⟨k', v, b⟩ := x
    rw [List.nil_append, sfind, sfind, sfind]; rfl
  | (k', v, b) :: r, i => by
    rw [List.cons_append, sfind, sfind]
    by_cases h : k = k'
    · rw [if_pos h, if_pos h]
    · rw [if_neg h, if_neg h, sfind_app k x r (i + 1)]
      cases sfind k (i + 1) r with
      | some p => rfl
      | none => simp only [List.length_cons]; split <;> simp <;> omega
theorem SeenIn.add {w : World} {g : Nat} {seen : List (List Nat)} {s : ByteArray} {l : List (ByteArray × Value × Nat)} {clk : Nat} (h1 : w.heap[g]? = some (.map (mkS l) clk)) (h2 : ∀ k, (bs k ∈ seen → sget k l = some (.bool true)) ∧ (bs k ∉ seen → sget k l = none)) (hs : bs s ∉ seen) :
    SeenIn (setO w g (.map (mkS (l ++ [(s, .bool true, clk)])) (clk + 1))) g (bs s :: seen) := by
  refine ⟨_, _, setO_at _ (Array.getElem?_eq_some_iff.1 h1).1, fun k => ?_⟩
  unfold sget
  rw [sfind_app]
  by_cases hk : k = s
  · subst hk
    refine ⟨fun _ => ?_, fun h => absurd List.mem_cons_self h⟩
    have := (h2 k).2 hs
    unfold sget at this
    cases hf : sfind k 0 l with
    | some p => rw [hf] at this; cases this
    | none => simp
  · constructor
    · intro h
      rcases List.mem_cons.1 h with h | h
      · exact absurd (bs_inj h) hk
      · have := (h2 k).1 h
        unfold sget at this
        cases hf : sfind k 0 l with
        | some p => rw [hf] at this; exact this
        | none => rw [hf] at this; cases this
    · intro h
      have := (h2 k).2 (fun e => h (List.mem_cons_of_mem _ e))
      unfold sget at this
      cases hf : sfind k 0 l with
      | some p => rw [hf] at this; cases this
      | none => simp [hk]
theorem setO_kept {X : List Nat} {a w : World} {g : Nat} (h : Kept X a w) (hg : g ∈ X) (o : Obj) : Kept X a (setO w g o) :=
  h.trans ⟨rfl, rfl, rfl, by rw [setO_size]; exact Nat.le_refl _, fun k hk hx => setO_block o (fun e => hx (e ▸ hg))⟩
/-- Numbers as values. -/
def iW (l : List Int) : List Value := l.map fun n => Value.int .i64 n
/-! Days. -/
theorem day_bits (d i : Nat) (hd : d < 128) (hi : i < 7) : (d &&& 2 ^ i = 0 ↔ ¬ d / 2 ^ i % 2 = 1) ∧ (¬ d / 2 ^ i % 2 = 1 → d ||| 2 ^ i = d + 2 ^ i ∧ d + 2 ^ i < 128) := by
  have : ∀ (d : Fin 128) (i : Fin 7), (d.1 &&& 2 ^ i.1 = 0 ↔ ¬ d.1 / 2 ^ i.1 % 2 = 1) ∧ (¬ d.1 / 2 ^ i.1 % 2 = 1 → d.1 ||| 2 ^ i.1 = d.1 + 2 ^ i.1 ∧ d.1 + 2 ^ i.1 < 128) := by decide +kernel
  exact this ⟨d, hd⟩ ⟨i, hi⟩
theorem dayI_lt {w : List Nat} {i : Nat} (h : dayI w = some i) : i < 7 ∧ dayW[i]? = some w ∧ ∀ j, j < i → dayW[j]? ≠ some w := by
  unfold dayI at h
  rw [List.findIdx?_eq_some_iff_getElem] at h
  obtain ⟨h1, h2, h3⟩ := h
  refine ⟨h1, ?_, fun j hj e => ?_⟩
  · rw [List.getElem?_eq_getElem h1]; simpa using h2
  · have := h3 j hj
    rw [List.getElem?_eq_getElem (by omega)] at e
    simp only [Option.some.injEq] at e
    simp [e] at this
theorem dayI_at {w : List Nat} {i : Nat} (h1 : dayW[i]? = some w) (h2 : ∀ j d, j < i → dayW[j]? = some d → d ≠ w) : dayI w = some i := by
  unfold dayI
  rw [List.findIdx?_eq_some_iff_getElem]
  obtain ⟨hi, he⟩ := List.getElem?_eq_some_iff.1 h1
  refine ⟨hi, by simpa using he, fun j hj => ?_⟩
  have := h2 j _ hj (List.getElem?_eq_getElem (by omega))
  simpa using this
theorem dayI_none {w : List Nat} (h2 : ∀ j d, j < 7 → dayW[j]? = some d → d ≠ w) : dayI w = none := by
  unfold dayI
  rw [List.findIdx?_eq_none_iff]
  intro d hd
  obtain ⟨j, hj⟩ := List.mem_iff_getElem?.1 hd
  have hl := (List.getElem?_eq_some_iff.1 hj).1
  have := h2 j d hl hj
  simpa using this
end Go.Proofs.YtbdkggnajipdhaaGreatDoor
/- Regions that draw their order: a reader that waits for a condition. -/
namespace Go.Proofs.YtbdkggnajipdhaaGreatDoor
open Go.RowKit
end Go.Proofs.YtbdkggnajipdhaaGreatDoor
