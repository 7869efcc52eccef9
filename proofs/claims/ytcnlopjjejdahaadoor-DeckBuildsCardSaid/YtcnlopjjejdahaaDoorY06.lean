/- Texts laid one behind the other: DhA, Ord, Own, Shelf, LexC, ScrQ, ArG, Arr, Byt, Bld, ScrI. Each says at its head what it proves. -/
import Derived.Test.YtcnlopjjejdahaaDoorY05
import Derived.OrdersHeld
import Derived.Shelf.Strings.Builder1
import Derived.Shelf.Strconv.Itoa0
import Derived.Shelf.Strconv.Itoa1
import Derived.Shelf.LaysM
import Derived.Shelf.Strconv.Itoa2
import Derived.Shelf.Strconv.Itoa3
import Derived.Shelf.Strings.Search1
import Derived.Shelf.Strings.Search2
import Derived.Shelf.Strings.Search3
import Derived.Shelf.Strings.Count
import Derived.Shelf.Strings.Shaped
import Derived.Shelf.Strings.LastIndex
import Derived.Test.YtcnlopjjejdahaaDoorProg
import Derived.Laws.BytesString
import Derived.Lib.AppendIntMem
set_option linter.unusedSimpArgs false
/- Walks: money.Valid, deck.Payout. -/
namespace Go.Proofs.YtcnlopjjejdahaaDoor
open Go.RowKit
set_option maxRecDepth 100000
theorem valid_any (m : Int) (w : World) : Calls Tryd.prog 31 #[.int .i64 m] w fun e w' => e = .returned (.bool (decide (0 ≤ m ∧ m ≤ 1000000000000))) ∧ w = w' := by
  refine calls_W (l := [_]) Tryd.func31 rfl _ Tryd.ntmps31 (by simp) ?_
  simp +contextual (maxSteps := 2000000) (disch := (first | omega | (simp only [SZ]; done) | (simp only [SZ]; omega) | (simp only [TS] at *; omega))) only [RZ, gval, gslot, fillL, ovw, numb, catL, ldN, agL, okC, oneC, init, Nat.reduceAdd, Nat.reduceMul, Nat.reduceSub, Nat.reduceEqDiff, Nat.reduceLT, ↓reduceIte, Int.reduceToNat, Int.reduceAdd, Int.reduceSub, Int.reduceMul, Int.reduceLT, Int.reduceLE, Int.reduceEq, Nat.reduceLeDiff]
  simp
def planV (p : Pl) (A : Option Addr) (c : Nat) : Value := .agg #[.string p.name, .int .i64 p.price, .int .i64 p.packs, .int .i64 p.size, .slice A p.levels.length c]
theorem paid_cons (v : Lvl) (L : List Lvl) : paid (v :: L) = v.prize * v.count + paid L := by unfold paid; rw [List.map_cons, List.sum_cons]
theorem paid_drop {L : List Lvl} {k : Nat} {v : Lvl} (h : L[k]? = some v) : paid (L.drop k) = v.prize * v.count + paid (L.drop (k + 1)) := by
  obtain ⟨hk, rfl⟩ := List.getElem?_eq_some_iff.1 h
  rw [List.drop_eq_getElem_cons hk, paid_cons]
theorem payout_any (p : Pl) (A : Option Addr) (c : Nat) (w : World) (hs : p.name.size ≤ 9223372036854775807) (hL : Arr w A 3 (p.levels.map encLvl)) :
    Calls Tryd.prog 13 #[planV p A c] w fun e w' => e = .returned (.tuple #[.int .i64 (payE p).1, .int .i64 (payE p).2]) ∧ Below w.heap.size w w' := by
  unfold planV
  refine calls_W (l := [_]) Tryd.func13 rfl _ Tryd.ntmps13 (by simp) ?_
  obtain ⟨hp, hsz, hB⟩ := new_block w #[Value.string p.name, .int .i64 p.price, .int .i64 p.packs, .int .i64 p.size, .slice A p.levels.length c] 24
  have hp4 := hp 4
  simp only [List.getElem?_toArray, List.getElem?_cons_zero, List.getElem?_cons_succ] at hp4
  simp +contextual (maxSteps := 2000000) (disch := (first | omega | (simp only [SZ]; done) | (simp only [SZ]; omega) | (simp only [TS] at *; omega))) only [RZ, gval, gslot, fillL, ovw, numb, catL, ldN, agL, okC, oneC, init, Nat.reduceAdd, Nat.reduceMul, Nat.reduceSub, Nat.reduceEqDiff, Nat.reduceLT, ↓reduceIte, Int.reduceToNat, Int.reduceAdd, Int.reduceSub, Int.reduceMul, Int.reduceLT, Int.reduceLE, Int.reduceEq, Nat.reduceLeDiff]
  generalize w.alloc (.cells #[Value.string p.name, .int .i64 p.price, .int .i64 p.packs, .int .i64 p.size, .slice A p.levels.length c] 24) = w1 at *
  have hL1 := hL.below hB
  refine (check_any p.name p.price p.packs p.size A c p.levels w1 hs hL1).mono ?_
  rintro e w2 ⟨rfl, hB2⟩
  refine ⟨_, rfl, ?_⟩
  have hL2 := hL1.below hB2
  have e4 := ((bcell hB2).1 w.heap.size 4 (by omega)).trans hp4
  have hz2 := hB2.size
  have hfin : Below w.heap.size w w2 := hB.trans (hB2.mono (by omega))
  rw [show chk p.name p.price p.packs p.size p.levels = p.chk from rfl]
  simp +contextual (maxSteps := 2000000) (disch := (first | omega | (simp only [SZ]; done) | (simp only [SZ]; omega) | (simp only [TS] at *; omega))) only [RZ, gval, gslot, fillL, ovw, numb, catL, ldN, agL, okC, oneC, init, Nat.reduceAdd, Nat.reduceMul, Nat.reduceSub, Nat.reduceEqDiff, Nat.reduceLT, ↓reduceIte, Int.reduceToNat, Int.reduceAdd, Int.reduceSub, Int.reduceMul, Int.reduceLT, Int.reduceLE, Int.reduceEq, Nat.reduceLeDiff]
  (refine W_if rfl (fun hc => ?_) (fun hc => ?_) <;> (try simp only [TS] at hc))
  · simp +contextual (maxSteps := 2000000) (disch := (first | omega | (simp only [SZ]; done) | (simp only [SZ]; omega) | (simp only [TS] at *; omega))) only [RZ, gval, gslot, fillL, ovw, numb, catL, ldN, agL, okC, oneC, init, Nat.reduceAdd, Nat.reduceMul, Nat.reduceSub, Nat.reduceEqDiff, Nat.reduceLT, ↓reduceIte, Int.reduceToNat, Int.reduceAdd, Int.reduceSub, Int.reduceMul, Int.reduceLT, Int.reduceLE, Int.reduceEq, Nat.reduceLeDiff]
    unfold payE
    rw [if_neg hc]
    exact ⟨rfl, hfin⟩
  have hck : p.chk = 0 := by omega
  obtain ⟨h1, h2, h3, h4, h5, h6⟩ := chk_ok hck
  have hv := chkL_ok h3 h4 _ _ _ _ (Int.le_refl _) h6
  clear hc
  simp +contextual (maxSteps := 2000000) (disch := (first | omega | (simp only [SZ]; done) | (simp only [SZ]; omega) | (simp only [TS] at *; omega))) only [RZ, gval, gslot, fillL, ovw, numb, catL, ldN, agL, okC, oneC, init, Nat.reduceAdd, Nat.reduceMul, Nat.reduceSub, Nat.reduceEqDiff, Nat.reduceLT, ↓reduceIte, Int.reduceToNat, Int.reduceAdd, Int.reduceSub, Int.reduceMul, Int.reduceLT, Int.reduceLE, Int.reduceEq, Nat.reduceLeDiff,  e4]
  refine Raw_loop (fun σ w3 => ∃ (k : Nat) (s : Int), k ≤ p.levels.length ∧ s + paid (p.levels.drop k) = paid p.levels ∧ (0 ≤ s ∧ s ≤ 8192000000000 * k) ∧ Below w.heap.size w w3 ∧ Below w2.heap.size w2 w3 ∧ σ 5 = .int .i64 s ∧ σ 14 = .slice A p.levels.length c ∧ σ 15 = .int .i64 p.levels.length ∧ σ 16 = .int .i64 k) (fun σ _ => p.levels.length - (intOf (σ 16)).toNat) ?_ ?_
  · simp +contextual (maxSteps := 2000000) (disch := (first | omega | (simp only [SZ]; done) | (simp only [SZ]; omega) | (simp only [TS] at *; omega))) only [RZ, gval, gslot, fillL, ovw, numb, catL, ldN, agL, okC, oneC, init, Nat.reduceAdd, Nat.reduceMul, Nat.reduceSub, Nat.reduceEqDiff, Nat.reduceLT, ↓reduceIte, Int.reduceToNat, Int.reduceAdd, Int.reduceSub, Int.reduceMul, Int.reduceLT, Int.reduceLE, Int.reduceEq, Nat.reduceLeDiff]
    exact ⟨0, 0, Nat.zero_le _, by rw [List.drop_zero, Int.zero_add], by omega, hfin, Below.refl _ _, rfl, rfl⟩
  rintro σ w3 ⟨k, s, hk, hpd, hsb, hf3, hB3, f5, f14, f15, f16⟩ K hK
  have hz3 := hf3.size
  have hz4 := hB3.size
  simp +contextual (maxSteps := 2000000) (disch := (first | omega | (simp only [SZ]; done) | (simp only [SZ]; omega) | (simp only [TS] at *; omega))) only [RZ, gval, gslot, fillL, ovw, numb, catL, ldN, agL, okC, oneC, init, Nat.reduceAdd, Nat.reduceMul, Nat.reduceSub, Nat.reduceEqDiff, Nat.reduceLT, ↓reduceIte, Int.reduceToNat, Int.reduceAdd, Int.reduceSub, Int.reduceMul, Int.reduceLT, Int.reduceLE, Int.reduceEq, Nat.reduceLeDiff,  f5, f14, f15, f16]
  (refine W_if rfl (fun hc => ?_) (fun hc => ?_) <;> (try simp only [TS] at hc))
  · obtain ⟨v, hvk⟩ : ∃ v, p.levels[k]? = some v := ⟨_, List.getElem?_eq_getElem (by omega)⟩
    have hvv := hv v (List.mem_of_getElem? hvk)
    obtain ⟨b, o, rfl, hb, hcell⟩ := (hL2.below hB3).at_ hvk
    have l0 := hcell 0 _ rfl
    rw [Nat.add_zero] at l0
    have l1 := hcell 1 _ rfl
    have l2 := hcell 2 _ rfl
    have hm := mul_bd (a := v.prize) (b := v.count) (A := 1000000000) (B := 8192) (by omega) (by omega) (by omega) (by omega)
    rw [paid_drop hvk] at hpd
    simp +contextual (maxSteps := 2000000) (disch := (first | omega | (simp only [SZ]; done) | (simp only [SZ]; omega) | (simp only [TS] at *; omega))) only [RZ, gval, gslot, fillL, ovw, numb, catL, ldN, agL, okC, oneC, init, Nat.reduceAdd, Nat.reduceMul, Nat.reduceSub, Nat.reduceEqDiff, Nat.reduceLT, ↓reduceIte, Int.reduceToNat, Int.reduceAdd, Int.reduceSub, Int.reduceMul, Int.reduceLT, Int.reduceLE, Int.reduceEq, Nat.reduceLeDiff,  f5, f14, f15, f16, l0, l1, l2]
    refine hK _ _ ⟨k + 1, s + v.prize * v.count, by omega, by omega, by omega, hf3.alloc (by omega) _, hB3.alloc (by omega) _, ?_⟩ ?_
    · simp +contextual (maxSteps := 2000000) (disch := (first | omega | (simp only [SZ]; done) | (simp only [SZ]; omega) | (simp only [TS] at *; omega))) only [RZ, gval, gslot, fillL, ovw, numb, catL, ldN, agL, okC, oneC, init, Nat.reduceAdd, Nat.reduceMul, Nat.reduceSub, Nat.reduceEqDiff, Nat.reduceLT, ↓reduceIte, Int.reduceToNat, Int.reduceAdd, Int.reduceSub, Int.reduceMul, Int.reduceLT, Int.reduceLE, Int.reduceEq, Nat.reduceLeDiff,  f5, f14, f15, f16]
    · simp +contextual (maxSteps := 2000000) (disch := (first | omega | (simp only [SZ]; done) | (simp only [SZ]; omega) | (simp only [TS] at *; omega))) only [RZ, gval, gslot, fillL, ovw, numb, catL, ldN, agL, okC, oneC, init, Nat.reduceAdd, Nat.reduceMul, Nat.reduceSub, Nat.reduceEqDiff, Nat.reduceLT, ↓reduceIte, Int.reduceToNat, Int.reduceAdd, Int.reduceSub, Int.reduceMul, Int.reduceLT, Int.reduceLE, Int.reduceEq, Nat.reduceLeDiff,  intOf, f16]
      omega
  · have hk2 : k = p.levels.length := by omega
    subst hk2
    rw [List.drop_length, show paid [] = 0 from rfl, Int.add_zero] at hpd
    subst hpd
    simp +contextual (maxSteps := 2000000) (disch := (first | omega | (simp only [SZ]; done) | (simp only [SZ]; omega) | (simp only [TS] at *; omega))) only [RZ, gval, gslot, fillL, ovw, numb, catL, ldN, agL, okC, oneC, init, Nat.reduceAdd, Nat.reduceMul, Nat.reduceSub, Nat.reduceEqDiff, Nat.reduceLT, ↓reduceIte, Int.reduceToNat, Int.reduceAdd, Int.reduceSub, Int.reduceMul, Int.reduceLT, Int.reduceLE, Int.reduceEq, Nat.reduceLeDiff,  f5, f14, f15, f16]
    refine (valid_any _ _).mono ?_
    rintro e w4 ⟨rfl, rfl⟩
    refine ⟨_, rfl, ?_⟩
    unfold payE
    rw [if_pos hck]
    simp +contextual (maxSteps := 2000000) (disch := (first | omega | (simp only [SZ]; done) | (simp only [SZ]; omega) | (simp only [TS] at *; omega))) only [RZ, gval, gslot, fillL, ovw, numb, catL, ldN, agL, okC, oneC, init, Nat.reduceAdd, Nat.reduceMul, Nat.reduceSub, Nat.reduceEqDiff, Nat.reduceLT, ↓reduceIte, Int.reduceToNat, Int.reduceAdd, Int.reduceSub, Int.reduceMul, Int.reduceLT, Int.reduceLE, Int.reduceEq, Nat.reduceLeDiff,  f5]
    (refine W_if rfl (fun hc => ?_) (fun hc => ?_) <;> (try simp only [TS] at hc))
    · rw [if_pos (by omega)]
      simp +contextual (maxSteps := 2000000) (disch := (first | omega | (simp only [SZ]; done) | (simp only [SZ]; omega) | (simp only [TS] at *; omega))) only [RZ, gval, gslot, fillL, ovw, numb, catL, ldN, agL, okC, oneC, init, Nat.reduceAdd, Nat.reduceMul, Nat.reduceSub, Nat.reduceEqDiff, Nat.reduceLT, ↓reduceIte, Int.reduceToNat, Int.reduceAdd, Int.reduceSub, Int.reduceMul, Int.reduceLT, Int.reduceLE, Int.reduceEq, Nat.reduceLeDiff]
      exact hf3
    · rw [if_neg (by omega)]
      simp +contextual (maxSteps := 2000000) (disch := (first | omega | (simp only [SZ]; done) | (simp only [SZ]; omega) | (simp only [TS] at *; omega))) only [RZ, gval, gslot, fillL, ovw, numb, catL, ldN, agL, okC, oneC, init, Nat.reduceAdd, Nat.reduceMul, Nat.reduceSub, Nat.reduceEqDiff, Nat.reduceLT, ↓reduceIte, Int.reduceToNat, Int.reduceAdd, Int.reduceSub, Int.reduceMul, Int.reduceLT, Int.reduceLE, Int.reduceEq, Nat.reduceLeDiff,  f5]
      exact hf3
end Go.Proofs.YtcnlopjjejdahaaDoor
/- Regions that draw their order, with several operations that write: readers first, then the writers in whatever order. -/
namespace Go.Proofs.YtcnlopjjejdahaaDoor
open Go.RowKit
section
variable {P : Program} {n : Nat} {ops : Array Oper} {Q : Exit → Sl → World → Prop} {S : World → Prop} {σ : Sl} {w : World} {fuel : Nat} {listed : Array Bool}
/-- What is left of a region, whatever order is drawn. -/
def Ord (P : Program) (n : Nat) (ops : Array Oper) (Q : Exit → Sl → World → Prop) (S : World → Prop) (fuel : Nat) (listed : Array Bool) (σ : Sl) (w : World) : Prop :=
  ∀ a, Fr n σ a → wpAnyH P .any ops (lift n Q) S fuel listed a w
theorem Raw_genw {c : Code} (h : ∀ w2, w2 = w → Raw P n c Q σ w2) : Raw P n c Q σ w := h w rfl
theorem Raw_gen {c : Code} (h : ∀ τ : Sl, (∀ i, τ i = σ i) → Raw P n c Q τ w) : Raw P n c Q σ w := h σ fun _ => rfl
@[congr] theorem Ord_congr {σ σ' : Sl} {w w' : World} (h : σ = σ') (h' : w = w') : Ord P n ops Q S fuel listed σ w = Ord P n ops Q S fuel listed σ' w' := by rw [h, h']
theorem Raw_ord (S : World → Prop) (m : Nat) (hsz : ops.size = m) {id : Nat} (hm : P.follows .mixedOrders = true) (h : Ord P n ops Q S m (Array.replicate m false) σ w.drew) : Raw P n (.region id ops true) Q σ w := by
  intro a hf
  subst hsz
  exact wp_region_held (S := S) hm (h a hf)
theorem Ord_take (i : Nat) {d : Option Nat} {op : Op} {ty : TypeId} {p : String} {af : Array Edge} {v : Value} (hi : ops[i]? = some ⟨d, op, ty, p, af, none⟩)
    (hs : Region.noSelect ops = true) (hf : Region.free .any ops listed i = true) (hr : (Region.ready .any ops listed).contains i = true)
    (hQ : ∀ c σ w, ¬ Q (.panic c) σ w) (hS : S w) (hv : ∀ w', S w' → run1 P op ty σ w' = .ok (.value v) w')
    (h : Ord P n ops Q S fuel (listed.setIfInBounds i true) (put n σ d v) w) : Ord P n ops Q S (fuel + 1) listed σ w := by
  intro a hfr
  refine wpAnyH_take hi hs hf hr ?_ (v := v) ?_ hS (h _ (hfr.put d v))
  · rintro c a w ⟨σ', _, hq⟩
    exact absurd hq (hQ _ _ _)
  · refine .inl ⟨wanted_none rfl, fun w' hw' => ?_⟩
    have := hv w' hw'
    rw [hfr.eval]
    exact this
def OpO (P : Program) (n : Nat) (ops : Array Oper) (Q : Exit → Sl → World → Prop) (S : World → Prop) (fuel : Nat) (listed : Array Bool) (σ : Sl) (w : World) (i : Nat) : Prop :=
  ∀ a, Fr n σ a → wpOp P ops (lift n Q) i (fun a' w' => S w' ∧ wpAnyH P .any ops (lift n Q) S fuel (listed.setIfInBounds i true) a' w') a w
theorem OpO_of (i : Nat) {d : Option Nat} {op : Op} {ty : TypeId} {p : String} {af : Array Edge} (hi : ops[i]? = some ⟨d, op, ty, p, af, none⟩)
    (h : Okv P (fun v w' => S w' ∧ Ord P n ops Q S fuel (listed.setIfInBounds i true) (put n σ d v) w') (run1 P op ty σ w)) : OpO P n ops Q S fuel listed σ w i := by
  intro a hfr
  unfold wpOp
  simp only [hi]
  rw [if_pos (wanted_none rfl)]
  exact .inl (Oper.wp_of_Okv hfr (o := ⟨d, op, ty, p, af, none⟩) h fun v w' hE => ⟨hE.1, hE.2 _ (hfr.put d v)⟩)
theorem Ord_all (rs : List Nat) (hr : Region.ready .any ops listed = rs) (hne : rs ≠ []) (h : ∀ i ∈ rs, OpO P n ops Q S fuel listed σ w i) : Ord P n ops Q S (fuel + 1) listed σ w :=
  fun a hf => wpAnyH_all hr hne fun i hi => h i hi a hf
theorem Ord_one (i : Nat) {d : Option Nat} {op : Op} {ty : TypeId} {p : String} {af : Array Edge} (hr : Region.ready .any ops listed = [i]) (hi : ops[i]? = some ⟨d, op, ty, p, af, none⟩)
    (h : Okv P (fun v w' => S w' ∧ Ord P n ops Q S fuel (listed.setIfInBounds i true) (put n σ d v) w') (run1 P op ty σ w)) : Ord P n ops Q S (fuel + 1) listed σ w :=
  Ord_all [i] hr (by simp) fun j hj => by
    obtain rfl : j = i := by simpa using hj
    exact OpO_of j hi h
theorem Ord_done (hr : Region.ready .any ops listed = []) (h : Q .normal σ w) : Ord P n ops Q S fuel listed σ w :=
  fun _ hf => wpAnyH_done hr ⟨σ, hf, h⟩ fuel
theorem upd_comm (σ : Sl) {i j : Nat} (h : i ≠ j) (u v : Value) : upd (upd σ i u) j v = upd (upd σ j v) i u := by
  funext k
  simp only [upd_apply]
  by_cases h1 : k = j
  · rw [if_pos h1, if_neg (by omega), if_pos h1]
  · rw [if_neg h1, if_neg h1]
/-- Two writers, in either order. T says which of them are done, with what, and where the world stands. -/
theorem Ord_two {α β : Type} (T : Option α → Option β → World → Prop) (vi : α → Value) (vj : β → Value) (i j di dj : Nat) {opi opj : Op} {tyi tyj : TypeId} {pi pj : String} {afi afj : Array Edge}
    (hi : ops[i]? = some ⟨some di, opi, tyi, pi, afi, none⟩) (hj : ops[j]? = some ⟨some dj, opj, tyj, pj, afj, none⟩)
    (hij : i ≠ j) (hdij : di ≠ dj) (hni : di < n) (hnj : dj < n)
    (hr : Region.ready .any ops listed = [i, j]) (hri : Region.ready .any ops (listed.setIfInBounds i true) = [j]) (hrj : Region.ready .any ops (listed.setIfInBounds j true) = [i])
    (h0 : T none none w)
    (si : ∀ y w1 σ', (∀ s, s ≠ di → s ≠ dj → σ' s = σ s) → T none y w1 → Okv P (fun v w2 => ∃ x, v = vi x ∧ S w2 ∧ T (some x) y w2) (run1 P opi tyi σ' w1))
    (sj : ∀ x w1 σ', (∀ s, s ≠ di → s ≠ dj → σ' s = σ s) → T x none w1 → Okv P (fun v w2 => ∃ y, v = vj y ∧ S w2 ∧ T x (some y) w2) (run1 P opj tyj σ' w1))
    (hk : ∀ x y w1, T (some x) (some y) w1 → Ord P n ops Q S fuel ((listed.setIfInBounds i true).setIfInBounds j true) (upd (upd σ di (vi x)) dj (vj y)) w1) :
    Ord P n ops Q S (fuel + 2) listed σ w := by
  have Okv_mono : ∀ {R R' : Value → World → Prop} {r : Result Next}, (∀ v w, R v w → R' v w) → Okv P R r → Okv P R' r := by
    intro R R' r h hr
    cases r with
    | halt x w' => exact hr
    | ok nx w' =>
      cases nx
      case value v => exact h _ _ hr
      case skip => exact h _ _ hr
      case enter f args => exact hr.mono fun e w'' ⟨v, he, hv⟩ => ⟨v, he, h _ _ hv⟩
      all_goals exact hr
  refine Ord_all [i, j] hr (by simp) fun k hk' => ?_
  rcases (by simpa using hk' : k = i ∨ k = j) with rfl | rfl
  · refine OpO_of k hi (Okv_mono ?_ (si none w σ (fun _ _ _ => rfl) h0))
    rintro v w2 ⟨x, rfl, hS, hT⟩
    refine ⟨hS, Ord_one j hri hj (Okv_mono ?_ (sj (some x) w2 _ (fun s h1 h2 => ?_) hT))⟩
    · rintro v w3 ⟨y, rfl, hS', hT'⟩
      rw [put_some, put_some, if_pos hni, if_pos hnj]
      exact ⟨hS', hk x y w3 hT'⟩
    · rw [put_some, if_pos hni, upd_apply, if_neg h1]
  · refine OpO_of k hj (Okv_mono ?_ (sj none w σ (fun _ _ _ => rfl) h0))
    rintro v w2 ⟨y, rfl, hS, hT⟩
    refine ⟨hS, Ord_one i hrj hi (Okv_mono ?_ (si (some y) w2 _ (fun s h1 h2 => ?_) hT))⟩
    · rintro v w3 ⟨x, rfl, hS', hT'⟩
      rw [put_some, put_some, if_pos hnj, if_pos hni, upd_comm _ (Ne.symm hdij), Array.setIfInBounds_comm _ _ (Ne.symm hij)]
      exact ⟨hS', hk x y w3 hT'⟩
    · rw [put_some, if_pos hnj, upd_apply, if_neg h2]
theorem Okv_mono {R R' : Value → World → Prop} {r : Result Next} (h : ∀ v w, R v w → R' v w) (hr : Okv P R r) : Okv P R' r := by
  cases r with
  | halt x w' => exact hr
  | ok nx w' =>
    cases nx
    case value v => exact h _ _ hr
    case skip => exact h _ _ hr
    case enter f args => exact hr.mono fun e w'' ⟨v, he, hv⟩ => ⟨v, he, h _ _ hv⟩
    all_goals exact hr
/-- Three writers, in whatever order. -/
theorem Ord_three {α β γ : Type} (T : Option α → Option β → Option γ → World → Prop) (vi : α → Value) (vj : β → Value) (vk : γ → Value) (i j k di dj dk : Nat)
    {opi opj opk : Op} {tyi tyj tyk : TypeId} {pi pj pk : String} {afi afj afk : Array Edge}
    (hi : ops[i]? = some ⟨some di, opi, tyi, pi, afi, none⟩) (hj : ops[j]? = some ⟨some dj, opj, tyj, pj, afj, none⟩) (hk : ops[k]? = some ⟨some dk, opk, tyk, pk, afk, none⟩)
    (hij : i ≠ j) (hik : i ≠ k) (hjk : j ≠ k) (hdij : di ≠ dj) (hdik : di ≠ dk) (hdjk : dj ≠ dk) (hni : di < n) (hnj : dj < n) (hnk : dk < n)
    (hr : Region.ready .any ops listed = [i, j, k])
    (hri : Region.ready .any ops (listed.setIfInBounds i true) = [j, k]) (hrj : Region.ready .any ops (listed.setIfInBounds j true) = [i, k]) (hrk : Region.ready .any ops (listed.setIfInBounds k true) = [i, j])
    (hrij : Region.ready .any ops ((listed.setIfInBounds i true).setIfInBounds j true) = [k]) (hrik : Region.ready .any ops ((listed.setIfInBounds i true).setIfInBounds k true) = [j]) (hrjk : Region.ready .any ops ((listed.setIfInBounds j true).setIfInBounds k true) = [i])
    (h0 : T none none none w)
    (si : ∀ y z w1 σ', (∀ s, s ≠ di → s ≠ dj → s ≠ dk → σ' s = σ s) → T none y z w1 → Okv P (fun v w2 => ∃ x, v = vi x ∧ S w2 ∧ T (some x) y z w2) (run1 P opi tyi σ' w1))
    (sj : ∀ x z w1 σ', (∀ s, s ≠ di → s ≠ dj → s ≠ dk → σ' s = σ s) → T x none z w1 → Okv P (fun v w2 => ∃ y, v = vj y ∧ S w2 ∧ T x (some y) z w2) (run1 P opj tyj σ' w1))
    (sk : ∀ x y w1 σ', (∀ s, s ≠ di → s ≠ dj → s ≠ dk → σ' s = σ s) → T x y none w1 → Okv P (fun v w2 => ∃ z, v = vk z ∧ S w2 ∧ T x y (some z) w2) (run1 P opk tyk σ' w1))
    (hend : ∀ x y z w1, T (some x) (some y) (some z) w1 → Ord P n ops Q S fuel (((listed.setIfInBounds i true).setIfInBounds j true).setIfInBounds k true) (upd (upd (upd σ di (vi x)) dj (vj y)) dk (vk z)) w1) :
    Ord P n ops Q S (fuel + 3) listed σ w := by
  refine Ord_all [i, j, k] hr (by simp) fun m hm => ?_
  rcases (by simpa using hm : m = i ∨ m = j ∨ m = k) with rfl | rfl | rfl
  · refine OpO_of m hi (Okv_mono ?_ (si none none w σ (fun _ _ _ _ => rfl) h0))
    rintro v w2 ⟨x, rfl, hS, hT⟩
    refine ⟨hS, ?_⟩
    rw [put_some, if_pos hni]
    refine Ord_two (T (some x)) vj vk j k dj dk hj hk hjk hdjk hnj hnk hri hrij hrik hT ?_ ?_ ?_
    · exact fun z w1 σ' hσ h => sj _ _ _ _ (fun s h1 h2 h3 => by rw [hσ s h2 h3, upd_apply, if_neg h1]) h
    · exact fun z w1 σ' hσ h => sk _ _ _ _ (fun s h1 h2 h3 => by rw [hσ s h2 h3, upd_apply, if_neg h1]) h
    · exact fun y z w1 h => hend x y z w1 h
  · refine OpO_of m hj (Okv_mono ?_ (sj none none w σ (fun _ _ _ _ => rfl) h0))
    rintro v w2 ⟨y, rfl, hS, hT⟩
    refine ⟨hS, ?_⟩
    rw [put_some, if_pos hnj]
    refine Ord_two (fun x z => T x (some y) z) vi vk i k di dk hi hk hik hdik hni hnk hrj (by rw [Array.setIfInBounds_comm _ _ (Ne.symm hij)]; exact hrij) hrjk hT ?_ ?_ ?_
    · exact fun z w1 σ' hσ h => si _ _ _ _ (fun s h1 h2 h3 => by rw [hσ s h1 h3, upd_apply, if_neg h2]) h
    · exact fun z w1 σ' hσ h => sk _ _ _ _ (fun s h1 h2 h3 => by rw [hσ s h1 h3, upd_apply, if_neg h2]) h
    · intro x z w1 h
      rw [upd_comm σ (Ne.symm hdij), Array.setIfInBounds_comm _ _ (Ne.symm hij)]
      exact hend x y z w1 h
  · refine OpO_of m hk (Okv_mono ?_ (sk none none w σ (fun _ _ _ _ => rfl) h0))
    rintro v w2 ⟨z, rfl, hS, hT⟩
    refine ⟨hS, ?_⟩
    rw [put_some, if_pos hnk]
    refine Ord_two (fun x y => T x y (some z)) vi vj i j di dj hi hj hij hdij hni hnj hrk (by rw [Array.setIfInBounds_comm _ _ (Ne.symm hik)]; exact hrik) (by rw [Array.setIfInBounds_comm _ _ (Ne.symm hjk)]; exact hrjk) hT ?_ ?_ ?_
    · exact fun z w1 σ' hσ h => si _ _ _ _ (fun s h1 h2 h3 => by rw [hσ s h1 h2, upd_apply, if_neg h3]) h
    · exact fun z w1 σ' hσ h => sj _ _ _ _ (fun s h1 h2 h3 => by rw [hσ s h1 h2, upd_apply, if_neg h3]) h
    · intro x y w1 h
      rw [upd_comm σ (Ne.symm hdik), upd_comm _ (Ne.symm hdjk), Array.setIfInBounds_comm _ _ (Ne.symm hik), Array.setIfInBounds_comm (xs := listed.setIfInBounds i true) _ _ (Ne.symm hjk)]
      exact hend x y z w1 h
/-! Many readers at once. -/
def optL (o : Option Oper) (l : List Oper) : List Oper := match o with
  | some o => o :: l
  | none => l
theorem optL_some (o : Oper) (l : List Oper) : optL (some o) l = o :: l := nr rfl
def opsL (ops : Array Oper) : List Nat → List Oper
  | [] => []
  | i :: r => optL ops[i]? (opsL ops r)
theorem opsL_nil (ops : Array Oper) : opsL ops [] = [] := nr rfl
theorem opsL_cons (ops : Array Oper) (i : Nat) (r : List Nat) : opsL ops (i :: r) = optL ops[i]? (opsL ops r) := nr rfl
def rdB (n : Nat) (ops : Array Oper) : Array Bool → List Nat → Bool
  | _, [] => true
  | L, i :: r => (match ops[i]? with
    | some ⟨some d, _, _, _, _, none⟩ => decide (d < n) && r.all fun j => (ops[j]?).bind (·.dst) != some d
    | _ => false) && Region.free .any ops L i && (Region.ready .any ops L).contains i && rdB n ops (L.setIfInBounds i true) r
def markL (L : Array Bool) (is : List Nat) : Array Bool := is.foldl (fun L i => L.setIfInBounds i true) L
theorem V_keep {τ : Sl} {d : Nat} : ∀ (is : List Nat) (σ : Sl), (is.all fun j => (ops[j]?).bind (·.dst) != some d) = true → V P n w (opsL ops is) σ (fun σ' => σ' = τ) → τ d = σ d
  | [], σ, _, h => by rw [← show σ = τ from h]
  | i :: r, σ, hd, h => by
    rw [List.all_cons, Bool.and_eq_true] at hd
    rw [opsL_cons] at h
    cases ho : ops[i]? with
    | none => rw [ho] at h; exact V_keep r σ hd.2 h
    | some o =>
      rw [ho, optL_some] at h
      obtain ⟨d', op, ty, p, af, g⟩ := o
      rw [V_op] at h
      have h1 := hd.1
      rw [ho] at h1
      have hne : d' ≠ some d := by simpa using h1
      cases hr : run1 P op ty σ w with
      | halt x w' => rw [hr] at h; exact h.elim
      | ok nx w' =>
        rw [hr] at h
        cases nx with
        | value v =>
          rw [V_keep r _ hd.2 h.2]
          cases d' with
          | none => rfl
          | some d' =>
            rw [put_some]
            split
            · rw [upd_apply, if_neg (fun e => hne (by rw [e]))]
            · rfl
        | _ => exact h.elim
theorem Ord_reads (is : List Nat) (f : Nat) {m : Nat} {τ : Sl} (hf : m = f + is.length) (hs : Region.noSelect ops = true) (hB : rdB n ops listed is = true)
    (hQ : ∀ c σ w, ¬ Q (.panic c) σ w) (hS : S w) (hv : ∀ w', S w' → V P n w' (opsL ops is) σ (fun σ' => σ' = τ))
    (h : Ord P n ops Q S f (markL listed is) τ w) : Ord P n ops Q S m listed σ w := by
  subst hf
  induction is generalizing listed σ with
  | nil => have e : σ = τ := hv w hS; rw [e]; exact h
  | cons i r ih =>
    rw [rdB, Bool.and_eq_true, Bool.and_eq_true, Bool.and_eq_true] at hB
    obtain ⟨⟨⟨h1, h2⟩, h3⟩, h4⟩ := hB
    cases ho : ops[i]? with
    | none => rw [ho] at h1; cases h1
    | some o =>
      obtain ⟨d', op, ty, p, af, g⟩ := o
      rw [ho] at h1
      cases d' with
      | none => cases h1
      | some d =>
      cases g with
      | some g => cases h1
      | none =>
      simp only [Bool.and_eq_true, decide_eq_true_eq] at h1
      obtain ⟨hd, hr⟩ := h1
      have key : ∀ w', S w' → run1 P op ty σ w' = .ok (.value (τ d)) w' ∧ V P n w' (opsL ops r) (put n σ (some d) (τ d)) (fun σ' => σ' = τ) := by
        intro w' hw'
        have hv := hv w' hw'
        rw [opsL_cons, ho, optL_some, V_op] at hv
        cases hr1 : run1 P op ty σ w' with
        | halt x w2 => rw [hr1] at hv; exact hv.elim
        | ok nx w2 =>
          rw [hr1] at hv
          cases nx with
          | value v =>
            obtain ⟨rfl, hv⟩ := hv
            have e := V_keep r _ hr hv
            rw [put_some, if_pos hd, upd_same] at e
            rw [e]
            exact ⟨rfl, hv⟩
          | _ => exact hv.elim
      exact Ord_take i ho hs h2 h3 hQ hS (fun w' hw' => (key w' hw').1) (ih h4 (fun w' hw' => (key w' hw').2) h)
/-! Cutting a proof at a place where several ways meet. -/
theorem E_mono {K K' : Sl → World → Prop} (h : ∀ σ w, K σ w → K' σ w) : ∀ (l : List Oper) (σ : Sl) (w : World), E P n ops l σ w K → E P n ops l σ w K'
  | [], σ, w, hE => h _ _ hE
  | ⟨d, op, ty, p, af, none⟩ :: r, σ, w, hE => Okv_mono (fun _ _ hv => E_mono h r _ _ hv) hE
  | ⟨d, op, ty, p, af, some (j, b)⟩ :: r, σ, w, hE => by
    rw [E_opg, GB] at *
    split
    · rename_i hg; rw [if_pos hg] at hE; exact Okv_mono (fun _ _ hv => E_mono h r _ _ hv) hE
    · rename_i hg; rw [if_neg hg] at hE; exact E_mono h r _ _ hE
theorem Raw_mono {Q Q' : Exit → Sl → World → Prop} {c : Code} (h : ∀ e σ w, Q e σ w → Q' e σ w) (hr : Raw P n c Q σ w) : Raw P n c Q' σ w :=
  fun a hf => wp_mono (hr a hf) fun e _ w' ⟨σ', hf', hq⟩ => ⟨σ', hf', h e σ' w' hq⟩
theorem W_mono : ∀ (c : Code) {Q Q' : Exit → Sl → World → Prop} {σ : Sl} {w : World}, (∀ e σ w, Q e σ w → Q' e σ w) → W P n c Q σ w → W P n c Q' σ w := by
  intro c
  induction c with
  | skip => intro Q Q' σ w h hw; exact h _ _ _ hw
  | region id ops draw =>
    intro Q Q' σ w h hw
    cases draw with
    | true => exact Raw_mono h hw
    | false => exact E_mono (fun σ w hk => h _ _ _ hk) _ _ _ hw
  | seq x y ihx ihy =>
    intro Q Q' σ w h hw
    refine ihx (fun e σ' w' hq => ?_) hw
    cases e
    case normal => exact ihy h hq
    all_goals exact h _ _ _ hq
  | cond c x y ihx ihy =>
    intro Q Q' σ w h hw
    rw [W_cond] at *
    generalize ev σ c = v at *
    cases v with
    | bool t => exact ⟨fun ht => ihx h (hw.1 ht), fun ht => ihy h (hw.2 ht)⟩
    | _ => exact hw.elim
  | block id c ih =>
    intro Q Q' σ w h hw
    refine ih (fun e σ' w' hq => ?_) hw
    cases e
    case exit id' =>
      simp only [inX] at *
      split
      · rename_i he; rw [if_pos he] at hq; exact h _ _ _ hq
      · rename_i he; rw [if_neg he] at hq; exact h _ _ _ hq
    all_goals exact h _ _ _ hq
  | exit id => intro Q Q' σ w h hw; exact h _ _ _ hw
  | ret => intro Q Q' σ w h hw; exact h _ _ _ hw
  | goto l => intro Q Q' σ w h hw; exact h _ _ _ hw
  | label l => intro Q Q' σ w h hw; exact h _ _ _ hw
  | _ => intro Q Q' σ w h hw; exact Raw_mono h hw
def cutX (J : Sl → World → Prop) (Q : Exit → Sl → World → Prop) : Exit → Sl → World → Prop
  | .normal, σ, w => J σ w
  | e, σ, w => Q e σ w
theorem cutX_normal {J : Sl → World → Prop} : cutX J Q .normal σ w = J σ w := nr rfl
theorem cutX_ret {J : Sl → World → Prop} : cutX J Q .ret σ w = Q .ret σ w := nr rfl
theorem cutX_exit {J : Sl → World → Prop} {id : Nat} : cutX J Q (.exit id) σ w = Q (.exit id) σ w := nr rfl
@[congr] theorem cutX_congr {J : Sl → World → Prop} {e : Exit} {σ σ' : Sl} {w w' : World} (h : σ = σ') (h' : w = w') : cutX J Q e σ w = cutX J Q e σ' w' := by rw [h, h']
theorem W_cut {c : Code} (J : Sl → World → Prop) (h2 : ∀ σ w, J σ w → Q .normal σ w) (h1 : W P n c (cutX J Q) σ w) : W P n c Q σ w :=
  W_mono c (fun e σ' w' hq => by
    cases e
    case normal => exact h2 _ _ hq
    all_goals exact hq) h1
/-- The same where ways meet at the end and at one exit. -/
def cut2X (id : Nat) (J Je : Sl → World → Prop) (Q : Exit → Sl → World → Prop) : Exit → Sl → World → Prop
  | .normal, σ, w => J σ w
  | .exit id', σ, w => if id' = id then Je σ w else Q (.exit id') σ w
  | e, σ, w => Q e σ w
theorem cut2X_normal {id : Nat} {J Je : Sl → World → Prop} : cut2X id J Je Q .normal σ w = J σ w := nr rfl
theorem cut2X_ret {id : Nat} {J Je : Sl → World → Prop} : cut2X id J Je Q .ret σ w = Q .ret σ w := nr rfl
theorem cut2X_same {id : Nat} {J Je : Sl → World → Prop} : cut2X id J Je Q (.exit id) σ w = Je σ w := if_pos rfl
theorem cut2X_ne {id id' : Nat} {J Je : Sl → World → Prop} (h : id' ≠ id) : cut2X id J Je Q (.exit id') σ w = Q (.exit id') σ w := if_neg h
@[congr] theorem cut2X_congr {id : Nat} {J Je : Sl → World → Prop} {e : Exit} {σ σ' : Sl} {w w' : World} (h : σ = σ') (h' : w = w') : cut2X id J Je Q e σ w = cut2X id J Je Q e σ' w' := by rw [h, h']
theorem W_cut2 {c : Code} (id : Nat) (J Je : Sl → World → Prop) (h1 : ∀ σ w, J σ w → Q .normal σ w) (h2 : ∀ σ w, Je σ w → Q (.exit id) σ w) (h : W P n c (cut2X id J Je Q) σ w) : W P n c Q σ w :=
  W_mono c (fun e σ' w' hq => by
    cases e
    case normal => exact h1 _ _ hq
    case exit id' =>
      simp only [cut2X] at hq
      split at hq
      · rename_i he; subst he; exact h2 _ _ hq
      · exact hq
    all_goals exact hq) h
end
end Go.Proofs.YtcnlopjjejdahaaDoor
/- Rows of cells that are owned and grow; lists of records in a row. No program in sight. -/
namespace Go.Proofs.YtcnlopjjejdahaaDoor
open Go.RowKit
/-- What owns something is a row. -/
theorem owns_row {w : World} {base size n c : Nat} {e : TypeId} {A : Option Addr} {xs : List Value} (h : w.ownsRow base e size (.slice A n c) n xs) (hn : 0 < n) : ∃ g, A = some ⟨g, 0, none⟩ ∧ base ≤ g ∧ Row w g e xs ∧ n ≤ c ∧ c ≤ maxLen := by
  rcases h.2 with ⟨_, h0⟩ | ⟨g, cap, cur, he, hb, hg, hnc, hcm, _, ht⟩
  · omega
  · injection he with h1 h2 h3
    subst h3
    exact ⟨g, h1, hb, ⟨cur, hg, _, by rw [← ht]; exact (List.take_append_drop _ _).symm⟩, hnc, hcm⟩
theorem grown_below {w w' : World} {row : Option Nat} {B : Nat} (h : w.grownBy w' row) (hr : ∀ g, row = some g → B ≤ g) (hB : B ≤ w.heap.size) : Below B w w' :=
  ⟨h.os, h.tape, h.output, h.size, fun k hk => h.block k (Nat.lt_of_lt_of_le hk hB) (fun e => by have := hr k e.symm; omega)⟩
theorem flat_len {α : Type} {enc : α → List Value} {sz : Nat} (he : ∀ x, (enc x).length = sz) : ∀ L : List α, (L.flatMap enc).length = L.length * sz
  | [] => by simp
  | x :: r => by rw [List.flatMap_cons, List.length_append, he, flat_len he r, List.length_cons, Nat.succ_mul]; omega
theorem owns_keep {w w' : World} {base e size n : Nat} {v : Value} {xs : List Value} (h : w.ownsRow base e size v n xs) (hb : ∀ g, v.ownBlock = some g → w'.heap[g]? = w.heap[g]?) : w'.ownsRow base e size v n xs := by
  refine ⟨h.1, ?_⟩
  rcases h.2 with h0 | ⟨g, cap, cur, rfl, h1, h2, h3⟩
  · exact .inl h0
  · exact .inr ⟨g, cap, cur, rfl, h1, (hb g rfl).trans h2, h3⟩
theorem owns_ge {w : World} {base e size n : Nat} {v : Value} {xs : List Value} (h : w.ownsRow base e size v n xs) {g : Nat} (hg : v.ownBlock = some g) : base ≤ g ∧ g < w.heap.size := by
  rcases h.2 with ⟨rfl, _⟩ | ⟨g', cap, cur, rfl, h1, h2, h3⟩
  · cases hg
  · simp only [Value.ownBlock, Option.some.injEq] at hg
    subst hg
    exact ⟨h1, (Array.getElem?_eq_some_iff.1 h2).1⟩
theorem Only.then_below {lo hi : Nat} {a b c : World} (h : Only lo hi a b) (k : Below a.heap.size b c) : Only lo hi a c :=
  ⟨k.os.trans h.os, k.tape.trans h.tape, k.output.trans h.output, Nat.le_trans h.size k.size, fun i hi' hr => (k.block i hi').trans (h.block i hi' hr)⟩
theorem flat_cell {α : Type} {enc : α → List Value} {sz : Nat} (he : ∀ x, (enc x).length = sz) {x : α} {j : Nat} {v : Value} (hv : (enc x)[j]? = some v) :
    ∀ (L : List α) (i : Nat), L[i]? = some x → (L.flatMap enc)[i * sz + j]? = some v
  | [], i, h => by simp at h
  | y :: r, i, h => by
    have hjl : j < sz := by rw [← he x]; exact (List.getElem?_eq_some_iff.1 hv).1
    rw [List.flatMap_cons]
    cases i with
    | zero =>
      simp only [List.getElem?_cons_zero, Option.some.injEq] at h
      subst h
      rw [Nat.zero_mul, Nat.zero_add, List.getElem?_append_left (by rw [he]; exact hjl), hv]
    | succ i =>
      rw [List.getElem?_cons_succ] at h
      rw [List.getElem?_append_right (by rw [he, Nat.succ_mul]; omega), he, show (i + 1) * sz + j - sz = i * sz + j from by rw [Nat.succ_mul]; omega]
      exact flat_cell he hv r i h
theorem flat_set {α : Type} {enc : α → List Value} {sz : Nat} (he : ∀ x, (enc x).length = sz) {x y : α} {j : Nat} {v : Value} (hj : j < sz) (hy : (enc x).set j v = enc y) :
    ∀ (L : List α) (i : Nat), L[i]? = some x → (L.flatMap enc).set (i * sz + j) v = (L.set i y).flatMap enc
  | [], i, h => by simp at h
  | z :: r, i, h => by
    cases i with
    | zero =>
      simp only [List.getElem?_cons_zero, Option.some.injEq] at h
      subst h
      rw [List.flatMap_cons, Nat.zero_mul, Nat.zero_add, List.set_append_left _ _ (by rw [he]; exact hj), hy]; rfl
    | succ i =>
      rw [List.getElem?_cons_succ] at h
      rw [List.flatMap_cons, List.set_append_right _ _ (by rw [he, Nat.succ_mul]; omega), he, show (i + 1) * sz + j - sz = i * sz + j from by rw [Nat.succ_mul]; omega, flat_set he hj hy r i h]; rfl
theorem make_row (w : World) (z : List Value) (n : Nat) (T : TypeId) (hz : 0 < z.length) : Row (w.alloc (.cells (madeCells z.toArray (n * z.length)) T)) w.heap.size T ((List.replicate n z).flatten) :=
  ⟨_, heap_alloc_new w _, [], by rw [madeCells_flat _ _ hz, List.append_nil]⟩
theorem rep_snoc (k : Nat) (v : Value) : List.replicate (k + 1) v = List.replicate k v ++ [v] := by
  rw [List.replicate_succ']
section
variable {P : Program} {w w' : World} {base e sz n c : Nat} {A : Option Addr} {xs news : List Value}
theorem owns_nil (w : World) (base e sz : Nat) : w.ownsRow base e sz (.slice none 0 0) 0 [] := ⟨by simp, .inl ⟨rfl, rfl⟩⟩
theorem owns_only {lo hi : Nat} {v : Value} (h : w.ownsRow base e sz v n xs) (ho : Only lo hi w w') (hr : hi ≤ base) : w'.ownsRow base e sz v n xs :=
  owns_keep h fun g hg => by
    obtain ⟨h1, h2⟩ := owns_ge h hg
    exact ho.block g h2 (.inr (by omega))
theorem owns_below {v : Value} (h : w.ownsRow base e sz v n xs) (hb : Below w.heap.size w w') : w'.ownsRow base e sz v n xs :=
  owns_keep h fun g hg => hb.block g (owns_ge h hg).2
theorem push1 {T ty bytes : Nat} (h : w.ownsRow base e sz (.slice A n c) n xs) (hb : base ≤ w.heap.size) (hI : sliceI P T = some (e, sz, bytes)) (hn : news.length = sz) (h1 : ∀ u ∈ news, u.oneCell' = true)
    (h63 : n + 1 ≤ 1000000000) (hby : bytes ≤ 10000) :
    ∃ A' c' w2, vAppend P T T ty (.slice A n c) (.slice (some ⟨w.heap.size, 0, none⟩) 1 1) (w.alloc (.cells news.toArray e)) = .ok (.value (.slice A' (n + 1) c')) w2 ∧
      w2.ownsRow base e sz (.slice A' (n + 1) c') (n + 1) (xs ++ news) ∧ Below base w w2 ∧ w.heap.size ≤ w2.heap.size := by
  have hba := below_alloc w (.cells news.toArray e)
  obtain ⟨A', c', w2, he, ho, hg', hbk⟩ := vAppend_own (P := P) (ty := ty) (m := 1) (c := 1) (b := w.heap.size) (o := 0) (news := news) hI (owns_below h hba) (by rw [hn, Nat.one_mul])
    (fun j u hu => by rw [Nat.zero_add, (new_block w news.toArray e).1 j]; simpa using hu) h1 h63 hby (by rw [World.size_alloc]; omega)
  have hgrow : Below base (w.alloc (.cells news.toArray e)) w2 := grown_below hg' (fun g hg => (owns_ge h hg).1) (by rw [World.size_alloc]; omega)
  have hB := (hba.mono hb).trans hgrow
  exact ⟨A', c', w2, he, ho, hB, hB.size⟩
end
end Go.Proofs.YtcnlopjjejdahaaDoor
/- Contracts of Go's library, laid by the kit's tools over this translation (wip/shelf.py keeps those that are used). -/
namespace Go.Proofs
open Go.Shelf
def Tryd.lays169_ren : Go.Shelf.Ren := ⟨fun | 169 => 49 | n => n, fun | 70 => 76 | 9 => 9 | 0 => 0 | 72 => 79 | 37 => 77 | 127 => 107 | 3 => 3 | 5 => 5 | n => n, fun | n => n⟩
theorem Tryd.lays169 : Go.Proofs.Lays.n169 Tryd.prog Tryd.lays169_ren := {
  mixed := by kernel_rfl
  f169 := Tryd.func49.trans (congrArg some (by kernel_rfl))
  t0 := Tryd.underlying0
  a0 := Tryd.isAgg0
  z0 := Tryd.sizeOf0
  v0 := Tryd.zeroValue0
  t3 := Tryd.underlying3
  a3 := Tryd.isAgg3
  z3 := Tryd.sizeOf3
  v3 := Tryd.zeroValue3
  t9 := Tryd.underlying9
  a9 := Tryd.isAgg9
  z9 := Tryd.sizeOf9
  v9 := Tryd.zeroValue9
  t37 := Tryd.underlying77
  a37 := Tryd.isAgg77
  z37 := Tryd.sizeOf77
  v37 := Tryd.zeroValue77
  t70 := Tryd.underlying76
  a70 := Tryd.isAgg76
  z70 := Tryd.sizeOf76
  v70 := Tryd.zeroValue76
  t72 := Tryd.underlying79
  a72 := Tryd.isAgg79
  z72 := Tryd.sizeOf79
  v72 := Tryd.zeroValue79
  t127 := Tryd.underlying107
  a127 := Tryd.isAgg107
  z127 := Tryd.sizeOf107
  v127 := Tryd.zeroValue107 }
theorem Tryd.Builder_Extra_169 : Builder.Extra Tryd.prog Tryd.lays169_ren := {
  sizeBuilder := by kernel_rfl
  liesBuilder := by kernel_rfl
  t5 := Tryd.underlying5
  a5 := Tryd.isAgg5
  z5 := Tryd.sizeOf5
  v5 := Tryd.zeroValue5
  infoByte := by kernel_rfl
  cellsByte := by kernel_rfl
  sizeByte := by kernel_rfl
  neB5 := by decide }
open Go.RowKit in
/-- (*strings.Builder).String: "String returns the accumulated string.": WHATEVER THE BUILDER HOLDS. (LAID: no walk: one application.) -/
theorem Tryd.Builder_String_any (B b : Nat) (l : List UInt8) (w : World) (h : Lib.IsBuilder 79 5 B b (Lib.byteCells l) w) (hBw : B ≤ w.heap.size) :
    Calls Tryd.prog 49 #[.pointer (some ⟨b, 0, none⟩)] w fun e w' => e = .returned (.string ⟨l.toArray⟩) ∧ Below B w w' := Any.Builder_String_any Tryd.lays169 Tryd.Builder_Extra_169 B b l w h hBw
def Tryd.laysM171_ren : Go.Shelf.Ren := ⟨fun | 171 => 79 | 243 => 106 | 246 => 115 | 283 => 118 | 284 => 119 | 285 => 120 | 286 => 121 | 129 => 123 | 317 => 122 | 318 => 124 | 319 => 125 | 320 => 126 | 337 => 127 | 338 => 128 | n => n, fun | 3 => 3 | 9 => 9 | 2 => 2 | 4 => 4 | 171 => 129 | 0 => 0 | 53 => 36 | 37 => 77 | 5 => 5 | 173 => 132 | 212 => 135 | 51 => 126 | 20 => 20 | 213 => 136 | 46 => 96 | 232 => 139 | 233 => 140 | n => n, fun | 17 => 2 | 18 => 3 | 19 => 4 | n => n⟩
theorem Tryd.laysM171 : Go.Proofs.LaysM.n171 Tryd.prog Tryd.laysM171_ren := {
  mixed := by kernel_rfl
  f129 := Tryd.func123.trans (congrArg some (by kernel_rfl))
  f171 := Tryd.func79.trans (congrArg some (by kernel_rfl))
  f243 := Tryd.func106.trans (congrArg some (by kernel_rfl))
  f246 := Tryd.func115.trans (congrArg some (by kernel_rfl))
  f283 := Tryd.func118.trans (congrArg some (by kernel_rfl))
  f284 := Tryd.func119.trans (congrArg some (by kernel_rfl))
  f285 := Tryd.func120.trans (congrArg some (by kernel_rfl))
  f286 := Tryd.func121.trans (congrArg some (by kernel_rfl))
  f317 := Tryd.func122.trans (congrArg some (by kernel_rfl))
  f318 := Tryd.func124.trans (congrArg some (by kernel_rfl))
  f319 := Tryd.func125.trans (congrArg some (by kernel_rfl))
  f320 := Tryd.func126.trans (congrArg some (by kernel_rfl))
  f337 := Tryd.func127.trans (congrArg some (by kernel_rfl))
  f338 := Tryd.func128.trans (congrArg some (by kernel_rfl))
  t0 := Tryd.underlying0
  a0 := Tryd.isAgg0
  z0 := Tryd.sizeOf0
  v0 := Tryd.zeroValue0
  t2 := Tryd.underlying2
  a2 := Tryd.isAgg2
  z2 := Tryd.sizeOf2
  v2 := Tryd.zeroValue2
  t3 := Tryd.underlying3
  a3 := Tryd.isAgg3
  z3 := Tryd.sizeOf3
  v3 := Tryd.zeroValue3
  t4 := Tryd.underlying4
  a4 := Tryd.isAgg4
  z4 := Tryd.sizeOf4
  v4 := Tryd.zeroValue4
  t5 := Tryd.underlying5
  a5 := Tryd.isAgg5
  z5 := Tryd.sizeOf5
  v5 := Tryd.zeroValue5
  t9 := Tryd.underlying9
  a9 := Tryd.isAgg9
  z9 := Tryd.sizeOf9
  v9 := Tryd.zeroValue9
  t20 := Tryd.underlying20
  a20 := Tryd.isAgg20
  z20 := Tryd.sizeOf20
  v20 := Tryd.zeroValue20
  t37 := Tryd.underlying77
  a37 := Tryd.isAgg77
  z37 := Tryd.sizeOf77
  v37 := Tryd.zeroValue77
  t46 := Tryd.underlying96
  a46 := Tryd.isAgg96
  z46 := Tryd.sizeOf96
  v46 := Tryd.zeroValue96
  t51 := Tryd.underlying126
  a51 := Tryd.isAgg126
  z51 := Tryd.sizeOf126
  v51 := Tryd.zeroValue126
  t53 := Tryd.underlying36
  a53 := Tryd.isAgg36
  z53 := Tryd.sizeOf36
  v53 := Tryd.zeroValue36
  t171 := Tryd.underlying129
  a171 := Tryd.isAgg129
  z171 := Tryd.sizeOf129
  v171 := Tryd.zeroValue129
  t173 := Tryd.underlying132
  a173 := Tryd.isAgg132
  z173 := Tryd.sizeOf132
  v173 := Tryd.zeroValue132
  t212 := Tryd.underlying135
  a212 := Tryd.isAgg135
  z212 := Tryd.sizeOf135
  v212 := Tryd.zeroValue135
  t213 := Tryd.underlying136
  a213 := Tryd.isAgg136
  z213 := Tryd.sizeOf136
  t232 := Tryd.underlying139
  a232 := Tryd.isAgg139
  z232 := Tryd.sizeOf139
  v232 := Tryd.zeroValue139
  t233 := Tryd.underlying140
  a233 := Tryd.isAgg140
  z233 := Tryd.sizeOf140
  v233 := Tryd.zeroValue140
  g17 := by kernel_rfl
  g18 := by kernel_rfl
  g19 := by kernel_rfl
  i0 := by kernel_rfl
  i2 := by kernel_rfl
  i3 := by kernel_rfl
  i4 := by kernel_rfl
  i5 := by kernel_rfl
  i9 := by kernel_rfl
  i20 := by kernel_rfl
  i37 := by kernel_rfl
  i46 := by kernel_rfl
  i51 := by kernel_rfl
  i53 := by kernel_rfl
  i171 := by kernel_rfl
  i173 := by kernel_rfl
  i212 := by kernel_rfl
  i232 := by kernel_rfl
  i233 := by kernel_rfl
  m17 := by kernel_rfl
  m18 := by kernel_rfl
  m19 := by kernel_rfl }
open Go.RowKit Go.Sort Go.Lib in
/-- strconv.Itoa: "Itoa is equivalent to FormatInt(int64(i), 10).": i's DECIMAL NUMERAL ('Lib.itoa': a '-' where i is negative, then the digits), FOR EVERY int. The world behind the call: the world before it, new blocks behind the heap (the library's 'var a [24]byte'), draws. (LAID: no walk: one application.) -/
theorem Tryd.strconv_Itoa (n : Int) (h0 : -9223372036854775808 ≤ n) (h1 : n ≤ 9223372036854775807) (w : World) (htab : Lib.TabIs Tryd.prog w "internal/strconv.uint64pow10" .u64 Lib.pow10Tab) :
    Calls Tryd.prog 79 #[.int .i64 n] w fun e w' => e = .returned (.string ⟨(Lib.itoa n).toArray⟩) ∧ ∃ k os, w' = grow (w.drewN k) os := Any.strconv_Itoa Tryd.laysM171 n h0 h1 w htab
def Tryd.lays138_ren : Go.Shelf.Ren := ⟨fun | 138 => 36 | 195 => 66 | 218 => 67 | 143 => 68 | 219 => 96 | 217 => 110 | 225 => 111 | 224 => 112 | 267 => 113 | 266 => 116 | 314 => 117 | n => n, fun | 9 => 9 | 3 => 3 | 4 => 4 | 5 => 5 | 0 => 0 | 46 => 96 | 146 => 127 | 51 => 126 | n => n, fun | 1 => 1 | n => n⟩
theorem Tryd.lays138 : Go.Proofs.Lays.n138 Tryd.prog Tryd.lays138_ren := {
  mixed := by kernel_rfl
  f138 := Tryd.func36.trans (congrArg some (by kernel_rfl))
  f143 := Tryd.func68.trans (congrArg some (by kernel_rfl))
  f195 := Tryd.func66.trans (congrArg some (by kernel_rfl))
  f217 := Tryd.func110.trans (congrArg some (by kernel_rfl))
  f218 := Tryd.func67.trans (congrArg some (by kernel_rfl))
  f219 := Tryd.func96.trans (congrArg some (by kernel_rfl))
  f224 := Tryd.func112.trans (congrArg some (by kernel_rfl))
  f225 := Tryd.func111.trans (congrArg some (by kernel_rfl))
  f266 := Tryd.func116.trans (congrArg some (by kernel_rfl))
  f267 := Tryd.func113.trans (congrArg some (by kernel_rfl))
  f314 := Tryd.func117.trans (congrArg some (by kernel_rfl))
  t0 := Tryd.underlying0
  a0 := Tryd.isAgg0
  z0 := Tryd.sizeOf0
  v0 := Tryd.zeroValue0
  t3 := Tryd.underlying3
  a3 := Tryd.isAgg3
  z3 := Tryd.sizeOf3
  v3 := Tryd.zeroValue3
  t4 := Tryd.underlying4
  a4 := Tryd.isAgg4
  z4 := Tryd.sizeOf4
  v4 := Tryd.zeroValue4
  t5 := Tryd.underlying5
  a5 := Tryd.isAgg5
  z5 := Tryd.sizeOf5
  v5 := Tryd.zeroValue5
  t9 := Tryd.underlying9
  a9 := Tryd.isAgg9
  z9 := Tryd.sizeOf9
  v9 := Tryd.zeroValue9
  t46 := Tryd.underlying96
  a46 := Tryd.isAgg96
  z46 := Tryd.sizeOf96
  v46 := Tryd.zeroValue96
  t51 := Tryd.underlying126
  a51 := Tryd.isAgg126
  z51 := Tryd.sizeOf126
  v51 := Tryd.zeroValue126
  t146 := Tryd.underlying127
  a146 := Tryd.isAgg127
  z146 := Tryd.sizeOf127
  v146 := Tryd.zeroValue127
  g1 := by kernel_rfl }
open Go.RowKit Go.Lib in
/-- strings.Count AT A substr OF ONE BYTE ('hp'): "Count counts the number of non-overlapping instances of substr in s.": IT RETURNS 'Lib.countByte s (that byte)'; the world is as it was. ✋ NO CONTRACT HERE YET at an empty substr (utf8.RuneCountInString) or at a longer one (a loop over strings.Index). (LAID: no walk: one application.) -/
theorem Tryd.strings_Count_one (s : ByteArray) (c : UInt8) (w : World) :
    Calls Tryd.prog 36 #[.string s, .string ⟨#[c]⟩] w fun e w' => e = .returned (.int .i64 (Lib.countByte s.data.toList c)) ∧ w' = w := Any.strings_Count_one Tryd.lays138 s c w
def Tryd.lays149_ren : Go.Shelf.Ren := ⟨fun | 149 => 65 | 222 => 95 | n => n, fun | 9 => 9 | 5 => 5 | 3 => 3 | 4 => 4 | n => n, fun | n => n⟩
theorem Tryd.lays149 : Go.Proofs.Lays.n149 Tryd.prog Tryd.lays149_ren := {
  mixed := by kernel_rfl
  f149 := Tryd.func65.trans (congrArg some (by kernel_rfl))
  f222 := Tryd.func95.trans (congrArg some (by kernel_rfl))
  t3 := Tryd.underlying3
  a3 := Tryd.isAgg3
  z3 := Tryd.sizeOf3
  v3 := Tryd.zeroValue3
  t4 := Tryd.underlying4
  a4 := Tryd.isAgg4
  z4 := Tryd.sizeOf4
  v4 := Tryd.zeroValue4
  t5 := Tryd.underlying5
  a5 := Tryd.isAgg5
  z5 := Tryd.sizeOf5
  v5 := Tryd.zeroValue5
  t9 := Tryd.underlying9
  a9 := Tryd.isAgg9
  z9 := Tryd.sizeOf9
  v9 := Tryd.zeroValue9 }
open Go.RowKit Go.Lib in
/-- strings.LastIndexByte: "LastIndexByte returns the index of the last instance of c in s, or -1 if c is not present in s." (LAID: no walk: one application.) -/
theorem Tryd.strings_LastIndexByte (s : ByteArray) (c : Int) (hs : s.size < 4611686018427387904) (w : World) :
    Calls Tryd.prog 65 #[.string s, .int .u8 c] w fun e w' => e = .returned (.int .i64 (Lib.lastIndexByte s c)) ∧ w' = w := Any.strings_LastIndexByte Tryd.lays149 s c hs w

end Go.Proofs
/- Walks: strings.Builder: copyCheck, WriteByte, WriteString. -/
namespace Go.Proofs.YtcnlopjjejdahaaDoor
open Go.RowKit
set_option maxRecDepth 100000
/-- What is neither the builder's block nor a row of bytes stays. -/
def Keeps (b : Nat) (w w' : World) : Prop := ∀ (k : Nat) (o : Obj), k ≠ b → w.heap[k]? = some o → (∀ cs f, o ≠ .cells cs 5 f) → w'.heap[k]? = some o
theorem Keeps.refl (b : Nat) (w : World) : Keeps b w w := fun _ _ _ h _ => h
theorem Keeps.trans {b : Nat} {x y z : World} (h : Keeps b x y) (k : Keeps b y z) : Keeps b x z := fun i o hi ho hn => k i o hi (h i o hi ho hn) hn
theorem Keeps.setCell (b o : Nat) (v : Value) (w : World) : Keeps b w (w.setCell ⟨b, o, none⟩ v) := fun k _ hk ho _ => (Below.heap_setCell w ⟨b, o, none⟩ v k hk).trans ho
theorem Keeps.alloc (b : Nat) (w : World) (ob : Obj) : Keeps b w (w.alloc ob) := fun k _ _ ho _ => ((below_alloc w ob).block k (Array.getElem?_eq_some_iff.1 ho).1).trans ho
theorem Keeps.grown {b B n : Nat} {v : Value} {xs : List Value} {w w' : World} (ho : w.ownsRow B 5 1 v n xs) (hg : w.grownBy w' v.ownBlock) : Keeps b w w' := fun k o _ hk hn => by
  refine (hg.block k (Array.getElem?_eq_some_iff.1 hk).1 (fun e => ?_)).trans hk
  rcases ho.2 with ⟨rfl, _⟩ | ⟨g, cap, cur, rfl, _, hh, _⟩
  · cases e
  · simp only [Value.ownBlock, Option.some.injEq] at e
    subst e
    rw [hk] at hh
    injection hh with hh
    exact hn _ _ hh
theorem copyCheck_any (B b : Nat) (l : List Value) (w : World) (h : Lib.IsBuilder 79 5 B b l w) :
    Calls Tryd.prog 78 #[.pointer (some ⟨b, 0, none⟩)] w fun e w' => e = .returned (.tuple #[]) ∧ Lib.BuilderAt 79 5 B b (.pointer (some ⟨b, 0, none⟩)) l w' ∧ Below B w w' ∧ Keeps b w w' := by
  refine calls_W (l := [_]) Tryd.func78 rfl _ Tryd.ntmps78 (by simp) ?_
  obtain ⟨j, hj, hjs⟩ := Option.map_eq_some_iff.1 (show (Tryd.prog.info? 79).map (·.size) = some 2 by kernel_rfl)
  have ne : ∀ (x y : Operand) (w : World), vBin Tryd.prog .neq 76 x y (.pointer (some ⟨b, 0, none⟩)) (.pointer (some ⟨b, 0, none⟩)) w = .ok (.value (.bool false)) w := fun x y w => by
    simp only [vBin, eqGuard]
    simp [Lib.run_neq_ptr_same w _ Tryd.underlying76 hj]
  rcases h with h | h
  · have c0 := h.cell0
    have z0 := h.frozen0
    have cs : (w.setCell ⟨b, 0, none⟩ (.pointer (some ⟨b, 0, none⟩))).cell? ⟨b, 0, none⟩ = some (.pointer (some ⟨b, 0, none⟩)) := by rw [cS_same, c0]; rfl
    have cv1 : vConvert Tryd.prog 76 121 (.pointer (some ⟨b, 0, none⟩)) w = .ok (.value (.pointer (some ⟨b, 0, none⟩))) w := by
      simp [vConvert, Lib.run_to_unsafe w ⟨b, 0, none⟩ Tryd.underlying76 Tryd.underlying121 hj (by rw [hjs]; decide) h.shape (Nat.zero_lt_succ 1)]
    have cv2 : vConvert Tryd.prog 121 76 (.pointer (some ⟨b, 0, none⟩)) w = .ok (.value (.pointer (some ⟨b, 0, none⟩))) w := by
      simp [vConvert, Lib.run_from_unsafe w ⟨b, 0, none⟩ Tryd.underlying121 Tryd.underlying76 hj h.shape (by kernel_rfl)]
    have cl : vCall Tryd.prog 105 #[.pointer (some ⟨b, 0, none⟩)] w = .ok (.value (.pointer (some ⟨b, 0, none⟩))) w := by
      unfold vCall
      rw [run_callFunc_extern Tryd.func105 (by kernel_rfl) (by kernel_rfl) (by kernel_rfl) (e := Extern.AbiNoEscape.same) (by kernel_rfl), Lib.run_noEscape]
      rfl
    rw [vCall_at] at cl
    simp +contextual (maxSteps := 2000000) (disch := (first | omega | (simp only [SZ]; done) | (simp only [SZ]; omega) | (simp only [TS] at *; omega))) only [RZ, gval, gslot, fillL, ovw, numb, catL, ldN, agL, okC, oneC, init, Nat.reduceAdd, Nat.reduceMul, Nat.reduceSub, Nat.reduceEqDiff, Nat.reduceLT, ↓reduceIte, Int.reduceToNat, Int.reduceAdd, Int.reduceSub, Int.reduceMul, Int.reduceLT, Int.reduceLE, Int.reduceEq, Nat.reduceLeDiff,  c0]
    refine W_if_t rfl ?_
    simp +contextual (maxSteps := 2000000) (disch := (first | omega | (simp only [SZ]; done) | (simp only [SZ]; omega) | (simp only [TS] at *; omega))) only [RZ, gval, gslot, fillL, ovw, numb, catL, ldN, agL, okC, oneC, init, Nat.reduceAdd, Nat.reduceMul, Nat.reduceSub, Nat.reduceEqDiff, Nat.reduceLT, ↓reduceIte, Int.reduceToNat, Int.reduceAdd, Int.reduceSub, Int.reduceMul, Int.reduceLT, Int.reduceLE, Int.reduceEq, Nat.reduceLeDiff,  c0, z0, cv1, cv2, cl, cs, ne]
    exact ⟨h.used _, (Below.refl B w).setCell (p := ⟨b, 0, none⟩) h.1 _, Keeps.setCell _ _ _ _⟩
  · have c0 := h.cell0
    simp +contextual (maxSteps := 2000000) (disch := (first | omega | (simp only [SZ]; done) | (simp only [SZ]; omega) | (simp only [TS] at *; omega))) only [RZ, gval, gslot, fillL, ovw, numb, catL, ldN, agL, okC, oneC, init, Nat.reduceAdd, Nat.reduceMul, Nat.reduceSub, Nat.reduceEqDiff, Nat.reduceLT, ↓reduceIte, Int.reduceToNat, Int.reduceAdd, Int.reduceSub, Int.reduceMul, Int.reduceLT, Int.reduceLE, Int.reduceEq, Nat.reduceLeDiff,  c0]
    refine W_if_f rfl ?_
    simp +contextual (maxSteps := 2000000) (disch := (first | omega | (simp only [SZ]; done) | (simp only [SZ]; omega) | (simp only [TS] at *; omega))) only [RZ, gval, gslot, fillL, ovw, numb, catL, ldN, agL, okC, oneC, init, Nat.reduceAdd, Nat.reduceMul, Nat.reduceSub, Nat.reduceEqDiff, Nat.reduceLT, ↓reduceIte, Int.reduceToNat, Int.reduceAdd, Int.reduceSub, Int.reduceMul, Int.reduceLT, Int.reduceLE, Int.reduceEq, Nat.reduceLeDiff,  c0, ne]
    refine W_if_f rfl ?_
    simp +contextual (maxSteps := 2000000) (disch := (first | omega | (simp only [SZ]; done) | (simp only [SZ]; omega) | (simp only [TS] at *; omega))) only [RZ, gval, gslot, fillL, ovw, numb, catL, ldN, agL, okC, oneC, init, Nat.reduceAdd, Nat.reduceMul, Nat.reduceSub, Nat.reduceEqDiff, Nat.reduceLT, ↓reduceIte, Int.reduceToNat, Int.reduceAdd, Int.reduceSub, Int.reduceMul, Int.reduceLT, Int.reduceLE, Int.reduceEq, Nat.reduceLeDiff]
    exact ⟨h, Below.refl B _, Keeps.refl _ _⟩
theorem writeString_any (B b : Nat) (l : List Value) (s : ByteArray) (w : World) (h : Lib.IsBuilder 79 5 B b l w) (hlen : l.length + s.size ≤ 1000000000) (hBw : B ≤ w.heap.size) :
    Calls Tryd.prog 47 #[.pointer (some ⟨b, 0, none⟩), .string s] w fun e w' => e = .returned (.tuple #[.int .i64 s.size, .nilIface]) ∧ Lib.IsBuilder 79 5 B b (l ++ Lib.strCells s) w' ∧ Below B w w' ∧ Keeps b w w' := by
  refine calls_W (l := [_, _]) Tryd.func47 rfl _ Tryd.ntmps47 (by simp) ?_
  simp +contextual (maxSteps := 2000000) (disch := (first | omega | (simp only [SZ]; done) | (simp only [SZ]; omega) | (simp only [TS] at *; omega))) only [RZ, gval, gslot, fillL, ovw, numb, catL, ldN, agL, okC, oneC, init, Nat.reduceAdd, Nat.reduceMul, Nat.reduceSub, Nat.reduceEqDiff, Nat.reduceLT, ↓reduceIte, Int.reduceToNat, Int.reduceAdd, Int.reduceSub, Int.reduceMul, Int.reduceLT, Int.reduceLE, Int.reduceEq, Nat.reduceLeDiff]
  refine (copyCheck_any B b l w h).mono ?_
  rintro e w1 ⟨rfl, ⟨hB, v, hbk, hown, hne⟩, hb1, hkp⟩
  refine ⟨_, rfl, ?_⟩
  obtain ⟨i0, hi, hz0, hz1, hz2⟩ := info_parts (show (Tryd.prog.info? 5).map (fun i => (i.zero, i.size, i.bytes)) = some (some (.int .u8 0), 1, 1) by kernel_rfl)
  obtain ⟨A, n, cp, rfl, rfl⟩ : ∃ A n cp, v = .slice A n cp ∧ n = l.length := by
    rcases hown.2 with ⟨hv, h0⟩ | ⟨g, cap, cur, hv, _⟩
    · exact ⟨none, 0, 0, hv, h0.symm⟩
    · exact ⟨_, _, _, hv, rfl⟩
  have c1 : w1.cell? ⟨b, 1, none⟩ = some (.slice A l.length cp) := by rw [Lib.cell_of_heap hbk]; rfl
  have hsz := hb1.size
  obtain ⟨v', w2, he0, hown2, hg2, _⟩ := Lib.run_append_own_string (P := Tryd.prog) (w := w1) B 77 9 77 5 i0 Tryd.underlying77 Tryd.underlying9 hi hz0 hz1 hz2 (.slice A l.length cp) l.length l hown s (by unfold maxLen; omega) (by omega) (by omega)
  have he : vAppend Tryd.prog 77 9 77 (.slice A l.length cp) (.string s) w1 = .ok (.value v') w2 := by simp [vAppend, he0]
  obtain ⟨A', n', c', rfl⟩ : ∃ A n cp, v' = .slice A n cp := by
    rcases hown2.2 with ⟨hv, _⟩ | ⟨g, cap, cur, hv, _⟩
    · exact ⟨_, _, _, hv⟩
    · exact ⟨_, _, _, hv⟩
  have hlt : b < w1.heap.size := by
    rcases Nat.lt_or_ge b w1.heap.size with h' | h'
    · exact h'
    · simp [Array.getElem?_eq_none h'] at hbk
  have hb2 : w2.heap[b]? = some (.cells #[.pointer (some ⟨b, 0, none⟩), .slice A l.length cp] 79 (0, 0)) := by
    rw [hg2.block b hlt (fun e => hne e.symm)]
    exact hbk
  have d1 : w2.cell? ⟨b, 1, none⟩ = some (.slice A l.length cp) := by rw [Lib.cell_of_heap hb2]; rfl
  have f1 : w2.frozen? ⟨b, 1, none⟩ = false := Lib.frozen_of_heap hb2 1
  simp +contextual (maxSteps := 2000000) (disch := (first | omega | (simp only [SZ]; done) | (simp only [SZ]; omega) | (simp only [TS] at *; omega))) only [RZ, gval, gslot, fillL, ovw, numb, catL, ldN, agL, okC, oneC, init, Nat.reduceAdd, Nat.reduceMul, Nat.reduceSub, Nat.reduceEqDiff, Nat.reduceLT, ↓reduceIte, Int.reduceToNat, Int.reduceAdd, Int.reduceSub, Int.reduceMul, Int.reduceLT, Int.reduceLE, Int.reduceEq, Nat.reduceLeDiff,  c1, he, d1, f1]
  exact ⟨.inr (Lib.BuilderAt.put (T := 79) (e := 5) hB hb2 (bs' := l ++ Lib.strCells s) (by simpa [Lib.strCells_length] using hown2) (by decide)),
    (hb1.grown hg2 (by omega) (fun k hk => (hown.lt k hk).1)).setCell (p := ⟨b, 1, none⟩) hB _,
    (hkp.trans (Keeps.grown hown hg2)).trans (Keeps.setCell _ _ _ _)⟩
theorem isB_below {B b : Nat} {l : List Value} {w w' : World} (h : Lib.IsBuilder 79 5 B b l w) (hb : Below w.heap.size w w') : Lib.IsBuilder 79 5 B b l w' := by
  have key : ∀ p, Lib.BuilderAt 79 5 B b p l w → Lib.BuilderAt 79 5 B b p l w' := by
    rintro p ⟨hB, v, hbk, hown, hne⟩
    have hlt : b < w.heap.size := (Array.getElem?_eq_some_iff.1 hbk).1
    exact ⟨hB, v, (hb.block b hlt).trans hbk, owns_below hown hb, hne⟩
  exact h.elim (fun h => .inl (key _ h)) (fun h => .inr (key _ h))
end Go.Proofs.YtcnlopjjejdahaaDoor
/- Plain: numbers, digits of sixteen and quoted texts are read as they were written. No program in sight. -/
namespace Go.Proofs.YtcnlopjjejdahaaDoor
theorem bs_toBA {l : List Nat} (h : ∀ c ∈ l, c < 256) : bs (toBA l) = l := by
  unfold bs toBA
  simp only [List.map_map]
  conv => rhs; rw [← List.map_id l]
  refine List.map_congr_left fun c hc => ?_
  have := h c hc
  simp only [Function.comp, id]
  simp only [UInt8.toNat_ofNat']
  omega
theorem toBA_bs (s : ByteArray) : toBA (bs s) = s := bs_inj (bs_toBA (bs_lt s))
/-! Digits of sixteen. -/
theorem hexv_d {d : Nat} (h : d < 16) : hexv (hexd d) = some d := by
  unfold hexv hexd
  by_cases h1 : d < 10
  · rw [if_pos h1, if_pos (by omega)]
    congr 1
    omega
  · rw [if_neg h1, if_neg (by omega), if_pos (by omega)]
    congr 1
    omega
theorem hexd_bd {d : Nat} (h : d < 16) : (48 ≤ hexd d ∧ hexd d ≤ 57) ∨ (97 ≤ hexd d ∧ hexd d ≤ 102) := by unfold hexd; split <;> omega
theorem hexT_len : ∀ (k x : Nat), (hexT k x).length = k
  | 0, _ => rfl
  | k + 1, x => by rw [hexT, List.length_cons, hexT_len k x]
theorem hexT_all : ∀ (k x : Nat), ∀ c ∈ hexT k x, (48 ≤ c ∧ c ≤ 57) ∨ (97 ≤ c ∧ c ≤ 102)
  | 0, _, c, h => by simp [hexT] at h
  | k + 1, x, c, h => by
    rw [hexT, List.mem_cons] at h
    rcases h with rfl | h
    · exact hexd_bd (Nat.mod_lt _ (by decide))
    · exact hexT_all k x c h
theorem hexV_T : ∀ (k acc x : Nat), hexV acc (hexT k x) = some (acc * 16 ^ k + x % 16 ^ k)
  | 0, acc, x => by simp [hexT, hexV, Nat.mod_one]
  | k + 1, acc, x => by
    rw [hexT, hexV, hexv_d (Nat.mod_lt _ (by decide))]
    simp only
    rw [hexV_T k]
    congr 1
    have e : x % 16 ^ (k + 1) = 16 ^ k * (x / 16 ^ k % 16) + x % 16 ^ k := by
      rw [Nat.pow_succ, Nat.mod_mul]; omega
    rw [e, Nat.pow_succ, Nat.add_mul, ← Nat.mul_assoc]
    have : acc * 16 * 16 ^ k = acc * 16 ^ k * 16 := by rw [Nat.mul_assoc, Nat.mul_comm 16, Nat.mul_assoc]
    rw [this]
    have h2 : x / 16 ^ k % 16 * 16 ^ k = 16 ^ k * (x / 16 ^ k % 16) := Nat.mul_comm ..
    omega
theorem hexE_T {x : Nat} (h : x < 18446744073709551616) : hexE (hexT 16 x) = some x := by
  unfold hexE
  rw [if_pos (hexT_len _ _), hexV_T]
  congr 1
  rw [Nat.mod_eq_of_lt (by simpa using h)]
  omega
/-! Texts in quotes. -/
theorem plain_bd {c : Nat} (h : plainB c = true) : 32 ≤ c ∧ c ≤ 126 ∧ c ≠ 34 ∧ c ≠ 92 := by
  unfold plainB at h
  simp at h
  omega
theorem escS_self {c : Nat} (r : List Nat) (h : c = 34 ∨ c = 92) : escS (c :: r) = some (c, 1) := by unfold escS; exact if_pos h
theorem escS_n (r : List Nat) : escS (110 :: r) = some (10, 1) := rfl
theorem escS_x {x y : Nat} (h l : Nat) (r : List Nat) (hx : hexv h = some x) (hy : hexv l = some y) : escS (120 :: h :: l :: r) = if (32 ≤ x * 16 + y ∧ x * 16 + y ≤ 126) ∨ x * 16 + y = 10 then none else some (x * 16 + y, 3) := by
  have e : escS (120 :: h :: l :: r) = (match hexv h, hexv l with
        | some x, some y => if (32 ≤ x * 16 + y ∧ x * 16 + y ≤ 126) ∨ x * 16 + y = 10 then none else some (x * 16 + y, 3)
        | _, _ => none) := rfl
  rw [e, hx, hy]
theorem unq_q (c : Nat) (r : List Nat) (h : c < 256) : unq (qB c ++ r) = (unq r).map (c :: ·) := by
  unfold qB
  by_cases hp : plainB c = true
  · rw [if_pos hp]
    obtain ⟨h1, h2, h3, h4⟩ := plain_bd hp
    rw [List.cons_append, unq, if_neg h3, if_neg h4, if_pos hp]
    rfl
  · rw [if_neg hp]
    by_cases h1 : c = 34 ∨ c = 92
    · rw [if_pos h1, List.cons_append, List.cons_append, unq, if_neg (by decide), if_pos rfl, escS_self _ h1]
      rfl
    · rw [if_neg h1]
      by_cases h2 : c = 10
      · subst h2
        rw [if_pos rfl, List.cons_append, List.cons_append, unq, if_neg (by decide), if_pos rfl, escS_n]
        rfl
      · rw [if_neg h2, List.cons_append, List.cons_append, List.cons_append, List.cons_append, unq, if_neg (by decide), if_pos rfl, escS_x _ _ _ (hexv_d (show c / 16 < 16 by omega)) (hexv_d (show c % 16 < 16 by omega))]
        have e : c / 16 * 16 + c % 16 = c := by omega
        rw [e, if_neg]
        · rfl
        · intro hh
          rcases hh with hh | hh
          · refine hp ?_
            unfold plainB
            simp
            omega
          · exact h2 hh
theorem unq_quote : ∀ (l : List Nat), (∀ c ∈ l, c < 256) → unq (l.flatMap qB ++ [34]) = some l
  | [], _ => by
    rw [List.flatMap_nil, List.nil_append, unq, if_pos rfl, if_pos rfl]
  | c :: l, h => by
    rw [List.flatMap_cons, List.append_assoc, unq_q c _ (h c (by simp)), unq_quote l fun d hd => h d (by simp [hd])]
    rfl
theorem textS_quote {l : List Nat} (h : ∀ c ∈ l, c < 256) : textS (32 :: quoteL l) = some l := by
  unfold textS quoteL
  simp only [and_self, if_true]
  exact unq_quote l h
theorem qB_all {c : Nat} (h : c < 256) : ∀ d ∈ qB c, 32 ≤ d ∧ d ≤ 126 := by
  intro d hd
  unfold qB at hd
  split at hd
  · rename_i hp
    have := plain_bd hp
    simp at hd
    omega
  · split at hd
    · rename_i h1
      simp at hd
      omega
    · split at hd
      · simp at hd
        omega
      · have h1 := hexd_bd (show c / 16 < 16 by omega)
        have h2 := hexd_bd (show c % 16 < 16 by omega)
        simp at hd
        omega
theorem quote_all {l : List Nat} (h : ∀ c ∈ l, c < 256) : ∀ d ∈ quoteL l, 32 ≤ d ∧ d ≤ 126 := by
  intro d hd
  unfold quoteL at hd
  rw [List.mem_cons, List.mem_append, List.mem_flatMap] at hd
  rcases hd with rfl | ⟨c, hc, hd⟩ | hd
  · decide
  · exact qB_all (h c hc) d hd
  · simp at hd; omega
end Go.Proofs.YtcnlopjjejdahaaDoor
/- The engine's rules for arrays. -/
namespace Go.Proofs.YtcnlopjjejdahaaDoor
open Go.RowKit
set_option maxRecDepth 100000
theorem vLoad_arr {P : Program} {T e : TypeId} {n N b o : Nat} {w : World} {l : List Value} (hd : P.underlying T = some (.array n e)) (hs : (P.info? T).map (·.size) = some N) (h : ldN w b o N = some l) :
    vLoad P T (.pointer (some ⟨b, o, none⟩)) w = .ok (.value (.agg l.toArray)) w := by
  obtain ⟨inf, hq, hz⟩ := Option.map_eq_some_iff.1 hs
  have hagg : (isAgg T).run P w = .ok true w := by
    unfold isAgg
    rw [Sem.run_bind, run_underlying hd w]
    simp
  have hl := run_loadCells_ldN P w b N o 0 l #[] h
  simp [vLoad, Instr.loadAt, Instr.sureAddr, loadVar, Sem.run_bind, hagg, sizeOf, typeInfo, hq, hz, loadCells, hl]
theorem ldN_of {w : World} {b : Nat} : ∀ (l : List Value) (o : Nat), (∀ i v, l[i]? = some v → w.cell? ⟨b, o + i, none⟩ = some v) → ldN w b o l.length = some l
  | [], o, _ => rfl
  | v :: l, o, h => by
    have h0 := h 0 v rfl
    rw [Nat.add_zero] at h0
    rw [List.length_cons, ldN, h0, ldN_of l (o + 1) fun i u hu => by rw [show o + 1 + i = o + (i + 1) by omega]; exact h (i + 1) u hu]
theorem vIndex_arr {P : Program} {T e : TypeId} {n sz : Nat} {fs : Array Field} {w : World} {cs : Array Value} {k : IntKind} {i : Nat} (hd : P.underlying T = some (.array n e)) (he : P.underlying e = some (.struct fs)) (hs : (P.info? e).map (·.size) = some sz) (hi : i < n) :
    vIndex P T (.agg cs) (.int k i) w = .ok (.value (.agg (cs.extract (i * sz) (i * sz + sz)))) w := by
  obtain ⟨inf, hq, hz⟩ := Option.map_eq_some_iff.1 hs
  have hagg : (isAgg e).run P w = .ok true w := by
    unfold isAgg
    rw [Sem.run_bind, run_underlying he w]
    simp
  have h2 : (0 : Int) ≤ i ∧ (i : Int) < n := by omega
  simp [vIndex, Instr.index, asIntOf, Sem.run_bind, run_underlying hd, h2, sizeOf, typeInfo, hq, hz, part, hagg]
  omega
theorem vIndex_arr1 {P : Program} {T e : TypeId} {n : Nat} {k2 : IntKind} {w : World} {cs : Array Value} {k : IntKind} {i : Nat} {v : Value} (hd : P.underlying T = some (.array n e)) (he : P.underlying e = some (.int k2)) (hs : (P.info? e).map (·.size) = some 1) (hi : i < n) (hv : cs[i]? = some v) :
    vIndex P T (.agg cs) (.int k i) w = .ok (.value v) w := by
  obtain ⟨inf, hq, hz⟩ := Option.map_eq_some_iff.1 hs
  have hagg : (isAgg e).run P w = .ok false w := by
    unfold isAgg
    rw [Sem.run_bind, run_underlying he w]
    simp
  have h2 : (0 : Int) ≤ i ∧ (i : Int) < n := by omega
  simp [vIndex, Instr.index, asIntOf, Sem.run_bind, run_underlying hd, h2, sizeOf, typeInfo, hq, hz, part, hagg, hv]
  omega
theorem flat_piece {α : Type} {enc : α → List Value} {sz : Nat} (he : ∀ x, (enc x).length = sz) {x : α} : ∀ (L : List α) (i : Nat), L[i]? = some x → ((L.flatMap enc).drop (i * sz)).take sz = enc x
  | [], i, h => by simp at h
  | y :: r, i, h => by
    rw [List.flatMap_cons]
    cases i with
    | zero =>
      simp only [List.getElem?_cons_zero, Option.some.injEq] at h
      subst h
      rw [Nat.zero_mul, List.drop_zero, ← he y, List.take_left']
      rfl
    | succ i =>
      rw [List.getElem?_cons_succ] at h
      rw [Nat.succ_mul, Nat.add_comm, ← List.drop_drop, ← he y, List.drop_left' rfl, he y]
      exact flat_piece he r i h
/-- make([]T, l, c). -/
theorem vMakeSlice_lc {P : Program} {T : TypeId} {w : World} {e : TypeId} {size bytes : Nat} {z : Value} {l c : Int} (hI : sliceI P T = some (e, size, bytes)) (hz : zeroV P e = some z) (h0 : 0 ≤ l) (h1 : l ≤ c) (h2 : bytes * c ≤ 281474976710656) (h3 : c ≤ 9223372036854775807) :
    vMakeSlice P T (.int .i64 l) (.int .i64 c) w = .ok (.value (.slice (some ⟨w.heap.size, 0, none⟩) l.toNat c.toNat)) (w.alloc (.cells (madeCells z.cells (c.toNat * size)) e)) := by
  obtain ⟨inf, z', hT, hi, hz', rfl, rfl, hzs, hpos⟩ := sliceI_is hI
  have : z' = z := by unfold zeroV at hz; rw [hi] at hz; rw [show (some inf).bind (·.zero) = inf.zero from rfl, hz'] at hz; injection hz
  subst this
  have hr := run_make (P := P) w T e inf z' hT hi hz' .i64 .i64 l c h0 h1 h2 h3
  simp [vMakeSlice, hr]
theorem vIndexAddr_arr {P : Program} {T e : TypeId} {n sz b o : Nat} {k : IntKind} {i : Int} {w : World} (hd : P.underlying T = some (.array n e)) (hs : (P.info? e).map (·.size) = some sz) (h0 : 0 ≤ i) (h1 : i < n) :
    vIndexAddr P T (.pointer (some ⟨b, o, none⟩)) (.int k i) w = .ok (.value (.pointer (some ⟨b, o + i.toNat * sz, none⟩))) w := by
  obtain ⟨inf, hq, hz⟩ := Option.map_eq_some_iff.1 hs
  simp [vIndexAddr, Instr.indexAt, Instr.sureAddr, asIntOf, Sem.run_bind, run_underlying hd w, h0, h1, sizeOf, typeInfo, hq, hz, addr_add]
theorem vSlice_arr {P : Program} {T e : TypeId} {n sz b o : Nat} {w : World} (hd : P.underlying T = some (.array n e)) (hs : (P.info? e).map (·.size) = some sz) :
    vSlice P T (.pointer (some ⟨b, o, none⟩)) none none none w = .ok (.value (.slice (some ⟨b, o, none⟩) n n)) w := by
  obtain ⟨inf, hq, hz⟩ := Option.map_eq_some_iff.1 hs
  simp [vSlice, Instr.sliceAt, Instr.sureAddr, Instr.sliceBounds, Sem.run_bind, run_underlying hd w, sizeOf, typeInfo, hq, hz]
  exact fun _ => add_zero _
theorem make_own (w : World) (base : Nat) (e : TypeId) (z : Value) (c : Nat) (hb : base ≤ w.heap.size) (hc : c ≤ maxLen) :
    (w.alloc (.cells (madeCells #[z] (c * 1)) e)).ownsRow base e 1 (.slice (some ⟨w.heap.size, 0, none⟩) 0 c) 0 [] :=
  ⟨rfl, .inr ⟨w.heap.size, c, _, rfl, hb, heap_alloc_new w _, Nat.zero_le _, hc, by simp [madeCells], by simp⟩⟩
end Go.Proofs.YtcnlopjjejdahaaDoor
/- What the listed variables hold. -/
namespace Go.Proofs.YtcnlopjjejdahaaDoor
open Go.RowKit
set_option maxRecDepth 100000
/-- What the listed variables hold. -/
structure Laid (w : World) : Prop where
  size : 5 ≤ w.heap.size
  hex : ∀ i : Nat, i < 16 → w.cell? ⟨0, i, none⟩ = some (.int .u8 (hexd i : Int))
  pow : Lib.TabIs Tryd.prog w "internal/strconv.uint64pow10" .u64 Lib.pow10Tab
theorem Laid.below {B : Nat} {w w' : World} (h : Laid w) (hb : Below B w w') (hB : 5 ≤ B) : Laid w' :=
  ⟨Nat.le_trans h.size hb.size, fun i hi => (hb.cell (p := ⟨0, i, none⟩) (by show 0 < B; omega)).trans (h.hex i hi), by
    have hg : Tryd.prog.globalNamed "internal/strconv.uint64pow10" = some 2 := by kernel_rfl
    have h2 := h.pow
    unfold Lib.TabIs World.var? at h2 ⊢
    rw [hg] at h2 ⊢
    simp only [Option.bind_some] at h2 ⊢
    rw [hb.block 2 (by omega)]
    exact h2⟩
end Go.Proofs.YtcnlopjjejdahaaDoor
/- Bytes in memory: rows that grow, and the strings that they become. -/
namespace Go.Proofs.YtcnlopjjejdahaaDoor
open Go.RowKit
set_option maxRecDepth 100000
/-- Bytes that lie in memory become a string. -/
theorem bytes_str {w : World} {a : Addr} {cap : Nat} (ns : List Nat) (hn : ∀ n ∈ ns, n < 256) (h : ∀ j v, (ns.map fun (n : Nat) => Value.int .u8 (n : Int))[j]? = some v → w.cell? (a.add j) = some v) :
    ∃ s : ByteArray, bs s = ns ∧ vConvert Tryd.prog 77 9 (.slice (some a) ns.length cap) w = .ok (.value (.string s)) w := by
  have hl := run_loadCells_list (P := Tryd.prog) (w := w) a (ns.map fun (n : Nat) => Value.int .u8 (n : Int)) h
  rw [List.length_map] at hl
  have hr := run_bytesToString (P := Tryd.prog) w a ns.length cap (ns.map fun (n : Nat) => (n : Int)) (by rw [List.map_map]; exact hl)
  refine ⟨_, ?_, by simp only [vConvert, Sem.run_bind, run_convert_bytes_string w _ _ _ _ _ _ Tryd.underlying77 Tryd.underlying5 Tryd.underlying9, hr, Result.andThen, Sem.run_pure]; rfl⟩
  have key : ∀ (ns : List Nat) (s : ByteArray), (∀ n ∈ ns, n < 256) → bs ((ns.map fun (n : Nat) => (n : Int)).foldl (fun r n => r.push (UInt8.ofNat n.toNat)) s) = bs s ++ ns := by
    intro ns
    induction ns with
    | nil => intro s _; simp
    | cons n r ih =>
      intro s hs
      rw [List.map_cons, List.foldl_cons, ih _ fun m hm => hs m (by simp [hm])]
      have hn := hs n (by simp)
      have e : bs (s.push (UInt8.ofNat (n : Int).toNat)) = bs s ++ [n] := by
        unfold bs
        rw [ByteArray.data_push, Array.toList_push, List.map_append]
        simp [Nat.mod_eq_of_lt hn]
      rw [e, List.append_assoc]
      rfl
  rw [key ns _ hn, bs_empty, List.nil_append]
def byV (X : List Nat) : List Value := X.map fun (n : Nat) => Value.int .u8 (n : Int)
/-- A row of bytes that is nobody else's. -/
def BytIn (base : Nat) (w : World) (v : Value) (X : List Nat) : Prop := ∃ g c, v = .slice (some ⟨g, 0, none⟩) X.length c ∧ w.ownsRow base 5 1 v X.length (byV X) ∧ (∀ n ∈ X, n < 256) ∧ X.length ≤ 100000000
theorem BytIn.make (w : World) (base c : Nat) (hb : base ≤ w.heap.size) (hc : c ≤ 1000000000) : BytIn base (w.alloc (.cells (madeCells #[.int .u8 0] (c * 1)) 5)) (.slice (some ⟨w.heap.size, 0, none⟩) 0 c) [] :=
  ⟨_, _, rfl, make_own w base _ _ c hb (by unfold maxLen; omega), (fun n h => by cases h), by simp⟩
theorem BytIn.push {base : Nat} {w : World} {v : Value} {X : List Nat} (h : BytIn base w v X) (hb : base ≤ w.heap.size) (n : Nat) (hn : n < 256) (hl : X.length + 1 ≤ 100000000) :
    ∃ v' w2, vAppend Tryd.prog 77 77 77 v (.slice (some ⟨w.heap.size, 0, none⟩) 1 1) (w.alloc (.cells #[.int .u8 (n : Int)] 5)) = .ok (.value v') w2 ∧ BytIn base w2 v' (X ++ [n]) ∧ Below base w w2 ∧ w.heap.size ≤ w2.heap.size := by
  obtain ⟨g, c, rfl, ho, hx, _⟩ := h
  have hI : sliceI Tryd.prog 77 = some (5, 1, 1) := by kernel_rfl
  obtain ⟨A2, c2, w2, he, hown2, hb2, hs2⟩ := push1 (P := Tryd.prog) (T := 77) (ty := 77) (news := [.int .u8 (n : Int)]) ho hb hI rfl (fun u hu => by simp at hu; subst hu; rfl) (by omega) (by omega)
  obtain ⟨g2, rfl, _⟩ := owns_row hown2 (by omega)
  refine ⟨_, w2, he, ⟨g2, c2, by simp, ?_, fun m hm => ?_, by simp; omega⟩, hb2, hs2⟩
  · have : (X ++ [n]).length = X.length + 1 := by simp
    rw [this]
    unfold byV at *
    rw [List.map_append]
    exact hown2
  · rcases List.mem_append.1 hm with h | h
    · exact hx m h
    · simp at h; omega
theorem BytIn.str {base : Nat} {w : World} {v : Value} {X : List Nat} (h : BytIn base w v X) : ∃ s : ByteArray, bs s = X ∧ vConvert Tryd.prog 77 9 v w = .ok (.value (.string s)) w := by
  obtain ⟨g, c, rfl, ho, hx, _⟩ := h
  refine bytes_str X hx fun j u hu => ?_
  have hj : 0 < X.length := by
    have := (List.getElem?_eq_some_iff.1 hu).1
    rw [List.length_map] at this
    omega
  obtain ⟨g2, e, _, ⟨cur, hg, r, hr⟩, _⟩ := owns_row ho hj
  injection e with e
  injection e with e
  subst e
  rw [addr_add, Nat.zero_add, Lib.cell_of_heap hg]
  have hlt := (List.getElem?_eq_some_iff.1 hu).1
  rw [← Array.getElem?_toList, hr, List.getElem?_append_left (by unfold byV; exact hlt)]
  exact hu
end Go.Proofs.YtcnlopjjejdahaaDoor
/- strings.Builder in short: what is written so far, as numbers. -/
namespace Go.Proofs.YtcnlopjjejdahaaDoor
open Go.RowKit
set_option maxRecDepth 100000
def BldIn (b : Nat) (w : World) (X : List Nat) : Prop := Lib.IsBuilder 79 5 b b (byV X) w ∧ (∀ n ∈ X, n < 256)
theorem strCells_bs (s : ByteArray) : Lib.strCells s = byV (bs s) := by
  unfold Lib.strCells byV bs
  rw [List.map_map]
  rfl
theorem byV_len (X : List Nat) : (byV X).length = X.length := List.length_map ..
theorem byV_app (X Y : List Nat) : byV (X ++ Y) = byV X ++ byV Y := List.map_append
theorem BldIn.fresh (w : World) : BldIn w.heap.size (w.alloc (.cells #[.pointer none, .slice none 0 0] 79)) [] := ⟨Lib.fresh_isBuilder _ _ _, fun n h => by cases h⟩
theorem BldIn.below {b : Nat} {w w' : World} {X : List Nat} (h : BldIn b w X) (hb : Below w.heap.size w w') : BldIn b w' X := ⟨isB_below h.1 hb, h.2⟩
theorem BldIn.drew {b : Nat} {w : World} {X : List Nat} (h : BldIn b w X) : BldIn b w.drew X := h
theorem BldIn.lt {b : Nat} {w : World} {X : List Nat} (h : BldIn b w X) : b < w.heap.size := by
  rcases h.1 with ⟨_, v, hb, _⟩ | ⟨_, v, hb, _⟩ <;> exact (Array.getElem?_eq_some_iff.1 hb).1
theorem BldIn.write {b : Nat} {w : World} {X : List Nat} (h : BldIn b w X) (s : ByteArray) (hl : X.length + s.size ≤ 1000000000) :
    Calls Tryd.prog 47 #[.pointer (some ⟨b, 0, none⟩), .string s] w fun e w' => e = .returned (.tuple #[.int .i64 s.size, .nilIface]) ∧ BldIn b w' (X ++ bs s) ∧ Below b w w' ∧ Keeps b w w' := by
  refine (writeString_any b b (byV X) s w h.1 (by rw [byV_len]; exact hl) (Nat.le_of_lt h.lt)).mono ?_
  rintro e w' ⟨h1, h2, h3, h4⟩
  refine ⟨h1, ⟨by rw [byV_app, ← strCells_bs]; exact h2, fun n hn => ?_⟩, h3, h4⟩
  rcases List.mem_append.1 hn with hn | hn
  · exact h.2 n hn
  · exact bs_lt s n hn
theorem BldIn.str {b : Nat} {w : World} {X : List Nat} (h : BldIn b w X) :
    Calls Tryd.prog 49 #[.pointer (some ⟨b, 0, none⟩)] w fun e w' => e = .returned (.string (toBA X)) ∧ Below b w w' := by
  have e1 : byV X = Lib.byteCells (toBA X).data.toList := by
    have h1 : Lib.strCells (toBA X) = byV X := by rw [strCells_bs, bs_toBA h.2]
    rw [← h1]
    rfl
  have h1 := h.1
  rw [e1] at h1
  refine (Tryd.Builder_String_any b b _ w h1 (Nat.le_of_lt h.lt)).mono ?_
  rintro e w' ⟨he, hb⟩
  exact ⟨he, hb⟩
/-- Texts side by side. -/
theorem app_toBA (s t : ByteArray) : s ++ t = toBA (bs s ++ bs t) := by
  have h : ∀ c ∈ bs s ++ bs t, c < 256 := fun c hc => by
    rcases List.mem_append.1 hc with h | h
    · exact bs_lt s c h
    · exact bs_lt t c h
  exact bs_inj (by rw [bs_toBA h, bs_append])
end Go.Proofs.YtcnlopjjejdahaaDoor
/- Walks: digest.ParseHex. -/
namespace Go.Proofs.YtcnlopjjejdahaaDoor
open Go.RowKit
set_option maxRecDepth 100000
theorem bs_dropI {s : ByteArray} {k : Nat} (h : k < s.size) : (bs s).drop k = bt s k :: (bs s).drop (k + 1) := by
  have h4 : k < (bs s).length := by rw [bs_len]; exact h
  have h5 := bs_get h
  rw [List.getElem?_eq_getElem h4] at h5
  injection h5 with h5
  rw [List.drop_eq_getElem_cons h4, h5]
def hexR (l : List Nat) : Value := match hexE l with
  | some v => .tuple #[.int .u64 (v : Int), .int .i64 0]
  | none => .tuple #[.int .u64 0, .int .i64 1]
theorem parseHex_any (s : ByteArray) (w : World) (_hs : s.size ≤ 1000000) : Calls Tryd.prog 29 #[.string s] w fun e w' => e = .returned (hexR (bs s)) ∧ w = w' := by
  refine calls_W (l := [_]) Tryd.func29 rfl _ Tryd.ntmps29 (by simp) ?_
  unfold hexR hexE
  simp +contextual (maxSteps := 2000000) (disch := (first | omega | (simp only [SZ]; done) | (simp only [SZ]; omega) | (simp only [TS] at *; omega))) only [RZ, gval, gslot, fillL, ovw, numb, catL, ldN, agL, okC, oneC, init, Nat.reduceAdd, Nat.reduceMul, Nat.reduceSub, Nat.reduceEqDiff, Nat.reduceLT, ↓reduceIte, Int.reduceToNat, Int.reduceAdd, Int.reduceSub, Int.reduceMul, Int.reduceLT, Int.reduceLE, Int.reduceEq, Nat.reduceLeDiff]
  (refine W_if rfl (fun hc => ?_) (fun hc => ?_) <;> (try simp only [TS] at hc))
  · rw [if_neg (by rw [bs_len]; omega)]
    simp +contextual (maxSteps := 2000000) (disch := (first | omega | (simp only [SZ]; done) | (simp only [SZ]; omega) | (simp only [TS] at *; omega))) only [RZ, gval, gslot, fillL, ovw, numb, catL, ldN, agL, okC, oneC, init, Nat.reduceAdd, Nat.reduceMul, Nat.reduceSub, Nat.reduceEqDiff, Nat.reduceLT, ↓reduceIte, Int.reduceToNat, Int.reduceAdd, Int.reduceSub, Int.reduceMul, Int.reduceLT, Int.reduceLE, Int.reduceEq, Nat.reduceLeDiff]
  rw [if_pos (by rw [bs_len]; omega)]
  simp +contextual (maxSteps := 2000000) (disch := (first | omega | (simp only [SZ]; done) | (simp only [SZ]; omega) | (simp only [TS] at *; omega))) only [RZ, gval, gslot, fillL, ovw, numb, catL, ldN, agL, okC, oneC, init, Nat.reduceAdd, Nat.reduceMul, Nat.reduceSub, Nat.reduceEqDiff, Nat.reduceLT, ↓reduceIte, Int.reduceToNat, Int.reduceAdd, Int.reduceSub, Int.reduceMul, Int.reduceLT, Int.reduceLE, Int.reduceEq, Nat.reduceLeDiff]
  generalize hR : hexV 0 (bs s) = R
  refine Raw_loop (fun σ w2 => w2 = w ∧ ∃ (k acc : Nat), k ≤ 16 ∧ acc < 16 ^ k ∧ hexV acc ((bs s).drop k) = R ∧ σ 0 = .string s ∧ σ 4 = .int .u64 acc ∧ σ 10 = .int .i64 k) (fun σ _ => 16 - (intOf (σ 10)).toNat) ?_ ?_
  · simp +contextual (maxSteps := 2000000) (disch := (first | omega | (simp only [SZ]; done) | (simp only [SZ]; omega) | (simp only [TS] at *; omega))) only [RZ, gval, gslot, fillL, ovw, numb, catL, ldN, agL, okC, oneC, init, Nat.reduceAdd, Nat.reduceMul, Nat.reduceSub, Nat.reduceEqDiff, Nat.reduceLT, ↓reduceIte, Int.reduceToNat, Int.reduceAdd, Int.reduceSub, Int.reduceMul, Int.reduceLT, Int.reduceLE, Int.reduceEq, Nat.reduceLeDiff]
    exact ⟨0, 0, by omega, by decide, hR, rfl, rfl⟩
  rintro σ w2 ⟨rfl, k, acc, hk, ha, hj, f0, f4, f10⟩ K hK
  have hltk := bt_lt s k
  simp +contextual (maxSteps := 2000000) (disch := (first | omega | (simp only [SZ]; done) | (simp only [SZ]; omega) | (simp only [TS] at *; omega))) only [RZ, gval, gslot, fillL, ovw, numb, catL, ldN, agL, okC, oneC, init, Nat.reduceAdd, Nat.reduceMul, Nat.reduceSub, Nat.reduceEqDiff, Nat.reduceLT, ↓reduceIte, Int.reduceToNat, Int.reduceAdd, Int.reduceSub, Int.reduceMul, Int.reduceLT, Int.reduceLE, Int.reduceEq, Nat.reduceLeDiff,  f0, f4, f10]
  have hpow : k < 16 → acc ≤ 1152921504606846975 := fun h => by
    have h1 : 16 ^ k ≤ 16 ^ 15 := Nat.pow_le_pow_right (by decide) (by omega)
    have h2 : 16 ^ 15 = 1152921504606846976 := by decide
    omega
  (refine W_if rfl (fun hc => ?_) (fun hc => ?_) <;> (try simp only [TS] at hc))
  · have hkl : k < 16 := by omega
    have hp := hpow hkl
    rw [bs_dropI (by omega)] at hj
    clear hc
    simp +contextual (maxSteps := 2000000) (disch := (first | omega | (simp only [SZ]; done) | (simp only [SZ]; omega) | (simp only [TS] at *; omega))) only [RZ, gval, gslot, fillL, ovw, numb, catL, ldN, agL, okC, oneC, init, Nat.reduceAdd, Nat.reduceMul, Nat.reduceSub, Nat.reduceEqDiff, Nat.reduceLT, ↓reduceIte, Int.reduceToNat, Int.reduceAdd, Int.reduceSub, Int.reduceMul, Int.reduceLT, Int.reduceLE, Int.reduceEq, Nat.reduceLeDiff,  f0, f4, f10]
    have hp1 : 16 ^ (k + 1) = 16 ^ k * 16 := Nat.pow_succ ..
    (refine W_if rfl (fun hc => ?_) (fun hc => ?_) <;> (try simp only [TS] at hc))
    · have hd : hexv (bt s k) = some (bt s k - 48) := by unfold hexv; rw [if_pos (by omega)]
      rw [hexV, hd] at hj
      simp +contextual (maxSteps := 2000000) (disch := (first | omega | (simp only [SZ]; done) | (simp only [SZ]; omega) | (simp only [TS] at *; omega))) only [RZ, gval, gslot, fillL, ovw, numb, catL, ldN, agL, okC, oneC, init, Nat.reduceAdd, Nat.reduceMul, Nat.reduceSub, Nat.reduceEqDiff, Nat.reduceLT, ↓reduceIte, Int.reduceToNat, Int.reduceAdd, Int.reduceSub, Int.reduceMul, Int.reduceLT, Int.reduceLE, Int.reduceEq, Nat.reduceLeDiff,  f0, f4, f10]
      refine hK _ _ ⟨rfl, k + 1, acc * 16 + (bt s k - 48), by omega, by omega, hj, ?_⟩ ?_
      · simp +contextual (maxSteps := 2000000) (disch := (first | omega | (simp only [SZ]; done) | (simp only [SZ]; omega) | (simp only [TS] at *; omega))) only [RZ, gval, gslot, fillL, ovw, numb, catL, ldN, agL, okC, oneC, init, Nat.reduceAdd, Nat.reduceMul, Nat.reduceSub, Nat.reduceEqDiff, Nat.reduceLT, ↓reduceIte, Int.reduceToNat, Int.reduceAdd, Int.reduceSub, Int.reduceMul, Int.reduceLT, Int.reduceLE, Int.reduceEq, Nat.reduceLeDiff,  f0, f4, f10]
        congr 1
        omega
      · simp +contextual (maxSteps := 2000000) (disch := (first | omega | (simp only [SZ]; done) | (simp only [SZ]; omega) | (simp only [TS] at *; omega))) only [RZ, gval, gslot, fillL, ovw, numb, catL, ldN, agL, okC, oneC, init, Nat.reduceAdd, Nat.reduceMul, Nat.reduceSub, Nat.reduceEqDiff, Nat.reduceLT, ↓reduceIte, Int.reduceToNat, Int.reduceAdd, Int.reduceSub, Int.reduceMul, Int.reduceLT, Int.reduceLE, Int.reduceEq, Nat.reduceLeDiff,  intOf, f10]
        omega
    have h1 := hc
    clear hc
    simp +contextual (maxSteps := 2000000) (disch := (first | omega | (simp only [SZ]; done) | (simp only [SZ]; omega) | (simp only [TS] at *; omega))) only [RZ, gval, gslot, fillL, ovw, numb, catL, ldN, agL, okC, oneC, init, Nat.reduceAdd, Nat.reduceMul, Nat.reduceSub, Nat.reduceEqDiff, Nat.reduceLT, ↓reduceIte, Int.reduceToNat, Int.reduceAdd, Int.reduceSub, Int.reduceMul, Int.reduceLT, Int.reduceLE, Int.reduceEq, Nat.reduceLeDiff,  f0, f4, f10]
    (refine W_if rfl (fun hc => ?_) (fun hc => ?_) <;> (try simp only [TS] at hc))
    · have hd : hexv (bt s k) = some (bt s k - 87) := by unfold hexv; rw [if_neg (by omega), if_pos (by omega)]
      rw [hexV, hd] at hj
      simp +contextual (maxSteps := 2000000) (disch := (first | omega | (simp only [SZ]; done) | (simp only [SZ]; omega) | (simp only [TS] at *; omega))) only [RZ, gval, gslot, fillL, ovw, numb, catL, ldN, agL, okC, oneC, init, Nat.reduceAdd, Nat.reduceMul, Nat.reduceSub, Nat.reduceEqDiff, Nat.reduceLT, ↓reduceIte, Int.reduceToNat, Int.reduceAdd, Int.reduceSub, Int.reduceMul, Int.reduceLT, Int.reduceLE, Int.reduceEq, Nat.reduceLeDiff,  f0, f4, f10]
      refine hK _ _ ⟨rfl, k + 1, acc * 16 + (bt s k - 87), by omega, by omega, hj, ?_⟩ ?_
      · simp +contextual (maxSteps := 2000000) (disch := (first | omega | (simp only [SZ]; done) | (simp only [SZ]; omega) | (simp only [TS] at *; omega))) only [RZ, gval, gslot, fillL, ovw, numb, catL, ldN, agL, okC, oneC, init, Nat.reduceAdd, Nat.reduceMul, Nat.reduceSub, Nat.reduceEqDiff, Nat.reduceLT, ↓reduceIte, Int.reduceToNat, Int.reduceAdd, Int.reduceSub, Int.reduceMul, Int.reduceLT, Int.reduceLE, Int.reduceEq, Nat.reduceLeDiff,  f0, f4, f10]
        congr 1
        omega
      · simp +contextual (maxSteps := 2000000) (disch := (first | omega | (simp only [SZ]; done) | (simp only [SZ]; omega) | (simp only [TS] at *; omega))) only [RZ, gval, gslot, fillL, ovw, numb, catL, ldN, agL, okC, oneC, init, Nat.reduceAdd, Nat.reduceMul, Nat.reduceSub, Nat.reduceEqDiff, Nat.reduceLT, ↓reduceIte, Int.reduceToNat, Int.reduceAdd, Int.reduceSub, Int.reduceMul, Int.reduceLT, Int.reduceLE, Int.reduceEq, Nat.reduceLeDiff,  intOf, f10]
        omega
    · have hd : hexv (bt s k) = none := by unfold hexv; rw [if_neg (by omega), if_neg (by omega)]
      rw [hexV, hd] at hj
      simp +contextual (maxSteps := 2000000) (disch := (first | omega | (simp only [SZ]; done) | (simp only [SZ]; omega) | (simp only [TS] at *; omega))) only [RZ, gval, gslot, fillL, ovw, numb, catL, ldN, agL, okC, oneC, init, Nat.reduceAdd, Nat.reduceMul, Nat.reduceSub, Nat.reduceEqDiff, Nat.reduceLT, ↓reduceIte, Int.reduceToNat, Int.reduceAdd, Int.reduceSub, Int.reduceMul, Int.reduceLT, Int.reduceLE, Int.reduceEq, Nat.reduceLeDiff,  f0, f4, f10]
      rw [← hj]
      try exact rfl
  · have hk16 : k = 16 := by omega
    subst hk16
    rw [List.drop_of_length_le (by rw [bs_len]; omega), hexV] at hj
    simp +contextual (maxSteps := 2000000) (disch := (first | omega | (simp only [SZ]; done) | (simp only [SZ]; omega) | (simp only [TS] at *; omega))) only [RZ, gval, gslot, fillL, ovw, numb, catL, ldN, agL, okC, oneC, init, Nat.reduceAdd, Nat.reduceMul, Nat.reduceSub, Nat.reduceEqDiff, Nat.reduceLT, ↓reduceIte, Int.reduceToNat, Int.reduceAdd, Int.reduceSub, Int.reduceMul, Int.reduceLT, Int.reduceLE, Int.reduceEq, Nat.reduceLeDiff,  f0, f4, f10]
    rw [← hj]
    try exact rfl
end Go.Proofs.YtcnlopjjejdahaaDoor
