/- Texts laid one behind the other: DhH, DhI. Each says at its head what it proves. -/
import Derived.Test.YtcnlopjjejdahaaDoorY10
set_option linter.unusedSimpArgs false
/- Walks: the reader of a plan's tokens: level. -/
namespace Go.Proofs.YtcnlopjjejdahaaDoor
open Go.RowKit
set_option maxRecDepth 100000
/-- Below B all blocks but the listed ones stay. -/
structure KeptB (B : Nat) (X : List Nat) (w w' : World) : Prop where
  os : w'.os = w.os
  tape : w'.tape = w.tape
  output : w'.output = w.output
  size : w.heap.size ≤ w'.heap.size
  block : ∀ k, k < B → k ∉ X → w'.heap[k]? = w.heap[k]?
section
variable {B : Nat} {X : List Nat} {a w w' : World}
theorem KeptB.refl (B : Nat) (X : List Nat) (w : World) : KeptB B X w w := ⟨rfl, rfl, rfl, Nat.le_refl _, fun _ _ _ => rfl⟩
theorem KeptB.trans (h : KeptB B X a w) (k : KeptB B X w w') : KeptB B X a w' :=
  ⟨k.os.trans h.os, k.tape.trans h.tape, k.output.trans h.output, Nat.le_trans h.size k.size, fun g hg hr => (k.block g hg hr).trans (h.block g hg hr)⟩
theorem KeptB.of_kept {Y : List Nat} (h : Kept Y w w') (hB : B ≤ w.heap.size) (hY : ∀ k ∈ Y, k < B → k ∈ X) : KeptB B X w w' :=
  ⟨h.os, h.tape, h.output, h.size, fun k hk hr => h.block k (by omega) fun hx => hr (hY k hx hk)⟩
theorem KeptB.of_below (h : Below B w w') : KeptB B X w w' := ⟨h.os, h.tape, h.output, h.size, fun k hk _ => h.block k hk⟩
theorem Row.keptB {g : Nat} {T : TypeId} {cs : List Value} (h : Row w g T cs) (k : KeptB B X w w') (hB : g < B) (hg : g ∉ X) : Row w' g T cs := h.of_block (k.block g hB hg)
theorem Arr.keptB {A : Option Addr} {sz : Nat} {Ls : List (List Value)} (h : Arr w A sz Ls) (k : KeptB B X w w') (hA : ∀ b o, A = some ⟨b, o, none⟩ → b < B ∧ b ∉ X) : Arr w' A sz Ls := fun hn => by
  obtain ⟨b, o, e, hb, hc⟩ := h hn
  obtain ⟨h1, h2⟩ := hA b o e
  exact ⟨b, o, e, Nat.lt_of_lt_of_le hb k.size, fun i l hl j u hu => (World.cell?_of_block (w := w) (k.block b h1 h2)).trans (hc i l hl j u hu)⟩
end
/-- A plan that is being read: its block, its own row of levels. -/
def PlIn (w : World) (gP base : Nat) (p : Pl) : Prop := ∃ AL cL, Row w gP 24 [.string p.name, .int .i64 p.price, .int .i64 p.packs, .int .i64 p.size, .slice AL p.levels.length cL] ∧ w.ownsRow base 43 3 (.slice AL p.levels.length cL) p.levels.length (p.levels.flatMap encLvl)
theorem PlIn.kept {X : List Nat} {w w' : World} {gP base : Nat} {p : Pl} (h : PlIn w gP base p) (k : Kept X w w') (hg : gP ∉ X) (hX : ∀ x ∈ X, x < w.heap.size → x < base) : PlIn w' gP base p := by
  obtain ⟨AL, cL, h1, h2⟩ := h
  exact ⟨AL, cL, h1.kept k hg, owns_keep h2 fun g hg' => k.block g (owns_ge h2 hg').2 fun hx => by have := hX g hx (owns_ge h2 hg').2; have := (owns_ge h2 hg').1; omega⟩
section
variable {g c a gP base : Nat} {A : Option Addr} {T : List Tk} {w : World} {p : Pl}
set_option maxHeartbeats 1000000 in
theorem rdLevel_any (h : RdIn w g A c T a) (hP : PlIn w gP base p) (hl : p.levels.length ≤ 1000000) (hgg : gP ≠ g) (hgA : ∀ b o, A = some ⟨b, o, none⟩ → b ≠ gP) (hb : base ≤ w.heap.size) (h1 : g < base) (h2 : gP < base) (h3 : ∀ b o, A = some ⟨b, o, none⟩ → b < base) :
    Calls Tryd.prog 73 #[.pointer (some ⟨g, 0, none⟩), .pointer (some ⟨gP, 0, none⟩)] w fun e w' => KeptB base [g, gP] w w' ∧ ∃ a', RdIn w' g A c T a' ∧ match levelT (T.drop a) with
      | .ok (v, L') => e = .returned (.bool true) ∧ L' = T.drop a' ∧ PlIn w' gP base { p with levels := p.levels ++ [v] }
      | .error (er, L') => e = .returned (.bool false) ∧ er = 1 ∧ L' = T.drop a' ∧ PlIn w' gP base p := by
  refine calls_W (l := [_, _]) Tryd.func73 rfl _ Tryd.ntmps73 (by simp) ?_
  have hgl := h.row.lt
  simp +contextual (maxSteps := 2000000) (disch := (first | omega | (simp only [SZ]; done) | (simp only [SZ]; omega) | (simp only [TS] at *; omega))) only [RZ, gval, gslot, fillL, ovw, numb, catL, ldN, agL, okC, oneC, init, Nat.reduceAdd, Nat.reduceMul, Nat.reduceSub, Nat.reduceEqDiff, Nat.reduceLT, ↓reduceIte, Int.reduceToNat, Int.reduceAdd, Int.reduceSub, Int.reduceMul, Int.reduceLT, Int.reduceLE, Int.reduceEq, Nat.reduceLeDiff]
  have hv := Row.new w 43 [.int .i64 0, .int .i64 0, .int .i64 0]
  replace hv : Row (w.alloc (.cells #[.int .i64 0, .int .i64 0, .int .i64 0] 43)) w.heap.size 43 [.int .i64 0, .int .i64 0, .int .i64 0] := hv
  have hb1 := below_alloc w (.cells #[.int .i64 0, .int .i64 0, .int .i64 0] 43)
  have k1 : Kept [g, w.heap.size] w (w.alloc (.cells #[.int .i64 0, .int .i64 0, .int .i64 0] 43)) := (Kept.refl _ _).alloc _
  have g1 := h.below hb1
  have z1 : (w.alloc (.cells #[.int .i64 0, .int .i64 0, .int .i64 0] 43)).heap.size = w.heap.size + 1 := World.size_alloc _ _
  have hAv : ∀ b o, A = some ⟨b, o, none⟩ → b ≠ w.heap.size := fun b o e => by have := h3 b o e; omega
  have fin : ∀ w', Kept [g, w.heap.size] w w' → KeptB base [g, gP] w w' ∧ PlIn w' gP base p := fun w' k =>
    ⟨KeptB.of_kept k hb (fun x hx hlt => by simp at hx ⊢; omega), hP.kept k (by simp; omega) (fun x hx hlt => by simp at hx; omega)⟩
  generalize w.alloc (.cells #[.int .i64 0, .int .i64 0, .int .i64 0] 43) = w1 at *
  refine (rdNumber_any w.heap.size 0 43 _ 0 g1 hv rfl (by omega) hAv).mono ?_
  rintro e w2 ⟨rfl, g2, k2, hv2⟩
  refine ⟨_, rfl, ?_⟩
  replace k2 := k1.trans k2
  generalize hLT : levelT (T.drop a) = LT
  unfold levelT thenT at hLT
  cases hn1 : numT (T.drop a) with
  | none =>
    rw [hn1] at g2 hv2 hLT
    subst hLT
    simp +contextual (maxSteps := 2000000) (disch := (first | omega | (simp only [SZ]; done) | (simp only [SZ]; omega) | (simp only [TS] at *; omega))) only [RZ, gval, gslot, fillL, ovw, numb, catL, ldN, agL, okC, oneC, init, Nat.reduceAdd, Nat.reduceMul, Nat.reduceSub, Nat.reduceEqDiff, Nat.reduceLT, ↓reduceIte, Int.reduceToNat, Int.reduceAdd, Int.reduceSub, Int.reduceMul, Int.reduceLT, Int.reduceLE, Int.reduceEq, Nat.reduceLeDiff]
    refine W_if_t rfl ?_
    simp +contextual (maxSteps := 2000000) (disch := (first | omega | (simp only [SZ]; done) | (simp only [SZ]; omega) | (simp only [TS] at *; omega))) only [RZ, gval, gslot, fillL, ovw, numb, catL, ldN, agL, okC, oneC, init, Nat.reduceAdd, Nat.reduceMul, Nat.reduceSub, Nat.reduceEqDiff, Nat.reduceLT, ↓reduceIte, Int.reduceToNat, Int.reduceAdd, Int.reduceSub, Int.reduceMul, Int.reduceLT, Int.reduceLE, Int.reduceEq, Nat.reduceLeDiff]
    obtain ⟨f1, f2⟩ := fin _ k2
    exact ⟨f1, a, g2, rfl, f2⟩
  | some x1 =>
  obtain ⟨x1, L1⟩ := x1
  have hL1 := (num_some hn1).2.2.2
  rw [drop_nx g1.lt] at hL1
  subst hL1
  rw [hn1] at g2 hv2 hLT
  replace g2 : RdIn w2 g A c T (adv T a) := g2
  replace hv2 : Row w2 w.heap.size 43 [.int .i64 x1, .int .i64 0, .int .i64 0] := hv2
  generalize adv T a = a2 at *
  dsimp only at hLT
  simp +contextual (maxSteps := 2000000) (disch := (first | omega | (simp only [SZ]; done) | (simp only [SZ]; omega) | (simp only [TS] at *; omega))) only [RZ, gval, gslot, fillL, ovw, numb, catL, ldN, agL, okC, oneC, init, Nat.reduceAdd, Nat.reduceMul, Nat.reduceSub, Nat.reduceEqDiff, Nat.reduceLT, ↓reduceIte, Int.reduceToNat, Int.reduceAdd, Int.reduceSub, Int.reduceMul, Int.reduceLT, Int.reduceLE, Int.reduceEq, Nat.reduceLeDiff]
  refine (rdWord_any ⟨#[99, 111, 117, 110, 116]⟩ g2).mono ?_
  rintro e w3 ⟨rfl, g3, k3⟩
  refine ⟨_, rfl, ?_⟩
  have hv3 := hv2.kept k3 (by simp; omega)
  replace k3 := k2.trans (k3.less (Y := [g, w.heap.size]) fun x hx _ => by simp at hx ⊢; exact .inl hx)
  rw [show bs ⟨#[99, 111, 117, 110, 116]⟩ = asc "count" by kernel_rfl] at g3 ⊢
  cases hn2 : isT 1 (asc "count") (T.drop a2) with
  | none =>
    rw [hn2] at g3 hLT
    subst hLT
    simp +contextual (maxSteps := 2000000) (disch := (first | omega | (simp only [SZ]; done) | (simp only [SZ]; omega) | (simp only [TS] at *; omega))) only [RZ, gval, gslot, fillL, ovw, numb, catL, ldN, agL, okC, oneC, init, Nat.reduceAdd, Nat.reduceMul, Nat.reduceSub, Nat.reduceEqDiff, Nat.reduceLT, ↓reduceIte, Int.reduceToNat, Int.reduceAdd, Int.reduceSub, Int.reduceMul, Int.reduceLT, Int.reduceLE, Int.reduceEq, Nat.reduceLeDiff]
    refine W_if_t rfl ?_
    simp +contextual (maxSteps := 2000000) (disch := (first | omega | (simp only [SZ]; done) | (simp only [SZ]; omega) | (simp only [TS] at *; omega))) only [RZ, gval, gslot, fillL, ovw, numb, catL, ldN, agL, okC, oneC, init, Nat.reduceAdd, Nat.reduceMul, Nat.reduceSub, Nat.reduceEqDiff, Nat.reduceLT, ↓reduceIte, Int.reduceToNat, Int.reduceAdd, Int.reduceSub, Int.reduceMul, Int.reduceLT, Int.reduceLE, Int.reduceEq, Nat.reduceLeDiff]
    obtain ⟨f1, f2⟩ := fin _ k3
    exact ⟨f1, a2, g3, rfl, f2⟩
  | some L2 =>
  have hL2 := (is_some hn2).2.2
  rw [drop_nx g2.lt] at hL2
  subst hL2
  rw [hn2] at g3 hLT
  replace g3 : RdIn w3 g A c T (adv T a2) := g3
  generalize adv T a2 = a3 at *
  dsimp only at hLT
  simp +contextual (maxSteps := 2000000) (disch := (first | omega | (simp only [SZ]; done) | (simp only [SZ]; omega) | (simp only [TS] at *; omega))) only [RZ, gval, gslot, fillL, ovw, numb, catL, ldN, agL, okC, oneC, init, Nat.reduceAdd, Nat.reduceMul, Nat.reduceSub, Nat.reduceEqDiff, Nat.reduceLT, ↓reduceIte, Int.reduceToNat, Int.reduceAdd, Int.reduceSub, Int.reduceMul, Int.reduceLT, Int.reduceLE, Int.reduceEq, Nat.reduceLeDiff]
  refine (rdNumber_any w.heap.size 1 43 _ 0 g3 hv3 rfl (by omega) hAv).mono ?_
  rintro e w4 ⟨rfl, g4, k4, hv4⟩
  refine ⟨_, rfl, ?_⟩
  replace k4 := k3.trans k4
  cases hn3 : numT (T.drop a3) with
  | none =>
    rw [hn3] at g4 hv4 hLT
    subst hLT
    simp +contextual (maxSteps := 2000000) (disch := (first | omega | (simp only [SZ]; done) | (simp only [SZ]; omega) | (simp only [TS] at *; omega))) only [RZ, gval, gslot, fillL, ovw, numb, catL, ldN, agL, okC, oneC, init, Nat.reduceAdd, Nat.reduceMul, Nat.reduceSub, Nat.reduceEqDiff, Nat.reduceLT, ↓reduceIte, Int.reduceToNat, Int.reduceAdd, Int.reduceSub, Int.reduceMul, Int.reduceLT, Int.reduceLE, Int.reduceEq, Nat.reduceLeDiff]
    refine W_if_t rfl ?_
    simp +contextual (maxSteps := 2000000) (disch := (first | omega | (simp only [SZ]; done) | (simp only [SZ]; omega) | (simp only [TS] at *; omega))) only [RZ, gval, gslot, fillL, ovw, numb, catL, ldN, agL, okC, oneC, init, Nat.reduceAdd, Nat.reduceMul, Nat.reduceSub, Nat.reduceEqDiff, Nat.reduceLT, ↓reduceIte, Int.reduceToNat, Int.reduceAdd, Int.reduceSub, Int.reduceMul, Int.reduceLT, Int.reduceLE, Int.reduceEq, Nat.reduceLeDiff]
    obtain ⟨f1, f2⟩ := fin _ k4
    exact ⟨f1, a3, g4, rfl, f2⟩
  | some x2 =>
  obtain ⟨x2, L3⟩ := x2
  have hL3 := (num_some hn3).2.2.2
  rw [drop_nx g3.lt] at hL3
  subst hL3
  rw [hn3] at g4 hv4 hLT
  replace g4 : RdIn w4 g A c T (adv T a3) := g4
  replace hv4 : Row w4 w.heap.size 43 [.int .i64 x1, .int .i64 x2, .int .i64 0] := hv4
  generalize adv T a3 = a4 at *
  dsimp only at hLT
  simp +contextual (maxSteps := 2000000) (disch := (first | omega | (simp only [SZ]; done) | (simp only [SZ]; omega) | (simp only [TS] at *; omega))) only [RZ, gval, gslot, fillL, ovw, numb, catL, ldN, agL, okC, oneC, init, Nat.reduceAdd, Nat.reduceMul, Nat.reduceSub, Nat.reduceEqDiff, Nat.reduceLT, ↓reduceIte, Int.reduceToNat, Int.reduceAdd, Int.reduceSub, Int.reduceMul, Int.reduceLT, Int.reduceLE, Int.reduceEq, Nat.reduceLeDiff]
  refine W_if_f rfl ?_
  rw [W_skip, thenX_normal, W_seq]
  refine W_cut (fun σ w5 => ∃ (v : Lvl) (a5 : Nat), RdIn w5 g A c T a5 ∧ Row w5 w.heap.size 43 (encLvl v) ∧ Kept [g, w.heap.size] w w5 ∧ σ 1 = .pointer (some ⟨gP, 0, none⟩) ∧ σ 5 = .pointer (some ⟨w.heap.size, 0, none⟩) ∧
    LT = .ok (v, T.drop a5)) ?_ ?_
  rotate_left
  · simp +contextual (maxSteps := 2000000) (disch := (first | omega | (simp only [SZ]; done) | (simp only [SZ]; omega) | (simp only [TS] at *; omega))) only [RZ, gval, gslot, fillL, ovw, numb, catL, ldN, agL, okC, oneC, init, Nat.reduceAdd, Nat.reduceMul, Nat.reduceSub, Nat.reduceEqDiff, Nat.reduceLT, ↓reduceIte, Int.reduceToNat, Int.reduceAdd, Int.reduceSub, Int.reduceMul, Int.reduceLT, Int.reduceLE, Int.reduceEq, Nat.reduceLeDiff]
    refine (rdWord_any ⟨#[112, 97, 99, 107]⟩ g4).mono ?_
    rintro e w5 ⟨rfl, g5, k5⟩
    refine ⟨_, rfl, ?_⟩
    have hv5 := hv4.kept k5 (by simp; omega)
    replace k5 := k4.trans (k5.less (Y := [g, w.heap.size]) fun x hx _ => by simp at hx ⊢; exact .inl hx)
    rw [show bs ⟨#[112, 97, 99, 107]⟩ = asc "pack" by kernel_rfl] at g5 ⊢
    cases hn4 : isT 1 (asc "pack") (T.drop a4) with
    | none =>
      rw [hn4] at g5 hLT
      simp +contextual (maxSteps := 2000000) (disch := (first | omega | (simp only [SZ]; done) | (simp only [SZ]; omega) | (simp only [TS] at *; omega))) only [RZ, gval, gslot, fillL, ovw, numb, catL, ldN, agL, okC, oneC, init, Nat.reduceAdd, Nat.reduceMul, Nat.reduceSub, Nat.reduceEqDiff, Nat.reduceLT, ↓reduceIte, Int.reduceToNat, Int.reduceAdd, Int.reduceSub, Int.reduceMul, Int.reduceLT, Int.reduceLE, Int.reduceEq, Nat.reduceLeDiff]
      refine W_if_f rfl ?_
      simp +contextual (maxSteps := 2000000) (disch := (first | omega | (simp only [SZ]; done) | (simp only [SZ]; omega) | (simp only [TS] at *; omega))) only [RZ, gval, gslot, fillL, ovw, numb, catL, ldN, agL, okC, oneC, init, Nat.reduceAdd, Nat.reduceMul, Nat.reduceSub, Nat.reduceEqDiff, Nat.reduceLT, ↓reduceIte, Int.reduceToNat, Int.reduceAdd, Int.reduceSub, Int.reduceMul, Int.reduceLT, Int.reduceLE, Int.reduceEq, Nat.reduceLeDiff,  cutX_normal, cutX_ret, cutX_exit, cut2X_normal, cut2X_ret, cut2X_same, cut2X_ne]
      exact ⟨⟨x1, x2, 0⟩, a4, g5, hv5, k5, hLT.symm⟩
    | some L4 =>
    have hL4 := (is_some hn4).2.2
    rw [drop_nx g4.lt] at hL4
    subst hL4
    rw [hn4] at g5 hLT
    replace g5 : RdIn w5 g A c T (adv T a4) := g5
    generalize adv T a4 = a5 at *
    dsimp only at hLT
    simp +contextual (maxSteps := 2000000) (disch := (first | omega | (simp only [SZ]; done) | (simp only [SZ]; omega) | (simp only [TS] at *; omega))) only [RZ, gval, gslot, fillL, ovw, numb, catL, ldN, agL, okC, oneC, init, Nat.reduceAdd, Nat.reduceMul, Nat.reduceSub, Nat.reduceEqDiff, Nat.reduceLT, ↓reduceIte, Int.reduceToNat, Int.reduceAdd, Int.reduceSub, Int.reduceMul, Int.reduceLT, Int.reduceLE, Int.reduceEq, Nat.reduceLeDiff]
    refine (rdNumber_any w.heap.size 2 43 _ 0 g5 hv5 rfl (by omega) hAv).mono ?_
    rintro e w6 ⟨rfl, g6, k6, hv6⟩
    refine ⟨_, rfl, ?_⟩
    replace k6 := k5.trans k6
    cases hn5 : numT (T.drop a5) with
    | none =>
      rw [hn5] at g6 hv6 hLT
      subst hLT
      simp +contextual (maxSteps := 2000000) (disch := (first | omega | (simp only [SZ]; done) | (simp only [SZ]; omega) | (simp only [TS] at *; omega))) only [RZ, gval, gslot, fillL, ovw, numb, catL, ldN, agL, okC, oneC, init, Nat.reduceAdd, Nat.reduceMul, Nat.reduceSub, Nat.reduceEqDiff, Nat.reduceLT, ↓reduceIte, Int.reduceToNat, Int.reduceAdd, Int.reduceSub, Int.reduceMul, Int.reduceLT, Int.reduceLE, Int.reduceEq, Nat.reduceLeDiff]
      refine W_if_t rfl ?_
      simp +contextual (maxSteps := 2000000) (disch := (first | omega | (simp only [SZ]; done) | (simp only [SZ]; omega) | (simp only [TS] at *; omega))) only [RZ, gval, gslot, fillL, ovw, numb, catL, ldN, agL, okC, oneC, init, Nat.reduceAdd, Nat.reduceMul, Nat.reduceSub, Nat.reduceEqDiff, Nat.reduceLT, ↓reduceIte, Int.reduceToNat, Int.reduceAdd, Int.reduceSub, Int.reduceMul, Int.reduceLT, Int.reduceLE, Int.reduceEq, Nat.reduceLeDiff,  cutX_normal, cutX_ret, cutX_exit, cut2X_normal, cut2X_ret, cut2X_same, cut2X_ne]
      obtain ⟨f1, f2⟩ := fin _ k6
      exact ⟨f1, a5, g6, rfl, f2⟩
    | some x3 =>
    obtain ⟨x3, L5⟩ := x3
    have hL5 := (num_some hn5).2.2.2
    rw [drop_nx g5.lt] at hL5
    subst hL5
    rw [hn5] at g6 hv6 hLT
    replace g6 : RdIn w6 g A c T (adv T a5) := g6
    replace hv6 : Row w6 w.heap.size 43 [.int .i64 x1, .int .i64 x2, .int .i64 x3] := hv6
    generalize adv T a5 = a6 at *
    simp +contextual (maxSteps := 2000000) (disch := (first | omega | (simp only [SZ]; done) | (simp only [SZ]; omega) | (simp only [TS] at *; omega))) only [RZ, gval, gslot, fillL, ovw, numb, catL, ldN, agL, okC, oneC, init, Nat.reduceAdd, Nat.reduceMul, Nat.reduceSub, Nat.reduceEqDiff, Nat.reduceLT, ↓reduceIte, Int.reduceToNat, Int.reduceAdd, Int.reduceSub, Int.reduceMul, Int.reduceLT, Int.reduceLE, Int.reduceEq, Nat.reduceLeDiff]
    refine W_if_f rfl ?_
    simp +contextual (maxSteps := 2000000) (disch := (first | omega | (simp only [SZ]; done) | (simp only [SZ]; omega) | (simp only [TS] at *; omega))) only [RZ, gval, gslot, fillL, ovw, numb, catL, ldN, agL, okC, oneC, init, Nat.reduceAdd, Nat.reduceMul, Nat.reduceSub, Nat.reduceEqDiff, Nat.reduceLT, ↓reduceIte, Int.reduceToNat, Int.reduceAdd, Int.reduceSub, Int.reduceMul, Int.reduceLT, Int.reduceLE, Int.reduceEq, Nat.reduceLeDiff,  cutX_normal, cutX_ret, cutX_exit, cut2X_normal, cut2X_ret, cut2X_same, cut2X_ne]
    exact ⟨⟨x1, x2, x3⟩, a6, g6, hv6, k6, hLT.symm⟩
  clear hv4 g4 k4
  rintro σ w5 ⟨v, a5, g5, hv5, k5, s1, s5, hres⟩
  clear hLT
  subst hres
  simp +contextual (maxSteps := 2000000) (disch := (first | omega | (simp only [SZ]; done) | (simp only [SZ]; omega) | (simp only [TS] at *; omega))) only [RZ, gval, gslot, fillL, ovw, numb, catL, ldN, agL, okC, oneC, init, Nat.reduceAdd, Nat.reduceMul, Nat.reduceSub, Nat.reduceEqDiff, Nat.reduceLT, ↓reduceIte, Int.reduceToNat, Int.reduceAdd, Int.reduceSub, Int.reduceMul, Int.reduceLT, Int.reduceLE, Int.reduceEq, Nat.reduceLeDiff]
  have k6 := k5.drew
  have g6 : RdIn w5.drew g A c T a5 := ⟨g5.lt, g5.big, g5.arr, g5.off, g5.row, g5.szs⟩
  have hv6 : Row w5.drew w.heap.size 43 (encLvl v) := hv5
  obtain ⟨AL, cL, q1, q2⟩ := (fin _ k6).2
  refine Raw_ordX [1, 2, 3, 4, 5, 6] (fun w' => w'.cell? ⟨gP, 4, none⟩ = some (.slice AL p.levels.length cL) ∧ Row w' w.heap.size 43 (encLvl v)) 11 rfl MX ?_
  generalize w5.drew = w6 at *
  have d4 := q1.cell (i := 4) rfl
  have y4 := q1.frozen 4
  have v0 := hv6.cell (i := 0) rfl
  have v1 := hv6.cell (i := 1) rfl
  have v2 := hv6.cell (i := 2) rfl
  have hz6 := k6.size
  have hI : sliceI Tryd.prog 22 = some (43, 3, 24) := by kernel_rfl
  obtain ⟨A', c', w7, he, hown7, hb7, hs7⟩ := push1 (P := Tryd.prog) (T := 22) (ty := 22) (news := encLvl v) q2 (by omega) hI rfl (fun u hu => by simp only [encLvl, List.mem_cons, List.not_mem_nil, or_false] at hu; rcases hu with rfl | rfl | rfl <;> rfl) (by omega) (by decide)
  rw [show (encLvl v).toArray = #[.int .i64 v.prize, .int .i64 v.count, .int .i64 v.pack] from rfl] at he
  refine OrdX_readsU (τ := ?tz) [0] 10 rfl (by kernel_rfl) (by kernel_rfl) (by kernel_rfl) (fun _ _ _ h => h) (fun w' => ?_) ?_; rotate_left
  · simp only [opsL_cons, opsL_nil, List.getElem?_toArray, List.getElem?_cons_zero, List.getElem?_cons_succ, optL_some]
    simp +contextual (maxSteps := 2000000) (disch := (first | omega | (simp only [SZ]; done) | (simp only [SZ]; omega) | (simp only [TS] at *; omega))) only [RZ, gval, gslot, fillL, ovw, numb, catL, ldN, agL, okC, oneC, init, Nat.reduceAdd, Nat.reduceMul, Nat.reduceSub, Nat.reduceEqDiff, Nat.reduceLT, ↓reduceIte, Int.reduceToNat, Int.reduceAdd, Int.reduceSub, Int.reduceMul, Int.reduceLT, Int.reduceLE, Int.reduceEq, Nat.reduceLeDiff,  s1]
    exact rfl
  refine OrdX_reads (τ := ?ta) [1, 2, 3, 4, 5] 5 rfl (by kernel_rfl) (by kernel_rfl) (fun _ _ _ h => h) ⟨d4, hv6⟩ (fun w8 h8 => ?_) ?_; rotate_left
  · obtain ⟨h84, h8v⟩ := h8
    have v0 := h8v.cell (i := 0) rfl
    have v1 := h8v.cell (i := 1) rfl
    have v2 := h8v.cell (i := 2) rfl
    simp only [opsL_cons, opsL_nil, List.getElem?_toArray, List.getElem?_cons_zero, List.getElem?_cons_succ, optL_some]
    simp +contextual (maxSteps := 2000000) (disch := (first | omega | (simp only [SZ]; done) | (simp only [SZ]; omega) | (simp only [TS] at *; omega))) only [RZ, gval, gslot, fillL, ovw, numb, catL, ldN, agL, okC, oneC, init, Nat.reduceAdd, Nat.reduceMul, Nat.reduceSub, Nat.reduceEqDiff, Nat.reduceLT, ↓reduceIte, Int.reduceToNat, Int.reduceAdd, Int.reduceSub, Int.reduceMul, Int.reduceLT, Int.reduceLE, Int.reduceEq, Nat.reduceLeDiff,  s1, s5, h84, v0, v1, v2]
    exact rfl
  refine OrdX_one 6 (by kernel_rfl) rfl ?_
  have hgP6 := q1.lt
  simp +contextual (maxSteps := 2000000) (disch := (first | omega | (simp only [SZ]; done) | (simp only [SZ]; omega) | (simp only [TS] at *; omega))) only [RZ, gval, gslot, fillL, ovw, numb, catL, ldN, agL, okC, oneC, init, Nat.reduceAdd, Nat.reduceMul, Nat.reduceSub, Nat.reduceEqDiff, Nat.reduceLT, ↓reduceIte, Int.reduceToNat, Int.reduceAdd, Int.reduceSub, Int.reduceMul, Int.reduceLT, Int.reduceLE, Int.reduceEq, Nat.reduceLeDiff]
  refine ⟨⟨d4, hv6.alloc _⟩, ?_⟩
  refine OrdX_chain [7, 8, 9, 10] _ _ _ (by kernel_rfl) (by kernel_rfl) ?_
  simp only [opsL_cons, opsL_nil, List.getElem?_toArray, List.getElem?_cons_zero, List.getElem?_cons_succ, optL_some]
  have d7 := (hb7.cell (p := ⟨gP, 4, none⟩) h2).trans d4
  have y7 := ((bcell hb7).2 gP 4 h2).trans y4
  simp +contextual (maxSteps := 2000000) (disch := (first | omega | (simp only [SZ]; done) | (simp only [SZ]; omega) | (simp only [TS] at *; omega))) only [RZ, gval, gslot, fillL, ovw, numb, catL, ldN, agL, okC, oneC, init, Nat.reduceAdd, Nat.reduceMul, Nat.reduceSub, Nat.reduceEqDiff, Nat.reduceLT, ↓reduceIte, Int.reduceToNat, Int.reduceAdd, Int.reduceSub, Int.reduceMul, Int.reduceLT, Int.reduceLE, Int.reduceEq, Nat.reduceLeDiff,  s1, s5, he, d7, y7]
  have kb : KeptB base [g, gP] w w7 := (fin _ k6).1.trans (KeptB.of_below hb7)
  have hq7 : Row w7 gP 24 _ := q1.of_block (hb7.block _ h2)
  have g7 : RdIn w7 g A c T a5 := ⟨g6.lt, g6.big, Arr.keptB g6.arr (KeptB.of_below (X := []) hb7) (fun b o e => ⟨h3 b o e, by simp⟩), g6.off, g6.row.of_block (hb7.block _ h1), g6.szs⟩
  have kx : Kept [gP] w7 (w7.setCell ⟨gP, 4, none⟩ (.slice A' (p.levels.length + 1) c')) := (Kept.refl _ _).setCell (p := ⟨gP, 4, none⟩) (by simp) _
  have hb7s : base ≤ w7.heap.size := by omega
  refine ⟨kb.trans (KeptB.of_kept kx hb7s fun x hx _ => by simp at hx ⊢; exact .inr hx), a5, g7.kept kx (by simp; omega) (fun b o e => by have := hgA b o e; simp; omega), rfl, A', c', ?_, ?_⟩
  · rw [List.length_append]
    exact hq7.set_ (i := 4) (by simp) (.slice A' (p.levels.length + 1) c')
  · rw [List.length_append, List.flatMap_append, List.flatMap_cons, List.flatMap_nil, List.append_nil]
    exact owns_keep hown7 fun g' hg' => kx.block g' (owns_ge hown7 hg').2 (by have := (owns_ge hown7 hg').1; simp; omega)
end
end Go.Proofs.YtcnlopjjejdahaaDoor
/- Walks: the reader of a plan's tokens: plan. -/
namespace Go.Proofs.YtcnlopjjejdahaaDoor
open Go.RowKit
set_option maxRecDepth 100000
theorem isAgg_int {P : Program} {e : TypeId} {k : IntKind} {w : World} (he : P.underlying e = some (.int k)) : (isAgg e).run P w = .ok false w := by
  unfold isAgg
  rw [Sem.run_bind, run_underlying he w]
  simp
theorem isAgg_str {P : Program} {e : TypeId} {w : World} (he : P.underlying e = some .string) : (isAgg e).run P w = .ok false w := by
  unfold isAgg
  rw [Sem.run_bind, run_underlying he w]
  simp
theorem tkKind (t : Tk) (w : World) : vField Tryd.prog 63 (.agg #[.int .i64 t.kind, .int .i64 t.line, .int .i64 t.col, .string t.text]) 0 w = .ok (.value (.int .i64 t.kind)) w := by
  simp [vField, Instr.field, Sem.run_bind, run_underlying Tryd.underlying63 w, part, isAgg_int Tryd.underlying3, asAgg]
theorem tkLine (t : Tk) (w : World) : vField Tryd.prog 63 (.agg #[.int .i64 t.kind, .int .i64 t.line, .int .i64 t.col, .string t.text]) 1 w = .ok (.value (.int .i64 t.line)) w := by
  simp [vField, Instr.field, Sem.run_bind, run_underlying Tryd.underlying63 w, part, isAgg_int Tryd.underlying3, asAgg]
theorem tkText (t : Tk) (w : World) : vField Tryd.prog 63 (.agg #[.int .i64 t.kind, .int .i64 t.line, .int .i64 t.col, .string t.text]) 3 w = .ok (.value (.string t.text)) w := by
  simp [vField, Instr.field, Sem.run_bind, run_underlying Tryd.underlying63 w, part, isAgg_str Tryd.underlying9, asAgg]
theorem adv_ge (T : List Tk) (a : Nat) : a ≤ adv T a := by unfold adv; split <;> omega
def atOf (w : World) (g : Nat) : Nat := match w.cell? ⟨g, 1, none⟩ with
  | some (.int _ n) => n.toNat
  | _ => 0
section
variable {g c a gP base : Nat} {A : Option Addr} {T : List Tk} {w : World} {p : Pl}
theorem RdIn.at_ (h : RdIn w g A c T a) : atOf w g = a := by
  unfold atOf
  rw [h.row.cell (i := 1) rfl]
  exact Int.toNat_natCast a
theorem PlIn.keptB {X : List Nat} {w w' : World} (h : PlIn w gP base p) (k : Kept X w w') (hg : gP ∉ X) (hX : ∀ x ∈ X, x < base) : PlIn w' gP base p := h.kept k hg fun x hx _ => hX x hx
set_option maxHeartbeats 1000000 in
theorem rdPlan_any (h : RdIn w g A c T a) (hP : PlIn w gP base noPl) (hgg : gP ≠ g) (hgA : ∀ b o, A = some ⟨b, o, none⟩ → b ≠ gP) (hb : base ≤ w.heap.size) (h1 : g < base) (h2 : gP < base) (h3 : ∀ b o, A = some ⟨b, o, none⟩ → b < base) :
    Calls Tryd.prog 37 #[.pointer (some ⟨g, 0, none⟩), .pointer (some ⟨gP, 0, none⟩)] w fun e w' => KeptB base [g, gP] w w' ∧ ∃ a', RdIn w' g A c T a' ∧ match planT (T.drop a) with
      | .ok q => e = .returned (.int .i64 0) ∧ PlIn w' gP base q
      | .error (er, L') => e = .returned (.int .i64 er) ∧ er ≠ 0 ∧ L' = T.drop a' := by
  refine calls_W (l := [_, _]) Tryd.func37 rfl _ Tryd.ntmps37 (by simp) ?_
  generalize hR : planT (T.drop a) = R
  unfold planT thenT at hR
  have fin : ∀ w', Kept [g] w w' → KeptB base [g, gP] w w' ∧ PlIn w' gP base noPl := fun w' k =>
    ⟨KeptB.of_kept k hb (fun x hx hlt => by simp at hx ⊢; exact .inl hx), hP.kept k (by simp; omega) (fun x hx hlt => by simp at hx; omega)⟩
  simp +contextual (maxSteps := 2000000) (disch := (first | omega | (simp only [SZ]; done) | (simp only [SZ]; omega) | (simp only [TS] at *; omega))) only [RZ, gval, gslot, fillL, ovw, numb, catL, ldN, agL, okC, oneC, init, Nat.reduceAdd, Nat.reduceMul, Nat.reduceSub, Nat.reduceEqDiff, Nat.reduceLT, ↓reduceIte, Int.reduceToNat, Int.reduceAdd, Int.reduceSub, Int.reduceMul, Int.reduceLT, Int.reduceLE, Int.reduceEq, Nat.reduceLeDiff]
  refine (rdWord_any ⟨#[100, 101, 99, 107]⟩ h).mono ?_
  rintro e w1 ⟨rfl, g1, k1⟩
  refine ⟨_, rfl, ?_⟩
  rw [show bs ⟨#[100, 101, 99, 107]⟩ = asc "deck" by kernel_rfl] at g1 ⊢
  cases hn1 : isT 1 (asc "deck") (T.drop a) with
  | none =>
    rw [hn1] at g1 hR
    subst hR
    simp +contextual (maxSteps := 2000000) (disch := (first | omega | (simp only [SZ]; done) | (simp only [SZ]; omega) | (simp only [TS] at *; omega))) only [RZ, gval, gslot, fillL, ovw, numb, catL, ldN, agL, okC, oneC, init, Nat.reduceAdd, Nat.reduceMul, Nat.reduceSub, Nat.reduceEqDiff, Nat.reduceLT, ↓reduceIte, Int.reduceToNat, Int.reduceAdd, Int.reduceSub, Int.reduceMul, Int.reduceLT, Int.reduceLE, Int.reduceEq, Nat.reduceLeDiff]
    refine W_if_t rfl ?_
    simp +contextual (maxSteps := 2000000) (disch := (first | omega | (simp only [SZ]; done) | (simp only [SZ]; omega) | (simp only [TS] at *; omega))) only [RZ, gval, gslot, fillL, ovw, numb, catL, ldN, agL, okC, oneC, init, Nat.reduceAdd, Nat.reduceMul, Nat.reduceSub, Nat.reduceEqDiff, Nat.reduceLT, ↓reduceIte, Int.reduceToNat, Int.reduceAdd, Int.reduceSub, Int.reduceMul, Int.reduceLT, Int.reduceLE, Int.reduceEq, Nat.reduceLeDiff]
    exact ⟨(fin _ k1).1, a, g1, by decide, rfl⟩
  | some L1 =>
  have hL1 := (is_some hn1).2.2
  rw [drop_nx h.lt] at hL1
  subst hL1
  rw [hn1] at g1 hR
  replace g1 : RdIn w1 g A c T (adv T a) := g1
  have ha1 := adv_ge T a
  generalize adv T a = a1 at *
  dsimp only at hR
  simp +contextual (maxSteps := 2000000) (disch := (first | omega | (simp only [SZ]; done) | (simp only [SZ]; omega) | (simp only [TS] at *; omega))) only [RZ, gval, gslot, fillL, ovw, numb, catL, ldN, agL, okC, oneC, init, Nat.reduceAdd, Nat.reduceMul, Nat.reduceSub, Nat.reduceEqDiff, Nat.reduceLT, ↓reduceIte, Int.reduceToNat, Int.reduceAdd, Int.reduceSub, Int.reduceMul, Int.reduceLT, Int.reduceLE, Int.reduceEq, Nat.reduceLeDiff]
  refine (rdNext_any g1).mono ?_
  rintro e w2 ⟨rfl, hB2⟩
  refine ⟨_, rfl, ?_⟩
  have g2 := g1.below hB2
  have k2 := k1.trans (Kept.of_below hB2)
  generalize ht : hdT (T.drop a1) = t at *
  rw [show (encTk t).toArray = #[.int .i64 t.kind, .int .i64 t.line, .int .i64 t.col, .string t.text] from rfl]
  by_cases hk : t.kind = 1
  rotate_left
  · rw [if_pos hk] at hR
    subst hR
    have e1 : (t.kind = 1) = False := eq_false hk
    simp +contextual (maxSteps := 2000000) (disch := (first | omega | (simp only [SZ]; done) | (simp only [SZ]; omega) | (simp only [TS] at *; omega))) only [RZ, gval, gslot, fillL, ovw, numb, catL, ldN, agL, okC, oneC, init, Nat.reduceAdd, Nat.reduceMul, Nat.reduceSub, Nat.reduceEqDiff, Nat.reduceLT, ↓reduceIte, Int.reduceToNat, Int.reduceAdd, Int.reduceSub, Int.reduceMul, Int.reduceLT, Int.reduceLE, Int.reduceEq, Nat.reduceLeDiff,  tkKind, e1]
    refine W_if_t rfl ?_
    simp +contextual (maxSteps := 2000000) (disch := (first | omega | (simp only [SZ]; done) | (simp only [SZ]; omega) | (simp only [TS] at *; omega))) only [RZ, gval, gslot, fillL, ovw, numb, catL, ldN, agL, okC, oneC, init, Nat.reduceAdd, Nat.reduceMul, Nat.reduceSub, Nat.reduceEqDiff, Nat.reduceLT, ↓reduceIte, Int.reduceToNat, Int.reduceAdd, Int.reduceSub, Int.reduceMul, Int.reduceLT, Int.reduceLE, Int.reduceEq, Nat.reduceLeDiff]
    exact ⟨(fin _ k2).1, a1, g2, by decide, rfl⟩
  rw [if_neg (fun h => h hk)] at hR
  have e1 : (t.kind = 1) = True := eq_true hk
  simp +contextual (maxSteps := 2000000) (disch := (first | omega | (simp only [SZ]; done) | (simp only [SZ]; omega) | (simp only [TS] at *; omega))) only [RZ, gval, gslot, fillL, ovw, numb, catL, ldN, agL, okC, oneC, init, Nat.reduceAdd, Nat.reduceMul, Nat.reduceSub, Nat.reduceEqDiff, Nat.reduceLT, ↓reduceIte, Int.reduceToNat, Int.reduceAdd, Int.reduceSub, Int.reduceMul, Int.reduceLT, Int.reduceLE, Int.reduceEq, Nat.reduceLeDiff,  tkKind, e1]
  refine W_if_f rfl ?_
  simp +contextual (maxSteps := 2000000) (disch := (first | omega | (simp only [SZ]; done) | (simp only [SZ]; omega) | (simp only [TS] at *; omega))) only [RZ, gval, gslot, fillL, ovw, numb, catL, ldN, agL, okC, oneC, init, Nat.reduceAdd, Nat.reduceMul, Nat.reduceSub, Nat.reduceEqDiff, Nat.reduceLT, ↓reduceIte, Int.reduceToNat, Int.reduceAdd, Int.reduceSub, Int.reduceMul, Int.reduceLT, Int.reduceLE, Int.reduceEq, Nat.reduceLeDiff]
  refine (rdNext_any g2).mono ?_
  rintro e w3 ⟨rfl, hB3⟩
  refine ⟨_, rfl, ?_⟩
  have g3 := g2.below hB3
  have k3 := k2.trans (Kept.of_below hB3)
  rw [ht, show (encTk t).toArray = #[.int .i64 t.kind, .int .i64 t.line, .int .i64 t.col, .string t.text] from rfl]
  obtain ⟨hkb3, hP3⟩ := fin _ k3
  obtain ⟨AL, cL, q1, q2⟩ := hP3
  have d0 := q1.cell (i := 0) rfl
  have y0 := q1.frozen 0
  simp +contextual (maxSteps := 2000000) (disch := (first | omega | (simp only [SZ]; done) | (simp only [SZ]; omega) | (simp only [TS] at *; omega))) only [RZ, gval, gslot, fillL, ovw, numb, catL, ldN, agL, okC, oneC, init, Nat.reduceAdd, Nat.reduceMul, Nat.reduceSub, Nat.reduceEqDiff, Nat.reduceLT, ↓reduceIte, Int.reduceToNat, Int.reduceAdd, Int.reduceSub, Int.reduceMul, Int.reduceLT, Int.reduceLE, Int.reduceEq, Nat.reduceLeDiff,  tkText, d0, y0]
  have kx : Kept [gP] w3 (w3.setCell ⟨gP, 0, none⟩ (.string t.text)) := (Kept.refl _ _).setCell (p := ⟨gP, 0, none⟩) (by simp) _
  have hz3 := hkb3.size
  have kb4 := hkb3.trans (KeptB.of_kept kx (by omega) fun x hx _ => by simp at hx ⊢; exact .inr hx)
  have g4 := g3.kept kx (by simp; omega) (fun b o e => by have := hgA b o e; simp; omega)
  have hP4 : PlIn (w3.setCell ⟨gP, 0, none⟩ (.string t.text)) gP base { noPl with name := t.text } :=
    ⟨AL, cL, q1.set_ (i := 0) (by simp) (.string t.text), owns_keep q2 fun g' hg' => kx.block g' (owns_ge q2 hg').2 (by have := (owns_ge q2 hg').1; simp; omega)⟩
  have hz4 := kb4.size
  generalize w3.setCell ⟨gP, 0, none⟩ (.string t.text) = w4 at *
  refine (rdSkip_any g4).mono ?_
  rintro e w5 ⟨⟨v, rfl⟩, g5, k5⟩
  refine ⟨_, rfl, ?_⟩
  have kb5 := kb4.trans (KeptB.of_kept k5 (by omega) fun x hx _ => by simp at hx ⊢; exact .inl hx)
  have hP5 := hP4.keptB k5 (by simp; omega) (fun x hx => by simp at hx; omega)
  rw [drop_nx g1.lt] at hR
  have ha2 := adv_ge T a1
  generalize adv T a1 = a2 at *
  have hz5 := kb5.size
  simp +contextual (maxSteps := 2000000) (disch := (first | omega | (simp only [SZ]; done) | (simp only [SZ]; omega) | (simp only [TS] at *; omega))) only [RZ, gval, gslot, fillL, ovw, numb, catL, ldN, agL, okC, oneC, init, Nat.reduceAdd, Nat.reduceMul, Nat.reduceSub, Nat.reduceEqDiff, Nat.reduceLT, ↓reduceIte, Int.reduceToNat, Int.reduceAdd, Int.reduceSub, Int.reduceMul, Int.reduceLT, Int.reduceLE, Int.reduceEq, Nat.reduceLeDiff]
  refine (rdMark_any ⟨#[123]⟩ g5).mono ?_
  rintro e w6 ⟨rfl, g6, k6⟩
  refine ⟨_, rfl, ?_⟩
  rw [show bs ⟨#[123]⟩ = asc "{" by kernel_rfl] at g6 ⊢
  have kb6 := kb5.trans (KeptB.of_kept k6 (by omega) fun x hx _ => by simp at hx ⊢; exact .inl hx)
  have hP6 := hP5.keptB k6 (by simp; omega) (fun x hx => by simp at hx; omega)
  have hz6 := kb6.size
  cases hn3 : isT 3 (asc "{") (T.drop a2) with
  | none =>
    rw [hn3] at g6 hR
    subst hR
    simp +contextual (maxSteps := 2000000) (disch := (first | omega | (simp only [SZ]; done) | (simp only [SZ]; omega) | (simp only [TS] at *; omega))) only [RZ, gval, gslot, fillL, ovw, numb, catL, ldN, agL, okC, oneC, init, Nat.reduceAdd, Nat.reduceMul, Nat.reduceSub, Nat.reduceEqDiff, Nat.reduceLT, ↓reduceIte, Int.reduceToNat, Int.reduceAdd, Int.reduceSub, Int.reduceMul, Int.reduceLT, Int.reduceLE, Int.reduceEq, Nat.reduceLeDiff]
    refine W_if_t rfl ?_
    simp +contextual (maxSteps := 2000000) (disch := (first | omega | (simp only [SZ]; done) | (simp only [SZ]; omega) | (simp only [TS] at *; omega))) only [RZ, gval, gslot, fillL, ovw, numb, catL, ldN, agL, okC, oneC, init, Nat.reduceAdd, Nat.reduceMul, Nat.reduceSub, Nat.reduceEqDiff, Nat.reduceLT, ↓reduceIte, Int.reduceToNat, Int.reduceAdd, Int.reduceSub, Int.reduceMul, Int.reduceLT, Int.reduceLE, Int.reduceEq, Nat.reduceLeDiff]
    exact ⟨kb6, a2, g6, by decide, rfl⟩
  | some L3 =>
  have hL3 := (is_some hn3).2.2
  rw [drop_nx g5.lt] at hL3
  subst hL3
  rw [hn3] at g6 hR
  replace g6 : RdIn w6 g A c T (adv T a2) := g6
  have ha3 := adv_ge T a2
  generalize adv T a2 = a3 at *
  dsimp only at hR
  simp +contextual (maxSteps := 2000000) (disch := (first | omega | (simp only [SZ]; done) | (simp only [SZ]; omega) | (simp only [TS] at *; omega))) only [RZ, gval, gslot, fillL, ovw, numb, catL, ldN, agL, okC, oneC, init, Nat.reduceAdd, Nat.reduceMul, Nat.reduceSub, Nat.reduceEqDiff, Nat.reduceLT, ↓reduceIte, Int.reduceToNat, Int.reduceAdd, Int.reduceSub, Int.reduceMul, Int.reduceLT, Int.reduceLE, Int.reduceEq, Nat.reduceLeDiff]
  refine W_if_f rfl ?_
  simp +contextual (maxSteps := 2000000) (disch := (first | omega | (simp only [SZ]; done) | (simp only [SZ]; omega) | (simp only [TS] at *; omega))) only [RZ, gval, gslot, fillL, ovw, numb, catL, ldN, agL, okC, oneC, init, Nat.reduceAdd, Nat.reduceMul, Nat.reduceSub, Nat.reduceEqDiff, Nat.reduceLT, ↓reduceIte, Int.reduceToNat, Int.reduceAdd, Int.reduceSub, Int.reduceMul, Int.reduceLT, Int.reduceLE, Int.reduceEq, Nat.reduceLeDiff]
  refine Raw_loop (fun σ w7 => ∃ (a : Nat) (q : Pl) (pr pa : Bool) (f : Nat), RdIn w7 g A c T a ∧ PlIn w7 gP base q ∧ q.levels.length ≤ a ∧ T.length - a < f ∧ itemsT f (T.drop a) q pr pa = R ∧ KeptB base [g, gP] w w7 ∧
    σ 0 = .pointer (some ⟨g, 0, none⟩) ∧ σ 1 = .pointer (some ⟨gP, 0, none⟩) ∧ σ 5 = .bool pr ∧ σ 6 = .bool pa) (fun _ w7 => T.length - atOf w7 g) ?_ ?_
  · simp +contextual (maxSteps := 2000000) (disch := (first | omega | (simp only [SZ]; done) | (simp only [SZ]; omega) | (simp only [TS] at *; omega))) only [RZ, gval, gslot, fillL, ovw, numb, catL, ldN, agL, okC, oneC, init, Nat.reduceAdd, Nat.reduceMul, Nat.reduceSub, Nat.reduceEqDiff, Nat.reduceLT, ↓reduceIte, Int.reduceToNat, Int.reduceAdd, Int.reduceSub, Int.reduceMul, Int.reduceLT, Int.reduceLE, Int.reduceEq, Nat.reduceLeDiff]
    exact ⟨a3, { noPl with name := t.text }, false, false, (T.drop a).length + 1, g6, hP6, Nat.zero_le _, by rw [List.length_drop]; omega, hR, kb6, rfl, rfl⟩
  clear hR g6 hP6 kb6 g5 hP5 kb5 g4 hP4 kb4 g3 g2 g1 fin ht e1 hk hn1 hn3 h hP q1 q2 d0 y0 hz3 hz4 hz5 hz6 k5 k6 kx k3 k2 k1 hB2 hB3 hkb3 ha1 ha2 ha3
  clear t a1 a2 a3 AL cL w1 w2 w3 w4 w5 w6
  rintro σ w7 ⟨a, q, pr, pa, f, g7, hP7, hql, hf, hR, kb7, f0, f1, f5, f6⟩ K hK
  have hz7 := kb7.size
  have hat : atOf w7 g = a := g7.at_
  obtain ⟨f, rfl⟩ : ∃ f', f = f' + 1 := ⟨f - 1, by omega⟩
  rw [itemsT] at hR
  simp +contextual (maxSteps := 2000000) (disch := (first | omega | (simp only [SZ]; done) | (simp only [SZ]; omega) | (simp only [TS] at *; omega))) only [RZ, gval, gslot, fillL, ovw, numb, catL, ldN, agL, okC, oneC, init, Nat.reduceAdd, Nat.reduceMul, Nat.reduceSub, Nat.reduceEqDiff, Nat.reduceLT, ↓reduceIte, Int.reduceToNat, Int.reduceAdd, Int.reduceSub, Int.reduceMul, Int.reduceLT, Int.reduceLE, Int.reduceEq, Nat.reduceLeDiff,  f0, f1, f5, f6]
  refine (rdMark_any ⟨#[125]⟩ g7).mono ?_
  rintro e w8 ⟨rfl, g8, k8⟩
  refine ⟨_, rfl, ?_⟩
  rw [show bs ⟨#[125]⟩ = asc "}" by kernel_rfl] at g8 ⊢
  have kb8 := kb7.trans (KeptB.of_kept k8 (by omega) fun x hx _ => by simp at hx ⊢; exact .inl hx)
  have hP8 := hP7.keptB k8 (by simp; omega) (fun x hx => by simp at hx; omega)
  have hz8 := kb8.size
  cases hn1 : isT 3 (asc "}") (T.drop a) with
  | some L1 =>
    have hL1 := (is_some hn1).2.2
    rw [drop_nx g7.lt] at hL1
    subst hL1
    rw [hn1] at g8 hR
    replace g8 : RdIn w8 g A c T (adv T a) := g8
    generalize adv T a = a1 at *
    dsimp only at hR
    simp +contextual (maxSteps := 2000000) (disch := (first | omega | (simp only [SZ]; done) | (simp only [SZ]; omega) | (simp only [TS] at *; omega))) only [RZ, gval, gslot, fillL, ovw, numb, catL, ldN, agL, okC, oneC, init, Nat.reduceAdd, Nat.reduceMul, Nat.reduceSub, Nat.reduceEqDiff, Nat.reduceLT, ↓reduceIte, Int.reduceToNat, Int.reduceAdd, Int.reduceSub, Int.reduceMul, Int.reduceLT, Int.reduceLE, Int.reduceEq, Nat.reduceLeDiff,  f0, f1, f5, f6]
    refine W_if_f rfl ?_
    simp +contextual (maxSteps := 2000000) (disch := (first | omega | (simp only [SZ]; done) | (simp only [SZ]; omega) | (simp only [TS] at *; omega))) only [RZ, gval, gslot, fillL, ovw, numb, catL, ldN, agL, okC, oneC, init, Nat.reduceAdd, Nat.reduceMul, Nat.reduceSub, Nat.reduceEqDiff, Nat.reduceLT, ↓reduceIte, Int.reduceToNat, Int.reduceAdd, Int.reduceSub, Int.reduceMul, Int.reduceLT, Int.reduceLE, Int.reduceEq, Nat.reduceLeDiff,  f0, f1, f5, f6]
    refine (rdNext_any g8).mono ?_
    rintro e w9 ⟨rfl, hB9⟩
    refine ⟨_, rfl, ?_⟩
    have g9 := g8.below hB9
    have hP9 := hP8.keptB (Kept.of_below (X := []) hB9) (by simp) (fun x hx => by simp at hx)
    have kb9 := kb8.trans (KeptB.of_below (hB9.mono (by omega)))
    generalize hdT (T.drop a1) = t at *
    rw [show (encTk t).toArray = #[.int .i64 t.kind, .int .i64 t.line, .int .i64 t.col, .string t.text] from rfl]
    by_cases hk : t.kind = 0
    · rw [if_pos hk] at hR
      have e1 : (t.kind = 0) = True := eq_true hk
      subst hR
      simp +contextual (maxSteps := 2000000) (disch := (first | omega | (simp only [SZ]; done) | (simp only [SZ]; omega) | (simp only [TS] at *; omega))) only [RZ, gval, gslot, fillL, ovw, numb, catL, ldN, agL, okC, oneC, init, Nat.reduceAdd, Nat.reduceMul, Nat.reduceSub, Nat.reduceEqDiff, Nat.reduceLT, ↓reduceIte, Int.reduceToNat, Int.reduceAdd, Int.reduceSub, Int.reduceMul, Int.reduceLT, Int.reduceLE, Int.reduceEq, Nat.reduceLeDiff,  f0, f1, f5, f6, tkKind, e1]
      refine W_if_f rfl ?_
      simp +contextual (maxSteps := 2000000) (disch := (first | omega | (simp only [SZ]; done) | (simp only [SZ]; omega) | (simp only [TS] at *; omega))) only [RZ, gval, gslot, fillL, ovw, numb, catL, ldN, agL, okC, oneC, init, Nat.reduceAdd, Nat.reduceMul, Nat.reduceSub, Nat.reduceEqDiff, Nat.reduceLT, ↓reduceIte, Int.reduceToNat, Int.reduceAdd, Int.reduceSub, Int.reduceMul, Int.reduceLT, Int.reduceLE, Int.reduceEq, Nat.reduceLeDiff]
      exact ⟨kb9, a1, g9, hP9⟩
    · rw [if_neg hk] at hR
      have e1 : (t.kind = 0) = False := eq_false hk
      subst hR
      simp +contextual (maxSteps := 2000000) (disch := (first | omega | (simp only [SZ]; done) | (simp only [SZ]; omega) | (simp only [TS] at *; omega))) only [RZ, gval, gslot, fillL, ovw, numb, catL, ldN, agL, okC, oneC, init, Nat.reduceAdd, Nat.reduceMul, Nat.reduceSub, Nat.reduceEqDiff, Nat.reduceLT, ↓reduceIte, Int.reduceToNat, Int.reduceAdd, Int.reduceSub, Int.reduceMul, Int.reduceLT, Int.reduceLE, Int.reduceEq, Nat.reduceLeDiff,  f0, f1, f5, f6, tkKind, e1]
      refine W_if_t rfl ?_
      simp +contextual (maxSteps := 2000000) (disch := (first | omega | (simp only [SZ]; done) | (simp only [SZ]; omega) | (simp only [TS] at *; omega))) only [RZ, gval, gslot, fillL, ovw, numb, catL, ldN, agL, okC, oneC, init, Nat.reduceAdd, Nat.reduceMul, Nat.reduceSub, Nat.reduceEqDiff, Nat.reduceLT, ↓reduceIte, Int.reduceToNat, Int.reduceAdd, Int.reduceSub, Int.reduceMul, Int.reduceLT, Int.reduceLE, Int.reduceEq, Nat.reduceLeDiff]
      exact ⟨kb9, a1, g9, by decide, rfl⟩
  | none =>
  rw [hn1] at g8 hR
  replace g8 : RdIn w8 g A c T a := g8
  dsimp only at hR
  have hitem := hR
  simp +contextual (maxSteps := 2000000) (disch := (first | omega | (simp only [SZ]; done) | (simp only [SZ]; omega) | (simp only [TS] at *; omega))) only [RZ, gval, gslot, fillL, ovw, numb, catL, ldN, agL, okC, oneC, init, Nat.reduceAdd, Nat.reduceMul, Nat.reduceSub, Nat.reduceEqDiff, Nat.reduceLT, ↓reduceIte, Int.reduceToNat, Int.reduceAdd, Int.reduceSub, Int.reduceMul, Int.reduceLT, Int.reduceLE, Int.reduceEq, Nat.reduceLeDiff,  f0, f1, f5, f6]
  refine W_if_t rfl ?_
  simp +contextual (maxSteps := 2000000) (disch := (first | omega | (simp only [SZ]; done) | (simp only [SZ]; omega) | (simp only [TS] at *; omega))) only [RZ, gval, gslot, fillL, ovw, numb, catL, ldN, agL, okC, oneC, init, Nat.reduceAdd, Nat.reduceMul, Nat.reduceSub, Nat.reduceEqDiff, Nat.reduceLT, ↓reduceIte, Int.reduceToNat, Int.reduceAdd, Int.reduceSub, Int.reduceMul, Int.reduceLT, Int.reduceLE, Int.reduceEq, Nat.reduceLeDiff,  f0, f1, f5, f6]
  refine (rdNext_any g8).mono ?_
  rintro e w9 ⟨rfl, hB9⟩
  refine ⟨_, rfl, ?_⟩
  have g9 := g8.below hB9
  have hP9 := hP8.keptB (Kept.of_below (X := []) hB9) (by simp) (fun x hx => by simp at hx)
  have kb9 := kb8.trans (KeptB.of_below (hB9.mono (by omega)))
  have hz9 := kb9.size
  generalize ht : hdT (T.drop a) = t at *
  rw [show (encTk t).toArray = #[.int .i64 t.kind, .int .i64 t.line, .int .i64 t.col, .string t.text] from rfl]
  generalize hit : itemT (T.drop a) q pr pa = it at *
  have hit0 := hit
  unfold itemT at hit
  rw [ht] at hit
  by_cases hk : t.kind = 1
  rotate_left
  · rw [if_pos hk] at hit
    have e1 : (t.kind = 1) = False := eq_false hk
    subst hit
    subst hR
    simp +contextual (maxSteps := 2000000) (disch := (first | omega | (simp only [SZ]; done) | (simp only [SZ]; omega) | (simp only [TS] at *; omega))) only [RZ, gval, gslot, fillL, ovw, numb, catL, ldN, agL, okC, oneC, init, Nat.reduceAdd, Nat.reduceMul, Nat.reduceSub, Nat.reduceEqDiff, Nat.reduceLT, ↓reduceIte, Int.reduceToNat, Int.reduceAdd, Int.reduceSub, Int.reduceMul, Int.reduceLT, Int.reduceLE, Int.reduceEq, Nat.reduceLeDiff,  f0, f1, f5, f6, tkKind, e1]
    refine W_if_t rfl ?_
    simp +contextual (maxSteps := 2000000) (disch := (first | omega | (simp only [SZ]; done) | (simp only [SZ]; omega) | (simp only [TS] at *; omega))) only [RZ, gval, gslot, fillL, ovw, numb, catL, ldN, agL, okC, oneC, init, Nat.reduceAdd, Nat.reduceMul, Nat.reduceSub, Nat.reduceEqDiff, Nat.reduceLT, ↓reduceIte, Int.reduceToNat, Int.reduceAdd, Int.reduceSub, Int.reduceMul, Int.reduceLT, Int.reduceLE, Int.reduceEq, Nat.reduceLeDiff]
    have hba := below_alloc w9 (.cells #[.int .i64 t.kind, .int .i64 t.line, .int .i64 t.col, .string t.text] 63)
    exact ⟨kb9.trans (KeptB.of_below (hba.mono (by omega))), a, g9.below hba, by decide, rfl⟩
  rw [if_neg (fun h => h hk)] at hit
  have e1 : (t.kind = 1) = True := eq_true hk
  simp +contextual (maxSteps := 2000000) (disch := (first | omega | (simp only [SZ]; done) | (simp only [SZ]; omega) | (simp only [TS] at *; omega))) only [RZ, gval, gslot, fillL, ovw, numb, catL, ldN, agL, okC, oneC, init, Nat.reduceAdd, Nat.reduceMul, Nat.reduceSub, Nat.reduceEqDiff, Nat.reduceLT, ↓reduceIte, Int.reduceToNat, Int.reduceAdd, Int.reduceSub, Int.reduceMul, Int.reduceLT, Int.reduceLE, Int.reduceEq, Nat.reduceLeDiff,  f0, f1, f5, f6, tkKind, e1]
  refine W_if_f rfl ?_
  simp +contextual (maxSteps := 2000000) (disch := (first | omega | (simp only [SZ]; done) | (simp only [SZ]; omega) | (simp only [TS] at *; omega))) only [RZ, gval, gslot, fillL, ovw, numb, catL, ldN, agL, okC, oneC, init, Nat.reduceAdd, Nat.reduceMul, Nat.reduceSub, Nat.reduceEqDiff, Nat.reduceLT, ↓reduceIte, Int.reduceToNat, Int.reduceAdd, Int.reduceSub, Int.reduceMul, Int.reduceLT, Int.reduceLE, Int.reduceEq, Nat.reduceLeDiff,  f0, f1, f5, f6]
  have hba := below_alloc w9 (.cells #[.int .i64 t.kind, .int .i64 t.line, .int .i64 t.col, .string t.text] 63)
  have g10 := g9.below hba
  have hP10 := hP9.keptB (Kept.of_below (X := []) hba) (by simp) (fun x hx => by simp at hx)
  have kb10 := kb9.trans (KeptB.of_below (hba.mono (by omega)))
  have hz10 := kb10.size
  generalize w9.alloc (.cells #[.int .i64 t.kind, .int .i64 t.line, .int .i64 t.col, .string t.text] 63) = w10 at *
  refine W_cut (fun τ w' => ∃ (ok : Bool) (a5 : Nat) (q' : Pl) (pr' pa' : Bool), RdIn w' g A c T a5 ∧ PlIn w' gP base q' ∧ q'.levels.length ≤ q.levels.length + 1 ∧ KeptB base [g, gP] w w' ∧ τ 0 = .pointer (some ⟨g, 0, none⟩) ∧ τ 1 = .pointer (some ⟨gP, 0, none⟩) ∧
    τ 5 = .bool pr' ∧ τ 6 = .bool pa' ∧ τ 8 = .bool ok ∧ it = (if ok = true then thenT (isT 3 (asc ";") (T.drop a5)) (T.drop a5) (fun L3 => .ok ((q', pr', pa'), L3)) else .error (1, T.drop a5))) ?_ ?_
  · clear hit g10 hP10 kb10 f0 f1 f5 f6 g9 hP9 kb9 g8 hP8 kb8 hP7 kb7
    rintro τ w11 ⟨ok, a5, q', pr', pa', g11, hP11, hql', kb11, f0, f1, f5, f6, f8, hit⟩
    have hz11 := kb11.size
    cases ok with
    | false =>
      rw [if_neg (by simp)] at hit
      subst hit
      subst hR
      simp +contextual (maxSteps := 2000000) (disch := (first | omega | (simp only [SZ]; done) | (simp only [SZ]; omega) | (simp only [TS] at *; omega))) only [RZ, gval, gslot, fillL, ovw, numb, catL, ldN, agL, okC, oneC, init, Nat.reduceAdd, Nat.reduceMul, Nat.reduceSub, Nat.reduceEqDiff, Nat.reduceLT, ↓reduceIte, Int.reduceToNat, Int.reduceAdd, Int.reduceSub, Int.reduceMul, Int.reduceLT, Int.reduceLE, Int.reduceEq, Nat.reduceLeDiff,  f0, f1, f5, f6, f8]
      refine W_if_t rfl ?_
      simp +contextual (maxSteps := 2000000) (disch := (first | omega | (simp only [SZ]; done) | (simp only [SZ]; omega) | (simp only [TS] at *; omega))) only [RZ, gval, gslot, fillL, ovw, numb, catL, ldN, agL, okC, oneC, init, Nat.reduceAdd, Nat.reduceMul, Nat.reduceSub, Nat.reduceEqDiff, Nat.reduceLT, ↓reduceIte, Int.reduceToNat, Int.reduceAdd, Int.reduceSub, Int.reduceMul, Int.reduceLT, Int.reduceLE, Int.reduceEq, Nat.reduceLeDiff]
      exact ⟨kb11, a5, g11, by decide, rfl⟩
    | true =>
    rw [if_pos rfl] at hit
    simp +contextual (maxSteps := 2000000) (disch := (first | omega | (simp only [SZ]; done) | (simp only [SZ]; omega) | (simp only [TS] at *; omega))) only [RZ, gval, gslot, fillL, ovw, numb, catL, ldN, agL, okC, oneC, init, Nat.reduceAdd, Nat.reduceMul, Nat.reduceSub, Nat.reduceEqDiff, Nat.reduceLT, ↓reduceIte, Int.reduceToNat, Int.reduceAdd, Int.reduceSub, Int.reduceMul, Int.reduceLT, Int.reduceLE, Int.reduceEq, Nat.reduceLeDiff,  f0, f1, f5, f6, f8]
    refine (rdMark_any ⟨#[59]⟩ g11).mono ?_
    rintro e w12 ⟨rfl, g12, k12⟩
    refine ⟨_, rfl, ?_⟩
    rw [show bs ⟨#[59]⟩ = asc ";" by kernel_rfl] at g12 ⊢
    have kb12 := kb11.trans (KeptB.of_kept k12 (by omega) fun x hx _ => by simp at hx ⊢; exact .inl hx)
    have hP12 := hP11.keptB k12 (by simp; omega) (fun x hx => by simp at hx; omega)
    unfold thenT at hit
    cases hn3 : isT 3 (asc ";") (T.drop a5) with
    | none =>
      rw [hn3] at g12 hit
      dsimp only at hit
      subst hit
      subst hR
      simp +contextual (maxSteps := 2000000) (disch := (first | omega | (simp only [SZ]; done) | (simp only [SZ]; omega) | (simp only [TS] at *; omega))) only [RZ, gval, gslot, fillL, ovw, numb, catL, ldN, agL, okC, oneC, init, Nat.reduceAdd, Nat.reduceMul, Nat.reduceSub, Nat.reduceEqDiff, Nat.reduceLT, ↓reduceIte, Int.reduceToNat, Int.reduceAdd, Int.reduceSub, Int.reduceMul, Int.reduceLT, Int.reduceLE, Int.reduceEq, Nat.reduceLeDiff,  f0, f1, f5, f6, f8]
      refine W_if_t rfl ?_
      simp +contextual (maxSteps := 2000000) (disch := (first | omega | (simp only [SZ]; done) | (simp only [SZ]; omega) | (simp only [TS] at *; omega))) only [RZ, gval, gslot, fillL, ovw, numb, catL, ldN, agL, okC, oneC, init, Nat.reduceAdd, Nat.reduceMul, Nat.reduceSub, Nat.reduceEqDiff, Nat.reduceLT, ↓reduceIte, Int.reduceToNat, Int.reduceAdd, Int.reduceSub, Int.reduceMul, Int.reduceLT, Int.reduceLE, Int.reduceEq, Nat.reduceLeDiff]
      exact ⟨kb12, a5, g12, by decide, rfl⟩
    | some L3 =>
      have hL3 := (is_some hn3).2.2
      rw [drop_nx g11.lt] at hL3
      subst hL3
      rw [hn3] at g12 hit
      replace g12 : RdIn w12 g A c T (adv T a5) := g12
      generalize adv T a5 = a6 at *
      dsimp only at hit
      subst hit
      have hea := item_eats hit0
      rw [List.length_drop, List.length_drop] at hea
      dsimp only at hR
      have hlt := g12.lt
      simp +contextual (maxSteps := 2000000) (disch := (first | omega | (simp only [SZ]; done) | (simp only [SZ]; omega) | (simp only [TS] at *; omega))) only [RZ, gval, gslot, fillL, ovw, numb, catL, ldN, agL, okC, oneC, init, Nat.reduceAdd, Nat.reduceMul, Nat.reduceSub, Nat.reduceEqDiff, Nat.reduceLT, ↓reduceIte, Int.reduceToNat, Int.reduceAdd, Int.reduceSub, Int.reduceMul, Int.reduceLT, Int.reduceLE, Int.reduceEq, Nat.reduceLeDiff,  f0, f1, f5, f6, f8]
      refine W_if_f rfl ?_
      simp +contextual (maxSteps := 2000000) (disch := (first | omega | (simp only [SZ]; done) | (simp only [SZ]; omega) | (simp only [TS] at *; omega))) only [RZ, gval, gslot, fillL, ovw, numb, catL, ldN, agL, okC, oneC, init, Nat.reduceAdd, Nat.reduceMul, Nat.reduceSub, Nat.reduceEqDiff, Nat.reduceLT, ↓reduceIte, Int.reduceToNat, Int.reduceAdd, Int.reduceSub, Int.reduceMul, Int.reduceLT, Int.reduceLE, Int.reduceEq, Nat.reduceLeDiff,  f0, f1, f5, f6, f8]
      refine hK _ _ ⟨a6, q', pr', pa', f, g12, hP12, by omega, by omega, hR, kb12, ?_⟩ ?_
      · simp +contextual (maxSteps := 2000000) (disch := (first | omega | (simp only [SZ]; done) | (simp only [SZ]; omega) | (simp only [TS] at *; omega))) only [RZ, gval, gslot, fillL, ovw, numb, catL, ldN, agL, okC, oneC, init, Nat.reduceAdd, Nat.reduceMul, Nat.reduceSub, Nat.reduceEqDiff, Nat.reduceLT, ↓reduceIte, Int.reduceToNat, Int.reduceAdd, Int.reduceSub, Int.reduceMul, Int.reduceLT, Int.reduceLE, Int.reduceEq, Nat.reduceLeDiff,  f0, f1, f5, f6, f8]
      · rw [hat, g12.at_]
        omega
  have hnx := drop_nx g10.lt
  rw [hnx] at hit
  by_cases hp1 : t.text = ⟨#[112, 114, 105, 99, 101]⟩
  · have e2 : (t.text = ⟨#[112, 114, 105, 99, 101]⟩) = True := eq_true hp1
    rw [if_pos (by rw [hp1]; kernel_rfl)] at hit
    simp +contextual (maxSteps := 2000000) (disch := (first | omega | (simp only [SZ]; done) | (simp only [SZ]; omega) | (simp only [TS] at *; omega))) only [RZ, gval, gslot, fillL, ovw, numb, catL, ldN, agL, okC, oneC, init, Nat.reduceAdd, Nat.reduceMul, Nat.reduceSub, Nat.reduceEqDiff, Nat.reduceLT, ↓reduceIte, Int.reduceToNat, Int.reduceAdd, Int.reduceSub, Int.reduceMul, Int.reduceLT, Int.reduceLE, Int.reduceEq, Nat.reduceLeDiff,  e2]
    refine W_if_t rfl ?_
    cases pr with
    | true =>
      rw [if_pos rfl] at hit
      subst hit
      subst hR
      simp +contextual (maxSteps := 2000000) (disch := (first | omega | (simp only [SZ]; done) | (simp only [SZ]; omega) | (simp only [TS] at *; omega))) only [RZ, gval, gslot, fillL, ovw, numb, catL, ldN, agL, okC, oneC, init, Nat.reduceAdd, Nat.reduceMul, Nat.reduceSub, Nat.reduceEqDiff, Nat.reduceLT, ↓reduceIte, Int.reduceToNat, Int.reduceAdd, Int.reduceSub, Int.reduceMul, Int.reduceLT, Int.reduceLE, Int.reduceEq, Nat.reduceLeDiff,  f0, f1, f5, f6]
      refine W_if_t rfl ?_
      simp +contextual (maxSteps := 2000000) (disch := (first | omega | (simp only [SZ]; done) | (simp only [SZ]; omega) | (simp only [TS] at *; omega))) only [RZ, gval, gslot, fillL, ovw, numb, catL, ldN, agL, okC, oneC, init, Nat.reduceAdd, Nat.reduceMul, Nat.reduceSub, Nat.reduceEqDiff, Nat.reduceLT, ↓reduceIte, Int.reduceToNat, Int.reduceAdd, Int.reduceSub, Int.reduceMul, Int.reduceLT, Int.reduceLE, Int.reduceEq, Nat.reduceLeDiff,  cutX_normal, cutX_ret, cutX_exit, cut2X_normal, cut2X_ret, cut2X_same, cut2X_ne]
      exact ⟨kb10, a, g10, by decide, rfl⟩
    | false =>
    rw [if_neg (by simp)] at hit
    simp +contextual (maxSteps := 2000000) (disch := (first | omega | (simp only [SZ]; done) | (simp only [SZ]; omega) | (simp only [TS] at *; omega))) only [RZ, gval, gslot, fillL, ovw, numb, catL, ldN, agL, okC, oneC, init, Nat.reduceAdd, Nat.reduceMul, Nat.reduceSub, Nat.reduceEqDiff, Nat.reduceLT, ↓reduceIte, Int.reduceToNat, Int.reduceAdd, Int.reduceSub, Int.reduceMul, Int.reduceLT, Int.reduceLE, Int.reduceEq, Nat.reduceLeDiff,  f0, f1, f5, f6]
    refine W_if_f rfl ?_
    simp +contextual (maxSteps := 2000000) (disch := (first | omega | (simp only [SZ]; done) | (simp only [SZ]; omega) | (simp only [TS] at *; omega))) only [RZ, gval, gslot, fillL, ovw, numb, catL, ldN, agL, okC, oneC, init, Nat.reduceAdd, Nat.reduceMul, Nat.reduceSub, Nat.reduceEqDiff, Nat.reduceLT, ↓reduceIte, Int.reduceToNat, Int.reduceAdd, Int.reduceSub, Int.reduceMul, Int.reduceLT, Int.reduceLE, Int.reduceEq, Nat.reduceLeDiff,  f0, f1, f5, f6]
    refine (rdSkip_any g10).mono ?_
    rintro e w11 ⟨⟨v1, rfl⟩, g11, k11⟩
    refine ⟨_, rfl, ?_⟩
    have kb11 := kb10.trans (KeptB.of_kept k11 (by omega) fun x hx _ => by simp at hx ⊢; exact .inl hx)
    have hP11 := hP10.keptB k11 (by simp; omega) (fun x hx => by simp at hx; omega)
    generalize adv T a = a1 at *
    have hz11 := kb11.size
    obtain ⟨AL, cL, q1, q2⟩ := hP11
    simp +contextual (maxSteps := 2000000) (disch := (first | omega | (simp only [SZ]; done) | (simp only [SZ]; omega) | (simp only [TS] at *; omega))) only [RZ, gval, gslot, fillL, ovw, numb, catL, ldN, agL, okC, oneC, init, Nat.reduceAdd, Nat.reduceMul, Nat.reduceSub, Nat.reduceEqDiff, Nat.reduceLT, ↓reduceIte, Int.reduceToNat, Int.reduceAdd, Int.reduceSub, Int.reduceMul, Int.reduceLT, Int.reduceLE, Int.reduceEq, Nat.reduceLeDiff,  f0, f1, f5, f6]
    refine (rdNumber_any gP 1 24 _ q.price g11 q1 rfl (by omega) hgA).mono ?_
    rintro e w12 ⟨rfl, g12, k12, q12⟩
    refine ⟨_, rfl, ?_⟩
    have kb12 := kb11.trans (KeptB.of_kept k12 (by omega) fun x hx _ => hx)
    have o12 := owns_keep q2 fun g' hg' => k12.block g' (owns_ge q2 hg').2 (by have := (owns_ge q2 hg').1; simp; omega)
    unfold thenT at hit
    cases hn2 : numT (T.drop a1) with
    | none =>
      rw [hn2] at g12 hit q12
      simp +contextual (maxSteps := 2000000) (disch := (first | omega | (simp only [SZ]; done) | (simp only [SZ]; omega) | (simp only [TS] at *; omega))) only [RZ, gval, gslot, fillL, ovw, numb, catL, ldN, agL, okC, oneC, init, Nat.reduceAdd, Nat.reduceMul, Nat.reduceSub, Nat.reduceEqDiff, Nat.reduceLT, ↓reduceIte, Int.reduceToNat, Int.reduceAdd, Int.reduceSub, Int.reduceMul, Int.reduceLT, Int.reduceLE, Int.reduceEq, Nat.reduceLeDiff,  cutX_normal, cutX_ret, cutX_exit, cut2X_normal, cut2X_ret, cut2X_same, cut2X_ne, f0, f1, f5, f6]
      refine ⟨false, a1, q, true, pa, g12, ⟨AL, cL, q12, o12⟩, by omega, kb12, rfl, rfl, rfl, ?_⟩
      rw [if_neg (by simp)]
      exact hit.symm
    | some x =>
      obtain ⟨x, L2⟩ := x
      have hL2 := (num_some hn2).2.2.2
      rw [drop_nx g11.lt] at hL2
      subst hL2
      rw [hn2] at g12 hit q12
      replace g12 : RdIn w12 g A c T (adv T a1) := g12
      generalize adv T a1 = a2 at *
      simp +contextual (maxSteps := 2000000) (disch := (first | omega | (simp only [SZ]; done) | (simp only [SZ]; omega) | (simp only [TS] at *; omega))) only [RZ, gval, gslot, fillL, ovw, numb, catL, ldN, agL, okC, oneC, init, Nat.reduceAdd, Nat.reduceMul, Nat.reduceSub, Nat.reduceEqDiff, Nat.reduceLT, ↓reduceIte, Int.reduceToNat, Int.reduceAdd, Int.reduceSub, Int.reduceMul, Int.reduceLT, Int.reduceLE, Int.reduceEq, Nat.reduceLeDiff,  cutX_normal, cutX_ret, cutX_exit, cut2X_normal, cut2X_ret, cut2X_same, cut2X_ne, f0, f1, f5, f6]
      refine ⟨true, a2, { q with price := x }, true, pa, g12, ⟨AL, cL, q12, o12⟩, Nat.le_succ _, kb12, rfl, rfl, rfl, ?_⟩
      rw [if_pos rfl]
      exact hit.symm
  have e2 : (t.text = ⟨#[112, 114, 105, 99, 101]⟩) = False := eq_false hp1
  have eb : ∀ {x : ByteArray} {l : List Nat}, bs x = l → t.text ≠ x → ¬ bs t.text = l := fun hx hne e => hne (bs_inj (e.trans hx.symm))
  rw [if_neg (eb (x := ⟨#[112, 114, 105, 99, 101]⟩) (by kernel_rfl) hp1)] at hit
  simp +contextual (maxSteps := 2000000) (disch := (first | omega | (simp only [SZ]; done) | (simp only [SZ]; omega) | (simp only [TS] at *; omega))) only [RZ, gval, gslot, fillL, ovw, numb, catL, ldN, agL, okC, oneC, init, Nat.reduceAdd, Nat.reduceMul, Nat.reduceSub, Nat.reduceEqDiff, Nat.reduceLT, ↓reduceIte, Int.reduceToNat, Int.reduceAdd, Int.reduceSub, Int.reduceMul, Int.reduceLT, Int.reduceLE, Int.reduceEq, Nat.reduceLeDiff,  e2]
  refine W_if_f rfl ?_
  simp +contextual (maxSteps := 2000000) (disch := (first | omega | (simp only [SZ]; done) | (simp only [SZ]; omega) | (simp only [TS] at *; omega))) only [RZ, gval, gslot, fillL, ovw, numb, catL, ldN, agL, okC, oneC, init, Nat.reduceAdd, Nat.reduceMul, Nat.reduceSub, Nat.reduceEqDiff, Nat.reduceLT, ↓reduceIte, Int.reduceToNat, Int.reduceAdd, Int.reduceSub, Int.reduceMul, Int.reduceLT, Int.reduceLE, Int.reduceEq, Nat.reduceLeDiff,  e2]
  by_cases hp2 : t.text = ⟨#[112, 97, 99, 107, 115]⟩
  · have e3 : (t.text = ⟨#[112, 97, 99, 107, 115]⟩) = True := eq_true hp2
    rw [if_pos (by rw [hp2]; kernel_rfl)] at hit
    simp +contextual (maxSteps := 2000000) (disch := (first | omega | (simp only [SZ]; done) | (simp only [SZ]; omega) | (simp only [TS] at *; omega))) only [RZ, gval, gslot, fillL, ovw, numb, catL, ldN, agL, okC, oneC, init, Nat.reduceAdd, Nat.reduceMul, Nat.reduceSub, Nat.reduceEqDiff, Nat.reduceLT, ↓reduceIte, Int.reduceToNat, Int.reduceAdd, Int.reduceSub, Int.reduceMul, Int.reduceLT, Int.reduceLE, Int.reduceEq, Nat.reduceLeDiff,  e3]
    refine W_if_t rfl ?_
    cases pa with
    | true =>
      rw [if_pos rfl] at hit
      subst hit
      subst hR
      simp +contextual (maxSteps := 2000000) (disch := (first | omega | (simp only [SZ]; done) | (simp only [SZ]; omega) | (simp only [TS] at *; omega))) only [RZ, gval, gslot, fillL, ovw, numb, catL, ldN, agL, okC, oneC, init, Nat.reduceAdd, Nat.reduceMul, Nat.reduceSub, Nat.reduceEqDiff, Nat.reduceLT, ↓reduceIte, Int.reduceToNat, Int.reduceAdd, Int.reduceSub, Int.reduceMul, Int.reduceLT, Int.reduceLE, Int.reduceEq, Nat.reduceLeDiff,  f0, f1, f5, f6]
      refine W_if_t rfl ?_
      simp +contextual (maxSteps := 2000000) (disch := (first | omega | (simp only [SZ]; done) | (simp only [SZ]; omega) | (simp only [TS] at *; omega))) only [RZ, gval, gslot, fillL, ovw, numb, catL, ldN, agL, okC, oneC, init, Nat.reduceAdd, Nat.reduceMul, Nat.reduceSub, Nat.reduceEqDiff, Nat.reduceLT, ↓reduceIte, Int.reduceToNat, Int.reduceAdd, Int.reduceSub, Int.reduceMul, Int.reduceLT, Int.reduceLE, Int.reduceEq, Nat.reduceLeDiff,  cutX_normal, cutX_ret, cutX_exit, cut2X_normal, cut2X_ret, cut2X_same, cut2X_ne]
      exact ⟨kb10, a, g10, by decide, rfl⟩
    | false =>
    rw [if_neg (by simp)] at hit
    simp +contextual (maxSteps := 2000000) (disch := (first | omega | (simp only [SZ]; done) | (simp only [SZ]; omega) | (simp only [TS] at *; omega))) only [RZ, gval, gslot, fillL, ovw, numb, catL, ldN, agL, okC, oneC, init, Nat.reduceAdd, Nat.reduceMul, Nat.reduceSub, Nat.reduceEqDiff, Nat.reduceLT, ↓reduceIte, Int.reduceToNat, Int.reduceAdd, Int.reduceSub, Int.reduceMul, Int.reduceLT, Int.reduceLE, Int.reduceEq, Nat.reduceLeDiff,  f0, f1, f5, f6]
    refine W_if_f rfl ?_
    simp +contextual (maxSteps := 2000000) (disch := (first | omega | (simp only [SZ]; done) | (simp only [SZ]; omega) | (simp only [TS] at *; omega))) only [RZ, gval, gslot, fillL, ovw, numb, catL, ldN, agL, okC, oneC, init, Nat.reduceAdd, Nat.reduceMul, Nat.reduceSub, Nat.reduceEqDiff, Nat.reduceLT, ↓reduceIte, Int.reduceToNat, Int.reduceAdd, Int.reduceSub, Int.reduceMul, Int.reduceLT, Int.reduceLE, Int.reduceEq, Nat.reduceLeDiff,  f0, f1, f5, f6]
    refine (rdSkip_any g10).mono ?_
    rintro e w11 ⟨⟨v1, rfl⟩, g11, k11⟩
    refine ⟨_, rfl, ?_⟩
    have kb11 := kb10.trans (KeptB.of_kept k11 (by omega) fun x hx _ => by simp at hx ⊢; exact .inl hx)
    have hP11 := hP10.keptB k11 (by simp; omega) (fun x hx => by simp at hx; omega)
    generalize adv T a = a1 at *
    have hz11 := kb11.size
    obtain ⟨AL, cL, q1, q2⟩ := hP11
    simp +contextual (maxSteps := 2000000) (disch := (first | omega | (simp only [SZ]; done) | (simp only [SZ]; omega) | (simp only [TS] at *; omega))) only [RZ, gval, gslot, fillL, ovw, numb, catL, ldN, agL, okC, oneC, init, Nat.reduceAdd, Nat.reduceMul, Nat.reduceSub, Nat.reduceEqDiff, Nat.reduceLT, ↓reduceIte, Int.reduceToNat, Int.reduceAdd, Int.reduceSub, Int.reduceMul, Int.reduceLT, Int.reduceLE, Int.reduceEq, Nat.reduceLeDiff,  f0, f1, f5, f6]
    refine (rdNumber_any gP 2 24 _ q.packs g11 q1 rfl (by omega) hgA).mono ?_
    rintro e w12 ⟨rfl, g12, k12, q12⟩
    refine ⟨_, rfl, ?_⟩
    have kb12 := kb11.trans (KeptB.of_kept k12 (by omega) fun x hx _ => hx)
    have o12 := owns_keep q2 fun g' hg' => k12.block g' (owns_ge q2 hg').2 (by have := (owns_ge q2 hg').1; simp; omega)
    have hz12 := kb12.size
    unfold thenT at hit
    cases hn2 : numT (T.drop a1) with
    | none =>
      rw [hn2] at g12 hit q12
      simp +contextual (maxSteps := 2000000) (disch := (first | omega | (simp only [SZ]; done) | (simp only [SZ]; omega) | (simp only [TS] at *; omega))) only [RZ, gval, gslot, fillL, ovw, numb, catL, ldN, agL, okC, oneC, init, Nat.reduceAdd, Nat.reduceMul, Nat.reduceSub, Nat.reduceEqDiff, Nat.reduceLT, ↓reduceIte, Int.reduceToNat, Int.reduceAdd, Int.reduceSub, Int.reduceMul, Int.reduceLT, Int.reduceLE, Int.reduceEq, Nat.reduceLeDiff,  cutX_normal, cutX_ret, cutX_exit, cut2X_normal, cut2X_ret, cut2X_same, cut2X_ne, f0, f1, f5, f6]
      refine ⟨false, a1, q, pr, true, g12, ⟨AL, cL, q12, o12⟩, by omega, kb12, rfl, rfl, rfl, ?_⟩
      rw [if_neg (by simp)]
      exact hit.symm
    | some x =>
    obtain ⟨x, L2⟩ := x
    have hL2 := (num_some hn2).2.2.2
    rw [drop_nx g11.lt] at hL2
    subst hL2
    rw [hn2] at g12 hit q12
    replace g12 : RdIn w12 g A c T (adv T a1) := g12
    replace q12 : Row w12 gP 24 [.string q.name, .int .i64 q.price, .int .i64 x, .int .i64 q.size, .slice AL q.levels.length cL] := q12
    generalize adv T a1 = a2 at *
    dsimp only at hit
    simp +contextual (maxSteps := 2000000) (disch := (first | omega | (simp only [SZ]; done) | (simp only [SZ]; omega) | (simp only [TS] at *; omega))) only [RZ, gval, gslot, fillL, ovw, numb, catL, ldN, agL, okC, oneC, init, Nat.reduceAdd, Nat.reduceMul, Nat.reduceSub, Nat.reduceEqDiff, Nat.reduceLT, ↓reduceIte, Int.reduceToNat, Int.reduceAdd, Int.reduceSub, Int.reduceMul, Int.reduceLT, Int.reduceLE, Int.reduceEq, Nat.reduceLeDiff,  f0, f1, f5, f6]
    refine (rdWord_any ⟨#[111, 102]⟩ g12).mono ?_
    rintro e w13 ⟨rfl, g13, k13⟩
    refine ⟨_, rfl, ?_⟩
    rw [show bs ⟨#[111, 102]⟩ = asc "of" by kernel_rfl] at g13 ⊢
    have kb13 := kb12.trans (KeptB.of_kept k13 (by omega) fun x hx _ => by simp at hx ⊢; exact .inl hx)
    have q13 := q12.kept k13 (by simp; omega)
    have o13 := owns_keep o12 fun g' hg' => k13.block g' (owns_ge o12 hg').2 (by have := (owns_ge o12 hg').1; simp; omega)
    have hz13 := kb13.size
    cases hn3 : isT 1 (asc "of") (T.drop a2) with
    | none =>
      rw [hn3] at g13 hit
      simp +contextual (maxSteps := 2000000) (disch := (first | omega | (simp only [SZ]; done) | (simp only [SZ]; omega) | (simp only [TS] at *; omega))) only [RZ, gval, gslot, fillL, ovw, numb, catL, ldN, agL, okC, oneC, init, Nat.reduceAdd, Nat.reduceMul, Nat.reduceSub, Nat.reduceEqDiff, Nat.reduceLT, ↓reduceIte, Int.reduceToNat, Int.reduceAdd, Int.reduceSub, Int.reduceMul, Int.reduceLT, Int.reduceLE, Int.reduceEq, Nat.reduceLeDiff,  cutX_normal, cutX_ret, cutX_exit, cut2X_normal, cut2X_ret, cut2X_same, cut2X_ne, f0, f1, f5, f6]
      refine ⟨false, a2, { q with packs := x }, pr, true, g13, ⟨AL, cL, q13, o13⟩, Nat.le_succ _, kb13, rfl, rfl, rfl, ?_⟩
      rw [if_neg (by simp)]
      exact hit.symm
    | some L3 =>
    have hL3 := (is_some hn3).2.2
    rw [drop_nx g12.lt] at hL3
    subst hL3
    rw [hn3] at g13 hit
    replace g13 : RdIn w13 g A c T (adv T a2) := g13
    generalize adv T a2 = a3 at *
    dsimp only at hit
    simp +contextual (maxSteps := 2000000) (disch := (first | omega | (simp only [SZ]; done) | (simp only [SZ]; omega) | (simp only [TS] at *; omega))) only [RZ, gval, gslot, fillL, ovw, numb, catL, ldN, agL, okC, oneC, init, Nat.reduceAdd, Nat.reduceMul, Nat.reduceSub, Nat.reduceEqDiff, Nat.reduceLT, ↓reduceIte, Int.reduceToNat, Int.reduceAdd, Int.reduceSub, Int.reduceMul, Int.reduceLT, Int.reduceLE, Int.reduceEq, Nat.reduceLeDiff,  f0, f1, f5, f6]
    refine (rdNumber_any gP 3 24 _ q.size g13 q13 rfl (by omega) hgA).mono ?_
    rintro e w14 ⟨rfl, g14, k14, q14⟩
    refine ⟨_, rfl, ?_⟩
    have kb14 := kb13.trans (KeptB.of_kept k14 (by omega) fun x hx _ => hx)
    have o14 := owns_keep o13 fun g' hg' => k14.block g' (owns_ge o13 hg').2 (by have := (owns_ge o13 hg').1; simp; omega)
    cases hn4 : numT (T.drop a3) with
    | none =>
      rw [hn4] at g14 hit q14
      simp +contextual (maxSteps := 2000000) (disch := (first | omega | (simp only [SZ]; done) | (simp only [SZ]; omega) | (simp only [TS] at *; omega))) only [RZ, gval, gslot, fillL, ovw, numb, catL, ldN, agL, okC, oneC, init, Nat.reduceAdd, Nat.reduceMul, Nat.reduceSub, Nat.reduceEqDiff, Nat.reduceLT, ↓reduceIte, Int.reduceToNat, Int.reduceAdd, Int.reduceSub, Int.reduceMul, Int.reduceLT, Int.reduceLE, Int.reduceEq, Nat.reduceLeDiff,  cutX_normal, cutX_ret, cutX_exit, cut2X_normal, cut2X_ret, cut2X_same, cut2X_ne, f0, f1, f5, f6]
      refine ⟨false, a3, { q with packs := x }, pr, true, g14, ⟨AL, cL, q14, o14⟩, Nat.le_succ _, kb14, rfl, rfl, rfl, ?_⟩
      rw [if_neg (by simp)]
      exact hit.symm
    | some y =>
      obtain ⟨y, L4⟩ := y
      have hL4 := (num_some hn4).2.2.2
      rw [drop_nx g13.lt] at hL4
      subst hL4
      rw [hn4] at g14 hit q14
      replace g14 : RdIn w14 g A c T (adv T a3) := g14
      generalize adv T a3 = a4 at *
      simp +contextual (maxSteps := 2000000) (disch := (first | omega | (simp only [SZ]; done) | (simp only [SZ]; omega) | (simp only [TS] at *; omega))) only [RZ, gval, gslot, fillL, ovw, numb, catL, ldN, agL, okC, oneC, init, Nat.reduceAdd, Nat.reduceMul, Nat.reduceSub, Nat.reduceEqDiff, Nat.reduceLT, ↓reduceIte, Int.reduceToNat, Int.reduceAdd, Int.reduceSub, Int.reduceMul, Int.reduceLT, Int.reduceLE, Int.reduceEq, Nat.reduceLeDiff,  cutX_normal, cutX_ret, cutX_exit, cut2X_normal, cut2X_ret, cut2X_same, cut2X_ne, f0, f1, f5, f6]
      refine ⟨true, a4, { q with packs := x, size := y }, pr, true, g14, ⟨AL, cL, q14, o14⟩, Nat.le_succ _, kb14, rfl, rfl, rfl, ?_⟩
      rw [if_pos rfl]
      exact hit.symm
  have e3 : (t.text = ⟨#[112, 97, 99, 107, 115]⟩) = False := eq_false hp2
  rw [if_neg (eb (x := ⟨#[112, 97, 99, 107, 115]⟩) (by kernel_rfl) hp2)] at hit
  simp +contextual (maxSteps := 2000000) (disch := (first | omega | (simp only [SZ]; done) | (simp only [SZ]; omega) | (simp only [TS] at *; omega))) only [RZ, gval, gslot, fillL, ovw, numb, catL, ldN, agL, okC, oneC, init, Nat.reduceAdd, Nat.reduceMul, Nat.reduceSub, Nat.reduceEqDiff, Nat.reduceLT, ↓reduceIte, Int.reduceToNat, Int.reduceAdd, Int.reduceSub, Int.reduceMul, Int.reduceLT, Int.reduceLE, Int.reduceEq, Nat.reduceLeDiff,  e3]
  refine W_if_f rfl ?_
  simp +contextual (maxSteps := 2000000) (disch := (first | omega | (simp only [SZ]; done) | (simp only [SZ]; omega) | (simp only [TS] at *; omega))) only [RZ, gval, gslot, fillL, ovw, numb, catL, ldN, agL, okC, oneC, init, Nat.reduceAdd, Nat.reduceMul, Nat.reduceSub, Nat.reduceEqDiff, Nat.reduceLT, ↓reduceIte, Int.reduceToNat, Int.reduceAdd, Int.reduceSub, Int.reduceMul, Int.reduceLT, Int.reduceLE, Int.reduceEq, Nat.reduceLeDiff,  e3]
  by_cases hp3 : t.text = ⟨#[112, 114, 105, 122, 101]⟩
  · have e4 : (t.text = ⟨#[112, 114, 105, 122, 101]⟩) = True := eq_true hp3
    rw [if_pos (by rw [hp3]; kernel_rfl)] at hit
    simp +contextual (maxSteps := 2000000) (disch := (first | omega | (simp only [SZ]; done) | (simp only [SZ]; omega) | (simp only [TS] at *; omega))) only [RZ, gval, gslot, fillL, ovw, numb, catL, ldN, agL, okC, oneC, init, Nat.reduceAdd, Nat.reduceMul, Nat.reduceSub, Nat.reduceEqDiff, Nat.reduceLT, ↓reduceIte, Int.reduceToNat, Int.reduceAdd, Int.reduceSub, Int.reduceMul, Int.reduceLT, Int.reduceLE, Int.reduceEq, Nat.reduceLeDiff,  e4]
    refine W_if_t rfl ?_
    simp +contextual (maxSteps := 2000000) (disch := (first | omega | (simp only [SZ]; done) | (simp only [SZ]; omega) | (simp only [TS] at *; omega))) only [RZ, gval, gslot, fillL, ovw, numb, catL, ldN, agL, okC, oneC, init, Nat.reduceAdd, Nat.reduceMul, Nat.reduceSub, Nat.reduceEqDiff, Nat.reduceLT, ↓reduceIte, Int.reduceToNat, Int.reduceAdd, Int.reduceSub, Int.reduceMul, Int.reduceLT, Int.reduceLE, Int.reduceEq, Nat.reduceLeDiff,  f0, f1, f5, f6]
    refine (rdSkip_any g10).mono ?_
    rintro e w11 ⟨⟨v1, rfl⟩, g11, k11⟩
    refine ⟨_, rfl, ?_⟩
    have kb11 := kb10.trans (KeptB.of_kept k11 (by omega) fun x hx _ => by simp at hx ⊢; exact .inl hx)
    have hP11 := hP10.keptB k11 (by simp; omega) (fun x hx => by simp at hx; omega)
    have halt := g7.lt
    have hbig := g7.big
    generalize adv T a = a1 at *
    have hz11 := kb11.size
    simp +contextual (maxSteps := 2000000) (disch := (first | omega | (simp only [SZ]; done) | (simp only [SZ]; omega) | (simp only [TS] at *; omega))) only [RZ, gval, gslot, fillL, ovw, numb, catL, ldN, agL, okC, oneC, init, Nat.reduceAdd, Nat.reduceMul, Nat.reduceSub, Nat.reduceEqDiff, Nat.reduceLT, ↓reduceIte, Int.reduceToNat, Int.reduceAdd, Int.reduceSub, Int.reduceMul, Int.reduceLT, Int.reduceLE, Int.reduceEq, Nat.reduceLeDiff,  f0, f1, f5, f6]
    refine (rdLevel_any g11 hP11 (by omega) hgg hgA (by omega) h1 h2 h3).mono ?_
    rintro e w12 ⟨kb12', a2, g12, he⟩
    have kb12 := kb11.trans kb12'
    cases hlv : levelT (T.drop a1) with
    | error er =>
      obtain ⟨er, L2⟩ := er
      rw [hlv] at he hit
      obtain ⟨rfl, rfl, rfl, hP12⟩ := he
      refine ⟨_, rfl, ?_⟩
      simp +contextual (maxSteps := 2000000) (disch := (first | omega | (simp only [SZ]; done) | (simp only [SZ]; omega) | (simp only [TS] at *; omega))) only [RZ, gval, gslot, fillL, ovw, numb, catL, ldN, agL, okC, oneC, init, Nat.reduceAdd, Nat.reduceMul, Nat.reduceSub, Nat.reduceEqDiff, Nat.reduceLT, ↓reduceIte, Int.reduceToNat, Int.reduceAdd, Int.reduceSub, Int.reduceMul, Int.reduceLT, Int.reduceLE, Int.reduceEq, Nat.reduceLeDiff,  cutX_normal, cutX_ret, cutX_exit, cut2X_normal, cut2X_ret, cut2X_same, cut2X_ne, f0, f1, f5, f6]
      refine ⟨false, a2, q, pr, pa, g12, hP12, by omega, kb12, rfl, rfl, rfl, ?_⟩
      rw [if_neg (by simp)]
      exact hit.symm
    | ok x =>
      obtain ⟨lv, L2⟩ := x
      rw [hlv] at he hit
      obtain ⟨rfl, rfl, hP12⟩ := he
      refine ⟨_, rfl, ?_⟩
      simp +contextual (maxSteps := 2000000) (disch := (first | omega | (simp only [SZ]; done) | (simp only [SZ]; omega) | (simp only [TS] at *; omega))) only [RZ, gval, gslot, fillL, ovw, numb, catL, ldN, agL, okC, oneC, init, Nat.reduceAdd, Nat.reduceMul, Nat.reduceSub, Nat.reduceEqDiff, Nat.reduceLT, ↓reduceIte, Int.reduceToNat, Int.reduceAdd, Int.reduceSub, Int.reduceMul, Int.reduceLT, Int.reduceLE, Int.reduceEq, Nat.reduceLeDiff,  cutX_normal, cutX_ret, cutX_exit, cut2X_normal, cut2X_ret, cut2X_same, cut2X_ne, f0, f1, f5, f6]
      refine ⟨true, a2, { q with levels := q.levels ++ [lv] }, pr, pa, g12, hP12, by simp, kb12, rfl, rfl, rfl, ?_⟩
      rw [if_pos rfl]
      exact hit.symm
  · have e4 : (t.text = ⟨#[112, 114, 105, 122, 101]⟩) = False := eq_false hp3
    rw [if_neg (eb (x := ⟨#[112, 114, 105, 122, 101]⟩) (by kernel_rfl) hp3)] at hit
    simp +contextual (maxSteps := 2000000) (disch := (first | omega | (simp only [SZ]; done) | (simp only [SZ]; omega) | (simp only [TS] at *; omega))) only [RZ, gval, gslot, fillL, ovw, numb, catL, ldN, agL, okC, oneC, init, Nat.reduceAdd, Nat.reduceMul, Nat.reduceSub, Nat.reduceEqDiff, Nat.reduceLT, ↓reduceIte, Int.reduceToNat, Int.reduceAdd, Int.reduceSub, Int.reduceMul, Int.reduceLT, Int.reduceLE, Int.reduceEq, Nat.reduceLeDiff,  e4]
    refine W_if_f rfl ?_
    simp +contextual (maxSteps := 2000000) (disch := (first | omega | (simp only [SZ]; done) | (simp only [SZ]; omega) | (simp only [TS] at *; omega))) only [RZ, gval, gslot, fillL, ovw, numb, catL, ldN, agL, okC, oneC, init, Nat.reduceAdd, Nat.reduceMul, Nat.reduceSub, Nat.reduceEqDiff, Nat.reduceLT, ↓reduceIte, Int.reduceToNat, Int.reduceAdd, Int.reduceSub, Int.reduceMul, Int.reduceLT, Int.reduceLE, Int.reduceEq, Nat.reduceLeDiff,  cutX_normal, cutX_ret, cutX_exit, cut2X_normal, cut2X_ret, cut2X_same, cut2X_ne, f0, f1, f5, f6]
    refine ⟨false, a, q, pr, pa, g10, hP10, by omega, kb10, rfl, rfl, rfl, ?_⟩
    rw [if_neg (by simp)]
    exact hit.symm
end
end Go.Proofs.YtcnlopjjejdahaaDoor
