/- Texts laid one behind the other: RgB, RgC, Ord6. Each says at its head what it proves. -/
import Derived.Test.YtbdkggnajipdhaaGreatDoorRtPsZ14
set_option linter.unusedSimpArgs false
/- The reference's reader of games: numbers, pair, hit; weekdays; the words of items. -/
namespace Go.Proofs.YtbdkggnajipdhaaGreatDoor
open Nat (reduceAdd reduceMul reduceSub reduceEqDiff reduceLT reduceLeDiff)
open Go.RowKit
set_option maxRecDepth 100000
section
variable {g c a : Nat} {A : Option Addr} {T : List Tk} {w : World} {rest : List Value} {er ln : Int} {x : Except (Int × List Tk) (List Tk)}
/-- As many numbers as there are. -/
def numsX (L : List Tk) : Except (Int × List Tk) (List Int × List Tk) := .ok (numsT L.length L)
theorem numberT_any (hT : TokOk T) (ha : a < T.length) : numberT 999999999999999999 (T.drop a) = anyT (T.drop a) := by
  unfold numberT anyT lessT
  cases hn : numT (T.drop a) with
  | none => rfl
  | some x =>
    have hx : x.1 ≤ 999999999999999999 := by
      unfold numT at hn
      split at hn
      · rename_i h
        injection hn with hn
        rw [← hn]
        exact (hT.num _ (tok_mem ha) h.1).2.2
      · cases hn
    dsimp only
    rw [if_pos hx]
theorem rgNumbers_any (hT : TokOk T) (h : Rs w g A c T x rest) (hg : g < w.heap.size) : Calls Tryz.prog 115 #[.pointer (some ⟨g, 0, none⟩)] w fun e w' =>
    ∃ (Z : List Int) (A1 : Option Addr) (c1 : Nat), e = .returned (.slice A1 Z.length c1) ∧ Rs w' g A c T (sndX (bindT x numsX)) rest ∧ Kept [g] w w' ∧
      w'.ownsRow w.heap.size 3 1 (.slice A1 Z.length c1) Z.length (iW Z) ∧ ∀ y, bindT x numsX = .ok y → Z = y.1 := by
  refine calls_W (l := [_]) Tryz.func115 rfl _ Tryz.ntmps115 (by simp) ?_
  have hI : sliceI Tryz.prog 43 = some (3, 1, 8) := by kernel_rfl
  have hbig := hT.big
  obtain ⟨a, er, ln, p0, hx⟩ := h.cases
  rcases hx with ⟨rfl, rfl⟩ | ⟨hne, L, rfl, hl⟩
  · have hr0 : bindT (.ok (T.drop a)) numsX = .ok (numsT (T.drop a).length (T.drop a)) := rfl
    rw [hr0]
    generalize hr : numsT (T.drop a).length (T.drop a) = r
    rw [List.length_drop] at hr
    have hlt := p0.lt
    simp +contextual (maxSteps := 2000000) (disch := first | omega | (simp only [SZ]; first | done | omega) | (simp only [TS] at *; omega)) only [RZ, ovw, oneC, reduceAdd, reduceMul, reduceSub, reduceEqDiff, reduceLT, ↓reduceIte, Int.reduceToNat, reduceLeDiff]
    refine Raw_loop (fun σ w1 => ∃ (Z : List Int) (A1 : Option Addr) (c1 a1 : Nat), a1 = a + Z.length ∧ a1 < T.length ∧ Rs w1 g A c T (.ok (T.drop a1)) rest ∧ Kept [g] w w1 ∧ w1.ownsRow w.heap.size 3 1 (.slice A1 Z.length c1) Z.length (iW Z) ∧
      (Z ++ (numsT (T.length - a1) (T.drop a1)).1, (numsT (T.length - a1) (T.drop a1)).2) = r ∧ σ 0 = .pointer (some ⟨g, 0, none⟩) ∧ σ 3 = .slice A1 Z.length c1) (fun σ _ => T.length - slcLen (σ 3)) ?_ ?_
    · simp +contextual (maxSteps := 2000000) (disch := first | omega | (simp only [SZ]; first | done | omega) | (simp only [TS] at *; omega)) only [RZ, ovw, oneC, reduceAdd, reduceMul, reduceSub, reduceEqDiff, reduceLT, ↓reduceIte, Int.reduceToNat, reduceLeDiff]
      exact ⟨[], none, 0, a, rfl, hlt, h, Kept.refl _ _, owns_nil _ _ _ _, by rw [List.nil_append]; exact hr, rfl⟩
    rintro σ w1 ⟨Z, A1, c1, a1, ha1, hlt1, h1, k1, ho1, hr1, f0, f3⟩ K hK
    simp +contextual (maxSteps := 2000000) (disch := first | omega | (simp only [SZ]; first | done | omega) | (simp only [TS] at *; omega)) only [RZ, ovw, oneC, reduceAdd, reduceMul, reduceSub, reduceEqDiff, reduceLT, ↓reduceIte, Int.reduceToNat, reduceLeDiff,  f0, f3]
    refine (rgMore_any h1).mono ?_
    rintro e w2 ⟨rfl, hB2⟩
    refine ⟨_, rfl, ?_⟩
    have h2 := h1.below hB2
    have k2 := k1.trans (Kept.of_below hB2)
    have ho2 := owns_below ho1 hB2
    have hnt := numT_next hT hlt1
    have hfu : T.length - a1 = (T.length - (a1 + 1)) + 1 := by omega
    rw [hfu] at hr1
    unfold numsT at hr1
    rw [hnt] at hr1
    by_cases hk : (hdT (T.drop a1)).kind = 2
    · have hm : moreX (.ok (T.drop a1)) = true := decide_eq_true hk
      have hnm := hT.num _ (tok_mem hlt1) hk
      obtain ⟨n1, n2⟩ := nx_at hT hlt1 (by omega)
      rw [if_pos hk] at hr1 hnt
      dsimp only at hr1
      have hany : bindT (.ok (T.drop a1)) (numberT 999999999999999999) = .ok ((numE (bs (hdT (T.drop a1)).text)).1, T.drop (a1 + 1)) := by
        show numberT _ _ = _
        rw [numberT_any hT hlt1]
        unfold anyT
        rw [hnt]
        rfl
      generalize (numE (bs (hdT (T.drop a1)).text)).1 = v at *
      simp +contextual (maxSteps := 2000000) (disch := first | omega | (simp only [SZ]; first | done | omega) | (simp only [TS] at *; omega)) only [RZ, ovw, oneC, reduceAdd, reduceMul, reduceSub, reduceEqDiff, reduceLT, ↓reduceIte, Int.reduceToNat, reduceLeDiff,  f0, f3, hm]
      refine W_if_t rfl ?_
      simp +contextual (maxSteps := 2000000) (disch := first | omega | (simp only [SZ]; first | done | omega) | (simp only [TS] at *; omega)) only [RZ, ovw, oneC, reduceAdd, reduceMul, reduceSub, reduceEqDiff, reduceLT, ↓reduceIte, Int.reduceToNat, reduceLeDiff,  f0, f3]
      refine (rgNumber_any 999999999999999999 hT h2).mono ?_
      rintro e w3 ⟨v', rfl, h3, k3, hv⟩
      rw [hany] at h3 hv
      obtain rfl : v' = v := hv _ rfl
      refine ⟨_, rfl, ?_⟩
      have ho3 : w3.ownsRow w.heap.size 3 1 (.slice A1 Z.length c1) Z.length (iW Z) := owns_keep ho2 fun b hb => k3.block b (owns_ge ho2 hb).2 (by have := (owns_ge ho2 hb).1; simp; omega)
      have k23 := k2.trans k3
      obtain ⟨A', c', w5, he, ho5, hb5, hs5⟩ := push1 (P := Tryz.prog) (T := 43) (ty := 43) (news := [.int .i64 v']) ho3 k23.size hI rfl (fun u hu => by simp at hu; subst hu; rfl) (by omega) (by decide)
      try simp +contextual (maxSteps := 2000000) (disch := first | omega | (simp only [SZ]; first | done | omega) | (simp only [TS] at *; omega)) only [RZ, ovw, oneC, reduceAdd, reduceMul, reduceSub, reduceEqDiff, reduceLT, ↓reduceIte, Int.reduceToNat, reduceLeDiff,  f0, f3, he]
      have k35 : Below w.heap.size w3 w5 := hb5
      have h5 : Rs w5 g A c T (.ok (T.drop (a1 + 1))) rest := by
        obtain ⟨a3, er3, ln3, p3, hx3⟩ := h3
        have hA : ∀ b o, A = some ⟨b, o, none⟩ → b < w.heap.size := fun b o hb => by
          obtain ⟨b', o', e', hb', _⟩ := p0.tok
          rw [hb] at e'
          injection e' with e'
          injection e' with e'
          omega
        refine ⟨a3, er3, ln3, ⟨p3.lt, fun hn => ?_, p3.off, p3.len, p3.row.of_block (hb5.block g hg)⟩, hx3⟩
        obtain ⟨b, o, e, hb, hc⟩ := p3.arr hn
        exact ⟨b, o, e, Nat.lt_of_lt_of_le (hA b o e) (Nat.le_trans k23.size hs5), fun i l hl j v hv => by
          rw [World.cell?_of_block (w := w3) (hb5.block b (hA b o e))]
          exact hc i l hl j v hv⟩
      have k5 : Kept [g] w w5 := ⟨hb5.os.trans k23.os, hb5.tape.trans k23.tape, hb5.output.trans k23.output, Nat.le_trans k23.size hb5.size, fun k hk hx => (hb5.block k hk).trans (k23.block k hk hx)⟩
      refine hK _ _ ⟨Z ++ [v'], A', c', a1 + 1, by rw [List.length_append, ha1]; rfl, n1, h5, k5, ?_, ?_, ?_⟩ ?_
      · rw [List.length_append]
        unfold iW at ho5 ⊢
        rw [List.map_append]
        exact ho5
      · rw [List.append_assoc]; exact hr1
      · simp +contextual (maxSteps := 2000000) (disch := first | omega | (simp only [SZ]; first | done | omega) | (simp only [TS] at *; omega)) only [RZ, ovw, oneC, reduceAdd, reduceMul, reduceSub, reduceEqDiff, reduceLT, ↓reduceIte, Int.reduceToNat, reduceLeDiff,  f0, f3, List.length_append]
      · simp +contextual (maxSteps := 2000000) (disch := first | omega | (simp only [SZ]; first | done | omega) | (simp only [TS] at *; omega)) only [RZ, ovw, oneC, reduceAdd, reduceMul, reduceSub, reduceEqDiff, reduceLT, ↓reduceIte, Int.reduceToNat, reduceLeDiff,  slcLen, f3]
        omega
    · have hm : moreX (.ok (T.drop a1)) = false := decide_eq_false hk
      rw [if_neg hk] at hr1
      dsimp only at hr1
      rw [List.append_nil] at hr1
      subst hr1
      simp +contextual (maxSteps := 2000000) (disch := first | omega | (simp only [SZ]; first | done | omega) | (simp only [TS] at *; omega)) only [RZ, ovw, oneC, reduceAdd, reduceMul, reduceSub, reduceEqDiff, reduceLT, ↓reduceIte, Int.reduceToNat, reduceLeDiff,  f0, f3, hm]
      refine W_if_f rfl ?_
      simp +contextual (maxSteps := 2000000) (disch := first | omega | (simp only [SZ]; first | done | omega) | (simp only [TS] at *; omega)) only [RZ, ovw, oneC, reduceAdd, reduceMul, reduceSub, reduceEqDiff, reduceLT, ↓reduceIte, Int.reduceToNat, reduceLeDiff,  f0, f3]
      exact ⟨Z, A1, c1, rfl, h2, k2, ho2, fun y hy => by injection hy with hy; rw [← hy]⟩
  · simp +contextual (maxSteps := 2000000) (disch := first | omega | (simp only [SZ]; first | done | omega) | (simp only [TS] at *; omega)) only [RZ, ovw, oneC, reduceAdd, reduceMul, reduceSub, reduceEqDiff, reduceLT, ↓reduceIte, Int.reduceToNat, reduceLeDiff]
    refine Raw_loop (fun σ w1 => Rs w1 g A c T (.error (er, L)) rest ∧ Kept [g] w w1 ∧ σ 0 = .pointer (some ⟨g, 0, none⟩) ∧ σ 3 = .slice none 0 0) (fun _ _ => 0) ?_ ?_
    · simp +contextual (maxSteps := 2000000) (disch := first | omega | (simp only [SZ]; first | done | omega) | (simp only [TS] at *; omega)) only [RZ, ovw, oneC, reduceAdd, reduceMul, reduceSub, reduceEqDiff, reduceLT, ↓reduceIte, Int.reduceToNat, reduceLeDiff]
      exact ⟨h, Kept.refl _ _⟩
    rintro σ w1 ⟨h1, k1, f0, f3⟩ K hK
    simp +contextual (maxSteps := 2000000) (disch := first | omega | (simp only [SZ]; first | done | omega) | (simp only [TS] at *; omega)) only [RZ, ovw, oneC, reduceAdd, reduceMul, reduceSub, reduceEqDiff, reduceLT, ↓reduceIte, Int.reduceToNat, reduceLeDiff,  f0, f3]
    refine (rgMore_any h1).mono ?_
    rintro e w2 ⟨rfl, hB2⟩
    refine ⟨_, rfl, ?_⟩
    rw [show moreX (.error (er, L)) = false from rfl]
    try simp +contextual (maxSteps := 2000000) (disch := first | omega | (simp only [SZ]; first | done | omega) | (simp only [TS] at *; omega)) only [RZ, ovw, oneC, reduceAdd, reduceMul, reduceSub, reduceEqDiff, reduceLT, ↓reduceIte, Int.reduceToNat, reduceLeDiff]
    refine W_if_f rfl ?_
    simp +contextual (maxSteps := 2000000) (disch := first | omega | (simp only [SZ]; first | done | omega) | (simp only [TS] at *; omega)) only [RZ, ovw, oneC, reduceAdd, reduceMul, reduceSub, reduceEqDiff, reduceLT, ↓reduceIte, Int.reduceToNat, reduceLeDiff,  f0, f3]
    exact ⟨[], none, 0, rfl, h1.below hB2, k1.trans (Kept.of_below hB2), owns_nil _ _ _ _, fun y hy => by cases hy⟩
/-- The two numbers of a pair: as the reference reads them. -/
def pairX (L : List Tk) : Except (Int × List Tk) ((Int × Int) × List Tk) := bindT (numberT 999999999999999999 L) fun a => bindT (needX (asc "of") a.2) fun b => bindT (numberT 999999999999999999 b.2) fun d => .ok ((a.1, d.1), d.2)
theorem rgPair_any (hT : TokOk T) (h : Rs w g A c T x rest) : Calls Tryz.prog 65 #[.pointer (some ⟨g, 0, none⟩)] w (Lr g A c T rest w (bindT x pairX) fun v => .tuple #[.int .i64 v.1, .int .i64 v.2]) := by
  refine calls_W (l := [_]) Tryz.func65 rfl _ Tryz.ntmps65 (by simp) ?_
  simp +contextual (maxSteps := 2000000) (disch := first | omega | (simp only [SZ]; first | done | omega) | (simp only [TS] at *; omega)) only [RZ, ovw, oneC, reduceAdd, reduceMul, reduceSub, reduceEqDiff, reduceLT, ↓reduceIte, Int.reduceToNat, reduceLeDiff]
  refine (rgNumber_any 999999999999999999 hT h).mono ?_
  rintro e w1 ⟨v1, rfl, h1, k1, q1⟩
  refine ⟨_, rfl, ?_⟩
  try simp +contextual (maxSteps := 2000000) (disch := first | omega | (simp only [SZ]; first | done | omega) | (simp only [TS] at *; omega)) only [RZ, ovw, oneC, reduceAdd, reduceMul, reduceSub, reduceEqDiff, reduceLT, ↓reduceIte, Int.reduceToNat, reduceLeDiff]
  refine (rgNeed_any ⟨#[111, 102]⟩ hT h1).mono ?_
  rintro e w2 ⟨⟨v2, rfl⟩, h2, k2⟩
  rw [show bs ⟨#[111, 102]⟩ = asc "of" by kernel_rfl] at h2
  refine ⟨_, rfl, ?_⟩
  try simp +contextual (maxSteps := 2000000) (disch := first | omega | (simp only [SZ]; first | done | omega) | (simp only [TS] at *; omega)) only [RZ, ovw, oneC, reduceAdd, reduceMul, reduceSub, reduceEqDiff, reduceLT, ↓reduceIte, Int.reduceToNat, reduceLeDiff]
  refine (rgNumber_any 999999999999999999 hT h2).mono ?_
  rintro e w3 ⟨v3, rfl, h3, k3, q3⟩
  refine ⟨_, rfl, ?_⟩
  try simp +contextual (maxSteps := 2000000) (disch := first | omega | (simp only [SZ]; first | done | omega) | (simp only [TS] at *; omega)) only [RZ, ovw, oneC, reduceAdd, reduceMul, reduceSub, reduceEqDiff, reduceLT, ↓reduceIte, Int.reduceToNat, reduceLeDiff]
  refine ⟨(v1, v3), rfl, ?_, (k1.trans k2).trans k3, ?_⟩
  · have e1 : sndX (bindT x pairX) = sndX (bindT (sndX (bindT (sndX (bindT x (numberT 999999999999999999))) (needX (asc "of")))) (numberT 999999999999999999)) := by
      cases x with
      | error y => rfl
      | ok L =>
        show sndX (pairX L) = sndX (bindT (sndX (bindT (sndX (numberT _ L)) _)) _)
        unfold pairX
        cases numberT 999999999999999999 L with
        | error y => rfl
        | ok z =>
          show sndX (bindT (needX _ z.2) _) = sndX (bindT (sndX (needX _ z.2)) _)
          cases needX (asc "of") z.2 with
          | error y => rfl
          | ok z2 =>
            show sndX (bindT (numberT _ z2.2) _) = sndX (numberT _ z2.2)
            cases numberT 999999999999999999 z2.2 <;> rfl
    rw [e1]
    exact h3
  · intro y hy
    cases x with
    | error z => cases hy
    | ok L =>
      have hy' : pairX L = .ok y := hy
      unfold pairX at hy'
      obtain ⟨z1, g1, hy'⟩ := bind_ok hy'
      obtain ⟨z2, g2, hy'⟩ := bind_ok hy'
      obtain ⟨z3, g3, hy'⟩ := bind_ok hy'
      injection hy' with hy'
      have e1 : bindT (.ok L) (numberT 999999999999999999) = .ok z1 := g1
      have e2 := q1 z1 e1
      have e3 : bindT (sndX (bindT (sndX (bindT (.ok L) (numberT 999999999999999999))) (needX (asc "of")))) (numberT 999999999999999999) = .ok z3 := by
        rw [e1]
        show bindT (sndX (needX (asc "of") z1.2)) _ = _
        rw [g2]
        exact g3
      have e4 := q3 z3 e3
      rw [← hy', e2, e4]
def hitX (w : List Nat) (L : List Tk) : Except (Int × List Tk) (Int × List Tk) := if isWM w L = true then numberT 999999999999999999 (nxT L) else .ok (0, L)
theorem rgHit_any (s : ByteArray) (hT : TokOk T) (h : Rs w g A c T x rest) : Calls Tryz.prog 116 #[.pointer (some ⟨g, 0, none⟩), .string s] w (Lr g A c T rest w (bindT x (hitX (bs s))) fun v => .int .i64 v) := by
  refine calls_W (l := [_, _]) Tryz.func116 rfl _ Tryz.ntmps116 (by simp) ?_
  have hbig := hT.big
  simp +contextual (maxSteps := 2000000) (disch := first | omega | (simp only [SZ]; first | done | omega) | (simp only [TS] at *; omega)) only [RZ, ovw, oneC, reduceAdd, reduceMul, reduceSub, reduceEqDiff, reduceLT, ↓reduceIte, Int.reduceToNat, reduceLeDiff]
  refine (rgIs_any s h).mono ?_
  rintro e w1 ⟨rfl, b1⟩
  refine ⟨_, rfl, ?_⟩
  have h1 := h.below b1
  have k1 : Kept [g] w w1 := Kept.of_below b1
  obtain ⟨a, er, ln, p1, hx⟩ := h1.cases
  cases hi : isX x (bs s) with
  | false =>
    simp +contextual (maxSteps := 2000000) (disch := first | omega | (simp only [SZ]; first | done | omega) | (simp only [TS] at *; omega)) only [RZ, ovw, oneC, reduceAdd, reduceMul, reduceSub, reduceEqDiff, reduceLT, ↓reduceIte, Int.reduceToNat, reduceLeDiff]
    refine W_if_t rfl ?_
    simp +contextual (maxSteps := 2000000) (disch := first | omega | (simp only [SZ]; first | done | omega) | (simp only [TS] at *; omega)) only [RZ, ovw, oneC, reduceAdd, reduceMul, reduceSub, reduceEqDiff, reduceLT, ↓reduceIte, Int.reduceToNat, reduceLeDiff]
    refine ⟨0, rfl, ?_, k1, ?_⟩
    · cases x with
      | ok L =>
        rw [show bindT (.ok L) (hitX (bs s)) = .ok (0, L) from if_neg (by rw [show isWM (bs s) L = false from hi]; simp)]
        exact h1
      | error y => exact h1
    · intro y hy
      cases x with
      | ok L =>
        rw [show bindT (.ok L) (hitX (bs s)) = .ok (0, L) from if_neg (by rw [show isWM (bs s) L = false from hi]; simp)] at hy
        injection hy with hy
        rw [← hy]
      | error y => cases hy
  | true =>
    rcases hx with ⟨rfl, rfl⟩ | ⟨hne, L, rfl, hl⟩
    · have hi' : isWM (bs s) (T.drop a) = true := hi
      obtain ⟨n1, n2⟩ := isWM_end hT p1.lt hi'
      have e1 : bindT (.ok (T.drop a)) (hitX (bs s)) = bindT (.ok (T.drop (a + 1))) (numberT 999999999999999999) := by
        show hitX (bs s) (T.drop a) = _
        unfold hitX
        rw [if_pos hi', n2]; rfl
      rw [e1]
      have c1 := p1.c1
      have y1 := p1.row.frozen 1
      simp +contextual (maxSteps := 2000000) (disch := first | omega | (simp only [SZ]; first | done | omega) | (simp only [TS] at *; omega)) only [RZ, ovw, oneC, reduceAdd, reduceMul, reduceSub, reduceEqDiff, reduceLT, ↓reduceIte, Int.reduceToNat, reduceLeDiff]
      refine W_if_f rfl ?_
      simp +contextual (maxSteps := 2000000) (disch := first | omega | (simp only [SZ]; first | done | omega) | (simp only [TS] at *; omega)) only [RZ, ovw, oneC, reduceAdd, reduceMul, reduceSub, reduceEqDiff, reduceLT, ↓reduceIte, Int.reduceToNat, reduceLeDiff,  c1, y1]
      have p2 := p1.go n1
      have k2 := k1.setCell (p := ⟨g, 1, none⟩) (by simp) (.int .i64 ((a : Int) + 1))
      generalize w1.setCell ⟨g, 1, none⟩ (.int .i64 ((a : Int) + 1)) = w2 at *
      refine (rgNumber_any 999999999999999999 hT p2.rs).mono ?_
      rintro e w3 ⟨v3, rfl, h3, k3, q3⟩
      refine ⟨_, rfl, ?_⟩
      try simp +contextual (maxSteps := 2000000) (disch := first | omega | (simp only [SZ]; first | done | omega) | (simp only [TS] at *; omega)) only [RZ, ovw, oneC, reduceAdd, reduceMul, reduceSub, reduceEqDiff, reduceLT, ↓reduceIte, Int.reduceToNat, reduceLeDiff]
      exact ⟨v3, rfl, h3, k2.trans k3, q3⟩
    · cases hi
def dayS : List ByteArray := [⟨#[109, 111, 110]⟩, ⟨#[116, 117, 101]⟩, ⟨#[119, 101, 100]⟩, ⟨#[116, 104, 117]⟩, ⟨#[102, 114, 105]⟩, ⟨#[115, 97, 116]⟩, ⟨#[115, 117, 110]⟩]
def singS : List ByteArray := [⟨#[101, 120, 116, 114, 97]⟩, ⟨#[112, 114, 105, 99, 101]⟩, ⟨#[100, 114, 97, 119, 115]⟩, ⟨#[115, 121, 115, 116, 101, 109]⟩, ⟨#[99, 108, 111, 115, 101]⟩, ⟨#[99, 97, 110, 99, 101, 108]⟩, ⟨#[101, 120, 112, 105, 114, 121]⟩, ⟨#[112, 111, 111, 108]⟩, ⟨#[114, 101, 115, 101, 114, 118, 101]⟩, ⟨#[114, 111, 117, 110, 100]⟩, ⟨#[99, 97, 112]⟩, ⟨#[114, 111, 108, 108, 115]⟩]
theorem dayS_is : dayS.map bs = dayW := by decide +kernel
theorem singS_is : singS.map bs = simpleW := by decide +kernel
theorem dayR_at {s : ByteArray} {k : Nat} (h : dayS[k]? = some s) (hb : ∀ j, j < k → dayS[j]? ≠ some s) : dayI (bs s) = some k := by
  unfold dayI
  rw [← dayS_is, List.findIdx?_eq_some_iff_getElem]
  obtain ⟨hk, hs⟩ := List.getElem?_eq_some_iff.1 h
  refine ⟨by rw [List.length_map]; exact hk, by rw [List.getElem_map, hs]; simp, fun j hj => ?_⟩
  rw [List.getElem_map]
  intro e
  have e := of_decide_eq_true e
  exact hb j hj (List.getElem?_eq_some_iff.2 ⟨by omega, bs_inj e⟩)
theorem dayR_not {s : ByteArray} (hb : ∀ j, j < dayS.length → dayS[j]? ≠ some s) : dayI (bs s) = none := by
  unfold dayI
  rw [← dayS_is, List.findIdx?_eq_none_iff]
  intro d hd
  obtain ⟨u, hu, rfl⟩ := List.mem_map.1 hd
  simp only [decide_eq_false_iff_not]
  intro e
  obtain ⟨j, hj, hju⟩ := List.mem_iff_getElem.1 hu
  exact hb j hj (List.getElem?_eq_some_iff.2 ⟨hj, hju.trans (bs_inj e)⟩)
theorem simple_iff (w : List Nat) : (simpleI w).isSome = decide (w ∈ simpleW) := by
  cases h : (simpleI w).isSome with
  | true => exact (decide_eq_true (simple_mem h)).symm
  | false =>
    refine (decide_eq_false fun hm => ?_).symm
    have hall : (simpleW.all fun w => (simpleI w).isSome) = true := by decide +kernel
    rw [List.all_eq_true.1 hall w hm] at h
    cases h
theorem sing_at {s : ByteArray} {k : Nat} (h : singS[k]? = some s) : (simpleI (bs s)).isSome = true := by
  rw [simple_iff, ← singS_is]
  exact decide_eq_true (List.mem_map.2 ⟨s, List.mem_of_getElem? h, rfl⟩)
theorem sing_not {s : ByteArray} (hb : ∀ j, j < singS.length → singS[j]? ≠ some s) : (simpleI (bs s)).isSome = false := by
  rw [simple_iff, ← singS_is]
  refine decide_eq_false fun hm => ?_
  obtain ⟨u, hu, e⟩ := List.mem_map.1 hm
  obtain ⟨j, hj, hju⟩ := List.mem_iff_getElem.1 hu
  exact hb j hj (List.getElem?_eq_some_iff.2 ⟨hj, hju.trans (bs_inj e)⟩)
theorem rgDays_any (w : World) : Calls Tryz.prog 83 #[] w fun e w' => (∃ (A : Option Addr) (c m : Nat), e = .returned (.slice A m c) ∧ m = 7 ∧ Arr w' A 1 (dayS.map fun s => [Value.string s])) ∧ Below w.heap.size w w' := by
  refine calls_W (l := []) Tryz.func83 rfl _ Tryz.ntmps83 (by simp) ?_
  simp +contextual (maxSteps := 2000000) (disch := first | omega | (simp only [SZ]; first | done | omega) | (simp only [TS] at *; omega)) only [RZ, ovw, oneC, reduceAdd, reduceMul, reduceSub, reduceEqDiff, reduceLT, ↓reduceIte, Int.reduceToNat, reduceLeDiff]
  exact ⟨⟨_, _, 7, rfl, rfl, arr_row (Vs := dayS.map fun s => [Value.string s]) (Row.new w 9 (dayS.map .string)) (by simp)⟩, below_alloc _ _⟩
def dayZ (o : Option Nat) : Int := match o with
  | some k => k
  | none => -1
theorem rgWeekday_any (s : ByteArray) (w : World) : Calls Tryz.prog 114 #[.string s] w fun e w' => e = .returned (.int .i64 (dayZ (dayI (bs s)))) ∧ Below w.heap.size w w' := by
  refine calls_W (l := [_]) Tryz.func114 rfl _ Tryz.ntmps114 (by simp) ?_
  simp +contextual (maxSteps := 2000000) (disch := first | omega | (simp only [SZ]; first | done | omega) | (simp only [TS] at *; omega)) only [RZ, ovw, oneC, reduceAdd, reduceMul, reduceSub, reduceEqDiff, reduceLT, ↓reduceIte, Int.reduceToNat, reduceLeDiff]
  refine (rgDays_any w).mono ?_
  rintro e w1 ⟨⟨A, c, m, rfl, hm, hA⟩, b1⟩
  refine ⟨_, rfl, ?_⟩
  try simp +contextual (maxSteps := 2000000) (disch := first | omega | (simp only [SZ]; first | done | omega) | (simp only [TS] at *; omega)) only [RZ, ovw, oneC, reduceAdd, reduceMul, reduceSub, reduceEqDiff, reduceLT, ↓reduceIte, Int.reduceToNat, reduceLeDiff]
  refine Raw_loop (fun σ w2 => w2 = w1 ∧ ∃ k : Nat, k ≤ 7 ∧ (∀ j, j < k → dayS[j]? ≠ some s) ∧ σ 0 = .string s ∧ σ 3 = .slice A m c ∧ σ 4 = .int .i64 k) (fun σ _ => 7 - (intOf (σ 4)).toNat) ?_ ?_
  · simp +contextual (maxSteps := 2000000) (disch := first | omega | (simp only [SZ]; first | done | omega) | (simp only [TS] at *; omega)) only [RZ, ovw, oneC, reduceAdd, reduceMul, reduceSub, reduceEqDiff, reduceLT, ↓reduceIte, Int.reduceToNat, reduceLeDiff]
    exact ⟨0, by omega, fun j hj => absurd hj (Nat.not_lt_zero _), rfl⟩
  rintro σ w2 ⟨rfl, k, hk, hb, f0, f3, f4⟩ K hK
  simp +contextual (maxSteps := 2000000) (disch := first | omega | (simp only [SZ]; first | done | omega) | (simp only [TS] at *; omega)) only [RZ, ovw, oneC, reduceAdd, reduceMul, reduceSub, reduceEqDiff, reduceLT, ↓reduceIte, Int.reduceToNat, reduceLeDiff,  f0, f3, f4]
  by_cases hkl : k < 7
  · have e1 : decide ((k : Int) < m) = true := decide_eq_true (by omega)
    obtain ⟨u, hu⟩ : ∃ u, dayS[k]? = some u := ⟨_, List.getElem?_eq_getElem (show k < dayS.length from hkl)⟩
    obtain ⟨b, o, rfl, hbl, hcell⟩ := hA.at_ hu
    have l0 := hcell 0 _ rfl
    rw [Nat.add_zero, Nat.mul_one] at l0
    simp +contextual (maxSteps := 2000000) (disch := first | omega | (simp only [SZ]; first | done | omega) | (simp only [TS] at *; omega)) only [RZ, ovw, oneC, reduceAdd, reduceMul, reduceSub, reduceEqDiff, reduceLT, ↓reduceIte, Int.reduceToNat, reduceLeDiff,  e1]
    refine W_if_t rfl ?_
    simp +contextual (maxSteps := 2000000) (disch := first | omega | (simp only [SZ]; first | done | omega) | (simp only [TS] at *; omega)) only [RZ, ovw, oneC, reduceAdd, reduceMul, reduceSub, reduceEqDiff, reduceLT, ↓reduceIte, Int.reduceToNat, reduceLeDiff,  f0, f3, f4, l0]
    by_cases hus : u = s
    · have e2 : (u = s) = True := eq_true hus
      simp +contextual (maxSteps := 2000000) (disch := first | omega | (simp only [SZ]; first | done | omega) | (simp only [TS] at *; omega)) only [RZ, ovw, oneC, reduceAdd, reduceMul, reduceSub, reduceEqDiff, reduceLT, ↓reduceIte, Int.reduceToNat, reduceLeDiff,  e2]
      refine W_if_t rfl ?_
      simp +contextual (maxSteps := 2000000) (disch := first | omega | (simp only [SZ]; first | done | omega) | (simp only [TS] at *; omega)) only [RZ, ovw, oneC, reduceAdd, reduceMul, reduceSub, reduceEqDiff, reduceLT, ↓reduceIte, Int.reduceToNat, reduceLeDiff,  f0, f3, f4]
      refine ⟨?_, b1⟩
      rw [dayR_at (hus ▸ hu) hb]; rfl
    · have e2 : (u = s) = False := eq_false hus
      simp +contextual (maxSteps := 2000000) (disch := first | omega | (simp only [SZ]; first | done | omega) | (simp only [TS] at *; omega)) only [RZ, ovw, oneC, reduceAdd, reduceMul, reduceSub, reduceEqDiff, reduceLT, ↓reduceIte, Int.reduceToNat, reduceLeDiff,  e2]
      refine W_if_f rfl ?_
      simp +contextual (maxSteps := 2000000) (disch := first | omega | (simp only [SZ]; first | done | omega) | (simp only [TS] at *; omega)) only [RZ, ovw, oneC, reduceAdd, reduceMul, reduceSub, reduceEqDiff, reduceLT, ↓reduceIte, Int.reduceToNat, reduceLeDiff,  f0, f3, f4]
      refine hK _ _ ⟨rfl, k + 1, by omega, fun j hj => ?_, ?_⟩ ?_
      · rcases Nat.lt_or_eq_of_le (Nat.lt_succ_iff.1 hj) with h | rfl
        · exact hb j h
        · rw [hu]; exact fun h => hus (Option.some.inj h)
      · simp +contextual (maxSteps := 2000000) (disch := first | omega | (simp only [SZ]; first | done | omega) | (simp only [TS] at *; omega)) only [RZ, ovw, oneC, reduceAdd, reduceMul, reduceSub, reduceEqDiff, reduceLT, ↓reduceIte, Int.reduceToNat, reduceLeDiff,  f0, f3, f4]
      · simp +contextual (maxSteps := 2000000) (disch := first | omega | (simp only [SZ]; first | done | omega) | (simp only [TS] at *; omega)) only [RZ, ovw, oneC, reduceAdd, reduceMul, reduceSub, reduceEqDiff, reduceLT, ↓reduceIte, Int.reduceToNat, reduceLeDiff,  intOf, f4]
        omega
  · have e1 : decide ((k : Int) < m) = false := decide_eq_false (by omega)
    simp +contextual (maxSteps := 2000000) (disch := first | omega | (simp only [SZ]; first | done | omega) | (simp only [TS] at *; omega)) only [RZ, ovw, oneC, reduceAdd, reduceMul, reduceSub, reduceEqDiff, reduceLT, ↓reduceIte, Int.reduceToNat, reduceLeDiff,  e1]
    refine W_if_f rfl ?_
    simp +contextual (maxSteps := 2000000) (disch := first | omega | (simp only [SZ]; first | done | omega) | (simp only [TS] at *; omega)) only [RZ, ovw, oneC, reduceAdd, reduceMul, reduceSub, reduceEqDiff, reduceLT, ↓reduceIte, Int.reduceToNat, reduceLeDiff,  f0, f3, f4]
    refine ⟨?_, b1⟩
    rw [dayR_not fun j hj => hb j (by have : dayS.length = 7 := rfl; omega)]; rfl
theorem rgSingle_any (s : ByteArray) (w : World) : Calls Tryz.prog 113 #[.string s] w fun e w' => e = .returned (.bool (simpleI (bs s)).isSome) ∧ Below w.heap.size w w' := by
  refine calls_W (l := [_]) Tryz.func113 rfl _ Tryz.ntmps113 (by simp) ?_
  simp +contextual (maxSteps := 2000000) (disch := first | omega | (simp only [SZ]; first | done | omega) | (simp only [TS] at *; omega)) only [RZ, ovw, oneC, reduceAdd, reduceMul, reduceSub, reduceEqDiff, reduceLT, ↓reduceIte, Int.reduceToNat, reduceLeDiff]
  have b1 := below_alloc w (.cells (singS.map .string).toArray 9)
  have hA : Arr (w.alloc (.cells (singS.map .string).toArray 9)) (some ⟨w.heap.size, 0, none⟩) 1 (singS.map fun s => [Value.string s]) := arr_row (Vs := singS.map fun s => [Value.string s]) (Row.new w 9 (singS.map .string)) (by simp)
  change Below _ w (w.alloc (.cells #[Value.string ⟨#[101, 120, 116, 114, 97]⟩, Value.string ⟨#[112, 114, 105, 99, 101]⟩, Value.string ⟨#[100, 114, 97, 119, 115]⟩, Value.string ⟨#[115, 121, 115, 116, 101, 109]⟩, Value.string ⟨#[99, 108, 111, 115, 101]⟩, Value.string ⟨#[99, 97, 110, 99, 101, 108]⟩, Value.string ⟨#[101, 120, 112, 105, 114, 121]⟩, Value.string ⟨#[112, 111, 111, 108]⟩, Value.string ⟨#[114, 101, 115, 101, 114, 118, 101]⟩, Value.string ⟨#[114, 111, 117, 110, 100]⟩, Value.string ⟨#[99, 97, 112]⟩, Value.string ⟨#[114, 111, 108, 108, 115]⟩] 9)) at b1
  change Arr (w.alloc (.cells #[Value.string ⟨#[101, 120, 116, 114, 97]⟩, Value.string ⟨#[112, 114, 105, 99, 101]⟩, Value.string ⟨#[100, 114, 97, 119, 115]⟩, Value.string ⟨#[115, 121, 115, 116, 101, 109]⟩, Value.string ⟨#[99, 108, 111, 115, 101]⟩, Value.string ⟨#[99, 97, 110, 99, 101, 108]⟩, Value.string ⟨#[101, 120, 112, 105, 114, 121]⟩, Value.string ⟨#[112, 111, 111, 108]⟩, Value.string ⟨#[114, 101, 115, 101, 114, 118, 101]⟩, Value.string ⟨#[114, 111, 117, 110, 100]⟩, Value.string ⟨#[99, 97, 112]⟩, Value.string ⟨#[114, 111, 108, 108, 115]⟩] 9)) _ _ _ at hA
  generalize w.alloc (.cells #[Value.string ⟨#[101, 120, 116, 114, 97]⟩, Value.string ⟨#[112, 114, 105, 99, 101]⟩, Value.string ⟨#[100, 114, 97, 119, 115]⟩, Value.string ⟨#[115, 121, 115, 116, 101, 109]⟩, Value.string ⟨#[99, 108, 111, 115, 101]⟩, Value.string ⟨#[99, 97, 110, 99, 101, 108]⟩, Value.string ⟨#[101, 120, 112, 105, 114, 121]⟩, Value.string ⟨#[112, 111, 111, 108]⟩, Value.string ⟨#[114, 101, 115, 101, 114, 118, 101]⟩, Value.string ⟨#[114, 111, 117, 110, 100]⟩, Value.string ⟨#[99, 97, 112]⟩, Value.string ⟨#[114, 111, 108, 108, 115]⟩] 9) = w1 at *
  obtain ⟨m, hm⟩ : ∃ m : Nat, m = 12 := ⟨_, rfl⟩
  refine Raw_loop (fun σ w2 => w2 = w1 ∧ ∃ k : Nat, k ≤ 12 ∧ (∀ j, j < k → singS[j]? ≠ some s) ∧ σ 0 = .string s ∧ σ 3 = .slice (some ⟨w.heap.size, 0, none⟩) m m ∧ σ 4 = .int .i64 k) (fun σ _ => 12 - (intOf (σ 4)).toNat) ?_ ?_
  · rw [hm]
    simp +contextual (maxSteps := 2000000) (disch := first | omega | (simp only [SZ]; first | done | omega) | (simp only [TS] at *; omega)) only [RZ, ovw, oneC, reduceAdd, reduceMul, reduceSub, reduceEqDiff, reduceLT, ↓reduceIte, Int.reduceToNat, reduceLeDiff]
    exact ⟨0, by omega, fun j hj => absurd hj (Nat.not_lt_zero _), rfl⟩
  rintro σ w2 ⟨rfl, k, hk, hb, f0, f3, f4⟩ K hK
  simp +contextual (maxSteps := 2000000) (disch := first | omega | (simp only [SZ]; first | done | omega) | (simp only [TS] at *; omega)) only [RZ, ovw, oneC, reduceAdd, reduceMul, reduceSub, reduceEqDiff, reduceLT, ↓reduceIte, Int.reduceToNat, reduceLeDiff,  f0, f3, f4]
  by_cases hkl : k < 12
  · have e1 : decide ((k : Int) < m) = true := decide_eq_true (by omega)
    obtain ⟨u, hu⟩ : ∃ u, singS[k]? = some u := ⟨_, List.getElem?_eq_getElem (show k < singS.length from hkl)⟩
    obtain ⟨b, o, hbo, hbl, hcell⟩ := hA.at_ hu
    cases hbo
    have l0 := hcell 0 _ rfl
    rw [Nat.add_zero, Nat.mul_one, Nat.zero_add] at l0
    simp +contextual (maxSteps := 2000000) (disch := first | omega | (simp only [SZ]; first | done | omega) | (simp only [TS] at *; omega)) only [RZ, ovw, oneC, reduceAdd, reduceMul, reduceSub, reduceEqDiff, reduceLT, ↓reduceIte, Int.reduceToNat, reduceLeDiff,  e1]
    refine W_if_t rfl ?_
    simp +contextual (maxSteps := 2000000) (disch := first | omega | (simp only [SZ]; first | done | omega) | (simp only [TS] at *; omega)) only [RZ, ovw, oneC, reduceAdd, reduceMul, reduceSub, reduceEqDiff, reduceLT, ↓reduceIte, Int.reduceToNat, reduceLeDiff,  f0, f3, f4, l0]
    by_cases hus : u = s
    · have e2 : (u = s) = True := eq_true hus
      simp +contextual (maxSteps := 2000000) (disch := first | omega | (simp only [SZ]; first | done | omega) | (simp only [TS] at *; omega)) only [RZ, ovw, oneC, reduceAdd, reduceMul, reduceSub, reduceEqDiff, reduceLT, ↓reduceIte, Int.reduceToNat, reduceLeDiff,  e2]
      refine W_if_t rfl ?_
      simp +contextual (maxSteps := 2000000) (disch := first | omega | (simp only [SZ]; first | done | omega) | (simp only [TS] at *; omega)) only [RZ, ovw, oneC, reduceAdd, reduceMul, reduceSub, reduceEqDiff, reduceLT, ↓reduceIte, Int.reduceToNat, reduceLeDiff,  f0, f3, f4]
      refine ⟨?_, b1⟩
      rw [sing_at (hus ▸ hu)]
    · have e2 : (u = s) = False := eq_false hus
      simp +contextual (maxSteps := 2000000) (disch := first | omega | (simp only [SZ]; first | done | omega) | (simp only [TS] at *; omega)) only [RZ, ovw, oneC, reduceAdd, reduceMul, reduceSub, reduceEqDiff, reduceLT, ↓reduceIte, Int.reduceToNat, reduceLeDiff,  e2]
      refine W_if_f rfl ?_
      simp +contextual (maxSteps := 2000000) (disch := first | omega | (simp only [SZ]; first | done | omega) | (simp only [TS] at *; omega)) only [RZ, ovw, oneC, reduceAdd, reduceMul, reduceSub, reduceEqDiff, reduceLT, ↓reduceIte, Int.reduceToNat, reduceLeDiff,  f0, f3, f4]
      refine hK _ _ ⟨rfl, k + 1, by omega, fun j hj => ?_, ?_⟩ ?_
      · rcases Nat.lt_or_eq_of_le (Nat.lt_succ_iff.1 hj) with h | rfl
        · exact hb j h
        · rw [hu]; exact fun h => hus (Option.some.inj h)
      · simp +contextual (maxSteps := 2000000) (disch := first | omega | (simp only [SZ]; first | done | omega) | (simp only [TS] at *; omega)) only [RZ, ovw, oneC, reduceAdd, reduceMul, reduceSub, reduceEqDiff, reduceLT, ↓reduceIte, Int.reduceToNat, reduceLeDiff,  f0, f3, f4]
      · simp +contextual (maxSteps := 2000000) (disch := first | omega | (simp only [SZ]; first | done | omega) | (simp only [TS] at *; omega)) only [RZ, ovw, oneC, reduceAdd, reduceMul, reduceSub, reduceEqDiff, reduceLT, ↓reduceIte, Int.reduceToNat, reduceLeDiff,  intOf, f4]
        omega
  · have e1 : decide ((k : Int) < m) = false := decide_eq_false (by omega)
    simp +contextual (maxSteps := 2000000) (disch := first | omega | (simp only [SZ]; first | done | omega) | (simp only [TS] at *; omega)) only [RZ, ovw, oneC, reduceAdd, reduceMul, reduceSub, reduceEqDiff, reduceLT, ↓reduceIte, Int.reduceToNat, reduceLeDiff,  e1]
    refine W_if_f rfl ?_
    simp +contextual (maxSteps := 2000000) (disch := first | omega | (simp only [SZ]; first | done | omega) | (simp only [TS] at *; omega)) only [RZ, ovw, oneC, reduceAdd, reduceMul, reduceSub, reduceEqDiff, reduceLT, ↓reduceIte, Int.reduceToNat, reduceLeDiff,  f0, f3, f4]
    refine ⟨?_, b1⟩
    rw [sing_not fun j hj => hb j (by have : singS.length = 12 := rfl; omega)]
def knownB (w : List Nat) : Bool := decide (w = asc "choose") || decide (w = asc "digits") || decide (w = asc "bonus") || decide (w = asc "days") || decide (w = asc "addon") || decide (w = asc "tier") || (simpleI w).isSome
theorem dec_bs (s u : ByteArray) (w : List Nat) (h : bs u = w) : decide (s = u) = decide (bs s = w) := decide_eq_decide.2 ⟨fun e => by rw [e, h], fun e => bs_inj (e.trans h.symm)⟩
theorem rgKnown_any (s : ByteArray) (w : World) : Calls Tryz.prog 63 #[.string s] w fun e w' => e = .returned (.bool (knownB (bs s))) ∧ Below w.heap.size w w' := by
  refine calls_W (l := [_]) Tryz.func63 rfl _ Tryz.ntmps63 (by simp) ?_
  unfold knownB
  simp +contextual (maxSteps := 2000000) (disch := first | omega | (simp only [SZ]; first | done | omega) | (simp only [TS] at *; omega)) only [RZ, ovw, oneC, reduceAdd, reduceMul, reduceSub, reduceEqDiff, reduceLT, ↓reduceIte, Int.reduceToNat, reduceLeDiff]
  rw [dec_bs s ⟨#[99, 104, 111, 111, 115, 101]⟩ (asc "choose") (by decide +kernel), dec_bs s ⟨#[100, 105, 103, 105, 116, 115]⟩ (asc "digits") (by decide +kernel), dec_bs s ⟨#[98, 111, 110, 117, 115]⟩ (asc "bonus") (by decide +kernel),
    dec_bs s ⟨#[100, 97, 121, 115]⟩ (asc "days") (by decide +kernel), dec_bs s ⟨#[97, 100, 100, 111, 110]⟩ (asc "addon") (by decide +kernel), dec_bs s ⟨#[116, 105, 101, 114]⟩ (asc "tier") (by decide +kernel)]
  generalize (decide (bs s = asc "choose") || decide (bs s = asc "digits") || decide (bs s = asc "bonus") || decide (bs s = asc "days") || decide (bs s = asc "addon") || decide (bs s = asc "tier")) = q
  cases q with
  | true =>
    simp +contextual (maxSteps := 2000000) (disch := first | omega | (simp only [SZ]; first | done | omega) | (simp only [TS] at *; omega)) only [RZ, ovw, oneC, reduceAdd, reduceMul, reduceSub, reduceEqDiff, reduceLT, ↓reduceIte, Int.reduceToNat, reduceLeDiff]
    exact Below.refl _ _
  | false =>
    simp +contextual (maxSteps := 2000000) (disch := first | omega | (simp only [SZ]; first | done | omega) | (simp only [TS] at *; omega)) only [RZ, ovw, oneC, reduceAdd, reduceMul, reduceSub, reduceEqDiff, reduceLT, ↓reduceIte, Int.reduceToNat, reduceLeDiff]
    refine (rgSingle_any s w).mono ?_
    rintro e w1 ⟨rfl, b1⟩
    refine ⟨_, rfl, ?_⟩
    try simp +contextual (maxSteps := 2000000) (disch := first | omega | (simp only [SZ]; first | done | omega) | (simp only [TS] at *; omega)) only [RZ, ovw, oneC, reduceAdd, reduceMul, reduceSub, reduceEqDiff, reduceLT, ↓reduceIte, Int.reduceToNat, reduceLeDiff]
    exact b1
theorem rgSet_any {G : Gm} {Va Vt Vn : Value} (s : ByteArray) (n : Int) (h : PrIn w g A c T a (gmV G Va Vt ++ [Vn]) er ln) : Calls Tryz.prog 69 #[.pointer (some ⟨g, 0, none⟩), .string s, .int .i64 n] w fun e w' => (∃ v, e = .returned v) ∧
    w' = match simpleI (bs s) with | some i => w.setCell ⟨g, i + 3, none⟩ (.int .i64 n) | none => w := by
  refine calls_W (l := [_, _, _]) Tryz.func69 rfl _ Tryz.ntmps69 (by simp) ?_
  simp +contextual (maxSteps := 2000000) (disch := first | omega | (simp only [SZ]; first | done | omega) | (simp only [TS] at *; omega)) only [RZ, ovw, oneC, reduceAdd, reduceMul, reduceSub, reduceEqDiff, reduceLT, ↓reduceIte, Int.reduceToNat, reduceLeDiff]
  by_cases h0 : s = ⟨#[101, 120, 116, 114, 97]⟩
  · have e : (s = (⟨#[101, 120, 116, 114, 97]⟩ : ByteArray)) = True := eq_true h0
    have c0 : w.cell? ⟨g, 9, none⟩ = some (.int .i64 (G.n 6)) := h.cR (i := 7) rfl
    have y0 : w.frozen? ⟨g, 9, none⟩ = false := h.row.frozen 9
    simp +contextual (maxSteps := 2000000) (disch := first | omega | (simp only [SZ]; first | done | omega) | (simp only [TS] at *; omega)) only [RZ, ovw, oneC, reduceAdd, reduceMul, reduceSub, reduceEqDiff, reduceLT, ↓reduceIte, Int.reduceToNat, reduceLeDiff,  e]
    refine W_if_t rfl ?_
    simp +contextual (maxSteps := 2000000) (disch := first | omega | (simp only [SZ]; first | done | omega) | (simp only [TS] at *; omega)) only [RZ, ovw, oneC, reduceAdd, reduceMul, reduceSub, reduceEqDiff, reduceLT, ↓reduceIte, Int.reduceToNat, reduceLeDiff,  c0, y0]
    rw [h0, show simpleI (bs ⟨#[101, 120, 116, 114, 97]⟩) = some 6 by decide +kernel]
    exact ⟨⟨_, rfl⟩, rfl⟩
  have e0 : (s = (⟨#[101, 120, 116, 114, 97]⟩ : ByteArray)) = False := eq_false h0
  simp +contextual (maxSteps := 2000000) (disch := first | omega | (simp only [SZ]; first | done | omega) | (simp only [TS] at *; omega)) only [RZ, ovw, oneC, reduceAdd, reduceMul, reduceSub, reduceEqDiff, reduceLT, ↓reduceIte, Int.reduceToNat, reduceLeDiff,  e0]
  refine W_if_f rfl ?_
  simp +contextual (maxSteps := 2000000) (disch := first | omega | (simp only [SZ]; first | done | omega) | (simp only [TS] at *; omega)) only [RZ, ovw, oneC, reduceAdd, reduceMul, reduceSub, reduceEqDiff, reduceLT, ↓reduceIte, Int.reduceToNat, reduceLeDiff]
  by_cases h1 : s = ⟨#[112, 114, 105, 99, 101]⟩
  · have e : (s = (⟨#[112, 114, 105, 99, 101]⟩ : ByteArray)) = True := eq_true h1
    have c0 : w.cell? ⟨g, 4, none⟩ = some (.int .i64 (G.n 1)) := h.cR (i := 2) rfl
    have y0 : w.frozen? ⟨g, 4, none⟩ = false := h.row.frozen 4
    simp +contextual (maxSteps := 2000000) (disch := first | omega | (simp only [SZ]; first | done | omega) | (simp only [TS] at *; omega)) only [RZ, ovw, oneC, reduceAdd, reduceMul, reduceSub, reduceEqDiff, reduceLT, ↓reduceIte, Int.reduceToNat, reduceLeDiff,  e]
    refine W_if_t rfl ?_
    simp +contextual (maxSteps := 2000000) (disch := first | omega | (simp only [SZ]; first | done | omega) | (simp only [TS] at *; omega)) only [RZ, ovw, oneC, reduceAdd, reduceMul, reduceSub, reduceEqDiff, reduceLT, ↓reduceIte, Int.reduceToNat, reduceLeDiff,  c0, y0]
    rw [h1, show simpleI (bs ⟨#[112, 114, 105, 99, 101]⟩) = some 1 by decide +kernel]
    exact ⟨⟨_, rfl⟩, rfl⟩
  have e1 : (s = (⟨#[112, 114, 105, 99, 101]⟩ : ByteArray)) = False := eq_false h1
  simp +contextual (maxSteps := 2000000) (disch := first | omega | (simp only [SZ]; first | done | omega) | (simp only [TS] at *; omega)) only [RZ, ovw, oneC, reduceAdd, reduceMul, reduceSub, reduceEqDiff, reduceLT, ↓reduceIte, Int.reduceToNat, reduceLeDiff,  e1]
  refine W_if_f rfl ?_
  simp +contextual (maxSteps := 2000000) (disch := first | omega | (simp only [SZ]; first | done | omega) | (simp only [TS] at *; omega)) only [RZ, ovw, oneC, reduceAdd, reduceMul, reduceSub, reduceEqDiff, reduceLT, ↓reduceIte, Int.reduceToNat, reduceLeDiff]
  by_cases h2 : s = ⟨#[100, 114, 97, 119, 115]⟩
  · have e : (s = (⟨#[100, 114, 97, 119, 115]⟩ : ByteArray)) = True := eq_true h2
    have c0 : w.cell? ⟨g, 10, none⟩ = some (.int .i64 (G.n 7)) := h.cR (i := 8) rfl
    have y0 : w.frozen? ⟨g, 10, none⟩ = false := h.row.frozen 10
    simp +contextual (maxSteps := 2000000) (disch := first | omega | (simp only [SZ]; first | done | omega) | (simp only [TS] at *; omega)) only [RZ, ovw, oneC, reduceAdd, reduceMul, reduceSub, reduceEqDiff, reduceLT, ↓reduceIte, Int.reduceToNat, reduceLeDiff,  e]
    refine W_if_t rfl ?_
    simp +contextual (maxSteps := 2000000) (disch := first | omega | (simp only [SZ]; first | done | omega) | (simp only [TS] at *; omega)) only [RZ, ovw, oneC, reduceAdd, reduceMul, reduceSub, reduceEqDiff, reduceLT, ↓reduceIte, Int.reduceToNat, reduceLeDiff,  c0, y0]
    rw [h2, show simpleI (bs ⟨#[100, 114, 97, 119, 115]⟩) = some 7 by decide +kernel]
    exact ⟨⟨_, rfl⟩, rfl⟩
  have e2 : (s = (⟨#[100, 114, 97, 119, 115]⟩ : ByteArray)) = False := eq_false h2
  simp +contextual (maxSteps := 2000000) (disch := first | omega | (simp only [SZ]; first | done | omega) | (simp only [TS] at *; omega)) only [RZ, ovw, oneC, reduceAdd, reduceMul, reduceSub, reduceEqDiff, reduceLT, ↓reduceIte, Int.reduceToNat, reduceLeDiff,  e2]
  refine W_if_f rfl ?_
  simp +contextual (maxSteps := 2000000) (disch := first | omega | (simp only [SZ]; first | done | omega) | (simp only [TS] at *; omega)) only [RZ, ovw, oneC, reduceAdd, reduceMul, reduceSub, reduceEqDiff, reduceLT, ↓reduceIte, Int.reduceToNat, reduceLeDiff]
  by_cases h3 : s = ⟨#[115, 121, 115, 116, 101, 109]⟩
  · have e : (s = (⟨#[115, 121, 115, 116, 101, 109]⟩ : ByteArray)) = True := eq_true h3
    have c0 : w.cell? ⟨g, 11, none⟩ = some (.int .i64 (G.n 8)) := h.cR (i := 9) rfl
    have y0 : w.frozen? ⟨g, 11, none⟩ = false := h.row.frozen 11
    simp +contextual (maxSteps := 2000000) (disch := first | omega | (simp only [SZ]; first | done | omega) | (simp only [TS] at *; omega)) only [RZ, ovw, oneC, reduceAdd, reduceMul, reduceSub, reduceEqDiff, reduceLT, ↓reduceIte, Int.reduceToNat, reduceLeDiff,  e]
    refine W_if_t rfl ?_
    simp +contextual (maxSteps := 2000000) (disch := first | omega | (simp only [SZ]; first | done | omega) | (simp only [TS] at *; omega)) only [RZ, ovw, oneC, reduceAdd, reduceMul, reduceSub, reduceEqDiff, reduceLT, ↓reduceIte, Int.reduceToNat, reduceLeDiff,  c0, y0]
    rw [h3, show simpleI (bs ⟨#[115, 121, 115, 116, 101, 109]⟩) = some 8 by decide +kernel]
    exact ⟨⟨_, rfl⟩, rfl⟩
  have e3 : (s = (⟨#[115, 121, 115, 116, 101, 109]⟩ : ByteArray)) = False := eq_false h3
  simp +contextual (maxSteps := 2000000) (disch := first | omega | (simp only [SZ]; first | done | omega) | (simp only [TS] at *; omega)) only [RZ, ovw, oneC, reduceAdd, reduceMul, reduceSub, reduceEqDiff, reduceLT, ↓reduceIte, Int.reduceToNat, reduceLeDiff,  e3]
  refine W_if_f rfl ?_
  simp +contextual (maxSteps := 2000000) (disch := first | omega | (simp only [SZ]; first | done | omega) | (simp only [TS] at *; omega)) only [RZ, ovw, oneC, reduceAdd, reduceMul, reduceSub, reduceEqDiff, reduceLT, ↓reduceIte, Int.reduceToNat, reduceLeDiff]
  by_cases h4 : s = ⟨#[99, 108, 111, 115, 101]⟩
  · have e : (s = (⟨#[99, 108, 111, 115, 101]⟩ : ByteArray)) = True := eq_true h4
    have c0 : w.cell? ⟨g, 14, none⟩ = some (.int .i64 (G.n 11)) := h.cR (i := 12) rfl
    have y0 : w.frozen? ⟨g, 14, none⟩ = false := h.row.frozen 14
    simp +contextual (maxSteps := 2000000) (disch := first | omega | (simp only [SZ]; first | done | omega) | (simp only [TS] at *; omega)) only [RZ, ovw, oneC, reduceAdd, reduceMul, reduceSub, reduceEqDiff, reduceLT, ↓reduceIte, Int.reduceToNat, reduceLeDiff,  e]
    refine W_if_t rfl ?_
    simp +contextual (maxSteps := 2000000) (disch := first | omega | (simp only [SZ]; first | done | omega) | (simp only [TS] at *; omega)) only [RZ, ovw, oneC, reduceAdd, reduceMul, reduceSub, reduceEqDiff, reduceLT, ↓reduceIte, Int.reduceToNat, reduceLeDiff,  c0, y0]
    rw [h4, show simpleI (bs ⟨#[99, 108, 111, 115, 101]⟩) = some 11 by decide +kernel]
    exact ⟨⟨_, rfl⟩, rfl⟩
  have e4 : (s = (⟨#[99, 108, 111, 115, 101]⟩ : ByteArray)) = False := eq_false h4
  simp +contextual (maxSteps := 2000000) (disch := first | omega | (simp only [SZ]; first | done | omega) | (simp only [TS] at *; omega)) only [RZ, ovw, oneC, reduceAdd, reduceMul, reduceSub, reduceEqDiff, reduceLT, ↓reduceIte, Int.reduceToNat, reduceLeDiff,  e4]
  refine W_if_f rfl ?_
  simp +contextual (maxSteps := 2000000) (disch := first | omega | (simp only [SZ]; first | done | omega) | (simp only [TS] at *; omega)) only [RZ, ovw, oneC, reduceAdd, reduceMul, reduceSub, reduceEqDiff, reduceLT, ↓reduceIte, Int.reduceToNat, reduceLeDiff]
  by_cases h5 : s = ⟨#[99, 97, 110, 99, 101, 108]⟩
  · have e : (s = (⟨#[99, 97, 110, 99, 101, 108]⟩ : ByteArray)) = True := eq_true h5
    have c0 : w.cell? ⟨g, 15, none⟩ = some (.int .i64 (G.n 12)) := h.cR (i := 13) rfl
    have y0 : w.frozen? ⟨g, 15, none⟩ = false := h.row.frozen 15
    simp +contextual (maxSteps := 2000000) (disch := first | omega | (simp only [SZ]; first | done | omega) | (simp only [TS] at *; omega)) only [RZ, ovw, oneC, reduceAdd, reduceMul, reduceSub, reduceEqDiff, reduceLT, ↓reduceIte, Int.reduceToNat, reduceLeDiff,  e]
    refine W_if_t rfl ?_
    simp +contextual (maxSteps := 2000000) (disch := first | omega | (simp only [SZ]; first | done | omega) | (simp only [TS] at *; omega)) only [RZ, ovw, oneC, reduceAdd, reduceMul, reduceSub, reduceEqDiff, reduceLT, ↓reduceIte, Int.reduceToNat, reduceLeDiff,  c0, y0]
    rw [h5, show simpleI (bs ⟨#[99, 97, 110, 99, 101, 108]⟩) = some 12 by decide +kernel]
    exact ⟨⟨_, rfl⟩, rfl⟩
  have e5 : (s = (⟨#[99, 97, 110, 99, 101, 108]⟩ : ByteArray)) = False := eq_false h5
  simp +contextual (maxSteps := 2000000) (disch := first | omega | (simp only [SZ]; first | done | omega) | (simp only [TS] at *; omega)) only [RZ, ovw, oneC, reduceAdd, reduceMul, reduceSub, reduceEqDiff, reduceLT, ↓reduceIte, Int.reduceToNat, reduceLeDiff,  e5]
  refine W_if_f rfl ?_
  simp +contextual (maxSteps := 2000000) (disch := first | omega | (simp only [SZ]; first | done | omega) | (simp only [TS] at *; omega)) only [RZ, ovw, oneC, reduceAdd, reduceMul, reduceSub, reduceEqDiff, reduceLT, ↓reduceIte, Int.reduceToNat, reduceLeDiff]
  by_cases h6 : s = ⟨#[101, 120, 112, 105, 114, 121]⟩
  · have e : (s = (⟨#[101, 120, 112, 105, 114, 121]⟩ : ByteArray)) = True := eq_true h6
    have c0 : w.cell? ⟨g, 16, none⟩ = some (.int .i64 (G.n 13)) := h.cR (i := 14) rfl
    have y0 : w.frozen? ⟨g, 16, none⟩ = false := h.row.frozen 16
    simp +contextual (maxSteps := 2000000) (disch := first | omega | (simp only [SZ]; first | done | omega) | (simp only [TS] at *; omega)) only [RZ, ovw, oneC, reduceAdd, reduceMul, reduceSub, reduceEqDiff, reduceLT, ↓reduceIte, Int.reduceToNat, reduceLeDiff,  e]
    refine W_if_t rfl ?_
    simp +contextual (maxSteps := 2000000) (disch := first | omega | (simp only [SZ]; first | done | omega) | (simp only [TS] at *; omega)) only [RZ, ovw, oneC, reduceAdd, reduceMul, reduceSub, reduceEqDiff, reduceLT, ↓reduceIte, Int.reduceToNat, reduceLeDiff,  c0, y0]
    rw [h6, show simpleI (bs ⟨#[101, 120, 112, 105, 114, 121]⟩) = some 13 by decide +kernel]
    exact ⟨⟨_, rfl⟩, rfl⟩
  have e6 : (s = (⟨#[101, 120, 112, 105, 114, 121]⟩ : ByteArray)) = False := eq_false h6
  simp +contextual (maxSteps := 2000000) (disch := first | omega | (simp only [SZ]; first | done | omega) | (simp only [TS] at *; omega)) only [RZ, ovw, oneC, reduceAdd, reduceMul, reduceSub, reduceEqDiff, reduceLT, ↓reduceIte, Int.reduceToNat, reduceLeDiff,  e6]
  refine W_if_f rfl ?_
  simp +contextual (maxSteps := 2000000) (disch := first | omega | (simp only [SZ]; first | done | omega) | (simp only [TS] at *; omega)) only [RZ, ovw, oneC, reduceAdd, reduceMul, reduceSub, reduceEqDiff, reduceLT, ↓reduceIte, Int.reduceToNat, reduceLeDiff]
  by_cases h7 : s = ⟨#[112, 111, 111, 108]⟩
  · have e : (s = (⟨#[112, 111, 111, 108]⟩ : ByteArray)) = True := eq_true h7
    have c0 : w.cell? ⟨g, 17, none⟩ = some (.int .i64 (G.n 14)) := h.cR (i := 15) rfl
    have y0 : w.frozen? ⟨g, 17, none⟩ = false := h.row.frozen 17
    simp +contextual (maxSteps := 2000000) (disch := first | omega | (simp only [SZ]; first | done | omega) | (simp only [TS] at *; omega)) only [RZ, ovw, oneC, reduceAdd, reduceMul, reduceSub, reduceEqDiff, reduceLT, ↓reduceIte, Int.reduceToNat, reduceLeDiff,  e]
    refine W_if_t rfl ?_
    simp +contextual (maxSteps := 2000000) (disch := first | omega | (simp only [SZ]; first | done | omega) | (simp only [TS] at *; omega)) only [RZ, ovw, oneC, reduceAdd, reduceMul, reduceSub, reduceEqDiff, reduceLT, ↓reduceIte, Int.reduceToNat, reduceLeDiff,  c0, y0]
    rw [h7, show simpleI (bs ⟨#[112, 111, 111, 108]⟩) = some 14 by decide +kernel]
    exact ⟨⟨_, rfl⟩, rfl⟩
  have e7 : (s = (⟨#[112, 111, 111, 108]⟩ : ByteArray)) = False := eq_false h7
  simp +contextual (maxSteps := 2000000) (disch := first | omega | (simp only [SZ]; first | done | omega) | (simp only [TS] at *; omega)) only [RZ, ovw, oneC, reduceAdd, reduceMul, reduceSub, reduceEqDiff, reduceLT, ↓reduceIte, Int.reduceToNat, reduceLeDiff,  e7]
  refine W_if_f rfl ?_
  simp +contextual (maxSteps := 2000000) (disch := first | omega | (simp only [SZ]; first | done | omega) | (simp only [TS] at *; omega)) only [RZ, ovw, oneC, reduceAdd, reduceMul, reduceSub, reduceEqDiff, reduceLT, ↓reduceIte, Int.reduceToNat, reduceLeDiff]
  by_cases h8 : s = ⟨#[114, 101, 115, 101, 114, 118, 101]⟩
  · have e : (s = (⟨#[114, 101, 115, 101, 114, 118, 101]⟩ : ByteArray)) = True := eq_true h8
    have c0 : w.cell? ⟨g, 18, none⟩ = some (.int .i64 (G.n 15)) := h.cR (i := 16) rfl
    have y0 : w.frozen? ⟨g, 18, none⟩ = false := h.row.frozen 18
    simp +contextual (maxSteps := 2000000) (disch := first | omega | (simp only [SZ]; first | done | omega) | (simp only [TS] at *; omega)) only [RZ, ovw, oneC, reduceAdd, reduceMul, reduceSub, reduceEqDiff, reduceLT, ↓reduceIte, Int.reduceToNat, reduceLeDiff,  e]
    refine W_if_t rfl ?_
    simp +contextual (maxSteps := 2000000) (disch := first | omega | (simp only [SZ]; first | done | omega) | (simp only [TS] at *; omega)) only [RZ, ovw, oneC, reduceAdd, reduceMul, reduceSub, reduceEqDiff, reduceLT, ↓reduceIte, Int.reduceToNat, reduceLeDiff,  c0, y0]
    rw [h8, show simpleI (bs ⟨#[114, 101, 115, 101, 114, 118, 101]⟩) = some 15 by decide +kernel]
    exact ⟨⟨_, rfl⟩, rfl⟩
  have e8 : (s = (⟨#[114, 101, 115, 101, 114, 118, 101]⟩ : ByteArray)) = False := eq_false h8
  simp +contextual (maxSteps := 2000000) (disch := first | omega | (simp only [SZ]; first | done | omega) | (simp only [TS] at *; omega)) only [RZ, ovw, oneC, reduceAdd, reduceMul, reduceSub, reduceEqDiff, reduceLT, ↓reduceIte, Int.reduceToNat, reduceLeDiff,  e8]
  refine W_if_f rfl ?_
  simp +contextual (maxSteps := 2000000) (disch := first | omega | (simp only [SZ]; first | done | omega) | (simp only [TS] at *; omega)) only [RZ, ovw, oneC, reduceAdd, reduceMul, reduceSub, reduceEqDiff, reduceLT, ↓reduceIte, Int.reduceToNat, reduceLeDiff]
  by_cases h9 : s = ⟨#[114, 111, 117, 110, 100]⟩
  · have e : (s = (⟨#[114, 111, 117, 110, 100]⟩ : ByteArray)) = True := eq_true h9
    have c0 : w.cell? ⟨g, 19, none⟩ = some (.int .i64 (G.n 16)) := h.cR (i := 17) rfl
    have y0 : w.frozen? ⟨g, 19, none⟩ = false := h.row.frozen 19
    simp +contextual (maxSteps := 2000000) (disch := first | omega | (simp only [SZ]; first | done | omega) | (simp only [TS] at *; omega)) only [RZ, ovw, oneC, reduceAdd, reduceMul, reduceSub, reduceEqDiff, reduceLT, ↓reduceIte, Int.reduceToNat, reduceLeDiff,  e]
    refine W_if_t rfl ?_
    simp +contextual (maxSteps := 2000000) (disch := first | omega | (simp only [SZ]; first | done | omega) | (simp only [TS] at *; omega)) only [RZ, ovw, oneC, reduceAdd, reduceMul, reduceSub, reduceEqDiff, reduceLT, ↓reduceIte, Int.reduceToNat, reduceLeDiff,  c0, y0]
    rw [h9, show simpleI (bs ⟨#[114, 111, 117, 110, 100]⟩) = some 16 by decide +kernel]
    exact ⟨⟨_, rfl⟩, rfl⟩
  have e9 : (s = (⟨#[114, 111, 117, 110, 100]⟩ : ByteArray)) = False := eq_false h9
  simp +contextual (maxSteps := 2000000) (disch := first | omega | (simp only [SZ]; first | done | omega) | (simp only [TS] at *; omega)) only [RZ, ovw, oneC, reduceAdd, reduceMul, reduceSub, reduceEqDiff, reduceLT, ↓reduceIte, Int.reduceToNat, reduceLeDiff,  e9]
  refine W_if_f rfl ?_
  simp +contextual (maxSteps := 2000000) (disch := first | omega | (simp only [SZ]; first | done | omega) | (simp only [TS] at *; omega)) only [RZ, ovw, oneC, reduceAdd, reduceMul, reduceSub, reduceEqDiff, reduceLT, ↓reduceIte, Int.reduceToNat, reduceLeDiff]
  by_cases h10 : s = ⟨#[99, 97, 112]⟩
  · have e : (s = (⟨#[99, 97, 112]⟩ : ByteArray)) = True := eq_true h10
    have c0 : w.cell? ⟨g, 20, none⟩ = some (.int .i64 (G.n 17)) := h.cR (i := 18) rfl
    have y0 : w.frozen? ⟨g, 20, none⟩ = false := h.row.frozen 20
    simp +contextual (maxSteps := 2000000) (disch := first | omega | (simp only [SZ]; first | done | omega) | (simp only [TS] at *; omega)) only [RZ, ovw, oneC, reduceAdd, reduceMul, reduceSub, reduceEqDiff, reduceLT, ↓reduceIte, Int.reduceToNat, reduceLeDiff,  e]
    refine W_if_t rfl ?_
    simp +contextual (maxSteps := 2000000) (disch := first | omega | (simp only [SZ]; first | done | omega) | (simp only [TS] at *; omega)) only [RZ, ovw, oneC, reduceAdd, reduceMul, reduceSub, reduceEqDiff, reduceLT, ↓reduceIte, Int.reduceToNat, reduceLeDiff,  c0, y0]
    rw [h10, show simpleI (bs ⟨#[99, 97, 112]⟩) = some 17 by decide +kernel]
    exact ⟨⟨_, rfl⟩, rfl⟩
  have e10 : (s = (⟨#[99, 97, 112]⟩ : ByteArray)) = False := eq_false h10
  simp +contextual (maxSteps := 2000000) (disch := first | omega | (simp only [SZ]; first | done | omega) | (simp only [TS] at *; omega)) only [RZ, ovw, oneC, reduceAdd, reduceMul, reduceSub, reduceEqDiff, reduceLT, ↓reduceIte, Int.reduceToNat, reduceLeDiff,  e10]
  refine W_if_f rfl ?_
  simp +contextual (maxSteps := 2000000) (disch := first | omega | (simp only [SZ]; first | done | omega) | (simp only [TS] at *; omega)) only [RZ, ovw, oneC, reduceAdd, reduceMul, reduceSub, reduceEqDiff, reduceLT, ↓reduceIte, Int.reduceToNat, reduceLeDiff]
  by_cases h11 : s = ⟨#[114, 111, 108, 108, 115]⟩
  · have e : (s = (⟨#[114, 111, 108, 108, 115]⟩ : ByteArray)) = True := eq_true h11
    have c0 : w.cell? ⟨g, 21, none⟩ = some (.int .i64 (G.n 18)) := h.cR (i := 19) rfl
    have y0 : w.frozen? ⟨g, 21, none⟩ = false := h.row.frozen 21
    simp +contextual (maxSteps := 2000000) (disch := first | omega | (simp only [SZ]; first | done | omega) | (simp only [TS] at *; omega)) only [RZ, ovw, oneC, reduceAdd, reduceMul, reduceSub, reduceEqDiff, reduceLT, ↓reduceIte, Int.reduceToNat, reduceLeDiff,  e]
    refine W_if_t rfl ?_
    simp +contextual (maxSteps := 2000000) (disch := first | omega | (simp only [SZ]; first | done | omega) | (simp only [TS] at *; omega)) only [RZ, ovw, oneC, reduceAdd, reduceMul, reduceSub, reduceEqDiff, reduceLT, ↓reduceIte, Int.reduceToNat, reduceLeDiff,  c0, y0]
    rw [h11, show simpleI (bs ⟨#[114, 111, 108, 108, 115]⟩) = some 18 by decide +kernel]
    exact ⟨⟨_, rfl⟩, rfl⟩
  have e11 : (s = (⟨#[114, 111, 108, 108, 115]⟩ : ByteArray)) = False := eq_false h11
  simp +contextual (maxSteps := 2000000) (disch := first | omega | (simp only [SZ]; first | done | omega) | (simp only [TS] at *; omega)) only [RZ, ovw, oneC, reduceAdd, reduceMul, reduceSub, reduceEqDiff, reduceLT, ↓reduceIte, Int.reduceToNat, reduceLeDiff,  e11]
  refine W_if_f rfl ?_
  try simp +contextual (maxSteps := 2000000) (disch := first | omega | (simp only [SZ]; first | done | omega) | (simp only [TS] at *; omega)) only [RZ, ovw, oneC, reduceAdd, reduceMul, reduceSub, reduceEqDiff, reduceLT, ↓reduceIte, Int.reduceToNat, reduceLeDiff]
  have hn : simpleI (bs s) = none := by
    cases hs : simpleI (bs s) with
    | none => rfl
    | some i =>
      have hm := simple_mem (w := bs s) (by rw [hs]; rfl)
      rw [← singS_is] at hm
      obtain ⟨u, hu, e⟩ := List.mem_map.1 hm
      obtain rfl := bs_inj e
      simp only [singS, List.mem_cons, List.not_mem_nil, or_false] at hu
      rcases hu with h | h | h | h | h | h | h | h | h | h | h | h <;> simp_all
  rw [hn]
  exact ⟨⟨_, rfl⟩, rfl⟩
theorem rgHas_any {Q : List ByteArray} {Sn : Option Addr} {cn : Nat} (s : ByteArray) (h : PrIn w g A c T a rest er ln) (hr : rest[22]? = some (.slice Sn Q.length cn)) (hQ : Arr w Sn 1 (Q.map fun s => [Value.string s])) (hq : Q.length ≤ 10000000) :
    Calls Tryz.prog 29 #[.pointer (some ⟨g, 0, none⟩), .string s] w fun e w' => e = .returned (.bool (decide (bs s ∈ Q.map bs))) ∧ w = w' := by
  refine calls_W (l := [_, _]) Tryz.func29 rfl _ Tryz.ntmps29 (by simp) ?_
  have cS := h.cR hr
  simp +contextual (maxSteps := 2000000) (disch := first | omega | (simp only [SZ]; first | done | omega) | (simp only [TS] at *; omega)) only [RZ, ovw, oneC, reduceAdd, reduceMul, reduceSub, reduceEqDiff, reduceLT, ↓reduceIte, Int.reduceToNat, reduceLeDiff]
  refine Raw_loop (fun σ w2 => w2 = w ∧ ∃ k : Nat, k ≤ Q.length ∧ (∀ j, j < k → Q[j]? ≠ some s) ∧ σ 0 = .pointer (some ⟨g, 0, none⟩) ∧ σ 1 = .string s ∧ σ 5 = .int .i64 k) (fun σ _ => Q.length - (intOf (σ 5)).toNat) ?_ ?_
  · simp +contextual (maxSteps := 2000000) (disch := first | omega | (simp only [SZ]; first | done | omega) | (simp only [TS] at *; omega)) only [RZ, ovw, oneC, reduceAdd, reduceMul, reduceSub, reduceEqDiff, reduceLT, ↓reduceIte, Int.reduceToNat, reduceLeDiff]
    exact ⟨0, by omega, fun j hj => absurd hj (Nat.not_lt_zero _), rfl⟩
  rintro σ w2 ⟨rfl, k, hk, hb, f0, f1, f5⟩ K hK
  simp +contextual (maxSteps := 2000000) (disch := first | omega | (simp only [SZ]; first | done | omega) | (simp only [TS] at *; omega)) only [RZ, ovw, oneC, reduceAdd, reduceMul, reduceSub, reduceEqDiff, reduceLT, ↓reduceIte, Int.reduceToNat, reduceLeDiff,  f0, f1, f5, cS]
  by_cases hkl : k < Q.length
  · have e1 : decide ((k : Int) < Q.length) = true := decide_eq_true (by omega)
    obtain ⟨u, hu⟩ : ∃ u, Q[k]? = some u := ⟨_, List.getElem?_eq_getElem hkl⟩
    obtain ⟨b, o, rfl, hbl, hcell⟩ := hQ.at_ hu
    have l0 := hcell 0 _ rfl
    rw [Nat.add_zero, Nat.mul_one] at l0
    simp +contextual (maxSteps := 2000000) (disch := first | omega | (simp only [SZ]; first | done | omega) | (simp only [TS] at *; omega)) only [RZ, ovw, oneC, reduceAdd, reduceMul, reduceSub, reduceEqDiff, reduceLT, ↓reduceIte, Int.reduceToNat, reduceLeDiff,  e1]
    refine W_if_t rfl ?_
    simp +contextual (maxSteps := 2000000) (disch := first | omega | (simp only [SZ]; first | done | omega) | (simp only [TS] at *; omega)) only [RZ, ovw, oneC, reduceAdd, reduceMul, reduceSub, reduceEqDiff, reduceLT, ↓reduceIte, Int.reduceToNat, reduceLeDiff,  f0, f1, f5, cS, l0]
    by_cases hus : u = s
    · have e2 : (u = s) = True := eq_true hus
      simp +contextual (maxSteps := 2000000) (disch := first | omega | (simp only [SZ]; first | done | omega) | (simp only [TS] at *; omega)) only [RZ, ovw, oneC, reduceAdd, reduceMul, reduceSub, reduceEqDiff, reduceLT, ↓reduceIte, Int.reduceToNat, reduceLeDiff,  e2]
      refine W_if_t rfl ?_
      simp +contextual (maxSteps := 2000000) (disch := first | omega | (simp only [SZ]; first | done | omega) | (simp only [TS] at *; omega)) only [RZ, ovw, oneC, reduceAdd, reduceMul, reduceSub, reduceEqDiff, reduceLT, ↓reduceIte, Int.reduceToNat, reduceLeDiff,  f0, f1, f5]
      rw [decide_eq_true (List.mem_map.2 ⟨s, List.mem_of_getElem? (hus ▸ hu), rfl⟩)]
    · have e2 : (u = s) = False := eq_false hus
      simp +contextual (maxSteps := 2000000) (disch := first | omega | (simp only [SZ]; first | done | omega) | (simp only [TS] at *; omega)) only [RZ, ovw, oneC, reduceAdd, reduceMul, reduceSub, reduceEqDiff, reduceLT, ↓reduceIte, Int.reduceToNat, reduceLeDiff,  e2]
      refine W_if_f rfl ?_
      simp +contextual (maxSteps := 2000000) (disch := first | omega | (simp only [SZ]; first | done | omega) | (simp only [TS] at *; omega)) only [RZ, ovw, oneC, reduceAdd, reduceMul, reduceSub, reduceEqDiff, reduceLT, ↓reduceIte, Int.reduceToNat, reduceLeDiff,  f0, f1, f5]
      refine hK _ _ ⟨rfl, k + 1, by omega, fun j hj => ?_, ?_⟩ ?_
      · rcases Nat.lt_or_eq_of_le (Nat.lt_succ_iff.1 hj) with h | rfl
        · exact hb j h
        · rw [hu]; exact fun h => hus (Option.some.inj h)
      · simp +contextual (maxSteps := 2000000) (disch := first | omega | (simp only [SZ]; first | done | omega) | (simp only [TS] at *; omega)) only [RZ, ovw, oneC, reduceAdd, reduceMul, reduceSub, reduceEqDiff, reduceLT, ↓reduceIte, Int.reduceToNat, reduceLeDiff,  f0, f1, f5]
      · simp +contextual (maxSteps := 2000000) (disch := first | omega | (simp only [SZ]; first | done | omega) | (simp only [TS] at *; omega)) only [RZ, ovw, oneC, reduceAdd, reduceMul, reduceSub, reduceEqDiff, reduceLT, ↓reduceIte, Int.reduceToNat, reduceLeDiff,  intOf, f5]
        omega
  · have e1 : decide ((k : Int) < Q.length) = false := decide_eq_false (by omega)
    simp +contextual (maxSteps := 2000000) (disch := first | omega | (simp only [SZ]; first | done | omega) | (simp only [TS] at *; omega)) only [RZ, ovw, oneC, reduceAdd, reduceMul, reduceSub, reduceEqDiff, reduceLT, ↓reduceIte, Int.reduceToNat, reduceLeDiff,  e1]
    refine W_if_f rfl ?_
    simp +contextual (maxSteps := 2000000) (disch := first | omega | (simp only [SZ]; first | done | omega) | (simp only [TS] at *; omega)) only [RZ, ovw, oneC, reduceAdd, reduceMul, reduceSub, reduceEqDiff, reduceLT, ↓reduceIte, Int.reduceToNat, reduceLeDiff,  f0, f1, f5]
    rw [decide_eq_false fun hm => ?_]
    obtain ⟨u, hu, e⟩ := List.mem_map.1 hm
    obtain ⟨j, hj, hju⟩ := List.mem_iff_getElem.1 hu
    exact hb j (by omega) (List.getElem?_eq_some_iff.2 ⟨hj, hju.trans (bs_inj e)⟩)
end
end Go.Proofs.YtbdkggnajipdhaaGreatDoor
/- The reference's reader of games: its whole state; once, days. -/
namespace Go.Proofs.YtbdkggnajipdhaaGreatDoor
open Nat (reduceAdd reduceMul reduceSub reduceEqDiff reduceLT reduceLeDiff)
open Go.RowKit
set_option maxRecDepth 100000
/-- The reference's reader with its game: everything it owns. -/
structure RgSt (w : World) (base g : Nat) (A : Option Addr) (c : Nat) (T : List Tk) (x : Except (Int × List Tk) (List Tk)) (k : Nat) (G : Gm) (seen : List (List Nat)) (Va Vt Vn : Value) (Vs : List (List Value)) (Q : List ByteArray) : Prop where
  rs : Rs w g A c T x (gmV G Va Vt ++ [Vn])
  qs : ∀ u, u ∈ seen ↔ u ∈ Q.map bs
  nown : w.ownsRow base 9 1 Vn Q.length (Q.map Value.string)
  ads : AdsC (IntsT base w) Vs G.addons
  own : w.ownsRow base 45 6 Va G.addons.length Vs.flatten
  tis : w.ownsRow base 41 6 Vt G.tiers.length (G.tiers.flatMap encTi)
  few : G.addons.length ≤ k ∧ G.tiers.length ≤ k ∧ Q.length ≤ k
  kbig : k ≤ 3000010
  days : asc "days" ∉ seen → G.n 9 = 0
  toks : ∀ b o, A = some ⟨b, o, none⟩ → b < base
  hg : base ≤ g
theorem not_int_row {w : World} {g : Nat} {ty : TypeId} {cs : List Value} (h : Row w g ty cs) (hty : ty ≠ 3) : ∀ o, w.heap[g]? = some o → ∀ cs f, o ≠ .cells cs 3 f := fun o ho cs f e => by
  obtain ⟨cur, hc, _⟩ := h
  rw [hc] at ho
  injection ho with ho
  rw [← ho] at e
  injection e with _ e
  exact hty e
section
variable {base g c a k : Nat} {A : Option Addr} {T : List Tk} {w : World} {G : Gm} {seen : List (List Nat)} {Va Vt Vn : Value} {Vs : List (List Value)} {Q : List ByteArray} {x : Except (Int × List Tk) (List Tk)}
theorem Rs.row {rest : List Value} (h : Rs w g A c T x rest) : ∃ cs, Row w g 58 cs := by
  obtain ⟨a, er, ln, h1, h2⟩ := h
  exact ⟨_, h1.row⟩
theorem RgSt.row (h : RgSt w base g A c T x k G seen Va Vt Vn Vs Q) : ∃ cs, Row w g 58 cs := h.rs.row
theorem RgSt.lt (h : RgSt w base g A c T x k G seen Va Vt Vn Vs Q) : g < w.heap.size := by
  obtain ⟨cs, hr⟩ := h.row
  exact hr.lt
/-- A step that changes only the reader's own cells. -/
theorem RgSt.step {w' : World} {x' : Except (Int × List Tk) (List Tk)} {n' : Nat → Int} (h : RgSt w base g A c T x k G seen Va Vt Vn Vs Q) (kk : Kept [g] w w') (hp : Rs w' g A c T x' (gmV { G with n := n' } Va Vt ++ [Vn])) (h9 : asc "days" ∉ seen → n' 9 = 0) :
    RgSt w' base g A c T x' k { G with n := n' } seen Va Vt Vn Vs Q := by
  obtain ⟨cs, hr⟩ := h.row
  refine ⟨hp, h.qs, ?_, h.ads.mono fun v L hv => hv.kt (KT.of_kept kk) (fun y hy => by simp at hy; subst hy; exact not_int_row hr (by decide)), ?_, ?_, h.few, h.kbig, h9, h.toks, h.hg⟩
  · refine owns_keep h.nown fun b hb => kk.block b (owns_ge h.nown hb).2 fun hx => ?_
    simp at hx
    subst hx
    exact own_ne h.nown hr (by decide) hb
  · refine owns_keep h.own fun b hb => kk.block b (owns_ge h.own hb).2 fun hx => ?_
    simp at hx
    subst hx
    exact own_ne h.own hr (by decide) hb
  · refine owns_keep h.tis fun b hb => kk.block b (owns_ge h.tis hb).2 fun hx => ?_
    simp at hx
    subst hx
    exact own_ne h.tis hr (by decide) hb
theorem RgSt.leaf {w' : World} {x' : Except (Int × List Tk) (List Tk)} (h : RgSt w base g A c T x k G seen Va Vt Vn Vs Q) (kk : Kept [g] w w') (hp : Rs w' g A c T x' (gmV G Va Vt ++ [Vn])) : RgSt w' base g A c T x' k G seen Va Vt Vn Vs Q :=
  h.step (n' := G.n) kk hp h.days
theorem RgSt.below {w' : World} (h : RgSt w base g A c T x k G seen Va Vt Vn Vs Q) (kk : Below w.heap.size w w') : RgSt w' base g A c T x k G seen Va Vt Vn Vs Q := h.leaf (Kept.of_below kk) (h.rs.below kk)
theorem RgSt.keptB {X : List Nat} {w' : World} (h : RgSt w base g A c T x k G seen Va Vt Vn Vs Q) (kk : Kept X w w') (hX : ∀ y ∈ X, base ≤ y) : Below base w w' :=
  ⟨kk.os, kk.tape, kk.output, kk.size, fun i hi => kk.block i (by have := h.lt; have := h.hg; omega) fun hx => by have := hX i hx; omega⟩
theorem Rs.setR {rest : List Value} (h : Rs w g A c T x rest) {i : Nat} (hi : i < 23) (v : Value) : Rs (w.setCell ⟨g, i + 2, none⟩ v) g A c T x (rest.set i v) := by
  obtain ⟨a, er, ln, h1, h2⟩ := h
  exact ⟨a, er, ln, h1.setR hi v, h2⟩
theorem RgSt.setN (h : RgSt w base g A c T x k G seen Va Vt Vn Vs Q) {i : Nat} (hi : i < 19) (v : Int) (h9 : asc "days" ∉ seen → i ≠ 9) : RgSt (w.setCell ⟨g, i + 3, none⟩ (.int .i64 v)) base g A c T x k { G with n := putN G.n i v } seen Va Vt Vn Vs Q := by
  refine h.step ((Kept.refl [g] w).setCell (p := ⟨g, i + 3, none⟩) (by simp) _) ?_ fun hd => ?_
  · have := h.rs.setR (i := i + 1) (by omega) (.int .i64 v)
    rw [List.set_append_left _ _ (by rw [gmV_len]; omega), gmV_set G Va Vt hi] at this
    exact this
  · unfold putN
    rw [if_neg (fun e => h9 hd e.symm)]
    exact h.days hd
theorem RgSt.cellN (h : RgSt w base g A c T x k G seen Va Vt Vn Vs Q) {i : Nat} (hi : i < 19) : w.cell? ⟨g, i + 3, none⟩ = some (.int .i64 (G.n i)) := by
  obtain ⟨a, er, ln, h1, h2⟩ := h.rs
  refine h1.cR (i := i + 1) ?_
  rw [List.getElem?_append_left (by rw [gmV_len]; omega)]
  exact gmV_get G Va Vt hi
theorem owns_slice {w : World} {base e sz n : Nat} {v : Value} {xs : List Value} (h : w.ownsRow base e sz v n xs) : ∃ A c, v = .slice A n c := by
  rcases h.2 with ⟨hv, h0⟩ | ⟨g', cap, cur, hv, _⟩
  · exact ⟨none, 0, by rw [hv, h0]⟩
  · exact ⟨_, _, hv⟩
theorem flat_one (f : ByteArray → Value) : ∀ Q : List ByteArray, (Q.map fun s => [f s]).flatten = Q.map f
  | [] => rfl
  | s :: Q => by rw [List.map_cons, List.flatten_cons, flat_one f Q]; rfl
theorem owns_strs {Sn : Option Addr} {cn : Nat} (h : w.ownsRow base 9 1 (.slice Sn Q.length cn) Q.length (Q.map Value.string)) : Arr w Sn 1 (Q.map fun s => [Value.string s]) := fun hn => by
  obtain ⟨b, rfl, _, hr, _⟩ := owns_row h (by simpa using hn)
  exact arr_row (T := 9) (Vs := Q.map fun s => [Value.string s]) (by rw [flat_one]; exact hr) (by simp) hn
/-- One of the lists has grown, and the reader's cell holds the new one: what stays. -/
theorem RgSt.frame (h : RgSt w base g A c T x k G seen Va Vt Vn Vs Q) {w2 : World} {e sz n i : Nat} {V : Value} {xs : List Value} (hV : w.ownsRow base e sz V n xs) (heP : 58 ≠ e) (hei : 3 ≠ e) (hB : Below base w w2)
    (hk : ∀ j, j < w.heap.size → V.ownBlock ≠ some j → w2.heap[j]? = w.heap[j]?) (hi : i < 23) (v : Value) :
    Rs (w2.setCell ⟨g, i + 2, none⟩ v) g A c T x ((gmV G Va Vt ++ [Vn]).set i v) ∧ AdsC (IntsT base (w2.setCell ⟨g, i + 2, none⟩ v)) Vs G.addons ∧
    (∀ (e' sz' n' : Nat) (V' : Value) (xs' : List Value), e ≠ e' → 58 ≠ e' → w.ownsRow base e' sz' V' n' xs' → (w2.setCell ⟨g, i + 2, none⟩ v).ownsRow base e' sz' V' n' xs') ∧
    (∀ (n' : Nat) (V' : Value) (xs' : List Value), w2.ownsRow base e sz V' n' xs' → (w2.setCell ⟨g, i + 2, none⟩ v).ownsRow base e sz V' n' xs') ∧ Below base w (w2.setCell ⟨g, i + 2, none⟩ v) := by
  obtain ⟨cs, hr⟩ := h.row
  have hgb := hk g h.lt (own_ne hV hr heP)
  have hr2 := hr.of_block hgb
  have hset : ∀ b, b ≠ g → (w2.setCell ⟨g, i + 2, none⟩ v).heap[b]? = w2.heap[b]? := fun b hb => Below.heap_setCell _ _ _ _ (by exact hb)
  have hs2 : Rs w2 g A c T x (gmV G Va Vt ++ [Vn]) := by
    obtain ⟨a, er, ln, p, hx⟩ := h.rs
    refine ⟨a, er, ln, ⟨p.lt, fun hn => ?_, p.off, p.len, p.row.of_block hgb⟩, hx⟩
    obtain ⟨b, o, e1, hb, hc⟩ := p.arr hn
    have hbb := h.toks b o e1
    exact ⟨b, o, e1, Nat.lt_of_lt_of_le hb hB.size, fun i l hl j v hv => by rw [World.cell?_of_block (w := w) (hB.block b hbb)]; exact hc i l hl j v hv⟩
  refine ⟨hs2.setR hi v, h.ads.mono fun v' L hv => hv.of_blocks fun b cs' hb => ?_, fun e' sz' n' V' xs' hne heP' ho => owns_keep ho fun b hb => ?_, fun n' V' xs' ho => owns_keep ho fun b hb => ?_, hB.setCell (p := ⟨g, i + 2, none⟩) h.hg v⟩
  · have hbg : b ≠ g := fun e1 => by
      subst e1
      obtain ⟨c1, e1, _⟩ := hr
      obtain ⟨c2, e2, _⟩ := hb
      rw [e1] at e2
      injection e2 with e2
      injection e2 with _ e2
      exact absurd e2 (by decide)
    rw [hset b hbg]
    exact hk b hb.lt (own_ne hV hb hei)
  · have hbg : b ≠ g := fun e1 => own_ne ho hr heP' (e1 ▸ hb)
    rw [hset b hbg]
    exact hk b (owns_ge ho hb).2 (own_ne_own hV ho hne hb)
  · exact hset b fun e1 => own_ne ho hr2 heP (e1 ▸ hb)
theorem rgOnce_any (s : ByteArray) (h : RgSt w base g A c T x k G seen Va Vt Vn Vs Q) (hk : k < 3000005) : Calls Tryz.prog 64 #[.pointer (some ⟨g, 0, none⟩), .string s] w fun e w' =>
    e = .returned (.bool (decide (bs s ∉ seen))) ∧ Below base w w' ∧ (∀ (ga Ty : Nat) (cs : List Value), Row w ga Ty cs → Ty ≠ 9 → ga ≠ g → Row w' ga Ty cs) ∧ ∃ Vn' Q', RgSt w' base g A c T x (k + 1) G (if bs s ∈ seen then seen else bs s :: seen) Va Vt Vn' Vs Q' := by
  refine calls_W (l := [_, _]) Tryz.func64 rfl _ Tryz.ntmps64 (by simp) ?_
  obtain ⟨Sn, cn, rfl⟩ := owns_slice h.nown
  have hQ := owns_strs h.nown
  obtain ⟨a, er, ln, p0, hx⟩ := h.rs
  have cS : w.cell? ⟨g, 24, none⟩ = some (.slice Sn Q.length cn) := p0.cR (i := 22) rfl
  have yS : w.frozen? ⟨g, 24, none⟩ = false := p0.row.frozen 24
  have hq := h.few.2.2
  have hI : sliceI Tryz.prog 35 = some (9, 1, 16) := by kernel_rfl
  simp +contextual (maxSteps := 2000000) (disch := first | omega | (simp only [SZ]; first | done | omega) | (simp only [TS] at *; omega)) only [RZ, ovw, oneC, reduceAdd, reduceMul, reduceSub, reduceEqDiff, reduceLT, ↓reduceIte, Int.reduceToNat, reduceLeDiff]
  refine Raw_loop (fun σ w2 => w2 = w ∧ ∃ k : Nat, k ≤ Q.length ∧ (∀ j, j < k → Q[j]? ≠ some s) ∧ σ 0 = .pointer (some ⟨g, 0, none⟩) ∧ σ 1 = .string s ∧ σ 5 = .int .i64 k) (fun σ _ => Q.length - (intOf (σ 5)).toNat) ?_ ?_
  · simp +contextual (maxSteps := 2000000) (disch := first | omega | (simp only [SZ]; first | done | omega) | (simp only [TS] at *; omega)) only [RZ, ovw, oneC, reduceAdd, reduceMul, reduceSub, reduceEqDiff, reduceLT, ↓reduceIte, Int.reduceToNat, reduceLeDiff]
    exact ⟨0, by omega, fun j hj => absurd hj (Nat.not_lt_zero _), rfl⟩
  rintro σ w2 ⟨rfl, i, hi, hb, f0, f1, f5⟩ K hK
  simp +contextual (maxSteps := 2000000) (disch := first | omega | (simp only [SZ]; first | done | omega) | (simp only [TS] at *; omega)) only [RZ, ovw, oneC, reduceAdd, reduceMul, reduceSub, reduceEqDiff, reduceLT, ↓reduceIte, Int.reduceToNat, reduceLeDiff,  f0, f1, f5, cS]
  by_cases hkl : i < Q.length
  · have e1 : decide ((i : Int) < Q.length) = true := decide_eq_true (by omega)
    obtain ⟨u, hu⟩ : ∃ u, Q[i]? = some u := ⟨_, List.getElem?_eq_getElem hkl⟩
    obtain ⟨b, o, rfl, hbl, hcell⟩ := hQ.at_ hu
    have l0 := hcell 0 _ rfl
    rw [Nat.add_zero, Nat.mul_one] at l0
    simp +contextual (maxSteps := 2000000) (disch := first | omega | (simp only [SZ]; first | done | omega) | (simp only [TS] at *; omega)) only [RZ, ovw, oneC, reduceAdd, reduceMul, reduceSub, reduceEqDiff, reduceLT, ↓reduceIte, Int.reduceToNat, reduceLeDiff,  e1]
    refine W_if_t rfl ?_
    simp +contextual (maxSteps := 2000000) (disch := first | omega | (simp only [SZ]; first | done | omega) | (simp only [TS] at *; omega)) only [RZ, ovw, oneC, reduceAdd, reduceMul, reduceSub, reduceEqDiff, reduceLT, ↓reduceIte, Int.reduceToNat, reduceLeDiff,  f0, f1, f5, cS, l0]
    by_cases hus : u = s
    · have e2 : (u = s) = True := eq_true hus
      simp +contextual (maxSteps := 2000000) (disch := first | omega | (simp only [SZ]; first | done | omega) | (simp only [TS] at *; omega)) only [RZ, ovw, oneC, reduceAdd, reduceMul, reduceSub, reduceEqDiff, reduceLT, ↓reduceIte, Int.reduceToNat, reduceLeDiff,  e2]
      refine W_if_t rfl ?_
      simp +contextual (maxSteps := 2000000) (disch := first | omega | (simp only [SZ]; first | done | omega) | (simp only [TS] at *; omega)) only [RZ, ovw, oneC, reduceAdd, reduceMul, reduceSub, reduceEqDiff, reduceLT, ↓reduceIte, Int.reduceToNat, reduceLeDiff,  f0, f1, f5]
      have hm : bs s ∈ seen := (h.qs _).2 (List.mem_map.2 ⟨s, List.mem_of_getElem? (hus ▸ hu), rfl⟩)
      rw [decide_eq_false (fun hn => hn hm), if_pos hm]
      exact ⟨rfl, Below.refl _ _, (by intros; first | trivial | assumption), _, Q, h.rs, h.qs, h.nown, h.ads, h.own, h.tis, ⟨by have := h.few; omega, by have := h.few; omega, by have := h.few; omega⟩, by omega, h.days, h.toks, h.hg⟩
    · have e2 : (u = s) = False := eq_false hus
      simp +contextual (maxSteps := 2000000) (disch := first | omega | (simp only [SZ]; first | done | omega) | (simp only [TS] at *; omega)) only [RZ, ovw, oneC, reduceAdd, reduceMul, reduceSub, reduceEqDiff, reduceLT, ↓reduceIte, Int.reduceToNat, reduceLeDiff,  e2]
      refine W_if_f rfl ?_
      simp +contextual (maxSteps := 2000000) (disch := first | omega | (simp only [SZ]; first | done | omega) | (simp only [TS] at *; omega)) only [RZ, ovw, oneC, reduceAdd, reduceMul, reduceSub, reduceEqDiff, reduceLT, ↓reduceIte, Int.reduceToNat, reduceLeDiff,  f0, f1, f5]
      refine hK _ _ ⟨rfl, i + 1, by omega, fun j hj => ?_, ?_⟩ ?_
      · rcases Nat.lt_or_eq_of_le (Nat.lt_succ_iff.1 hj) with h | rfl
        · exact hb j h
        · rw [hu]; exact fun h => hus (Option.some.inj h)
      · simp +contextual (maxSteps := 2000000) (disch := first | omega | (simp only [SZ]; first | done | omega) | (simp only [TS] at *; omega)) only [RZ, ovw, oneC, reduceAdd, reduceMul, reduceSub, reduceEqDiff, reduceLT, ↓reduceIte, Int.reduceToNat, reduceLeDiff,  f0, f1, f5]
      · simp +contextual (maxSteps := 2000000) (disch := first | omega | (simp only [SZ]; first | done | omega) | (simp only [TS] at *; omega)) only [RZ, ovw, oneC, reduceAdd, reduceMul, reduceSub, reduceEqDiff, reduceLT, ↓reduceIte, Int.reduceToNat, reduceLeDiff,  intOf, f5]
        omega
  · have e1 : decide ((i : Int) < Q.length) = false := decide_eq_false (by omega)
    simp +contextual (maxSteps := 2000000) (disch := first | omega | (simp only [SZ]; first | done | omega) | (simp only [TS] at *; omega)) only [RZ, ovw, oneC, reduceAdd, reduceMul, reduceSub, reduceEqDiff, reduceLT, ↓reduceIte, Int.reduceToNat, reduceLeDiff,  e1]
    refine W_if_f rfl ?_
    have hm : bs s ∉ seen := fun hm => by
      obtain ⟨u, hu, e⟩ := List.mem_map.1 ((h.qs _).1 hm)
      obtain ⟨j, hj, hju⟩ := List.mem_iff_getElem.1 hu
      exact hb j (by omega) (List.getElem?_eq_some_iff.2 ⟨hj, hju.trans (bs_inj e)⟩)
    rw [decide_eq_true hm, if_neg hm]
    obtain ⟨A', c', w7, he, hown7, hb7, hs7, hk7⟩ := push2 (P := Tryz.prog) (T2 := 35) (ty := 35) (news := [.string s]) h.nown (by have := h.lt; have := h.hg; omega) hI rfl (fun u hu => by simp at hu; subst hu; rfl) (by omega) (by decide)
    obtain ⟨cs, hr⟩ := h.row
    have hb7g := hk7 g h.lt (own_ne h.nown hr (by decide))
    have d7 : w7.cell? ⟨g, 24, none⟩ = some (.slice Sn Q.length cn) := (World.cell?_of_block (w := w2) hb7g).trans cS
    have y7 : w7.frozen? ⟨g, 24, none⟩ = false := (World.frozen?_of_block (w := w2) hb7g).trans yS
    simp +contextual (maxSteps := 2000000) (disch := first | omega | (simp only [SZ]; first | done | omega) | (simp only [TS] at *; omega)) only [RZ, ovw, oneC, reduceAdd, reduceMul, reduceSub, reduceEqDiff, reduceLT, ↓reduceIte, Int.reduceToNat, reduceLeDiff,  f0, f1, f5, cS, he, d7, y7]
    obtain ⟨q1, q2, q3, q4, q5⟩ := h.frame h.nown (by decide) (by decide) hb7 hk7 (i := 22) (by decide) (.slice A' (Q.length + 1) c')
    refine ⟨q5, fun ga Ty cs' hr' hty hne => (hr'.of_block (hk7 ga hr'.lt (own_ne h.nown hr' hty))).of_block (Below.heap_setCell _ _ _ _ (by exact hne)), _, Q ++ [s], q1, fun u => ?_, ?_, q2, q3 _ _ _ _ _ (by decide) (by decide) h.own, q3 _ _ _ _ _ (by decide) (by decide) h.tis, ⟨by have := h.few; omega, by have := h.few; omega, by rw [List.length_append]; simp; omega⟩, by omega, fun hd => h.days fun hm => hd (List.mem_cons_of_mem _ hm), h.toks, h.hg⟩
    · rw [List.map_append, List.mem_append, List.mem_cons, h.qs]
      simp [or_comm]
    · have := q4 _ _ _ hown7
      rw [List.length_append, List.map_append]
      exact this
end
end Go.Proofs.YtbdkggnajipdhaaGreatDoor
/- Regions that draw their order: many readers at once, some of them behind a condition that holds. -/
namespace Go.Proofs.YtbdkggnajipdhaaGreatDoor
open Go.RowKit
def rdG (n : Nat) (ops : Array Oper) : Array Bool → List Nat → Bool
  | _, [] => true
  | L, i :: r => (match ops[i]? with
    | some ⟨some d, _, _, _, _, g⟩ => decide (d < n) && (r.all fun j => (ops[j]?).bind (·.dst) != some d) && (match g with
      | none => true
      | some (j, _) => (gslot ops j).isSome && (i :: r).all fun k => (ops[k]?).bind (·.dst) != gslot ops j)
    | _ => false) && Region.free .any ops L i && (Region.ready .any ops L).contains i && rdG n ops (L.setIfInBounds i true) r
def optG (ops : Array Oper) (τ : Sl) (o : Option Oper) : Prop := match o with
  | some ⟨_, _, _, _, _, some (j, b)⟩ => isB b (gval τ (gslot ops j)) = true
  | _ => True
def GOk (ops : Array Oper) (τ : Sl) : List Nat → Prop
  | [] => True
  | i :: r => optG ops τ ops[i]? ∧ GOk ops τ r
theorem GOk_nil (ops : Array Oper) (τ : Sl) : GOk ops τ [] = True := nr rfl
theorem GOk_cons (ops : Array Oper) (τ : Sl) (i : Nat) (r : List Nat) : GOk ops τ (i :: r) = (optG ops τ ops[i]? ∧ GOk ops τ r) := nr rfl
theorem optG_n (ops : Array Oper) (τ : Sl) (d : Option Nat) (op : Op) (ty : TypeId) (p : String) (af : Array Edge) : optG ops τ (some ⟨d, op, ty, p, af, none⟩) = True := nr rfl
theorem optG_s (ops : Array Oper) (τ : Sl) (d : Option Nat) (op : Op) (ty : TypeId) (p : String) (af : Array Edge) (j : Nat) (b : Bool) : optG ops τ (some ⟨d, op, ty, p, af, some (j, b)⟩) = (isB b (gval τ (gslot ops j)) = true) := nr rfl
section
variable {P : Program} {n : Nat} {ops : Array Oper} {Q : Exit → Sl → World → Prop} {σ : Sl} {w : World} {fuel : Nat} {listed : Array Bool} {S : World → Prop}
theorem Ord_oneg (i : Nat) {d : Option Nat} {op : Op} {ty : TypeId} {p : String} {af : Array Edge} {j : Nat} {b : Bool} (hr : Region.ready .any ops listed = [i]) (hi : ops[i]? = some ⟨d, op, ty, p, af, some (j, b)⟩)
    (h : GB P (isB b (gval σ (gslot ops j))) (run1 P op ty σ w) (fun v w' => S w' ∧ Ord P n ops Q S fuel (listed.setIfInBounds i true) (put n σ d v) w') w) : Ord P n ops Q S (fuel + 1) listed σ w :=
  Ord_all [i] hr (by simp) fun k hk => by
    obtain rfl : k = i := by simpa using hk
    exact OpO_ofg k hi h
theorem Ord_readsG (is : List Nat) (f : Nat) {m : Nat} {τ : Sl} (hf : m = f + is.length) (hs : Region.noSelect ops = true) (hB : rdG n ops listed is = true)
    (hQ : ∀ c σ w, ¬ Q (.panic c) σ w) (hS : S w) (hv : ∀ w', S w' → V P n w' (opsL ops is) σ (fun σ' => σ' = τ)) (hg : GOk ops τ is)
    (h : Ord P n ops Q S f (markL listed is) τ w) : Ord P n ops Q S m listed σ w := by
  subst hf
  induction is generalizing listed σ with
  | nil => have e : σ = τ := hv w hS; rw [e]; exact h
  | cons i r ih =>
    rw [rdG, Bool.and_eq_true, Bool.and_eq_true, Bool.and_eq_true] at hB
    obtain ⟨⟨⟨h1, h2⟩, h3⟩, h4⟩ := hB
    rw [GOk_cons] at hg
    obtain ⟨hg1, hg2⟩ := hg
    cases ho : ops[i]? with
    | none => rw [ho] at h1; cases h1
    | some o =>
      obtain ⟨d', op, ty, p, af, g⟩ := o
      rw [ho] at h1 hg1
      cases d' with
      | none => cases h1
      | some d =>
      simp only [Bool.and_eq_true, decide_eq_true_eq] at h1
      obtain ⟨⟨hd, hr⟩, hgd⟩ := h1
      have key : ∀ w', S w' → run1 P op ty σ w' = .ok (.value (τ d)) w' ∧ V P n w' (opsL ops r) (put n σ (some d) (τ d)) (fun σ' => σ' = τ) := by
        intro w' hw'
        have hv := hv w' hw'
        rw [opsL_cons, ho, optL_some, V_op] at hv
        cases hr1 : run1 P op ty σ w' with
        | halt x w2 => rw [hr1] at hv; exact hv.elim
        | ok nx w2 =>
          rw [hr1] at hv
          cases nx with
          | value v =>
            obtain ⟨rfl, hv⟩ := hv
            have e := V_keep r _ hr hv
            rw [put_some, if_pos hd, upd_same] at e
            rw [e]
            exact ⟨rfl, hv⟩
          | _ => exact hv.elim
      have next := ih h4 (fun w' hw' => (key w' hw').2) hg2 h
      cases g with
      | none => exact Ord_take i ho hs h2 h3 hQ hS (fun w' hw' => (key w' hw').1) next
      | some g =>
        obtain ⟨j, b⟩ := g
        dsimp only at hgd
        obtain ⟨hj1, hj2⟩ := (Bool.and_eq_true _ _).mp hgd
        cases hsl : gslot ops j with
        | none => rw [hsl] at hj1; cases hj1
        | some s =>
          rw [hsl] at hj2
          have e := V_keep (i :: r) _ hj2 (hv w hS)
          have hgt : isB b (gval τ (gslot ops j)) = true := hg1
          refine Ord_takeg i ho hs h2 h3 hQ hS ?_ (fun w' hw' => (key w' hw').1) next
          rw [hsl] at hgt ⊢
          show isB b (σ s) = true
          rw [← e]
          exact hgt
end
end Go.Proofs.YtbdkggnajipdhaaGreatDoor
