/- Texts laid one behind the other: RgF. Each says at its head what it proves. -/
import Derived.Test.YtbdkggnajipdhaaGreatDoorRtPsZ16
set_option linter.unusedSimpArgs false
/- The reference's reader of games: tier. -/
namespace Go.Proofs.YtbdkggnajipdhaaGreatDoor
open Nat (reduceAdd reduceMul reduceSub reduceEqDiff reduceLT reduceLeDiff)
open Go.RowKit
set_option maxRecDepth 100000
section
variable {base g c a k : Nat} {A : Option Addr} {T : List Tk} {w : World} {G : Gm} {seen : List (List Nat)} {Va Vt Vn : Value} {Vs : List (List Value)} {Q : List ByteArray} {x : Except (Int × List Tk) (List Tk)}
theorem isT_WM {u : List Nat} {L : List Tk} (h : isWM u L = decide ((hdT L).kind = 1 ∧ bs (hdT L).text = u)) : isT 1 u L = if isWM u L = true then some (nxT L) else none := by
  unfold isT
  rw [h]
  by_cases hk : (hdT L).kind = 1 ∧ bs (hdT L).text = u
  · rw [if_pos hk, if_pos (decide_eq_true hk)]
  · rw [if_neg hk, if_neg (by rw [decide_eq_false hk]; simp)]
theorem hitX_is (hT : TokOk T) (hW : TokW T) (hlt : a < T.length) {ch : Nat} {r : List Nat} (hc : letterB ch = true) : hitX (ch :: r) (T.drop a) = hitT (ch :: r) (T.drop a) := by
  have hw := isWM_word hW hlt (r := r) hc
  unfold hitX hitT
  rw [isT_WM hw]
  by_cases h : isWM (ch :: r) (T.drop a) = true
  · obtain ⟨n1, n2⟩ := isWM_end hT hlt h
    rw [if_pos h, if_pos h, n2, numberT_any hT n1]
    rfl
  · rw [if_neg h, if_neg h]
theorem mode_hits {v0 v1 v2 : Int} {X0 X1 X2 : Except (Int × List Tk) (Int × List Tk)} (hT : TokOk T) (hW : TokW T) (hlt : a < T.length)
    (hx0 : bindT (.ok (T.drop a)) (hitX (asc "main")) = X0) (q0 : ∀ y, X0 = .ok y → v0 = y.1) (l0 : ∀ L, sndX X0 = .ok L → ∃ a, L = T.drop a ∧ a < T.length)
    (hx1 : bindT (sndX X0) (hitX (asc "bonus")) = X1) (q1 : ∀ y, X1 = .ok y → v1 = y.1) (l1 : ∀ L, sndX X1 = .ok L → ∃ a, L = T.drop a ∧ a < T.length)
    (hx2 : bindT (sndX X1) (hitX (asc "extra")) = X2) (q2 : ∀ y, X2 = .ok y → v2 = y.1) :
    (bindT (hitT (asc "main") (T.drop a)) fun a => bindT (hitT (asc "bonus") a.2) fun b => bindT (hitT (asc "extra") b.2) fun c => Except.ok (((0 : Int), a.1, b.1, c.1), c.2)) = bindT X2 fun z => .ok ((0, v0, v1, v2), z.2) := by
  have hm {a : Nat} (h : a < T.length) := hitX_is hT hW h (ch := 109) (r := [97, 105, 110]) (by decide)
  rw [show ([109, 97, 105, 110] : List Nat) = asc "main" by decide +kernel] at hm
  have hb {a : Nat} (h : a < T.length) := hitX_is hT hW h (ch := 98) (r := [111, 110, 117, 115]) (by decide)
  rw [show ([98, 111, 110, 117, 115] : List Nat) = asc "bonus" by decide +kernel] at hb
  have he {a : Nat} (h : a < T.length) := hitX_is hT hW h (ch := 101) (r := [120, 116, 114, 97]) (by decide)
  rw [show ([101, 120, 116, 114, 97] : List Nat) = asc "extra" by decide +kernel] at he
  have e0 : X0 = hitT (asc "main") (T.drop a) := by rw [← hx0, ← hm hlt]; rfl
  rw [← e0]
  cases X0 with
  | error y => rw [← hx2, ← hx1]; rfl
  | ok y =>
    obtain rfl := q0 _ rfl
    obtain ⟨a1, ha1, hl1⟩ := l0 y.2 rfl
    dsimp only [bindT]
    have e1 : X1 = hitT (asc "bonus") y.2 := by rw [← hx1, ha1, ← hb hl1, ← ha1]; rfl
    rw [← e1]
    cases X1 with
    | error z => rw [← hx2]; rfl
    | ok z =>
      obtain rfl := q1 _ rfl
      obtain ⟨a2, ha2, hl2⟩ := l1 z.2 rfl
      dsimp only
      have e2 : X2 = hitT (asc "extra") z.2 := by rw [← hx2, ha2, ← he hl2, ← ha2]; rfl
      rw [← e2]
      cases X2 with
      | error u => rfl
      | ok u =>
        obtain rfl := q2 _ rfl
        rfl
/-- What a tier's reading gives. -/
def TiO (base g : Nat) (A : Option Addr) (c : Nat) (T : List Tk) (k : Nat) (G : Gm) (seen : List (List Nat)) (Va Vn : Value) (Vs : List (List Value)) (Q : List ByteArray) (D : Except (Int × List Tk) (Ti × List Tk)) (w w' : World) : Prop := Below base w w' ∧ match D with
  | .ok y => ∃ Vt, RgSt w' base g A c T (.ok y.2) (k + 1) { G with tiers := G.tiers ++ [y.1] } seen Va Vt Vn Vs Q
  | .error y => ∃ rest, Rs w' g A c T (.error y) rest
set_option maxHeartbeats 2000000 in
theorem rgTier_any (h : RgSt w base g A c T (.ok (T.drop a)) k G seen Va Vt Vn Vs Q) (hlt : a < T.length) (hk : k < 3000005) (hT : TokOk T) (hW : TokW T) : Calls Tryz.prog 68 #[.pointer (some ⟨g, 0, none⟩)] w fun e w' => (∃ v, e = .returned v) ∧ TiO base g A c T k G seen Va Vn Vs Q (tierT (T.drop a)) w w' := by
  refine calls_W (l := [_]) Tryz.func68 rfl _ Tryz.ntmps68 (by simp) ?_
  have hbig := hT.big
  have hbg := h.hg
  generalize hR : tierT (T.drop a) = R
  unfold tierT at hR
  have hgl := h.lt
  refine W_piece fun K hK hX => ?_
  simp +contextual (maxSteps := 2000000) (disch := first | omega | (simp only [SZ]; first | done | omega) | (simp only [TS] at *; omega)) only [RZ, ovw, oneC, reduceAdd, reduceMul, reduceSub, reduceEqDiff, reduceLT, ↓reduceIte, Int.reduceToNat, reduceLeDiff]
  have h0 := h.below (below_alloc w (.cells #[Value.int .i64 0, .int .i64 0, .int .i64 0, .int .i64 0, .int .i64 0, .int .i64 0] 41))
  have K0 : Below base w _ := (below_alloc w (.cells #[Value.int .i64 0, .int .i64 0, .int .i64 0, .int .i64 0, .int .i64 0, .int .i64 0] 41)).mono (by omega)
  have r0 := Row.new w 41 [Value.int .i64 0, .int .i64 0, .int .i64 0, .int .i64 0, .int .i64 0, .int .i64 0]
  replace r0 : Row (w.alloc (.cells #[Value.int .i64 0, .int .i64 0, .int .i64 0, .int .i64 0, .int .i64 0, .int .i64 0] 41)) _ _ _ := r0
  generalize hga : w.heap.size = ga at *
  have hva : Va.ownBlock ≠ some ga := fun hb => by have := (owns_ge h.own hb).2; omega
  have hvt : Vt.ownBlock ≠ some ga := fun hb => by have := (owns_ge h.tis hb).2; omega
  have hvn : Vn.ownBlock ≠ some ga := fun hb => by have := (owns_ge h.nown hb).2; omega
  generalize w.alloc (.cells #[Value.int .i64 0, .int .i64 0, .int .i64 0, .int .i64 0, .int .i64 0, .int .i64 0] 41) = w0 at *
  refine hK _ _ ?_
  clear hK hX K
  generalize hM : modeT (T.drop a) = M at hR
  unfold modeT at hM
  refine W_cutS (fun σ w5 => σ 0 = .pointer (some ⟨g, 0, none⟩) ∧ σ 2 = .pointer (some ⟨ga, 0, none⟩) ∧ ∃ (x5 : Except (Int × List Tk) (List Tk)) (m b e md : Int), Row w5 ga 41 [.int .i64 m, .int .i64 b, .int .i64 e, .int .i64 md, .int .i64 0, .int .i64 0] ∧
    RgSt w5 base g A c T x5 k G seen Va Vt Vn Vs Q ∧ Below base w w5 ∧ sndX M = x5 ∧ ∀ y, M = .ok y → y.1 = (md, m, b, e)) ?_ ?_
  rotate_left
  · refine W_piece fun K hK hX => ?_
    simp +contextual (maxSteps := 2000000) (disch := first | omega | (simp only [SZ]; first | done | omega) | (simp only [TS] at *; omega)) only [RZ, ovw, oneC, reduceAdd, reduceMul, reduceSub, reduceEqDiff, reduceLT, ↓reduceIte, Int.reduceToNat, reduceLeDiff]
    refine (rgIs_any ⟨#[101, 120, 97, 99, 116]⟩ h0.rs).mono ?_
    rintro e w1 ⟨rfl, hB1⟩
    refine ⟨_, rfl, ?_⟩
    rw [show bs ⟨#[101, 120, 97, 99, 116]⟩ = asc "exact" by decide +kernel, show isX (.ok (T.drop a)) (asc "exact") = isWM (asc "exact") (T.drop a) from rfl]
    have h1 := h0.below hB1
    have r1 := r0.below hB1
    have K1 := K0.trans (hB1.mono (by have := h0.lt; omega))
    have hbl1 := hB1.size
    try simp +contextual (maxSteps := 2000000) (disch := first | omega | (simp only [SZ]; first | done | omega) | (simp only [TS] at *; omega)) only [RZ, ovw, oneC, reduceAdd, reduceMul, reduceSub, reduceEqDiff, reduceLT, ↓reduceIte, Int.reduceToNat, reduceLeDiff]
    refine hK _ _ ?_
    clear hK hX K
    have hw := isWM_word hW hlt (ch := 101) (r := [120, 97, 99, 116]) (by decide)
    rw [show ([101, 120, 97, 99, 116] : List Nat) = asc "exact" by decide +kernel] at hw
    have hI_exact := isT_WM hw
    by_cases hi : isWM (asc "exact") (T.drop a) = true
    · rw [hI_exact, if_pos hi] at hM
      dsimp only at hM
      refine W_if_t (by simp +contextual (maxSteps := 2000000) (disch := first | omega | (simp only [SZ]; first | done | omega) | (simp only [TS] at *; omega)) only [RZ, ovw, oneC, reduceAdd, reduceMul, reduceSub, reduceEqDiff, reduceLT, ↓reduceIte, Int.reduceToNat, reduceLeDiff,  hi]) ?_
      refine W_piece fun K hK hX => ?_
      obtain ⟨a9, er9, ln9, p9, hx9⟩ := h1.rs.cases
      rcases hx9 with ⟨rfl, hx9⟩ | ⟨_, _, hx9, _⟩
      rotate_left
      · cases hx9
      injection hx9 with hx9
      obtain rfl : a = a9 := drop_same hx9.symm hlt p9.lt
      obtain ⟨n1, n2⟩ := isWM_end hT hlt hi
      have c1 := p9.c1
      have y1 := p9.row.frozen 1
      simp +contextual (maxSteps := 2000000) (disch := first | omega | (simp only [SZ]; first | done | omega) | (simp only [TS] at *; omega)) only [RZ, ovw, oneC, reduceAdd, reduceMul, reduceSub, reduceEqDiff, reduceLT, ↓reduceIte, Int.reduceToNat, reduceLeDiff,  c1, y1]
      refine hK _ _ ?_
      clear hK hX K
      have p11 := p9.go n1
      have k11 := (Kept.refl [g] w1).setCell (p := ⟨g, 1, none⟩) (by simp) (.int .i64 ((a : Int) + 1))
      have h11 := h1.leaf k11 p11.rs
      have K11 := K1.trans (h1.keptB k11 (by simpa using hbg))
      have r11 := r1.kept k11 (by simp; omega)
      have hbl11 := k11.size
      generalize w1.setCell ⟨g, 1, none⟩ (.int .i64 ((a : Int) + 1)) = w11 at *
      have z3 := r11.cell (i := 3) rfl
      have z3z := r11.frozen 3
      try simp +contextual (maxSteps := 2000000) (disch := first | omega | (simp only [SZ]; first | done | omega) | (simp only [TS] at *; omega)) only [RZ, ovw, oneC, reduceAdd, reduceMul, reduceSub, reduceEqDiff, reduceLT, ↓reduceIte, Int.reduceToNat, reduceLeDiff,  z3, z3z]
      obtain ⟨h12, K12, r12⟩ := h11.set (v := .int .i64 1) (i := 3) K11 r11 (by decide) (by omega) (by omega) hva hvt hvn (by simp)
      replace r12 : Row (w11.setCell ⟨ga, 3, none⟩ (.int .i64 1)) ga 41 [Value.int .i64 0, .int .i64 0, .int .i64 0, .int .i64 1, .int .i64 0, .int .i64 0] := r12
      generalize w11.setCell ⟨ga, 3, none⟩ (.int .i64 1) = w12 at *
      rw [n2] at hM
      exact ⟨_, 0, 0, 0, 1, r12, h12, K12, by rw [← hM]; rfl, fun y hy => by rw [← hM] at hy; injection hy with hy; rw [← hy]⟩
    rw [hI_exact, if_neg hi] at hM
    dsimp only at hM
    refine W_if_f (by simp +contextual (maxSteps := 2000000) (disch := first | omega | (simp only [SZ]; first | done | omega) | (simp only [TS] at *; omega)) only [RZ, ovw, oneC, reduceAdd, reduceMul, reduceSub, reduceEqDiff, reduceLT, ↓reduceIte, Int.reduceToNat, reduceLeDiff,  hi]) ?_
    clear hi
    refine W_piece fun K hK hX => ?_
    simp +contextual (maxSteps := 2000000) (disch := first | omega | (simp only [SZ]; first | done | omega) | (simp only [TS] at *; omega)) only [RZ, ovw, oneC, reduceAdd, reduceMul, reduceSub, reduceEqDiff, reduceLT, ↓reduceIte, Int.reduceToNat, reduceLeDiff]
    refine (rgIs_any ⟨#[98, 111, 120]⟩ h1.rs).mono ?_
    rintro e w2 ⟨rfl, hB2⟩
    refine ⟨_, rfl, ?_⟩
    rw [show bs ⟨#[98, 111, 120]⟩ = asc "box" by decide +kernel, show isX (.ok (T.drop a)) (asc "box") = isWM (asc "box") (T.drop a) from rfl]
    have h2 := h1.below hB2
    have r2 := r1.below hB2
    have K2 := K1.trans (hB2.mono (by have := h1.lt; omega))
    have hbl2 := hB2.size
    try simp +contextual (maxSteps := 2000000) (disch := first | omega | (simp only [SZ]; first | done | omega) | (simp only [TS] at *; omega)) only [RZ, ovw, oneC, reduceAdd, reduceMul, reduceSub, reduceEqDiff, reduceLT, ↓reduceIte, Int.reduceToNat, reduceLeDiff]
    refine hK _ _ ?_
    clear hK hX K
    have hw := isWM_word hW hlt (ch := 98) (r := [111, 120]) (by decide)
    rw [show ([98, 111, 120] : List Nat) = asc "box" by decide +kernel] at hw
    have hI_box := isT_WM hw
    by_cases hi : isWM (asc "box") (T.drop a) = true
    · rw [hI_box, if_pos hi] at hM
      dsimp only at hM
      refine W_if_t (by simp +contextual (maxSteps := 2000000) (disch := first | omega | (simp only [SZ]; first | done | omega) | (simp only [TS] at *; omega)) only [RZ, ovw, oneC, reduceAdd, reduceMul, reduceSub, reduceEqDiff, reduceLT, ↓reduceIte, Int.reduceToNat, reduceLeDiff,  hi]) ?_
      refine W_piece fun K hK hX => ?_
      obtain ⟨a9, er9, ln9, p9, hx9⟩ := h2.rs.cases
      rcases hx9 with ⟨rfl, hx9⟩ | ⟨_, _, hx9, _⟩
      rotate_left
      · cases hx9
      injection hx9 with hx9
      obtain rfl : a = a9 := drop_same hx9.symm hlt p9.lt
      obtain ⟨n1, n2⟩ := isWM_end hT hlt hi
      have c1 := p9.c1
      have y1 := p9.row.frozen 1
      simp +contextual (maxSteps := 2000000) (disch := first | omega | (simp only [SZ]; first | done | omega) | (simp only [TS] at *; omega)) only [RZ, ovw, oneC, reduceAdd, reduceMul, reduceSub, reduceEqDiff, reduceLT, ↓reduceIte, Int.reduceToNat, reduceLeDiff,  c1, y1]
      refine hK _ _ ?_
      clear hK hX K
      have p12 := p9.go n1
      have k12 := (Kept.refl [g] w2).setCell (p := ⟨g, 1, none⟩) (by simp) (.int .i64 ((a : Int) + 1))
      have h12 := h2.leaf k12 p12.rs
      have K12 := K2.trans (h2.keptB k12 (by simpa using hbg))
      have r12 := r2.kept k12 (by simp; omega)
      have hbl12 := k12.size
      generalize w2.setCell ⟨g, 1, none⟩ (.int .i64 ((a : Int) + 1)) = w12 at *
      have z3 := r12.cell (i := 3) rfl
      have z3z := r12.frozen 3
      try simp +contextual (maxSteps := 2000000) (disch := first | omega | (simp only [SZ]; first | done | omega) | (simp only [TS] at *; omega)) only [RZ, ovw, oneC, reduceAdd, reduceMul, reduceSub, reduceEqDiff, reduceLT, ↓reduceIte, Int.reduceToNat, reduceLeDiff,  z3, z3z]
      obtain ⟨h13, K13, r13⟩ := h12.set (v := .int .i64 2) (i := 3) K12 r12 (by decide) (by omega) (by omega) hva hvt hvn (by simp)
      replace r13 : Row (w12.setCell ⟨ga, 3, none⟩ (.int .i64 2)) ga 41 [Value.int .i64 0, .int .i64 0, .int .i64 0, .int .i64 2, .int .i64 0, .int .i64 0] := r13
      generalize w12.setCell ⟨ga, 3, none⟩ (.int .i64 2) = w13 at *
      rw [n2] at hM
      exact ⟨_, 0, 0, 0, 2, r13, h13, K13, by rw [← hM]; rfl, fun y hy => by rw [← hM] at hy; injection hy with hy; rw [← hy]⟩
    rw [hI_box, if_neg hi] at hM
    dsimp only at hM
    refine W_if_f (by simp +contextual (maxSteps := 2000000) (disch := first | omega | (simp only [SZ]; first | done | omega) | (simp only [TS] at *; omega)) only [RZ, ovw, oneC, reduceAdd, reduceMul, reduceSub, reduceEqDiff, reduceLT, ↓reduceIte, Int.reduceToNat, reduceLeDiff,  hi]) ?_
    clear hi
    refine W_piece fun K hK hX => ?_
    simp +contextual (maxSteps := 2000000) (disch := first | omega | (simp only [SZ]; first | done | omega) | (simp only [TS] at *; omega)) only [RZ, ovw, oneC, reduceAdd, reduceMul, reduceSub, reduceEqDiff, reduceLT, ↓reduceIte, Int.reduceToNat, reduceLeDiff]
    refine (rgIs_any ⟨#[102, 114, 111, 110, 116]⟩ h2.rs).mono ?_
    rintro e w3 ⟨rfl, hB3⟩
    refine ⟨_, rfl, ?_⟩
    rw [show bs ⟨#[102, 114, 111, 110, 116]⟩ = asc "front" by decide +kernel, show isX (.ok (T.drop a)) (asc "front") = isWM (asc "front") (T.drop a) from rfl]
    have h3 := h2.below hB3
    have r3 := r2.below hB3
    have K3 := K2.trans (hB3.mono (by have := h2.lt; omega))
    have hbl3 := hB3.size
    try simp +contextual (maxSteps := 2000000) (disch := first | omega | (simp only [SZ]; first | done | omega) | (simp only [TS] at *; omega)) only [RZ, ovw, oneC, reduceAdd, reduceMul, reduceSub, reduceEqDiff, reduceLT, ↓reduceIte, Int.reduceToNat, reduceLeDiff]
    refine hK _ _ ?_
    clear hK hX K
    have hw := isWM_word hW hlt (ch := 102) (r := [114, 111, 110, 116]) (by decide)
    rw [show ([102, 114, 111, 110, 116] : List Nat) = asc "front" by decide +kernel] at hw
    have hI_front := isT_WM hw
    by_cases hi : isWM (asc "front") (T.drop a) = true
    · have hH := hitX_is hT hW hlt (ch := 102) (r := [114, 111, 110, 116]) (by decide)
      rw [show ([102, 114, 111, 110, 116] : List Nat) = asc "front" by decide +kernel] at hH
      unfold hitT at hH
      rw [hI_front, if_pos hi] at hM hH
      dsimp only at hM hH
      refine W_if_t (by simp +contextual (maxSteps := 2000000) (disch := first | omega | (simp only [SZ]; first | done | omega) | (simp only [TS] at *; omega)) only [RZ, ovw, oneC, reduceAdd, reduceMul, reduceSub, reduceEqDiff, reduceLT, ↓reduceIte, Int.reduceToNat, reduceLeDiff,  hi]) ?_
      refine W_piece fun K hK hX => ?_
      have z3 := r3.cell (i := 3) rfl
      have z3z := r3.frozen 3
      try simp +contextual (maxSteps := 2000000) (disch := first | omega | (simp only [SZ]; first | done | omega) | (simp only [TS] at *; omega)) only [RZ, ovw, oneC, reduceAdd, reduceMul, reduceSub, reduceEqDiff, reduceLT, ↓reduceIte, Int.reduceToNat, reduceLeDiff,  z3, z3z]
      obtain ⟨h13, K13, r13⟩ := h3.set (v := .int .i64 3) (i := 3) K3 r3 (by decide) (by omega) (by omega) hva hvt hvn (by simp)
      replace r13 : Row (w3.setCell ⟨ga, 3, none⟩ (.int .i64 3)) ga 41 [Value.int .i64 0, .int .i64 0, .int .i64 0, .int .i64 3, .int .i64 0, .int .i64 0] := r13
      generalize w3.setCell ⟨ga, 3, none⟩ (.int .i64 3) = w13 at *
      refine hK _ _ ?_
      clear hK hX K
      try simp +contextual (maxSteps := 2000000) (disch := first | omega | (simp only [SZ]; first | done | omega) | (simp only [TS] at *; omega)) only [RZ, ovw, oneC, reduceAdd, reduceMul, reduceSub, reduceEqDiff, reduceLT, ↓reduceIte, Int.reduceToNat, reduceLeDiff]
      refine (rgHit_any ⟨#[102, 114, 111, 110, 116]⟩ hT h13.rs).mono ?_
      rintro e w14 ⟨v14, rfl, s14, k14, q14⟩
      refine ⟨_, rfl, ?_⟩
      rw [show bs ⟨#[102, 114, 111, 110, 116]⟩ = asc "front" by decide +kernel] at s14 q14
      generalize hx14 : bindT (.ok (T.drop a)) (hitX (asc "front")) = X14 at s14 q14
      have h14 := h13.leaf k14 s14
      have K14 := K13.trans (h13.keptB k14 (by simpa using hbg))
      have r14 := r13.kept k14 (by simp; omega)
      have hbl14 := k14.size
      have z0 := r14.cell (i := 0) rfl
      have z0z := r14.frozen 0
      try simp +contextual (maxSteps := 2000000) (disch := first | omega | (simp only [SZ]; first | done | omega) | (simp only [TS] at *; omega)) only [RZ, ovw, oneC, reduceAdd, reduceMul, reduceSub, reduceEqDiff, reduceLT, ↓reduceIte, Int.reduceToNat, reduceLeDiff,  z0, z0z]
      obtain ⟨h15, K15, r15⟩ := h14.set (v := .int .i64 v14) (i := 0) K14 r14 (by decide) (by omega) (by omega) hva hvt hvn (by simp)
      replace r15 : Row (w14.setCell ⟨ga, 0, none⟩ (.int .i64 v14)) ga 41 [Value.int .i64 v14, .int .i64 0, .int .i64 0, .int .i64 3, .int .i64 0, .int .i64 0] := r15
      generalize w14.setCell ⟨ga, 0, none⟩ (.int .i64 v14) = w15 at *
      have hX : X14 = thenT (numT (nxT (T.drop a))) (nxT (T.drop a)) fun y => .ok y := by rw [← hx14, ← hH]; rfl
      refine ⟨_, v14, 0, 0, 3, r15, h15, K15, ?_, ?_⟩
      · rw [← hM, hX]
        cases numT (nxT (T.drop a)) <;> rfl
      · intro y hy
        rw [← hM] at hy
        cases hn : numT (nxT (T.drop a)) with
        | none => rw [hn] at hy; cases hy
        | some z =>
          rw [hn] at hy hX
          dsimp only [thenT] at hy hX
          injection hy with hy
          rw [← hy, q14 z hX]
    rw [hI_front, if_neg hi] at hM
    dsimp only at hM
    refine W_if_f (by simp +contextual (maxSteps := 2000000) (disch := first | omega | (simp only [SZ]; first | done | omega) | (simp only [TS] at *; omega)) only [RZ, ovw, oneC, reduceAdd, reduceMul, reduceSub, reduceEqDiff, reduceLT, ↓reduceIte, Int.reduceToNat, reduceLeDiff,  hi]) ?_
    clear hi
    refine W_piece fun K hK hX => ?_
    simp +contextual (maxSteps := 2000000) (disch := first | omega | (simp only [SZ]; first | done | omega) | (simp only [TS] at *; omega)) only [RZ, ovw, oneC, reduceAdd, reduceMul, reduceSub, reduceEqDiff, reduceLT, ↓reduceIte, Int.reduceToNat, reduceLeDiff]
    refine (rgIs_any ⟨#[98, 97, 99, 107]⟩ h3.rs).mono ?_
    rintro e w4 ⟨rfl, hB4⟩
    refine ⟨_, rfl, ?_⟩
    rw [show bs ⟨#[98, 97, 99, 107]⟩ = asc "back" by decide +kernel, show isX (.ok (T.drop a)) (asc "back") = isWM (asc "back") (T.drop a) from rfl]
    have h4 := h3.below hB4
    have r4 := r3.below hB4
    have K4 := K3.trans (hB4.mono (by have := h3.lt; omega))
    have hbl4 := hB4.size
    try simp +contextual (maxSteps := 2000000) (disch := first | omega | (simp only [SZ]; first | done | omega) | (simp only [TS] at *; omega)) only [RZ, ovw, oneC, reduceAdd, reduceMul, reduceSub, reduceEqDiff, reduceLT, ↓reduceIte, Int.reduceToNat, reduceLeDiff]
    refine hK _ _ ?_
    clear hK hX K
    have hw := isWM_word hW hlt (ch := 98) (r := [97, 99, 107]) (by decide)
    rw [show ([98, 97, 99, 107] : List Nat) = asc "back" by decide +kernel] at hw
    have hI_back := isT_WM hw
    by_cases hi : isWM (asc "back") (T.drop a) = true
    · have hH := hitX_is hT hW hlt (ch := 98) (r := [97, 99, 107]) (by decide)
      rw [show ([98, 97, 99, 107] : List Nat) = asc "back" by decide +kernel] at hH
      unfold hitT at hH
      rw [hI_back, if_pos hi] at hM hH
      dsimp only at hM hH
      refine W_if_t (by simp +contextual (maxSteps := 2000000) (disch := first | omega | (simp only [SZ]; first | done | omega) | (simp only [TS] at *; omega)) only [RZ, ovw, oneC, reduceAdd, reduceMul, reduceSub, reduceEqDiff, reduceLT, ↓reduceIte, Int.reduceToNat, reduceLeDiff,  hi]) ?_
      refine W_piece fun K hK hX => ?_
      have z3 := r4.cell (i := 3) rfl
      have z3z := r4.frozen 3
      try simp +contextual (maxSteps := 2000000) (disch := first | omega | (simp only [SZ]; first | done | omega) | (simp only [TS] at *; omega)) only [RZ, ovw, oneC, reduceAdd, reduceMul, reduceSub, reduceEqDiff, reduceLT, ↓reduceIte, Int.reduceToNat, reduceLeDiff,  z3, z3z]
      obtain ⟨h14, K14, r14⟩ := h4.set (v := .int .i64 4) (i := 3) K4 r4 (by decide) (by omega) (by omega) hva hvt hvn (by simp)
      replace r14 : Row (w4.setCell ⟨ga, 3, none⟩ (.int .i64 4)) ga 41 [Value.int .i64 0, .int .i64 0, .int .i64 0, .int .i64 4, .int .i64 0, .int .i64 0] := r14
      generalize w4.setCell ⟨ga, 3, none⟩ (.int .i64 4) = w14 at *
      refine hK _ _ ?_
      clear hK hX K
      try simp +contextual (maxSteps := 2000000) (disch := first | omega | (simp only [SZ]; first | done | omega) | (simp only [TS] at *; omega)) only [RZ, ovw, oneC, reduceAdd, reduceMul, reduceSub, reduceEqDiff, reduceLT, ↓reduceIte, Int.reduceToNat, reduceLeDiff]
      refine (rgHit_any ⟨#[98, 97, 99, 107]⟩ hT h14.rs).mono ?_
      rintro e w15 ⟨v15, rfl, s15, k15, q15⟩
      refine ⟨_, rfl, ?_⟩
      rw [show bs ⟨#[98, 97, 99, 107]⟩ = asc "back" by decide +kernel] at s15 q15
      generalize hx15 : bindT (.ok (T.drop a)) (hitX (asc "back")) = X15 at s15 q15
      have h15 := h14.leaf k15 s15
      have K15 := K14.trans (h14.keptB k15 (by simpa using hbg))
      have r15 := r14.kept k15 (by simp; omega)
      have hbl15 := k15.size
      have z0 := r15.cell (i := 0) rfl
      have z0z := r15.frozen 0
      try simp +contextual (maxSteps := 2000000) (disch := first | omega | (simp only [SZ]; first | done | omega) | (simp only [TS] at *; omega)) only [RZ, ovw, oneC, reduceAdd, reduceMul, reduceSub, reduceEqDiff, reduceLT, ↓reduceIte, Int.reduceToNat, reduceLeDiff,  z0, z0z]
      obtain ⟨h16, K16, r16⟩ := h15.set (v := .int .i64 v15) (i := 0) K15 r15 (by decide) (by omega) (by omega) hva hvt hvn (by simp)
      replace r16 : Row (w15.setCell ⟨ga, 0, none⟩ (.int .i64 v15)) ga 41 [Value.int .i64 v15, .int .i64 0, .int .i64 0, .int .i64 4, .int .i64 0, .int .i64 0] := r16
      generalize w15.setCell ⟨ga, 0, none⟩ (.int .i64 v15) = w16 at *
      have hX : X15 = thenT (numT (nxT (T.drop a))) (nxT (T.drop a)) fun y => .ok y := by rw [← hx15, ← hH]; rfl
      refine ⟨_, v15, 0, 0, 4, r16, h16, K16, ?_, ?_⟩
      · rw [← hM, hX]
        cases numT (nxT (T.drop a)) <;> rfl
      · intro y hy
        rw [← hM] at hy
        cases hn : numT (nxT (T.drop a)) with
        | none => rw [hn] at hy; cases hy
        | some z =>
          rw [hn] at hy hX
          dsimp only [thenT] at hy hX
          injection hy with hy
          rw [← hy, q15 z hX]
    rw [hI_back, if_neg hi] at hM
    dsimp only at hM
    refine W_if_f (by simp +contextual (maxSteps := 2000000) (disch := first | omega | (simp only [SZ]; first | done | omega) | (simp only [TS] at *; omega)) only [RZ, ovw, oneC, reduceAdd, reduceMul, reduceSub, reduceEqDiff, reduceLT, ↓reduceIte, Int.reduceToNat, reduceLeDiff,  hi]) ?_
    clear hi
    try simp +contextual (maxSteps := 2000000) (disch := first | omega | (simp only [SZ]; first | done | omega) | (simp only [TS] at *; omega)) only [RZ, ovw, oneC, reduceAdd, reduceMul, reduceSub, reduceEqDiff, reduceLT, ↓reduceIte, Int.reduceToNat, reduceLeDiff]
    refine (rgHit_any ⟨#[109, 97, 105, 110]⟩ hT h4.rs).mono ?_
    rintro e w20 ⟨v20, rfl, s20, k20, q20⟩
    refine ⟨_, rfl, ?_⟩
    rw [show bs ⟨#[109, 97, 105, 110]⟩ = asc "main" by decide +kernel] at s20 q20
    generalize hx20 : bindT (.ok (T.drop a)) (hitX (asc "main")) = X20 at s20 q20
    have h20 := h4.leaf k20 s20
    have K20 := K4.trans (h4.keptB k20 (by simpa using hbg))
    have r20 := r4.kept k20 (by simp; omega)
    have hbl20 := k20.size
    have z0 := r20.cell (i := 0) rfl
    have z0z := r20.frozen 0
    try simp +contextual (maxSteps := 2000000) (disch := first | omega | (simp only [SZ]; first | done | omega) | (simp only [TS] at *; omega)) only [RZ, ovw, oneC, reduceAdd, reduceMul, reduceSub, reduceEqDiff, reduceLT, ↓reduceIte, Int.reduceToNat, reduceLeDiff,  z0, z0z]
    obtain ⟨h21, K21, r21⟩ := h20.set (v := .int .i64 v20) (i := 0) K20 r20 (by decide) (by omega) (by omega) hva hvt hvn (by simp)
    replace r21 : Row (w20.setCell ⟨ga, 0, none⟩ (.int .i64 v20)) ga 41 [Value.int .i64 v20, .int .i64 0, .int .i64 0, .int .i64 0, .int .i64 0, .int .i64 0] := r21
    generalize w20.setCell ⟨ga, 0, none⟩ (.int .i64 v20) = w21 at *
    try simp +contextual (maxSteps := 2000000) (disch := first | omega | (simp only [SZ]; first | done | omega) | (simp only [TS] at *; omega)) only [RZ, ovw, oneC, reduceAdd, reduceMul, reduceSub, reduceEqDiff, reduceLT, ↓reduceIte, Int.reduceToNat, reduceLeDiff]
    refine (rgHit_any ⟨#[98, 111, 110, 117, 115]⟩ hT h21.rs).mono ?_
    rintro e w22 ⟨v22, rfl, s22, k22, q22⟩
    refine ⟨_, rfl, ?_⟩
    rw [show bs ⟨#[98, 111, 110, 117, 115]⟩ = asc "bonus" by decide +kernel] at s22 q22
    generalize hx22 : bindT (sndX X20) (hitX (asc "bonus")) = X22 at s22 q22
    have h22 := h21.leaf k22 s22
    have K22 := K21.trans (h21.keptB k22 (by simpa using hbg))
    have r22 := r21.kept k22 (by simp; omega)
    have hbl22 := k22.size
    have z1 := r22.cell (i := 1) rfl
    have z1z := r22.frozen 1
    try simp +contextual (maxSteps := 2000000) (disch := first | omega | (simp only [SZ]; first | done | omega) | (simp only [TS] at *; omega)) only [RZ, ovw, oneC, reduceAdd, reduceMul, reduceSub, reduceEqDiff, reduceLT, ↓reduceIte, Int.reduceToNat, reduceLeDiff,  z1, z1z]
    obtain ⟨h23, K23, r23⟩ := h22.set (v := .int .i64 v22) (i := 1) K22 r22 (by decide) (by omega) (by omega) hva hvt hvn (by simp)
    replace r23 : Row (w22.setCell ⟨ga, 1, none⟩ (.int .i64 v22)) ga 41 [Value.int .i64 v20, .int .i64 v22, .int .i64 0, .int .i64 0, .int .i64 0, .int .i64 0] := r23
    generalize w22.setCell ⟨ga, 1, none⟩ (.int .i64 v22) = w23 at *
    try simp +contextual (maxSteps := 2000000) (disch := first | omega | (simp only [SZ]; first | done | omega) | (simp only [TS] at *; omega)) only [RZ, ovw, oneC, reduceAdd, reduceMul, reduceSub, reduceEqDiff, reduceLT, ↓reduceIte, Int.reduceToNat, reduceLeDiff]
    refine (rgHit_any ⟨#[101, 120, 116, 114, 97]⟩ hT h23.rs).mono ?_
    rintro e w24 ⟨v24, rfl, s24, k24, q24⟩
    refine ⟨_, rfl, ?_⟩
    rw [show bs ⟨#[101, 120, 116, 114, 97]⟩ = asc "extra" by decide +kernel] at s24 q24
    generalize hx24 : bindT (sndX X22) (hitX (asc "extra")) = X24 at s24 q24
    have h24 := h23.leaf k24 s24
    have K24 := K23.trans (h23.keptB k24 (by simpa using hbg))
    have r24 := r23.kept k24 (by simp; omega)
    have hbl24 := k24.size
    have z2 := r24.cell (i := 2) rfl
    have z2z := r24.frozen 2
    try simp +contextual (maxSteps := 2000000) (disch := first | omega | (simp only [SZ]; first | done | omega) | (simp only [TS] at *; omega)) only [RZ, ovw, oneC, reduceAdd, reduceMul, reduceSub, reduceEqDiff, reduceLT, ↓reduceIte, Int.reduceToNat, reduceLeDiff,  z2, z2z]
    obtain ⟨h25, K25, r25⟩ := h24.set (v := .int .i64 v24) (i := 2) K24 r24 (by decide) (by omega) (by omega) hva hvt hvn (by simp)
    replace r25 : Row (w24.setCell ⟨ga, 2, none⟩ (.int .i64 v24)) ga 41 [Value.int .i64 v20, .int .i64 v22, .int .i64 v24, .int .i64 0, .int .i64 0, .int .i64 0] := r25
    generalize w24.setCell ⟨ga, 2, none⟩ (.int .i64 v24) = w25 at *
    have hM2 := mode_hits hT hW hlt hx20 q20 (fun L hL => by rw [hL] at s20; exact s20.at_) hx22 q22 (fun L hL => by rw [hL] at s22; exact s22.at_) hx24 q24
    rw [hM] at hM2
    refine ⟨_, v20, v22, v24, 0, r25, h25, K25, ?_, ?_⟩
    · rw [hM2]
      cases X24 <;> rfl
    · intro y hy
      rw [hM2] at hy
      obtain ⟨z, e1, e2⟩ := bind_ok hy
      injection e2 with e2
      rw [← e2]
  rintro σ w5 ⟨f0, f2, x5, m, b, e, md, r5, h5, K5, hMx, hMa⟩
  clear hM h0 r0 K0
  have hga5 := r5.lt
  refine W_cutS (fun σ w6 => σ 0 = .pointer (some ⟨g, 0, none⟩) ∧ σ 2 = .pointer (some ⟨ga, 0, none⟩) ∧ ∃ (a6 : Nat) (kd : Int), a6 < T.length ∧ Row w6 ga 41 [.int .i64 m, .int .i64 b, .int .i64 e, .int .i64 md, .int .i64 kd, .int .i64 0] ∧
    RgSt w6 base g A c T (.ok (T.drop a6)) k G seen Va Vt Vn Vs Q ∧ Below base w w6 ∧ M = .ok ((md, m, b, e), T.drop a6) ∧ (hdT (T.drop a6)).kind = 1 ∧ prizeK (bs (hdT (T.drop a6)).text) = some kd) ?_ ?_
  rotate_left
  · cases x5 with
    | error y =>
      have hMe : M = .error y := by
        cases M with
        | error z => injection hMx with hMx; rw [hMx]
        | ok z => cases hMx
      refine W_piece fun K hK hX => ?_
      simp +contextual (maxSteps := 2000000) (disch := first | omega | (simp only [SZ]; first | done | omega) | (simp only [TS] at *; omega)) only [RZ, ovw, oneC, reduceAdd, reduceMul, reduceSub, reduceEqDiff, reduceLT, ↓reduceIte, Int.reduceToNat, reduceLeDiff,  f0]
      refine (rgIs_any ⟨#[102, 105, 120, 101, 100]⟩ h5.rs).mono ?_
      rintro e w6 ⟨rfl, hB6⟩
      refine ⟨_, rfl, ?_⟩
      rw [show isX (.error y) (bs ⟨#[102, 105, 120, 101, 100]⟩) = false from rfl]
      have h6 := h5.below hB6
      have K6 := K5.trans (hB6.mono (by have := h5.lt; omega))
      try simp +contextual (maxSteps := 2000000) (disch := first | omega | (simp only [SZ]; first | done | omega) | (simp only [TS] at *; omega)) only [RZ, ovw, oneC, reduceAdd, reduceMul, reduceSub, reduceEqDiff, reduceLT, ↓reduceIte, Int.reduceToNat, reduceLeDiff]
      refine hK _ _ ?_
      clear hK hX K
      refine W_if_f rfl ?_
      refine W_piece fun K hK hX => ?_
      simp +contextual (maxSteps := 2000000) (disch := first | omega | (simp only [SZ]; first | done | omega) | (simp only [TS] at *; omega)) only [RZ, ovw, oneC, reduceAdd, reduceMul, reduceSub, reduceEqDiff, reduceLT, ↓reduceIte, Int.reduceToNat, reduceLeDiff,  f0]
      refine (rgIs_any ⟨#[115, 104, 97, 114, 101]⟩ h6.rs).mono ?_
      rintro e w7 ⟨rfl, hB7⟩
      refine ⟨_, rfl, ?_⟩
      rw [show isX (.error y) (bs ⟨#[115, 104, 97, 114, 101]⟩) = false from rfl]
      have h7 := h6.below hB7
      have K7 := K6.trans (hB7.mono (by have := h6.lt; omega))
      try simp +contextual (maxSteps := 2000000) (disch := first | omega | (simp only [SZ]; first | done | omega) | (simp only [TS] at *; omega)) only [RZ, ovw, oneC, reduceAdd, reduceMul, reduceSub, reduceEqDiff, reduceLT, ↓reduceIte, Int.reduceToNat, reduceLeDiff]
      refine hK _ _ ?_
      clear hK hX K
      refine W_if_f rfl ?_
      refine W_piece fun K hK hX => ?_
      simp +contextual (maxSteps := 2000000) (disch := first | omega | (simp only [SZ]; first | done | omega) | (simp only [TS] at *; omega)) only [RZ, ovw, oneC, reduceAdd, reduceMul, reduceSub, reduceEqDiff, reduceLT, ↓reduceIte, Int.reduceToNat, reduceLeDiff,  f0]
      refine (rgIs_any ⟨#[106, 97, 99, 107, 112, 111, 116]⟩ h7.rs).mono ?_
      rintro e w8 ⟨rfl, hB8⟩
      refine ⟨_, rfl, ?_⟩
      rw [show isX (.error y) (bs ⟨#[106, 97, 99, 107, 112, 111, 116]⟩) = false from rfl]
      have h8 := h7.below hB8
      have K8 := K7.trans (hB8.mono (by have := h7.lt; omega))
      try simp +contextual (maxSteps := 2000000) (disch := first | omega | (simp only [SZ]; first | done | omega) | (simp only [TS] at *; omega)) only [RZ, ovw, oneC, reduceAdd, reduceMul, reduceSub, reduceEqDiff, reduceLT, ↓reduceIte, Int.reduceToNat, reduceLeDiff]
      refine hK _ _ ?_
      clear hK hX K
      refine W_if_f rfl ?_
      simp +contextual (maxSteps := 2000000) (disch := first | omega | (simp only [SZ]; first | done | omega) | (simp only [TS] at *; omega)) only [RZ, ovw, oneC, reduceAdd, reduceMul, reduceSub, reduceEqDiff, reduceLT, ↓reduceIte, Int.reduceToNat, reduceLeDiff,  f0]
      refine (rgFail_any 1 (by decide) h8.rs).mono ?_
      rintro e w9 ⟨⟨v9, rfl⟩, s9, k9⟩
      refine ⟨_, rfl, ?_⟩
      try simp +contextual (maxSteps := 2000000) (disch := first | omega | (simp only [SZ]; first | done | omega) | (simp only [TS] at *; omega)) only [RZ, ovw, oneC, reduceAdd, reduceMul, reduceSub, reduceEqDiff, reduceLT, ↓reduceIte, Int.reduceToNat, reduceLeDiff]
      rw [hMe] at hR
      dsimp only [bindT] at hR
      subst hR
      exact ⟨⟨_, rfl⟩, K8.trans (h8.keptB k9 (by simpa using hbg)), _, s9⟩
    | ok L5 =>
      obtain ⟨a5, rfl, hlt5⟩ := h5.rs.at_
      have hMe : M = .ok ((md, m, b, e), T.drop a5) := by
        cases M with
        | error z => cases hMx
        | ok z =>
          have e1 := hMa z rfl
          injection hMx with hMx
          rw [← e1, ← hMx]
      have hlt0 := hlt
      clear hlt
      have hlt := hlt5
      refine W_piece fun K hK hX => ?_
      simp +contextual (maxSteps := 2000000) (disch := first | omega | (simp only [SZ]; first | done | omega) | (simp only [TS] at *; omega)) only [RZ, ovw, oneC, reduceAdd, reduceMul, reduceSub, reduceEqDiff, reduceLT, ↓reduceIte, Int.reduceToNat, reduceLeDiff,  f0]
      refine (rgIs_any ⟨#[102, 105, 120, 101, 100]⟩ h5.rs).mono ?_
      rintro e' w6 ⟨rfl, hB6⟩
      refine ⟨_, rfl, ?_⟩
      rw [show bs ⟨#[102, 105, 120, 101, 100]⟩ = asc "fixed" by decide +kernel, show isX (.ok (T.drop a5)) (asc "fixed") = isWM (asc "fixed") (T.drop a5) from rfl]
      have h6 := h5.below hB6
      have r6 := r5.below hB6
      have K6 := K5.trans (hB6.mono (by have := h5.lt; omega))
      have hbl6 := hB6.size
      try simp +contextual (maxSteps := 2000000) (disch := first | omega | (simp only [SZ]; first | done | omega) | (simp only [TS] at *; omega)) only [RZ, ovw, oneC, reduceAdd, reduceMul, reduceSub, reduceEqDiff, reduceLT, ↓reduceIte, Int.reduceToNat, reduceLeDiff]
      refine hK _ _ ?_
      clear hK hX K
      have hw := isWM_word hW hlt (ch := 102) (r := [105, 120, 101, 100]) (by decide)
      rw [show ([102, 105, 120, 101, 100] : List Nat) = asc "fixed" by decide +kernel] at hw
      by_cases hi_fixed : isWM (asc "fixed") (T.drop a5) = true
      · rw [hi_fixed] at hw
        obtain ⟨u1, u2⟩ := of_decide_eq_true hw.symm
        refine W_if_t (by simp +contextual (maxSteps := 2000000) (disch := first | omega | (simp only [SZ]; first | done | omega) | (simp only [TS] at *; omega)) only [RZ, ovw, oneC, reduceAdd, reduceMul, reduceSub, reduceEqDiff, reduceLT, ↓reduceIte, Int.reduceToNat, reduceLeDiff,  hi_fixed]) ?_
        have z4 := r6.cell (i := 4) rfl
        have z4z := r6.frozen 4
        simp +contextual (maxSteps := 2000000) (disch := first | omega | (simp only [SZ]; first | done | omega) | (simp only [TS] at *; omega)) only [RZ, ovw, oneC, reduceAdd, reduceMul, reduceSub, reduceEqDiff, reduceLT, ↓reduceIte, Int.reduceToNat, reduceLeDiff,  f0, f2, z4, z4z]
        obtain ⟨h9, K9, r9⟩ := h6.set (v := .int .i64 1) (i := 4) K6 r6 (by decide) (by omega) (by omega) hva hvt hvn (by simp)
        exact ⟨a5, 1, hlt5, r9, h9, K9, hMe, u1, by rw [u2]; decide +kernel⟩
      refine W_if_f (by simp +contextual (maxSteps := 2000000) (disch := first | omega | (simp only [SZ]; first | done | omega) | (simp only [TS] at *; omega)) only [RZ, ovw, oneC, reduceAdd, reduceMul, reduceSub, reduceEqDiff, reduceLT, ↓reduceIte, Int.reduceToNat, reduceLeDiff,  hi_fixed]) ?_
      rw [show isWM (asc "fixed") (T.drop a5) = false by simpa using hi_fixed] at hw
      have hn_fixed := of_decide_eq_false hw.symm
      clear hw
      refine W_piece fun K hK hX => ?_
      simp +contextual (maxSteps := 2000000) (disch := first | omega | (simp only [SZ]; first | done | omega) | (simp only [TS] at *; omega)) only [RZ, ovw, oneC, reduceAdd, reduceMul, reduceSub, reduceEqDiff, reduceLT, ↓reduceIte, Int.reduceToNat, reduceLeDiff,  f0]
      refine (rgIs_any ⟨#[115, 104, 97, 114, 101]⟩ h6.rs).mono ?_
      rintro e' w7 ⟨rfl, hB7⟩
      refine ⟨_, rfl, ?_⟩
      rw [show bs ⟨#[115, 104, 97, 114, 101]⟩ = asc "share" by decide +kernel, show isX (.ok (T.drop a5)) (asc "share") = isWM (asc "share") (T.drop a5) from rfl]
      have h7 := h6.below hB7
      have r7 := r6.below hB7
      have K7 := K6.trans (hB7.mono (by have := h6.lt; omega))
      have hbl7 := hB7.size
      try simp +contextual (maxSteps := 2000000) (disch := first | omega | (simp only [SZ]; first | done | omega) | (simp only [TS] at *; omega)) only [RZ, ovw, oneC, reduceAdd, reduceMul, reduceSub, reduceEqDiff, reduceLT, ↓reduceIte, Int.reduceToNat, reduceLeDiff]
      refine hK _ _ ?_
      clear hK hX K
      have hw := isWM_word hW hlt (ch := 115) (r := [104, 97, 114, 101]) (by decide)
      rw [show ([115, 104, 97, 114, 101] : List Nat) = asc "share" by decide +kernel] at hw
      by_cases hi_share : isWM (asc "share") (T.drop a5) = true
      · rw [hi_share] at hw
        obtain ⟨u1, u2⟩ := of_decide_eq_true hw.symm
        refine W_if_t (by simp +contextual (maxSteps := 2000000) (disch := first | omega | (simp only [SZ]; first | done | omega) | (simp only [TS] at *; omega)) only [RZ, ovw, oneC, reduceAdd, reduceMul, reduceSub, reduceEqDiff, reduceLT, ↓reduceIte, Int.reduceToNat, reduceLeDiff,  hi_share]) ?_
        have z4 := r7.cell (i := 4) rfl
        have z4z := r7.frozen 4
        simp +contextual (maxSteps := 2000000) (disch := first | omega | (simp only [SZ]; first | done | omega) | (simp only [TS] at *; omega)) only [RZ, ovw, oneC, reduceAdd, reduceMul, reduceSub, reduceEqDiff, reduceLT, ↓reduceIte, Int.reduceToNat, reduceLeDiff,  f0, f2, z4, z4z]
        obtain ⟨h9, K9, r9⟩ := h7.set (v := .int .i64 2) (i := 4) K7 r7 (by decide) (by omega) (by omega) hva hvt hvn (by simp)
        exact ⟨a5, 2, hlt5, r9, h9, K9, hMe, u1, by rw [u2]; decide +kernel⟩
      refine W_if_f (by simp +contextual (maxSteps := 2000000) (disch := first | omega | (simp only [SZ]; first | done | omega) | (simp only [TS] at *; omega)) only [RZ, ovw, oneC, reduceAdd, reduceMul, reduceSub, reduceEqDiff, reduceLT, ↓reduceIte, Int.reduceToNat, reduceLeDiff,  hi_share]) ?_
      rw [show isWM (asc "share") (T.drop a5) = false by simpa using hi_share] at hw
      have hn_share := of_decide_eq_false hw.symm
      clear hw
      refine W_piece fun K hK hX => ?_
      simp +contextual (maxSteps := 2000000) (disch := first | omega | (simp only [SZ]; first | done | omega) | (simp only [TS] at *; omega)) only [RZ, ovw, oneC, reduceAdd, reduceMul, reduceSub, reduceEqDiff, reduceLT, ↓reduceIte, Int.reduceToNat, reduceLeDiff,  f0]
      refine (rgIs_any ⟨#[106, 97, 99, 107, 112, 111, 116]⟩ h7.rs).mono ?_
      rintro e' w8 ⟨rfl, hB8⟩
      refine ⟨_, rfl, ?_⟩
      rw [show bs ⟨#[106, 97, 99, 107, 112, 111, 116]⟩ = asc "jackpot" by decide +kernel, show isX (.ok (T.drop a5)) (asc "jackpot") = isWM (asc "jackpot") (T.drop a5) from rfl]
      have h8 := h7.below hB8
      have r8 := r7.below hB8
      have K8 := K7.trans (hB8.mono (by have := h7.lt; omega))
      have hbl8 := hB8.size
      try simp +contextual (maxSteps := 2000000) (disch := first | omega | (simp only [SZ]; first | done | omega) | (simp only [TS] at *; omega)) only [RZ, ovw, oneC, reduceAdd, reduceMul, reduceSub, reduceEqDiff, reduceLT, ↓reduceIte, Int.reduceToNat, reduceLeDiff]
      refine hK _ _ ?_
      clear hK hX K
      have hw := isWM_word hW hlt (ch := 106) (r := [97, 99, 107, 112, 111, 116]) (by decide)
      rw [show ([106, 97, 99, 107, 112, 111, 116] : List Nat) = asc "jackpot" by decide +kernel] at hw
      by_cases hi_jackpot : isWM (asc "jackpot") (T.drop a5) = true
      · rw [hi_jackpot] at hw
        obtain ⟨u1, u2⟩ := of_decide_eq_true hw.symm
        refine W_if_t (by simp +contextual (maxSteps := 2000000) (disch := first | omega | (simp only [SZ]; first | done | omega) | (simp only [TS] at *; omega)) only [RZ, ovw, oneC, reduceAdd, reduceMul, reduceSub, reduceEqDiff, reduceLT, ↓reduceIte, Int.reduceToNat, reduceLeDiff,  hi_jackpot]) ?_
        have z4 := r8.cell (i := 4) rfl
        have z4z := r8.frozen 4
        simp +contextual (maxSteps := 2000000) (disch := first | omega | (simp only [SZ]; first | done | omega) | (simp only [TS] at *; omega)) only [RZ, ovw, oneC, reduceAdd, reduceMul, reduceSub, reduceEqDiff, reduceLT, ↓reduceIte, Int.reduceToNat, reduceLeDiff,  f0, f2, z4, z4z]
        obtain ⟨h9, K9, r9⟩ := h8.set (v := .int .i64 3) (i := 4) K8 r8 (by decide) (by omega) (by omega) hva hvt hvn (by simp)
        exact ⟨a5, 3, hlt5, r9, h9, K9, hMe, u1, by rw [u2]; decide +kernel⟩
      refine W_if_f (by simp +contextual (maxSteps := 2000000) (disch := first | omega | (simp only [SZ]; first | done | omega) | (simp only [TS] at *; omega)) only [RZ, ovw, oneC, reduceAdd, reduceMul, reduceSub, reduceEqDiff, reduceLT, ↓reduceIte, Int.reduceToNat, reduceLeDiff,  hi_jackpot]) ?_
      rw [show isWM (asc "jackpot") (T.drop a5) = false by simpa using hi_jackpot] at hw
      have hn_jackpot := of_decide_eq_false hw.symm
      clear hw
      simp +contextual (maxSteps := 2000000) (disch := first | omega | (simp only [SZ]; first | done | omega) | (simp only [TS] at *; omega)) only [RZ, ovw, oneC, reduceAdd, reduceMul, reduceSub, reduceEqDiff, reduceLT, ↓reduceIte, Int.reduceToNat, reduceLeDiff,  f0]
      refine (rgFail_any 1 (by decide) h8.rs).mono ?_
      rintro e w9 ⟨⟨v9, rfl⟩, s9, k9⟩
      refine ⟨_, rfl, ?_⟩
      try simp +contextual (maxSteps := 2000000) (disch := first | omega | (simp only [SZ]; first | done | omega) | (simp only [TS] at *; omega)) only [RZ, ovw, oneC, reduceAdd, reduceMul, reduceSub, reduceEqDiff, reduceLT, ↓reduceIte, Int.reduceToNat, reduceLeDiff]
      rw [hMe] at hR
      dsimp only [bindT] at hR
      have hRe : R = .error (1, T.drop a5) := by
        rw [← hR]
        by_cases hk1 : (hdT (T.drop a5)).kind = 1
        · rw [if_neg (fun h => h hk1), show prizeK (bs (hdT (T.drop a5)).text) = none from by
            unfold prizeK
            rw [if_neg (fun h => hn_fixed ⟨hk1, h⟩), if_neg (fun h => hn_share ⟨hk1, h⟩), if_neg (fun h => hn_jackpot ⟨hk1, h⟩)]]
        · rw [if_pos hk1]
      subst hRe
      exact ⟨⟨_, rfl⟩, K8.trans (h8.keptB k9 (by simpa using hbg)), _, s9⟩
  rintro σ w6 ⟨f0, f2, a6, kd, hlt6, r6, h6, K6, hMe, hk6, hp6⟩
  rw [hMe] at hR
  dsimp only [bindT] at hR
  rw [if_neg (fun h => h hk6), hp6] at hR
  dsimp only at hR
  obtain ⟨n1, n2⟩ := nx_at hT hlt6 (by omega)
  rw [n2] at hR
  have hga6 := r6.lt
  refine W_piece fun K hK hX => ?_
  obtain ⟨a9, er9, ln9, p9, hx9⟩ := h6.rs.cases
  rcases hx9 with ⟨rfl, hx9⟩ | ⟨_, _, hx9, _⟩
  rotate_left
  · cases hx9
  injection hx9 with hx9
  obtain rfl : a6 = a9 := drop_same hx9.symm hlt6 p9.lt
  have c1 := p9.c1
  have y1 := p9.row.frozen 1
  simp +contextual (maxSteps := 2000000) (disch := first | omega | (simp only [SZ]; first | done | omega) | (simp only [TS] at *; omega)) only [RZ, ovw, oneC, reduceAdd, reduceMul, reduceSub, reduceEqDiff, reduceLT, ↓reduceIte, Int.reduceToNat, reduceLeDiff,  f0, c1, y1]
  refine hK _ _ ?_
  clear hK hX K
  have p7 := p9.go n1
  have k7 := (Kept.refl [g] w6).setCell (p := ⟨g, 1, none⟩) (by simp) (.int .i64 ((a6 : Int) + 1))
  have h7 := h6.leaf k7 p7.rs
  have K7 := K6.trans (h6.keptB k7 (by simpa using hbg))
  have r7 := r6.kept k7 (by simp; omega)
  have hbl7 := k7.size
  generalize w6.setCell ⟨g, 1, none⟩ (.int .i64 ((a6 : Int) + 1)) = w7 at *
  refine W_piece fun K hK hX => ?_
  simp +contextual (maxSteps := 2000000) (disch := first | omega | (simp only [SZ]; first | done | omega) | (simp only [TS] at *; omega)) only [RZ, ovw, oneC, reduceAdd, reduceMul, reduceSub, reduceEqDiff, reduceLT, ↓reduceIte, Int.reduceToNat, reduceLeDiff,  f0]
  refine (rgNumber_any 999999999999999999 hT h7.rs).mono ?_
  rintro e' w8 ⟨v8, rfl, s8, k8, q8⟩
  refine ⟨_, rfl, ?_⟩
  rw [show bindT (.ok (T.drop (a6 + 1))) (numberT 999999999999999999) = anyT (T.drop (a6 + 1)) from numberT_any hT n1] at s8 q8
  have h8 := h7.leaf k8 s8
  have K8 := K7.trans (h7.keptB k8 (by simpa using hbg))
  have r8 := r7.kept k8 (by simp; omega)
  have hbl8 := k8.size
  have z5 := r8.cell (i := 5) rfl
  have z5z := r8.frozen 5
  try simp +contextual (maxSteps := 2000000) (disch := first | omega | (simp only [SZ]; first | done | omega) | (simp only [TS] at *; omega)) only [RZ, ovw, oneC, reduceAdd, reduceMul, reduceSub, reduceEqDiff, reduceLT, ↓reduceIte, Int.reduceToNat, reduceLeDiff,  f0, f2, z5, z5z]
  obtain ⟨h9, K9, r9⟩ := h8.set (v := .int .i64 v8) (i := 5) K8 r8 (by decide) (by omega) (by omega) hva hvt hvn (by simp)
  replace r9 : Row (w8.setCell ⟨ga, 5, none⟩ (.int .i64 v8)) ga 41 (encTi ⟨m, b, e, md, kd, v8⟩) := r9
  generalize w8.setCell ⟨ga, 5, none⟩ (.int .i64 v8) = w9 at *
  refine hK _ _ ?_
  clear hK hX K
  have hgl9 := h9.lt
  have hra := r9.lt
  obtain ⟨At, ct, rfl⟩ := owns_slice h9.tis
  have hI : sliceI Tryz.prog 24 = some (41, 6, 48) := by kernel_rfl
  obtain ⟨a5, er5, ln5, p5, hx5⟩ := h9.rs
  have p23 : w9.cell? ⟨g, 23, none⟩ = some (.slice At G.tiers.length ct) := p5.cR (i := 21) rfl
  have p23z : w9.frozen? ⟨g, 23, none⟩ = false := p5.row.frozen 23
  simp +contextual (maxSteps := 2000000) (disch := first | omega | (simp only [SZ]; first | done | omega) | (simp only [TS] at *; omega)) only [RZ, ovw, oneC, reduceAdd, reduceMul, reduceSub, reduceEqDiff, reduceLT, ↓reduceIte, Int.reduceToNat, reduceLeDiff,  f0, f2]
  refine Raw_ordX [1, 2, 3, 4, 5, 6, 7] (fun w' => w'.cell? ⟨g, 23, none⟩ = some (.slice At G.tiers.length ct) ∧ Row w' ga 41 (encTi ⟨m, b, e, md, kd, v8⟩)) 13 rfl MX ?_
  have hA := h9.leaf (w' := w9.drew) (Kept.refl [g] w9).drew (h9.rs.kept (X := []) (Kept.refl [] w9).drew (by simp) (by simp))
  have KA : Below base w w9.drew := below_drew K9
  have rA : Row w9.drew ga 41 _ := r9
  have d23 : w9.drew.cell? _ = _ := p23
  have d23z : w9.drew.frozen? ⟨g, 23, none⟩ = false := p23z
  have hglA : g < w9.drew.heap.size := hgl9
  have hraA : ga < w9.drew.heap.size := hra
  generalize w9.drew = wA at *
  obtain ⟨A', c', wB, he, hownB, hbB, hsB, hkB⟩ := push2 (P := Tryz.prog) (T2 := 24) (ty := 24) (news := encTi ⟨m, b, e, md, kd, v8⟩) hA.tis (by omega) hI rfl
    (fun u hu => by simp only [encTi, List.mem_cons, List.not_mem_nil, or_false] at hu; rcases hu with rfl | rfl | rfl | rfl | rfl | rfl <;> rfl) (by have := hA.few.2.1; omega) (by decide)
  rw [show (encTi ⟨m, b, e, md, kd, v8⟩).toArray = #[.int .i64 m, .int .i64 b, .int .i64 e, .int .i64 md, .int .i64 kd, .int .i64 v8] from rfl] at he
  refine OrdX_readsU (τ := ?tz) [0] 12 rfl (by kernel_rfl) (by kernel_rfl) (by kernel_rfl) (fun _ _ _ h => h) (fun w' => ?_) ?_; rotate_left
  · simp only [opsL_cons, opsL_nil, List.getElem?_toArray, List.getElem?_cons_zero, List.getElem?_cons_succ, optL_some]
    simp +contextual (maxSteps := 2000000) (disch := first | omega | (simp only [SZ]; first | done | omega) | (simp only [TS] at *; omega)) only [RZ, ovw, oneC, reduceAdd, reduceMul, reduceSub, reduceEqDiff, reduceLT, ↓reduceIte, Int.reduceToNat, reduceLeDiff,  f0]
    exact rfl
  refine OrdX_reads (τ := ?ta) [1, 2, 3, 4, 5, 6] 6 rfl (by kernel_rfl) (by kernel_rfl) (fun _ _ _ h => h) ⟨d23, rA⟩ (fun w8 h8 => ?_) ?_; rotate_left
  · obtain ⟨h8a, h8r⟩ := h8
    have x0 := h8r.cell (i := 0) rfl
    have x1 := h8r.cell (i := 1) rfl
    have x2 := h8r.cell (i := 2) rfl
    have x3 := h8r.cell (i := 3) rfl
    have x4 := h8r.cell (i := 4) rfl
    have x5 := h8r.cell (i := 5) rfl
    simp only [opsL_cons, opsL_nil, List.getElem?_toArray, List.getElem?_cons_zero, List.getElem?_cons_succ, optL_some]
    simp +contextual (maxSteps := 2000000) (disch := first | omega | (simp only [SZ]; first | done | omega) | (simp only [TS] at *; omega)) only [RZ, ovw, oneC, reduceAdd, reduceMul, reduceSub, reduceEqDiff, reduceLT, ↓reduceIte, Int.reduceToNat, reduceLeDiff,  f0, f2, h8a, x0, x1, x2, x3, x4, x5]
    exact rfl
  refine OrdX_one 7 (by kernel_rfl) rfl ?_
  simp +contextual (maxSteps := 2000000) (disch := first | omega | (simp only [SZ]; first | done | omega) | (simp only [TS] at *; omega)) only [RZ, ovw, oneC, reduceAdd, reduceMul, reduceSub, reduceEqDiff, reduceLT, ↓reduceIte, Int.reduceToNat, reduceLeDiff]
  refine ⟨⟨d23, rA.alloc _⟩, ?_⟩
  refine OrdX_chain [8, 9, 10, 11, 12] _ _ _ (by kernel_rfl) (by kernel_rfl) ?_
  simp only [opsL_cons, opsL_nil, List.getElem?_toArray, List.getElem?_cons_zero, List.getElem?_cons_succ, optL_some]
  obtain ⟨csg, hrg⟩ := hA.row
  have hbBg := hkB g hglA (own_ne hA.tis hrg (by decide))
  have d7 : wB.cell? ⟨g, 23, none⟩ = some (.slice At G.tiers.length ct) := (World.cell?_of_block (w := wA) hbBg).trans d23
  have y7 : wB.frozen? ⟨g, 23, none⟩ = false := (World.frozen?_of_block (w := wA) hbBg).trans d23z
  simp +contextual (maxSteps := 2000000) (disch := first | omega | (simp only [SZ]; first | done | omega) | (simp only [TS] at *; omega)) only [RZ, ovw, oneC, reduceAdd, reduceMul, reduceSub, reduceEqDiff, reduceLT, ↓reduceIte, Int.reduceToNat, reduceLeDiff,  f0, f2, he, d7, y7]
  obtain ⟨q1, q2, q3, q4, q5⟩ := hA.frame hA.tis (by decide) (by decide) hbB hkB (i := 21) (by decide) (.slice A' (G.tiers.length + 1) c')
  refine ⟨⟨_, rfl⟩, KA.trans q5, ?_⟩
  cases hn : numT (T.drop (a6 + 1)) with
  | none =>
    rw [hn] at hR
    dsimp only [thenT] at hR
    subst hR
    rw [show anyT (T.drop (a6 + 1)) = .error (1, T.drop (a6 + 1)) by unfold anyT; rw [hn]; rfl] at q1
    exact ⟨_, q1⟩
  | some v =>
    rw [hn] at hR
    dsimp only [thenT] at hR
    have hv : anyT (T.drop (a6 + 1)) = .ok v := by unfold anyT; rw [hn]; rfl
    obtain rfl := q8 _ hv
    rw [hv] at q1
    subst hR
    refine ⟨_, q1, hA.qs, q3 _ _ _ _ _ (by decide) (by decide) hA.nown, q2, q3 _ _ _ _ _ (by decide) (by decide) hA.own, ?_,
      ⟨by have := hA.few; show G.addons.length ≤ k + 1; omega, by rw [List.length_append]; have := hA.few; simp; omega, by have := hA.few; omega⟩, by omega, hA.days, hA.toks, hA.hg⟩
    have := q4 _ _ _ hownB
    rw [List.length_append, List.flatMap_append]
    simpa using this
end
end Go.Proofs.YtbdkggnajipdhaaGreatDoor
