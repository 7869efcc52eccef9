/- Texts laid one behind the other: RgG, LexE, LexF. Each says at its head what it proves. -/
import Derived.Test.YtbdkggnajipdhaaGreatDoorRtPsZ17
set_option linter.unusedSimpArgs false
/- The reference's reader of games: item. -/
namespace Go.Proofs.YtbdkggnajipdhaaGreatDoor
open Nat (reduceAdd reduceMul reduceSub reduceEqDiff reduceLT reduceLeDiff)
open Go.RowKit
set_option maxRecDepth 100000
section
variable {base g c a k : Nat} {A : Option Addr} {T : List Tk} {w : World} {G : Gm} {seen : List (List Nat)} {Va Vt Vn : Value} {Vs : List (List Value)} {Q : List ByteArray} {x : Except (Int × List Tk) (List Tk)}
theorem RgSt.up (h : RgSt w base g A c T x k G seen Va Vt Vn Vs Q) {k' : Nat} (hk : k ≤ k') (hb : k' ≤ 3000010) : RgSt w base g A c T x k' G seen Va Vt Vn Vs Q :=
  ⟨h.rs, h.qs, h.nown, h.ads, h.own, h.tis, ⟨Nat.le_trans h.few.1 hk, Nat.le_trans h.few.2.1 hk, Nat.le_trans h.few.2.2 hk⟩, hb, h.days, h.toks, h.hg⟩
theorem pairX_is (hT : TokOk T) (hW : TokW T) (hlt : a < T.length) : pairX (T.drop a) = pairT (T.drop a) := by
  unfold pairX pairT
  rw [numberT_any hT hlt]
  unfold anyT
  have hn := numT_next hT hlt
  cases h : numT (T.drop a) with
  | none => rfl
  | some y =>
    rw [h] at hn
    by_cases hk : (hdT (T.drop a)).kind = 2
    · rw [if_pos hk] at hn
      injection hn with hn
      obtain ⟨n1, n2⟩ := nx_at hT hlt (by omega)
      have hy2 : y.2 = T.drop (a + 1) := by rw [hn]
      dsimp only [thenT, bindT]
      rw [hy2]
      have hw := isWM_word hW n1 (ch := 111) (r := [102]) (by decide)
      rw [show ([111, 102] : List Nat) = asc "of" by decide +kernel] at hw
      rw [needX_is 1 hw]
      cases hi : isT 1 (asc "of") (T.drop (a + 1)) with
      | none => rfl
      | some L2 =>
        obtain ⟨u1, u2, u3⟩ := is_some hi
        obtain ⟨m1, m2⟩ := nx_at hT n1 (by omega)
        rw [m2] at u3
        dsimp only [thenT]
        rw [u3, numberT_any hT m1]
        unfold anyT
        cases numT (T.drop (a + 1 + 1)) <;> rfl
    · rw [if_neg hk] at hn
      cases hn
/-- What an item's reading gives. -/
def ItO (base g : Nat) (A : Option Addr) (c : Nat) (T : List Tk) (k : Nat) (D : Except (Int × List Tk) ((Gm × List (List Nat)) × List Tk)) (w w' : World) : Prop := Below base w w' ∧ match D with
  | .ok y => ∃ Va Vt Vn Vs Q, RgSt w' base g A c T (.ok y.2) k y.1.1 y.1.2 Va Vt Vn Vs Q
  | .error y => ∃ rest, Rs w' g A c T (.error y) rest
def nameL (u : List Nat) : List Nat := if u = asc "digits" then asc "choose" else u
def itemX (L : List Tk) (G : Gm) (seen : List (List Nat)) : Except (Int × List Tk) ((Gm × List (List Nat)) × List Tk) := bindT (itemG L G seen) fun y => thenT (isT 3 (asc ";") y.2) y.2 fun L2 => .ok (y.1, L2)
theorem item_unknown {L : List Tk} (h : ¬ ((hdT L).kind = 1 ∧ knownB (bs (hdT L).text) = true)) : itemG L G seen = .error (1, L) := by
  unfold itemG
  by_cases hk : (hdT L).kind = 1
  · have hn : knownB (bs (hdT L).text) = false := by
      cases hb : knownB (bs (hdT L).text) with
      | false => rfl
      | true => exact absurd ⟨hk, hb⟩ h
    unfold knownB at hn
    simp only [Bool.or_eq_false_iff, decide_eq_false_iff_not] at hn
    obtain ⟨⟨⟨⟨⟨⟨n1, n2⟩, n3⟩, n4⟩, n5⟩, n6⟩, n7⟩ := hn
    rw [if_neg (fun h => h hk), if_neg (fun h => h.elim n1 n2), if_neg n3, if_neg n4, if_neg n5, if_neg n6]
    cases hs : simpleI (bs (hdT L).text) with
    | none => rfl
    | some i => rw [hs] at n7; cases n7
  · rw [if_pos hk]
theorem item_twice {L : List Tk} (hk : (hdT L).kind = 1) (hkn : knownB (bs (hdT L).text) = true) (ha : nameL (bs (hdT L).text) ≠ asc "addon") (ht : nameL (bs (hdT L).text) ≠ asc "tier") (hs : nameL (bs (hdT L).text) ∈ seen) : itemG L G seen = .error (6, L) := by
  unfold itemG
  rw [if_neg (fun h => h hk)]
  unfold nameL at ha ht hs
  by_cases h1 : bs (hdT L).text = asc "choose" ∨ bs (hdT L).text = asc "digits"
  · have hm : asc "choose" ∈ seen := by
      rcases h1 with h | h
      · rw [h, if_neg (by decide +kernel)] at hs; exact hs
      · rw [if_pos h] at hs; exact hs
    rw [if_pos h1, if_pos hm]
  · rw [if_neg (fun h => h1 (.inr h))] at ha ht hs
    rw [if_neg h1]
    by_cases h2 : bs (hdT L).text = asc "bonus"
    · rw [h2] at hs; rw [if_pos h2, if_pos hs]
    rw [if_neg h2]
    by_cases h3 : bs (hdT L).text = asc "days"
    · rw [h3] at hs; rw [if_pos h3, if_pos hs]
    rw [if_neg h3, if_neg ha, if_neg ht]
    cases hsi : simpleI (bs (hdT L).text) with
    | none =>
      unfold knownB at hkn
      rw [hsi, decide_eq_false (fun h => h1 (.inl h)), decide_eq_false (fun h => h1 (.inr h)), decide_eq_false h2, decide_eq_false h3, decide_eq_false ha, decide_eq_false ht] at hkn
      cases hkn
    | some i =>
      dsimp only
      rw [if_pos hs]
set_option maxHeartbeats 4000000 in
theorem rgItem_any (h : RgSt w base g A c T (.ok (T.drop a)) k G seen Va Vt Vn Vs Q) (hlt : a < T.length) (hk : k < 3000002) (hT : TokOk T) (hW : TokW T) : Calls Tryz.prog 27 #[.pointer (some ⟨g, 0, none⟩)] w fun e w' => (∃ v, e = .returned v) ∧ ItO base g A c T (k + 2) (itemX (T.drop a) G seen) w w' := by
  refine calls_W (l := [_]) Tryz.func27 rfl _ Tryz.ntmps27 (by simp) ?_
  have hbig := hT.big
  have hbg := h.hg
  have hgl := h.lt
  obtain ⟨a9, er9, ln9, p0, hx9⟩ := h.rs.cases
  rcases hx9 with ⟨rfl, hx9⟩ | ⟨_, _, hx9, _⟩
  rotate_left
  · cases hx9
  injection hx9 with hx9
  obtain rfl : a = a9 := drop_same hx9.symm hlt p0.lt
  clear hx9
  generalize hR : itemX (T.drop a) G seen = R
  unfold itemX at hR
  refine W_pieceP (fun _ _ _ h => h) fun K hK hX hP => ?_
  simp +contextual (maxSteps := 2000000) (disch := first | omega | (simp only [SZ]; first | done | omega) | (simp only [TS] at *; omega)) only [RZ, ovw, oneC, reduceAdd, reduceMul, reduceSub, reduceEqDiff, reduceLT, ↓reduceIte, Int.reduceToNat, reduceLeDiff]
  obtain ⟨b, o, rfl, hb, hbgn, l0, l1, l2, l3⟩ := p0.tok
  have c0 := p0.c0
  have c1 := p0.c1
  have hJ0 : Below w.heap.size w w.drew := below_drew (Below.refl _ _)
  refine Raw_rcS (τ := ?ta) (fun w' => Below w.heap.size w w') [0, 1, 2, 3, 4, 5, 6, 7, 8, 9] [10, 11] MX rfl (by kernel_rfl) (by kernel_rfl) (by kernel_rfl) hP hJ0 (fun w7 h7 => ?_) ?_; rotate_left
  · have k := (bcell h7).1
    have l0 := (k _ _ hb).trans l0
    have l1 := (k _ _ hb).trans l1
    have l2 := (k _ _ hb).trans l2
    have l3 := (k _ _ hb).trans l3
    have c0 := (k _ _ hgl).trans c0
    have c1 := (k _ _ hgl).trans c1
    simp only [opsL_cons, opsL_nil, List.getElem?_toArray, List.getElem?_cons_zero, List.getElem?_cons_succ, optL_some]
    simp +contextual (maxSteps := 2000000) (disch := first | omega | (simp only [SZ]; first | done | omega) | (simp only [TS] at *; omega)) only [RZ, ovw, oneC, reduceAdd, reduceMul, reduceSub, reduceEqDiff, reduceLT, ↓reduceIte, Int.reduceToNat, reduceLeDiff,  c0, c1, l0, l1, l2, l3]
    exact rfl
  simp only [opsL_cons, opsL_nil, List.getElem?_toArray, List.getElem?_cons_zero, List.getElem?_cons_succ, optL_some]
  simp +contextual (maxSteps := 2000000) (disch := first | omega | (simp only [SZ]; first | done | omega) | (simp only [TS] at *; omega)) only [RZ, ovw, oneC, reduceAdd, reduceMul, reduceSub, reduceEqDiff, reduceLT, ↓reduceIte, Int.reduceToNat, reduceLeDiff,  EC_op, EC_nil]
  have hB1 := below_alloc w (.cells #[.int .i64 (hdT (T.drop a)).kind, .int .i64 (hdT (T.drop a)).line, .int .i64 (hdT (T.drop a)).col, .string (hdT (T.drop a)).text] 62)
  have rb := Row.new w 62 [.int .i64 (hdT (T.drop a)).kind, .int .i64 (hdT (T.drop a)).line, .int .i64 (hdT (T.drop a)).col, .string (hdT (T.drop a)).text]
  refine ⟨(below_alloc w _).trans ⟨rfl, rfl, rfl, Nat.le_refl _, fun _ _ => rfl⟩, hB1.trans ⟨rfl, rfl, rfl, Nat.le_refl _, fun _ _ => rfl⟩, ?_⟩
  replace rb : Row (w.alloc (.cells #[.int .i64 (hdT (T.drop a)).kind, .int .i64 (hdT (T.drop a)).line, .int .i64 (hdT (T.drop a)).col, .string (hdT (T.drop a)).text] 62)).drew _ _ _ := rb
  replace hB1 : Below w.heap.size w (w.alloc (.cells #[.int .i64 (hdT (T.drop a)).kind, .int .i64 (hdT (T.drop a)).line, .int .i64 (hdT (T.drop a)).col, .string (hdT (T.drop a)).text] 62)).drew := below_drew hB1
  refine hK _ _ ?_
  clear hK hX hP K
  generalize (w.alloc (.cells #[.int .i64 (hdT (T.drop a)).kind, .int .i64 (hdT (T.drop a)).line, .int .i64 (hdT (T.drop a)).col, .string (hdT (T.drop a)).text] 62)).drew = w1 at *
  have h1 := h.below hB1
  have K1 : Below base w w1 := hB1.mono (by omega)
  have hgb1 : w.heap.size < w1.heap.size := rb.lt
  generalize hgb : w.heap.size = gb at *
  clear c0 c1 l0 l1 l2 l3 hb hJ0 hB1
  generalize hs : (hdT (T.drop a)).text = s at *
  generalize hkd : (hdT (T.drop a)).kind = kd at *
  have v0 : w1.cell? _ = _ := rb.cell (i := 0) rfl
  have v3 : w1.cell? _ = _ := rb.cell (i := 3) rfl
  have vz3 := rb
  -- is it a known word?
  by_cases hkk : kd = 1 ∧ knownB (bs s) = true
  rotate_left
  · have hRe : R = .error (1, T.drop a) := by rw [← hR, item_unknown (by rw [hs, hkd]; exact hkk)]; rfl
    refine W_piece fun K hK hX => ?_
    refine W_cutS (fun σ w2 => σ 22 = .bool true ∧ σ 0 = .pointer (some ⟨g, 0, none⟩) ∧ RgSt w2 base g (some ⟨b, o, none⟩) c T (.ok (T.drop a)) k G seen Va Vt Vn Vs Q ∧ Below base w w2) ?_ ?_
    rotate_left
    · by_cases hk1 : kd = 1
      · have hkn : knownB (bs s) = false := by
          cases hb : knownB (bs s) with
          | false => rfl
          | true => exact absurd ⟨hk1, hb⟩ hkk
        have e1 : (kd = 1) = True := eq_true hk1
        simp +contextual (maxSteps := 2000000) (disch := first | omega | (simp only [SZ]; first | done | omega) | (simp only [TS] at *; omega)) only [RZ, ovw, oneC, reduceAdd, reduceMul, reduceSub, reduceEqDiff, reduceLT, ↓reduceIte, Int.reduceToNat, reduceLeDiff,  v0, v3, e1]
        refine (rgKnown_any s w1).mono ?_
        rintro e w2 ⟨rfl, hB2⟩
        refine ⟨_, rfl, ?_⟩
        rw [hkn]
        try simp +contextual (maxSteps := 2000000) (disch := first | omega | (simp only [SZ]; first | done | omega) | (simp only [TS] at *; omega)) only [RZ, ovw, oneC, reduceAdd, reduceMul, reduceSub, reduceEqDiff, reduceLT, ↓reduceIte, Int.reduceToNat, reduceLeDiff]
        exact ⟨h1.below hB2, K1.trans (hB2.mono (by omega))⟩
      · have e1 : (kd = 1) = False := eq_false hk1
        simp +contextual (maxSteps := 2000000) (disch := first | omega | (simp only [SZ]; first | done | omega) | (simp only [TS] at *; omega)) only [RZ, ovw, oneC, reduceAdd, reduceMul, reduceSub, reduceEqDiff, reduceLT, ↓reduceIte, Int.reduceToNat, reduceLeDiff,  v0, v3, e1]
        exact ⟨h1, K1⟩
    rintro σ w2 ⟨f22, f0, h2, K2⟩
    refine W_if_t (by simp +contextual (maxSteps := 2000000) (disch := first | omega | (simp only [SZ]; first | done | omega) | (simp only [TS] at *; omega)) only [RZ, ovw, oneC, reduceAdd, reduceMul, reduceSub, reduceEqDiff, reduceLT, ↓reduceIte, Int.reduceToNat, reduceLeDiff,  f22]) ?_
    simp +contextual (maxSteps := 2000000) (disch := first | omega | (simp only [SZ]; first | done | omega) | (simp only [TS] at *; omega)) only [RZ, ovw, oneC, reduceAdd, reduceMul, reduceSub, reduceEqDiff, reduceLT, ↓reduceIte, Int.reduceToNat, reduceLeDiff,  f0]
    refine (rgFail_any 1 (by decide) h2.rs).mono ?_
    rintro e w3 ⟨⟨v, rfl⟩, s3, k3⟩
    refine ⟨_, rfl, ?_⟩
    try simp +contextual (maxSteps := 2000000) (disch := first | omega | (simp only [SZ]; first | done | omega) | (simp only [TS] at *; omega)) only [RZ, ovw, oneC, reduceAdd, reduceMul, reduceSub, reduceEqDiff, reduceLT, ↓reduceIte, Int.reduceToNat, reduceLeDiff]
    refine hX _ _ _ (fun h => by cases h) ?_
    simp +contextual (maxSteps := 2000000) (disch := first | omega | (simp only [SZ]; first | done | omega) | (simp only [TS] at *; omega)) only [RZ, ovw, oneC, reduceAdd, reduceMul, reduceSub, reduceEqDiff, reduceLT, ↓reduceIte, Int.reduceToNat, reduceLeDiff]
    subst hRe
    exact ⟨⟨_, rfl⟩, K2.trans (h2.keptB k3 (by simpa using hbg)), _, s3⟩
  obtain ⟨hk1, hkn⟩ := hkk
  subst hk1
  have hcd : bs ⟨#[100, 105, 103, 105, 116, 115]⟩ = asc "digits" := by decide +kernel
  have hcc : bs ⟨#[99, 104, 111, 111, 115, 101]⟩ = asc "choose" := by decide +kernel
  refine W_piece fun K hK hX => ?_
  refine W_piece fun K2 hK2 hX2 => ?_
  simp +contextual (maxSteps := 2000000) (disch := first | omega | (simp only [SZ]; first | done | omega) | (simp only [TS] at *; omega)) only [RZ, ovw, oneC, reduceAdd, reduceMul, reduceSub, reduceEqDiff, reduceLT, ↓reduceIte, Int.reduceToNat, reduceLeDiff,  v0, v3]
  refine (rgKnown_any s w1).mono ?_
  rintro e w2 ⟨rfl, hB2⟩
  refine ⟨_, rfl, ?_⟩
  rw [hkn]
  try simp +contextual (maxSteps := 2000000) (disch := first | omega | (simp only [SZ]; first | done | omega) | (simp only [TS] at *; omega)) only [RZ, ovw, oneC, reduceAdd, reduceMul, reduceSub, reduceEqDiff, reduceLT, ↓reduceIte, Int.reduceToNat, reduceLeDiff]
  refine hK2 _ _ ?_
  clear hK2 hX2 K2
  refine W_if_f rfl ?_
  rw [W_skip]
  refine hK _ _ ?_
  clear hK hX K
  have h2 := h1.below hB2
  have K2 := K1.trans (hB2.mono (by omega))
  have rb2 := rb.below hB2
  have hgb2 : gb < w2.heap.size := rb2.lt
  have v3 : w2.cell? ⟨gb, 3, none⟩ = some (.string s) := rb2.cell (i := 3) rfl
  -- the name
  refine W_piece fun K hK hX => ?_
  simp +contextual (maxSteps := 2000000) (disch := first | omega | (simp only [SZ]; first | done | omega) | (simp only [TS] at *; omega)) only [RZ, ovw, oneC, reduceAdd, reduceMul, reduceSub, reduceEqDiff, reduceLT, ↓reduceIte, Int.reduceToNat, reduceLeDiff,  v3]
  refine hK _ _ ?_
  clear hK hX K
  refine W_cutS (fun σ w3 => w3 = w2 ∧ σ 0 = .pointer (some ⟨g, 0, none⟩) ∧ σ 2 = .pointer (some ⟨gb, 0, none⟩) ∧ ∃ nm : ByteArray, σ 3 = .string nm ∧ bs nm = nameL (bs s)) ?_ ?_
  rotate_left
  · by_cases hd : s = ⟨#[100, 105, 103, 105, 116, 115]⟩
    · have e1 : (s = (⟨#[100, 105, 103, 105, 116, 115]⟩ : ByteArray)) = True := eq_true hd
      simp +contextual (maxSteps := 2000000) (disch := first | omega | (simp only [SZ]; first | done | omega) | (simp only [TS] at *; omega)) only [RZ, ovw, oneC, reduceAdd, reduceMul, reduceSub, reduceEqDiff, reduceLT, ↓reduceIte, Int.reduceToNat, reduceLeDiff,  e1]
      refine W_if_t rfl ?_
      simp +contextual (maxSteps := 2000000) (disch := first | omega | (simp only [SZ]; first | done | omega) | (simp only [TS] at *; omega)) only [RZ, ovw, oneC, reduceAdd, reduceMul, reduceSub, reduceEqDiff, reduceLT, ↓reduceIte, Int.reduceToNat, reduceLeDiff]
      exact ⟨_, rfl, by rw [hd, hcd, hcc]; exact (if_pos rfl).symm⟩
    · have e1 : (s = (⟨#[100, 105, 103, 105, 116, 115]⟩ : ByteArray)) = False := eq_false hd
      simp +contextual (maxSteps := 2000000) (disch := first | omega | (simp only [SZ]; first | done | omega) | (simp only [TS] at *; omega)) only [RZ, ovw, oneC, reduceAdd, reduceMul, reduceSub, reduceEqDiff, reduceLT, ↓reduceIte, Int.reduceToNat, reduceLeDiff,  e1]
      refine W_if_f rfl ?_
      simp +contextual (maxSteps := 2000000) (disch := first | omega | (simp only [SZ]; first | done | omega) | (simp only [TS] at *; omega)) only [RZ, ovw, oneC, reduceAdd, reduceMul, reduceSub, reduceEqDiff, reduceLT, ↓reduceIte, Int.reduceToNat, reduceLeDiff]
      exact ⟨_, rfl, (if_neg fun h => hd (bs_inj (h.trans hcd.symm))).symm⟩
  rintro σ w3 ⟨rfl, f0, f2, nm, f3, hnm⟩
  -- an item that stands once
  refine W_cutS (fun σ w4 => σ 0 = .pointer (some ⟨g, 0, none⟩) ∧ σ 2 = .pointer (some ⟨gb, 0, none⟩) ∧ Below base w w4 ∧ Row w4 gb 62 [.int .i64 1, .int .i64 (hdT (T.drop a)).line, .int .i64 (hdT (T.drop a)).col, .string s] ∧ ∃ (seen' : List (List Nat)) (Vn' : Value) (Q' : List ByteArray),
    RgSt w4 base g (some ⟨b, o, none⟩) c T (.ok (T.drop a)) (k + 1) G seen' Va Vt Vn' Vs Q' ∧
    (((nameL (bs s) = asc "addon" ∨ nameL (bs s) = asc "tier") ∧ seen' = seen) ∨ (nameL (bs s) ≠ asc "addon" ∧ nameL (bs s) ≠ asc "tier" ∧ nameL (bs s) ∉ seen ∧ seen' = nameL (bs s) :: seen))) ?_ ?_
  rotate_left
  · have hca : bs ⟨#[97, 100, 100, 111, 110]⟩ = asc "addon" := by decide +kernel
    have hct : bs ⟨#[116, 105, 101, 114]⟩ = asc "tier" := by decide +kernel
    by_cases ha : nm = ⟨#[97, 100, 100, 111, 110]⟩
    · have e1 : (nm = (⟨#[97, 100, 100, 111, 110]⟩ : ByteArray)) = True := eq_true ha
      refine W_piece fun K hK hX => ?_
      simp +contextual (maxSteps := 2000000) (disch := first | omega | (simp only [SZ]; first | done | omega) | (simp only [TS] at *; omega)) only [RZ, ovw, oneC, reduceAdd, reduceMul, reduceSub, reduceEqDiff, reduceLT, ↓reduceIte, Int.reduceToNat, reduceLeDiff,  f0, f3, e1]
      refine hK _ _ ?_
      clear hK hX K
      refine W_if_f rfl ?_
      simp +contextual (maxSteps := 2000000) (disch := first | omega | (simp only [SZ]; first | done | omega) | (simp only [TS] at *; omega)) only [RZ, ovw, oneC, reduceAdd, reduceMul, reduceSub, reduceEqDiff, reduceLT, ↓reduceIte, Int.reduceToNat, reduceLeDiff,  f0, f2]
      exact ⟨K2, rb2, seen, Vn, Q, h2.up (by omega) (by omega), .inl ⟨.inl (by rw [← hnm, ha, hca]), rfl⟩⟩
    have e1 : (nm = (⟨#[97, 100, 100, 111, 110]⟩ : ByteArray)) = False := eq_false ha
    by_cases ht : nm = ⟨#[116, 105, 101, 114]⟩
    · have e2 : (nm = (⟨#[116, 105, 101, 114]⟩ : ByteArray)) = True := eq_true ht
      refine W_piece fun K hK hX => ?_
      simp +contextual (maxSteps := 2000000) (disch := first | omega | (simp only [SZ]; first | done | omega) | (simp only [TS] at *; omega)) only [RZ, ovw, oneC, reduceAdd, reduceMul, reduceSub, reduceEqDiff, reduceLT, ↓reduceIte, Int.reduceToNat, reduceLeDiff,  f0, f3, e1, e2]
      refine hK _ _ ?_
      clear hK hX K
      refine W_if_f rfl ?_
      simp +contextual (maxSteps := 2000000) (disch := first | omega | (simp only [SZ]; first | done | omega) | (simp only [TS] at *; omega)) only [RZ, ovw, oneC, reduceAdd, reduceMul, reduceSub, reduceEqDiff, reduceLT, ↓reduceIte, Int.reduceToNat, reduceLeDiff,  f0, f2]
      exact ⟨K2, rb2, seen, Vn, Q, h2.up (by omega) (by omega), .inl ⟨.inr (by rw [← hnm, ht, hct]), rfl⟩⟩
    have e2 : (nm = (⟨#[116, 105, 101, 114]⟩ : ByteArray)) = False := eq_false ht
    have hna : nameL (bs s) ≠ asc "addon" := fun h => ha (bs_inj (by rw [hnm, h, hca]))
    have hnt : nameL (bs s) ≠ asc "tier" := fun h => ht (bs_inj (by rw [hnm, h, hct]))
    refine W_piece fun K hK hX => ?_
    simp +contextual (maxSteps := 2000000) (disch := first | omega | (simp only [SZ]; first | done | omega) | (simp only [TS] at *; omega)) only [RZ, ovw, oneC, reduceAdd, reduceMul, reduceSub, reduceEqDiff, reduceLT, ↓reduceIte, Int.reduceToNat, reduceLeDiff,  f0, f3, e1, e2]
    refine (rgOnce_any nm h2 (by omega)).mono ?_
    rintro e w5 ⟨rfl, K5, hkeep, Vn', Q', h5⟩
    refine ⟨_, rfl, ?_⟩
    rw [hnm] at h5 ⊢
    try simp +contextual (maxSteps := 2000000) (disch := first | omega | (simp only [SZ]; first | done | omega) | (simp only [TS] at *; omega)) only [RZ, ovw, oneC, reduceAdd, reduceMul, reduceSub, reduceEqDiff, reduceLT, ↓reduceIte, Int.reduceToNat, reduceLeDiff]
    refine hK _ _ ?_
    clear hK hX K
    by_cases hse : nameL (bs s) ∈ seen
    · rw [decide_eq_false (fun hn => hn hse)]
      refine W_if_t rfl ?_
      simp +contextual (maxSteps := 2000000) (disch := first | omega | (simp only [SZ]; first | done | omega) | (simp only [TS] at *; omega)) only [RZ, ovw, oneC, reduceAdd, reduceMul, reduceSub, reduceEqDiff, reduceLT, ↓reduceIte, Int.reduceToNat, reduceLeDiff,  f0]
      refine (rgFail_any 6 (by decide) h5.rs).mono ?_
      rintro e w6 ⟨⟨v, rfl⟩, s6, k6⟩
      refine ⟨_, rfl, ?_⟩
      try simp +contextual (maxSteps := 2000000) (disch := first | omega | (simp only [SZ]; first | done | omega) | (simp only [TS] at *; omega)) only [RZ, ovw, oneC, reduceAdd, reduceMul, reduceSub, reduceEqDiff, reduceLT, ↓reduceIte, Int.reduceToNat, reduceLeDiff]
      have hRe : R = .error (6, T.drop a) := by rw [← hR, item_twice hkd (by rw [hs]; exact hkn) (by rw [hs]; exact hna) (by rw [hs]; exact hnt) (by rw [hs]; exact hse)]; rfl
      subst hRe
      exact ⟨⟨_, rfl⟩, (K2.trans K5).trans (h5.keptB k6 (by simpa using hbg)), _, s6⟩
    · rw [decide_eq_true hse]
      rw [if_neg hse] at h5
      refine W_if_f rfl ?_
      simp +contextual (maxSteps := 2000000) (disch := first | omega | (simp only [SZ]; first | done | omega) | (simp only [TS] at *; omega)) only [RZ, ovw, oneC, reduceAdd, reduceMul, reduceSub, reduceEqDiff, reduceLT, ↓reduceIte, Int.reduceToNat, reduceLeDiff,  f0, f2]
      exact ⟨K2.trans K5, hkeep _ _ _ rb2 (by decide) (by omega), _, Vn', Q', h5, .inr ⟨hna, hnt, hse, rfl⟩⟩
  clear f0 f2 f3 hnm nm σ
  rintro σ w4 ⟨f0, f2, K4, rb4, seen', Vn', Q', h4, hsn⟩
  -- one token on
  obtain ⟨n1, n2⟩ := nx_at hT hlt (by omega)
  refine W_piece fun K hK hX => ?_
  obtain ⟨a9, er9, ln9, p9, hx9⟩ := h4.rs.cases
  rcases hx9 with ⟨rfl, hx9⟩ | ⟨_, _, hx9, _⟩
  rotate_left
  · cases hx9
  injection hx9 with hx9
  obtain rfl : a = a9 := drop_same hx9.symm hlt p9.lt
  clear hx9
  have c1 := p9.c1
  have y1 := p9.row.frozen 1
  simp +contextual (maxSteps := 2000000) (disch := first | omega | (simp only [SZ]; first | done | omega) | (simp only [TS] at *; omega)) only [RZ, ovw, oneC, reduceAdd, reduceMul, reduceSub, reduceEqDiff, reduceLT, ↓reduceIte, Int.reduceToNat, reduceLeDiff,  f0, c1, y1]
  refine hK _ _ ?_
  clear hK hX K
  have p5 := p9.go n1
  have k5 := (Kept.refl [g] w4).setCell (p := ⟨g, 1, none⟩) (by simp) (.int .i64 ((a : Int) + 1))
  have h5 := h4.leaf k5 p5.rs
  have K5 := K4.trans (h4.keptB k5 (by simpa using hbg))
  have rb5 := rb4.kept k5 (by simp; omega)
  generalize w4.setCell ⟨g, 1, none⟩ (.int .i64 ((a : Int) + 1)) = w5 at *
  have v3 : w5.cell? ⟨gb, 3, none⟩ = some (.string s) := rb5.cell (i := 3) rfl
  have hgb5 : gb < w5.heap.size := rb5.lt
  generalize hR1 : itemG (T.drop a) G seen = R1 at *
  -- the rest of the item
  refine W_cutS (fun σ w6 => σ 0 = .pointer (some ⟨g, 0, none⟩) ∧ ItO base g (some ⟨b, o, none⟩) c T (k + 2) R1 w w6) ?_ ?_
  rotate_left
  · unfold itemG at hR1
    rw [if_neg (fun h => h hkd), hs, n2] at hR1
    refine W_piece fun K hK hX => ?_
    simp +contextual (maxSteps := 2000000) (disch := first | omega | (simp only [SZ]; first | done | omega) | (simp only [TS] at *; omega)) only [RZ, ovw, oneC, reduceAdd, reduceMul, reduceSub, reduceEqDiff, reduceLT, ↓reduceIte, Int.reduceToNat, reduceLeDiff,  f2, v3]
    refine hK _ _ ?_
    clear hK hX K
    rw [W_block]
    by_cases hx : s = ⟨#[99, 104, 111, 111, 115, 101]⟩
    · have e1 : (s = (⟨#[99, 104, 111, 111, 115, 101]⟩ : ByteArray)) = True := eq_true hx
      have hw : bs s = asc "choose" := by rw [hx]; decide +kernel
      have hnl : nameL (bs s) = asc "choose" := by rw [hw]; decide +kernel
      rw [hnl] at hsn
      obtain ⟨hse, rfl⟩ : asc "choose" ∉ seen ∧ seen' = asc "choose" :: seen := by
        rcases hsn with ⟨h | h, _⟩ | ⟨_, _, h1, h2⟩
        · exact absurd h (by decide +kernel)
        · exact absurd h (by decide +kernel)
        · exact ⟨h1, h2⟩
      rw [if_pos (.inl hw), if_neg hse, ← pairX_is hT hW n1] at hR1
      refine W_piece fun K hK hX => ?_
      simp +contextual (maxSteps := 2000000) (disch := first | omega | (simp only [SZ]; first | done | omega) | (simp only [TS] at *; omega)) only [RZ, ovw, oneC, reduceAdd, reduceMul, reduceSub, reduceEqDiff, reduceLT, ↓reduceIte, Int.reduceToNat, reduceLeDiff,  e1]
      refine hK _ _ ?_
      clear hK hX K
      refine W_if_t rfl ?_
      rw [if_neg (show ¬ bs s = asc "digits" by rw [hw]; decide +kernel)] at hR1
      refine W_piece fun K hK hX => ?_
      have z3 := h5.cellN (i := 0) (by decide)
      have z3z : w5.frozen? ⟨g, 3, none⟩ = false := p5.row.frozen 3
      simp +contextual (maxSteps := 2000000) (disch := first | omega | (simp only [SZ]; first | done | omega) | (simp only [TS] at *; omega)) only [RZ, ovw, oneC, reduceAdd, reduceMul, reduceSub, reduceEqDiff, reduceLT, ↓reduceIte, Int.reduceToNat, reduceLeDiff,  f0, z3, z3z]
      refine hK _ _ ?_
      clear hK hX K
      have h6 := h5.setN (i := 0) (by decide) 1 (fun _ => by decide)
      change RgSt (w5.setCell ⟨g, 3, none⟩ (.int .i64 1)) _ _ _ _ _ _ _ _ _ _ _ _ _ _ at h6
      have K6 : Below base w _ := K5.setCell (p := ⟨g, 3, none⟩) hbg (.int .i64 1)
      generalize w5.setCell ⟨g, 3, none⟩ (.int .i64 1) = w6 at *
      simp +contextual (maxSteps := 2000000) (disch := first | omega | (simp only [SZ]; first | done | omega) | (simp only [TS] at *; omega)) only [RZ, ovw, oneC, reduceAdd, reduceMul, reduceSub, reduceEqDiff, reduceLT, ↓reduceIte, Int.reduceToNat, reduceLeDiff,  f0]
      refine (rgPair_any hT h6.rs).mono ?_
      rintro e w7 ⟨v, rfl, s7, k7, q7⟩
      refine ⟨_, rfl, ?_⟩
      rw [show bindT (.ok (T.drop (a + 1))) pairX = pairX (T.drop (a + 1)) from rfl] at s7 q7
      have h7 := h6.leaf k7 s7
      have K7 := K6.trans (h6.keptB k7 (by simpa using hbg))
      obtain ⟨cs7, r7⟩ := h7.row
      have z5 := h7.cellN (i := 2) (by decide)
      have z5z : w7.frozen? ⟨g, 5, none⟩ = false := r7.frozen 5
      have h8 := h7.setN (i := 2) (by decide) v.1 (fun _ => by decide)
      have z6 := h7.cellN (i := 3) (by decide)
      have z6z : w7.frozen? ⟨g, 6, none⟩ = false := r7.frozen 6
      change RgSt (w7.setCell ⟨g, 5, none⟩ (.int .i64 v.1)) _ _ _ _ _ _ _ _ _ _ _ _ _ _ at h8
      have h9 := h8.setN (i := 3) (by decide) v.2 (fun _ => by decide)
      change RgSt ((w7.setCell ⟨g, 5, none⟩ (.int .i64 v.1)).setCell ⟨g, 6, none⟩ (.int .i64 v.2)) _ _ _ _ _ _ _ _ _ _ _ _ _ _ at h9
      have K9 : Below base w _ := (K7.setCell (p := ⟨g, 5, none⟩) hbg (.int .i64 v.1)).setCell (p := ⟨g, 6, none⟩) hbg (.int .i64 v.2)
      try simp +contextual (maxSteps := 2000000) (disch := first | omega | (simp only [SZ]; first | done | omega) | (simp only [TS] at *; omega)) only [RZ, ovw, oneC, reduceAdd, reduceMul, reduceSub, reduceEqDiff, reduceLT, ↓reduceIte, Int.reduceToNat, reduceLeDiff,  f0, z5, z5z, z6, z6z]
      refine ⟨K9, ?_⟩
      cases hpx : pairX (T.drop (a + 1)) with
      | error y =>
        rw [hpx] at hR1 h9
        dsimp only [bindT] at hR1
        subst hR1
        exact h9.refused
      | ok y =>
        rw [hpx] at hR1 h9
        dsimp only [bindT] at hR1
        obtain rfl := q7 y hpx
        subst hR1
        exact ⟨_, _, _, _, _, h9.up (by omega) (by omega)⟩
    have e_choose : (s = (⟨#[99, 104, 111, 111, 115, 101]⟩ : ByteArray)) = False := eq_false hx
    have hn_choose : ¬ bs s = asc "choose" := fun h => hx (bs_inj (by rw [h]; decide +kernel))
    refine W_piece fun K hK hX => ?_
    simp +contextual (maxSteps := 2000000) (disch := first | omega | (simp only [SZ]; first | done | omega) | (simp only [TS] at *; omega)) only [RZ, ovw, oneC, reduceAdd, reduceMul, reduceSub, reduceEqDiff, reduceLT, ↓reduceIte, Int.reduceToNat, reduceLeDiff,  e_choose]
    refine hK _ _ ?_
    clear hK hX K
    refine W_if_f rfl ?_
    by_cases hx : s = ⟨#[100, 105, 103, 105, 116, 115]⟩
    · have e1 : (s = (⟨#[100, 105, 103, 105, 116, 115]⟩ : ByteArray)) = True := eq_true hx
      have hw : bs s = asc "digits" := by rw [hx]; decide +kernel
      have hnl : nameL (bs s) = asc "choose" := by rw [hw]; decide +kernel
      rw [hnl] at hsn
      obtain ⟨hse, rfl⟩ : asc "choose" ∉ seen ∧ seen' = asc "choose" :: seen := by
        rcases hsn with ⟨h | h, _⟩ | ⟨_, _, h1, h2⟩
        · exact absurd h (by decide +kernel)
        · exact absurd h (by decide +kernel)
        · exact ⟨h1, h2⟩
      rw [if_pos (.inr hw), if_neg hse, ← pairX_is hT hW n1] at hR1
      refine W_piece fun K hK hX => ?_
      simp +contextual (maxSteps := 2000000) (disch := first | omega | (simp only [SZ]; first | done | omega) | (simp only [TS] at *; omega)) only [RZ, ovw, oneC, reduceAdd, reduceMul, reduceSub, reduceEqDiff, reduceLT, ↓reduceIte, Int.reduceToNat, reduceLeDiff,  e1]
      refine hK _ _ ?_
      clear hK hX K
      refine W_if_t rfl ?_
      rw [if_pos hw] at hR1
      refine W_piece fun K hK hX => ?_
      have z3 := h5.cellN (i := 0) (by decide)
      have z3z : w5.frozen? ⟨g, 3, none⟩ = false := p5.row.frozen 3
      simp +contextual (maxSteps := 2000000) (disch := first | omega | (simp only [SZ]; first | done | omega) | (simp only [TS] at *; omega)) only [RZ, ovw, oneC, reduceAdd, reduceMul, reduceSub, reduceEqDiff, reduceLT, ↓reduceIte, Int.reduceToNat, reduceLeDiff,  f0, z3, z3z]
      refine hK _ _ ?_
      clear hK hX K
      have h6 := h5.setN (i := 0) (by decide) 2 (fun _ => by decide)
      change RgSt (w5.setCell ⟨g, 3, none⟩ (.int .i64 2)) _ _ _ _ _ _ _ _ _ _ _ _ _ _ at h6
      have K6 : Below base w _ := K5.setCell (p := ⟨g, 3, none⟩) hbg (.int .i64 2)
      generalize w5.setCell ⟨g, 3, none⟩ (.int .i64 2) = w6 at *
      simp +contextual (maxSteps := 2000000) (disch := first | omega | (simp only [SZ]; first | done | omega) | (simp only [TS] at *; omega)) only [RZ, ovw, oneC, reduceAdd, reduceMul, reduceSub, reduceEqDiff, reduceLT, ↓reduceIte, Int.reduceToNat, reduceLeDiff,  f0]
      refine (rgPair_any hT h6.rs).mono ?_
      rintro e w7 ⟨v, rfl, s7, k7, q7⟩
      refine ⟨_, rfl, ?_⟩
      rw [show bindT (.ok (T.drop (a + 1))) pairX = pairX (T.drop (a + 1)) from rfl] at s7 q7
      have h7 := h6.leaf k7 s7
      have K7 := K6.trans (h6.keptB k7 (by simpa using hbg))
      obtain ⟨cs7, r7⟩ := h7.row
      have z5 := h7.cellN (i := 2) (by decide)
      have z5z : w7.frozen? ⟨g, 5, none⟩ = false := r7.frozen 5
      have h8 := h7.setN (i := 2) (by decide) v.1 (fun _ => by decide)
      have z6 := h7.cellN (i := 3) (by decide)
      have z6z : w7.frozen? ⟨g, 6, none⟩ = false := r7.frozen 6
      change RgSt (w7.setCell ⟨g, 5, none⟩ (.int .i64 v.1)) _ _ _ _ _ _ _ _ _ _ _ _ _ _ at h8
      have h9 := h8.setN (i := 3) (by decide) v.2 (fun _ => by decide)
      change RgSt ((w7.setCell ⟨g, 5, none⟩ (.int .i64 v.1)).setCell ⟨g, 6, none⟩ (.int .i64 v.2)) _ _ _ _ _ _ _ _ _ _ _ _ _ _ at h9
      have K9 : Below base w _ := (K7.setCell (p := ⟨g, 5, none⟩) hbg (.int .i64 v.1)).setCell (p := ⟨g, 6, none⟩) hbg (.int .i64 v.2)
      try simp +contextual (maxSteps := 2000000) (disch := first | omega | (simp only [SZ]; first | done | omega) | (simp only [TS] at *; omega)) only [RZ, ovw, oneC, reduceAdd, reduceMul, reduceSub, reduceEqDiff, reduceLT, ↓reduceIte, Int.reduceToNat, reduceLeDiff,  f0, z5, z5z, z6, z6z]
      refine ⟨K9, ?_⟩
      cases hpx : pairX (T.drop (a + 1)) with
      | error y =>
        rw [hpx] at hR1 h9
        dsimp only [bindT] at hR1
        subst hR1
        exact h9.refused
      | ok y =>
        rw [hpx] at hR1 h9
        dsimp only [bindT] at hR1
        obtain rfl := q7 y hpx
        subst hR1
        exact ⟨_, _, _, _, _, h9.up (by omega) (by omega)⟩
    have e_digits : (s = (⟨#[100, 105, 103, 105, 116, 115]⟩ : ByteArray)) = False := eq_false hx
    have hn_digits : ¬ bs s = asc "digits" := fun h => hx (bs_inj (by rw [h]; decide +kernel))
    refine W_piece fun K hK hX => ?_
    simp +contextual (maxSteps := 2000000) (disch := first | omega | (simp only [SZ]; first | done | omega) | (simp only [TS] at *; omega)) only [RZ, ovw, oneC, reduceAdd, reduceMul, reduceSub, reduceEqDiff, reduceLT, ↓reduceIte, Int.reduceToNat, reduceLeDiff,  e_digits]
    refine hK _ _ ?_
    clear hK hX K
    refine W_if_f rfl ?_
    have hn_cd : ¬ (bs s = asc "choose" ∨ bs s = asc "digits") := fun h => h.elim hn_choose hn_digits
    by_cases hx : s = ⟨#[98, 111, 110, 117, 115]⟩
    · have e1 : (s = (⟨#[98, 111, 110, 117, 115]⟩ : ByteArray)) = True := eq_true hx
      have hw : bs s = asc "bonus" := by rw [hx]; decide +kernel
      have hnl : nameL (bs s) = asc "bonus" := by rw [hw]; decide +kernel
      rw [hnl] at hsn
      obtain ⟨hse, rfl⟩ : asc "bonus" ∉ seen ∧ seen' = asc "bonus" :: seen := by
        rcases hsn with ⟨h | h, _⟩ | ⟨_, _, h1, h2⟩
        · exact absurd h (by decide +kernel)
        · exact absurd h (by decide +kernel)
        · exact ⟨h1, h2⟩
      rw [if_neg hn_cd, if_pos hw, if_neg hse, ← pairX_is hT hW n1] at hR1
      refine W_piece fun K hK hX => ?_
      simp +contextual (maxSteps := 2000000) (disch := first | omega | (simp only [SZ]; first | done | omega) | (simp only [TS] at *; omega)) only [RZ, ovw, oneC, reduceAdd, reduceMul, reduceSub, reduceEqDiff, reduceLT, ↓reduceIte, Int.reduceToNat, reduceLeDiff,  e1]
      refine hK _ _ ?_
      clear hK hX K
      refine W_if_t rfl ?_
      have h6 := h5
      have K6 := K5
      simp +contextual (maxSteps := 2000000) (disch := first | omega | (simp only [SZ]; first | done | omega) | (simp only [TS] at *; omega)) only [RZ, ovw, oneC, reduceAdd, reduceMul, reduceSub, reduceEqDiff, reduceLT, ↓reduceIte, Int.reduceToNat, reduceLeDiff,  f0]
      refine (rgPair_any hT h6.rs).mono ?_
      rintro e w7 ⟨v, rfl, s7, k7, q7⟩
      refine ⟨_, rfl, ?_⟩
      rw [show bindT (.ok (T.drop (a + 1))) pairX = pairX (T.drop (a + 1)) from rfl] at s7 q7
      have h7 := h6.leaf k7 s7
      have K7 := K6.trans (h6.keptB k7 (by simpa using hbg))
      obtain ⟨cs7, r7⟩ := h7.row
      have z5 := h7.cellN (i := 4) (by decide)
      have z5z : w7.frozen? ⟨g, 7, none⟩ = false := r7.frozen 7
      have h8 := h7.setN (i := 4) (by decide) v.1 (fun _ => by decide)
      have z6 := h7.cellN (i := 5) (by decide)
      have z6z : w7.frozen? ⟨g, 8, none⟩ = false := r7.frozen 8
      change RgSt (w7.setCell ⟨g, 7, none⟩ (.int .i64 v.1)) _ _ _ _ _ _ _ _ _ _ _ _ _ _ at h8
      have h9 := h8.setN (i := 5) (by decide) v.2 (fun _ => by decide)
      change RgSt ((w7.setCell ⟨g, 7, none⟩ (.int .i64 v.1)).setCell ⟨g, 8, none⟩ (.int .i64 v.2)) _ _ _ _ _ _ _ _ _ _ _ _ _ _ at h9
      have K9 : Below base w _ := (K7.setCell (p := ⟨g, 7, none⟩) hbg (.int .i64 v.1)).setCell (p := ⟨g, 8, none⟩) hbg (.int .i64 v.2)
      try simp +contextual (maxSteps := 2000000) (disch := first | omega | (simp only [SZ]; first | done | omega) | (simp only [TS] at *; omega)) only [RZ, ovw, oneC, reduceAdd, reduceMul, reduceSub, reduceEqDiff, reduceLT, ↓reduceIte, Int.reduceToNat, reduceLeDiff,  f0, z5, z5z, z6, z6z]
      refine ⟨K9, ?_⟩
      cases hpx : pairX (T.drop (a + 1)) with
      | error y =>
        rw [hpx] at hR1 h9
        dsimp only [bindT] at hR1
        subst hR1
        exact h9.refused
      | ok y =>
        rw [hpx] at hR1 h9
        dsimp only [bindT] at hR1
        obtain rfl := q7 y hpx
        subst hR1
        exact ⟨_, _, _, _, _, h9.up (by omega) (by omega)⟩
    have e_bonus : (s = (⟨#[98, 111, 110, 117, 115]⟩ : ByteArray)) = False := eq_false hx
    have hn_bonus : ¬ bs s = asc "bonus" := fun h => hx (bs_inj (by rw [h]; decide +kernel))
    refine W_piece fun K hK hX => ?_
    simp +contextual (maxSteps := 2000000) (disch := first | omega | (simp only [SZ]; first | done | omega) | (simp only [TS] at *; omega)) only [RZ, ovw, oneC, reduceAdd, reduceMul, reduceSub, reduceEqDiff, reduceLT, ↓reduceIte, Int.reduceToNat, reduceLeDiff,  e_bonus]
    refine hK _ _ ?_
    clear hK hX K
    refine W_if_f rfl ?_
    by_cases hx : s = ⟨#[100, 97, 121, 115]⟩
    · have e1 : (s = (⟨#[100, 97, 121, 115]⟩ : ByteArray)) = True := eq_true hx
      have hw : bs s = asc "days" := by rw [hx]; decide +kernel
      have hnl : nameL (bs s) = asc "days" := by rw [hw]; decide +kernel
      rw [hnl] at hsn
      obtain ⟨hse, rfl⟩ : asc "days" ∉ seen ∧ seen' = asc "days" :: seen := by
        rcases hsn with ⟨h | h, _⟩ | ⟨_, _, h1, h2⟩
        · exact absurd h (by decide +kernel)
        · exact absurd h (by decide +kernel)
        · exact ⟨h1, h2⟩
      rw [if_neg hn_cd, if_neg hn_bonus, if_pos hw, if_neg hse] at hR1
      refine W_piece fun K hK hX => ?_
      simp +contextual (maxSteps := 2000000) (disch := first | omega | (simp only [SZ]; first | done | omega) | (simp only [TS] at *; omega)) only [RZ, ovw, oneC, reduceAdd, reduceMul, reduceSub, reduceEqDiff, reduceLT, ↓reduceIte, Int.reduceToNat, reduceLeDiff,  e1]
      refine hK _ _ ?_
      clear hK hX K
      refine W_if_t rfl ?_
      simp +contextual (maxSteps := 2000000) (disch := first | omega | (simp only [SZ]; first | done | omega) | (simp only [TS] at *; omega)) only [RZ, ovw, oneC, reduceAdd, reduceMul, reduceSub, reduceEqDiff, reduceLT, ↓reduceIte, Int.reduceToNat, reduceLeDiff,  f0]
      refine (rgDaysItem_any h5.rs (h.days hse) hT hW).mono ?_
      rintro e w7 ⟨⟨v, rfl⟩, k7, hD⟩
      refine ⟨_, rfl, ?_⟩
      have K7 := K5.trans (h5.keptB k7 (by simpa using hbg))
      try simp +contextual (maxSteps := 2000000) (disch := first | omega | (simp only [SZ]; first | done | omega) | (simp only [TS] at *; omega)) only [RZ, ovw, oneC, reduceAdd, reduceMul, reduceSub, reduceEqDiff, reduceLT, ↓reduceIte, Int.reduceToNat, reduceLeDiff,  f0]
      refine ⟨K7, ?_⟩
      cases hdd : dayT (T.drop (a + 1)) with
      | error y =>
        rw [hdd] at hR1 hD
        dsimp only [bindT] at hR1
        subst hR1
        exact hD
      | ok y =>
        rw [hdd] at hR1 hD
        dsimp only [bindT] at hR1
        subst hR1
        exact ⟨_, _, _, _, _, (h5.step k7 hD (fun hn => absurd (List.mem_cons_self ..) hn)).up (by omega) (by omega)⟩
    have e_days : (s = (⟨#[100, 97, 121, 115]⟩ : ByteArray)) = False := eq_false hx
    have hn_days : ¬ bs s = asc "days" := fun h => hx (bs_inj (by rw [h]; decide +kernel))
    refine W_piece fun K hK hX => ?_
    simp +contextual (maxSteps := 2000000) (disch := first | omega | (simp only [SZ]; first | done | omega) | (simp only [TS] at *; omega)) only [RZ, ovw, oneC, reduceAdd, reduceMul, reduceSub, reduceEqDiff, reduceLT, ↓reduceIte, Int.reduceToNat, reduceLeDiff,  e_days]
    refine hK _ _ ?_
    clear hK hX K
    refine W_if_f rfl ?_
    by_cases hx : s = ⟨#[97, 100, 100, 111, 110]⟩
    · have e1 : (s = (⟨#[97, 100, 100, 111, 110]⟩ : ByteArray)) = True := eq_true hx
      have hw : bs s = asc "addon" := by rw [hx]; decide +kernel
      have hnl : nameL (bs s) = asc "addon" := by rw [hw]; decide +kernel
      rw [hnl] at hsn
      obtain rfl : seen' = seen := by
        rcases hsn with ⟨_, h⟩ | ⟨h1, h2, _, _⟩
        · exact h
        · exact absurd rfl h1
      rw [if_neg hn_cd, if_neg hn_bonus, if_neg hn_days, if_pos hw] at hR1
      refine W_piece fun K hK hX => ?_
      simp +contextual (maxSteps := 2000000) (disch := first | omega | (simp only [SZ]; first | done | omega) | (simp only [TS] at *; omega)) only [RZ, ovw, oneC, reduceAdd, reduceMul, reduceSub, reduceEqDiff, reduceLT, ↓reduceIte, Int.reduceToNat, reduceLeDiff,  e1]
      refine hK _ _ ?_
      clear hK hX K
      refine W_if_t rfl ?_
      simp +contextual (maxSteps := 2000000) (disch := first | omega | (simp only [SZ]; first | done | omega) | (simp only [TS] at *; omega)) only [RZ, ovw, oneC, reduceAdd, reduceMul, reduceSub, reduceEqDiff, reduceLT, ↓reduceIte, Int.reduceToNat, reduceLeDiff,  f0]
      refine (rgAddon_any h5 n1 (by omega) hT hW).mono ?_
      rintro e w7 ⟨⟨v, rfl⟩, k7, hD⟩
      refine ⟨_, rfl, ?_⟩
      have K7 := K5.trans k7
      try simp +contextual (maxSteps := 2000000) (disch := first | omega | (simp only [SZ]; first | done | omega) | (simp only [TS] at *; omega)) only [RZ, ovw, oneC, reduceAdd, reduceMul, reduceSub, reduceEqDiff, reduceLT, ↓reduceIte, Int.reduceToNat, reduceLeDiff,  f0]
      refine ⟨K7, ?_⟩
      cases hdd : addonT (T.drop (a + 1)) with
      | error y =>
        rw [hdd] at hR1 hD
        dsimp only [bindT] at hR1
        subst hR1
        exact hD
      | ok y =>
        rw [hdd] at hR1 hD
        dsimp only [bindT] at hR1
        subst hR1
        obtain ⟨Va7, Vs7, h7⟩ := hD
        exact ⟨_, _, _, _, _, h7⟩
    have e_addon : (s = (⟨#[97, 100, 100, 111, 110]⟩ : ByteArray)) = False := eq_false hx
    have hn_addon : ¬ bs s = asc "addon" := fun h => hx (bs_inj (by rw [h]; decide +kernel))
    refine W_piece fun K hK hX => ?_
    simp +contextual (maxSteps := 2000000) (disch := first | omega | (simp only [SZ]; first | done | omega) | (simp only [TS] at *; omega)) only [RZ, ovw, oneC, reduceAdd, reduceMul, reduceSub, reduceEqDiff, reduceLT, ↓reduceIte, Int.reduceToNat, reduceLeDiff,  e_addon]
    refine hK _ _ ?_
    clear hK hX K
    refine W_if_f rfl ?_
    by_cases hx : s = ⟨#[116, 105, 101, 114]⟩
    · have e1 : (s = (⟨#[116, 105, 101, 114]⟩ : ByteArray)) = True := eq_true hx
      have hw : bs s = asc "tier" := by rw [hx]; decide +kernel
      have hnl : nameL (bs s) = asc "tier" := by rw [hw]; decide +kernel
      rw [hnl] at hsn
      obtain rfl : seen' = seen := by
        rcases hsn with ⟨_, h⟩ | ⟨h1, h2, _, _⟩
        · exact h
        · exact absurd rfl h2
      rw [if_neg hn_cd, if_neg hn_bonus, if_neg hn_days, if_neg hn_addon, if_pos hw] at hR1
      refine W_piece fun K hK hX => ?_
      simp +contextual (maxSteps := 2000000) (disch := first | omega | (simp only [SZ]; first | done | omega) | (simp only [TS] at *; omega)) only [RZ, ovw, oneC, reduceAdd, reduceMul, reduceSub, reduceEqDiff, reduceLT, ↓reduceIte, Int.reduceToNat, reduceLeDiff,  e1]
      refine hK _ _ ?_
      clear hK hX K
      refine W_if_t rfl ?_
      simp +contextual (maxSteps := 2000000) (disch := first | omega | (simp only [SZ]; first | done | omega) | (simp only [TS] at *; omega)) only [RZ, ovw, oneC, reduceAdd, reduceMul, reduceSub, reduceEqDiff, reduceLT, ↓reduceIte, Int.reduceToNat, reduceLeDiff,  f0]
      refine (rgTier_any h5 n1 (by omega) hT hW).mono ?_
      rintro e w7 ⟨⟨v, rfl⟩, k7, hD⟩
      refine ⟨_, rfl, ?_⟩
      have K7 := K5.trans k7
      try simp +contextual (maxSteps := 2000000) (disch := first | omega | (simp only [SZ]; first | done | omega) | (simp only [TS] at *; omega)) only [RZ, ovw, oneC, reduceAdd, reduceMul, reduceSub, reduceEqDiff, reduceLT, ↓reduceIte, Int.reduceToNat, reduceLeDiff,  f0]
      refine ⟨K7, ?_⟩
      cases hdd : tierT (T.drop (a + 1)) with
      | error y =>
        rw [hdd] at hR1 hD
        dsimp only [bindT] at hR1
        subst hR1
        exact hD
      | ok y =>
        rw [hdd] at hR1 hD
        dsimp only [bindT] at hR1
        subst hR1
        obtain ⟨Vt7, h7⟩ := hD
        exact ⟨_, _, _, _, _, h7⟩
    have e_tier : (s = (⟨#[116, 105, 101, 114]⟩ : ByteArray)) = False := eq_false hx
    have hn_tier : ¬ bs s = asc "tier" := fun h => hx (bs_inj (by rw [h]; decide +kernel))
    refine W_piece fun K hK hX => ?_
    simp +contextual (maxSteps := 2000000) (disch := first | omega | (simp only [SZ]; first | done | omega) | (simp only [TS] at *; omega)) only [RZ, ovw, oneC, reduceAdd, reduceMul, reduceSub, reduceEqDiff, reduceLT, ↓reduceIte, Int.reduceToNat, reduceLeDiff,  e_tier]
    refine hK _ _ ?_
    clear hK hX K
    refine W_if_f rfl ?_
    rw [if_neg hn_cd, if_neg hn_bonus, if_neg hn_days, if_neg hn_addon, if_neg hn_tier] at hR1
    have hnl : nameL (bs s) = bs s := if_neg hn_digits
    rw [hnl] at hsn
    obtain ⟨hse, rfl⟩ : bs s ∉ seen ∧ seen' = bs s :: seen := by
      rcases hsn with ⟨h | h, _⟩ | ⟨_, _, h1, h2⟩
      · exact absurd h hn_addon
      · exact absurd h hn_tier
      · exact ⟨h1, h2⟩
    obtain ⟨i, hsi⟩ : ∃ i, simpleI (bs s) = some i := by
      unfold knownB at hkn
      rw [decide_eq_false hn_choose, decide_eq_false hn_digits, decide_eq_false hn_bonus, decide_eq_false hn_days, decide_eq_false hn_addon, decide_eq_false hn_tier] at hkn
      cases hsi : simpleI (bs s) with
      | none => rw [hsi] at hkn; cases hkn
      | some i => exact ⟨i, rfl⟩
    obtain ⟨hi19, hi9⟩ := simple_lt hsi
    rw [hsi] at hR1
    dsimp only at hR1
    rw [if_neg hse] at hR1
    have rb5' : Row w5.drew gb 62 _ := rb5
    have h5' := h5.leaf (w' := w5.drew) (Kept.refl [g] w5).drew (h5.rs.kept (X := []) (Kept.refl [] w5).drew (by simp) (by simp))
    have K5' : Below base w w5.drew := below_drew K5
    have v3' : w5.drew.cell? ⟨gb, 3, none⟩ = some (.string s) := v3
    simp +contextual (maxSteps := 2000000) (disch := first | omega | (simp only [SZ]; first | done | omega) | (simp only [TS] at *; omega)) only [RZ, ovw, oneC, reduceAdd, reduceMul, reduceSub, reduceEqDiff, reduceLT, ↓reduceIte, Int.reduceToNat, reduceLeDiff,  f0, f2]
    refine Raw_ord (fun w' => w'.cell? ⟨gb, 3, none⟩ = some (.string s)) 6 rfl MX ?_
    clear v3 rb5 h5 K5
    generalize w5.drew = w5 at *
    refine Ord_reads (τ := ?tx) [0, 1, 2, 3] 2 rfl (by kernel_rfl) (by kernel_rfl) (fun _ _ _ h => h) v3' ?vx ?_
    case vx =>
      intro w7 h7
      simp only [opsL_cons, opsL_nil, List.getElem?_toArray, List.getElem?_cons_zero, List.getElem?_cons_succ, optL_some]
      simp +contextual (maxSteps := 2000000) (disch := first | omega | (simp only [SZ]; first | done | omega) | (simp only [TS] at *; omega)) only [RZ, ovw, oneC, reduceAdd, reduceMul, reduceSub, reduceEqDiff, reduceLT, ↓reduceIte, Int.reduceToNat, reduceLeDiff,  f0, f2, h7]
      exact rfl
    refine Ord_one 4 (by kernel_rfl) rfl ?_
    simp +contextual (maxSteps := 2000000) (disch := first | omega | (simp only [SZ]; first | done | omega) | (simp only [TS] at *; omega)) only [RZ, ovw, oneC, reduceAdd, reduceMul, reduceSub, reduceEqDiff, reduceLT, ↓reduceIte, Int.reduceToNat, reduceLeDiff]
    refine (rgNumber_any 999999999999999999 hT h5'.rs).mono ?_
    rintro e w7 ⟨v7, rfl, s7, k7, q7⟩
    refine ⟨_, rfl, ?_⟩
    rw [show bindT (.ok (T.drop (a + 1))) (numberT 999999999999999999) = anyT (T.drop (a + 1)) from numberT_any hT n1] at s7 q7
    have h7 := h5'.leaf k7 s7
    have K7 := K5'.trans (h5'.keptB k7 (by simpa using hbg))
    have rb7 := rb5'.kept k7 (by simp; omega)
    have hgb7 := rb5'.lt
    have v7' : w7.cell? ⟨gb, 3, none⟩ = some (.string s) := rb7.cell (i := 3) rfl
    refine ⟨v7', ?_⟩
    refine Ord_chainS _ [5] _ _ _ (by kernel_rfl) ?_
    simp only [opsL_cons, opsL_nil, List.getElem?_toArray, List.getElem?_cons_zero, List.getElem?_cons_succ, optL_some]
    simp +contextual (maxSteps := 2000000) (disch := first | omega | (simp only [SZ]; first | done | omega) | (simp only [TS] at *; omega)) only [RZ, ovw, oneC, reduceAdd, reduceMul, reduceSub, reduceEqDiff, reduceLT, ↓reduceIte, Int.reduceToNat, reduceLeDiff,  EC_op, EC_nil]
    obtain ⟨a7, er7, ln7, p7, hx7⟩ := h7.rs
    refine (rgSet_any (G := G) (Va := Va) (Vt := Vt) (Vn := Vn') s v7 p7).mono ?_
    rintro e w8 ⟨⟨v8, rfl⟩, hw8⟩
    refine ⟨_, rfl, ?_⟩
    rw [hsi] at hw8
    dsimp only at hw8
    have h8 := h7.setN (i := i) hi19 v7 (fun _ => hi9)
    have K8 := K7.setCell (p := ⟨g, i + 3, none⟩) hbg (.int .i64 v7)
    have rb8 := rb7.kept ((Kept.refl [g] w7).setCell (p := ⟨g, i + 3, none⟩) (by simp) (.int .i64 v7)) (by simp; omega)
    rw [← hw8] at h8 K8 rb8
    refine ⟨rb8.cell (i := 3) rfl, ?_⟩
    simp +contextual (maxSteps := 2000000) (disch := first | omega | (simp only [SZ]; first | done | omega) | (simp only [TS] at *; omega)) only [RZ, ovw, oneC, reduceAdd, reduceMul, reduceSub, reduceEqDiff, reduceLT, ↓reduceIte, Int.reduceToNat, reduceLeDiff,  f0]
    refine ⟨K8, ?_⟩
    cases hn : numT (T.drop (a + 1)) with
    | none =>
      rw [hn] at hR1
      rw [show anyT (T.drop (a + 1)) = .error (1, T.drop (a + 1)) by unfold anyT; rw [hn]; rfl] at h8
      dsimp only [thenT] at hR1
      subst hR1
      exact h8.refused
    | some y =>
      rw [hn] at hR1
      have hv : anyT (T.drop (a + 1)) = .ok y := by unfold anyT; rw [hn]; rfl
      rw [hv] at h8 q7
      dsimp only [thenT] at hR1
      obtain rfl := q7 y rfl
      subst hR1
      exact ⟨_, _, _, _, _, h8.up (by omega) (by omega)⟩
  rintro σ w6 ⟨f0, K6, hO⟩
  simp +contextual (maxSteps := 2000000) (disch := first | omega | (simp only [SZ]; first | done | omega) | (simp only [TS] at *; omega)) only [RZ, ovw, oneC, reduceAdd, reduceMul, reduceSub, reduceEqDiff, reduceLT, ↓reduceIte, Int.reduceToNat, reduceLeDiff,  f0]
  cases R1 with
  | error y =>
    obtain ⟨rest, s6⟩ := hO
    refine (rgNeed_any ⟨#[59]⟩ hT s6).mono ?_
    rintro e w7 ⟨⟨v, rfl⟩, s7, k7⟩
    refine ⟨_, rfl, ?_⟩
    try simp +contextual (maxSteps := 2000000) (disch := first | omega | (simp only [SZ]; first | done | omega) | (simp only [TS] at *; omega)) only [RZ, ovw, oneC, reduceAdd, reduceMul, reduceSub, reduceEqDiff, reduceLT, ↓reduceIte, Int.reduceToNat, reduceLeDiff]
    subst hR
    exact ⟨⟨_, rfl⟩, K6.trans ⟨k7.os, k7.tape, k7.output, k7.size, fun i hi => k7.block i (by have := K6.size; omega) (by simp; omega)⟩, _, s7⟩
  | ok y =>
    obtain ⟨Va6, Vt6, Vn6, Vs6, Q6, h6⟩ := hO
    refine (rgNeed_any ⟨#[59]⟩ hT h6.rs).mono ?_
    rintro e w7 ⟨⟨v, rfl⟩, s7, k7⟩
    refine ⟨_, rfl, ?_⟩
    try simp +contextual (maxSteps := 2000000) (disch := first | omega | (simp only [SZ]; first | done | omega) | (simp only [TS] at *; omega)) only [RZ, ovw, oneC, reduceAdd, reduceMul, reduceSub, reduceEqDiff, reduceLT, ↓reduceIte, Int.reduceToNat, reduceLeDiff]
    refine ⟨⟨_, rfl⟩, ?_⟩
    have K7 := K6.trans (h6.keptB k7 (by simpa using hbg))
    obtain ⟨a6, ha6, hlt6⟩ := h6.rs.at_
    have hm6 := isWM_mark hW hlt6 (d := 59) (by decide)
    rw [← ha6, show ([59] : List Nat) = asc ";" by decide +kernel] at hm6
    have hn6 := needX_is 3 hm6
    have e7 : sndX (bindT (.ok y.2) (needX (bs ⟨#[59]⟩))) = sndX (thenT (isT 3 (asc ";") y.2) y.2 fun L' => .ok ((), L')) := by
      rw [show bs ⟨#[59]⟩ = asc ";" by decide +kernel, ← hn6]; rfl
    rw [e7] at s7
    dsimp only [bindT] at hR
    cases hi6 : isT 3 (asc ";") y.2 with
    | none =>
      rw [hi6] at hR s7
      dsimp only [thenT] at hR
      subst hR
      exact ⟨K7, _, s7⟩
    | some L3 =>
      rw [hi6] at hR s7
      dsimp only [thenT] at hR
      subst hR
      exact ⟨K7, Va6, Vt6, Vn6, Vs6, Q6, h6.leaf k7 s7⟩
end
end Go.Proofs.YtbdkggnajipdhaaGreatDoor
/- Walks: the reference's end, skip, Place. -/
namespace Go.Proofs.YtbdkggnajipdhaaGreatDoor
open Nat (reduceAdd reduceMul reduceSub reduceEqDiff reduceLT reduceLeDiff)
open Go.RowKit
set_option maxRecDepth 100000
/-- How many bytes are blank or in remarks. -/
def skipB : Bool → List Nat → Nat
  | _, [] => 0
  | m, c :: r => if m || blankB c || c == 35 then 1 + skipB ((m || c == 35) && !(c == 10)) r else 0
theorem rskip_any (s : ByteArray) (at_ : Nat) (w : World) (hs : s.size ≤ 1000000) (ha : at_ ≤ s.size) :
    Calls Tryz.prog 60 #[.string s, .int .i64 at_] w fun e w' => e = .returned (.int .i64 (at_ + skipB false ((bs s).drop at_))) ∧ w = w' := by
  refine calls_W (l := [_, _]) Tryz.func60 rfl _ Tryz.ntmps60 (by simp) ?_
  simp +contextual (maxSteps := 2000000) (disch := first | omega | (simp only [SZ]; first | done | omega) | (simp only [TS] at *; omega)) only [RZ, ovw, oneC, reduceAdd, reduceMul, reduceSub, reduceEqDiff, reduceLT, ↓reduceIte, Int.reduceToNat, reduceLeDiff]
  refine Raw_loop (fun σ w' => w = w' ∧ ∃ (k : Nat) (m : Bool), at_ ≤ k ∧ k ≤ s.size ∧ k + skipB m ((bs s).drop k) = at_ + skipB false ((bs s).drop at_) ∧ σ 0 = .string s ∧ σ 1 = .int .i64 k ∧ σ 5 = .bool m) (fun σ _ => s.size - (intOf (σ 1)).toNat) ?_ ?_
  · simp +contextual (maxSteps := 2000000) (disch := first | omega | (simp only [SZ]; first | done | omega) | (simp only [TS] at *; omega)) only [RZ, ovw, oneC, reduceAdd, reduceMul, reduceSub, reduceEqDiff, reduceLT, ↓reduceIte, Int.reduceToNat, reduceLeDiff]
    exact ⟨at_, false, Nat.le_refl _, ha, rfl, rfl, rfl⟩
  rintro σ w' ⟨rfl, k, m, hk1, hk2, hk, e0, e1, e5⟩ K hK
  by_cases hks : k < s.size
  · have hd : decide ((k : Int) < s.size) = true := decide_eq_true (by omega)
    have hdr : (bs s).drop k = bt s k :: (bs s).drop (k + 1) := by
      have h1 := bs_get hks
      obtain ⟨h2, h3⟩ := List.getElem?_eq_some_iff.1 h1
      rw [List.drop_eq_getElem_cons h2, h3]
    rw [hdr, skipB] at hk
    have hmu : ∀ σ' : Sl, σ' 1 = .int .i64 ((k : Int) + 1) → s.size - (intOf (σ' 1)).toNat < s.size - (intOf (σ 1)).toNat := fun σ' h => by rw [h, e1]; simp only [intOf]; omega
    have hlt := bt_lt s k
    cases m with
    | true =>
      rw [if_pos (by simp)] at hk
      simp +contextual (maxSteps := 2000000) (disch := first | omega | (simp only [SZ]; first | done | omega) | (simp only [TS] at *; omega)) only [RZ, ovw, oneC, reduceAdd, reduceMul, reduceSub, reduceEqDiff, reduceLT, ↓reduceIte, Int.reduceToNat, reduceLeDiff,  e0, e1, e5, hd]
      refine W_if_t rfl ?_
      simp +contextual (maxSteps := 2000000) (disch := first | omega | (simp only [SZ]; first | done | omega) | (simp only [TS] at *; omega)) only [RZ, ovw, oneC, reduceAdd, reduceMul, reduceSub, reduceEqDiff, reduceLT, ↓reduceIte, Int.reduceToNat, reduceLeDiff,  e0, e1, e5]
      (refine W_if rfl (fun hc => ?_) (fun hc => ?_) <;> (try simp only [TS] at hc))
      · have h10 : (bt s k == 10) = false := by simp; omega
        have h35 : (bt s k == 35) = true := by simp; omega
        rw [h10, h35] at hk
        simp +contextual (maxSteps := 2000000) (disch := first | omega | (simp only [SZ]; first | done | omega) | (simp only [TS] at *; omega)) only [RZ, ovw, oneC, reduceAdd, reduceMul, reduceSub, reduceEqDiff, reduceLT, ↓reduceIte, Int.reduceToNat, reduceLeDiff,  e0, e1, e5]
        (refine W_if rfl (fun hc => ?_) (fun hc => ?_) <;> (try simp only [TS] at hc))
        · omega
        simp +contextual (maxSteps := 2000000) (disch := first | omega | (simp only [SZ]; first | done | omega) | (simp only [TS] at *; omega)) only [RZ, ovw, oneC, reduceAdd, reduceMul, reduceSub, reduceEqDiff, reduceLT, ↓reduceIte, Int.reduceToNat, reduceLeDiff,  e0, e1, e5]
        exact hK _ _ ⟨rfl, k + 1, true, by omega, by omega, by simpa [Nat.add_assoc] using hk, e0, rfl, rfl⟩ (hmu _ rfl)
      · have h35 : (bt s k == 35) = false := by simp; omega
        rw [h35] at hk
        clear hc
        simp +contextual (maxSteps := 2000000) (disch := first | omega | (simp only [SZ]; first | done | omega) | (simp only [TS] at *; omega)) only [RZ, ovw, oneC, reduceAdd, reduceMul, reduceSub, reduceEqDiff, reduceLT, ↓reduceIte, Int.reduceToNat, reduceLeDiff,  e0, e1, e5]
        (refine W_if rfl (fun hc => ?_) (fun hc => ?_) <;> (try simp only [TS] at hc))
        · have h10 : (bt s k == 10) = true := by simp; omega
          rw [h10] at hk
          simp +contextual (maxSteps := 2000000) (disch := first | omega | (simp only [SZ]; first | done | omega) | (simp only [TS] at *; omega)) only [RZ, ovw, oneC, reduceAdd, reduceMul, reduceSub, reduceEqDiff, reduceLT, ↓reduceIte, Int.reduceToNat, reduceLeDiff,  e0, e1, e5]
          exact hK _ _ ⟨rfl, k + 1, false, by omega, by omega, by simpa [Nat.add_assoc] using hk, e0, rfl, rfl⟩ (hmu _ rfl)
        · have h10 : (bt s k == 10) = false := by simp; omega
          rw [h10] at hk
          simp +contextual (maxSteps := 2000000) (disch := first | omega | (simp only [SZ]; first | done | omega) | (simp only [TS] at *; omega)) only [RZ, ovw, oneC, reduceAdd, reduceMul, reduceSub, reduceEqDiff, reduceLT, ↓reduceIte, Int.reduceToNat, reduceLeDiff,  e0, e1, e5]
          exact hK _ _ ⟨rfl, k + 1, true, by omega, by omega, by simpa [Nat.add_assoc] using hk, e0, rfl, e5⟩ (hmu _ rfl)
    | false =>
      simp +contextual (maxSteps := 2000000) (disch := first | omega | (simp only [SZ]; first | done | omega) | (simp only [TS] at *; omega)) only [RZ, ovw, oneC, reduceAdd, reduceMul, reduceSub, reduceEqDiff, reduceLT, ↓reduceIte, Int.reduceToNat, reduceLeDiff,  e0, e1, e5, hd]
      refine (rblank_any _ _).mono ?_
      rintro e w' ⟨rfl, rfl⟩
      refine ⟨_, rfl, ?_⟩
      rw [blankIB]
      cases hb : blankB (bt s k) with
      | true =>
        rw [if_pos (by rw [hb]; simp)] at hk
        simp +contextual (maxSteps := 2000000) (disch := first | omega | (simp only [SZ]; first | done | omega) | (simp only [TS] at *; omega)) only [RZ, ovw, oneC, reduceAdd, reduceMul, reduceSub, reduceEqDiff, reduceLT, ↓reduceIte, Int.reduceToNat, reduceLeDiff,  e0, e1, e5, hd]
        refine W_if_t rfl ?_
        simp +contextual (maxSteps := 2000000) (disch := first | omega | (simp only [SZ]; first | done | omega) | (simp only [TS] at *; omega)) only [RZ, ovw, oneC, reduceAdd, reduceMul, reduceSub, reduceEqDiff, reduceLT, ↓reduceIte, Int.reduceToNat, reduceLeDiff,  e0, e1, e5]
        (refine W_if rfl (fun hc => ?_) (fun hc => ?_) <;> (try simp only [TS] at hc))
        · have h10 : (bt s k == 10) = false := by simp; omega
          have h35 : (bt s k == 35) = true := by simp; omega
          rw [h10, h35] at hk
          simp +contextual (maxSteps := 2000000) (disch := first | omega | (simp only [SZ]; first | done | omega) | (simp only [TS] at *; omega)) only [RZ, ovw, oneC, reduceAdd, reduceMul, reduceSub, reduceEqDiff, reduceLT, ↓reduceIte, Int.reduceToNat, reduceLeDiff,  e0, e1, e5]
          (refine W_if rfl (fun hc => ?_) (fun hc => ?_) <;> (try simp only [TS] at hc))
          · omega
          simp +contextual (maxSteps := 2000000) (disch := first | omega | (simp only [SZ]; first | done | omega) | (simp only [TS] at *; omega)) only [RZ, ovw, oneC, reduceAdd, reduceMul, reduceSub, reduceEqDiff, reduceLT, ↓reduceIte, Int.reduceToNat, reduceLeDiff,  e0, e1, e5]
          exact hK _ _ ⟨rfl, k + 1, true, by omega, by omega, by simpa [Nat.add_assoc] using hk, e0, rfl, rfl⟩ (hmu _ rfl)
        · have h35 : (bt s k == 35) = false := by simp; omega
          rw [h35] at hk
          clear hc
          simp +contextual (maxSteps := 2000000) (disch := first | omega | (simp only [SZ]; first | done | omega) | (simp only [TS] at *; omega)) only [RZ, ovw, oneC, reduceAdd, reduceMul, reduceSub, reduceEqDiff, reduceLT, ↓reduceIte, Int.reduceToNat, reduceLeDiff,  e0, e1, e5]
          (refine W_if rfl (fun hc => ?_) (fun hc => ?_) <;> (try simp only [TS] at hc))
          · have h10 : (bt s k == 10) = true := by simp; omega
            rw [h10] at hk
            simp +contextual (maxSteps := 2000000) (disch := first | omega | (simp only [SZ]; first | done | omega) | (simp only [TS] at *; omega)) only [RZ, ovw, oneC, reduceAdd, reduceMul, reduceSub, reduceEqDiff, reduceLT, ↓reduceIte, Int.reduceToNat, reduceLeDiff,  e0, e1, e5]
            exact hK _ _ ⟨rfl, k + 1, false, by omega, by omega, by simpa [Nat.add_assoc] using hk, e0, rfl, rfl⟩ (hmu _ rfl)
          · have h10 : (bt s k == 10) = false := by simp; omega
            rw [h10] at hk
            simp +contextual (maxSteps := 2000000) (disch := first | omega | (simp only [SZ]; first | done | omega) | (simp only [TS] at *; omega)) only [RZ, ovw, oneC, reduceAdd, reduceMul, reduceSub, reduceEqDiff, reduceLT, ↓reduceIte, Int.reduceToNat, reduceLeDiff,  e0, e1, e5]
            exact hK _ _ ⟨rfl, k + 1, false, by omega, by omega, by simpa [Nat.add_assoc] using hk, e0, rfl, e5⟩ (hmu _ rfl)
      | false =>
        simp +contextual (maxSteps := 2000000) (disch := first | omega | (simp only [SZ]; first | done | omega) | (simp only [TS] at *; omega)) only [RZ, ovw, oneC, reduceAdd, reduceMul, reduceSub, reduceEqDiff, reduceLT, ↓reduceIte, Int.reduceToNat, reduceLeDiff,  e0, e1, e5, hd]
        (refine W_if rfl (fun hc => ?_) (fun hc => ?_) <;> (try simp only [TS] at hc))
        · rw [if_pos (by simp; omega)] at hk
          clear hc
          simp +contextual (maxSteps := 2000000) (disch := first | omega | (simp only [SZ]; first | done | omega) | (simp only [TS] at *; omega)) only [RZ, ovw, oneC, reduceAdd, reduceMul, reduceSub, reduceEqDiff, reduceLT, ↓reduceIte, Int.reduceToNat, reduceLeDiff,  e0, e1, e5]
          (refine W_if rfl (fun hc => ?_) (fun hc => ?_) <;> (try simp only [TS] at hc))
          · have h10 : (bt s k == 10) = false := by simp; omega
            have h35 : (bt s k == 35) = true := by simp; omega
            rw [h10, h35] at hk
            simp +contextual (maxSteps := 2000000) (disch := first | omega | (simp only [SZ]; first | done | omega) | (simp only [TS] at *; omega)) only [RZ, ovw, oneC, reduceAdd, reduceMul, reduceSub, reduceEqDiff, reduceLT, ↓reduceIte, Int.reduceToNat, reduceLeDiff,  e0, e1, e5]
            (refine W_if rfl (fun hc => ?_) (fun hc => ?_) <;> (try simp only [TS] at hc))
            · omega
            simp +contextual (maxSteps := 2000000) (disch := first | omega | (simp only [SZ]; first | done | omega) | (simp only [TS] at *; omega)) only [RZ, ovw, oneC, reduceAdd, reduceMul, reduceSub, reduceEqDiff, reduceLT, ↓reduceIte, Int.reduceToNat, reduceLeDiff,  e0, e1, e5]
            exact hK _ _ ⟨rfl, k + 1, true, by omega, by omega, by simpa [Nat.add_assoc] using hk, e0, rfl, rfl⟩ (hmu _ rfl)
          · have h35 : (bt s k == 35) = false := by simp; omega
            rw [h35] at hk
            clear hc
            simp +contextual (maxSteps := 2000000) (disch := first | omega | (simp only [SZ]; first | done | omega) | (simp only [TS] at *; omega)) only [RZ, ovw, oneC, reduceAdd, reduceMul, reduceSub, reduceEqDiff, reduceLT, ↓reduceIte, Int.reduceToNat, reduceLeDiff,  e0, e1, e5]
            (refine W_if rfl (fun hc => ?_) (fun hc => ?_) <;> (try simp only [TS] at hc))
            · have h10 : (bt s k == 10) = true := by simp; omega
              rw [h10] at hk
              simp +contextual (maxSteps := 2000000) (disch := first | omega | (simp only [SZ]; first | done | omega) | (simp only [TS] at *; omega)) only [RZ, ovw, oneC, reduceAdd, reduceMul, reduceSub, reduceEqDiff, reduceLT, ↓reduceIte, Int.reduceToNat, reduceLeDiff,  e0, e1, e5]
              exact hK _ _ ⟨rfl, k + 1, false, by omega, by omega, by simpa [Nat.add_assoc] using hk, e0, rfl, rfl⟩ (hmu _ rfl)
            · have h10 : (bt s k == 10) = false := by simp; omega
              rw [h10] at hk
              simp +contextual (maxSteps := 2000000) (disch := first | omega | (simp only [SZ]; first | done | omega) | (simp only [TS] at *; omega)) only [RZ, ovw, oneC, reduceAdd, reduceMul, reduceSub, reduceEqDiff, reduceLT, ↓reduceIte, Int.reduceToNat, reduceLeDiff,  e0, e1, e5]
              exact hK _ _ ⟨rfl, k + 1, false, by omega, by omega, by simpa [Nat.add_assoc] using hk, e0, rfl, e5⟩ (hmu _ rfl)
        · rw [if_neg (by rw [hb]; simp; omega)] at hk
          simp +contextual (maxSteps := 2000000) (disch := first | omega | (simp only [SZ]; first | done | omega) | (simp only [TS] at *; omega)) only [RZ, ovw, oneC, reduceAdd, reduceMul, reduceSub, reduceEqDiff, reduceLT, ↓reduceIte, Int.reduceToNat, reduceLeDiff,  e1]
          exact ret_int (by omega)
  · have hd : decide ((k : Int) < s.size) = false := decide_eq_false (by omega)
    rw [List.drop_eq_nil_of_le (by rw [bs_len]; omega), skipB] at hk
    simp +contextual (maxSteps := 2000000) (disch := first | omega | (simp only [SZ]; first | done | omega) | (simp only [TS] at *; omega)) only [RZ, ovw, oneC, reduceAdd, reduceMul, reduceSub, reduceEqDiff, reduceLT, ↓reduceIte, Int.reduceToNat, reduceLeDiff,  e0, e1, e5, hd]
    refine W_if_f rfl ?_
    simp +contextual (maxSteps := 2000000) (disch := first | omega | (simp only [SZ]; first | done | omega) | (simp only [TS] at *; omega)) only [RZ, ovw, oneC, reduceAdd, reduceMul, reduceSub, reduceEqDiff, reduceLT, ↓reduceIte, Int.reduceToNat, reduceLeDiff,  e1]
    exact ret_int (by omega)
theorem rplace_any (s : ByteArray) (n : Nat) (w : World) (hs : s.size ≤ 1000000) (hn : n ≤ s.size) :
    Calls Tryz.prog 61 #[.string s, .int .i64 n] w fun e w' => e = .returned (.tuple #[.int .i64 (place ((bs s).take n)).1, .int .i64 (place ((bs s).take n)).2]) ∧ w = w' := by
  refine calls_W (l := [_, _]) Tryz.func61 rfl _ Tryz.ntmps61 (by simp) ?_
  simp +contextual (maxSteps := 2000000) (disch := first | omega | (simp only [SZ]; first | done | omega) | (simp only [TS] at *; omega)) only [RZ, ovw, oneC, reduceAdd, reduceMul, reduceSub, reduceEqDiff, reduceLT, ↓reduceIte, Int.reduceToNat, reduceLeDiff]
  refine Raw_loop (fun σ w' => w = w' ∧ ∃ k : Nat, k ≤ n ∧ σ 0 = .string s ∧ σ 1 = .int .i64 n ∧ σ 6 = .int .i64 (place ((bs s).take k)).1 ∧ σ 7 = .int .i64 (place ((bs s).take k)).2 ∧ σ 8 = .int .i64 k) (fun σ _ => n - (intOf (σ 8)).toNat) ?_ ?_
  · simp +contextual (maxSteps := 2000000) (disch := first | omega | (simp only [SZ]; first | done | omega) | (simp only [TS] at *; omega)) only [RZ, ovw, oneC, reduceAdd, reduceMul, reduceSub, reduceEqDiff, reduceLT, ↓reduceIte, Int.reduceToNat, reduceLeDiff]
    exact ⟨0, Nat.zero_le _, rfl, rfl, rfl⟩
  rintro σ w' ⟨rfl, k, hk, e0, e1, e6, e7, e8⟩ K hK
  have hpb := place_bd ((bs s).take k)
  rw [List.length_take, bs_len] at hpb
  simp +contextual (maxSteps := 2000000) (disch := first | omega | (simp only [SZ]; first | done | omega) | (simp only [TS] at *; omega)) only [RZ, ovw, oneC, reduceAdd, reduceMul, reduceSub, reduceEqDiff, reduceLT, ↓reduceIte, Int.reduceToNat, reduceLeDiff,  e0, e1, e6, e7, e8]
  (refine W_if rfl (fun hc => ?_) (fun hc => ?_) <;> (try simp only [TS] at hc))
  · have hkn : k < n := by omega
    clear hc
    have hlt := bt_lt s k
    have hp : place ((bs s).take (k + 1)) = step1 (place ((bs s).take k)) (bt s k) := by
      rw [List.take_add_one, place_append, bs_get (by omega)]; rfl
    have hmu : ∀ σ' : Sl, σ' 8 = .int .i64 ((k : Int) + 1) → n - (intOf (σ' 8)).toNat < n - (intOf (σ 8)).toNat := fun σ' h => by rw [h, e8]; simp only [intOf]; omega
    simp +contextual (maxSteps := 2000000) (disch := first | omega | (simp only [SZ]; first | done | omega) | (simp only [TS] at *; omega)) only [RZ, ovw, oneC, reduceAdd, reduceMul, reduceSub, reduceEqDiff, reduceLT, ↓reduceIte, Int.reduceToNat, reduceLeDiff,  e0, e1, e6, e7, e8]
    (refine W_if rfl (fun hc => ?_) (fun hc => ?_) <;> (try simp only [TS] at hc))
    · unfold step1 at hp
      rw [if_pos (by omega)] at hp
      simp +contextual (maxSteps := 2000000) (disch := first | omega | (simp only [SZ]; first | done | omega) | (simp only [TS] at *; omega)) only [RZ, ovw, oneC, reduceAdd, reduceMul, reduceSub, reduceEqDiff, reduceLT, ↓reduceIte, Int.reduceToNat, reduceLeDiff,  e0, e1, e6, e7, e8]
      refine hK _ _ ⟨rfl, k + 1, hkn, e0, e1, ?_, ?_, rfl⟩ (hmu _ rfl)
      · rw [hp]; rfl
      · rw [hp]; rfl
    · unfold step1 at hp
      rw [if_neg (by omega)] at hp
      simp +contextual (maxSteps := 2000000) (disch := first | omega | (simp only [SZ]; first | done | omega) | (simp only [TS] at *; omega)) only [RZ, ovw, oneC, reduceAdd, reduceMul, reduceSub, reduceEqDiff, reduceLT, ↓reduceIte, Int.reduceToNat, reduceLeDiff,  e0, e1, e6, e7, e8]
      refine hK _ _ ⟨rfl, k + 1, hkn, e0, e1, ?_, ?_, rfl⟩ (hmu _ rfl)
      · rw [hp]; exact e6
      · rw [hp]; rfl
  · have hkn : k = n := by omega
    subst hkn
    simp +contextual (maxSteps := 2000000) (disch := first | omega | (simp only [SZ]; first | done | omega) | (simp only [TS] at *; omega)) only [RZ, ovw, oneC, reduceAdd, reduceMul, reduceSub, reduceEqDiff, reduceLT, ↓reduceIte, Int.reduceToNat, reduceLeDiff,  e6, e7]
end Go.Proofs.YtbdkggnajipdhaaGreatDoor
/- Walks: the reference's end. -/
namespace Go.Proofs.YtbdkggnajipdhaaGreatDoor
open Nat (reduceAdd reduceMul reduceSub reduceEqDiff reduceLT reduceLeDiff)
open Go.RowKit
set_option maxRecDepth 100000
def tokP (l : List Nat) : Nat × Nat := if (piece l).1 = 0 ∨ (piece l).2 = 0 then (0, 0) else piece l
theorem drop_at {s : ByteArray} {k : Nat} (h : k < s.size) : (bs s).drop k = bt s k :: (bs s).drop (k + 1) := by
  have h1 := bs_get h
  obtain ⟨h2, h3⟩ := List.getElem?_eq_some_iff.1 h1
  rw [List.drop_eq_getElem_cons h2, h3]
theorem spn_seg {q : Nat → Bool} {s : ByteArray} {a b : Nat} (hab : a ≤ b) (hb : b ≤ s.size) (h1 : ∀ j, a ≤ j → j < b → q (bt s j) = true) (h2 : b < s.size → q (bt s b) = false) : spn q ((bs s).drop a) = b - a := by
  refine spn_is _ _ (fun j hj => ⟨bt s (a + j), ?_, h1 _ (by omega) (by omega)⟩) (fun c hc => ?_)
  · rw [List.getElem?_drop, bs_get (by omega)]
  · rw [List.getElem?_drop, show a + (b - a) = b from by omega] at hc
    have := (List.getElem?_eq_some_iff.1 hc).1
    rw [bs_len] at this
    rw [bs_get this] at hc
    injection hc with hc
    rw [← hc]; exact h2 this
theorem rend_any (s : ByteArray) (at_ : Nat) (w : World) (hs : s.size ≤ 1000000) (ha : at_ < s.size) :
    Calls Tryz.prog 62 #[.string s, .int .i64 at_] w fun e w' => e = .returned (.tuple #[.int .i64 (at_ + (tokP ((bs s).drop at_)).2), .int .i64 (tokP ((bs s).drop at_)).1]) ∧ w = w' := by
  refine calls_W (l := [_, _]) Tryz.func62 rfl _ Tryz.ntmps62 (by simp) ?_
  have hlt := bt_lt s at_
  have hl := drop_at ha
  have hP : piece ((bs s).drop at_) = if blankB (bt s at_) then (0, spn blankB ((bs s).drop at_)) else if bt s at_ = 35 then (0, spn remB ((bs s).drop at_)) else if letterB (bt s at_) then (1, spn wordB ((bs s).drop at_)) else if digitB (bt s at_) then (if badN (spn digitB ((bs s).drop at_)) (bt s at_) then (2, 0) else (2, spn digitB ((bs s).drop at_))) else if markB (bt s at_) then (3, 1) else (0, 0) := by rw [hl, piece]
  unfold tokP
  simp +contextual (maxSteps := 2000000) (disch := first | omega | (simp only [SZ]; first | done | omega) | (simp only [TS] at *; omega)) only [RZ, ovw, oneC, reduceAdd, reduceMul, reduceSub, reduceEqDiff, reduceLT, ↓reduceIte, Int.reduceToNat, reduceLeDiff]
  refine (rmark_any _ _).mono ?_
  rintro e w' ⟨rfl, rfl⟩
  refine ⟨_, rfl, ?_⟩
  rw [markIB]
  simp +contextual (maxSteps := 2000000) (disch := first | omega | (simp only [SZ]; first | done | omega) | (simp only [TS] at *; omega)) only [RZ, ovw, oneC, reduceAdd, reduceMul, reduceSub, reduceEqDiff, reduceLT, ↓reduceIte, Int.reduceToNat, reduceLeDiff]
  (refine W_if rfl (fun hc => ?_) (fun hc => ?_) <;> (try simp only [TS] at hc))
  · have h1 : blankB (bt s at_) = false ∧ bt s at_ ≠ 35 ∧ letterB (bt s at_) = false ∧ digitB (bt s at_) = false := by
      unfold markB at hc; unfold blankB letterB digitB
      simp only [Bool.or_eq_true, beq_iff_eq, Bool.or_eq_false_iff, beq_eq_false_iff_ne, Bool.and_eq_false_iff, decide_eq_false_iff_not] at *
      omega
    rw [h1.1, h1.2.2.1, h1.2.2.2, hc, if_neg (by simp), if_neg h1.2.1, if_neg (by simp), if_neg (by simp), if_pos rfl] at hP
    rw [hP, if_neg (by simp)]
    simp +contextual (maxSteps := 2000000) (disch := first | omega | (simp only [SZ]; first | done | omega) | (simp only [TS] at *; omega)) only [RZ, ovw, oneC, reduceAdd, reduceMul, reduceSub, reduceEqDiff, reduceLT, ↓reduceIte, Int.reduceToNat, reduceLeDiff]
    exact rfl
  have hmk := hc
  clear hc
  simp +contextual (maxSteps := 2000000) (disch := first | omega | (simp only [SZ]; first | done | omega) | (simp only [TS] at *; omega)) only [RZ, ovw, oneC, reduceAdd, reduceMul, reduceSub, reduceEqDiff, reduceLT, ↓reduceIte, Int.reduceToNat, reduceLeDiff]
  refine (rletter_any _ _).mono ?_
  rintro e w' ⟨rfl, rfl⟩
  refine ⟨_, rfl, ?_⟩
  rw [letterIB]
  simp +contextual (maxSteps := 2000000) (disch := first | omega | (simp only [SZ]; first | done | omega) | (simp only [TS] at *; omega)) only [RZ, ovw, oneC, reduceAdd, reduceMul, reduceSub, reduceEqDiff, reduceLT, ↓reduceIte, Int.reduceToNat, reduceLeDiff]
  (refine W_if rfl (fun hc => ?_) (fun hc => ?_) <;> (try simp only [TS] at hc))
  · have h1 : blankB (bt s at_) = false ∧ bt s at_ ≠ 35 := by
      unfold letterB at hc; unfold blankB
      simp only [Bool.and_eq_true, decide_eq_true_eq, Bool.or_eq_false_iff, beq_eq_false_iff_ne] at *
      omega
    rw [h1.1, hc, if_neg (by simp), if_neg h1.2, if_pos rfl] at hP
    have hw0 : wordB (bt s at_) = true := by unfold wordB; rw [hc]; rfl
    simp +contextual (maxSteps := 2000000) (disch := first | omega | (simp only [SZ]; first | done | omega) | (simp only [TS] at *; omega)) only [RZ, ovw, oneC, reduceAdd, reduceMul, reduceSub, reduceEqDiff, reduceLT, ↓reduceIte, Int.reduceToNat, reduceLeDiff]
    refine Raw_loop (fun σ w' => w = w' ∧ ∃ k : Nat, at_ < k ∧ k ≤ s.size ∧ (∀ j, at_ ≤ j → j < k → wordB (bt s j) = true) ∧ σ 0 = .string s ∧ σ 7 = .int .i64 k) (fun σ _ => s.size - (intOf (σ 7)).toNat) ?_ ?_
    · simp +contextual (maxSteps := 2000000) (disch := first | omega | (simp only [SZ]; first | done | omega) | (simp only [TS] at *; omega)) only [RZ, ovw, oneC, reduceAdd, reduceMul, reduceSub, reduceEqDiff, reduceLT, ↓reduceIte, Int.reduceToNat, reduceLeDiff]
      exact ⟨at_ + 1, Nat.lt_succ_self _, ha, fun j h h' => by rw [show j = at_ from by omega]; exact hw0, rfl⟩
    rintro σ w' ⟨rfl, k, hk1, hk2, hq, e0, e7⟩ K hK
    by_cases hks : k < s.size
    · have hd : decide ((k : Int) < s.size) = true := decide_eq_true (by omega)
      simp +contextual (maxSteps := 2000000) (disch := first | omega | (simp only [SZ]; first | done | omega) | (simp only [TS] at *; omega)) only [RZ, ovw, oneC, reduceAdd, reduceMul, reduceSub, reduceEqDiff, reduceLT, ↓reduceIte, Int.reduceToNat, reduceLeDiff,  e0, e7, hd]
      refine (rletter_any _ _).mono ?_
      rintro e w' ⟨rfl, rfl⟩
      refine ⟨_, rfl, ?_⟩
      rw [letterIB]
      simp +contextual (maxSteps := 2000000) (disch := first | omega | (simp only [SZ]; first | done | omega) | (simp only [TS] at *; omega)) only [RZ, ovw, oneC, reduceAdd, reduceMul, reduceSub, reduceEqDiff, reduceLT, ↓reduceIte, Int.reduceToNat, reduceLeDiff,  e0, e7, hd]
      refine GB_call (fun _ => rdigit_any _ _) ?_
      rw [digitIB]
      simp +contextual (maxSteps := 2000000) (disch := first | omega | (simp only [SZ]; first | done | omega) | (simp only [TS] at *; omega)) only [RZ, ovw, oneC, reduceAdd, reduceMul, reduceSub, reduceEqDiff, reduceLT, ↓reduceIte, Int.reduceToNat, reduceLeDiff,  e0, e7, hd]
      (refine W_if rfl (fun hc => ?_) (fun hc => ?_) <;> (try simp only [TS] at hc))
      · have hw : wordB (bt s k) = true := by
          unfold wordB
          simp only [Bool.or_eq_true, beq_iff_eq]
          rcases hc with hc | hc
          · exact .inl hc
          · exact .inr (by omega)
        simp +contextual (maxSteps := 2000000) (disch := first | omega | (simp only [SZ]; first | done | omega) | (simp only [TS] at *; omega)) only [RZ, ovw, oneC, reduceAdd, reduceMul, reduceSub, reduceEqDiff, reduceLT, ↓reduceIte, Int.reduceToNat, reduceLeDiff,  e0, e7]
        refine hK _ _ ⟨rfl, k + 1, by omega, hks, fun j h h' => ?_, e0, rfl⟩ ?_
        · by_cases hj : j < k
          · exact hq j h hj
          · rw [show j = k from by omega]; exact hw
        · show s.size - (intOf (.int .i64 ((k : Int) + 1))).toNat < s.size - (intOf (σ 7)).toNat; rw [e7]; simp only [intOf]; omega
      · have hw : wordB (bt s k) = false := by
          unfold wordB
          simp only [Bool.or_eq_false_iff, beq_eq_false_iff_ne, ne_eq]
          exact ⟨hc.1, by omega⟩
        have hsp := spn_seg (a := at_) (b := k) (by omega) hk2 hq (fun _ => hw)
        rw [hP, hsp, if_neg (by simp; omega)]
        simp +contextual (maxSteps := 2000000) (disch := first | omega | (simp only [SZ]; first | done | omega) | (simp only [TS] at *; omega)) only [RZ, ovw, oneC, reduceAdd, reduceMul, reduceSub, reduceEqDiff, reduceLT, ↓reduceIte, Int.reduceToNat, reduceLeDiff,  e7]
        refine congrArg _ (congrArg Value.tuple ?_)
        congr 2
        · congr 1; omega
    · have hd : decide ((k : Int) < s.size) = false := decide_eq_false (by omega)
      have hsp := spn_seg (a := at_) (b := k) (by omega) hk2 hq (fun h => absurd h hks)
      rw [hP, hsp, if_neg (by simp; omega)]
      simp +contextual (maxSteps := 2000000) (disch := first | omega | (simp only [SZ]; first | done | omega) | (simp only [TS] at *; omega)) only [RZ, ovw, oneC, reduceAdd, reduceMul, reduceSub, reduceEqDiff, reduceLT, ↓reduceIte, Int.reduceToNat, reduceLeDiff,  e0, e7, hd]
      refine W_if_f rfl ?_
      simp +contextual (maxSteps := 2000000) (disch := first | omega | (simp only [SZ]; first | done | omega) | (simp only [TS] at *; omega)) only [RZ, ovw, oneC, reduceAdd, reduceMul, reduceSub, reduceEqDiff, reduceLT, ↓reduceIte, Int.reduceToNat, reduceLeDiff,  e7]
      refine congrArg _ (congrArg Value.tuple ?_)
      congr 2
      · congr 1; omega
  have hlk := hc
  clear hc
  simp +contextual (maxSteps := 2000000) (disch := first | omega | (simp only [SZ]; first | done | omega) | (simp only [TS] at *; omega)) only [RZ, ovw, oneC, reduceAdd, reduceMul, reduceSub, reduceEqDiff, reduceLT, ↓reduceIte, Int.reduceToNat, reduceLeDiff]
  refine (rdigit_any _ _).mono ?_
  rintro e w' ⟨rfl, rfl⟩
  refine ⟨_, rfl, ?_⟩
  rw [digitIB]
  simp +contextual (maxSteps := 2000000) (disch := first | omega | (simp only [SZ]; first | done | omega) | (simp only [TS] at *; omega)) only [RZ, ovw, oneC, reduceAdd, reduceMul, reduceSub, reduceEqDiff, reduceLT, ↓reduceIte, Int.reduceToNat, reduceLeDiff]
  (refine W_if rfl (fun hc => ?_) (fun hc => ?_) <;> (try simp only [TS] at hc))
  · have hdg := hc
    have h1 : blankB (bt s at_) = false ∧ bt s at_ ≠ 35 := by
      unfold digitB at hc; unfold blankB
      simp only [Bool.and_eq_true, decide_eq_true_eq, Bool.or_eq_false_iff, beq_eq_false_iff_ne] at *
      omega
    rw [h1.1, hlk, hc, if_neg (by simp), if_neg h1.2, if_neg (by simp), if_pos rfl] at hP
    clear hc
    simp +contextual (maxSteps := 2000000) (disch := first | omega | (simp only [SZ]; first | done | omega) | (simp only [TS] at *; omega)) only [RZ, ovw, oneC, reduceAdd, reduceMul, reduceSub, reduceEqDiff, reduceLT, ↓reduceIte, Int.reduceToNat, reduceLeDiff]
    refine Raw_loop (fun σ w' => w = w' ∧ ∃ k : Nat, at_ < k ∧ k ≤ s.size ∧ (∀ j, at_ ≤ j → j < k → digitB (bt s j) = true) ∧ σ 0 = .string s ∧ σ 1 = .int .i64 at_ ∧ σ 6 = .int .u8 (bt s at_) ∧ σ 7 = .int .i64 k) (fun σ _ => s.size - (intOf (σ 7)).toNat) ?_ ?_
    · simp +contextual (maxSteps := 2000000) (disch := first | omega | (simp only [SZ]; first | done | omega) | (simp only [TS] at *; omega)) only [RZ, ovw, oneC, reduceAdd, reduceMul, reduceSub, reduceEqDiff, reduceLT, ↓reduceIte, Int.reduceToNat, reduceLeDiff]
      exact ⟨at_ + 1, Nat.lt_succ_self _, ha, fun j h h' => by rw [show j = at_ from by omega]; exact hdg, rfl⟩
    rintro σ w' ⟨rfl, k, hk1, hk2, hq, e0, e1, e6, e7⟩ K hK
    by_cases hks : k < s.size
    · have hd : decide ((k : Int) < s.size) = true := decide_eq_true (by omega)
      simp +contextual (maxSteps := 2000000) (disch := first | omega | (simp only [SZ]; first | done | omega) | (simp only [TS] at *; omega)) only [RZ, ovw, oneC, reduceAdd, reduceMul, reduceSub, reduceEqDiff, reduceLT, ↓reduceIte, Int.reduceToNat, reduceLeDiff,  e0, e1, e6, e7, hd]
      refine (rdigit_any _ _).mono ?_
      rintro e w' ⟨rfl, rfl⟩
      refine ⟨_, rfl, ?_⟩
      rw [digitIB]
      simp +contextual (maxSteps := 2000000) (disch := first | omega | (simp only [SZ]; first | done | omega) | (simp only [TS] at *; omega)) only [RZ, ovw, oneC, reduceAdd, reduceMul, reduceSub, reduceEqDiff, reduceLT, ↓reduceIte, Int.reduceToNat, reduceLeDiff,  e0, e1, e6, e7, hd]
      (refine W_if rfl (fun hc => ?_) (fun hc => ?_) <;> (try simp only [TS] at hc))
      · have hw := hc
        simp +contextual (maxSteps := 2000000) (disch := first | omega | (simp only [SZ]; first | done | omega) | (simp only [TS] at *; omega)) only [RZ, ovw, oneC, reduceAdd, reduceMul, reduceSub, reduceEqDiff, reduceLT, ↓reduceIte, Int.reduceToNat, reduceLeDiff,  e0, e1, e6, e7]
        refine hK _ _ ⟨rfl, k + 1, by omega, hks, fun j h h' => ?_, e0, e1, e6, rfl⟩ ?_
        · by_cases hj : j < k
          · exact hq j h hj
          · rw [show j = k from by omega]; exact hw
        · show s.size - (intOf (.int .i64 ((k : Int) + 1))).toNat < s.size - (intOf (σ 7)).toNat; rw [e7]; simp only [intOf]; omega
      · have hsp := spn_seg (a := at_) (b := k) (by omega) hk2 hq (fun _ => hc)
        clear hc
        rw [hsp] at hP
        simp +contextual (maxSteps := 2000000) (disch := first | omega | (simp only [SZ]; first | done | omega) | (simp only [TS] at *; omega)) only [RZ, ovw, oneC, reduceAdd, reduceMul, reduceSub, reduceEqDiff, reduceLT, ↓reduceIte, Int.reduceToNat, reduceLeDiff,  e0, e1, e6, e7]
        (refine W_if rfl (fun hc => ?_) (fun hc => ?_) <;> (try simp only [TS] at hc))
        · have hbn : badN (k - at_) (bt s at_) = false := by
            unfold badN
            simp only [Bool.or_eq_false_iff, Bool.and_eq_false_iff, decide_eq_false_iff_not, beq_eq_false_iff_ne, ne_eq]
            omega
          rw [hbn, if_neg (by simp)] at hP
          rw [hP, if_neg (by simp; omega)]
          simp +contextual (maxSteps := 2000000) (disch := first | omega | (simp only [SZ]; first | done | omega) | (simp only [TS] at *; omega)) only [RZ, ovw, oneC, reduceAdd, reduceMul, reduceSub, reduceEqDiff, reduceLT, ↓reduceIte, Int.reduceToNat, reduceLeDiff,  e0, e1, e6, e7]
          refine congrArg _ (congrArg Value.tuple ?_)
          congr 2
          · congr 1; omega
        · have hbn : badN (k - at_) (bt s at_) = true := by
            unfold badN
            simp only [Bool.or_eq_true, Bool.and_eq_true, decide_eq_true_eq, beq_iff_eq]
            omega
          rw [hbn, if_pos rfl] at hP
          rw [hP, if_pos (.inr rfl)]
          simp +contextual (maxSteps := 2000000) (disch := first | omega | (simp only [SZ]; first | done | omega) | (simp only [TS] at *; omega)) only [RZ, ovw, oneC, reduceAdd, reduceMul, reduceSub, reduceEqDiff, reduceLT, ↓reduceIte, Int.reduceToNat, reduceLeDiff,  e0, e1, e6, e7]
          exact congrArg (fun z => Ending.returned (.tuple #[.int .i64 z, .int .i64 0])) (Int.add_zero _).symm
    · have hd : decide ((k : Int) < s.size) = false := decide_eq_false (by omega)
      have hsp := spn_seg (a := at_) (b := k) (by omega) hk2 hq (fun h => absurd h hks)
      rw [hsp] at hP
      simp +contextual (maxSteps := 2000000) (disch := first | omega | (simp only [SZ]; first | done | omega) | (simp only [TS] at *; omega)) only [RZ, ovw, oneC, reduceAdd, reduceMul, reduceSub, reduceEqDiff, reduceLT, ↓reduceIte, Int.reduceToNat, reduceLeDiff,  e0, e1, e6, e7, hd]
      refine W_if_f rfl ?_
      simp +contextual (maxSteps := 2000000) (disch := first | omega | (simp only [SZ]; first | done | omega) | (simp only [TS] at *; omega)) only [RZ, ovw, oneC, reduceAdd, reduceMul, reduceSub, reduceEqDiff, reduceLT, ↓reduceIte, Int.reduceToNat, reduceLeDiff,  e0, e1, e6, e7]
      (refine W_if rfl (fun hc => ?_) (fun hc => ?_) <;> (try simp only [TS] at hc))
      · have hbn : badN (k - at_) (bt s at_) = false := by
          unfold badN
          simp only [Bool.or_eq_false_iff, Bool.and_eq_false_iff, decide_eq_false_iff_not, beq_eq_false_iff_ne, ne_eq]
          omega
        rw [hbn, if_neg (by simp)] at hP
        rw [hP, if_neg (by simp; omega)]
        simp +contextual (maxSteps := 2000000) (disch := first | omega | (simp only [SZ]; first | done | omega) | (simp only [TS] at *; omega)) only [RZ, ovw, oneC, reduceAdd, reduceMul, reduceSub, reduceEqDiff, reduceLT, ↓reduceIte, Int.reduceToNat, reduceLeDiff,  e0, e1, e6, e7]
        refine congrArg _ (congrArg Value.tuple ?_)
        congr 2
        · congr 1; omega
      · have hbn : badN (k - at_) (bt s at_) = true := by
          unfold badN
          simp only [Bool.or_eq_true, Bool.and_eq_true, decide_eq_true_eq, beq_iff_eq]
          omega
        rw [hbn, if_pos rfl] at hP
        rw [hP, if_pos (.inr rfl)]
        simp +contextual (maxSteps := 2000000) (disch := first | omega | (simp only [SZ]; first | done | omega) | (simp only [TS] at *; omega)) only [RZ, ovw, oneC, reduceAdd, reduceMul, reduceSub, reduceEqDiff, reduceLT, ↓reduceIte, Int.reduceToNat, reduceLeDiff,  e0, e1, e6, e7]
        exact congrArg (fun z => Ending.returned (.tuple #[.int .i64 z, .int .i64 0])) (Int.add_zero _).symm
  · have hdk := hc
    clear hc
    have hz : (piece ((bs s).drop at_)).1 = 0 := by
      rw [hP]
      repeat' split
      all_goals first | rfl | simp_all
    rw [if_pos (.inl hz)]
    simp +contextual (maxSteps := 2000000) (disch := first | omega | (simp only [SZ]; first | done | omega) | (simp only [TS] at *; omega)) only [RZ, ovw, oneC, reduceAdd, reduceMul, reduceSub, reduceEqDiff, reduceLT, ↓reduceIte, Int.reduceToNat, reduceLeDiff]
    exact congrArg (fun z => Ending.returned (.tuple #[.int .i64 z, .int .i64 0])) (Int.add_zero _).symm
end Go.Proofs.YtbdkggnajipdhaaGreatDoor
