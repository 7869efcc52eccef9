/- Texts laid one behind the other: RgD, RgE. Each says at its head what it proves. -/
import Derived.Test.YtbdkggnajipdhaaGreatDoorRtPsZ15
set_option linter.unusedSimpArgs false
/- The reference's reader of games: days. -/
namespace Go.Proofs.YtbdkggnajipdhaaGreatDoor
open Nat (reduceAdd reduceMul reduceSub reduceEqDiff reduceLT reduceLeDiff)
open Go.RowKit
set_option maxRecDepth 100000
section
variable {base g c a k : Nat} {A : Option Addr} {T : List Tk} {w : World} {G : Gm} {seen : List (List Nat)} {Va Vt Vn : Value} {Vs : List (List Value)} {Q : List ByteArray} {x : Except (Int × List Tk) (List Tk)}
theorem tok_w (hW : TokW T) (ha : a < T.length) : ((hdT (T.drop a)).kind = 0 ∧ bs (hdT (T.drop a)).text = []) ∨ ∃ k : Nat, (hdT (T.drop a)).kind = k ∧ good k (bs (hdT (T.drop a)).text) := hW _ (tok_mem ha)
theorem isWM_word (hW : TokW T) (ha : a < T.length) {ch : Nat} {r : List Nat} (hc : letterB ch = true) : isWM (ch :: r) (T.drop a) = decide ((hdT (T.drop a)).kind = 1 ∧ bs (hdT (T.drop a)).text = ch :: r) := by
  unfold isWM
  refine decide_eq_decide.2 ⟨fun ⟨h1, h2⟩ => ⟨?_, h2⟩, fun ⟨h1, h2⟩ => ⟨.inl h1, h2⟩⟩
  rcases h1 with h1 | h1
  · exact h1
  · rcases tok_w hW ha with ⟨h3, _⟩ | ⟨kk, h3, h4⟩
    · omega
    · rcases h4 with ⟨rfl, _⟩ | ⟨rfl, _⟩ | ⟨rfl, d, h5, h6⟩
      · exact h3
      · omega
      · rw [h2] at h5
        injection h5 with h5 _
        subst h5
        unfold letterB at hc
        unfold markB at h6
        simp only [Bool.and_eq_true, decide_eq_true_eq, Bool.or_eq_true, beq_iff_eq] at hc h6
        omega
theorem isWM_mark (hW : TokW T) (ha : a < T.length) {d : Nat} (hd : markB d = true) : isWM [d] (T.drop a) = decide ((hdT (T.drop a)).kind = 3 ∧ bs (hdT (T.drop a)).text = [d]) := by
  unfold isWM
  refine decide_eq_decide.2 ⟨fun ⟨h1, h2⟩ => ⟨?_, h2⟩, fun ⟨h1, h2⟩ => ⟨.inr h1, h2⟩⟩
  rcases h1 with h1 | h1
  · rcases tok_w hW ha with ⟨h3, _⟩ | ⟨kk, h3, h4⟩
    · omega
    · rcases h4 with ⟨rfl, ⟨ch, r, h5, h6⟩, _⟩ | ⟨rfl, _⟩ | ⟨rfl, _⟩
      · rw [h2] at h5
        injection h5 with h5 _
        subst h5
        unfold letterB at h6
        unfold markB at hd
        simp only [Bool.and_eq_true, decide_eq_true_eq, Bool.or_eq_true, beq_iff_eq] at hd h6
        omega
      · omega
      · exact h3
  · exact h1
theorem needX_is (k : Int) {u : List Nat} {L : List Tk} (h : isWM u L = decide ((hdT L).kind = k ∧ bs (hdT L).text = u)) : needX u L = thenT (isT k u L) L fun L' => .ok ((), L') := by
  unfold needX isT
  rw [h]
  by_cases hk : (hdT L).kind = k ∧ bs (hdT L).text = u
  · rw [decide_eq_true hk, if_pos rfl, if_pos hk]; rfl
  · rw [decide_eq_false hk, if_neg (by simp), if_neg hk]; rfl
theorem Rs.at_ {L : List Tk} {rest : List Value} (h : Rs w g A c T (.ok L) rest) : ∃ a, L = T.drop a ∧ a < T.length := by
  obtain ⟨a, er, ln, h1, h2, h3⟩ := h
  exact ⟨a, h3, h1.lt⟩
theorem day_word : (dayW.all fun w => match w with | ch :: _ => letterB ch | [] => false) = true := by decide +kernel
theorem day_kind (hW : TokW T) (ha : a < T.length) {i : Nat} (h : dayI (bs (hdT (T.drop a)).text) = some i) : (hdT (T.drop a)).kind = 1 ∧ i < 7 := by
  unfold dayI at h
  obtain ⟨h1, h2, _⟩ := List.findIdx?_eq_some_iff_getElem.1 h
  have h2 := of_decide_eq_true h2
  have hm : dayW[i] ∈ dayW := List.getElem_mem h1
  have := List.all_eq_true.1 day_word _ hm
  rw [h2] at this
  refine ⟨?_, h1⟩
  rcases tok_w hW ha with ⟨_, h3⟩ | ⟨kk, h3, h4⟩
  · rw [h3] at this; cases this
  · rcases h4 with ⟨rfl, _⟩ | ⟨rfl, ⟨ch, r, h5, _⟩, h6⟩ | ⟨rfl, d, h5, h6⟩
    · exact h3
    · rw [h5] at this h6
      have h7 := h6 ch (by simp)
      dsimp only at this
      unfold letterB at this
      unfold digitB at h7
      simp only [Bool.and_eq_true, decide_eq_true_eq] at this h7
      omega
    · rw [h5] at this
      dsimp only at this
      unfold letterB at this
      unfold markB at h6
      simp only [Bool.and_eq_true, decide_eq_true_eq, Bool.or_eq_true, beq_iff_eq] at this h6
      omega
theorem PrIn.atOf {a : Nat} {rest : List Value} {er ln : Int} (h : PrIn w g A c T a rest er ln) : Go.Proofs.YtbdkggnajipdhaaGreatDoor.atOf w g = a := by
  unfold Go.Proofs.YtbdkggnajipdhaaGreatDoor.atOf
  rw [h.c1]
  exact Int.toNat_natCast a
/-- What days gives. -/
def DayO (g : Nat) (A : Option Addr) (c : Nat) (T : List Tk) (G : Gm) (Va Vt Vn : Value) (D : Except (Int × List Tk) ((Int × Int) × List Tk)) (w w' : World) : Prop := Kept [g] w w' ∧ match D with
  | .ok y => Rs w' g A c T (.ok y.2) (gmV { G with n := putN (putN G.n 9 y.1.1) 10 y.1.2 } Va Vt ++ [Vn])
  | .error y => ∃ rest, Rs w' g A c T (.error y) rest
set_option maxHeartbeats 1000000 in
theorem rgDaysItem_any (h : Rs w g A c T (.ok (T.drop a)) (gmV G Va Vt ++ [Vn])) (h9 : G.n 9 = 0) (hT : TokOk T) (hW : TokW T) : Calls Tryz.prog 66 #[.pointer (some ⟨g, 0, none⟩)] w fun e w' => (∃ v, e = .returned v) ∧ DayO g A c T G Va Vt Vn (dayT (T.drop a)) w w' := by
  refine calls_W (l := [_]) Tryz.func66 rfl _ Tryz.ntmps66 (by simp) ?_
  generalize hD : dayT (T.drop a) = D
  unfold dayT at hD
  obtain ⟨a0, er, ln, p0, hx⟩ := h.cases
  rcases hx with ⟨rfl, hx⟩ | ⟨_, _, hx, _⟩
  rotate_left
  · cases hx
  injection hx with hx
  rw [hx] at hD h
  clear hx
  refine W_pieceP (fun _ _ _ h => h.elim) fun K hK hX hP => ?_
  refine W_pieceP hP fun K2 hK2 hX2 hP2 => ?_
  simp +contextual (maxSteps := 2000000) (disch := first | omega | (simp only [SZ]; first | done | omega) | (simp only [TS] at *; omega)) only [RZ, ovw, oneC, reduceAdd, reduceMul, reduceSub, reduceEqDiff, reduceLT, ↓reduceIte, Int.reduceToNat, reduceLeDiff]
  refine Raw_ord (fun w' => Below w.heap.size w w') 20 rfl MX ?_
  have hJ0 : Below w.heap.size w w.drew := below_drew (Below.refl _ _)
  have hlt := p0.lt
  have hbig := hT.big
  obtain ⟨b, o, rfl, hb, hbg, l0, l1, l2, l3⟩ := p0.tok
  have c0 := p0.c0
  have c1 := p0.c1
  have c25 := p0.c25
  have hgl := p0.row.lt
  refine Ord_readsG (τ := ?ta) [0, 1, 2, 3, 4, 5, 6, 7, 8, 9, 10, 11, 12, 13, 14, 15, 16] 3 rfl (by kernel_rfl) (by kernel_rfl) hP2 hJ0 ?va ?ga ?_
  case va =>
    intro w7 h7
    have k := (bcell h7).1
    have l3 := (k _ _ hb).trans l3
    have c0 := (k _ _ hgl).trans c0
    have c1 := (k _ _ hgl).trans c1
    have c25 := (k _ _ hgl).trans c25
    simp only [opsL_cons, opsL_nil, List.getElem?_toArray, List.getElem?_cons_zero, List.getElem?_cons_succ, optL_some]
    simp +contextual (maxSteps := 2000000) (disch := first | omega | (simp only [SZ]; first | done | omega) | (simp only [TS] at *; omega)) only [RZ, ovw, oneC, reduceAdd, reduceMul, reduceSub, reduceEqDiff, reduceLT, ↓reduceIte, Int.reduceToNat, reduceLeDiff,  c0, c1, c25, l3]
    exact rfl
  case ga =>
    simp only [GOk_cons, GOk_nil, List.getElem?_toArray, List.getElem?_cons_zero, List.getElem?_cons_succ, optG_n, optG_s, true_and, and_true]
    simp +contextual (maxSteps := 2000000) (disch := first | omega | (simp only [SZ]; first | done | omega) | (simp only [TS] at *; omega)) only [RZ, ovw, oneC, reduceAdd, reduceMul, reduceSub, reduceEqDiff, reduceLT, ↓reduceIte, Int.reduceToNat, reduceLeDiff]
  refine Ord_oneg 17 (by kernel_rfl) rfl ?_
  simp +contextual (maxSteps := 2000000) (disch := first | omega | (simp only [SZ]; first | done | omega) | (simp only [TS] at *; omega)) only [RZ, ovw, oneC, reduceAdd, reduceMul, reduceSub, reduceEqDiff, reduceLT, ↓reduceIte, Int.reduceToNat, reduceLeDiff]
  refine (rgWeekday_any (hdT (T.drop a0)).text _).mono ?_
  rintro e w2 ⟨rfl, hB2⟩
  refine ⟨_, rfl, ?_⟩
  have hJ2 := hJ0.trans hB2
  refine ⟨hJ2, ?_⟩
  have hwd7 : -1 ≤ dayZ (dayI (bs (hdT (T.drop a0)).text)) ∧ dayZ (dayI (bs (hdT (T.drop a0)).text)) < 7 := by
    cases hdi : dayI (bs (hdT (T.drop a0)).text) with
    | none => exact ⟨by decide, by decide⟩
    | some i => have := (day_kind hW hlt hdi).2; unfold dayZ; dsimp only; omega
  generalize hwd : dayZ (dayI (bs (hdT (T.drop a0)).text)) = wd at *
  refine Ord_chainS _ [18, 19] _ _ _ (by kernel_rfl) ?_
  simp only [opsL_cons, opsL_nil, List.getElem?_toArray, List.getElem?_cons_zero, List.getElem?_cons_succ, optL_some]
  simp +contextual (maxSteps := 2000000) (disch := first | omega | (simp only [SZ]; first | done | omega) | (simp only [TS] at *; omega)) only [RZ, ovw, oneC, reduceAdd, reduceMul, reduceSub, reduceEqDiff, reduceLT, ↓reduceIte, Int.reduceToNat, reduceLeDiff,  EC_op, EC_opg, EC_nil, hJ2]
  refine hK2 _ _ ?_
  clear hK2 hX2 hP2 K2
  have p2 := p0.below hJ2
  have k2 : Kept [g] w w2 := Kept.of_below hJ2
  clear hJ0 hJ2 hB2 c0 c1 c25 l0 l1 l2 l3
  refine W_cut (fun σ w3 => σ 0 = .pointer (some ⟨g, 0, none⟩) ∧ ∃ x1, Rs w3 g (some ⟨b, o, none⟩) c T x1 (gmV G Va Vt ++ [Vn]) ∧ Kept [g] w w3 ∧
    ((x1 = .ok (T.drop a0) ∧ dayI (bs (hdT (T.drop a0)).text) ≠ none) ∨ (x1 = .error (1, T.drop a0) ∧ dayI (bs (hdT (T.drop a0)).text) = none))) ?_ ?_
  rotate_left
  · by_cases hw0 : wd < 0
    · have e1 : (wd < 0) = True := eq_true hw0
      have hdn : dayI (bs (hdT (T.drop a0)).text) = none := by
        cases hdi : dayI (bs (hdT (T.drop a0)).text) with
        | none => rfl
        | some i => rw [hdi] at hwd; unfold dayZ at hwd; dsimp only at hwd; omega
      refine W_if_t (by simp +contextual (maxSteps := 2000000) (disch := first | omega | (simp only [SZ]; first | done | omega) | (simp only [TS] at *; omega)) only [RZ, ovw, oneC, reduceAdd, reduceMul, reduceSub, reduceEqDiff, reduceLT, ↓reduceIte, Int.reduceToNat, reduceLeDiff,  e1]) ?_
      simp +contextual (maxSteps := 2000000) (disch := first | omega | (simp only [SZ]; first | done | omega) | (simp only [TS] at *; omega)) only [RZ, ovw, oneC, reduceAdd, reduceMul, reduceSub, reduceEqDiff, reduceLT, ↓reduceIte, Int.reduceToNat, reduceLeDiff]
      refine (rgFail_any 1 (by decide) p2.rs).mono ?_
      rintro e w3 ⟨⟨v, rfl⟩, h3, k3⟩
      refine ⟨_, rfl, ?_⟩
      try simp +contextual (maxSteps := 2000000) (disch := first | omega | (simp only [SZ]; first | done | omega) | (simp only [TS] at *; omega)) only [RZ, ovw, oneC, reduceAdd, reduceMul, reduceSub, reduceEqDiff, reduceLT, ↓reduceIte, Int.reduceToNat, reduceLeDiff,  cutX_normal, cutX_ret, cutX_exit, cut2X_normal, cut2X_ret, cut2X_same, cut2X_ne]
      exact ⟨_, h3, k2.trans k3, .inr ⟨rfl, hdn⟩⟩
    · have e1 : (wd < 0) = False := eq_false hw0
      have hdn : dayI (bs (hdT (T.drop a0)).text) ≠ none := by
        intro hdi
        rw [hdi] at hwd
        unfold dayZ at hwd
        dsimp only at hwd
        omega
      refine W_if_f (by simp +contextual (maxSteps := 2000000) (disch := first | omega | (simp only [SZ]; first | done | omega) | (simp only [TS] at *; omega)) only [RZ, ovw, oneC, reduceAdd, reduceMul, reduceSub, reduceEqDiff, reduceLT, ↓reduceIte, Int.reduceToNat, reduceLeDiff,  e1]) ?_
      simp +contextual (maxSteps := 2000000) (disch := first | omega | (simp only [SZ]; first | done | omega) | (simp only [TS] at *; omega)) only [RZ, ovw, oneC, reduceAdd, reduceMul, reduceSub, reduceEqDiff, reduceLT, ↓reduceIte, Int.reduceToNat, reduceLeDiff,  cutX_normal, cutX_ret, cutX_exit, cut2X_normal, cut2X_ret, cut2X_same, cut2X_ne]
      exact ⟨_, p2.rs, k2, .inl ⟨rfl, hdn⟩⟩
  rintro σ w3 ⟨f0, x1, h3, k3, hx1⟩
  refine hK _ _ ?_
  clear hK hX hP K
  generalize hD0 : daysT (T.drop a0).length (T.drop a0) 0 = D0 at *
  rw [List.length_drop] at hD0
  have hat : bs ⟨#[97, 116]⟩ = asc "at" := by decide +kernel
  have hatd : dayI (asc "at") = none := by decide +kernel
  refine W_cutS (fun σ w4 => σ 0 = .pointer (some ⟨g, 0, none⟩) ∧ ∃ (d : Nat) (x2 : Except (Int × List Tk) (List Tk)), Rs w4 g (some ⟨b, o, none⟩) c T x2 (gmV { G with n := putN G.n 9 d } Va Vt ++ [Vn]) ∧ Kept [g] w w4 ∧
    sndX (bindT x2 (needX (asc "at"))) = sndX D0 ∧ ∀ y, D0 = .ok y → y.1 = d) ?_ ?_
  rotate_left
  · simp +contextual (maxSteps := 2000000) (disch := first | omega | (simp only [SZ]; first | done | omega) | (simp only [TS] at *; omega)) only [RZ, ovw, oneC, reduceAdd, reduceMul, reduceSub, reduceEqDiff, reduceLT, ↓reduceIte, Int.reduceToNat, reduceLeDiff,  f0]
    refine Raw_loop (fun σ w4 => σ 0 = .pointer (some ⟨g, 0, none⟩) ∧ ∃ (d : Nat) (x2 : Except (Int × List Tk) (List Tk)), Rs w4 g (some ⟨b, o, none⟩) c T x2 (gmV { G with n := putN G.n 9 d } Va Vt ++ [Vn]) ∧ Kept [g] w w4 ∧ d < 128 ∧
      ((∃ a1, x2 = .ok (T.drop a1) ∧ a1 < T.length ∧ D0 = daysT (T.length - a1) (T.drop a1) d ∧ (d = 0 → dayI (bs (hdT (T.drop a1)).text) ≠ none)) ∨ ∃ y, x2 = .error y ∧ D0 = .error y)) (fun _ w4 => T.length - atOf w4 g) ?_ ?_
    · have hn9 : ({ G with n := putN G.n 9 ((0 : Nat) : Int) } : Gm).n = G.n := by
        funext i
        show putN G.n 9 _ i = _
        unfold putN
        by_cases hi : i = 9
        · rw [if_pos hi, hi, h9]; rfl
        · rw [if_neg hi]
      have hG0 : gmV { G with n := putN G.n 9 ((0 : Nat) : Int) } Va Vt = gmV G Va Vt := by unfold gmV; rw [hn9]
      refine ⟨f0, 0, x1, by rw [hG0]; exact h3, k3, by decide, ?_⟩
      rcases hx1 with ⟨rfl, hdn⟩ | ⟨rfl, hdn⟩
      · exact .inl ⟨a0, rfl, hlt, hD0.symm, fun _ => hdn⟩
      · refine .inr ⟨_, rfl, ?_⟩
        rw [← hD0, show T.length - a0 = (T.length - a0 - 1) + 1 by omega]
        unfold daysT
        rw [if_neg (fun h => h.1 rfl), hdn]
        dsimp only
        split <;> rfl
    clear hx1 h3 k3 x1 f0
    rintro σ1 w4 ⟨f0, d, x2, h4, k4, hd7, hlink⟩ K hK
    obtain ⟨a4, er4, ln4, p4, hx4⟩ := h4.cases
    have c25 := p4.c25
    rcases hlink with ⟨a1, rfl, hlt1, hD1, hdn⟩ | ⟨y, rfl, hDy⟩
    · rcases hx4 with ⟨rfl, hx4⟩ | ⟨_, _, hx4, _⟩
      rotate_left
      · cases hx4
      injection hx4 with hx4
      obtain rfl : a4 = a1 := drop_same hx4 p4.lt hlt1
      clear hx4
      have hw1 := isWM_word hW hlt1 (ch := 97) (r := [116]) (by decide)
      rw [show ([97, 116] : List Nat) = asc "at" by decide +kernel] at hw1
      rw [show T.length - a4 = (T.length - a4 - 1) + 1 by omega] at hD1
      unfold daysT at hD1
      refine W_piece fun K2 hK2 hX2 => ?_
      refine W_piece fun K3 hK3 hX3 => ?_
      simp +contextual (maxSteps := 2000000) (disch := first | omega | (simp only [SZ]; first | done | omega) | (simp only [TS] at *; omega)) only [RZ, ovw, oneC, reduceAdd, reduceMul, reduceSub, reduceEqDiff, reduceLT, ↓reduceIte, Int.reduceToNat, reduceLeDiff,  f0, c25]
      refine (rgIs_any ⟨#[97, 116]⟩ h4).mono ?_
      rintro e w5 ⟨rfl, hB5⟩
      refine ⟨_, rfl, ?_⟩
      rw [hat, show isX (.ok (T.drop a4)) (asc "at") = isWM (asc "at") (T.drop a4) from rfl, hw1]
      have h5 := h4.below hB5
      have k5 := k4.trans (Kept.of_below hB5)
      have p5 := p4.below hB5
      by_cases hc : (hdT (T.drop a4)).kind = 1 ∧ bs (hdT (T.drop a4)).text = asc "at"
      · have hd0 : d ≠ 0 := fun h => hdn h (by rw [hc.2]; exact hatd)
        rw [if_pos ⟨hd0, hc⟩] at hD1
        rw [decide_eq_true hc]
        try simp +contextual (maxSteps := 2000000) (disch := first | omega | (simp only [SZ]; first | done | omega) | (simp only [TS] at *; omega)) only [RZ, ovw, oneC, reduceAdd, reduceMul, reduceSub, reduceEqDiff, reduceLT, ↓reduceIte, Int.reduceToNat, reduceLeDiff]
        refine hK3 _ _ ?_
        clear hK3 hX3 K3
        refine W_if_f rfl ?_
        rw [W_exit]
        refine hX2 _ _ _ (fun h => by cases h) ?_
        simp +contextual (maxSteps := 2000000) (disch := first | omega | (simp only [SZ]; first | done | omega) | (simp only [TS] at *; omega)) only [RZ, ovw, oneC, reduceAdd, reduceMul, reduceSub, reduceEqDiff, reduceLT, ↓reduceIte, Int.reduceToNat, reduceLeDiff,  f0]
        refine ⟨d, _, h5, k5, ?_, fun y hy => ?_⟩
        · rw [hD1]
          show sndX (needX _ _) = _
          rw [needX_is 1 hw1]
          unfold isT
          rw [if_pos hc]; rfl
        · rw [hD1] at hy; injection hy with hy; rw [← hy]
      · rw [if_neg (fun h => hc h.2)] at hD1
        rw [decide_eq_false hc]
        try simp +contextual (maxSteps := 2000000) (disch := first | omega | (simp only [SZ]; first | done | omega) | (simp only [TS] at *; omega)) only [RZ, ovw, oneC, reduceAdd, reduceMul, reduceSub, reduceEqDiff, reduceLT, ↓reduceIte, Int.reduceToNat, reduceLeDiff]
        refine hK3 _ _ ?_
        clear hK3 hX3 K3
        refine W_if_t rfl ?_
        rw [W_skip]
        refine hK2 _ _ ?_
        clear hK2 hX2 K2
        rw [W_block]
        refine W_pieceP (fun _ _ _ h => h) fun K2 hK2 hX2 hP2 => ?_
        simp +contextual (maxSteps := 2000000) (disch := first | omega | (simp only [SZ]; first | done | omega) | (simp only [TS] at *; omega)) only [RZ, ovw, oneC, reduceAdd, reduceMul, reduceSub, reduceEqDiff, reduceLT, ↓reduceIte, Int.reduceToNat, reduceLeDiff,  f0]
        have hJ0 : Below w5.heap.size w5 w5.drew := below_drew (Below.refl _ _)
        obtain ⟨b', o', e', hb4, hbg4, l0, l1, l2, l3⟩ := p5.tok
        injection e' with e'
        injection e' with e' e''
        subst e' e''
        have c0 := p5.c0
        have c1 := p5.c1
        have hgl5 := p5.row.lt
        refine Raw_ord (fun w' => Below w5.heap.size w5 w') 13 rfl MX ?_
        refine Ord_reads (τ := ?tb) [0, 1, 2, 3, 4, 5, 6, 7, 8, 9, 10] 2 rfl (by kernel_rfl) (by kernel_rfl) hP2 hJ0 ?vb ?_
        case vb =>
          intro w7 h7
          have k := (bcell h7).1
          have l3 := (k _ _ hb4).trans l3
          have c0 := (k _ _ hgl5).trans c0
          have c1 := (k _ _ hgl5).trans c1
          simp only [opsL_cons, opsL_nil, List.getElem?_toArray, List.getElem?_cons_zero, List.getElem?_cons_succ, optL_some]
          simp +contextual (maxSteps := 2000000) (disch := first | omega | (simp only [SZ]; first | done | omega) | (simp only [TS] at *; omega)) only [RZ, ovw, oneC, reduceAdd, reduceMul, reduceSub, reduceEqDiff, reduceLT, ↓reduceIte, Int.reduceToNat, reduceLeDiff,  f0, c0, c1, l3]
          exact rfl
        refine Ord_one 11 (by kernel_rfl) rfl ?_
        simp +contextual (maxSteps := 2000000) (disch := first | omega | (simp only [SZ]; first | done | omega) | (simp only [TS] at *; omega)) only [RZ, ovw, oneC, reduceAdd, reduceMul, reduceSub, reduceEqDiff, reduceLT, ↓reduceIte, Int.reduceToNat, reduceLeDiff]
        refine (rgWeekday_any (hdT (T.drop a4)).text _).mono ?_
        rintro e w6 ⟨rfl, hB6⟩
        refine ⟨_, rfl, ?_⟩
        have hJ6 := hJ0.trans hB6
        refine ⟨hJ6, ?_⟩
        have hwd7 : -1 ≤ dayZ (dayI (bs (hdT (T.drop a4)).text)) ∧ dayZ (dayI (bs (hdT (T.drop a4)).text)) < 7 := by
          cases hdi : dayI (bs (hdT (T.drop a4)).text) with
          | none => exact ⟨by decide, by decide⟩
          | some i => have := (day_kind hW hlt1 hdi).2; unfold dayZ; dsimp only; omega
        refine Ord_chainS _ [12] _ _ _ (by kernel_rfl) ?_
        simp only [opsL_cons, opsL_nil, List.getElem?_toArray, List.getElem?_cons_zero, List.getElem?_cons_succ, optL_some]
        simp +contextual (maxSteps := 2000000) (disch := first | omega | (simp only [SZ]; first | done | omega) | (simp only [TS] at *; omega)) only [RZ, ovw, oneC, reduceAdd, reduceMul, reduceSub, reduceEqDiff, reduceLT, ↓reduceIte, Int.reduceToNat, reduceLeDiff,  EC_op, EC_opg, EC_nil, hJ6]
        refine hK2 _ _ ?_
        clear hK2 hX2 hP2 K2
        have p6 := p5.below hJ6
        have k6 := k5.trans (Kept.of_below hJ6)
        clear hJ0 hJ6 hB6 c0 c1 l0 l1 l2 l3 hB5 h5
        have c12 : w6.cell? ⟨g, 12, none⟩ = some (.int .i64 (putN G.n 9 d 9)) := p6.cR (i := 10) rfl
        rw [show putN G.n 9 (d : Int) 9 = (d : Int) from if_pos rfl] at c12
        have y12 : w6.frozen? ⟨g, 12, none⟩ = false := p6.row.frozen 12
        have c1 := p6.c1
        have y1 := p6.row.frozen 1
        cases hdi : dayI (bs (hdT (T.drop a4)).text) with
        | none =>
          rw [hdi] at hD1 hwd7
          rw [show dayZ none = -1 from rfl]
          refine W_piece fun K2 hK2 hX2 => ?_
          refine W_piece fun K3 hK3 hX3 => ?_
          simp +contextual (maxSteps := 2000000) (disch := first | omega | (simp only [SZ]; first | done | omega) | (simp only [TS] at *; omega)) only [RZ, ovw, oneC, reduceAdd, reduceMul, reduceSub, reduceEqDiff, reduceLT, ↓reduceIte, Int.reduceToNat, reduceLeDiff,  f0]
          refine hK3 _ _ ?_
          clear hK3 hX3 K3
          refine W_if_t rfl ?_
          simp +contextual (maxSteps := 2000000) (disch := first | omega | (simp only [SZ]; first | done | omega) | (simp only [TS] at *; omega)) only [RZ, ovw, oneC, reduceAdd, reduceMul, reduceSub, reduceEqDiff, reduceLT, ↓reduceIte, Int.reduceToNat, reduceLeDiff,  f0]
          refine (rgFail_any 1 (by decide) p6.rs).mono ?_
          rintro e w7 ⟨⟨v, rfl⟩, h7, k7⟩
          refine ⟨_, rfl, ?_⟩
          try simp +contextual (maxSteps := 2000000) (disch := first | omega | (simp only [SZ]; first | done | omega) | (simp only [TS] at *; omega)) only [RZ, ovw, oneC, reduceAdd, reduceMul, reduceSub, reduceEqDiff, reduceLT, ↓reduceIte, Int.reduceToNat, reduceLeDiff]
          refine hX2 _ _ _ (fun h => by cases h) ?_
          simp +contextual (maxSteps := 2000000) (disch := first | omega | (simp only [SZ]; first | done | omega) | (simp only [TS] at *; omega)) only [RZ, ovw, oneC, reduceAdd, reduceMul, reduceSub, reduceEqDiff, reduceLT, ↓reduceIte, Int.reduceToNat, reduceLeDiff,  f0]
          have hDe : D0 = .error (1, T.drop a4) := by
            rw [hD1]
            dsimp only
            split <;> rfl
          rw [hDe] at hD
          dsimp only [bindT] at hD
          subst hD
          exact ⟨⟨_, rfl⟩, k6.trans k7, _, h7⟩
        | some i =>
          obtain ⟨hk1, hi7⟩ := day_kind hW hlt1 hdi
          rw [hdi, if_neg (fun h => h hk1)] at hD1
          dsimp only at hD1
          rw [show dayZ (some i) = (i : Int) from rfl]
          have hshr : ∀ (x y : Operand) (w : World), vBin Tryz.prog .shr 3 x y (.int .i64 d) (.int .i64 i) w = .ok (.value (.int .i64 ((d / 2 ^ i : Nat) : Int))) w := fun x y w => vBin_shrN hi7
          have hshl : ∀ (x y : Operand) (w : World), vBin Tryz.prog .shl 3 x y (.int .i64 1) (.int .i64 i) w = .ok (.value (.int .i64 ((2 ^ i : Nat) : Int))) w := fun x y w => vBin_shlN hi7
          have hle : d / 2 ^ i ≤ d := Nat.div_le_self _ _
          have hpw1 : 1 ≤ 2 ^ i := Nat.one_le_two_pow
          have hpw : 2 ^ i ≤ 64 := by
            have : ∀ j : Fin 7, 2 ^ j.1 ≤ 64 := by decide
            exact this ⟨i, hi7⟩
          have hadd : d / 2 ^ i % 2 ≠ 1 → d + 2 ^ i < 128 := fun hb => by
            have : ∀ (d : Fin 128) (j : Fin 7), d.1 / 2 ^ j.1 % 2 ≠ 1 → d.1 + 2 ^ j.1 < 128 := by decide +kernel
            exact this ⟨d, hd7⟩ ⟨i, hi7⟩ hb
          generalize d / 2 ^ i = dk at *
          refine W_piece fun K2 hK2 hX2 => ?_
          refine W_piece fun K3 hK3 hX3 => ?_
          have e0 : decide ((i : Int) < 0) = false := decide_eq_false (by omega)
          simp +contextual (maxSteps := 2000000) (disch := first | omega | (simp only [SZ]; first | done | omega) | (simp only [TS] at *; omega)) only [RZ, ovw, oneC, reduceAdd, reduceMul, reduceSub, reduceEqDiff, reduceLT, ↓reduceIte, Int.reduceToNat, reduceLeDiff,  f0, c12, hshr, e0]
          refine hK3 _ _ ?_
          clear hK3 hX3 K3
          by_cases hbit : dk % 2 = 1
          · rw [if_pos hbit] at hD1
            rw [show decide (((dk : Nat) : Int) % 2 = 1) = true by simp; omega]
            refine W_if_t rfl ?_
            simp +contextual (maxSteps := 2000000) (disch := first | omega | (simp only [SZ]; first | done | omega) | (simp only [TS] at *; omega)) only [RZ, ovw, oneC, reduceAdd, reduceMul, reduceSub, reduceEqDiff, reduceLT, ↓reduceIte, Int.reduceToNat, reduceLeDiff,  f0]
            refine (rgFail_any 1 (by decide) p6.rs).mono ?_
            rintro e w7 ⟨⟨v, rfl⟩, h7, k7⟩
            refine ⟨_, rfl, ?_⟩
            try simp +contextual (maxSteps := 2000000) (disch := first | omega | (simp only [SZ]; first | done | omega) | (simp only [TS] at *; omega)) only [RZ, ovw, oneC, reduceAdd, reduceMul, reduceSub, reduceEqDiff, reduceLT, ↓reduceIte, Int.reduceToNat, reduceLeDiff]
            refine hX2 _ _ _ (fun h => by cases h) ?_
            simp +contextual (maxSteps := 2000000) (disch := first | omega | (simp only [SZ]; first | done | omega) | (simp only [TS] at *; omega)) only [RZ, ovw, oneC, reduceAdd, reduceMul, reduceSub, reduceEqDiff, reduceLT, ↓reduceIte, Int.reduceToNat, reduceLeDiff,  f0]
            rw [hD1] at hD
            dsimp only [bindT] at hD
            subst hD
            exact ⟨⟨_, rfl⟩, k6.trans k7, _, h7⟩
          · rw [if_neg hbit] at hD1
            rw [show decide (((dk : Nat) : Int) % 2 = 1) = false by simp; omega]
            refine W_if_f rfl ?_
            rw [W_skip]
            refine hK2 _ _ ?_
            clear hK2 hX2 K2
            obtain ⟨n1, n2⟩ := nx_at hT hlt1 (by omega)
            generalize 2 ^ i = pw at *
            simp +contextual (maxSteps := 2000000) (disch := first | omega | (simp only [SZ]; first | done | omega) | (simp only [TS] at *; omega)) only [RZ, ovw, oneC, reduceAdd, reduceMul, reduceSub, reduceEqDiff, reduceLT, ↓reduceIte, Int.reduceToNat, reduceLeDiff,  f0]
            refine Raw_tail 12 MX (by kernel_rfl) ?_
            dsimp only [List.take, List.drop]
            have p7 := p6.drew
            have k7 := k6.drew
            simp +contextual (maxSteps := 2000000) (disch := first | omega | (simp only [SZ]; first | done | omega) | (simp only [TS] at *; omega)) only [RZ, ovw, oneC, reduceAdd, reduceMul, reduceSub, reduceEqDiff, reduceLT, ↓reduceIte, Int.reduceToNat, reduceLeDiff,  f0, c12, y12, c1, y1, hshl]
            have p8 := p7.setR (i := 10) (by decide) (.int .i64 ((d : Int) + pw))
            rw [List.set_append_left _ _ (by rw [gmV_len]; decide), gmV_set { G with n := putN G.n 9 (d : Int) } Va Vt (by decide)] at p8
            dsimp only at p8
            rw [putN_twice] at p8
            have p9 := p8.go n1
            have k9 := (k7.setCell (p := ⟨g, 12, none⟩) (by simp) (.int .i64 ((d : Int) + pw))).setCell (p := ⟨g, 1, none⟩) (by simp) (.int .i64 ((a4 : Int) + 1))
            refine hK _ _ ⟨?_, d + pw, _, p9.rs, k9, hadd hbit, .inl ⟨a4 + 1, rfl, n1, ?_, fun h => ?_⟩⟩ ?_
            · simp +contextual (maxSteps := 2000000) (disch := first | omega | (simp only [SZ]; first | done | omega) | (simp only [TS] at *; omega)) only [RZ, ovw, oneC, reduceAdd, reduceMul, reduceSub, reduceEqDiff, reduceLT, ↓reduceIte, Int.reduceToNat, reduceLeDiff,  f0]
            · rw [hD1, n2, show T.length - a4 - 1 = T.length - (a4 + 1) by omega]
            · omega
            · have e9 := p9.atOf
              have e4 := p4.atOf
              show T.length - atOf _ g < T.length - atOf w4 g
              rw [e4]
              refine Nat.lt_of_le_of_lt (Nat.le_of_eq (congrArg (T.length - ·) e9)) ?_
              omega
    · rcases hx4 with ⟨_, hx4⟩ | ⟨hne, L, hx4, hl⟩
      · cases hx4
      injection hx4 with hx4
      have e1 : (er4 = 0) = False := eq_false hne
      simp +contextual (maxSteps := 2000000) (disch := first | omega | (simp only [SZ]; first | done | omega) | (simp only [TS] at *; omega)) only [RZ, ovw, oneC, reduceAdd, reduceMul, reduceSub, reduceEqDiff, reduceLT, ↓reduceIte, Int.reduceToNat, reduceLeDiff,  f0, c25, e1]
      refine W_if_f rfl ?_
      simp +contextual (maxSteps := 2000000) (disch := first | omega | (simp only [SZ]; first | done | omega) | (simp only [TS] at *; omega)) only [RZ, ovw, oneC, reduceAdd, reduceMul, reduceSub, reduceEqDiff, reduceLT, ↓reduceIte, Int.reduceToNat, reduceLeDiff,  f0]
      refine ⟨d, _, h4, k4, by rw [hDy]; rfl, fun y' hy => by rw [hDy] at hy; cases hy⟩
  clear hx1 h3 k3 x1 f0
  rintro σ1 w4 ⟨f0, d, x2, h4, k4, hl4, hd4⟩
  try simp +contextual (maxSteps := 2000000) (disch := first | omega | (simp only [SZ]; first | done | omega) | (simp only [TS] at *; omega)) only [RZ, ovw, oneC, reduceAdd, reduceMul, reduceSub, reduceEqDiff, reduceLT, ↓reduceIte, Int.reduceToNat, reduceLeDiff,  f0]
  refine (rgNeed_any ⟨#[97, 116]⟩ hT h4).mono ?_
  rintro e w5 ⟨⟨v, rfl⟩, h5, k5⟩
  refine ⟨_, rfl, ?_⟩
  rw [hat, hl4] at h5
  try simp +contextual (maxSteps := 2000000) (disch := first | omega | (simp only [SZ]; first | done | omega) | (simp only [TS] at *; omega)) only [RZ, ovw, oneC, reduceAdd, reduceMul, reduceSub, reduceEqDiff, reduceLT, ↓reduceIte, Int.reduceToNat, reduceLeDiff,  f0]
  refine (rgNumberB_any 23 hT h5).mono ?_
  rintro e w6 ⟨v6, rfl, h6, k6, q6, b6⟩
  refine ⟨_, rfl, ?_⟩
  obtain ⟨b61, b62⟩ := b6 (by decide)
  try simp +contextual (maxSteps := 2000000) (disch := first | omega | (simp only [SZ]; first | done | omega) | (simp only [TS] at *; omega)) only [RZ, ovw, oneC, reduceAdd, reduceMul, reduceSub, reduceEqDiff, reduceLT, ↓reduceIte, Int.reduceToNat, reduceLeDiff,  f0]
  refine (rgNeed_any ⟨#[58]⟩ hT h6).mono ?_
  rintro e w7 ⟨⟨v, rfl⟩, h7, k7⟩
  refine ⟨_, rfl, ?_⟩
  try simp +contextual (maxSteps := 2000000) (disch := first | omega | (simp only [SZ]; first | done | omega) | (simp only [TS] at *; omega)) only [RZ, ovw, oneC, reduceAdd, reduceMul, reduceSub, reduceEqDiff, reduceLT, ↓reduceIte, Int.reduceToNat, reduceLeDiff,  f0]
  refine (rgNumberB_any 59 hT h7).mono ?_
  rintro e w8 ⟨v8, rfl, h8, k8, q8, b8⟩
  refine ⟨_, rfl, ?_⟩
  obtain ⟨b81, b82⟩ := b8 (by decide)
  obtain ⟨a8, er8, ln8, p8, hx8⟩ := h8.cases
  have c13 : w8.cell? ⟨g, 13, none⟩ = some (.int .i64 (putN G.n 9 d 10)) := p8.cR (i := 11) rfl
  have y13 : w8.frozen? ⟨g, 13, none⟩ = false := p8.row.frozen 13
  try simp +contextual (maxSteps := 2000000) (disch := first | omega | (simp only [SZ]; first | done | omega) | (simp only [TS] at *; omega)) only [RZ, ovw, oneC, reduceAdd, reduceMul, reduceSub, reduceEqDiff, reduceLT, ↓reduceIte, Int.reduceToNat, reduceLeDiff,  f0, c13, y13]
  refine ⟨⟨_, rfl⟩, ((((k4.trans k5).trans k6).trans k7).trans k8).setCell (p := ⟨g, 13, none⟩) (by simp) _, ?_⟩
  have h9' := h8.setR (i := 11) (by decide) (.int .i64 (60 * v6 + v8))
  cases D0 with
  | error y =>
    subst hD
    exact ⟨_, h9'⟩
  | ok y =>
    obtain ⟨dd, L2⟩ := y
    obtain rfl : dd = d := hd4 _ rfl
    dsimp only [bindT] at hD
    have e6 : bindT (sndX (.ok (dd, L2))) (numberT 23) = numberT 23 L2 := rfl
    rw [e6] at h6 q6 h7 q8 h9'
    unfold numberT at h6 q6 h7 q8 h9'
    cases hl6 : lessT 23 L2 with
    | none =>
      rw [hl6] at hD h9'
      subst hD
      exact ⟨_, h9'⟩
    | some x6 =>
      rw [hl6] at hD h9' h6 q6 h7 q8
      dsimp only [thenT] at hD h9' h6 q6 h7 q8
      obtain rfl := q6 _ rfl
      have h6' : Rs w6 g (some ⟨b, o, none⟩) c T (.ok x6.2) _ := h6
      obtain ⟨a6, ha6, hlt6⟩ := h6'.at_
      have hm6 := isWM_mark hW hlt6 (d := 58) (by decide)
      rw [← ha6, show ([58] : List Nat) = asc ":" by decide +kernel] at hm6
      have hn6 := needX_is 3 hm6
      have e7 : bindT (sndX (.ok (x6.1, x6.2))) (needX (bs ⟨#[58]⟩)) = needX (asc ":") x6.2 := by rw [show bs ⟨#[58]⟩ = asc ":" by decide +kernel]; rfl
      rw [show (Except.ok x6 : Except (Int × List Tk) (Int × List Tk)) = .ok (x6.1, x6.2) from rfl, e7, hn6] at h9' q8
      cases hi6 : isT 3 (asc ":") x6.2 with
      | none =>
        rw [hi6] at hD h9'
        subst hD
        exact ⟨_, h9'⟩
      | some L3 =>
        rw [hi6] at hD h9' q8
        dsimp only [thenT, sndX, bindT] at hD h9' q8
        cases hl8 : lessT 59 L3 with
        | none =>
          rw [hl8] at hD h9'
          subst hD
          exact ⟨_, h9'⟩
        | some x8 =>
          rw [hl8] at hD h9' q8
          dsimp only [thenT] at hD h9' q8
          obtain rfl := q8 _ rfl
          subst hD
          exact h9'
end
end Go.Proofs.YtbdkggnajipdhaaGreatDoor
/- The reference's reader of games: addon. -/
namespace Go.Proofs.YtbdkggnajipdhaaGreatDoor
open Nat (reduceAdd reduceMul reduceSub reduceEqDiff reduceLT reduceLeDiff)
open Go.RowKit
set_option maxRecDepth 100000
section
variable {base g c a k : Nat} {A : Option Addr} {T : List Tk} {w : World} {G : Gm} {seen : List (List Nat)} {Va Vt Vn : Value} {Vs : List (List Value)} {Q : List ByteArray} {x : Except (Int × List Tk) (List Tk)}
theorem RgSt.box {w' : World} {ga : Nat} {cs : List Value} {Ty : TypeId} (h : RgSt w base g A c T x k G seen Va Vt Vn Vs Q) (kk : Kept [ga] w w') (hr : Row w ga Ty cs) (h1 : Ty ≠ 3) (hg : base ≤ ga) (hgn : ga ≠ g) (hva : Va.ownBlock ≠ some ga) (hvt : Vt.ownBlock ≠ some ga) (hvn : Vn.ownBlock ≠ some ga) :
    RgSt w' base g A c T x k G seen Va Vt Vn Vs Q := by
  refine ⟨h.rs.kept kk (by simpa using Ne.symm hgn) (fun b o e => by have := h.toks b o e; simp; omega), h.qs, owns_keep h.nown fun b hb => kk.block b (owns_ge h.nown hb).2 (fun hx => by simp at hx; subst hx; exact hvn hb), h.ads.mono fun v L hv => hv.of_blocks fun b cs' hb => kk.block b hb.lt (fun hx => ?_),
    owns_keep h.own fun b hb => kk.block b (owns_ge h.own hb).2 (fun hx => by simp at hx; subst hx; exact hva hb), owns_keep h.tis fun b hb => kk.block b (owns_ge h.tis hb).2 (fun hx => by simp at hx; subst hx; exact hvt hb), h.few, h.kbig, h.days, h.toks, h.hg⟩
  simp at hx
  subst hx
  obtain ⟨c1, e1, _⟩ := hr
  obtain ⟨c2, e2, _⟩ := hb
  rw [e1] at e2
  injection e2 with e2
  injection e2 with _ e2
  exact h1 e2
theorem RgSt.set {w0 : World} {ga i : Nat} {cs : List Value} {Ty : TypeId} {v : Value} (h : RgSt w base g A c T x k G seen Va Vt Vn Vs Q) (K : Below base w0 w) (hr : Row w ga Ty cs) (h1 : Ty ≠ 3) (hg : base ≤ ga) (hgn : ga ≠ g) (hva : Va.ownBlock ≠ some ga) (hvt : Vt.ownBlock ≠ some ga) (hvn : Vn.ownBlock ≠ some ga) (hi : i < cs.length) :
    RgSt (w.setCell ⟨ga, i, none⟩ v) base g A c T x k G seen Va Vt Vn Vs Q ∧ Below base w0 (w.setCell ⟨ga, i, none⟩ v) ∧ Row (w.setCell ⟨ga, i, none⟩ v) ga Ty (cs.set i v) :=
  ⟨h.box ((Kept.refl [ga] w).setCell (p := ⟨ga, i, none⟩) (by simp) v) hr h1 hg hgn hva hvt hvn, K.setCell (p := ⟨ga, i, none⟩) hg v, hr.set_ hi v⟩
/-- Without the game: only that the reader was refused. -/
theorem RgSt.refused {y : Int × List Tk} (h : RgSt w base g A c T (.error y) k G seen Va Vt Vn Vs Q) : ∃ rest, Rs w g A c T (.error y) rest := ⟨_, h.rs⟩
/-- What an add-on's reading gives. -/
def AdO (base g : Nat) (A : Option Addr) (c : Nat) (T : List Tk) (k : Nat) (G : Gm) (seen : List (List Nat)) (Vt Vn : Value) (Q : List ByteArray) (D : Except (Int × List Tk) (Ad × List Tk)) (w w' : World) : Prop := Below base w w' ∧ match D with
  | .ok y => ∃ Va Vs, RgSt w' base g A c T (.ok y.2) (k + 1) { G with addons := G.addons ++ [y.1] } seen Va Vt Vn Vs Q
  | .error y => ∃ rest, Rs w' g A c T (.error y) rest
theorem addon_serial {nm : ByteArray} {v6 v8 : Int} {x1 : Except (Int × List Tk) (List Tk)} {X4 : Except (Int × List Tk) (Unit × List Tk)} {X6 X8 : Except (Int × List Tk) (Int × List Tk)} (hT : TokOk T) (hW : TokW T) (hlt : a < T.length)
    (hx1 : sndX (bindT (.ok (T.drop a)) wordT) = x1) (q1 : ∀ y, bindT (.ok (T.drop a)) wordT = .ok y → nm = y.1) (hi : isX x1 (asc "factor") = false) (hx4 : bindT x1 (needX (asc "serial")) = X4)
    (l4 : ∀ L, sndX X4 = .ok L → ∃ a, L = T.drop a ∧ a < T.length) (hx6 : bindT (sndX X4) (numberT 999999999999999999) = X6) (q6 : ∀ y, X6 = .ok y → v6 = y.1) (l6 : ∀ L, sndX X6 = .ok L → ∃ a, L = T.drop a ∧ a < T.length)
    (hx8 : bindT (sndX X6) (numberT 999999999999999999) = X8) (q8 : ∀ y, X8 = .ok y → v8 = y.1) :
    addonT (T.drop a) = bindT (bindT (sndX X8) numsX) fun z => .ok (⟨nm, 2, v6, [], v8, z.1⟩, z.2) := by
  have hfs : asc "serial" ≠ asc "factor" := by decide +kernel
  unfold addonT
  by_cases hk : (hdT (T.drop a)).kind = 1
  · obtain ⟨n1, n2⟩ := nx_at hT hlt (by omega)
    have hw : bindT (.ok (T.drop a)) wordT = .ok ((hdT (T.drop a)).text, T.drop (a + 1)) := by show wordT _ = _; unfold wordT; rw [if_pos hk, n2]
    obtain rfl := q1 _ hw
    rw [hw] at hx1
    have hx1' : x1 = .ok (T.drop (a + 1)) := hx1.symm
    subst hx1'
    have hwf := isWM_word hW n1 (ch := 102) (r := [97, 99, 116, 111, 114]) (by decide)
    rw [show ([102, 97, 99, 116, 111, 114] : List Nat) = asc "factor" by decide +kernel] at hwf
    have hws := isWM_word hW n1 (ch := 115) (r := [101, 114, 105, 97, 108]) (by decide)
    rw [show ([115, 101, 114, 105, 97, 108] : List Nat) = asc "serial" by decide +kernel] at hws
    have hi' : decide ((hdT (T.drop (a + 1))).kind = 1 ∧ bs (hdT (T.drop (a + 1))).text = asc "factor") = false := hwf ▸ hi
    have hnf := of_decide_eq_false hi'
    have hX4 : X4 = thenT (isT 1 (asc "serial") (T.drop (a + 1))) (T.drop (a + 1)) fun L' => .ok ((), L') := by rw [← hx4, ← needX_is 1 hws]; rfl
    rw [if_neg (fun h => h hk), n2]
    by_cases hk2 : (hdT (T.drop (a + 1))).kind = 1
    · rw [if_neg (fun h => h hk2), if_neg (fun h => hnf ⟨hk2, h⟩)]
      by_cases hts : bs (hdT (T.drop (a + 1))).text = asc "serial"
      · rw [if_pos hts]
        have hI : isT 1 (asc "serial") (T.drop (a + 1)) = some (nxT (T.drop (a + 1))) := isT_yes hk2 hts
        rw [hI] at hX4
        dsimp only [thenT] at hX4
        subst hX4
        obtain ⟨a4, e4, hl4⟩ := l4 _ rfl
        have e4' : nxT (T.drop (a + 1)) = T.drop a4 := e4
        rw [e4']
        have hX6 : X6 = anyT (T.drop a4) := by rw [← hx6, ← numberT_any hT hl4, ← e4']; rfl
        subst hX6
        cases h6 : numT (T.drop a4) with
        | none => rw [← hx8]; simp only [anyT, h6, thenT, sndX, bindT]
        | some v =>
          have e6 : anyT (T.drop a4) = .ok v := by unfold anyT; rw [h6]; rfl
          obtain rfl := q6 _ e6
          obtain ⟨a6, e7, hl6⟩ := l6 v.2 (by rw [e6]; rfl)
          have hX8 : X8 = anyT (T.drop a6) := by rw [← hx8, e6, ← numberT_any hT hl6, ← e7]; rfl
          subst hX8
          dsimp only [thenT]
          rw [e7]
          cases h8 : numT (T.drop a6) with
          | none => simp only [anyT, h8, thenT, sndX, bindT]
          | some u =>
            have e8 : anyT (T.drop a6) = .ok u := by unfold anyT; rw [h8]; rfl
            obtain rfl := q8 _ e8
            rw [e8]
            rfl
      · rw [if_neg hts]
        have hI : isT 1 (asc "serial") (T.drop (a + 1)) = none := isT_no fun h => hts h.2
        rw [hI] at hX4
        dsimp only [thenT] at hX4
        subst hX4
        rw [← hx8, ← hx6]
        rfl
    · rw [if_pos hk2]
      have hI : isT 1 (asc "serial") (T.drop (a + 1)) = none := isT_no fun h => hk2 h.1
      rw [hI] at hX4
      dsimp only [thenT] at hX4
      subst hX4
      rw [← hx8, ← hx6]
      rfl
  · rw [if_pos hk]
    have hw : bindT (.ok (T.drop a)) wordT = .error (1, T.drop a) := by show wordT _ = _; unfold wordT; rw [if_neg hk]
    rw [hw] at hx1
    subst hx1
    rw [← hx8, ← hx6, ← hx4]
    rfl
set_option maxHeartbeats 1000000 in
theorem rgAddon_any (h : RgSt w base g A c T (.ok (T.drop a)) k G seen Va Vt Vn Vs Q) (hlt : a < T.length) (hk : k < 3000005) (hT : TokOk T) (hW : TokW T) : Calls Tryz.prog 67 #[.pointer (some ⟨g, 0, none⟩)] w fun e w' => (∃ v, e = .returned v) ∧ AdO base g A c T k G seen Vt Vn Q (addonT (T.drop a)) w w' := by
  refine calls_W (l := [_]) Tryz.func67 rfl _ Tryz.ntmps67 (by simp) ?_
  have hbig := hT.big
  have hbg := h.hg
  have hf : bs ⟨#[102, 97, 99, 116, 111, 114]⟩ = asc "factor" := by decide +kernel
  have hs : bs ⟨#[115, 101, 114, 105, 97, 108]⟩ = asc "serial" := by decide +kernel
  generalize hR : addonT (T.drop a) = R
  unfold addonT at hR
  refine W_piece fun K hK hX => ?_
  simp +contextual (maxSteps := 2000000) (disch := first | omega | (simp only [SZ]; first | done | omega) | (simp only [TS] at *; omega)) only [RZ, ovw, oneC, reduceAdd, reduceMul, reduceSub, reduceEqDiff, reduceLT, ↓reduceIte, Int.reduceToNat, reduceLeDiff]
  refine (rgWord_any hT h.rs).mono ?_
  rintro e w1 ⟨nm, rfl, r1, k1, q1⟩
  refine ⟨_, rfl, ?_⟩
  generalize hx1 : sndX (bindT (.ok (T.drop a)) wordT) = x1 at r1
  have h1 := h.leaf k1 r1
  have K1 := h.keptB k1 (by simpa using hbg)
  have hgl : g < w1.heap.size := h1.lt
  try simp +contextual (maxSteps := 2000000) (disch := first | omega | (simp only [SZ]; first | done | omega) | (simp only [TS] at *; omega)) only [RZ, ovw, oneC, reduceAdd, reduceMul, reduceSub, reduceEqDiff, reduceLT, ↓reduceIte, Int.reduceToNat, reduceLeDiff]
  have h2 := h1.below (below_alloc w1 (.cells #[Value.string nm, .int .i64 0, .int .i64 0, .slice none 0 0, .int .i64 0, .slice none 0 0] 45))
  have K2 := K1.trans ((below_alloc w1 (.cells #[Value.string nm, .int .i64 0, .int .i64 0, .slice none 0 0, .int .i64 0, .slice none 0 0] 45)).mono (by omega))
  have r2 := Row.new w1 45 [Value.string nm, .int .i64 0, .int .i64 0, .slice none 0 0, .int .i64 0, .slice none 0 0]
  replace r2 : Row (w1.alloc (.cells #[Value.string nm, .int .i64 0, .int .i64 0, .slice none 0 0, .int .i64 0, .slice none 0 0] 45)) _ _ _ := r2
  generalize hga : w1.heap.size = ga at *
  have hva : Va.ownBlock ≠ some ga := fun hb => by have := (owns_ge h1.own hb).2; omega
  have hvt : Vt.ownBlock ≠ some ga := fun hb => by have := (owns_ge h1.tis hb).2; omega
  have hvn : Vn.ownBlock ≠ some ga := fun hb => by have := (owns_ge h1.nown hb).2; omega
  generalize w1.alloc (.cells #[Value.string nm, .int .i64 0, .int .i64 0, .slice none 0 0, .int .i64 0, .slice none 0 0] 45) = w2 at *
  refine hK _ _ ?_
  clear hK hX K
  refine W_cutS (fun σ w5 => σ 0 = .pointer (some ⟨g, 0, none⟩) ∧ σ 2 = .pointer (some ⟨ga, 0, none⟩) ∧ ∃ (x5 : Except (Int × List Tk) (List Tk)) (ad : Ad) (cs : List Value), Row w5 ga 45 cs ∧ AdC (IntsT base w5) cs ad ∧
    RgSt w5 base g A c T x5 k G seen Va Vt Vn Vs Q ∧ Below base w w5 ∧ sndX R = x5 ∧ ∀ y, R = .ok y → y.1 = ad) ?_ ?_
  rotate_left
  · refine W_piece fun K hK hX => ?_
    simp +contextual (maxSteps := 2000000) (disch := first | omega | (simp only [SZ]; first | done | omega) | (simp only [TS] at *; omega)) only [RZ, ovw, oneC, reduceAdd, reduceMul, reduceSub, reduceEqDiff, reduceLT, ↓reduceIte, Int.reduceToNat, reduceLeDiff]
    refine (rgIs_any ⟨#[102, 97, 99, 116, 111, 114]⟩ h2.rs).mono ?_
    rintro e w3 ⟨rfl, hB3⟩
    refine ⟨_, rfl, ?_⟩
    rw [hf]
    have h3 := h2.below hB3
    have r3 := r2.below hB3
    have K3 := K2.trans (hB3.mono (by have := h2.lt; have := r2.lt; omega))
    refine hK _ _ ?_
    clear hK hX K
    cases hi : isX x1 (asc "factor") with
    | true =>
    obtain ⟨a3, er3, ln3, p3, hx3⟩ := h3.rs.cases
    rcases hx3 with ⟨rfl, rfl⟩ | ⟨hne, L, rfl, hl⟩
    rotate_left
    · cases hi
    have hi' : isWM (asc "factor") (T.drop a3) = true := hi
    obtain ⟨n1, n2⟩ := isWM_end hT p3.lt hi'
    have hw3 := isWM_word hW p3.lt (ch := 102) (r := [97, 99, 116, 111, 114]) (by decide)
    rw [show ([102, 97, 99, 116, 111, 114] : List Nat) = asc "factor" by decide +kernel, hi'] at hw3
    obtain ⟨hk3, ht3⟩ := of_decide_eq_true hw3.symm
    have hwd : wordT (T.drop a) = .ok (nm, T.drop a3) := by
      have hx1' : sndX (wordT (T.drop a)) = .ok (T.drop a3) := hx1
      cases hw : wordT (T.drop a) with
      | error y => rw [hw] at hx1'; cases hx1'
      | ok y =>
        rw [hw] at hx1'
        have e1 := q1 y hw
        injection hx1' with hx1'
        rw [e1, ← hx1']
    obtain ⟨u1, u2, u3⟩ := wordT_ok hwd
    rw [if_neg (fun h => h u1), ← u3, if_neg (fun h => h hk3), if_pos ht3, n2, ← u2] at hR
    have c1 := p3.c1
    have y1 := p3.row.frozen 1
    refine W_if_t rfl ?_
    refine W_piece fun K hK hX => ?_
    simp +contextual (maxSteps := 2000000) (disch := first | omega | (simp only [SZ]; first | done | omega) | (simp only [TS] at *; omega)) only [RZ, ovw, oneC, reduceAdd, reduceMul, reduceSub, reduceEqDiff, reduceLT, ↓reduceIte, Int.reduceToNat, reduceLeDiff,  c1, y1]
    refine hK _ _ ?_
    clear hK hX K
    have p4 := p3.go n1
    have k4 := (Kept.refl [g] w3).setCell (p := ⟨g, 1, none⟩) (by simp) (.int .i64 ((a3 : Int) + 1))
    have h4 := h3.leaf k4 p4.rs
    have K4 := K3.trans (h3.keptB k4 (by simpa using hbg))
    have r4 := r3.kept k4 (by simp; omega)
    generalize w3.setCell ⟨g, 1, none⟩ (.int .i64 ((a3 : Int) + 1)) = w4 at *
    have z1 := r4.cell (i := 1) rfl
    have z1z := r4.frozen 1
    try simp +contextual (maxSteps := 2000000) (disch := first | omega | (simp only [SZ]; first | done | omega) | (simp only [TS] at *; omega)) only [RZ, ovw, oneC, reduceAdd, reduceMul, reduceSub, reduceEqDiff, reduceLT, ↓reduceIte, Int.reduceToNat, reduceLeDiff,  z1, z1z]
    obtain ⟨h5, K5, r5⟩ := h4.set (v := .int .i64 1) (i := 1) K4 r4 (by decide) (by omega) (by omega) hva hvt hvn (by simp)
    replace r5 : Row (w4.setCell ⟨ga, 1, none⟩ (.int .i64 1)) ga 45 [Value.string nm, .int .i64 1, .int .i64 0, .slice none 0 0, .int .i64 0, .slice none 0 0] := r5
    generalize w4.setCell ⟨ga, 1, none⟩ (.int .i64 1) = w5 at *
    try simp +contextual (maxSteps := 2000000) (disch := first | omega | (simp only [SZ]; first | done | omega) | (simp only [TS] at *; omega)) only [RZ, ovw, oneC, reduceAdd, reduceMul, reduceSub, reduceEqDiff, reduceLT, ↓reduceIte, Int.reduceToNat, reduceLeDiff]
    refine (rgNumber_any 999999999999999999 hT h5.rs).mono ?_
    rintro e w6 ⟨v6, rfl, s6, k6, q6⟩
    refine ⟨_, rfl, ?_⟩
    generalize hx6 : sndX (bindT (.ok (T.drop (a3 + 1))) (numberT 999999999999999999)) = x6 at s6
    have h6 := h5.leaf k6 s6
    have K6 := K5.trans (h5.keptB k6 (by simpa using hbg))
    have r6 := r5.kept k6 (by simp; omega)
    have hbl6 := k6.size
    have z2 := r6.cell (i := 2) rfl
    have z2z := r6.frozen 2
    try simp +contextual (maxSteps := 2000000) (disch := first | omega | (simp only [SZ]; first | done | omega) | (simp only [TS] at *; omega)) only [RZ, ovw, oneC, reduceAdd, reduceMul, reduceSub, reduceEqDiff, reduceLT, ↓reduceIte, Int.reduceToNat, reduceLeDiff,  z2, z2z]
    obtain ⟨h7, K7, r7⟩ := h6.set (v := .int .i64 v6) (i := 2) K6 r6 (by decide) (by omega) (by omega) hva hvt hvn (by simp)
    replace r7 : Row (w6.setCell ⟨ga, 2, none⟩ (.int .i64 v6)) ga 45 [Value.string nm, .int .i64 1, .int .i64 v6, .slice none 0 0, .int .i64 0, .slice none 0 0] := r7
    generalize w6.setCell ⟨ga, 2, none⟩ (.int .i64 v6) = w7 at *
    try simp +contextual (maxSteps := 2000000) (disch := first | omega | (simp only [SZ]; first | done | omega) | (simp only [TS] at *; omega)) only [RZ, ovw, oneC, reduceAdd, reduceMul, reduceSub, reduceEqDiff, reduceLT, ↓reduceIte, Int.reduceToNat, reduceLeDiff]
    refine (rgNumbers_any hT h7.rs h7.lt).mono ?_
    rintro e w8 ⟨Z, A8, c8, rfl, s8, k8, o8, q8⟩
    refine ⟨_, rfl, ?_⟩
    have h8 := h7.leaf k8 s8
    have K8 := K7.trans (h7.keptB k8 (by simpa using hbg))
    have r8 := r7.kept k8 (by simp; omega)
    have i8 := IntsT.of_owns (lo := base) o8 (by have := h7.lt; omega)
    have z3 := r8.cell (i := 3) rfl
    have z3z := r8.frozen 3
    try simp +contextual (maxSteps := 2000000) (disch := first | omega | (simp only [SZ]; first | done | omega) | (simp only [TS] at *; omega)) only [RZ, ovw, oneC, reduceAdd, reduceMul, reduceSub, reduceEqDiff, reduceLT, ↓reduceIte, Int.reduceToNat, reduceLeDiff,  z3, z3z]
    obtain ⟨h9, K9, r9⟩ := h8.set (v := .slice A8 Z.length c8) (i := 3) K8 r8 (by decide) (by omega) (by omega) hva hvt hvn (by simp)
    have i9 := i8.of_blocks (w' := w8.setCell ⟨ga, 3, none⟩ (.slice A8 Z.length c8)) (fun b cs hb => Below.heap_setCell _ _ _ _ (by
      intro e
      have e : b = ga := e
      subst e
      exact not_int_row r8 (by decide) _ hb.choose_spec.1 _ _ rfl))
    refine ⟨_, ⟨nm, 1, v6, Z, 0, []⟩, _, r9, ⟨_, _, rfl, i9, IntsT.nil _⟩, h9, K9, ?_, ?_⟩
    · rw [← hR]
      have hlt4 : a3 + 1 < T.length := n1
      rw [show bindT (.ok (T.drop (a3 + 1))) (numberT 999999999999999999) = anyT (T.drop (a3 + 1)) from numberT_any hT hlt4] at q6 hx6
      subst hx6
      cases hn : numT (T.drop (a3 + 1)) with
      | none => simp only [anyT, hn, thenT, bindT, sndX]
      | some v =>
        simp only [anyT, hn, thenT, bindT, sndX, numsX]
    · intro y hy
      rw [← hR] at hy
      rw [show bindT (.ok (T.drop (a3 + 1))) (numberT 999999999999999999) = anyT (T.drop (a3 + 1)) from numberT_any hT n1] at q6 hx6
      subst hx6
      cases hn : numT (T.drop (a3 + 1)) with
      | none => rw [hn] at hy; cases hy
      | some v =>
        rw [hn] at hy
        dsimp only [thenT] at hy
        injection hy with hy
        have e6 : v6 = v.1 := q6 v (by unfold anyT; rw [hn]; rfl)
        have e8 := q8 (numsT v.2.length v.2) (by simp only [anyT, hn, thenT, bindT, sndX, numsX])
        rw [← hy, e6, e8]
    | false =>
    refine W_if_f rfl ?_
    refine W_piece fun K hK hX => ?_
    simp +contextual (maxSteps := 2000000) (disch := first | omega | (simp only [SZ]; first | done | omega) | (simp only [TS] at *; omega)) only [RZ, ovw, oneC, reduceAdd, reduceMul, reduceSub, reduceEqDiff, reduceLT, ↓reduceIte, Int.reduceToNat, reduceLeDiff]
    refine (rgNeed_any ⟨#[115, 101, 114, 105, 97, 108]⟩ hT h3.rs).mono ?_
    rintro e w4 ⟨⟨v4, rfl⟩, s4, k4⟩
    refine ⟨_, rfl, ?_⟩
    rw [hs] at s4
    generalize hx4 : bindT x1 (needX (asc "serial")) = X4 at s4
    have h4 := h3.leaf k4 s4
    have K4 := K3.trans (h3.keptB k4 (by simpa using hbg))
    have r4 := r3.kept k4 (by simp; omega)
    have hbl4 := k4.size
    try simp +contextual (maxSteps := 2000000) (disch := first | omega | (simp only [SZ]; first | done | omega) | (simp only [TS] at *; omega)) only [RZ, ovw, oneC, reduceAdd, reduceMul, reduceSub, reduceEqDiff, reduceLT, ↓reduceIte, Int.reduceToNat, reduceLeDiff]
    refine hK _ _ ?_
    clear hK hX K
    have z1 := r4.cell (i := 1) rfl
    have z1z := r4.frozen 1
    try simp +contextual (maxSteps := 2000000) (disch := first | omega | (simp only [SZ]; first | done | omega) | (simp only [TS] at *; omega)) only [RZ, ovw, oneC, reduceAdd, reduceMul, reduceSub, reduceEqDiff, reduceLT, ↓reduceIte, Int.reduceToNat, reduceLeDiff,  z1, z1z]
    obtain ⟨h5, K5, r5⟩ := h4.set (v := .int .i64 2) (i := 1) K4 r4 (by decide) (by omega) (by omega) hva hvt hvn (by simp)
    replace r5 : Row (w4.setCell ⟨ga, 1, none⟩ (.int .i64 2)) ga 45 [Value.string nm, .int .i64 2, .int .i64 0, .slice none 0 0, .int .i64 0, .slice none 0 0] := r5
    generalize w4.setCell ⟨ga, 1, none⟩ (.int .i64 2) = w5 at *
    try simp +contextual (maxSteps := 2000000) (disch := first | omega | (simp only [SZ]; first | done | omega) | (simp only [TS] at *; omega)) only [RZ, ovw, oneC, reduceAdd, reduceMul, reduceSub, reduceEqDiff, reduceLT, ↓reduceIte, Int.reduceToNat, reduceLeDiff]
    refine (rgNumber_any 999999999999999999 hT h5.rs).mono ?_
    rintro e w6 ⟨v6, rfl, s6, k6, q6⟩
    refine ⟨_, rfl, ?_⟩
    generalize hx6 : bindT (sndX X4) (numberT 999999999999999999) = X6 at s6 q6
    have h6 := h5.leaf k6 s6
    have K6 := K5.trans (h5.keptB k6 (by simpa using hbg))
    have r6 := r5.kept k6 (by simp; omega)
    have hbl6 := k6.size
    have z2 := r6.cell (i := 2) rfl
    have z2z := r6.frozen 2
    try simp +contextual (maxSteps := 2000000) (disch := first | omega | (simp only [SZ]; first | done | omega) | (simp only [TS] at *; omega)) only [RZ, ovw, oneC, reduceAdd, reduceMul, reduceSub, reduceEqDiff, reduceLT, ↓reduceIte, Int.reduceToNat, reduceLeDiff,  z2, z2z]
    obtain ⟨h7, K7, r7⟩ := h6.set (v := .int .i64 v6) (i := 2) K6 r6 (by decide) (by omega) (by omega) hva hvt hvn (by simp)
    replace r7 : Row (w6.setCell ⟨ga, 2, none⟩ (.int .i64 v6)) ga 45 [Value.string nm, .int .i64 2, .int .i64 v6, .slice none 0 0, .int .i64 0, .slice none 0 0] := r7
    generalize w6.setCell ⟨ga, 2, none⟩ (.int .i64 v6) = w7 at *
    try simp +contextual (maxSteps := 2000000) (disch := first | omega | (simp only [SZ]; first | done | omega) | (simp only [TS] at *; omega)) only [RZ, ovw, oneC, reduceAdd, reduceMul, reduceSub, reduceEqDiff, reduceLT, ↓reduceIte, Int.reduceToNat, reduceLeDiff]
    refine (rgNumber_any 999999999999999999 hT h7.rs).mono ?_
    rintro e w8 ⟨v8, rfl, s8, k8, q8⟩
    refine ⟨_, rfl, ?_⟩
    generalize hx8 : bindT (sndX X6) (numberT 999999999999999999) = X8 at s8 q8
    have h8 := h7.leaf k8 s8
    have K8 := K7.trans (h7.keptB k8 (by simpa using hbg))
    have r8 := r7.kept k8 (by simp; omega)
    have hbl8 := k8.size
    have z4 := r8.cell (i := 4) rfl
    have z4z := r8.frozen 4
    try simp +contextual (maxSteps := 2000000) (disch := first | omega | (simp only [SZ]; first | done | omega) | (simp only [TS] at *; omega)) only [RZ, ovw, oneC, reduceAdd, reduceMul, reduceSub, reduceEqDiff, reduceLT, ↓reduceIte, Int.reduceToNat, reduceLeDiff,  z4, z4z]
    obtain ⟨h9, K9, r9⟩ := h8.set (v := .int .i64 v8) (i := 4) K8 r8 (by decide) (by omega) (by omega) hva hvt hvn (by simp)
    replace r9 : Row (w8.setCell ⟨ga, 4, none⟩ (.int .i64 v8)) ga 45 [Value.string nm, .int .i64 2, .int .i64 v6, .slice none 0 0, .int .i64 v8, .slice none 0 0] := r9
    generalize w8.setCell ⟨ga, 4, none⟩ (.int .i64 v8) = w9 at *
    try simp +contextual (maxSteps := 2000000) (disch := first | omega | (simp only [SZ]; first | done | omega) | (simp only [TS] at *; omega)) only [RZ, ovw, oneC, reduceAdd, reduceMul, reduceSub, reduceEqDiff, reduceLT, ↓reduceIte, Int.reduceToNat, reduceLeDiff]
    refine (rgNumbers_any hT h9.rs h9.lt).mono ?_
    rintro e wA ⟨Z, A8, c8, rfl, sA, kA, oA, qA⟩
    refine ⟨_, rfl, ?_⟩
    have hA := h9.leaf kA sA
    have KA := K9.trans (h9.keptB kA (by simpa using hbg))
    have rA := r9.kept kA (by simp; omega)
    have iA := IntsT.of_owns (lo := base) oA (by have := h9.lt; omega)
    have z5 := rA.cell (i := 5) rfl
    have z5z := rA.frozen 5
    try simp +contextual (maxSteps := 2000000) (disch := first | omega | (simp only [SZ]; first | done | omega) | (simp only [TS] at *; omega)) only [RZ, ovw, oneC, reduceAdd, reduceMul, reduceSub, reduceEqDiff, reduceLT, ↓reduceIte, Int.reduceToNat, reduceLeDiff,  z5, z5z]
    obtain ⟨hB, KB, rB⟩ := hA.set (v := .slice A8 Z.length c8) (i := 5) KA rA (by decide) (by omega) (by omega) hva hvt hvn (by simp)
    have iB := iA.of_blocks (w' := wA.setCell ⟨ga, 5, none⟩ (.slice A8 Z.length c8)) (fun b cs hb => Below.heap_setCell _ _ _ _ (by
      intro e
      have e : b = ga := e
      subst e
      exact not_int_row rA (by decide) _ hb.choose_spec.1 _ _ rfl))
    have hser := addon_serial hT hW hlt hx1 q1 hi hx4 (fun L hL => by rw [hL] at s4; exact s4.at_) hx6 q6 (fun L hL => by rw [hL] at s6; exact s6.at_) hx8 q8
    have hR2 : R = bindT (bindT (sndX X8) numsX) fun z => .ok (⟨nm, 2, v6, [], v8, z.1⟩, z.2) := by rw [← hser, ← hR]; rfl
    have hlink : ∀ y : Ad × List Tk, R = .ok y → ∃ z : List Int × List Tk, bindT (sndX X8) numsX = .ok z ∧ y = (⟨nm, 2, v6, [], v8, z.1⟩, z.2) := fun y hy => by
      rw [hR2] at hy
      obtain ⟨z, e1, e2⟩ := bind_ok hy
      injection e2 with e2
      exact ⟨z, e1, e2.symm⟩
    have hlinke : ∀ y, R = .error y → bindT (sndX X8) numsX = .error y := fun y hy => by
      rw [hR2] at hy
      cases hz : bindT (sndX X8) numsX with
      | ok z => rw [hz] at hy; cases hy
      | error z => rw [hz] at hy; injection hy with hy; rw [hy]
    refine ⟨_, ⟨nm, 2, v6, [], v8, Z⟩, _, rB, ⟨_, _, rfl, IntsT.nil _, iB⟩, hB, KB, ?_, ?_⟩
    · cases hR' : R with
      | error y => rw [hlinke y hR']; rfl
      | ok y =>
        obtain ⟨z, e1, e2⟩ := hlink y hR'
        rw [e1, e2]
        rfl
    · intro y hy
      obtain ⟨z, e1, e2⟩ := hlink y hy
      rw [e2, qA z e1]
  rintro σ w5 ⟨f0, f2, x5, ad, cs, r5, hx, h5, K5, hRx, hRa⟩
  have hgl5 := h5.lt
  have hra := r5.lt
  obtain ⟨vf, vs, rfl, hi1, hi2⟩ := hx
  obtain ⟨Aa, ca, rfl⟩ := owns_slice h5.own
  have hI : sliceI Tryz.prog 23 = some (45, 6, 88) := by kernel_rfl
  obtain ⟨a5, er5, ln5, p5, hx5⟩ := h5.rs
  have p22 : w5.cell? ⟨g, 22, none⟩ = some (.slice Aa G.addons.length ca) := p5.cR (i := 20) rfl
  have p22z : w5.frozen? ⟨g, 22, none⟩ = false := p5.row.frozen 22
  try simp +contextual (maxSteps := 2000000) (disch := first | omega | (simp only [SZ]; first | done | omega) | (simp only [TS] at *; omega)) only [RZ, ovw, oneC, reduceAdd, reduceMul, reduceSub, reduceEqDiff, reduceLT, ↓reduceIte, Int.reduceToNat, reduceLeDiff]
  refine Raw_ordX [1, 2, 3, 4, 5, 6, 7] (fun w' => w'.cell? ⟨g, 22, none⟩ = some (.slice Aa G.addons.length ca) ∧ Row w' ga 45 [.string ad.name, .int .i64 ad.kind, .int .i64 ad.price, vf, .int .i64 ad.digits, vs]) 13 rfl MX ?_
  have h6 := h5.leaf (w' := w5.drew) (Kept.refl [g] w5).drew (h5.rs.kept (X := []) (Kept.refl [] w5).drew (by simp) (by simp))
  have K6 : Below base w w5.drew := below_drew K5
  have r6 : Row w5.drew ga 45 _ := r5
  have d22 : w5.drew.cell? _ = _ := p22
  have d22z : w5.drew.frozen? ⟨g, 22, none⟩ = false := p22z
  have hi1' := hi1.kt (KT.of_kept (Kept.refl [] w5).drew) (by simp)
  have hi2' := hi2.kt (KT.of_kept (Kept.refl [] w5).drew) (by simp)
  have hgl6 : g < w5.drew.heap.size := hgl5
  have hra6 : ga < w5.drew.heap.size := hra
  generalize w5.drew = w6 at *
  have hvf1 : vf.oneCell' = true := by obtain ⟨_, _, e, _⟩ := hi1; rw [e]; rfl
  have hvs1 : vs.oneCell' = true := by obtain ⟨_, _, e, _⟩ := hi2; rw [e]; rfl
  obtain ⟨A', c', w7, he, hown7, hb7, hs7, hk7⟩ := push2 (P := Tryz.prog) (T2 := 23) (ty := 23) (news := [.string ad.name, .int .i64 ad.kind, .int .i64 ad.price, vf, .int .i64 ad.digits, vs]) h6.own (by omega) hI rfl
    (fun u hu => by simp only [List.mem_cons, List.not_mem_nil, or_false] at hu; rcases hu with rfl | rfl | rfl | rfl | rfl | rfl <;> first | rfl | assumption) (by have := h6.few.1; omega) (by decide)
  refine OrdX_readsU (τ := ?tz) [0] 12 rfl (by kernel_rfl) (by kernel_rfl) (by kernel_rfl) (fun _ _ _ h => h) (fun w' => ?_) ?_; rotate_left
  · simp only [opsL_cons, opsL_nil, List.getElem?_toArray, List.getElem?_cons_zero, List.getElem?_cons_succ, optL_some]
    simp +contextual (maxSteps := 2000000) (disch := first | omega | (simp only [SZ]; first | done | omega) | (simp only [TS] at *; omega)) only [RZ, ovw, oneC, reduceAdd, reduceMul, reduceSub, reduceEqDiff, reduceLT, ↓reduceIte, Int.reduceToNat, reduceLeDiff,  f0]
    exact rfl
  refine OrdX_reads (τ := ?ta) [1, 2, 3, 4, 5, 6] 6 rfl (by kernel_rfl) (by kernel_rfl) (fun _ _ _ h => h) ⟨d22, r6⟩ (fun w8 h8 => ?_) ?_; rotate_left
  · obtain ⟨h8a, h8r⟩ := h8
    have x0 := h8r.cell (i := 0) rfl
    have x1 := h8r.cell (i := 1) rfl
    have x2 := h8r.cell (i := 2) rfl
    have x3 := h8r.cell (i := 3) rfl
    have x4 := h8r.cell (i := 4) rfl
    have x5 := h8r.cell (i := 5) rfl
    simp only [opsL_cons, opsL_nil, List.getElem?_toArray, List.getElem?_cons_zero, List.getElem?_cons_succ, optL_some]
    simp +contextual (maxSteps := 2000000) (disch := first | omega | (simp only [SZ]; first | done | omega) | (simp only [TS] at *; omega)) only [RZ, ovw, oneC, reduceAdd, reduceMul, reduceSub, reduceEqDiff, reduceLT, ↓reduceIte, Int.reduceToNat, reduceLeDiff,  f0, f2, h8a, x0, x1, x2, x3, x4, x5]
    exact rfl
  refine OrdX_one 7 (by kernel_rfl) rfl ?_
  simp +contextual (maxSteps := 2000000) (disch := first | omega | (simp only [SZ]; first | done | omega) | (simp only [TS] at *; omega)) only [RZ, ovw, oneC, reduceAdd, reduceMul, reduceSub, reduceEqDiff, reduceLT, ↓reduceIte, Int.reduceToNat, reduceLeDiff]
  refine ⟨⟨d22, r6.alloc _⟩, ?_⟩
  refine OrdX_chain [8, 9, 10, 11, 12] _ _ _ (by kernel_rfl) (by kernel_rfl) ?_
  simp only [opsL_cons, opsL_nil, List.getElem?_toArray, List.getElem?_cons_zero, List.getElem?_cons_succ, optL_some]
  obtain ⟨csg, hrg⟩ := h6.row
  have hb7g := hk7 g hgl6 (own_ne h6.own hrg (by decide))
  have d7 : w7.cell? ⟨g, 22, none⟩ = some (.slice Aa G.addons.length ca) := (World.cell?_of_block (w := w6) hb7g).trans d22
  have y7 : w7.frozen? ⟨g, 22, none⟩ = false := (World.frozen?_of_block (w := w6) hb7g).trans d22z
  simp +contextual (maxSteps := 2000000) (disch := first | omega | (simp only [SZ]; first | done | omega) | (simp only [TS] at *; omega)) only [RZ, ovw, oneC, reduceAdd, reduceMul, reduceSub, reduceEqDiff, reduceLT, ↓reduceIte, Int.reduceToNat, reduceLeDiff,  f0, f2, he, d7, y7]
  obtain ⟨q1, q2, q3, q4, q5⟩ := h6.frame h6.own (by decide) (by decide) hb7 hk7 (i := 20) (by decide) (.slice A' (G.addons.length + 1) c')
  refine ⟨⟨_, rfl⟩, K6.trans q5, ?_⟩
  cases R with
  | error y =>
    obtain rfl : x5 = .error y := hRx.symm
    exact ⟨_, q1⟩
  | ok y =>
    obtain ⟨ad', L'⟩ := y
    obtain rfl : x5 = .ok L' := hRx.symm
    obtain rfl : ad' = ad := hRa _ rfl
    have hIT : ∀ {v : Value} {L : List Int}, IntsT base w6 v L → IntsT base (w7.setCell ⟨g, 20 + 2, none⟩ (.slice A' (G.addons.length + 1) c')) v L := fun hv => hv.of_blocks fun b cs hr => by
      have hbgne : b ≠ g := fun e => by subst e; exact not_int_row hrg (by decide) _ hr.choose_spec.1 _ _ rfl
      rw [Below.heap_setCell _ _ _ _ (by exact hbgne)]
      exact hk7 b hr.lt (own_ne h6.own hr (by decide))
    refine ⟨_, Vs ++ [[.string ad'.name, .int .i64 ad'.kind, .int .i64 ad'.price, vf, .int .i64 ad'.digits, vs]], q1, h6.qs, q3 _ _ _ _ _ (by decide) (by decide) h6.nown, q2.snoc ⟨vf, vs, rfl, hIT hi1', hIT hi2'⟩, ?_, q3 _ _ _ _ _ (by decide) (by decide) h6.tis,
      ⟨by rw [List.length_append]; have := h6.few; simp; omega, by have := h6.few; show G.tiers.length ≤ k + 1; omega, by have := h6.few; omega⟩, by omega, h6.days, h6.toks, h6.hg⟩
    have := q4 _ _ _ hown7
    rw [List.length_append, List.flatten_append]
    simpa using this
end
end Go.Proofs.YtbdkggnajipdhaaGreatDoor
