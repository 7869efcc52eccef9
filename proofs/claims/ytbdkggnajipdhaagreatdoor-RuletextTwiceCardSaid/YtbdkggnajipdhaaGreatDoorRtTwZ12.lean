/- Texts laid one behind the other: PaI, PaJ, RtS, PaK. Each says at its head what it proves. -/
import Derived.Test.YtbdkggnajipdhaaGreatDoorRtTwZ11
import Derived.Tactics
import Derived.Tactics2
import Derived.WideLaws
set_option linter.unusedSimpArgs false
/- Walks: the reader of a game's tokens: rules. -/
namespace Go.Proofs.YtbdkggnajipdhaaGreatDoor
open Nat (reduceAdd reduceMul reduceSub reduceEqDiff reduceLT reduceLeDiff)
open Go.RowKit
set_option maxRecDepth 100000
theorem hit_len {w : List Nat} {L : List Tk} {x : Int × List Tk} (h : hitT w L = .ok x) : x.2.length ≤ L.length := by
  unfold hitT at h
  cases hq : isT 1 w L with
  | none => rw [hq] at h; injection h with h; subst h; exact Nat.le_refl _
  | some L1 =>
    rw [hq] at h
    obtain ⟨y, h1, h⟩ := then_ok h
    injection h with h
    subst h
    exact Nat.le_trans (num_len h1) (is_len hq)
theorem mode_len {L : List Tk} {x : (Int × Int × Int × Int) × List Tk} (h : modeT L = .ok x) : x.2.length ≤ L.length := by
  unfold modeT at h
  cases h1 : isT 1 (asc "exact") L with
  | some L1 => rw [h1] at h; injection h with h; subst h; exact is_len h1
  | none =>
  rw [h1] at h
  cases h2 : isT 1 (asc "box") L with
  | some L1 => rw [h2] at h; injection h with h; subst h; exact is_len h2
  | none =>
  rw [h2] at h
  cases h3 : isT 1 (asc "front") L with
  | some L1 =>
    rw [h3] at h
    obtain ⟨y, e1, h⟩ := then_ok h
    injection h with h; subst h
    exact Nat.le_trans (num_len e1) (is_len h3)
  | none =>
  rw [h3] at h
  cases h4 : isT 1 (asc "back") L with
  | some L1 =>
    rw [h4] at h
    obtain ⟨y, e1, h⟩ := then_ok h
    injection h with h; subst h
    exact Nat.le_trans (num_len e1) (is_len h4)
  | none =>
  rw [h4] at h
  obtain ⟨y1, e1, h⟩ := bind_ok h
  obtain ⟨y2, e2, h⟩ := bind_ok h
  obtain ⟨y3, e3, h⟩ := bind_ok h
  injection h with h; subst h
  have := hit_len e1
  have := hit_len e2
  have := hit_len e3
  show y3.2.length ≤ _
  omega
theorem tier_len {L : List Tk} {x : Ti × List Tk} (h : tierT L = .ok x) : x.2.length ≤ L.length := by
  unfold tierT at h
  obtain ⟨m, e1, h⟩ := bind_ok h
  have := mode_len e1
  split at h
  · cases h
  · cases hp : prizeK (bs (hdT m.2).text) with
    | none => rw [hp] at h; cases h
    | some k =>
      rw [hp] at h
      obtain ⟨v, e2, h⟩ := then_ok h
      injection h with h; subst h
      have := num_len e2
      have := nx_len m.2
      show v.2.length ≤ _
      omega
theorem addon_len {L : List Tk} {x : Ad × List Tk} (h : addonT L = .ok x) : x.2.length ≤ L.length := by
  unfold addonT at h
  have n1 := nx_len L
  have n2 := nx_len (nxT L)
  split at h
  · cases h
  · split at h
    · cases h
    · split at h
      · obtain ⟨v, e2, h⟩ := then_ok h
        injection h with h; subst h
        have := num_len e2
        have := nums_len v.2.length v.2
        show (numsT v.2.length v.2).2.length ≤ _
        omega
      · split at h
        · obtain ⟨v, e2, h⟩ := then_ok h
          obtain ⟨u, e3, h⟩ := then_ok h
          injection h with h; subst h
          have := num_len e2
          have := num_len e3
          have := nums_len u.2.length u.2
          show (numsT u.2.length u.2).2.length ≤ _
          omega
        · cases h
theorem itemG_len {L : List Tk} {G : Gm} {seen : List (List Nat)} {x : (Gm × List (List Nat)) × List Tk} (h : itemG L G seen = .ok x) : x.2.length ≤ (nxT L).length := by
  unfold itemG at h
  split at h
  · cases h
  split at h
  · split at h
    · cases h
    · obtain ⟨y, e, h⟩ := bind_ok h
      injection h with h; subst h
      exact pair_len e
  split at h
  · split at h
    · cases h
    · obtain ⟨y, e, h⟩ := bind_ok h
      injection h with h; subst h
      exact pair_len e
  split at h
  · split at h
    · cases h
    · obtain ⟨y, e, h⟩ := bind_ok h
      injection h with h; subst h
      exact day_len e
  split at h
  · obtain ⟨y, e, h⟩ := bind_ok h
    injection h with h; subst h
    exact addon_len e
  split at h
  · obtain ⟨y, e, h⟩ := bind_ok h
    injection h with h; subst h
    exact tier_len e
  · cases hs : simpleI (bs (hdT L).text) with
    | none => rw [hs] at h; cases h
    | some i =>
      rw [hs] at h
      dsimp only at h
      split at h
      · cases h
      · obtain ⟨y, e, h⟩ := then_ok h
        injection h with h; subst h
        exact num_len e
section
variable {base g gs c a : Nat} {A : Option Addr} {T : List Tk} {w : World} {G : Gm} {seen : List (List Nat)} {Va Vt : Value} {Vs : List (List Value)}
/-- What the whole reader gives. -/
def ResR (base g gs : Nat) (A : Option Addr) (c : Nat) (T : List Tk) (w : World) (r : Except (Int × List Tk) Gm) (e : Ending) (w' : World) : Prop := Below base w w' ∧ match r with
  | .ok G => e = .returned (.tuple #[]) ∧ ∃ a' seen Va Vt Vs, GmSt w' base g gs A c T a' G seen Va Vt Vs
  | .error x => e = .panicked [{ v := failV x.1 (hdT x.2).line, recovered := false }]
theorem ResR.err {r : Except (Int × List Tk) Gm} {w' : World} {e : Int} {L : List Tk} (hr : r = .error (e, L)) (k : Below base w w') : ResR base g gs A c T w r (.panicked [{ v := failV e (hdT L).line, recovered := false }]) w' := by
  subst hr; exact ⟨k, rfl⟩
theorem ResR.ok {r : Except (Int × List Tk) Gm} {w' : World} {a' : Nat} (hr : r = .ok G) (k : Below base w w') (h : GmSt w' base g gs A c T a' G seen Va Vt Vs) : ResR base g gs A c T w r (.returned (.tuple #[])) w' := by
  subst hr; exact ⟨k, rfl, a', seen, Va, Vt, Vs, h⟩
theorem GmSt.setName (h : GmSt w base g gs A c T a G seen Va Vt Vs) (s : ByteArray) : GmSt (w.setCell ⟨g, 3, none⟩ (.string s)) base g gs A c T a { G with name := s } seen Va Vt Vs := by
  have k := (Kept.refl [g] w).setCell (p := ⟨g, 3, none⟩) (by simp) (.string s)
  obtain ⟨h1, h2, h3, h4, h5, h6, h7, h8, h9', h10⟩ := h
  have hne := h10.2.2.2
  refine ⟨h1.kept1 k h1.lt (h1.row.set_ (i := 3) (by simp [gmV]) _), h2.kept k (by simpa using hne), h3.mono fun v L hv => hv.kt (KT.of_kept k) (fun x hx => by simp at hx; subst hx; exact not_int_parser h1.row), ?_, ?_, h6, h7, h8, h9', h10⟩
  · refine owns_keep h4 fun b hb => k.block b (owns_ge h4 hb).2 fun hx => ?_
    simp at hx
    subst hx
    exact own_ne h4 h1.row (by decide) hb
  · refine owns_keep h5 fun b hb => k.block b (owns_ge h5 hb).2 fun hx => ?_
    simp at hx
    subst hx
    exact own_ne h5 h1.row (by decide) hb
set_option maxHeartbeats 2000000 in
theorem paRules_any (h : GmSt w base g gs A c T 0 noGm [] Va Vt Vs) (hT : TokOk T) (hW : Laid w) : Calls Tryz.prog 22 #[.pointer (some ⟨g, 0, none⟩)] w (ResR base g gs A c T w (gameT T)) := by
  refine calls_WX (l := [_]) Tryz.func22 rfl _ Tryz.ntmps22 (by simp) ?_
  generalize hr : gameT T = r
  unfold gameT at hr
  have hbig := hT.big
  obtain ⟨hb9, hbg, hbs, hne⟩ := h.hg
  have bg : bs ⟨#[103, 97, 109, 101]⟩ = asc "game" := by decide +kernel
  have bo : bs ⟨#[123]⟩ = asc "{" := by decide +kernel
  have bc : bs ⟨#[125]⟩ = asc "}" := by decide +kernel
  have bm : bs ⟨#[59]⟩ = asc ";" := by decide +kernel
  have by_ : bs ⟨#[115, 121, 115, 116, 101, 109]⟩ = asc "system" := by decide +kernel
  refine WX_piece fun K hK hX => ?_
  simp +contextual (maxSteps := 2000000) (disch := first | omega | (simp only [SZ]; first | done | omega) | (simp only [TS] at *; omega)) only [PZ, RZ, ovw, oneC, reduceAdd, reduceMul, reduceSub, reduceEqDiff, reduceLT, ↓reduceIte, Int.reduceToNat, reduceLeDiff]
  refine Res.use (paExpect_any 1 _ h.pk hT) (fun u a1 w1 e1 k1 p1 => ?_) (fun e L w1 e1 k1 => ?_); rotate_left
  · obtain ⟨q1, rfl, rfl⟩ := expT_err e1
    rw [bg, List.drop_zero] at q1
    rw [q1] at hr
    refine hX _ _ _ (fun h => by cases h) ?_
    exact ResR.err hr.symm (h.keptB k1 (by simpa using hbg))
  have q1 := expT_ok e1
  rw [bg, List.drop_zero] at q1
  rw [q1] at hr
  dsimp only [thenT] at hr
  have h1 := h.leaf k1 p1 (Nat.zero_le _)
  have K1 := h.keptB k1 (by simpa using hbg)
  try simp +contextual (maxSteps := 2000000) (disch := first | omega | (simp only [SZ]; first | done | omega) | (simp only [TS] at *; omega)) only [PZ, RZ, ovw, oneC, reduceAdd, reduceMul, reduceSub, reduceEqDiff, reduceLT, ↓reduceIte, Int.reduceToNat, reduceLeDiff]
  refine hK _ _ ?_
  clear hK hX K
  refine WX_piece fun K hK hX => ?_
  have y7 := h1.cellN (i := 7) (by omega)
  have y7z := h1.pk.row.frozen 11
  have y16 := h1.cellN (i := 16) (by omega)
  have y16z := h1.pk.row.frozen 20
  simp +contextual (maxSteps := 2000000) (disch := first | omega | (simp only [SZ]; first | done | omega) | (simp only [TS] at *; omega)) only [PZ, RZ, ovw, oneC, reduceAdd, reduceMul, reduceSub, reduceEqDiff, reduceLT, ↓reduceIte, Int.reduceToNat, reduceLeDiff,  y7, y7z, y16, y16z]
  have h2 := (h1.setN (i := 7) (by omega) (by omega) 1).setN (i := 16) (by omega) (by omega) 1
  have K2 : Below base w ((w1.setCell ⟨g, 11, none⟩ (.int .i64 1)).setCell ⟨g, 20, none⟩ (.int .i64 1)) := (K1.setCell (p := ⟨g, 11, none⟩) hbg _).setCell (p := ⟨g, 20, none⟩) hbg _
  replace h2 : GmSt ((w1.setCell ⟨g, 11, none⟩ (.int .i64 1)).setCell ⟨g, 20, none⟩ (.int .i64 1)) base g gs A c T a1 { noGm with n := putN (putN (fun _ => 0) 7 1) 16 1 } [] Va Vt Vs := h2
  generalize (w1.setCell ⟨g, 11, none⟩ (.int .i64 1)).setCell ⟨g, 20, none⟩ (.int .i64 1) = w2 at *
  refine hK _ _ ?_
  clear hK hX K
  refine WX_piece fun K hK hX => ?_
  simp +contextual (maxSteps := 2000000) (disch := first | omega | (simp only [SZ]; first | done | omega) | (simp only [TS] at *; omega)) only [PZ, RZ, ovw, oneC, reduceAdd, reduceMul, reduceSub, reduceEqDiff, reduceLT, ↓reduceIte, Int.reduceToNat, reduceLeDiff]
  refine Res.use (paWord_any h2.pk hT) (fun nm a3 w3 e3 k3 p3 => ?_) (fun e L w3 e3 k3 => ?_); rotate_left
  · obtain ⟨q3, rfl, rfl⟩ := wordT_err e3
    rw [if_pos q3] at hr
    refine hX _ _ _ (fun h => by cases h) ?_
    exact ResR.err hr.symm (K2.trans (h2.keptB k3 (by simpa using hbg)))
  obtain ⟨q3, rfl, q4⟩ := wordT_ok e3
  rw [if_neg (fun h => h q3), ← q4] at hr
  have m3 := drop_mono (T := T) (a := a1) (L := nxT (T.drop a1)) (nx_len _) q4.symm p3.lt h2.pk.lt
  have h3 := h2.leaf k3 p3 m3
  have K3 := K2.trans (h2.keptB k3 (by simpa using hbg))
  generalize (hdT (T.drop a1)).text = nm at *
  clear e3
  have y3 := h3.pk.row.cell (i := 3) rfl
  have y3z := h3.pk.row.frozen 3
  try simp +contextual (maxSteps := 2000000) (disch := first | omega | (simp only [SZ]; first | done | omega) | (simp only [TS] at *; omega)) only [PZ, RZ, ovw, oneC, reduceAdd, reduceMul, reduceSub, reduceEqDiff, reduceLT, ↓reduceIte, Int.reduceToNat, reduceLeDiff,  y3, y3z]
  have h4 := h3.setName nm
  have K4 : Below base w (w3.setCell ⟨g, 3, none⟩ (.string nm)) := K3.setCell (p := ⟨g, 3, none⟩) hbg _
  replace h4 : GmSt (w3.setCell ⟨g, 3, none⟩ (.string nm)) base g gs A c T a3 (gm0 nm) [] Va Vt Vs := h4
  generalize w3.setCell ⟨g, 3, none⟩ (.string nm) = w4 at *
  refine hK _ _ ?_
  clear hK hX K
  refine WX_piece fun K hK hX => ?_
  simp +contextual (maxSteps := 2000000) (disch := first | omega | (simp only [SZ]; first | done | omega) | (simp only [TS] at *; omega)) only [PZ, RZ, ovw, oneC, reduceAdd, reduceMul, reduceSub, reduceEqDiff, reduceLT, ↓reduceIte, Int.reduceToNat, reduceLeDiff]
  refine Res.use (paExpect_any 3 _ h4.pk hT) (fun u a5 w5 e5 k5 p5 => ?_) (fun e L w5 e5 k5 => ?_); rotate_left
  · obtain ⟨q5, rfl, rfl⟩ := expT_err e5
    rw [bo] at q5
    rw [q5] at hr
    refine hX _ _ _ (fun h => by cases h) ?_
    exact ResR.err hr.symm (K4.trans (h4.keptB k5 (by simpa using hbg)))
  have q5 := expT_ok e5
  rw [bo] at q5
  rw [q5] at hr
  dsimp only at hr
  rw [List.length_drop] at hr
  have m5 := drop_mono (T := T) (a := a3) (is_len q5) rfl p5.lt h4.pk.lt
  have h5 := h4.leaf k5 p5 m5
  have K5 := K4.trans (h4.keptB k5 (by simpa using hbg))
  try simp +contextual (maxSteps := 2000000) (disch := first | omega | (simp only [SZ]; first | done | omega) | (simp only [TS] at *; omega)) only [PZ, RZ, ovw, oneC, reduceAdd, reduceMul, reduceSub, reduceEqDiff, reduceLT, ↓reduceIte, Int.reduceToNat, reduceLeDiff]
  refine hK _ _ ?_
  clear hK hX K
  refine WX_cut (fun σ w6 => ∃ (a6 : Nat) (G6 : Gm) (seen6 : List (List Nat)) (Va6 Vt6 : Value) (Vs6 : List (List Value)), closeT ((G6, seen6), T.drop a6) = r ∧ σ 0 = .pointer (some ⟨g, 0, none⟩) ∧ GmSt w6 base g gs A c T a6 G6 seen6 Va6 Vt6 Vs6 ∧ Below base w w6) ?_ ?_; rotate_left
  · rw [WX_block, WX_loop]
    refine RawD_loop (fun σ w6 => ∃ (f a6 : Nat) (G6 : Gm) (seen6 : List (List Nat)) (Va6 Vt6 : Value) (Vs6 : List (List Value)), T.length - a6 ≤ f ∧ bindT (gitemsT f (T.drop a6) G6 seen6) closeT = r ∧ σ 0 = .pointer (some ⟨g, 0, none⟩) ∧ GmSt w6 base g gs A c T a6 G6 seen6 Va6 Vt6 Vs6 ∧ Below base w w6)
      (fun σ w6 => T.length - atOf w6 g) ?_ ?_
    · exact ⟨_, a5, _, _, _, _, _, Nat.le_refl _, hr, rfl, h5, K5⟩
    clear hr
    rintro σ w6 ⟨f, a6, G6, seen6, Va6, Vt6, Vs6, hf, hr, f0, h6, K6⟩ K hK
    have hlt6 := h6.pk.lt
    have hat6 := h6.pk.atOf
    obtain ⟨f', rfl⟩ : ∃ f', f = f' + 1 := ⟨f - 1, by omega⟩
    unfold gitemsT at hr
    refine WX_piece fun K1 hK1 hX1 => ?_
    refine WX_piece fun K2 hK2 hX2 => ?_
    simp +contextual (maxSteps := 2000000) (disch := first | omega | (simp only [SZ]; first | done | omega) | (simp only [TS] at *; omega)) only [PZ, RZ, ovw, oneC, reduceAdd, reduceMul, reduceSub, reduceEqDiff, reduceLT, ↓reduceIte, Int.reduceToNat, reduceLeDiff,  f0]
    refine (paPeek_any h6.pk hT).mono ?_
    rintro e w7 ⟨rfl, hB7⟩
    have h7 := h6.below hB7
    have K7 := K6.trans (hB7.mono (by have := h6.pk.row.lt; omega))
    generalize htd : hdT (T.drop a6) = t at *
    rw [show (encTk t).toArray = #[.int .i64 t.kind, .int .i64 t.line, .int .i64 t.col, .string t.text] from rfl]
    by_cases hk : t.kind = 1
    · have e1 : (t.kind = 1) = True := eq_true hk
      rw [if_pos hk] at hr
      simp +contextual (maxSteps := 2000000) (disch := first | omega | (simp only [SZ]; first | done | omega) | (simp only [TS] at *; omega)) only [PZ, RZ, ovw, oneC, reduceAdd, reduceMul, reduceSub, reduceEqDiff, reduceLT, ↓reduceIte, Int.reduceToNat, reduceLeDiff,  f0, tkKind, e1]
      refine hK2 _ _ ?_
      clear hK2 hX2 K2
      refine WX_if_t rfl ?_
      simp +contextual (maxSteps := 2000000) (disch := first | omega | (simp only [SZ]; first | done | omega) | (simp only [TS] at *; omega)) only [PZ, RZ, ovw, oneC, reduceAdd, reduceMul, reduceSub, reduceEqDiff, reduceLT, ↓reduceIte, Int.reduceToNat, reduceLeDiff]
      refine hK1 _ _ ?_
      clear hK1 hX1 K1
      rw [WX_block]
      refine WX_piece fun K1 hK1 hX1 => ?_
      have hW7 : Laid w7 := hW.below K7 (by omega)
      simp +contextual (maxSteps := 2000000) (disch := first | omega | (simp only [SZ]; first | done | omega) | (simp only [TS] at *; omega)) only [PZ, RZ, ovw, oneC, reduceAdd, reduceMul, reduceSub, reduceEqDiff, reduceLT, ↓reduceIte, Int.reduceToNat, reduceLeDiff,  f0]
      refine ResG.use (paItem_any h7 hT hW7) (fun G8 seen8 a8 Va8 Vt8 Vs8 w8 e8 k8 h8 => ?_) (fun e L w8 e8 k8 => ?_); rotate_left
      · rw [e8] at hr
        refine hX1 _ _ _ (fun h => by cases h) ?_
        exact ResR.err hr.symm (K7.trans k8)
      have hl8 := itemG_len e8
      rw [e8] at hr
      dsimp only [bindT] at hr
      have K8 := K7.trans k8
      obtain ⟨l6, n6⟩ := nx_at hT hlt6 (by rw [htd]; omega)
      rw [n6, List.length_drop, List.length_drop] at hl8
      have hlt8 := h8.pk.lt
      try simp +contextual (maxSteps := 2000000) (disch := first | omega | (simp only [SZ]; first | done | omega) | (simp only [TS] at *; omega)) only [PZ, RZ, ovw, oneC, reduceAdd, reduceMul, reduceSub, reduceEqDiff, reduceLT, ↓reduceIte, Int.reduceToNat, reduceLeDiff,  f0]
      refine hK1 _ _ ?_
      clear hK1 hX1 K1
      simp +contextual (maxSteps := 2000000) (disch := first | omega | (simp only [SZ]; first | done | omega) | (simp only [TS] at *; omega)) only [PZ, RZ, ovw, oneC, reduceAdd, reduceMul, reduceSub, reduceEqDiff, reduceLT, ↓reduceIte, Int.reduceToNat, reduceLeDiff,  f0]
      refine Res.use (paExpect_any 3 _ h8.pk hT) (fun u a9 w9 e9 k9 p9 => ?_) (fun e L w9 e9 k9 => ?_); rotate_left
      · obtain ⟨q9, rfl, rfl⟩ := expT_err e9
        rw [bm] at q9
        rw [q9] at hr
        exact ResR.err hr.symm (K8.trans (h8.keptB k9 (by simpa using hbg)))
      have q9 := expT_ok e9
      rw [bm] at q9
      rw [q9] at hr
      dsimp only [thenT] at hr
      have m9 := drop_mono (T := T) (a := a8) (is_len q9) rfl p9.lt h8.pk.lt
      have h9 := h8.leaf k9 p9 m9
      have K9 := K8.trans (h8.keptB k9 (by simpa using hbg))
      try simp +contextual (maxSteps := 2000000) (disch := first | omega | (simp only [SZ]; first | done | omega) | (simp only [TS] at *; omega)) only [PZ, RZ, ovw, oneC, reduceAdd, reduceMul, reduceSub, reduceEqDiff, reduceLT, ↓reduceIte, Int.reduceToNat, reduceLeDiff,  f0]
      have hat9 := h9.pk.atOf
      have hlt9 := h9.pk.lt
      refine hK _ _ ⟨f', a9, G8, seen8, Va8, Vt8, Vs8, by omega, ?_, ?_, h9, K9⟩ ?_
      · rw [← hr]; rfl
      · simp +contextual (maxSteps := 2000000) (disch := first | omega | (simp only [SZ]; first | done | omega) | (simp only [TS] at *; omega)) only [RZ, ovw, oneC, reduceAdd, reduceMul, reduceSub, reduceEqDiff, reduceLT, ↓reduceIte, Int.reduceToNat, reduceLeDiff,  f0]
      · rw [hat9, hat6]; omega
    · have e1 : (t.kind = 1) = False := eq_false hk
      rw [if_neg hk] at hr
      dsimp only [bindT] at hr
      simp +contextual (maxSteps := 2000000) (disch := first | omega | (simp only [SZ]; first | done | omega) | (simp only [TS] at *; omega)) only [PZ, RZ, ovw, oneC, reduceAdd, reduceMul, reduceSub, reduceEqDiff, reduceLT, ↓reduceIte, Int.reduceToNat, reduceLeDiff,  f0, tkKind, e1]
      refine hK2 _ _ ?_
      clear hK2 hX2 K2
      refine WX_if_f rfl ?_
      rw [WX_exit]
      refine hX1 _ _ _ (fun h => by cases h) ?_
      rw [thenX_exit, inX_exit_same, thenX_normal]
      refine ⟨a6, G6, seen6, Va6, Vt6, Vs6, hr, ?_, h7, K7⟩
      simp +contextual (maxSteps := 2000000) (disch := first | omega | (simp only [SZ]; first | done | omega) | (simp only [TS] at *; omega)) only [RZ, ovw, oneC, reduceAdd, reduceMul, reduceSub, reduceEqDiff, reduceLT, ↓reduceIte, Int.reduceToNat, reduceLeDiff,  f0]
  clear hr h h1 h2 h3 h4 h5 K1 K2 K3 K4 K5
  rintro σ w6 ⟨a6, G6, seen6, Va6, Vt6, Vs6, hr, f0, h6, K6⟩
  unfold closeT at hr
  dsimp only at hr
  refine WX_piece fun K hK hX => ?_
  simp +contextual (maxSteps := 2000000) (disch := first | omega | (simp only [SZ]; first | done | omega) | (simp only [TS] at *; omega)) only [PZ, RZ, ovw, oneC, reduceAdd, reduceMul, reduceSub, reduceEqDiff, reduceLT, ↓reduceIte, Int.reduceToNat, reduceLeDiff,  f0]
  refine Res.use (paExpect_any 3 _ h6.pk hT) (fun u a7 w7 e7 k7 p7 => ?_) (fun e L w7 e7 k7 => ?_); rotate_left
  · obtain ⟨q7, rfl, rfl⟩ := expT_err e7
    rw [bc] at q7
    rw [q7] at hr
    refine hX _ _ _ (fun h => by cases h) ?_
    exact ResR.err hr.symm (K6.trans (h6.keptB k7 (by simpa using hbg)))
  have q7 := expT_ok e7
  rw [bc] at q7
  rw [q7] at hr
  dsimp only [thenT] at hr
  have m7 := drop_mono (T := T) (a := a6) (is_len q7) rfl p7.lt h6.pk.lt
  have h7 := h6.leaf k7 p7 m7
  have K7 := K6.trans (h6.keptB k7 (by simpa using hbg))
  try simp +contextual (maxSteps := 2000000) (disch := first | omega | (simp only [SZ]; first | done | omega) | (simp only [TS] at *; omega)) only [PZ, RZ, ovw, oneC, reduceAdd, reduceMul, reduceSub, reduceEqDiff, reduceLT, ↓reduceIte, Int.reduceToNat, reduceLeDiff,  f0]
  refine hK _ _ ?_
  clear hK hX K
  refine WX_piece fun K hK hX => ?_
  simp +contextual (maxSteps := 2000000) (disch := first | omega | (simp only [SZ]; first | done | omega) | (simp only [TS] at *; omega)) only [PZ, RZ, ovw, oneC, reduceAdd, reduceMul, reduceSub, reduceEqDiff, reduceLT, ↓reduceIte, Int.reduceToNat, reduceLeDiff,  f0]
  refine Res.use (paTake_any 0 h7.pk hT) (fun t a8 w8 e8 k8 p8 => ?_) (fun e L w8 e8 k8 => ?_); rotate_left
  · obtain ⟨q8, rfl, rfl⟩ := takeT_err e8
    rw [if_neg q8] at hr
    refine hX _ _ _ (fun h => by cases h) ?_
    exact ResR.err hr.symm (K7.trans (h7.keptB k8 (by simpa using hbg)))
  obtain ⟨q8, rfl, q9⟩ := takeT_ok e8
  rw [if_pos q8] at hr
  have m8 := drop_mono (T := T) (a := a7) (L := nxT (T.drop a7)) (nx_len _) q9.symm p8.lt h7.pk.lt
  have h8 := h7.leaf k8 p8 m8
  have K8 := K7.trans (h7.keptB k8 (by simpa using hbg))
  clear e8
  try simp +contextual (maxSteps := 2000000) (disch := first | omega | (simp only [SZ]; first | done | omega) | (simp only [TS] at *; omega)) only [PZ, RZ, ovw, oneC, reduceAdd, reduceMul, reduceSub, reduceEqDiff, reduceLT, ↓reduceIte, Int.reduceToNat, reduceLeDiff,  f0]
  refine hK _ _ ?_
  clear hK hX K
  refine WX_piece fun K hK hX => ?_
  have y2 := h8.pk.row.cell (i := 2) rfl
  have hz : mapZ Tryz.prog 53 = some (.bool false) := by kernel_rfl
  obtain ⟨l, clk, hl, hkk⟩ := h8.sn
  have e1 := vLookup_str0 (P := Tryz.prog) (T := 53) (k := ⟨#[115, 121, 115, 116, 101, 109]⟩) hz hl
  have hks := hkk ⟨#[115, 121, 115, 116, 101, 109]⟩
  rw [by_] at hks
  by_cases hs : asc "system" ∈ seen6
  · rw [hks.1 hs] at e1
    rw [if_pos hs] at hr
    dsimp only [Option.getD] at e1
    simp +contextual (maxSteps := 2000000) (disch := first | omega | (simp only [SZ]; first | done | omega) | (simp only [TS] at *; omega)) only [PZ, RZ, ovw, oneC, reduceAdd, reduceMul, reduceSub, reduceEqDiff, reduceLT, ↓reduceIte, Int.reduceToNat, reduceLeDiff,  f0, y2, e1]
    refine hK _ _ ?_
    clear hK hX K
    refine WX_if_f rfl ?_
    simp +contextual (maxSteps := 2000000) (disch := first | omega | (simp only [SZ]; first | done | omega) | (simp only [TS] at *; omega)) only [PZ, RZ, ovw, oneC, reduceAdd, reduceMul, reduceSub, reduceEqDiff, reduceLT, ↓reduceIte, Int.reduceToNat, reduceLeDiff]
    exact ResR.ok hr.symm K8 h8
  · rw [hks.2 hs] at e1
    rw [if_neg hs] at hr
    dsimp only [Option.getD] at e1
    simp +contextual (maxSteps := 2000000) (disch := first | omega | (simp only [SZ]; first | done | omega) | (simp only [TS] at *; omega)) only [PZ, RZ, ovw, oneC, reduceAdd, reduceMul, reduceSub, reduceEqDiff, reduceLT, ↓reduceIte, Int.reduceToNat, reduceLeDiff,  f0, y2, e1]
    refine hK _ _ ?_
    clear hK hX K
    refine WX_if_t rfl ?_
    have z2 := h8.cellN (i := 2) (by omega)
    have z8 := h8.cellN (i := 8) (by omega)
    have z8z := h8.pk.row.frozen 12
    simp +contextual (maxSteps := 2000000) (disch := first | omega | (simp only [SZ]; first | done | omega) | (simp only [TS] at *; omega)) only [PZ, RZ, ovw, oneC, reduceAdd, reduceMul, reduceSub, reduceEqDiff, reduceLT, ↓reduceIte, Int.reduceToNat, reduceLeDiff,  f0, z2, z8, z8z]
    exact ResR.ok hr.symm (K8.setCell (p := ⟨g, 12, none⟩) hbg _) (h8.setN (i := 8) (by omega) (by omega) _)
end
end Go.Proofs.YtbdkggnajipdhaaGreatDoor
/- Walks: ruletext.Parse's deferred closure. -/
namespace Go.Proofs.YtbdkggnajipdhaaGreatDoor
open Nat (reduceAdd reduceMul reduceSub reduceEqDiff reduceLT reduceLeDiff)
open Go.RowKit
set_option maxRecDepth 100000
theorem wpS_of_WX {P : Program} {n : Nat} {c : Code} {Q : Exit → Sl → World → Prop} {QS : Exit → Act → List Frame → World → Prop} {σ : Sl} {a : Act} {cs : List Frame} {w : World} (hf : FrD [] n σ a) (h : WX [] P n c Q σ w) (hQ : ∀ e σ a w, FrD [] n σ a → Q e σ w → QS e a cs w) : c.wpS P QS a cs w :=
  wpS_of_wp (wp_mono (WX_sound _ _ _ _ h a hf) fun e a' w' ⟨σ', hf', hq⟩ => hQ e σ' a' w' hf' hq)
/-- Values stored one behind the other. -/
def stW (g : Nat) : Nat → List Value → World → World
  | _, [], w => w
  | i, v :: r, w => stW g (i + 1) r (w.setCell ⟨g, i, none⟩ v)
theorem stW_row {g : Nat} {T : TypeId} : ∀ (vs : List Value) (i : Nat) (w : World) (cs : List Value), Row w g T cs → i + vs.length = cs.length → Row (stW g i vs w) g T (cs.take i ++ vs)
  | [], i, w, cs, h, hl => by
    rw [List.append_nil, List.take_of_length_le (by simp at hl; omega)]; exact h
  | v :: r, i, w, cs, h, hl => by
    rw [List.length_cons] at hl
    have h1 := stW_row r (i + 1) (w.setCell ⟨g, i, none⟩ v) (cs.set i v) (h.set_ (by omega) v) (by rw [List.length_set]; omega)
    have e : (cs.set i v).take (i + 1) = cs.take i ++ [v] := by
      rw [List.take_add_one, List.take_set_of_le (Nat.le_refl _), List.getElem?_set_self (by omega)]
      rfl
    rw [e, List.append_assoc] at h1
    exact h1
theorem stW_kept {X : List Nat} {g : Nat} (hg : g ∈ X) : ∀ (vs : List Value) (i : Nat) (w0 w : World), Kept X w0 w → Kept X w0 (stW g i vs w)
  | [], _, _, _, h => h
  | v :: r, i, w0, w, h => stW_kept hg r (i + 1) w0 _ (h.setCell (p := ⟨g, i, none⟩) hg v)
def vTA (P : Program) (u : Value) (T a : TypeId) (ok : Bool) (w : World) : Result Next := (do pure (.value (← Instr.typeAssert u T a ok)) : Sem Next).run P w
theorem r_ta (P : Program) (T a ty : TypeId) (x : Operand) (ok : Bool) (σ : Sl) (w : World) : run1 P (.typeAssert x T a ok) ty σ w = vTA P (ev σ x) T a ok w := nr rfl
def zeroGm : List Value := gmV noGm (.slice none 0 0) (.slice none 0 0)
set_option maxHeartbeats 1000000 in
theorem clo_pan {g1 g2 g3 : Nat} {en ln e0 l0 : Int} {w : World} {cs1 : List Value} (h1 : Row w g1 26 cs1) (hl1 : cs1.length = 22) (h2 : Row w g2 27 [.int .i64 e0]) (h3 : Row w g3 3 [.int .i64 l0]) (h12 : g1 ≠ g2) (h13 : g1 ≠ g3) (h23 : g2 ≠ g3) :
    CallsD Tryz.prog 21 #[.pointer (some ⟨g1, 0, none⟩), .pointer (some ⟨g2, 0, none⟩), .pointer (some ⟨g3, 0, none⟩)] (.panicking [{ v := failV en ln, recovered := false }]) w fun e u' w' =>
      e = .returned (.tuple #[]) ∧ u' = .panicking [{ v := failV en ln, recovered := true }] ∧ Row w' g1 26 zeroGm ∧ Row w' g2 27 [.int .i64 en] ∧ Row w' g3 3 [.int .i64 ln] ∧ Kept [g1, g2, g3] w w' := by
  refine callsD_of_wpS Tryz.func21 rfl fun c₀ cs hu => ?_
  apply wpS_seq
  apply wpS_region
  simp [wpOpsS, go_sem, recoverD, hu, Tryz.ntmps21, Exit.thenS, failV]
  have ne1 : ∀ (x y : Operand) (w : World), vBin Tryz.prog .neq 20 x y (.iface 51 (.agg #[.int .i64 en, .int .i64 ln])) .nilIface w = .ok (.value (.bool true)) w := fun x y w => by
    simp [vBin, eqGuard, run_neq_held_nil w 20 51 _ Tryz.underlying20]
  have ta1 : ∀ (w : World), vTA Tryz.prog (.iface 51 (.agg #[.int .i64 en, .int .i64 ln])) 20 51 true w = .ok (.value (.tuple #[.agg #[.int .i64 en, .int .i64 ln], .bool true])) w := fun w => by
    simp [vTA, Instr.typeAssert, Sem.run_bind, run_underlying Tryz.underlying51 w]
  refine wpS_of_WX (n := 22) (Q := fun e σ w' => (e = .normal) ∧ Row w' g1 26 zeroGm ∧ Row w' g2 27 [.int .i64 en] ∧ Row w' g3 3 [.int .i64 ln] ∧ Kept [g1, g2, g3] w w') ⟨by simp, rfl, fun i => rfl⟩ ?_ ?_
  · generalize hσ : (fun i => Array.getD _ i undef) = σ
    have s0 : σ 0 = .pointer (some ⟨g1, 0, none⟩) := by rw [← hσ]; simp [Array.getD_eq_getD_getElem?, Array.getElem?_append, Array.getElem?_setIfInBounds, Array.getElem?_replicate]
    have s1 : σ 1 = .pointer (some ⟨g2, 0, none⟩) := by rw [← hσ]; simp [Array.getD_eq_getD_getElem?, Array.getElem?_append, Array.getElem?_setIfInBounds, Array.getElem?_replicate]
    have s2 : σ 2 = .pointer (some ⟨g3, 0, none⟩) := by rw [← hσ]; simp [Array.getD_eq_getD_getElem?, Array.getElem?_append, Array.getElem?_setIfInBounds, Array.getElem?_replicate]
    have s3 : σ 3 = .iface 51 (.agg #[.int .i64 en, .int .i64 ln]) := by rw [← hσ]; simp [Array.getD_eq_getD_getElem?, Array.getElem?_append, Array.getElem?_setIfInBounds, Array.getElem?_replicate]
    clear hσ
    refine WX_piece fun K hK hX => ?_
    simp +contextual (maxSteps := 2000000) (disch := first | omega | (simp only [SZ]; first | done | omega) | (simp only [TS] at *; omega)) only [PZ, RZ, ovw, oneC, reduceAdd, reduceMul, reduceSub, reduceEqDiff, reduceLT, ↓reduceIte, Int.reduceToNat, reduceLeDiff,  s0, s1, s2, s3, ne1]
    refine hK _ _ ?_
    clear hK hX K
    refine WX_if_t rfl ?_
    refine WX_piece fun K hK hX => ?_
    simp +contextual (maxSteps := 2000000) (disch := first | omega | (simp only [SZ]; first | done | omega) | (simp only [TS] at *; omega)) only [PZ, RZ, ovw, oneC, reduceAdd, reduceMul, reduceSub, reduceEqDiff, reduceLT, ↓reduceIte, Int.reduceToNat, reduceLeDiff,  s0, s1, s2, s3, r_ta, ta1]
    have bx := Row.new w 51 [Value.int .i64 en, .int .i64 ln]
    have hB := below_alloc w (.cells #[Value.int .i64 en, .int .i64 ln] 51)
    replace bx : Row (w.alloc (.cells #[Value.int .i64 en, .int .i64 ln] 51)) _ _ _ := bx
    have k1 : Kept [g1, g2, g3] w _ := Kept.of_below hB
    have b1 := h1.below hB
    have b2 := h2.below hB
    have b3 := h3.below hB
    have l1 := h1.lt
    have l2 := h2.lt
    have l3 := h3.lt
    generalize hgb : w.heap.size = gb at *
    generalize w.alloc (.cells #[Value.int .i64 en, .int .i64 ln] 51) = w1 at *
    refine hK _ _ ?_
    clear hK hX K
    refine WX_piece fun K hK hX => ?_
    refine WX_piece fun K2 hK2 hX2 => ?_
    simp +contextual (maxSteps := 2000000) (disch := first | omega | (simp only [SZ]; first | done | omega) | (simp only [TS] at *; omega)) only [PZ, RZ, ovw, oneC, reduceAdd, reduceMul, reduceSub, reduceEqDiff, reduceLT, ↓reduceIte, Int.reduceToNat, reduceLeDiff,  s0, s1, s2, s3]
    refine hK2 _ _ ?_
    clear hK2 hX2 K2
    refine WX_if_f rfl ?_
    simp +contextual (maxSteps := 2000000) (disch := first | omega | (simp only [SZ]; first | done | omega) | (simp only [TS] at *; omega)) only [PZ, RZ, ovw, oneC, reduceAdd, reduceMul, reduceSub, reduceEqDiff, reduceLT, ↓reduceIte, Int.reduceToNat, reduceLeDiff,  s0, s1, s2, s3]
    refine hK _ _ ?_
    clear hK hX K
    try simp +contextual (maxSteps := 2000000) (disch := first | omega | (simp only [SZ]; first | done | omega) | (simp only [TS] at *; omega)) only [PZ, RZ, ovw, oneC, reduceAdd, reduceMul, reduceSub, reduceEqDiff, reduceLT, ↓reduceIte, Int.reduceToNat, reduceLeDiff,  s0, s1, s2, s3]
    refine RawD_of (Raw_rcS (τ := ?ta) (fun w' => Row w' gb 51 [Value.int .i64 en, .int .i64 ln]) [0, 1, 2, 3, 4] [5, 6, 7] MX rfl (by kernel_rfl) (by kernel_rfl) (by kernel_rfl) (fun _ _ _ h => Exit.noConfusion h.1) bx (fun w7 h7 => ?_) ?_); rotate_left
    · have x0 := h7.cell (i := 0) rfl
      have x1 := h7.cell (i := 1) rfl
      simp only [opsL_cons, opsL_nil, List.getElem?_toArray, List.getElem?_cons_zero, List.getElem?_cons_succ, optL_some]
      simp +contextual (maxSteps := 2000000) (disch := first | omega | (simp only [SZ]; first | done | omega) | (simp only [TS] at *; omega)) only [RZ, ovw, oneC, reduceAdd, reduceMul, reduceSub, reduceEqDiff, reduceLT, ↓reduceIte, Int.reduceToNat, reduceLeDiff,  s0, s1, s2, x0, x1]
      exact rfl
    replace b1 : Row w1.drew g1 26 cs1 := b1
    replace b2 : Row w1.drew g2 27 _ := b2
    replace b3 : Row w1.drew g3 3 _ := b3
    replace bx : Row w1.drew gb 51 _ := bx
    replace k1 : Kept [g1, g2, g3] w w1.drew := k1.drew
    generalize w1.drew = w2 at *
    have hy : ∀ i, i < 22 → ∃ v, w2.cell? ⟨g1, i, none⟩ = some v := fun i hi => ⟨_, b1.cell (List.getElem?_eq_getElem (show i < cs1.length by omega))⟩
    obtain ⟨v0, y0⟩ := hy 0 (by omega)
    have z0 := b1.frozen 0
    obtain ⟨v1, y1⟩ := hy 1 (by omega)
    have z1 := b1.frozen 1
    obtain ⟨v2, y2⟩ := hy 2 (by omega)
    have z2 := b1.frozen 2
    obtain ⟨v3, y3⟩ := hy 3 (by omega)
    have z3 := b1.frozen 3
    obtain ⟨v4, y4⟩ := hy 4 (by omega)
    have z4 := b1.frozen 4
    obtain ⟨v5, y5⟩ := hy 5 (by omega)
    have z5 := b1.frozen 5
    obtain ⟨v6, y6⟩ := hy 6 (by omega)
    have z6 := b1.frozen 6
    obtain ⟨v7, y7⟩ := hy 7 (by omega)
    have z7 := b1.frozen 7
    obtain ⟨v8, y8⟩ := hy 8 (by omega)
    have z8 := b1.frozen 8
    obtain ⟨v9, y9⟩ := hy 9 (by omega)
    have z9 := b1.frozen 9
    obtain ⟨v10, y10⟩ := hy 10 (by omega)
    have z10 := b1.frozen 10
    obtain ⟨v11, y11⟩ := hy 11 (by omega)
    have z11 := b1.frozen 11
    obtain ⟨v12, y12⟩ := hy 12 (by omega)
    have z12 := b1.frozen 12
    obtain ⟨v13, y13⟩ := hy 13 (by omega)
    have z13 := b1.frozen 13
    obtain ⟨v14, y14⟩ := hy 14 (by omega)
    have z14 := b1.frozen 14
    obtain ⟨v15, y15⟩ := hy 15 (by omega)
    have z15 := b1.frozen 15
    obtain ⟨v16, y16⟩ := hy 16 (by omega)
    have z16 := b1.frozen 16
    obtain ⟨v17, y17⟩ := hy 17 (by omega)
    have z17 := b1.frozen 17
    obtain ⟨v18, y18⟩ := hy 18 (by omega)
    have z18 := b1.frozen 18
    obtain ⟨v19, y19⟩ := hy 19 (by omega)
    have z19 := b1.frozen 19
    obtain ⟨v20, y20⟩ := hy 20 (by omega)
    have z20 := b1.frozen 20
    obtain ⟨v21, y21⟩ := hy 21 (by omega)
    have z21 := b1.frozen 21
    have c2 := b2.cell (i := 0) rfl
    have c2z := b2.frozen 0
    have c3 := b3.cell (i := 0) rfl
    have c3z := b3.frozen 0
    simp only [opsL_cons, opsL_nil, List.getElem?_toArray, List.getElem?_cons_zero, List.getElem?_cons_succ, optL_some]
    simp +contextual (maxSteps := 2000000) (disch := first | omega | (simp only [SZ]; first | done | omega) | (simp only [TS] at *; omega)) only [RZ, ovw, oneC, reduceAdd, reduceMul, reduceSub, reduceEqDiff, reduceLT, ↓reduceIte, Int.reduceToNat, reduceLeDiff,  EC_op, EC_nil, s0, s1, s2, c2, c2z, c3, c3z, y0, z0, y1, z1, y2, z2, y3, z3, y4, z4, y5, z5, y6, z6, y7, z7, y8, z8, y9, z9, y10, z10, y11, z11, y12, z12, y13, z13, y14, z14, y15, z15, y16, z16, y17, z17, y18, z18, y19, z19, y20, z20, y21, z21]
    have R1 := stW_row (g := g1) (T := 26) [Value.string ByteArray.empty, .int .i64 0, .int .i64 0, .int .i64 0, .int .i64 0, .int .i64 0, .int .i64 0, .int .i64 0, .int .i64 0, .int .i64 0, .int .i64 0, .int .i64 0, .int .i64 0, .int .i64 0, .int .i64 0, .int .i64 0, .int .i64 0, .int .i64 0, .int .i64 0, .int .i64 0, .slice none 0 0, .slice none 0 0] 0 w2 cs1 b1 (by rw [hl1]; rfl)
    have kA := stW_kept (X := [g1]) (g := g1) (by simp) [Value.string ByteArray.empty, .int .i64 0, .int .i64 0, .int .i64 0, .int .i64 0, .int .i64 0, .int .i64 0, .int .i64 0, .int .i64 0, .int .i64 0, .int .i64 0, .int .i64 0, .int .i64 0, .int .i64 0, .int .i64 0, .int .i64 0, .int .i64 0, .int .i64 0, .int .i64 0, .int .i64 0, .slice none 0 0, .slice none 0 0] 0 w2 w2 (Kept.refl _ _)
    simp only [stW, reduceAdd, List.take_zero, List.nil_append] at R1 kA
    replace b2 := b2.kept kA (by simpa using Ne.symm h12)
    replace b3 := b3.kept kA (by simpa using Ne.symm h13)
    replace bx := bx.kept kA (by simp; omega)
    replace k1 := k1.trans (kA.less (Y := [g1, g2, g3]) fun k hk _ => by simp at hk ⊢; exact .inl hk)
    clear kA
    generalize w2.setCell ⟨g1, 0, none⟩ _ = u0 at *
    have R2 := b2.set_ (i := 0) (by simp) (.int .i64 en)
    have R3 := (b3.far (p := ⟨g2, 0, none⟩) (by exact Ne.symm h23) (.int .i64 en)).set_ (i := 0) (by simp) (.int .i64 ln)
    refine ⟨bx, bx.far (p := ⟨g2, 0, none⟩) (by show gb ≠ g2; omega) _, (bx.far (p := ⟨g2, 0, none⟩) (by show gb ≠ g2; omega) _).far (p := ⟨g3, 0, none⟩) (by show gb ≠ g3; omega) _, ?_⟩
    exact ⟨(R1.far (p := ⟨g2, 0, none⟩) (by exact h12) _).far (p := ⟨g3, 0, none⟩) (by exact h13) _, R2.far (p := ⟨g3, 0, none⟩) (by exact h23) _, R3, (k1.setCell (p := ⟨g2, 0, none⟩) (by simp) _).setCell (p := ⟨g3, 0, none⟩) (by simp) _⟩
  · rintro e σ a w' hf' ⟨rfl, q1, q2, q3, q4⟩
    have hres : resE Tryz.prog Tryz.f21.results σ w' (fun v => v = .tuple #[]) := by
      simp +contextual (maxSteps := 2000000) (disch := first | omega | (simp only [SZ]; first | done | omega) | (simp only [TS] at *; omega)) only [RZ, ovw, oneC, reduceAdd, reduceMul, reduceSub, reduceEqDiff, reduceLT, ↓reduceIte, Int.reduceToNat, reduceLeDiff]
    obtain ⟨v, hv, rfl⟩ := resE_is hres (funext hf'.at_)
    exact ⟨hf'.defers, _, rfl, _, hv, rfl, rfl, q1, q2, q3, q4⟩
theorem clo_ret (g1 g2 g3 : Nat) (w : World) :
    CallsD Tryz.prog 21 #[.pointer (some ⟨g1, 0, none⟩), .pointer (some ⟨g2, 0, none⟩), .pointer (some ⟨g3, 0, none⟩)] .returning w fun e u' w' => e = .returned (.tuple #[]) ∧ u' = .returning ∧ w' = w := by
  refine callsD_of_wpS Tryz.func21 rfl fun c₀ cs hu => ?_
  apply wpS_seq
  apply wpS_region
  simp [wpOpsS, go_sem, recoverD, hu, Tryz.ntmps21, Exit.thenS]
  have ne1 : ∀ (x y : Operand) (w : World), vBin Tryz.prog .neq 20 x (.const .nilIface) .nilIface .nilIface w = .ok (.value (.bool false)) w := fun x y w => by
    simp [vBin, eqGuard_nil_constR, run_neq_nil_nil w 20 Tryz.underlying20]
  refine wpS_of_WX (n := 22) (Q := fun e σ w' => (e = .normal) ∧ w' = w) ⟨by simp, rfl, fun i => rfl⟩ ?_ ?_
  · generalize hσ : (fun i => Array.getD _ i undef) = σ
    have s3 : σ 3 = .nilIface := by rw [← hσ]; simp [Array.getD_eq_getD_getElem?, Array.getElem?_append, Array.getElem?_setIfInBounds, Array.getElem?_replicate]
    clear hσ
    refine WX_piece fun K hK hX => ?_
    simp +contextual (maxSteps := 2000000) (disch := first | omega | (simp only [SZ]; first | done | omega) | (simp only [TS] at *; omega)) only [PZ, RZ, ovw, oneC, reduceAdd, reduceMul, reduceSub, reduceEqDiff, reduceLT, ↓reduceIte, Int.reduceToNat, reduceLeDiff,  s3, ne1]
    refine hK _ _ ?_
    clear hK hX K
    refine WX_if_f rfl ?_
    simp +contextual (maxSteps := 2000000) (disch := first | omega | (simp only [SZ]; first | done | omega) | (simp only [TS] at *; omega)) only [PZ, RZ, ovw, oneC, reduceAdd, reduceMul, reduceSub, reduceEqDiff, reduceLT, ↓reduceIte, Int.reduceToNat, reduceLeDiff]
  · rintro e σ a w' hf' ⟨rfl, rfl⟩
    have hres : resE Tryz.prog Tryz.f21.results σ w' (fun v => v = .tuple #[]) := by
      simp +contextual (maxSteps := 2000000) (disch := first | omega | (simp only [SZ]; first | done | omega) | (simp only [TS] at *; omega)) only [RZ, ovw, oneC, reduceAdd, reduceMul, reduceSub, reduceEqDiff, reduceLT, ↓reduceIte, Int.reduceToNat, reduceLeDiff]
    obtain ⟨v, hv, rfl⟩ := resE_is hres (funext hf'.at_)
    refine ⟨hf'.defers, .returning, ?_, _, hv, rfl, rfl, rfl⟩
    rw [← hu]
end Go.Proofs.YtbdkggnajipdhaaGreatDoor
/- Plain: chapter 11, what the tokens of a text are. -/
namespace Go.Proofs.YtbdkggnajipdhaaGreatDoor
open Go.RowKit
theorem sum_ge : ∀ (T : List (Nat × Nat × Nat)), (∀ t ∈ T, 1 ≤ t.2.2) → T.length ≤ (T.map (·.2.2)).sum
  | [], _ => Nat.le_refl _
  | t :: T, h => by
    have := sum_ge T fun x hx => h x (by simp [hx])
    have := h t (by simp)
    rw [List.map_cons, List.sum_cons, List.length_cons]
    omega
theorem scan_off {s : ByteArray} (h : (scanE s).1 ≠ 0) : 0 ≤ (scanE s).2.1 ∧ (scanE s).2.1 ≤ s.size := by
  unfold scanE at h ⊢
  split
  · exact ⟨Int.le_refl _, Int.natCast_nonneg _⟩
  · rename_i hs
    rw [if_neg hs] at h
    cases hl : lexR 0 (bs s) with
    | error e =>
      have := lexR_err _ _ 0 e (Nat.le_refl _) hl
      rw [bs_len] at this
      dsimp only
      omega
    | ok T => rw [hl] at h; exact absurd rfl h
theorem num_good2 {t : List Nat} (h : good 2 t) : (numE t).2 = 0 ∧ 0 ≤ (numE t).1 ∧ (numE t).1 ≤ 999999999999999999 := by
  rcases h with ⟨h, _⟩ | ⟨_, ⟨c, r, rfl, hb⟩, hall⟩ | ⟨h, _⟩
  · cases h
  · have hc := hall c (by simp)
    unfold digitB at hc
    simp only [Bool.and_eq_true, decide_eq_true_eq] at hc
    unfold badN at hb
    simp only [Bool.or_eq_false_iff, decide_eq_false_iff_not, Bool.and_eq_false_iff, beq_eq_false_iff_ne] at hb
    have hn : negB (c :: r) = false := by
      unfold negB
      split
      · rename_i e; injection e with e _; omega
      · rfl
    have hm : magL (c :: r) = c :: r := by unfold magL; rw [hn]; rfl
    have hd : decOK (c :: r) = true := by
      show ((c != 48 || r.isEmpty) && (c :: r).all digitB) = true
      rw [List.all_eq_true.2 hall, Bool.and_true]
      rcases hb.2 with h1 | h1
      · cases r with
        | nil => simp
        | cons d r => simp at h1
      · simp [h1]
    have hv : valD 0 (c :: r) < 1000000000000000000 := by
      have h1 := valD_bd (c :: r) 0 hall
      have h2 : 10 ^ (c :: r).length ≤ 10 ^ 18 := Nat.pow_le_pow_right (by decide) (by omega)
      have h3 : (10 : Nat) ^ 18 = 1000000000000000000 := by decide
      omega
    unfold numE
    rw [hm, hn, hd, if_neg (by simp), if_neg (by simp), if_neg (by omega)]
    dsimp only
    omega
  · cases h
theorem scan_tokOk {s : ByteArray} (h : (scanE s).1 = 0) : TokOk (scanE s).2.2 ∧ 0 < (scanE s).2.2.length := by
  unfold scanE at h ⊢
  split at h
  · cases h
  · rename_i hs
    rw [if_neg hs]
    cases hl : lexR 0 (bs s) with
    | error e => rw [hl] at h; cases h
    | ok T =>
      have hg := lexR_good _ _ 0 T (Nat.le_refl _) hl
      have hsum := lexR_sum _ _ 0 T (Nat.le_refl _) hl
      have hge := sum_ge T fun t ht => (hg t ht).2.1
      rw [bs_len] at hsum
      have key : ∀ x ∈ T, good x.1 (bs (tokOf s x).text) := fun x hx => by
        have := (hg x hx).2.2.2
        show good x.1 (bs (s.extract x.2.1 (x.2.1 + x.2.2)))
        rw [bs_extract, Nat.add_sub_cancel_left]
        simpa using this
      have hline : ∀ l : List Nat, l.length ≤ s.size → 0 ≤ (place l).1 ∧ (place l).1 ≤ 1000000 := fun l hl => by
        have := place_bd l
        omega
      refine ⟨⟨?_, ?_, ?_, ?_, ?_, ?_, ?_⟩, by simp⟩
      · simp; omega
      · intro t ht
        rcases List.mem_append.1 ht with ht | ht
        · obtain ⟨x, hx, rfl⟩ := List.mem_map.1 ht
          have := (hg x hx).2.2.1
          rw [bs_len] at this
          unfold tokOf
          rw [ByteArray.size_extract]
          omega
        · rw [List.mem_singleton.1 ht]
          show ByteArray.size ByteArray.empty ≤ _
          rw [ByteArray.size_empty]
          omega
      · intro t ht hk
        rcases List.mem_append.1 ht with ht | ht
        · obtain ⟨x, hx, rfl⟩ := List.mem_map.1 ht
          have hk' : (x.1 : Int) = 2 := hk
          have hx2 : x.1 = 2 := by omega
          have := key x hx
          rw [hx2] at this
          exact num_good2 this
        · rw [List.mem_singleton.1 ht] at hk
          cases hk
      · intro a t ha hk
        rw [List.length_append, List.length_map, List.length_singleton]
        rw [List.getElem?_append, List.length_map] at ha
        split at ha
        · omega
        · rename_i hn
          cases hd : a - T.length with
          | zero =>
            rw [hd] at ha
            simp only [List.getElem?_cons_zero, Option.some.injEq] at ha
            subst ha
            exact absurd rfl hk
          | succ n => rw [hd] at ha; simp at ha
      · intro a t ha hk
        rw [List.length_append, List.length_map, List.length_singleton]
        rw [List.getElem?_append, List.length_map] at ha
        split at ha
        · rename_i hn
          rw [List.getElem?_map] at ha
          obtain ⟨x, hx, rfl⟩ := Option.map_eq_some_iff.1 ha
          have := (good_kind (key x (List.mem_of_getElem? hx))).1
          have hk' : (x.1 : Int) = 0 := hk
          omega
        · rename_i hn
          cases hd : a - T.length with
          | zero => omega
          | succ n => rw [hd] at ha; simp at ha
      · intro t ht
        rcases List.mem_append.1 ht with ht | ht
        · obtain ⟨x, hx, rfl⟩ := List.mem_map.1 ht
          have := (good_kind (key x hx)).2
          show 0 ≤ (x.1 : Int) ∧ (x.1 : Int) ≤ 3
          omega
        · rw [List.mem_singleton.1 ht]
          show (0 : Int) ≤ 0 ∧ (0 : Int) ≤ 3
          omega
      · intro t ht
        rcases List.mem_append.1 ht with ht | ht
        · obtain ⟨x, hx, rfl⟩ := List.mem_map.1 ht
          refine hline _ ?_
          rw [List.length_take, bs_len]
          omega
        · rw [List.mem_singleton.1 ht]
          exact hline _ (by rw [bs_len]; omega)
end Go.Proofs.YtbdkggnajipdhaaGreatDoor
/- Walks: ruletext.Parse. -/
namespace Go.Proofs.YtbdkggnajipdhaaGreatDoor
open Go.RowKit
set_option maxRecDepth 100000
/-- Code in a frame that has deferred calls. -/
def WpD (ds : List Deferred) (P : Program) (n : Nat) (c : Code) (QQ : Exit → Act → World → Prop) (σ : Sl) (w : World) : Prop := ∀ a, FrD ds n σ a → c.wp P QQ a w
theorem WpD_seq {ds : List Deferred} {P : Program} {n : Nat} {x y : Code} {QQ : Exit → Act → World → Prop} {σ : Sl} {w : World} (Q : Exit → Sl → World → Prop) (hQ : ∀ e σ w a, FrD ds n σ a → Q e σ w → QQ e a w) (h : WX ds P n x (thenX (fun σ w => WpD ds P n y QQ σ w) Q) σ w) : WpD ds P n (x.seq y) QQ σ w := by
  intro a hf
  refine wp_seq (wp_mono (WX_sound _ _ _ _ h a hf) ?_)
  rintro e a' w' ⟨σ', hf', hq⟩
  cases e
  case normal => exact hq a' hf'
  all_goals exact hQ _ _ _ _ hf' hq
theorem WpD_of {ds : List Deferred} {P : Program} {n : Nat} {x : Code} {QQ : Exit → Act → World → Prop} {σ : Sl} {w : World} (Q : Exit → Sl → World → Prop) (hQ : ∀ e σ w a, FrD ds n σ a → Q e σ w → QQ e a w) (h : WX ds P n x Q σ w) : WpD ds P n x QQ σ w := by
  intro a hf
  refine wp_mono (WX_sound _ _ _ _ h a hf) ?_
  rintro e a' w' ⟨σ', hf', hq⟩
  exact hQ _ _ _ _ hf' hq
theorem calls_WpD {P : Program} {f : FuncId} {fn : Func} {c : Code} {l : List Value} {w : World} {R : Ending → World → Prop} (hf : P.funcs[f]? = some fn) (hb : fn.body = some c) (n : Nat) (hn : fn.ntmps = n) (hl : l.length ≤ n)
    (h : WpD [] P n c (bodyPostD P fn R) (init l 0 bot) w) : Calls P f l.toArray w R := by
  refine calls_of_wp_defers hf hb (h _ ⟨by simp [hn]; omega, rfl, fun i => ?_⟩)
  rw [getD_append_undef, init_at]
  by_cases hi : i < l.length
  · rw [if_pos ⟨Nat.zero_le _, by simpa using hi⟩]; rfl
  · rw [if_neg (by omega)]
    simp [bot, List.getD_eq_getElem?_getD, List.getElem?_eq_none (Nat.le_of_not_lt hi)]
/-- A closure is made and its call deferred. -/
theorem wp_mkdefer {P : Program} {n : Nat} {σ : Sl} {a : Act} {w : World} {ops : Array Oper} {Q : Exit → Act → World → Prop} {d : Nat} {f : FuncId} {caps : List Operand} {ty1 ty2 : TypeId} {p1 p2 : String} {af1 af2 : Array Edge} {ats : Array TypeId} (hf : FrD [] n σ a) (hd : d < n)
    (h : ∀ a', FrD [{ target := .fn (.func f) (caps.map (ev σ)).toArray, args := #[] }] n (upd σ d (.func (.func f) #[] (caps.map (ev σ)).toArray)) a' → Q .normal a' w) :
    wpList P ops Q [⟨some d, .makeFunc (.func f) #[] caps.toArray, ty1, p1, af1, none⟩, ⟨none, .defer ⟨.value (.tmp d), #[], ats⟩, ty2, p2, af2, none⟩] a w := by
  unfold wpList
  rw [if_pos (wanted_none rfl)]
  refine .inl ?_
  unfold Oper.wp
  have e1 : (execOp a.eval ⟨some d, .makeFunc (.func f) #[] caps.toArray, ty1, p1, af1, none⟩).run P w = .ok (.value (.func (.func f) #[] (caps.map (ev σ)).toArray)) w := by
    rw [hf.eval]
    exact r_makeFunc (P := P) (w := w) ty1 σ (.func f) [] caps
  rw [e1, Oper.upon_value]
  have hf2 := hf.put (some d) (.func (.func f) #[] (caps.map (ev σ)).toArray)
  rw [put_some, if_pos hd] at hf2
  unfold wpList
  rw [if_pos (wanted_none rfl)]
  refine .inl ?_
  unfold Oper.wp
  have e2 : (execOp (a.put (some d) (.func (.func f) #[] (caps.map (ev σ)).toArray)).eval ⟨none, .defer ⟨.value (.tmp d), #[], ats⟩, ty2, p2, af2, none⟩).run P w = .ok (.defer { target := .fn (.func f) (caps.map (ev σ)).toArray, args := #[] }) w := by
    rw [hf2.eval]
    simp [execOp, resolve, Deferred.ofValue, ev, upd_same]
  rw [e2, Oper.upon_defer]
  unfold wpList
  refine h _ ⟨hf2.size, ?_, hf2.at_⟩
  show _ :: (a.put (some d) _).defers = _
  rw [hf2.defers]
/-- The end without deferred calls. -/
theorem end_nil {P : Program} {fn : Func} {R : Ending → World → Prop} {n : Nat} : ∀ e σ w a, FrD [] n σ a → postX P fn R e σ w → bodyPostD P fn R e a w := by
  intro e σ w a hf hq
  have ht : (fun i => a.tmps.getD i undef) = σ := funext hf.at_
  cases e <;> simp only [postX] at hq
  case normal =>
    obtain ⟨v, hv, hR⟩ := resE_is hq ht
    show Leaves P fn a.tmps R a.defers .returning w
    rw [hf.defers]
    exact ⟨v, hv, hR⟩
  case ret =>
    obtain ⟨v, hv, hR⟩ := resE_is hq ht
    show Leaves P fn a.tmps R a.defers .returning w
    rw [hf.defers]
    exact ⟨v, hv, hR⟩
  case panic ch =>
    show Leaves P fn a.tmps R a.defers (.panicking ch) w
    rw [hf.defers]
    exact hq
/-- What is asked at the door: the deferred call, and then the results. -/
def doorX (P : Program) (fn : Func) (R : Ending → World → Prop) (f : FuncId) (args : Array Value) (u : FrameMode) (σ : Sl) (w : World) : Prop :=
  CallsD P f args u w fun e u' w' => (∃ v, e = .returned v) ∧ settle u' = .returning ∧ resE P fn.results σ w' fun v => R (.returned v) w'
def postD (P : Program) (fn : Func) (R : Ending → World → Prop) (f : FuncId) (args : Array Value) : Exit → Sl → World → Prop
  | .normal, σ, w | .ret, σ, w => doorX P fn R f args .returning σ w
  | .panic c, σ, w => doorX P fn R f args (.panicking c) σ w
  | _, _, _ => False
theorem postD_ret {P : Program} {fn : Func} {R : Ending → World → Prop} {f : FuncId} {args : Array Value} {σ : Sl} {w : World} : postD P fn R f args .ret σ w = doorX P fn R f args .returning σ w := nr rfl
theorem postD_pan {P : Program} {fn : Func} {R : Ending → World → Prop} {f : FuncId} {args : Array Value} {c : List PanicEntry} {σ : Sl} {w : World} : postD P fn R f args (.panic c) σ w = doorX P fn R f args (.panicking c) σ w := nr rfl
theorem door_leaves {P : Program} {fn : Func} {R : Ending → World → Prop} {f : FuncId} {args cap dargs : Array Value} {fv : Fn} {u : FrameMode} {σ : Sl} {w : World} {tmps : Array Value} (hu : u ≠ .run) (hi : (invoke (.fn fv cap) dargs).run P w = .ok (.enter f args) w)
    (ht : (fun i => tmps.getD i undef) = σ) (h : doorX P fn R f args u σ w) : Leaves P fn tmps R [{ target := .fn fv cap, args := dargs }] u w := by
  refine leaves_cons hu hi (h.mono fun e u' w' ⟨⟨v, he⟩, hs, hr⟩ => ?_)
  subst he
  show Leaves P fn tmps R [] (settle u') w'
  rw [hs]
  obtain ⟨v', hv, hR⟩ := resE_is hr ht
  exact ⟨v', hv, hR⟩
theorem end_one {P : Program} {fn : Func} {R : Ending → World → Prop} {n : Nat} {f : FuncId} {args cap dargs : Array Value} {fv : Fn} (hi : ∀ w, (invoke (.fn fv cap) dargs).run P w = .ok (.enter f args) w) :
    ∀ e σ w a, FrD [{ target := .fn fv cap, args := dargs }] n σ a → postD P fn R f args e σ w → bodyPostD P fn R e a w := by
  intro e σ w a hf hq
  have ht : (fun i => a.tmps.getD i undef) = σ := funext hf.at_
  cases e <;> simp only [postD] at hq
  case normal =>
    show Leaves P fn a.tmps R a.defers .returning w
    rw [hf.defers]
    exact door_leaves (by simp) (hi w) ht hq
  case ret =>
    show Leaves P fn a.tmps R a.defers .returning w
    rw [hf.defers]
    exact door_leaves (by simp) (hi w) ht hq
  case panic ch =>
    show Leaves P fn a.tmps R a.defers (.panicking ch) w
    rw [hf.defers]
    exact door_leaves (by simp) (hi w) ht hq
/-- Numbers that lie in memory. -/
def IntsR (w : World) (v : Value) (L : List Int) : Prop := ∃ (A : Option Addr) (c : Nat), v = .slice A L.length c ∧ Arr w A 1 (L.map fun n => [Value.int .i64 n])
theorem IntsT.read {lo : Nat} {w : World} {v : Value} {L : List Int} (h : IntsT lo w v L) : IntsR w v L := by
  obtain ⟨A, c, e, h⟩ := h
  refine ⟨A, c, e, fun hn => ?_⟩
  rw [List.length_map] at hn
  obtain ⟨b, hb, hr, _⟩ := h hn
  refine ⟨b, 0, hb, hr.lt, fun i l hl j u hu => ?_⟩
  rw [List.getElem?_map] at hl
  obtain ⟨n, hni, rfl⟩ := Option.map_eq_some_iff.1 hl
  cases j with
  | zero =>
    simp only [List.getElem?_cons_zero, Option.some.injEq] at hu
    subst hu
    rw [show 0 + i * 1 + 0 = i by omega]
    exact hr.cell (by unfold iW; rw [List.getElem?_map, hni]; rfl)
  | succ j => simp at hu
theorem IntsR.below {w w' : World} {v : Value} {L : List Int} (h : IntsR w v L) (k : Below w.heap.size w w') : IntsR w' v L := by
  obtain ⟨A, c, e, h⟩ := h
  exact ⟨A, c, e, h.below k⟩
/-- A game that lies in memory: its add-ons and tiers. -/
def GmIn (w : World) (Va Vt : Value) (G : Gm) : Prop := (∃ (A : Option Addr) (c : Nat) (Vs : List (List Value)), Va = .slice A G.addons.length c ∧ Arr w A 6 Vs ∧ AdsC (IntsR w) Vs G.addons) ∧ ∃ (A : Option Addr) (c : Nat), Vt = .slice A G.tiers.length c ∧ Arr w A 6 (G.tiers.map encTi)
theorem GmIn.below {w w' : World} {Va Vt : Value} {G : Gm} (h : GmIn w Va Vt G) (k : Below w.heap.size w w') : GmIn w' Va Vt G := by
  obtain ⟨⟨A, c, Vs, e, h1, h2⟩, A', c', e', h3⟩ := h
  exact ⟨⟨A, c, Vs, e, h1.below k, h2.mono fun v L hv => hv.below k⟩, A', c', e', h3.below k⟩
theorem GmIn.nil (w : World) : GmIn w (.slice none 0 0) (.slice none 0 0) noGm := ⟨⟨none, 0, [], rfl, fun h => absurd h (Nat.lt_irrefl _), rfl, fun i cs x h => by simp at h⟩, none, 0, rfl, fun h => absurd h (Nat.lt_irrefl _)⟩
theorem arr_row {w : World} {g sz : Nat} {T : TypeId} : ∀ {Vs : List (List Value)}, Row w g T Vs.flatten → (∀ v ∈ Vs, v.length = sz) → Arr w (some ⟨g, 0, none⟩) sz Vs := by
  intro Vs h hl hn
  refine ⟨g, 0, rfl, h.lt, fun i l hi j v hv => h.cell ?_⟩
  have key : ∀ (Vs : List (List Value)) (i : Nat), (∀ v ∈ Vs, v.length = sz) → Vs[i]? = some l → Vs.flatten[0 + i * sz + j]? = some v := by
    intro Vs
    induction Vs with
    | nil => intro i _ h; simp at h
    | cons x r ih =>
      intro i hl hi
      rw [List.flatten_cons]
      have hx := hl x (by simp)
      cases i with
      | zero =>
        simp only [List.getElem?_cons_zero, Option.some.injEq] at hi
        subst hi
        have hj := (List.getElem?_eq_some_iff.1 hv).1
        rw [List.getElem?_append_left (by omega), show 0 + 0 * sz + j = j by omega]
        exact hv
      | succ i =>
        rw [List.getElem?_cons_succ] at hi
        have := ih i (fun v hv => hl v (by simp [hv])) hi
        rw [List.getElem?_append_right (by rw [Nat.succ_mul]; omega), hx, show 0 + (i + 1) * sz + j - sz = 0 + i * sz + j by rw [Nat.succ_mul]; omega]
        exact this
  exact key Vs i hl hi
theorem AdsC.len {P : Value → List Int → Prop} {Vs : List (List Value)} {L : List Ad} (h : AdsC P Vs L) : ∀ v ∈ Vs, v.length = 6 := fun v hv => by
  obtain ⟨i, hi⟩ := List.mem_iff_getElem?.1 hv
  have hl := (List.getElem?_eq_some_iff.1 hi).1
  obtain ⟨_, _, rfl, _⟩ := h.2 i v _ hi (List.getElem?_eq_getElem (by rw [← h.1]; exact hl))
  rfl
theorem GmSt.game {base g gs c a : Nat} {A : Option Addr} {T : List Tk} {w : World} {G : Gm} {seen : List (List Nat)} {Va Vt : Value} {Vs : List (List Value)} (h : GmSt w base g gs A c T a G seen Va Vt Vs) : GmIn w Va Vt G := by
  constructor
  · rcases h.own.2 with ⟨hv, h0⟩ | ⟨g', cap, cur, hv, _⟩
    · refine ⟨none, 0, Vs, by rw [hv, ← h0], fun hn => ?_, h.ads.mono fun v L hv => hv.read⟩
      have := h.ads.1
      omega
    · refine ⟨_, _, Vs, hv, ?_, h.ads.mono fun v L hv => hv.read⟩
      have ho := h.own
      rw [hv] at ho
      intro hn
      have hl := h.ads.1
      obtain ⟨g2, e, _, hr, _⟩ := owns_row ho (by omega)
      injection e with e
      injection e with e
      subst e
      exact arr_row hr h.ads.len hn
  · rcases h.tis.2 with ⟨hv, h0⟩ | ⟨g', cap, cur, hv, _⟩
    · refine ⟨none, 0, by rw [hv, ← h0], fun hn => ?_⟩
      rw [List.length_map] at hn
      omega
    · refine ⟨_, _, hv, ?_⟩
      have ho := h.tis
      rw [hv] at ho
      intro hn
      rw [List.length_map] at hn
      obtain ⟨g2, e, _, hr, _⟩ := owns_row ho hn
      injection e with e
      injection e with e
      subst e
      exact hr.arr (fun _ => rfl) (by rw [List.length_map]; exact hn)
/-- A game whose cells stand. -/
theorem GmSt.game2 {base g gs c a : Nat} {A : Option Addr} {T : List Tk} {w w' : World} {G : Gm} {seen : List (List Nat)} {Va Vt : Value} {Vs : List (List Value)} (h : GmSt w base g gs A c T a G seen Va Vt Vs) (hsz : w.heap.size ≤ w'.heap.size) (hk : ∀ k, base ≤ k → k < w.heap.size → w'.heap[k]? = w.heap[k]?) (htk : Arr w' A 4 (T.map encTk)) : GmIn w' Va Vt G := by
  have hS : GmSt w' base g gs A c T a G seen Va Vt Vs := by
    obtain ⟨h1, h2, h3, h4, h5, h6, h7, h8, h9, h10⟩ := h
    refine ⟨⟨h1.lt, htk, h1.off, h1.row.of_block (hk g h10.2.1 h1.row.lt)⟩, ?_, h3.mono fun v L hv => hv.of_blocksL fun b cs hlo hr => hk b hlo hr.lt, ?_, ?_, h6, h7, h8, h9, h10⟩
    · obtain ⟨l, clk, hl, hkk⟩ := h2
      exact ⟨l, clk, (hk gs h10.2.2.1 (Array.getElem?_eq_some_iff.1 hl).1).trans hl, hkk⟩
    · exact owns_keep h4 fun b hb => hk b (owns_ge h4 hb).1 (owns_ge h4 hb).2
    · exact owns_keep h5 fun b hb => hk b (owns_ge h5 hb).1 (owns_ge h5 hb).2
  exact hS.game
end Go.Proofs.YtbdkggnajipdhaaGreatDoor
