/- Texts laid one behind the other: PaG, RtQ. Each says at its head what it proves. -/
import Derived.Test.YtbdkggnajipdhaaDoorY09
set_option linter.unusedSimpArgs false
/- Walks: the reader of a game's tokens: tier. -/
namespace Go.Proofs.YtbdkggnajipdhaaDoor
open Go.RowKit
set_option maxRecDepth 100000
section
variable {base g gs c a : Nat} {A : Option Addr} {T : List Tk} {w : World} {G : Gm} {seen : List (List Nat)} {Va Vt : Value} {Vs : List (List Value)}
theorem paFollows2 {rest : List Value} (s : ByteArray) (h : PkIn w g A c T a rest) (hT : TokOk T) : Calls Tryd.prog 80 #[.pointer (some ⟨g, 0, none⟩), .string s] w fun e w' =>
    Kept [g] w w' ∧ ((isT 1 (bs s) (T.drop a) = some (T.drop (a + 1)) ∧ e = .returned (.bool true) ∧ PkIn w' g A c T (a + 1) rest) ∨ (isT 1 (bs s) (T.drop a) = none ∧ e = .returned (.bool false) ∧ PkIn w' g A c T a rest)) := by
  refine (paFollows_any s h hT).mono fun e w' ⟨h1, h2, h3, h4⟩ => ⟨h3, ?_⟩
  cases hq : isT 1 (bs s) (T.drop a) with
  | some L =>
    rw [hq] at h1 h2 h4
    exact .inl ⟨h4 rfl, h1, h2⟩
  | none =>
    rw [hq] at h1 h2
    exact .inr ⟨rfl, h1, h2⟩
set_option maxHeartbeats 4000000 in
theorem paTier_any (h : GmSt w base g gs A c T a G seen Va Vt Vs) (hT : TokOk T) : Calls Tryd.prog 71 #[.pointer (some ⟨g, 0, none⟩)] w
    (ResG base g gs A c T w (bindT (tierT (T.drop a)) fun x => .ok (({ G with tiers := G.tiers ++ [x.1] }, seen), x.2))) := by
  refine calls_WX (l := [_]) Tryd.func71 rfl _ Tryd.ntmps71 (by simp) ?_
  generalize hr : (bindT (tierT (T.drop a)) fun x => Except.ok (({ G with tiers := G.tiers ++ [x.1] }, seen), x.2)) = r
  unfold tierT at hr
  have hlt := h.pk.lt
  have hbig := hT.big
  obtain ⟨hb9, hbg, hbs, hne⟩ := h.hg
  have hgl0 := h.pk.row.lt
  have hgs0 := h.sn.lt
  refine WX_piece fun K hK hX => ?_
  simp +contextual (maxSteps := 2000000) (disch := (first | omega | (simp only [SZ]; done) | (simp only [SZ]; omega) | (simp only [TS] at *; omega))) only [PZ, RZ, gval, gslot, fillL, ovw, numb, catL, ldN, agL, okC, oneC, init, Nat.reduceAdd, Nat.reduceMul, Nat.reduceSub, Nat.reduceEqDiff, Nat.reduceLT, ↓reduceIte, Int.reduceToNat, Int.reduceAdd, Int.reduceSub, Int.reduceMul, Int.reduceLT, Int.reduceLE, Int.reduceEq, Nat.reduceLeDiff]
  refine hK _ _ ?_
  clear hK hX K
  have h1 := h.below (below_alloc w (.cells #[Value.int .i64 0, .int .i64 0, .int .i64 0, .int .i64 0, .int .i64 0, .int .i64 0] 45))
  have K1 : Below base w _ := (below_alloc w (.cells #[Value.int .i64 0, .int .i64 0, .int .i64 0, .int .i64 0, .int .i64 0, .int .i64 0] 45)).mono (by omega)
  have r1 := Row.new w 45 [Value.int .i64 0, .int .i64 0, .int .i64 0, .int .i64 0, .int .i64 0, .int .i64 0]
  replace r1 : Row (w.alloc (.cells #[Value.int .i64 0, .int .i64 0, .int .i64 0, .int .i64 0, .int .i64 0, .int .i64 0] 45)) _ _ _ := r1
  generalize hga : w.heap.size = ga at *
  have hva : Va.ownBlock ≠ some ga := fun hb => by have := (owns_ge h.own hb).2; omega
  have hvt : Vt.ownBlock ≠ some ga := fun hb => by have := (owns_ge h.tis hb).2; omega
  generalize w.alloc (.cells #[Value.int .i64 0, .int .i64 0, .int .i64 0, .int .i64 0, .int .i64 0, .int .i64 0] 45) = w1 at *
  generalize hM : modeT (T.drop a) = M at hr
  have hfin : ∀ {e : Int} {L : List Tk} {w' : World}, M = .error (e, L) → Below base w w' → ResG base g gs A c T w r (.panicked [{ v := failV e (hdT L).line, recovered := false }]) w' := fun hm hB => by
    rw [hm] at hr
    exact ResG.err hr.symm hB
  have hbga : base ≤ ga := by omega
  have hgag : ga ≠ g := by omega
  have hgas : ga ≠ gs := by omega
  refine WX_cut (fun σ w2 => ∃ (m : Int × Int × Int × Int) (a1 : Nat), M = .ok (m, T.drop a1) ∧ a ≤ a1 ∧ σ 0 = .pointer (some ⟨g, 0, none⟩) ∧ σ 2 = .pointer (some ⟨ga, 0, none⟩) ∧
    Row w2 ga 45 [Value.int .i64 m.2.1, .int .i64 m.2.2.1, .int .i64 m.2.2.2, .int .i64 m.1, .int .i64 0, .int .i64 0] ∧ GmSt w2 base g gs A c T a1 G seen Va Vt Vs ∧ Below base w w2) ?_ ?_; rotate_left
  · clear hr
    unfold modeT at hM
    rw [WX_block]
    have s0 : (upd (init [Value.pointer (some ⟨g, 0, none⟩)] 0 bot) 2 (.pointer (some ⟨ga, 0, none⟩))) 0 = .pointer (some ⟨g, 0, none⟩) := rfl
    have s2 : (upd (init [Value.pointer (some ⟨g, 0, none⟩)] 0 bot) 2 (.pointer (some ⟨ga, 0, none⟩))) 2 = .pointer (some ⟨ga, 0, none⟩) := rfl
    have hq2 : bs ⟨#[101, 120, 97, 99, 116]⟩ = asc "exact" := by decide +kernel
    refine WX_piece fun K hK hX => ?_
    simp +contextual (maxSteps := 2000000) (disch := (first | omega | (simp only [SZ]; done) | (simp only [SZ]; omega) | (simp only [TS] at *; omega))) only [PZ, RZ, gval, gslot, fillL, ovw, numb, catL, ldN, agL, okC, oneC, init, Nat.reduceAdd, Nat.reduceMul, Nat.reduceSub, Nat.reduceEqDiff, Nat.reduceLT, ↓reduceIte, Int.reduceToNat, Int.reduceAdd, Int.reduceSub, Int.reduceMul, Int.reduceLT, Int.reduceLE, Int.reduceEq, Nat.reduceLeDiff]
    refine (paFollows2 _ h1.pk hT).mono ?_
    rintro e w2 ⟨k2, hk2⟩
    rw [hq2] at hk2
    have r2 := r1.kept k2 (by simp; omega)
    have K2 := K1.trans (h1.keptB k2 (by simpa using hbg))
    rcases hk2 with ⟨q2, rfl, p2⟩ | ⟨q2, rfl, p2⟩
    · have h2 := h1.leaf k2 p2 (by omega)
      rw [q2] at hM
      dsimp only at hM
      try simp +contextual (maxSteps := 2000000) (disch := (first | omega | (simp only [SZ]; done) | (simp only [SZ]; omega) | (simp only [TS] at *; omega))) only [PZ, RZ, gval, gslot, fillL, ovw, numb, catL, ldN, agL, okC, oneC, init, Nat.reduceAdd, Nat.reduceMul, Nat.reduceSub, Nat.reduceEqDiff, Nat.reduceLT, ↓reduceIte, Int.reduceToNat, Int.reduceAdd, Int.reduceSub, Int.reduceMul, Int.reduceLT, Int.reduceLE, Int.reduceEq, Nat.reduceLeDiff,  s0, s2]
      refine hK _ _ ?_
      clear hK hX K
      refine WX_if_t rfl ?_
      have z3 := r2.cell (i := 3) rfl
      have z3z := r2.frozen 3
      simp +contextual (maxSteps := 2000000) (disch := (first | omega | (simp only [SZ]; done) | (simp only [SZ]; omega) | (simp only [TS] at *; omega))) only [PZ, RZ, gval, gslot, fillL, ovw, numb, catL, ldN, agL, okC, oneC, init, Nat.reduceAdd, Nat.reduceMul, Nat.reduceSub, Nat.reduceEqDiff, Nat.reduceLT, ↓reduceIte, Int.reduceToNat, Int.reduceAdd, Int.reduceSub, Int.reduceMul, Int.reduceLT, Int.reduceLE, Int.reduceEq, Nat.reduceLeDiff,  s0, s2, z3, z3z]
      obtain ⟨h9, K9, r9⟩ := stSet (v := .int .i64 1) (i := 3) h2 K2 r2 (by decide) hbga hgag hgas hva hvt (by simp)
      exact ⟨(1, 0, 0, 0), a + 1, hM.symm, by omega, r9, h9, K9⟩
    have h2 := h1.leaf k2 p2 (Nat.le_refl _)
    rw [q2] at hM
    dsimp only at hM
    try simp +contextual (maxSteps := 2000000) (disch := (first | omega | (simp only [SZ]; done) | (simp only [SZ]; omega) | (simp only [TS] at *; omega))) only [PZ, RZ, gval, gslot, fillL, ovw, numb, catL, ldN, agL, okC, oneC, init, Nat.reduceAdd, Nat.reduceMul, Nat.reduceSub, Nat.reduceEqDiff, Nat.reduceLT, ↓reduceIte, Int.reduceToNat, Int.reduceAdd, Int.reduceSub, Int.reduceMul, Int.reduceLT, Int.reduceLE, Int.reduceEq, Nat.reduceLeDiff,  s0, s2]
    refine hK _ _ ?_
    clear hK hX K
    refine WX_if_f rfl ?_
    have hq3 : bs ⟨#[98, 111, 120]⟩ = asc "box" := by decide +kernel
    refine WX_piece fun K hK hX => ?_
    simp +contextual (maxSteps := 2000000) (disch := (first | omega | (simp only [SZ]; done) | (simp only [SZ]; omega) | (simp only [TS] at *; omega))) only [PZ, RZ, gval, gslot, fillL, ovw, numb, catL, ldN, agL, okC, oneC, init, Nat.reduceAdd, Nat.reduceMul, Nat.reduceSub, Nat.reduceEqDiff, Nat.reduceLT, ↓reduceIte, Int.reduceToNat, Int.reduceAdd, Int.reduceSub, Int.reduceMul, Int.reduceLT, Int.reduceLE, Int.reduceEq, Nat.reduceLeDiff,  s0, s2]
    refine (paFollows2 _ h2.pk hT).mono ?_
    rintro e w3 ⟨k3, hk3⟩
    rw [hq3] at hk3
    have r3 := r2.kept k3 (by simp; omega)
    have K3 := K2.trans (h2.keptB k3 (by simpa using hbg))
    rcases hk3 with ⟨q3, rfl, p3⟩ | ⟨q3, rfl, p3⟩
    · have h3 := h2.leaf k3 p3 (by omega)
      rw [q3] at hM
      dsimp only at hM
      try simp +contextual (maxSteps := 2000000) (disch := (first | omega | (simp only [SZ]; done) | (simp only [SZ]; omega) | (simp only [TS] at *; omega))) only [PZ, RZ, gval, gslot, fillL, ovw, numb, catL, ldN, agL, okC, oneC, init, Nat.reduceAdd, Nat.reduceMul, Nat.reduceSub, Nat.reduceEqDiff, Nat.reduceLT, ↓reduceIte, Int.reduceToNat, Int.reduceAdd, Int.reduceSub, Int.reduceMul, Int.reduceLT, Int.reduceLE, Int.reduceEq, Nat.reduceLeDiff,  s0, s2]
      refine hK _ _ ?_
      clear hK hX K
      refine WX_if_t rfl ?_
      have z3 := r3.cell (i := 3) rfl
      have z3z := r3.frozen 3
      simp +contextual (maxSteps := 2000000) (disch := (first | omega | (simp only [SZ]; done) | (simp only [SZ]; omega) | (simp only [TS] at *; omega))) only [PZ, RZ, gval, gslot, fillL, ovw, numb, catL, ldN, agL, okC, oneC, init, Nat.reduceAdd, Nat.reduceMul, Nat.reduceSub, Nat.reduceEqDiff, Nat.reduceLT, ↓reduceIte, Int.reduceToNat, Int.reduceAdd, Int.reduceSub, Int.reduceMul, Int.reduceLT, Int.reduceLE, Int.reduceEq, Nat.reduceLeDiff,  s0, s2, z3, z3z]
      obtain ⟨h9, K9, r9⟩ := stSet (v := .int .i64 2) (i := 3) h3 K3 r3 (by decide) hbga hgag hgas hva hvt (by simp)
      exact ⟨(2, 0, 0, 0), a + 1, hM.symm, by omega, r9, h9, K9⟩
    have h3 := h2.leaf k3 p3 (Nat.le_refl _)
    rw [q3] at hM
    dsimp only at hM
    try simp +contextual (maxSteps := 2000000) (disch := (first | omega | (simp only [SZ]; done) | (simp only [SZ]; omega) | (simp only [TS] at *; omega))) only [PZ, RZ, gval, gslot, fillL, ovw, numb, catL, ldN, agL, okC, oneC, init, Nat.reduceAdd, Nat.reduceMul, Nat.reduceSub, Nat.reduceEqDiff, Nat.reduceLT, ↓reduceIte, Int.reduceToNat, Int.reduceAdd, Int.reduceSub, Int.reduceMul, Int.reduceLT, Int.reduceLE, Int.reduceEq, Nat.reduceLeDiff,  s0, s2]
    refine hK _ _ ?_
    clear hK hX K
    refine WX_if_f rfl ?_
    have hq4 : bs ⟨#[102, 114, 111, 110, 116]⟩ = asc "front" := by decide +kernel
    refine WX_piece fun K hK hX => ?_
    simp +contextual (maxSteps := 2000000) (disch := (first | omega | (simp only [SZ]; done) | (simp only [SZ]; omega) | (simp only [TS] at *; omega))) only [PZ, RZ, gval, gslot, fillL, ovw, numb, catL, ldN, agL, okC, oneC, init, Nat.reduceAdd, Nat.reduceMul, Nat.reduceSub, Nat.reduceEqDiff, Nat.reduceLT, ↓reduceIte, Int.reduceToNat, Int.reduceAdd, Int.reduceSub, Int.reduceMul, Int.reduceLT, Int.reduceLE, Int.reduceEq, Nat.reduceLeDiff,  s0, s2]
    refine (paFollows2 _ h3.pk hT).mono ?_
    rintro e w4 ⟨k4, hk4⟩
    rw [hq4] at hk4
    have r4 := r3.kept k4 (by simp; omega)
    have K4 := K3.trans (h3.keptB k4 (by simpa using hbg))
    rcases hk4 with ⟨q4, rfl, p4⟩ | ⟨q4, rfl, p4⟩
    · have h4 := h3.leaf k4 p4 (by omega)
      rw [q4] at hM
      dsimp only at hM
      try simp +contextual (maxSteps := 2000000) (disch := (first | omega | (simp only [SZ]; done) | (simp only [SZ]; omega) | (simp only [TS] at *; omega))) only [PZ, RZ, gval, gslot, fillL, ovw, numb, catL, ldN, agL, okC, oneC, init, Nat.reduceAdd, Nat.reduceMul, Nat.reduceSub, Nat.reduceEqDiff, Nat.reduceLT, ↓reduceIte, Int.reduceToNat, Int.reduceAdd, Int.reduceSub, Int.reduceMul, Int.reduceLT, Int.reduceLE, Int.reduceEq, Nat.reduceLeDiff,  s0, s2]
      refine hK _ _ ?_
      clear hK hX K
      refine WX_if_t rfl ?_
      try simp +contextual (maxSteps := 2000000) (disch := (first | omega | (simp only [SZ]; done) | (simp only [SZ]; omega) | (simp only [TS] at *; omega))) only [PZ, RZ, gval, gslot, fillL, ovw, numb, catL, ldN, agL, okC, oneC, init, Nat.reduceAdd, Nat.reduceMul, Nat.reduceSub, Nat.reduceEqDiff, Nat.reduceLT, ↓reduceIte, Int.reduceToNat, Int.reduceAdd, Int.reduceSub, Int.reduceMul, Int.reduceLT, Int.reduceLE, Int.reduceEq, Nat.reduceLeDiff,  s0, s2]
      refine Res.use (paAny_any h4.pk hT) (fun x a8 w8 e8 k8 p8 => ?_) (fun e L w8 e8 k8 => ?_); rotate_left
      · obtain ⟨q8, rfl, rfl⟩ := anyT_err e8
        rw [q8] at hM
        exact hfin hM.symm (K4.trans (h4.keptB k8 (by simpa using hbg)))
      have q8 := anyT_ok e8
      rw [q8] at hM
      have m8 := drop_mono (num_len q8) rfl p8.lt h4.pk.lt
      have h8 := h4.leaf k8 p8 m8
      have K8 := K4.trans (h4.keptB k8 (by simpa using hbg))
      have r8 := r4.kept k8 (by simp; omega)
      have z3 := r8.cell (i := 3) rfl
      have z3z := r8.frozen 3
      have z0 := r8.cell (i := 0) rfl
      have z0z := r8.frozen 0
      try simp +contextual (maxSteps := 2000000) (disch := (first | omega | (simp only [SZ]; done) | (simp only [SZ]; omega) | (simp only [TS] at *; omega))) only [PZ, RZ, gval, gslot, fillL, ovw, numb, catL, ldN, agL, okC, oneC, init, Nat.reduceAdd, Nat.reduceMul, Nat.reduceSub, Nat.reduceEqDiff, Nat.reduceLT, ↓reduceIte, Int.reduceToNat, Int.reduceAdd, Int.reduceSub, Int.reduceMul, Int.reduceLT, Int.reduceLE, Int.reduceEq, Nat.reduceLeDiff,  s0, s2, z3, z3z, z0, z0z]
      obtain ⟨h9, K9, r9⟩ := stSet (v := .int .i64 3) (i := 3) h8 K8 r8 (by decide) hbga hgag hgas hva hvt (by simp)
      obtain ⟨h10, K10, r10⟩ := stSet (v := .int .i64 x) (i := 0) h9 K9 r9 (by decide) hbga hgag hgas hva hvt (by simp)
      exact ⟨(3, x, 0, 0), a8, hM.symm, by omega, r10, h10, K10⟩
    have h4 := h3.leaf k4 p4 (Nat.le_refl _)
    rw [q4] at hM
    dsimp only at hM
    try simp +contextual (maxSteps := 2000000) (disch := (first | omega | (simp only [SZ]; done) | (simp only [SZ]; omega) | (simp only [TS] at *; omega))) only [PZ, RZ, gval, gslot, fillL, ovw, numb, catL, ldN, agL, okC, oneC, init, Nat.reduceAdd, Nat.reduceMul, Nat.reduceSub, Nat.reduceEqDiff, Nat.reduceLT, ↓reduceIte, Int.reduceToNat, Int.reduceAdd, Int.reduceSub, Int.reduceMul, Int.reduceLT, Int.reduceLE, Int.reduceEq, Nat.reduceLeDiff,  s0, s2]
    refine hK _ _ ?_
    clear hK hX K
    refine WX_if_f rfl ?_
    have hq5 : bs ⟨#[98, 97, 99, 107]⟩ = asc "back" := by decide +kernel
    refine WX_piece fun K hK hX => ?_
    simp +contextual (maxSteps := 2000000) (disch := (first | omega | (simp only [SZ]; done) | (simp only [SZ]; omega) | (simp only [TS] at *; omega))) only [PZ, RZ, gval, gslot, fillL, ovw, numb, catL, ldN, agL, okC, oneC, init, Nat.reduceAdd, Nat.reduceMul, Nat.reduceSub, Nat.reduceEqDiff, Nat.reduceLT, ↓reduceIte, Int.reduceToNat, Int.reduceAdd, Int.reduceSub, Int.reduceMul, Int.reduceLT, Int.reduceLE, Int.reduceEq, Nat.reduceLeDiff,  s0, s2]
    refine (paFollows2 _ h4.pk hT).mono ?_
    rintro e w5 ⟨k5, hk5⟩
    rw [hq5] at hk5
    have r5 := r4.kept k5 (by simp; omega)
    have K5 := K4.trans (h4.keptB k5 (by simpa using hbg))
    rcases hk5 with ⟨q5, rfl, p5⟩ | ⟨q5, rfl, p5⟩
    · have h5 := h4.leaf k5 p5 (by omega)
      rw [q5] at hM
      dsimp only at hM
      try simp +contextual (maxSteps := 2000000) (disch := (first | omega | (simp only [SZ]; done) | (simp only [SZ]; omega) | (simp only [TS] at *; omega))) only [PZ, RZ, gval, gslot, fillL, ovw, numb, catL, ldN, agL, okC, oneC, init, Nat.reduceAdd, Nat.reduceMul, Nat.reduceSub, Nat.reduceEqDiff, Nat.reduceLT, ↓reduceIte, Int.reduceToNat, Int.reduceAdd, Int.reduceSub, Int.reduceMul, Int.reduceLT, Int.reduceLE, Int.reduceEq, Nat.reduceLeDiff,  s0, s2]
      refine hK _ _ ?_
      clear hK hX K
      refine WX_if_t rfl ?_
      try simp +contextual (maxSteps := 2000000) (disch := (first | omega | (simp only [SZ]; done) | (simp only [SZ]; omega) | (simp only [TS] at *; omega))) only [PZ, RZ, gval, gslot, fillL, ovw, numb, catL, ldN, agL, okC, oneC, init, Nat.reduceAdd, Nat.reduceMul, Nat.reduceSub, Nat.reduceEqDiff, Nat.reduceLT, ↓reduceIte, Int.reduceToNat, Int.reduceAdd, Int.reduceSub, Int.reduceMul, Int.reduceLT, Int.reduceLE, Int.reduceEq, Nat.reduceLeDiff,  s0, s2]
      refine Res.use (paAny_any h5.pk hT) (fun x a8 w8 e8 k8 p8 => ?_) (fun e L w8 e8 k8 => ?_); rotate_left
      · obtain ⟨q8, rfl, rfl⟩ := anyT_err e8
        rw [q8] at hM
        exact hfin hM.symm (K5.trans (h5.keptB k8 (by simpa using hbg)))
      have q8 := anyT_ok e8
      rw [q8] at hM
      have m8 := drop_mono (num_len q8) rfl p8.lt h5.pk.lt
      have h8 := h5.leaf k8 p8 m8
      have K8 := K5.trans (h5.keptB k8 (by simpa using hbg))
      have r8 := r5.kept k8 (by simp; omega)
      have z3 := r8.cell (i := 3) rfl
      have z3z := r8.frozen 3
      have z0 := r8.cell (i := 0) rfl
      have z0z := r8.frozen 0
      try simp +contextual (maxSteps := 2000000) (disch := (first | omega | (simp only [SZ]; done) | (simp only [SZ]; omega) | (simp only [TS] at *; omega))) only [PZ, RZ, gval, gslot, fillL, ovw, numb, catL, ldN, agL, okC, oneC, init, Nat.reduceAdd, Nat.reduceMul, Nat.reduceSub, Nat.reduceEqDiff, Nat.reduceLT, ↓reduceIte, Int.reduceToNat, Int.reduceAdd, Int.reduceSub, Int.reduceMul, Int.reduceLT, Int.reduceLE, Int.reduceEq, Nat.reduceLeDiff,  s0, s2, z3, z3z, z0, z0z]
      obtain ⟨h9, K9, r9⟩ := stSet (v := .int .i64 4) (i := 3) h8 K8 r8 (by decide) hbga hgag hgas hva hvt (by simp)
      obtain ⟨h10, K10, r10⟩ := stSet (v := .int .i64 x) (i := 0) h9 K9 r9 (by decide) hbga hgag hgas hva hvt (by simp)
      exact ⟨(4, x, 0, 0), a8, hM.symm, by omega, r10, h10, K10⟩
    have h5 := h4.leaf k5 p5 (Nat.le_refl _)
    rw [q5] at hM
    dsimp only at hM
    try simp +contextual (maxSteps := 2000000) (disch := (first | omega | (simp only [SZ]; done) | (simp only [SZ]; omega) | (simp only [TS] at *; omega))) only [PZ, RZ, gval, gslot, fillL, ovw, numb, catL, ldN, agL, okC, oneC, init, Nat.reduceAdd, Nat.reduceMul, Nat.reduceSub, Nat.reduceEqDiff, Nat.reduceLT, ↓reduceIte, Int.reduceToNat, Int.reduceAdd, Int.reduceSub, Int.reduceMul, Int.reduceLT, Int.reduceLE, Int.reduceEq, Nat.reduceLeDiff,  s0, s2]
    refine hK _ _ ?_
    clear hK hX K
    refine WX_if_f rfl ?_
    refine WX_cut (fun σ w2 => ∃ (x1 : Int) (b1 : Nat), (bindT (hitT (asc "bonus") (T.drop b1)) fun b => bindT (hitT (asc "extra") b.2) fun c => Except.ok ((0, x1, b.1, c.1), c.2)) = M ∧ a ≤ b1 ∧ σ 0 = .pointer (some ⟨g, 0, none⟩) ∧ σ 2 = .pointer (some ⟨ga, 0, none⟩) ∧
      Row w2 ga 45 [Value.int .i64 x1, .int .i64 0, .int .i64 0, .int .i64 0, .int .i64 0, .int .i64 0] ∧ GmSt w2 base g gs A c T b1 G seen Va Vt Vs ∧ Below base w w2) ?_ ?_; rotate_left
    · have hw : bs ⟨#[109, 97, 105, 110]⟩ = asc "main" := by decide +kernel
      refine WX_piece fun K hK hX => ?_
      simp +contextual (maxSteps := 2000000) (disch := (first | omega | (simp only [SZ]; done) | (simp only [SZ]; omega) | (simp only [TS] at *; omega))) only [PZ, RZ, gval, gslot, fillL, ovw, numb, catL, ldN, agL, okC, oneC, init, Nat.reduceAdd, Nat.reduceMul, Nat.reduceSub, Nat.reduceEqDiff, Nat.reduceLT, ↓reduceIte, Int.reduceToNat, Int.reduceAdd, Int.reduceSub, Int.reduceMul, Int.reduceLT, Int.reduceLE, Int.reduceEq, Nat.reduceLeDiff,  s0, s2]
      refine (paFollows2 _ h5.pk hT).mono ?_
      rintro e w8 ⟨k8, hk8⟩
      rw [hw] at hk8
      have r8 := r5.kept k8 (by simp; omega)
      have K8 := K5.trans (h5.keptB k8 (by simpa using hbg))
      rcases hk8 with ⟨q8, rfl, p8⟩ | ⟨q8, rfl, p8⟩
      · have h8 := h5.leaf k8 p8 (by omega)
        have hh : hitT (asc "main") (T.drop a) = thenT (numT (T.drop (a + 1))) (T.drop (a + 1)) fun x => .ok x := by unfold hitT; rw [q8]
        rw [hh] at hM
        try simp +contextual (maxSteps := 2000000) (disch := (first | omega | (simp only [SZ]; done) | (simp only [SZ]; omega) | (simp only [TS] at *; omega))) only [PZ, RZ, gval, gslot, fillL, ovw, numb, catL, ldN, agL, okC, oneC, init, Nat.reduceAdd, Nat.reduceMul, Nat.reduceSub, Nat.reduceEqDiff, Nat.reduceLT, ↓reduceIte, Int.reduceToNat, Int.reduceAdd, Int.reduceSub, Int.reduceMul, Int.reduceLT, Int.reduceLE, Int.reduceEq, Nat.reduceLeDiff,  s0, s2]
        refine hK _ _ ?_
        clear hK hX K
        refine WX_if_t rfl ?_
        try simp +contextual (maxSteps := 2000000) (disch := (first | omega | (simp only [SZ]; done) | (simp only [SZ]; omega) | (simp only [TS] at *; omega))) only [PZ, RZ, gval, gslot, fillL, ovw, numb, catL, ldN, agL, okC, oneC, init, Nat.reduceAdd, Nat.reduceMul, Nat.reduceSub, Nat.reduceEqDiff, Nat.reduceLT, ↓reduceIte, Int.reduceToNat, Int.reduceAdd, Int.reduceSub, Int.reduceMul, Int.reduceLT, Int.reduceLE, Int.reduceEq, Nat.reduceLeDiff,  s0, s2]
        refine Res.use (paAny_any h8.pk hT) (fun x b9 w9 e9 k9 p9 => ?_) (fun e L w9 e9 k9 => ?_); rotate_left
        · obtain ⟨q9, rfl, rfl⟩ := anyT_err e9
          rw [q9] at hM
          exact hfin hM.symm (K8.trans (h8.keptB k9 (by simpa using hbg)))
        have q9 := anyT_ok e9
        rw [q9] at hM
        dsimp only [thenT, bindT] at hM
        have m9 := drop_mono (num_len q9) rfl p9.lt h8.pk.lt
        have h9 := h8.leaf k9 p9 m9
        have K9 := K8.trans (h8.keptB k9 (by simpa using hbg))
        have r9 := r8.kept k9 (by simp; omega)
        have z0 := r9.cell (i := 0) rfl
        have z0z := r9.frozen 0
        try simp +contextual (maxSteps := 2000000) (disch := (first | omega | (simp only [SZ]; done) | (simp only [SZ]; omega) | (simp only [TS] at *; omega))) only [PZ, RZ, gval, gslot, fillL, ovw, numb, catL, ldN, agL, okC, oneC, init, Nat.reduceAdd, Nat.reduceMul, Nat.reduceSub, Nat.reduceEqDiff, Nat.reduceLT, ↓reduceIte, Int.reduceToNat, Int.reduceAdd, Int.reduceSub, Int.reduceMul, Int.reduceLT, Int.reduceLE, Int.reduceEq, Nat.reduceLeDiff,  s0, s2, z0, z0z]
        obtain ⟨h10, K10, r10⟩ := stSet (v := .int .i64 x) (i := 0) h9 K9 r9 (by decide) hbga hgag hgas hva hvt (by simp)
        exact ⟨x, b9, hM, by omega, r10, h10, K10⟩
      · have h8 := h5.leaf k8 p8 (Nat.le_refl _)
        have hh : hitT (asc "main") (T.drop a) = .ok (0, T.drop a) := by unfold hitT; rw [q8]
        rw [hh] at hM
        dsimp only [bindT] at hM
        try simp +contextual (maxSteps := 2000000) (disch := (first | omega | (simp only [SZ]; done) | (simp only [SZ]; omega) | (simp only [TS] at *; omega))) only [PZ, RZ, gval, gslot, fillL, ovw, numb, catL, ldN, agL, okC, oneC, init, Nat.reduceAdd, Nat.reduceMul, Nat.reduceSub, Nat.reduceEqDiff, Nat.reduceLT, ↓reduceIte, Int.reduceToNat, Int.reduceAdd, Int.reduceSub, Int.reduceMul, Int.reduceLT, Int.reduceLE, Int.reduceEq, Nat.reduceLeDiff,  s0, s2]
        refine hK _ _ ?_
        clear hK hX K
        refine WX_if_f rfl ?_
        try simp +contextual (maxSteps := 2000000) (disch := (first | omega | (simp only [SZ]; done) | (simp only [SZ]; omega) | (simp only [TS] at *; omega))) only [PZ, RZ, gval, gslot, fillL, ovw, numb, catL, ldN, agL, okC, oneC, init, Nat.reduceAdd, Nat.reduceMul, Nat.reduceSub, Nat.reduceEqDiff, Nat.reduceLT, ↓reduceIte, Int.reduceToNat, Int.reduceAdd, Int.reduceSub, Int.reduceMul, Int.reduceLT, Int.reduceLE, Int.reduceEq, Nat.reduceLeDiff,  s0, s2]
        exact ⟨0, a, hM, by omega, r8, h8, K8⟩
    clear hM
    rintro σ0 v0 ⟨x1, b1, hM, hab0, g0, g2, y0, t0, L0⟩
    refine WX_cut (fun σ w2 => ∃ (x2 : Int) (b2 : Nat), (bindT (hitT (asc "extra") (T.drop b2)) fun c => Except.ok ((0, x1, x2, c.1), c.2)) = M ∧ a ≤ b2 ∧ σ 0 = .pointer (some ⟨g, 0, none⟩) ∧ σ 2 = .pointer (some ⟨ga, 0, none⟩) ∧
      Row w2 ga 45 [Value.int .i64 x1, .int .i64 x2, .int .i64 0, .int .i64 0, .int .i64 0, .int .i64 0] ∧ GmSt w2 base g gs A c T b2 G seen Va Vt Vs ∧ Below base w w2) ?_ ?_; rotate_left
    · have hw : bs ⟨#[98, 111, 110, 117, 115]⟩ = asc "bonus" := by decide +kernel
      refine WX_piece fun K hK hX => ?_
      simp +contextual (maxSteps := 2000000) (disch := (first | omega | (simp only [SZ]; done) | (simp only [SZ]; omega) | (simp only [TS] at *; omega))) only [PZ, RZ, gval, gslot, fillL, ovw, numb, catL, ldN, agL, okC, oneC, init, Nat.reduceAdd, Nat.reduceMul, Nat.reduceSub, Nat.reduceEqDiff, Nat.reduceLT, ↓reduceIte, Int.reduceToNat, Int.reduceAdd, Int.reduceSub, Int.reduceMul, Int.reduceLT, Int.reduceLE, Int.reduceEq, Nat.reduceLeDiff,  g0, g2]
      refine (paFollows2 _ t0.pk hT).mono ?_
      rintro e w8 ⟨k8, hk8⟩
      rw [hw] at hk8
      have r8 := y0.kept k8 (by simp; omega)
      have K8 := L0.trans (t0.keptB k8 (by simpa using hbg))
      rcases hk8 with ⟨q8, rfl, p8⟩ | ⟨q8, rfl, p8⟩
      · have h8 := t0.leaf k8 p8 (by omega)
        have hh : hitT (asc "bonus") (T.drop b1) = thenT (numT (T.drop (b1 + 1))) (T.drop (b1 + 1)) fun x => .ok x := by unfold hitT; rw [q8]
        rw [hh] at hM
        try simp +contextual (maxSteps := 2000000) (disch := (first | omega | (simp only [SZ]; done) | (simp only [SZ]; omega) | (simp only [TS] at *; omega))) only [PZ, RZ, gval, gslot, fillL, ovw, numb, catL, ldN, agL, okC, oneC, init, Nat.reduceAdd, Nat.reduceMul, Nat.reduceSub, Nat.reduceEqDiff, Nat.reduceLT, ↓reduceIte, Int.reduceToNat, Int.reduceAdd, Int.reduceSub, Int.reduceMul, Int.reduceLT, Int.reduceLE, Int.reduceEq, Nat.reduceLeDiff,  g0, g2]
        refine hK _ _ ?_
        clear hK hX K
        refine WX_if_t rfl ?_
        try simp +contextual (maxSteps := 2000000) (disch := (first | omega | (simp only [SZ]; done) | (simp only [SZ]; omega) | (simp only [TS] at *; omega))) only [PZ, RZ, gval, gslot, fillL, ovw, numb, catL, ldN, agL, okC, oneC, init, Nat.reduceAdd, Nat.reduceMul, Nat.reduceSub, Nat.reduceEqDiff, Nat.reduceLT, ↓reduceIte, Int.reduceToNat, Int.reduceAdd, Int.reduceSub, Int.reduceMul, Int.reduceLT, Int.reduceLE, Int.reduceEq, Nat.reduceLeDiff,  g0, g2]
        refine Res.use (paAny_any h8.pk hT) (fun x b9 w9 e9 k9 p9 => ?_) (fun e L w9 e9 k9 => ?_); rotate_left
        · obtain ⟨q9, rfl, rfl⟩ := anyT_err e9
          rw [q9] at hM
          exact hfin hM.symm (K8.trans (h8.keptB k9 (by simpa using hbg)))
        have q9 := anyT_ok e9
        rw [q9] at hM
        dsimp only [thenT, bindT] at hM
        have m9 := drop_mono (num_len q9) rfl p9.lt h8.pk.lt
        have h9 := h8.leaf k9 p9 m9
        have K9 := K8.trans (h8.keptB k9 (by simpa using hbg))
        have r9 := r8.kept k9 (by simp; omega)
        have z0 := r9.cell (i := 1) rfl
        have z0z := r9.frozen 1
        try simp +contextual (maxSteps := 2000000) (disch := (first | omega | (simp only [SZ]; done) | (simp only [SZ]; omega) | (simp only [TS] at *; omega))) only [PZ, RZ, gval, gslot, fillL, ovw, numb, catL, ldN, agL, okC, oneC, init, Nat.reduceAdd, Nat.reduceMul, Nat.reduceSub, Nat.reduceEqDiff, Nat.reduceLT, ↓reduceIte, Int.reduceToNat, Int.reduceAdd, Int.reduceSub, Int.reduceMul, Int.reduceLT, Int.reduceLE, Int.reduceEq, Nat.reduceLeDiff,  g0, g2, z0, z0z]
        obtain ⟨h10, K10, r10⟩ := stSet (v := .int .i64 x) (i := 1) h9 K9 r9 (by decide) hbga hgag hgas hva hvt (by simp)
        exact ⟨x, b9, hM, by omega, r10, h10, K10⟩
      · have h8 := t0.leaf k8 p8 (Nat.le_refl _)
        have hh : hitT (asc "bonus") (T.drop b1) = .ok (0, T.drop b1) := by unfold hitT; rw [q8]
        rw [hh] at hM
        dsimp only [bindT] at hM
        try simp +contextual (maxSteps := 2000000) (disch := (first | omega | (simp only [SZ]; done) | (simp only [SZ]; omega) | (simp only [TS] at *; omega))) only [PZ, RZ, gval, gslot, fillL, ovw, numb, catL, ldN, agL, okC, oneC, init, Nat.reduceAdd, Nat.reduceMul, Nat.reduceSub, Nat.reduceEqDiff, Nat.reduceLT, ↓reduceIte, Int.reduceToNat, Int.reduceAdd, Int.reduceSub, Int.reduceMul, Int.reduceLT, Int.reduceLE, Int.reduceEq, Nat.reduceLeDiff,  g0, g2]
        refine hK _ _ ?_
        clear hK hX K
        refine WX_if_f rfl ?_
        try simp +contextual (maxSteps := 2000000) (disch := (first | omega | (simp only [SZ]; done) | (simp only [SZ]; omega) | (simp only [TS] at *; omega))) only [PZ, RZ, gval, gslot, fillL, ovw, numb, catL, ldN, agL, okC, oneC, init, Nat.reduceAdd, Nat.reduceMul, Nat.reduceSub, Nat.reduceEqDiff, Nat.reduceLT, ↓reduceIte, Int.reduceToNat, Int.reduceAdd, Int.reduceSub, Int.reduceMul, Int.reduceLT, Int.reduceLE, Int.reduceEq, Nat.reduceLeDiff,  g0, g2]
        exact ⟨0, b1, hM, by omega, r8, h8, K8⟩
    clear hM
    rintro σ1 v1 ⟨x2, b2, hM, hab1, g0, g2, y1, t1, L1⟩
    have hw : bs ⟨#[101, 120, 116, 114, 97]⟩ = asc "extra" := by decide +kernel
    refine WX_piece fun K hK hX => ?_
    simp +contextual (maxSteps := 2000000) (disch := (first | omega | (simp only [SZ]; done) | (simp only [SZ]; omega) | (simp only [TS] at *; omega))) only [PZ, RZ, gval, gslot, fillL, ovw, numb, catL, ldN, agL, okC, oneC, init, Nat.reduceAdd, Nat.reduceMul, Nat.reduceSub, Nat.reduceEqDiff, Nat.reduceLT, ↓reduceIte, Int.reduceToNat, Int.reduceAdd, Int.reduceSub, Int.reduceMul, Int.reduceLT, Int.reduceLE, Int.reduceEq, Nat.reduceLeDiff,  g0, g2]
    refine (paFollows2 _ t1.pk hT).mono ?_
    rintro e w8 ⟨k8, hk8⟩
    rw [hw] at hk8
    have r8 := y1.kept k8 (by simp; omega)
    have K8 := L1.trans (t1.keptB k8 (by simpa using hbg))
    rcases hk8 with ⟨q8, rfl, p8⟩ | ⟨q8, rfl, p8⟩
    · have h8 := t1.leaf k8 p8 (by omega)
      have hh : hitT (asc "extra") (T.drop b2) = thenT (numT (T.drop (b2 + 1))) (T.drop (b2 + 1)) fun x => .ok x := by unfold hitT; rw [q8]
      rw [hh] at hM
      try simp +contextual (maxSteps := 2000000) (disch := (first | omega | (simp only [SZ]; done) | (simp only [SZ]; omega) | (simp only [TS] at *; omega))) only [PZ, RZ, gval, gslot, fillL, ovw, numb, catL, ldN, agL, okC, oneC, init, Nat.reduceAdd, Nat.reduceMul, Nat.reduceSub, Nat.reduceEqDiff, Nat.reduceLT, ↓reduceIte, Int.reduceToNat, Int.reduceAdd, Int.reduceSub, Int.reduceMul, Int.reduceLT, Int.reduceLE, Int.reduceEq, Nat.reduceLeDiff,  g0, g2]
      refine hK _ _ ?_
      clear hK hX K
      refine WX_if_t rfl ?_
      try simp +contextual (maxSteps := 2000000) (disch := (first | omega | (simp only [SZ]; done) | (simp only [SZ]; omega) | (simp only [TS] at *; omega))) only [PZ, RZ, gval, gslot, fillL, ovw, numb, catL, ldN, agL, okC, oneC, init, Nat.reduceAdd, Nat.reduceMul, Nat.reduceSub, Nat.reduceEqDiff, Nat.reduceLT, ↓reduceIte, Int.reduceToNat, Int.reduceAdd, Int.reduceSub, Int.reduceMul, Int.reduceLT, Int.reduceLE, Int.reduceEq, Nat.reduceLeDiff,  g0, g2]
      refine Res.use (paAny_any h8.pk hT) (fun x b9 w9 e9 k9 p9 => ?_) (fun e L w9 e9 k9 => ?_); rotate_left
      · obtain ⟨q9, rfl, rfl⟩ := anyT_err e9
        rw [q9] at hM
        exact hfin hM.symm (K8.trans (h8.keptB k9 (by simpa using hbg)))
      have q9 := anyT_ok e9
      rw [q9] at hM
      dsimp only [thenT, bindT] at hM
      have m9 := drop_mono (num_len q9) rfl p9.lt h8.pk.lt
      have h9 := h8.leaf k9 p9 m9
      have K9 := K8.trans (h8.keptB k9 (by simpa using hbg))
      have r9 := r8.kept k9 (by simp; omega)
      have z0 := r9.cell (i := 2) rfl
      have z0z := r9.frozen 2
      try simp +contextual (maxSteps := 2000000) (disch := (first | omega | (simp only [SZ]; done) | (simp only [SZ]; omega) | (simp only [TS] at *; omega))) only [PZ, RZ, gval, gslot, fillL, ovw, numb, catL, ldN, agL, okC, oneC, init, Nat.reduceAdd, Nat.reduceMul, Nat.reduceSub, Nat.reduceEqDiff, Nat.reduceLT, ↓reduceIte, Int.reduceToNat, Int.reduceAdd, Int.reduceSub, Int.reduceMul, Int.reduceLT, Int.reduceLE, Int.reduceEq, Nat.reduceLeDiff,  g0, g2, z0, z0z]
      obtain ⟨h10, K10, r10⟩ := stSet (v := .int .i64 x) (i := 2) h9 K9 r9 (by decide) hbga hgag hgas hva hvt (by simp)
      exact ⟨(0, x1, x2, x), b9, hM.symm, by omega, r10, h10, K10⟩
    · have h8 := t1.leaf k8 p8 (Nat.le_refl _)
      have hh : hitT (asc "extra") (T.drop b2) = .ok (0, T.drop b2) := by unfold hitT; rw [q8]
      rw [hh] at hM
      dsimp only [bindT] at hM
      try simp +contextual (maxSteps := 2000000) (disch := (first | omega | (simp only [SZ]; done) | (simp only [SZ]; omega) | (simp only [TS] at *; omega))) only [PZ, RZ, gval, gslot, fillL, ovw, numb, catL, ldN, agL, okC, oneC, init, Nat.reduceAdd, Nat.reduceMul, Nat.reduceSub, Nat.reduceEqDiff, Nat.reduceLT, ↓reduceIte, Int.reduceToNat, Int.reduceAdd, Int.reduceSub, Int.reduceMul, Int.reduceLT, Int.reduceLE, Int.reduceEq, Nat.reduceLeDiff,  g0, g2]
      refine hK _ _ ?_
      clear hK hX K
      refine WX_if_f rfl ?_
      try simp +contextual (maxSteps := 2000000) (disch := (first | omega | (simp only [SZ]; done) | (simp only [SZ]; omega) | (simp only [TS] at *; omega))) only [PZ, RZ, gval, gslot, fillL, ovw, numb, catL, ldN, agL, okC, oneC, init, Nat.reduceAdd, Nat.reduceMul, Nat.reduceSub, Nat.reduceEqDiff, Nat.reduceLT, ↓reduceIte, Int.reduceToNat, Int.reduceAdd, Int.reduceSub, Int.reduceMul, Int.reduceLT, Int.reduceLE, Int.reduceEq, Nat.reduceLeDiff,  g0, g2]
      exact ⟨(0, x1, x2, 0), b2, hM.symm, by omega, r8, h8, K8⟩
  clear hM hfin
  rintro σ2 w2 ⟨m, a1, rfl, ha1, g0, g2, r2, h2, K2⟩
  dsimp only [bindT] at hr
  refine WX_cut (fun σ w3 => ∃ (k : Int), a1 + 1 < T.length ∧ (thenT (numT (T.drop (a1 + 1))) (T.drop (a1 + 1)) fun v => Except.ok (({ G with tiers := G.tiers ++ [(⟨m.2.1, m.2.2.1, m.2.2.2, m.1, k, v.1⟩ : Ti)] }, seen), v.2)) = r ∧ σ 0 = .pointer (some ⟨g, 0, none⟩) ∧ σ 2 = .pointer (some ⟨ga, 0, none⟩) ∧
    Row w3 ga 45 [Value.int .i64 m.2.1, .int .i64 m.2.2.1, .int .i64 m.2.2.2, .int .i64 m.1, .int .i64 k, .int .i64 0] ∧ GmSt w3 base g gs A c T (a1 + 1) G seen Va Vt Vs ∧ Below base w w3) ?_ ?_; rotate_left
  · refine WX_piece fun K hK hX => ?_
    simp +contextual (maxSteps := 2000000) (disch := (first | omega | (simp only [SZ]; done) | (simp only [SZ]; omega) | (simp only [TS] at *; omega))) only [PZ, RZ, gval, gslot, fillL, ovw, numb, catL, ldN, agL, okC, oneC, init, Nat.reduceAdd, Nat.reduceMul, Nat.reduceSub, Nat.reduceEqDiff, Nat.reduceLT, ↓reduceIte, Int.reduceToNat, Int.reduceAdd, Int.reduceSub, Int.reduceMul, Int.reduceLT, Int.reduceLE, Int.reduceEq, Nat.reduceLeDiff,  g0, g2]
    refine Res.use (paTake_any 1 h2.pk hT) (fun t a3 w3 e3 k3 p3 => ?_) (fun e L w3 e3 k3 => ?_); rotate_left
    · obtain ⟨u1, rfl, rfl⟩ := takeT_err e3
      rw [if_pos u1] at hr
      refine hX _ _ _ (fun h => by cases h) ?_
      exact ResG.err hr.symm (K2.trans (h2.keptB k3 (by simpa using hbg)))
    obtain ⟨u1, ht, u3⟩ := takeT_ok e3
    obtain ⟨l2, n2⟩ := nx_at hT h2.pk.lt (by omega)
    rw [if_neg (fun h => h u1), n2] at hr
    rw [n2] at u3
    obtain rfl : a3 = a1 + 1 := drop_same u3.symm p3.lt l2
    have h3 := h2.leaf k3 p3 (by omega)
    have K3 := K2.trans (h2.keptB k3 (by simpa using hbg))
    have r3 := r2.kept k3 (by simp; omega)
    rw [← ht] at hr u1
    have hlnT : (hdT (T.drop a1)).line = t.line := by rw [← ht]
    clear e3 ht
    rw [show (encTk t).toArray = #[.int .i64 t.kind, .int .i64 t.line, .int .i64 t.col, .string t.text] from rfl]
    try simp +contextual (maxSteps := 2000000) (disch := (first | omega | (simp only [SZ]; done) | (simp only [SZ]; omega) | (simp only [TS] at *; omega))) only [PZ, RZ, gval, gslot, fillL, ovw, numb, catL, ldN, agL, okC, oneC, init, Nat.reduceAdd, Nat.reduceMul, Nat.reduceSub, Nat.reduceEqDiff, Nat.reduceLT, ↓reduceIte, Int.reduceToNat, Int.reduceAdd, Int.reduceSub, Int.reduceMul, Int.reduceLT, Int.reduceLE, Int.reduceEq, Nat.reduceLeDiff,  g0, g2]
    have h4 := h3.below (below_alloc w3 (.cells #[Value.int .i64 t.kind, .int .i64 t.line, .int .i64 t.col, .string t.text] 38))
    have K4 := K3.trans ((below_alloc w3 (.cells #[Value.int .i64 t.kind, .int .i64 t.line, .int .i64 t.col, .string t.text] 38)).mono (by have := h3.pk.row.lt; omega))
    have r4 := r3.alloc (.cells #[Value.int .i64 t.kind, .int .i64 t.line, .int .i64 t.col, .string t.text] 38)
    have q4 := Row.new w3 38 [Value.int .i64 t.kind, .int .i64 t.line, .int .i64 t.col, .string t.text]
    replace q4 : Row (w3.alloc (.cells #[Value.int .i64 t.kind, .int .i64 t.line, .int .i64 t.col, .string t.text] 38)) _ _ _ := q4
    generalize w3.alloc (.cells #[Value.int .i64 t.kind, .int .i64 t.line, .int .i64 t.col, .string t.text] 38) = w4 at *
    have c0 := q4.cell (i := 0) rfl
    have c1 := q4.cell (i := 1) rfl
    have c2 := q4.cell (i := 2) rfl
    have c3 := q4.cell (i := 3) rfl
    refine hK _ _ ?_
    clear hK hX K
    refine WX_piece fun K hK hX => ?_
    simp +contextual (maxSteps := 2000000) (disch := (first | omega | (simp only [SZ]; done) | (simp only [SZ]; omega) | (simp only [TS] at *; omega))) only [PZ, RZ, gval, gslot, fillL, ovw, numb, catL, ldN, agL, okC, oneC, init, Nat.reduceAdd, Nat.reduceMul, Nat.reduceSub, Nat.reduceEqDiff, Nat.reduceLT, ↓reduceIte, Int.reduceToNat, Int.reduceAdd, Int.reduceSub, Int.reduceMul, Int.reduceLT, Int.reduceLE, Int.reduceEq, Nat.reduceLeDiff,  g0, g2, c3]
    refine hK _ _ ?_
    clear hK hX K
    rw [WX_block]
    have z4 := r4.cell (i := 4) rfl
    have z4z := r4.frozen 4
    have hb1 : bs ⟨#[102, 105, 120, 101, 100]⟩ = asc "fixed" := by decide +kernel
    have hb2 : bs ⟨#[115, 104, 97, 114, 101]⟩ = asc "share" := by decide +kernel
    have hb3 : bs ⟨#[106, 97, 99, 107, 112, 111, 116]⟩ = asc "jackpot" := by decide +kernel
    refine WX_piece fun K hK hX => ?_
    by_cases hx1 : t.text = ⟨#[102, 105, 120, 101, 100]⟩
    · have e1 : (t.text = ⟨#[102, 105, 120, 101, 100]⟩) = True := eq_true hx1
      simp +contextual (maxSteps := 2000000) (disch := (first | omega | (simp only [SZ]; done) | (simp only [SZ]; omega) | (simp only [TS] at *; omega))) only [PZ, RZ, gval, gslot, fillL, ovw, numb, catL, ldN, agL, okC, oneC, init, Nat.reduceAdd, Nat.reduceMul, Nat.reduceSub, Nat.reduceEqDiff, Nat.reduceLT, ↓reduceIte, Int.reduceToNat, Int.reduceAdd, Int.reduceSub, Int.reduceMul, Int.reduceLT, Int.reduceLE, Int.reduceEq, Nat.reduceLeDiff,  g0, g2, e1]
      refine hK _ _ ?_
      clear hK hX K
      refine WX_if_t rfl ?_
      simp +contextual (maxSteps := 2000000) (disch := (first | omega | (simp only [SZ]; done) | (simp only [SZ]; omega) | (simp only [TS] at *; omega))) only [PZ, RZ, gval, gslot, fillL, ovw, numb, catL, ldN, agL, okC, oneC, init, Nat.reduceAdd, Nat.reduceMul, Nat.reduceSub, Nat.reduceEqDiff, Nat.reduceLT, ↓reduceIte, Int.reduceToNat, Int.reduceAdd, Int.reduceSub, Int.reduceMul, Int.reduceLT, Int.reduceLE, Int.reduceEq, Nat.reduceLeDiff,  g0, g2, z4, z4z]
      have hp : prizeK (bs t.text) = some 1 := by rw [hx1, hb1]; decide +kernel
      rw [hp] at hr
      obtain ⟨h5, K5, r5⟩ := stSet (v := .int .i64 1) (i := 4) h4 K4 r4 (by decide) hbga hgag hgas hva hvt (by simp)
      exact ⟨1, l2, by rw [← hr]; dsimp only; cases numT (T.drop (a1 + 1)) <;> rfl, r5, h5, K5⟩
    have f1 : (t.text = ⟨#[102, 105, 120, 101, 100]⟩) = False := eq_false hx1
    simp +contextual (maxSteps := 2000000) (disch := (first | omega | (simp only [SZ]; done) | (simp only [SZ]; omega) | (simp only [TS] at *; omega))) only [PZ, RZ, gval, gslot, fillL, ovw, numb, catL, ldN, agL, okC, oneC, init, Nat.reduceAdd, Nat.reduceMul, Nat.reduceSub, Nat.reduceEqDiff, Nat.reduceLT, ↓reduceIte, Int.reduceToNat, Int.reduceAdd, Int.reduceSub, Int.reduceMul, Int.reduceLT, Int.reduceLE, Int.reduceEq, Nat.reduceLeDiff,  g0, g2, f1]
    refine hK _ _ ?_
    clear hK hX K
    refine WX_if_f rfl ?_
    refine WX_piece fun K hK hX => ?_
    by_cases hx2 : t.text = ⟨#[115, 104, 97, 114, 101]⟩
    · have e1 : (t.text = ⟨#[115, 104, 97, 114, 101]⟩) = True := eq_true hx2
      simp +contextual (maxSteps := 2000000) (disch := (first | omega | (simp only [SZ]; done) | (simp only [SZ]; omega) | (simp only [TS] at *; omega))) only [PZ, RZ, gval, gslot, fillL, ovw, numb, catL, ldN, agL, okC, oneC, init, Nat.reduceAdd, Nat.reduceMul, Nat.reduceSub, Nat.reduceEqDiff, Nat.reduceLT, ↓reduceIte, Int.reduceToNat, Int.reduceAdd, Int.reduceSub, Int.reduceMul, Int.reduceLT, Int.reduceLE, Int.reduceEq, Nat.reduceLeDiff,  g0, g2, e1]
      refine hK _ _ ?_
      clear hK hX K
      refine WX_if_t rfl ?_
      simp +contextual (maxSteps := 2000000) (disch := (first | omega | (simp only [SZ]; done) | (simp only [SZ]; omega) | (simp only [TS] at *; omega))) only [PZ, RZ, gval, gslot, fillL, ovw, numb, catL, ldN, agL, okC, oneC, init, Nat.reduceAdd, Nat.reduceMul, Nat.reduceSub, Nat.reduceEqDiff, Nat.reduceLT, ↓reduceIte, Int.reduceToNat, Int.reduceAdd, Int.reduceSub, Int.reduceMul, Int.reduceLT, Int.reduceLE, Int.reduceEq, Nat.reduceLeDiff,  g0, g2, z4, z4z]
      have hp : prizeK (bs t.text) = some 2 := by rw [hx2, hb2]; decide +kernel
      rw [hp] at hr
      obtain ⟨h5, K5, r5⟩ := stSet (v := .int .i64 2) (i := 4) h4 K4 r4 (by decide) hbga hgag hgas hva hvt (by simp)
      exact ⟨2, l2, by rw [← hr]; dsimp only; cases numT (T.drop (a1 + 1)) <;> rfl, r5, h5, K5⟩
    have f2 : (t.text = ⟨#[115, 104, 97, 114, 101]⟩) = False := eq_false hx2
    simp +contextual (maxSteps := 2000000) (disch := (first | omega | (simp only [SZ]; done) | (simp only [SZ]; omega) | (simp only [TS] at *; omega))) only [PZ, RZ, gval, gslot, fillL, ovw, numb, catL, ldN, agL, okC, oneC, init, Nat.reduceAdd, Nat.reduceMul, Nat.reduceSub, Nat.reduceEqDiff, Nat.reduceLT, ↓reduceIte, Int.reduceToNat, Int.reduceAdd, Int.reduceSub, Int.reduceMul, Int.reduceLT, Int.reduceLE, Int.reduceEq, Nat.reduceLeDiff,  g0, g2, f2]
    refine hK _ _ ?_
    clear hK hX K
    refine WX_if_f rfl ?_
    refine WX_piece fun K hK hX => ?_
    by_cases hx3 : t.text = ⟨#[106, 97, 99, 107, 112, 111, 116]⟩
    · have e1 : (t.text = ⟨#[106, 97, 99, 107, 112, 111, 116]⟩) = True := eq_true hx3
      simp +contextual (maxSteps := 2000000) (disch := (first | omega | (simp only [SZ]; done) | (simp only [SZ]; omega) | (simp only [TS] at *; omega))) only [PZ, RZ, gval, gslot, fillL, ovw, numb, catL, ldN, agL, okC, oneC, init, Nat.reduceAdd, Nat.reduceMul, Nat.reduceSub, Nat.reduceEqDiff, Nat.reduceLT, ↓reduceIte, Int.reduceToNat, Int.reduceAdd, Int.reduceSub, Int.reduceMul, Int.reduceLT, Int.reduceLE, Int.reduceEq, Nat.reduceLeDiff,  g0, g2, e1]
      refine hK _ _ ?_
      clear hK hX K
      refine WX_if_t rfl ?_
      simp +contextual (maxSteps := 2000000) (disch := (first | omega | (simp only [SZ]; done) | (simp only [SZ]; omega) | (simp only [TS] at *; omega))) only [PZ, RZ, gval, gslot, fillL, ovw, numb, catL, ldN, agL, okC, oneC, init, Nat.reduceAdd, Nat.reduceMul, Nat.reduceSub, Nat.reduceEqDiff, Nat.reduceLT, ↓reduceIte, Int.reduceToNat, Int.reduceAdd, Int.reduceSub, Int.reduceMul, Int.reduceLT, Int.reduceLE, Int.reduceEq, Nat.reduceLeDiff,  g0, g2, z4, z4z]
      have hp : prizeK (bs t.text) = some 3 := by rw [hx3, hb3]; decide +kernel
      rw [hp] at hr
      obtain ⟨h5, K5, r5⟩ := stSet (v := .int .i64 3) (i := 4) h4 K4 r4 (by decide) hbga hgag hgas hva hvt (by simp)
      exact ⟨3, l2, by rw [← hr]; dsimp only; cases numT (T.drop (a1 + 1)) <;> rfl, r5, h5, K5⟩
    have f3 : (t.text = ⟨#[106, 97, 99, 107, 112, 111, 116]⟩) = False := eq_false hx3
    simp +contextual (maxSteps := 2000000) (disch := (first | omega | (simp only [SZ]; done) | (simp only [SZ]; omega) | (simp only [TS] at *; omega))) only [PZ, RZ, gval, gslot, fillL, ovw, numb, catL, ldN, agL, okC, oneC, init, Nat.reduceAdd, Nat.reduceMul, Nat.reduceSub, Nat.reduceEqDiff, Nat.reduceLT, ↓reduceIte, Int.reduceToNat, Int.reduceAdd, Int.reduceSub, Int.reduceMul, Int.reduceLT, Int.reduceLE, Int.reduceEq, Nat.reduceLeDiff,  g0, g2, f3]
    refine hK _ _ ?_
    clear hK hX K
    refine WX_if_f rfl ?_
    have hp : prizeK (bs t.text) = none := by unfold prizeK; rw [if_neg (fun h => hx1 (bs_inj (h.trans hb1.symm))), if_neg (fun h => hx2 (bs_inj (h.trans hb2.symm))), if_neg (fun h => hx3 (bs_inj (h.trans hb3.symm)))]
    rw [hp] at hr
    simp +contextual (maxSteps := 2000000) (disch := (first | omega | (simp only [SZ]; done) | (simp only [SZ]; omega) | (simp only [TS] at *; omega))) only [PZ, RZ, gval, gslot, fillL, ovw, numb, catL, ldN, agL, okC, oneC, init, Nat.reduceAdd, Nat.reduceMul, Nat.reduceSub, Nat.reduceEqDiff, Nat.reduceLT, ↓reduceIte, Int.reduceToNat, Int.reduceAdd, Int.reduceSub, Int.reduceMul, Int.reduceLT, Int.reduceLE, Int.reduceEq, Nat.reduceLeDiff,  g0, g2, c0, c1, c2, c3]
    refine (paFail_any g 1 t w4).mono ?_
    rintro e w5 ⟨rfl, hB5⟩
    rw [Ends_pan]
    have := ResG.err (base := base) (g := g) (gs := gs) (A := A) (c := c) (T := T) hr.symm (K4.trans (hB5.mono (by have := h4.pk.row.lt; omega)))
    rw [hlnT] at this
    exact this
  clear g0 g2 r2 hr
  rintro σ3 w3 ⟨k, hl3, hr, g0, g2, r3, h3, K3⟩
  refine WX_piece fun K hK hX => ?_
  simp +contextual (maxSteps := 2000000) (disch := (first | omega | (simp only [SZ]; done) | (simp only [SZ]; omega) | (simp only [TS] at *; omega))) only [PZ, RZ, gval, gslot, fillL, ovw, numb, catL, ldN, agL, okC, oneC, init, Nat.reduceAdd, Nat.reduceMul, Nat.reduceSub, Nat.reduceEqDiff, Nat.reduceLT, ↓reduceIte, Int.reduceToNat, Int.reduceAdd, Int.reduceSub, Int.reduceMul, Int.reduceLT, Int.reduceLE, Int.reduceEq, Nat.reduceLeDiff,  g0, g2]
  refine Res.use (paAny_any h3.pk hT) (fun x a3 w5 e5 k5 p5 => ?_) (fun e L w5 e5 k5 => ?_); rotate_left
  · obtain ⟨q5, rfl, rfl⟩ := anyT_err e5
    rw [q5] at hr
    refine hX _ _ _ (fun h => by cases h) ?_
    exact ResG.err hr.symm (K3.trans (h3.keptB k5 (by simpa using hbg)))
  have q5 := anyT_ok e5
  rw [q5] at hr
  dsimp only [thenT] at hr
  have m5 := drop_mono (num_len q5) rfl p5.lt h3.pk.lt
  have h5 := h3.leaf k5 p5 m5
  have K5 := K3.trans (h3.keptB k5 (by simpa using hbg))
  have r5 := r3.kept k5 (by simp; omega)
  have z5 := r5.cell (i := 5) rfl
  have z5z := r5.frozen 5
  try simp +contextual (maxSteps := 2000000) (disch := (first | omega | (simp only [SZ]; done) | (simp only [SZ]; omega) | (simp only [TS] at *; omega))) only [PZ, RZ, gval, gslot, fillL, ovw, numb, catL, ldN, agL, okC, oneC, init, Nat.reduceAdd, Nat.reduceMul, Nat.reduceSub, Nat.reduceEqDiff, Nat.reduceLT, ↓reduceIte, Int.reduceToNat, Int.reduceAdd, Int.reduceSub, Int.reduceMul, Int.reduceLT, Int.reduceLE, Int.reduceEq, Nat.reduceLeDiff,  g0, g2, z5, z5z]
  obtain ⟨h6, K6, r6⟩ := stSet (v := .int .i64 x) (i := 5) h5 K5 r5 (by decide) hbga hgag hgas hva hvt (by simp)
  replace r6 : Row (w5.setCell ⟨ga, 5, none⟩ (.int .i64 x)) ga 45 (encTi ⟨m.2.1, m.2.2.1, m.2.2.2, m.1, k, x⟩) := r6
  generalize w5.setCell ⟨ga, 5, none⟩ (.int .i64 x) = w6 at *
  refine hK _ _ ?_
  clear hK hX K
  generalize hti : (⟨m.2.1, m.2.2.1, m.2.2.2, m.1, k, x⟩ : Ti) = ti at *
  have hgl6 := h6.pk.row.lt
  have hra := r6.lt
  have hlt6 := h6.pk.lt
  obtain ⟨At, na, ca, hVt, hna⟩ : ∃ At na ca, Vt = .slice At na ca ∧ na = G.tiers.length := by
    rcases h6.tis.2 with ⟨hv, h0⟩ | ⟨g', cap, cur, hv, _⟩
    · exact ⟨none, 0, 0, hv, h0.symm⟩
    · exact ⟨_, _, _, hv, rfl⟩
  subst hVt hna
  have hI : sliceI Tryd.prog 23 = some (45, 6, 48) := by kernel_rfl
  have p24 := h6.pk.row.cell (i := 24) rfl
  have p24z := h6.pk.row.frozen 24
  try simp +contextual (maxSteps := 2000000) (disch := (first | omega | (simp only [SZ]; done) | (simp only [SZ]; omega) | (simp only [TS] at *; omega))) only [PZ, RZ, gval, gslot, fillL, ovw, numb, catL, ldN, agL, okC, oneC, init, Nat.reduceAdd, Nat.reduceMul, Nat.reduceSub, Nat.reduceEqDiff, Nat.reduceLT, ↓reduceIte, Int.reduceToNat, Int.reduceAdd, Int.reduceSub, Int.reduceMul, Int.reduceLT, Int.reduceLE, Int.reduceEq, Nat.reduceLeDiff,  g0, g2]
  refine RawD_np (Raw_ordX [1, 2, 3, 4, 5, 6, 7] (fun w' => w'.cell? ⟨g, 24, none⟩ = some (.slice At G.tiers.length ca) ∧ Row w' ga 45 (encTi ti)) 13 rfl MX ?_)
  have h7 := h6.leaf (w' := w6.drew) (Kept.refl [g] w6).drew (h6.pk.kept (X := []) (Kept.refl [] w6).drew (by simp) (by simp)) (Nat.le_refl _)
  have K7 : Below base w w6.drew := below_drew K6
  have r7 : Row w6.drew ga 45 _ := r6
  have d24 : w6.drew.cell? _ = _ := p24
  have d24z : w6.drew.frozen? ⟨g, 24, none⟩ = false := p24z
  have hgl7 : g < w6.drew.heap.size := hgl6
  have hra7 : ga < w6.drew.heap.size := hra
  clear h6 K6 r6 p24 p24z h5 K5 r5
  generalize w6.drew = w7 at *
  obtain ⟨A', c', w8, he, hown8, hb8, hs8, hk8⟩ := push2 (P := Tryd.prog) (T2 := 23) (ty := 23) (news := encTi ti) h7.tis (by omega) hI rfl
    (fun u hu => by simp only [encTi, List.mem_cons, List.not_mem_nil, or_false] at hu; rcases hu with rfl | rfl | rfl | rfl | rfl | rfl <;> rfl) (by have := h7.fewT; omega) (by decide)
  rw [show (encTi ti).toArray = #[.int .i64 ti.main, .int .i64 ti.bonus, .int .i64 ti.extra, .int .i64 ti.mode, .int .i64 ti.kind, .int .i64 ti.value] from rfl] at he
  refine OrdX_readsU (τ := ?tz) [0] 12 rfl (by kernel_rfl) (by kernel_rfl) (by kernel_rfl) noP_pan (fun w' => ?_) ?_; rotate_left
  · simp only [opsL_cons, opsL_nil, List.getElem?_toArray, List.getElem?_cons_zero, List.getElem?_cons_succ, optL_some]
    simp +contextual (maxSteps := 2000000) (disch := (first | omega | (simp only [SZ]; done) | (simp only [SZ]; omega) | (simp only [TS] at *; omega))) only [RZ, gval, gslot, fillL, ovw, numb, catL, ldN, agL, okC, oneC, init, Nat.reduceAdd, Nat.reduceMul, Nat.reduceSub, Nat.reduceEqDiff, Nat.reduceLT, ↓reduceIte, Int.reduceToNat, Int.reduceAdd, Int.reduceSub, Int.reduceMul, Int.reduceLT, Int.reduceLE, Int.reduceEq, Nat.reduceLeDiff,  g0]
    exact rfl
  refine OrdX_reads (τ := ?ta) [1, 2, 3, 4, 5, 6] 6 rfl (by kernel_rfl) (by kernel_rfl) noP_pan ⟨d24, r7⟩ (fun w9 h9 => ?_) ?_; rotate_left
  · obtain ⟨h9a, h9r⟩ := h9
    have x0 := h9r.cell (i := 0) rfl
    have x1 := h9r.cell (i := 1) rfl
    have x2 := h9r.cell (i := 2) rfl
    have x3 := h9r.cell (i := 3) rfl
    have x4 := h9r.cell (i := 4) rfl
    have x5 := h9r.cell (i := 5) rfl
    simp only [opsL_cons, opsL_nil, List.getElem?_toArray, List.getElem?_cons_zero, List.getElem?_cons_succ, optL_some]
    simp +contextual (maxSteps := 2000000) (disch := (first | omega | (simp only [SZ]; done) | (simp only [SZ]; omega) | (simp only [TS] at *; omega))) only [RZ, gval, gslot, fillL, ovw, numb, catL, ldN, agL, okC, oneC, init, Nat.reduceAdd, Nat.reduceMul, Nat.reduceSub, Nat.reduceEqDiff, Nat.reduceLT, ↓reduceIte, Int.reduceToNat, Int.reduceAdd, Int.reduceSub, Int.reduceMul, Int.reduceLT, Int.reduceLE, Int.reduceEq, Nat.reduceLeDiff,  g0, g2, h9a, x0, x1, x2, x3, x4, x5]
    exact rfl
  refine OrdX_one 7 (by kernel_rfl) rfl ?_
  simp +contextual (maxSteps := 2000000) (disch := (first | omega | (simp only [SZ]; done) | (simp only [SZ]; omega) | (simp only [TS] at *; omega))) only [RZ, gval, gslot, fillL, ovw, numb, catL, ldN, agL, okC, oneC, init, Nat.reduceAdd, Nat.reduceMul, Nat.reduceSub, Nat.reduceEqDiff, Nat.reduceLT, ↓reduceIte, Int.reduceToNat, Int.reduceAdd, Int.reduceSub, Int.reduceMul, Int.reduceLT, Int.reduceLE, Int.reduceEq, Nat.reduceLeDiff]
  refine ⟨⟨d24, r7.alloc _⟩, ?_⟩
  refine OrdX_chain [8, 9, 10, 11, 12] _ _ _ (by kernel_rfl) (by kernel_rfl) ?_
  simp only [opsL_cons, opsL_nil, List.getElem?_toArray, List.getElem?_cons_zero, List.getElem?_cons_succ, optL_some]
  have hb8g := hk8 g hgl7 (own_ne h7.tis h7.pk.row (by decide))
  have d8 : w8.cell? ⟨g, 24, none⟩ = some (.slice At G.tiers.length ca) := (World.cell?_of_block (w := w7) hb8g).trans d24
  have y8 : w8.frozen? ⟨g, 24, none⟩ = false := (World.frozen?_of_block (w := w7) hb8g).trans d24z
  simp +contextual (maxSteps := 2000000) (disch := (first | omega | (simp only [SZ]; done) | (simp only [SZ]; omega) | (simp only [TS] at *; omega))) only [RZ, gval, gslot, fillL, ovw, numb, catL, ldN, agL, okC, oneC, init, Nat.reduceAdd, Nat.reduceMul, Nat.reduceSub, Nat.reduceEqDiff, Nat.reduceLT, ↓reduceIte, Int.reduceToNat, Int.reduceAdd, Int.reduceSub, Int.reduceMul, Int.reduceLT, Int.reduceLE, Int.reduceEq, Nat.reduceLeDiff,  g0, g2, he, d8, y8]
  have hR8 := h7.pk.row.of_block hb8g
  have hS8 : SeenIn w8 gs seen := by
    obtain ⟨l, clk, hl, hk⟩ := h7.sn
    exact ⟨l, clk, (hk8 gs (Array.getElem?_eq_some_iff.1 hl).1 (own_ne_seen h7.tis h7.sn)).trans hl, hk⟩
  have hI8 : ∀ {v : Value} {L : List Int}, IntsT base w7 v L → IntsT base (w8.setCell ⟨g, 24, none⟩ (.slice A' (G.tiers.length + 1) c')) v L := fun hv => hv.of_blocks fun b cs hr => by
    have hbg : b ≠ g := fun e => by subst e; obtain ⟨cur, hc, _⟩ := hr; exact not_int_parser h7.pk.row _ hc _ _ rfl
    rw [Below.heap_setCell _ _ _ _ (by exact hbg)]
    exact hk8 b hr.lt (own_ne h7.tis hr (by decide))
  refine ResG.ok (Va := Va) (Vt := .slice A' (G.tiers.length + 1) c') (Vs := Vs) hr.symm ((K7.trans hb8).setCell (p := ⟨g, 24, none⟩) hbg _) ?_
  refine ⟨?_, ?_, ?_, ?_, ?_, ?_, ?_, h7.days, h7.toks, h7.hg⟩
  · refine ⟨h7.pk.lt, ?_, h7.pk.off, hR8.set_ (i := 24) (by simp [gmV]) _⟩
    intro hn
    obtain ⟨b, o, e, hb, hc⟩ := h7.pk.arr hn
    have hbb := h7.toks b o e
    refine ⟨b, o, e, by simp; omega, fun i l hl j v hv => ?_⟩
    have hne : b ≠ g := by omega
    rw [World.cell?_of_block (w := w8) (Below.heap_setCell _ _ _ _ (by exact hne)), World.cell?_of_block (w := w7) (hb8.block b hbb)]
    exact hc i l hl j v hv
  · obtain ⟨l, clk, hl, hk⟩ := hS8
    exact ⟨l, clk, (Below.heap_setCell _ _ _ _ (by exact hne)).trans hl, hk⟩
  · exact h7.ads.mono fun v L hv => hI8 hv
  · refine owns_keep h7.own fun b hb => ?_
    have hbg : b ≠ g := fun e => own_ne h7.own h7.pk.row (by decide) (e ▸ hb)
    rw [Below.heap_setCell _ _ _ _ (by exact hbg)]
    exact hk8 b (owns_ge h7.own hb).2 (own_ne_own h7.tis h7.own (by decide) hb)
  · have := owns_keep (w' := w8.setCell ⟨g, 24, none⟩ (.slice A' (G.tiers.length + 1) c')) hown8 (fun b hb => Below.heap_setCell _ _ _ _ (by
      intro e
      rw [show b = g from e] at hb
      exact own_ne hown8 hR8 (by decide) hb))
    rw [List.length_append, List.flatMap_append, List.flatMap_cons, List.flatMap_nil, List.append_nil]
    exact this
  · have := h7.fewA; exact this
  · rw [List.length_append]; have := h.fewT; simp; omega
end
end Go.Proofs.YtbdkggnajipdhaaDoor
/- Plain: chapter 11, what is printed, as a text of items. No program in sight. -/
namespace Go.Proofs.YtbdkggnajipdhaaDoor
def Pr.Ok (p : Pr) : Prop := p.bad = false → p.X.length ≤ 32768
/-- From p to q the text l is written, if c holds and there is room. -/
def Pr.Step (p q : Pr) (c : Bool) (l : List Nat) : Prop := p.Ok → q.Ok ∧ (q.bad = false ↔ (p.bad = false ∧ c = true ∧ (p.X ++ l).length ≤ 32768)) ∧ (q.bad = false → q.X = p.X ++ l)
theorem Pr.Step.trans {p q r : Pr} {c c' : Bool} {l l' : List Nat} (h1 : Pr.Step p q c l) (h2 : Pr.Step q r c' l') : Pr.Step p r (c && c') (l ++ l') := by
  intro hp
  obtain ⟨a1, a2, a3⟩ := h1 hp
  obtain ⟨b1, b2, b3⟩ := h2 a1
  refine ⟨b1, ?_, ?_⟩
  · rw [b2]
    constructor
    · rintro ⟨x1, x2, x3⟩
      obtain ⟨y1, y2, y3⟩ := a2.1 x1
      rw [a3 x1, List.append_assoc] at x3
      exact ⟨y1, by rw [y2, x2]; rfl, x3⟩
    · rintro ⟨x1, x2, x3⟩
      rw [Bool.and_eq_true] at x2
      have hl : (p.X ++ l).length ≤ 32768 := by simp only [List.length_append] at x3 ⊢; omega
      have hq := a2.2 ⟨x1, x2.1, hl⟩
      exact ⟨hq, x2.2, by rw [a3 hq, List.append_assoc]; exact x3⟩
  · intro hr
    rw [b3 hr, a3 (b2.1 hr).1, List.append_assoc]
theorem Pr.Step.id (p : Pr) : Pr.Step p p true [] := fun hp => ⟨hp, ⟨fun h => ⟨h, rfl, by rw [List.append_nil]; exact hp h⟩, fun h => h.1⟩, fun _ => (List.append_nil _).symm⟩
theorem Pr.Step.cast {p q : Pr} {c c' : Bool} {l l' : List Nat} (h : Pr.Step p q c l) (hc : c = c') (hl : l = l') : Pr.Step p q c' l' := by subst hc; subst hl; exact h
theorem Pr.Step.bad {p q : Pr} (l : List Nat) (h : q.bad = true) : Pr.Step p q false l :=
  fun _ => ⟨fun e => (by rw [h] at e; cases e), ⟨fun e => (by rw [h] at e; cases e), fun e => (by cases e.2.1)⟩, fun e => (by rw [h] at e; cases e)⟩
/-- Where p is bad already. -/
theorem Pr.Step.dead {p q : Pr} (c : Bool) (l : List Nat) (hp : p.bad = true) (h : q.bad = true) : Pr.Step p q c l :=
  fun _ => ⟨fun e => (by rw [h] at e; cases e), ⟨fun e => (by rw [h] at e; cases e), fun e => (by rw [hp] at e; cases e.1)⟩, fun e => (by rw [h] at e; cases e)⟩
theorem Pr.Step.req (p : Pr) (c : Bool) : Pr.Step p (p.req c) c [] := by
  intro hp
  unfold Pr.req
  refine ⟨fun e => ?_, ?_, fun e => (List.append_nil _).symm⟩
  · simp only [Bool.or_eq_false_iff] at e; exact hp e.1
  · simp only [Bool.or_eq_false_iff, Bool.not_eq_false']
    exact ⟨fun h => ⟨h.1, h.2, by rw [List.append_nil]; exact hp h.1⟩, fun h => ⟨h.1, h.2.1⟩⟩
theorem Pr.Step.lim (p : Pr) (l : List Nat) : Pr.Step p (p.add l).lim true l := by
  intro hp
  unfold Pr.lim Pr.req Pr.add
  refine ⟨fun e => ?_, ?_, fun _ => rfl⟩
  · simp only [Bool.or_eq_false_iff, Bool.not_eq_false', decide_eq_true_eq] at e; exact e.2
  · simp only [Bool.or_eq_false_iff, Bool.not_eq_false', decide_eq_true_eq, true_and]
theorem Pr.add_add (p : Pr) (s t : List Nat) : (p.add s).add t = p.add (s ++ t) := by unfold Pr.add; rw [List.append_assoc]
theorem Pr.add_nil (p : Pr) : p.add [] = p := by unfold Pr.add; rw [List.append_nil]
theorem Pr.Step.wsA (p : Pr) (s : List Nat) (w : List (List Nat)) : Pr.Step p ((p.add s).ws w) true (s ++ w.flatMap (32 :: ·)) := by
  unfold Pr.ws; rw [Pr.add_add]; exact Pr.Step.lim p _
theorem Pr.Step.ws (p : Pr) (w : List (List Nat)) : Pr.Step p (p.ws w) true (w.flatMap (32 :: ·)) := Pr.Step.lim p _
theorem Pr.Step.beginA (p : Pr) (s w : List Nat) : Pr.Step p ((p.add s).begin w) true (s ++ (32 :: 32 :: w)) := by
  unfold Pr.begin; rw [Pr.add_add]
  exact (Pr.Step.wsA p (s ++ [32]) [w]).cast rfl (by simp)
theorem Pr.Step.begin (p : Pr) (w : List Nat) : Pr.Step p (p.begin w) true (32 :: 32 :: w) := by
  have h := Pr.Step.beginA p [] w
  rw [Pr.add_nil] at h; exact h
theorem Pr.Step.fin (p : Pr) : Pr.Step p p.fin true (asc ";\n") := Pr.Step.lim p _
def numW (L : List Int) : List Nat := L.flatMap fun n => 32 :: fmtI n
theorem Pr.Step.nums : ∀ (L : List Int) (p : Pr), Pr.Step p (p.nums L) (L.all fitB) (numW L)
  | [], p => Pr.Step.id p
  | n :: r, p => by
    unfold Pr.nums
    split
    · rename_i h
      have h' := h
      unfold Pr.req at h'
      simp only [Bool.or_eq_true, Bool.not_eq_true'] at h'
      rcases h' with h' | h'
      · exact Pr.Step.dead _ _ h' h
      · exact (Pr.Step.bad _ h).cast (by rw [List.all_cons, h']; rfl) rfl
    · refine (((Pr.Step.req p (fitB n)).trans (Pr.Step.ws _ [fmtI n])).trans (Pr.Step.nums r _)).cast (by rw [List.all_cons, Bool.and_true]) ?_
      simp [numW]
theorem Pr.Step.nm (p : Pr) (s : ByteArray) : Pr.Step p (p.nm s) (wordL (bs s)) (32 :: bs s) := by
  unfold Pr.nm
  split
  · rename_i h
    have h' := h
    unfold Pr.req at h'
    simp only [Bool.or_eq_true, Bool.not_eq_true'] at h'
    rcases h' with h' | h'
    · exact Pr.Step.dead _ _ h' h
    · exact (Pr.Step.bad _ h).cast h'.symm rfl
  · exact ((Pr.Step.req p _).trans (Pr.Step.ws _ [bs s])).cast (by rw [Bool.and_true]) (by simp)
/-! Items. -/
inductive It where
  | two (w : List Nat) (a b : Int)
  | num (w : List Nat) (n : Int)
  | days (d : Nat) (t : Int)
  | addon (a : Ad)
  | tier (t : Ti)
def kindW (k : Int) : List Nat := if k = 1 then asc "fixed" else if k = 2 then asc "share" else asc "jackpot"
def hitW (w : List Nat) (n : Int) : List (List Nat) := if n = 0 then [] else [w, fmtI n]
def modeW (t : Ti) : List (List Nat) :=
  if t.mode = 0 then hitW (asc "main") t.main ++ hitW (asc "bonus") t.bonus ++ hitW (asc "extra") t.extra
  else if t.mode = 1 then [asc "exact"] else if t.mode = 2 then [asc "box"] else if t.mode = 3 then [asc "front", fmtI t.main] else [asc "back", fmtI t.main]
/-- The words of an item. -/
def It.words : It → List (List Nat)
  | .two w a b => [w, fmtI a, asc "of", fmtI b]
  | .num w n => [w, fmtI n]
  | .days d t => [asc "days"] ++ dayL d ++ [asc "at", fmtI (t / 60), asc ":", fmtI (t % 60)]
  | .addon a => if a.kind = 1 then [asc "addon", bs a.name, asc "factor", fmtI a.price] ++ a.factors.map fmtI else [asc "addon", bs a.name, asc "serial", fmtI a.price, fmtI a.digits] ++ a.serials.map fmtI
  | .tier t => [asc "tier"] ++ modeW t ++ [kindW t.kind, fmtI t.value]
def hitB (n : Int) : Bool := decide (n = 0) || fitB n
def Ad.fine (a : Ad) : Bool := wordL (bs a.name) && (if a.kind = 1 then (decide (a.digits = 0) && decide (a.serials.length = 0)) && fitB a.price && a.factors.all fitB else if a.kind = 2 then decide (a.factors.length = 0) && (fitB a.price && (fitB a.digits && true)) && a.serials.all fitB else false)
def Ti.fineM (t : Ti) : Bool :=
  if t.mode = 0 then hitB t.main && hitB t.bonus && hitB t.extra
  else if t.mode = 1 ∨ t.mode = 2 then decide (t.main = 0) && decide (t.bonus = 0) && decide (t.extra = 0)
  else if t.mode = 3 ∨ t.mode = 4 then (decide (t.bonus = 0) && decide (t.extra = 0)) && fitB t.main else false
def Ti.fine (t : Ti) : Bool := t.fineM && (decide (t.kind = 1) || decide (t.kind = 2) || decide (t.kind = 3)) && fitB t.value
def It.fine : It → Bool
  | .two _ a b => fitB a && fitB b
  | .num _ n => fitB n
  | .days d t => decide (d ≤ 127) && decide (0 ≤ t) && decide (t ≤ 1439)
  | .addon a => a.fine
  | .tier t => t.fine
def lineG (i : It) : List Nat := 32 :: (i.words.flatMap (32 :: ·) ++ asc ";\n")
theorem fm1 (w : List Nat) : [w].flatMap (32 :: ·) = 32 :: w := by simp
theorem Pr.Step.two (p : Pr) (s w : List Nat) (a b : Int) : Pr.Step p ((p.add s).two w a b) (It.two w a b).fine (s ++ lineG (.two w a b)) := by
  unfold Pr.two
  refine (((((Pr.Step.beginA p s w).trans (Pr.Step.nums [a] _)).trans (Pr.Step.ws _ [asc "of"])).trans (Pr.Step.nums [b] _)).trans (Pr.Step.fin _)).cast ?_ ?_
  · simp [It.fine]
  · simp [lineG, It.words, numW]
theorem Pr.Step.opt (p : Pr) (w : List Nat) (n std : Int) : Pr.Step p (p.opt w n std) (decide (n = std) || fitB n) (if n = std then [] else lineG (.num w n)) := by
  unfold Pr.opt
  by_cases h : n = std
  · rw [if_pos h, if_pos h]; exact (Pr.Step.id p).cast (by simp [h]) rfl
  · rw [if_neg h, if_neg h]
    refine (((Pr.Step.begin p w).trans (Pr.Step.nums [n] _)).trans (Pr.Step.fin _)).cast ?_ ?_
    · simp [h]
    · simp [lineG, It.words, numW]
theorem Pr.Step.dayw : ∀ (l : List (List Nat)) (p : Pr), Pr.Step p (l.foldl (fun p w => p.ws [w]) p) true (l.flatMap (32 :: ·))
  | [], p => Pr.Step.id p
  | w :: r, p => by
    rw [List.foldl_cons]
    exact ((Pr.Step.ws p [w]).trans (Pr.Step.dayw r _)).cast rfl (by simp)
def daysC (n : Nat → Int) : Bool := (decide (0 ≤ n 9) && decide (n 9 ≤ 127) && decide (0 ≤ n 10) && decide (n 10 ≤ 1439)) && (!decide (n 9 = 0) || decide (n 10 = 0))
theorem Pr.Step.days (p : Pr) (n : Nat → Int) : Pr.Step p (p.days n) (daysC n) (if n 9 = 0 then [] else lineG (.days (n 9).toNat (n 10))) := by
  unfold Pr.days daysC
  by_cases h : n 9 = 0
  · dsimp only
    rw [if_pos h, if_pos h]
    exact ((Pr.Step.req p _).trans (Pr.Step.req _ _)).cast (by simp [h]) rfl
  · dsimp only
    rw [if_neg h, if_neg h]
    split
    · rename_i hb
      have hb' := hb
      unfold Pr.req at hb'
      simp only [Bool.or_eq_true, Bool.not_eq_true'] at hb'
      rcases hb' with hb' | hb'
      · exact Pr.Step.dead _ _ hb' hb
      · exact (Pr.Step.bad _ hb).cast (by rw [hb']; rfl) rfl
    · rename_i hb
      unfold Pr.req at hb
      simp only [Bool.not_eq_true, Bool.or_eq_false_iff, Bool.not_eq_false'] at hb
      have hb2 := hb.2
      simp only [Bool.and_eq_true, decide_eq_true_eq] at hb2
      refine (((((((((Pr.Step.req p _).trans (Pr.Step.begin _ _)).trans (Pr.Step.dayw (dayL (n 9).toNat) _)).trans (Pr.Step.ws _ [asc "at"])).trans (Pr.Step.nums [n 10 / 60] _)).trans (Pr.Step.ws _ [asc ":"])).trans (Pr.Step.nums [n 10 % 60] _)).trans (Pr.Step.fin _))).cast ?_ ?_
      · have f1 : fitB (n 10 / 60) = true := by unfold fitB; simp only [Bool.and_eq_true, decide_eq_true_eq]; omega
        have f2 : fitB (n 10 % 60) = true := by unfold fitB; simp only [Bool.and_eq_true, decide_eq_true_eq]; omega
        simp [f1, f2, h]
      · simp [lineG, It.words, numW]
theorem Pr.Step.addon (p : Pr) (a : Ad) : Pr.Step p (p.addon a) a.fine (lineG (.addon a)) := by
  unfold Pr.addon Ad.fine
  dsimp only
  have h0 := (Pr.Step.begin p (asc "addon")).trans (Pr.Step.nm _ a.name)
  by_cases h1 : a.kind = 1
  · rw [if_pos h1, if_pos h1]
    refine (((((h0.trans (Pr.Step.req _ _)).trans (Pr.Step.ws _ _)).trans (Pr.Step.nums [a.price] _)).trans (Pr.Step.nums a.factors _)).trans (Pr.Step.fin _)).cast ?_ ?_
    · simp [Bool.and_assoc]
    · simp [lineG, It.words, numW, h1, List.flatMap_map]
  · rw [if_neg h1, if_neg h1]
    by_cases h2 : a.kind = 2
    · rw [if_pos h2, if_pos h2]
      refine (((((h0.trans (Pr.Step.req _ _)).trans (Pr.Step.ws _ _)).trans (Pr.Step.nums [a.price, a.digits] _)).trans (Pr.Step.nums a.serials _)).trans (Pr.Step.fin _)).cast ?_ ?_
      · simp [Bool.and_assoc]
      · simp [lineG, It.words, numW, h1, List.flatMap_map]
    · rw [if_neg h2, if_neg h2]
      refine (Pr.Step.bad _ ?_).cast (by simp) rfl
      unfold Pr.fin Pr.lim Pr.req Pr.add; rfl
theorem Pr.Step.hits (p : Pr) (w : List Nat) (n : Int) : Pr.Step p (p.hits w n) (hitB n) ((hitW w n).flatMap (32 :: ·)) := by
  unfold Pr.hits hitB hitW
  by_cases h : n = 0
  · rw [if_pos h, if_pos h]; exact (Pr.Step.id p).cast (by simp [h]) rfl
  · rw [if_neg h, if_neg h]
    exact ((Pr.Step.ws p [w]).trans (Pr.Step.nums [n] _)).cast (by simp [h]) (by simp [numW])
theorem Pr.Step.mode (p : Pr) (t : Ti) : Pr.Step p (p.mode t) t.fineM ((modeW t).flatMap (32 :: ·)) := by
  unfold Pr.mode Ti.fineM modeW
  by_cases h0 : t.mode = 0
  · rw [if_pos h0, if_pos h0, if_pos h0]
    exact (((Pr.Step.hits p _ _).trans (Pr.Step.hits _ _ _)).trans (Pr.Step.hits _ _ _)).cast rfl (by simp)
  rw [if_neg h0, if_neg h0, if_neg h0]
  by_cases h1 : t.mode = 1 ∨ t.mode = 2
  · rw [if_pos h1, if_pos h1]
    refine ((Pr.Step.req p _).trans (Pr.Step.ws _ _)).cast (by rw [Bool.and_true]) ?_
    by_cases e : t.mode = 1
    · rw [if_pos e, if_pos e]; rfl
    · rw [if_neg e, if_neg e, if_pos (h1.resolve_left e)]; rfl
  rw [if_neg h1, if_neg h1, if_neg (fun e => h1 (.inl e)), if_neg (fun e => h1 (.inr e))]
  by_cases h3 : t.mode = 3 ∨ t.mode = 4
  · rw [if_pos h3, if_pos h3]
    refine (((Pr.Step.req p _).trans (Pr.Step.ws _ _)).trans (Pr.Step.nums [t.main] _)).cast (by simp) ?_
    by_cases e : t.mode = 3
    · rw [if_pos e, if_pos e]; simp [numW]
    · rw [if_neg e, if_neg e]; simp [numW]
  · rw [if_neg h3, if_neg h3]
    exact Pr.Step.bad _ rfl
theorem Pr.Step.tier (p : Pr) (t : Ti) : Pr.Step p (p.tier t) t.fine (lineG (.tier t)) := by
  unfold Pr.tier Ti.fine
  dsimp only
  have h0 := (Pr.Step.begin p (asc "tier")).trans (Pr.Step.mode _ t)
  have hk : Pr.Step ((p.begin (asc "tier")).mode t) (if t.kind = 1 then ((p.begin (asc "tier")).mode t).ws [asc "fixed"] else if t.kind = 2 then ((p.begin (asc "tier")).mode t).ws [asc "share"] else if t.kind = 3 then ((p.begin (asc "tier")).mode t).ws [asc "jackpot"] else ⟨((p.begin (asc "tier")).mode t).X, true⟩)
      (decide (t.kind = 1) || decide (t.kind = 2) || decide (t.kind = 3)) (32 :: kindW t.kind) := by
    unfold kindW
    by_cases h1 : t.kind = 1
    · rw [if_pos h1, if_pos h1]; exact (Pr.Step.ws _ _).cast (by simp [h1]) (by simp)
    rw [if_neg h1, if_neg h1]
    by_cases h2 : t.kind = 2
    · rw [if_pos h2, if_pos h2]; exact (Pr.Step.ws _ _).cast (by simp [h2]) (by simp)
    rw [if_neg h2, if_neg h2]
    by_cases h3 : t.kind = 3
    · rw [if_pos h3]; exact (Pr.Step.ws _ _).cast (by simp [h3]) (by simp)
    · rw [if_neg h3]; exact (Pr.Step.bad _ rfl).cast (by simp [h1, h2, h3]) rfl
  refine (((h0.trans hk).trans (Pr.Step.nums [t.value] _)).trans (Pr.Step.fin _)).cast ?_ ?_
  · simp [Bool.and_assoc]
  · simp [lineG, It.words, numW]
theorem Pr.Step.all {α : Type} {f : Pr → α → Pr} {c : α → Bool} {l : α → List Nat} (h : ∀ p a, Pr.Step p (f p a) (c a) (l a)) : ∀ (L : List α) (p : Pr), Pr.Step p (Pr.all f p L) (L.all c) (L.flatMap l)
  | [], p => Pr.Step.id p
  | a :: r, p => by
    unfold Pr.all
    split
    · rename_i hb; exact Pr.Step.dead _ _ hb hb
    · exact (h p a).trans (Pr.Step.all h r _)
/-! The whole. -/
def optI (w : List Nat) (n std : Int) : List It := if n = std then [] else [.num w n]
def headI (n : Nat → Int) : List It := [.two (if n 0 = 1 then asc "choose" else asc "digits") (n 2) (n 3)] ++ (if n 4 ≠ 0 ∨ n 5 ≠ 0 then [.two (asc "bonus") (n 4) (n 5)] else []) ++
  (optI (asc "extra") (n 6) 0 ++ optI (asc "price") (n 1) 0 ++ optI (asc "draws") (n 7) 1 ++ optI (asc "system") (n 8) (n 2))
def daysI (n : Nat → Int) : List It := if n 9 = 0 then [] else [.days (n 9).toNat (n 10)]
def optsI (n : Nat → Int) : List It := optI (asc "close") (n 11) 0 ++ optI (asc "cancel") (n 12) 0 ++ optI (asc "expiry") (n 13) 0 ++ optI (asc "pool") (n 14) 0 ++ optI (asc "reserve") (n 15) 0 ++ optI (asc "round") (n 16) 1 ++ optI (asc "cap") (n 17) 0 ++ optI (asc "rolls") (n 18) 0
def itemsG (g : Gm) : List It := headI g.n ++ daysI g.n ++ optsI g.n ++ g.addons.map .addon ++ g.tiers.map .tier
def fineG (g : Gm) : Bool := wordL (bs g.name) && (decide (g.n 0 = 1) || decide (g.n 0 = 2)) && daysC g.n && (itemsG g).all It.fine
def textG (g : Gm) : List Nat := asc "game" ++ (32 :: bs g.name) ++ asc " {\n" ++ (itemsG g).flatMap lineG ++ asc "}\n"
theorem Pr.Step.optI (p : Pr) (w : List Nat) (n std : Int) : Pr.Step p (p.opt w n std) ((optI w n std).all It.fine) ((Go.Proofs.YtbdkggnajipdhaaDoor.optI w n std).flatMap lineG) := by
  refine (Pr.Step.opt p w n std).cast ?_ ?_
  · unfold Go.Proofs.YtbdkggnajipdhaaDoor.optI; by_cases h : n = std <;> simp [h, It.fine]
  · unfold Go.Proofs.YtbdkggnajipdhaaDoor.optI; by_cases h : n = std <;> simp [h]
theorem Pr.Step.head (p : Pr) (s : List Nat) (n : Nat → Int) : Pr.Step p ((p.add s).head n) ((decide (n 0 = 1) || decide (n 0 = 2)) && (headI n).all It.fine) (s ++ (headI n).flatMap lineG) := by
  unfold Pr.head
  by_cases h : n 0 = 1 ∨ n 0 = 2
  · rw [if_pos h]
    dsimp only
    have hb : Pr.Step ((p.add s).two (if n 0 = 1 then asc "choose" else asc "digits") (n 2) (n 3)) (if n 4 ≠ 0 ∨ n 5 ≠ 0 then ((p.add s).two (if n 0 = 1 then asc "choose" else asc "digits") (n 2) (n 3)).two (asc "bonus") (n 4) (n 5) else (p.add s).two (if n 0 = 1 then asc "choose" else asc "digits") (n 2) (n 3))
        ((if n 4 ≠ 0 ∨ n 5 ≠ 0 then [It.two (asc "bonus") (n 4) (n 5)] else []).all It.fine) ((if n 4 ≠ 0 ∨ n 5 ≠ 0 then [It.two (asc "bonus") (n 4) (n 5)] else []).flatMap lineG) := by
      by_cases e : n 4 ≠ 0 ∨ n 5 ≠ 0
      · rw [if_pos e, if_pos e]
        have := Pr.Step.two ((p.add s).two (if n 0 = 1 then asc "choose" else asc "digits") (n 2) (n 3)) [] (asc "bonus") (n 4) (n 5)
        rw [Pr.add_nil] at this
        exact this.cast (by simp) (by simp)
      · rw [if_neg e, if_neg e]; exact Pr.Step.id _
    refine ((((((Pr.Step.two p s _ _ _).trans hb).trans (Pr.Step.optI _ _ _ _)).trans (Pr.Step.optI _ _ _ _)).trans (Pr.Step.optI _ _ _ _)).trans (Pr.Step.optI _ _ _ _)).cast ?_ ?_
    · have hd : (decide (n 0 = 1) || decide (n 0 = 2)) = true := by simpa using h
      rw [hd]
      unfold headI
      simp only [List.all_append, List.all_cons, List.all_nil, Bool.and_true, Bool.true_and, Bool.and_assoc]
    · unfold headI
      simp only [List.flatMap_append, List.flatMap_cons, List.flatMap_nil, List.append_nil, List.append_assoc]
  · rw [if_neg h]
    refine (Pr.Step.bad _ rfl).cast ?_ rfl
    have hd : (decide (n 0 = 1) || decide (n 0 = 2)) = false := by simpa using h
    rw [hd]; rfl
theorem Pr.Step.opts (p : Pr) (n : Nat → Int) : Pr.Step p (p.opts n) ((optsI n).all It.fine) ((optsI n).flatMap lineG) := by
  unfold Pr.opts optsI
  refine ((((((((Pr.Step.optI p _ _ _).trans (Pr.Step.optI _ _ _ _)).trans (Pr.Step.optI _ _ _ _)).trans (Pr.Step.optI _ _ _ _)).trans (Pr.Step.optI _ _ _ _)).trans (Pr.Step.optI _ _ _ _)).trans (Pr.Step.optI _ _ _ _)).trans (Pr.Step.optI _ _ _ _)).cast ?_ ?_
  · simp only [List.all_append, Bool.and_assoc]
  · simp only [List.flatMap_append, List.append_assoc]
theorem daysC_fine {n : Nat → Int} (h : daysC n = true) : (daysI n).all It.fine = true := by
  unfold daysC at h
  unfold daysI
  simp only [Bool.and_eq_true, decide_eq_true_eq] at h
  by_cases e : n 9 = 0
  · rw [if_pos e]; rfl
  · rw [if_neg e]
    simp only [List.all_cons, List.all_nil, It.fine, Bool.and_true, Bool.and_eq_true, decide_eq_true_eq]
    omega
theorem Pr.Step.daysI (p : Pr) (n : Nat → Int) : Pr.Step p (p.days n) (daysC n) ((Go.Proofs.YtbdkggnajipdhaaDoor.daysI n).flatMap lineG) := by
  refine (Pr.Step.days p n).cast rfl ?_
  unfold Go.Proofs.YtbdkggnajipdhaaDoor.daysI; by_cases h : n 9 = 0 <;> simp [h]
theorem game_step (g : Gm) : Pr.Step ⟨asc "game", false⟩ (Pr.game g) (fineG g) ((32 :: bs g.name) ++ asc " {\n" ++ (itemsG g).flatMap lineG ++ asc "}\n") := by
  unfold Pr.game
  dsimp only
  refine (((((((Pr.Step.nm _ g.name).trans (Pr.Step.head _ (asc " {\n") g.n)).trans (Pr.Step.daysI _ g.n)).trans (Pr.Step.opts _ g.n)).trans (Pr.Step.all (fun p a => Pr.Step.addon p a) g.addons _)).trans (Pr.Step.all (fun p t => Pr.Step.tier p t) g.tiers _)).trans (Pr.Step.lim _ (asc "}\n"))).cast ?_ ?_
  · unfold fineG itemsG
    simp only [List.all_append, List.all_map, Bool.and_true]
    rw [Bool.eq_iff_iff]
    simp only [Bool.and_eq_true]
    constructor
    · rintro ⟨⟨⟨⟨⟨h1, h2, h3⟩, h4⟩, h5⟩, h6⟩, h7⟩
      exact ⟨⟨⟨h1, h2⟩, h4⟩, ⟨⟨⟨h3, daysC_fine h4⟩, h5⟩, h6⟩, h7⟩
    · rintro ⟨⟨⟨h1, h2⟩, h4⟩, ⟨⟨⟨h3, _⟩, h5⟩, h6⟩, h7⟩
      exact ⟨⟨⟨⟨⟨h1, h2, h3⟩, h4⟩, h5⟩, h6⟩, h7⟩
  · unfold itemsG
    simp only [List.flatMap_append, List.flatMap_map, List.append_assoc]
theorem printG_is (g : Gm) : printG g = if fineG g = true ∧ (textG g).length ≤ 32768 then textG g else [] := by
  obtain ⟨_, h2, h3⟩ := game_step g (show Pr.Ok ⟨asc "game", false⟩ from fun _ => by decide)
  have e : (⟨asc "game", false⟩ : Pr).X ++ ((32 :: bs g.name) ++ asc " {\n" ++ (itemsG g).flatMap lineG ++ asc "}\n") = textG g := by
    unfold textG; simp only [List.append_assoc]
  rw [e] at h2 h3
  unfold printG
  cases hb : (Pr.game g).bad with
  | false =>
    rw [if_neg (by simp), if_pos (h2.1 hb).2, h3 hb]
  | true =>
    rw [if_pos rfl, if_neg]
    intro hc
    rw [h2.2 ⟨rfl, hc⟩] at hb
    cases hb
theorem textG_ne (g : Gm) : textG g ≠ [] := by
  intro h
  have := congrArg List.length h
  unfold textG at this
  simp only [List.length_append, List.length_cons, List.length_nil] at this
  omega
end Go.Proofs.YtbdkggnajipdhaaDoor
