/- Texts laid one behind the other: LexG, RgH, RtV. Each says at its head what it proves. -/
import Derived.Test.YtbdkggnajipdhaaGreatDoorRtPsZ18
set_option linter.unusedSimpArgs false
/- Walk: the reference's Scan. -/
namespace Go.Proofs.YtbdkggnajipdhaaGreatDoor
open Nat (reduceAdd reduceMul reduceSub reduceEqDiff reduceLT reduceLeDiff)
open Go.RowKit
set_option maxRecDepth 100000
theorem skip_blank : ∀ l : List Nat, skipB false l = spn blankB l + skipB false (l.drop (spn blankB l))
  | [] => rfl
  | c :: r => by
    by_cases h : blankB c = true
    · have h35 : (c == 35) = false := by unfold blankB at h; simp only [Bool.or_eq_true, beq_iff_eq, beq_eq_false_iff_ne] at *; omega
      have e : spn blankB (c :: r) = spn blankB r + 1 := by unfold spn; rw [List.takeWhile_cons_of_pos h]; rfl
      rw [e, List.drop_succ_cons, skipB, if_pos (by rw [h]; simp), h35, Bool.false_or, Bool.false_and, skip_blank r]
      omega
    · have e : spn blankB (c :: r) = 0 := by unfold spn; rw [List.takeWhile_cons_of_neg h]; rfl
      rw [e]; simp
theorem skip_rem : ∀ l : List Nat, skipB true l = spn remB l + skipB false (l.drop (spn remB l))
  | [] => rfl
  | c :: r => by
    by_cases h : c = 10
    · subst h
      have e : spn remB (10 :: r) = 0 := by unfold spn; rw [List.takeWhile_cons_of_neg (by decide)]; rfl
      rw [e, List.drop_zero, skipB, skipB, if_pos (by simp), if_pos (by decide)]
      simp
    · have e : spn remB (c :: r) = spn remB r + 1 := by unfold spn; rw [List.takeWhile_cons_of_pos (by unfold remB; simp [h])]; rfl
      have h10 : (c == 10) = false := by simp [h]
      rw [e, List.drop_succ_cons, skipB, if_pos (by simp), h10, Bool.true_or, Bool.not_false, Bool.true_and, skip_rem r]
      omega
theorem skip_hash (r : List Nat) : skipB false (35 :: r) = spn remB (35 :: r) + skipB false ((35 :: r).drop (spn remB (35 :: r))) := by
  have e : spn remB (35 :: r) = spn remB r + 1 := by unfold spn; rw [List.takeWhile_cons_of_pos (by decide)]; rfl
  rw [e, List.drop_succ_cons, skipB, if_pos (by decide)]
  have := skip_rem r
  simp only [Bool.false_or, beq_self_eq_true, Bool.true_and] at *
  rw [show (!(35 == 10 : Bool)) = true from rfl, this]
  omega
theorem skip_idem : ∀ (l : List Nat) (m : Bool), skipB false (l.drop (skipB m l)) = 0
  | [], m => by simp [skipB]
  | c :: r, m => by
    rw [skipB]
    split
    · rw [Nat.add_comm, List.drop_succ_cons]; exact skip_idem r _
    · rename_i h
      rw [List.drop_zero, skipB, if_neg]
      intro h2
      apply h
      simp only [Bool.or_eq_true, Bool.false_or] at *
      rcases h2 with h2 | h2
      · exact .inl (.inr h2)
      · exact .inr h2
theorem skip_le : ∀ (l : List Nat) (m : Bool), skipB m l ≤ l.length
  | [], m => by simp [skipB]
  | c :: r, m => by
    rw [skipB]
    split
    · have := skip_le r ((m || c == 35) && !(c == 10)); rw [List.length_cons]; omega
    · omega
theorem lexR_skip : ∀ (n : Nat) (l : List Nat) (at_ : Nat), l.length ≤ n → lexR at_ l = lexR (at_ + skipB false l) (l.drop (skipB false l))
  | _, [], _, _ => rfl
  | 0, c :: r, _, h => by simp at h
  | n + 1, c :: r, at_, h => by
    have go : ∀ k, piece (c :: r) = (0, k) → 1 ≤ k → skipB false (c :: r) = k + skipB false ((c :: r).drop k) → lexR at_ (c :: r) = lexR (at_ + skipB false (c :: r)) ((c :: r).drop (skipB false (c :: r))) := by
      intro k hk h1 h2
      rw [lexR_cons, hk, if_neg (by simp only; omega), if_pos rfl, h2]
      simp only
      rw [lexR_skip n _ _ (by rw [List.length_drop, List.length_cons] at *; omega), List.drop_drop, Nat.add_assoc]
    by_cases hb : blankB c = true
    · exact go _ (by rw [piece, if_pos hb]) (spn_pos hb) (skip_blank _)
    · by_cases h35 : c = 35
      · subst h35
        exact go _ (by rw [piece, if_neg hb, if_pos rfl]) (spn_pos (by decide)) (skip_hash r)
      · have : skipB false (c :: r) = 0 := by rw [skipB, if_neg (by simp [hb, h35])]
        rw [this]; rfl
/-- Where nothing is skipped. -/
theorem lexG_tok {l : List Nat} (h : skipB false l = 0) (hl : l ≠ []) (at_ : Nat) : lexR at_ l = if (tokP l).1 = 0 then .error at_ else consR ((tokP l).1, at_, (tokP l).2) (lexR (at_ + (tokP l).2) (l.drop (tokP l).2)) := by
  cases l with
  | nil => exact absurd rfl hl
  | cons c r =>
    have hb : ¬ (blankB c = true) ∧ ¬ c = 35 := by
      rw [skipB] at h
      split at h
      · omega
      · rename_i h'
        simp only [Bool.or_eq_true, beq_iff_eq, not_or] at h'
        exact ⟨h'.1.2, h'.2⟩
    rw [lexR_cons]
    by_cases h2 : (piece (c :: r)).2 = 0
    · have ht : tokP (c :: r) = (0, 0) := if_pos (.inr h2)
      rw [if_pos h2, ht, if_pos rfl]
    · have h1 : (piece (c :: r)).1 ≠ 0 := by
        intro e
        apply h2
        rw [piece, if_neg hb.1, if_neg hb.2] at e ⊢
        repeat' split at e
        all_goals simp_all
      have ht : tokP (c :: r) = piece (c :: r) := if_neg (fun h => h.elim h1 h2)
      rw [if_neg h2, if_neg h1, ht, if_neg h1]
theorem last10 : ∀ b : List Nat, 0 < b.count 10 → ∃ k : Nat, b[k]? = some 10 ∧ ∀ j : Nat, k < j → b[j]? ≠ some 10
  | [], hc => by simp at hc
  | c :: r, hc => by
    by_cases hr : 0 < r.count 10
    · obtain ⟨k, h3, h4⟩ := last10 r hr
      refine ⟨k + 1, by simpa using h3, fun j hj => ?_⟩
      cases j with
      | zero => omega
      | succ j => simpa using h4 j (by omega)
    · have h10 : c = 10 := by
        by_cases h : c = 10
        · exact h
        · rw [List.count_cons_of_ne h] at hc; omega
      refine ⟨0, by simp [h10], fun j hj => ?_⟩
      cases j with
      | zero => omega
      | succ j =>
        intro h
        simp only [List.getElem?_cons_succ] at h
        exact hr (List.count_pos_iff.2 (List.mem_of_getElem? h))
theorem fold_place (b : List Nat) (p : Int × Int) : b.foldl step1 p = if 1 < (place b).1 then (p.1 + (place b).1 - 1, (place b).2) else (p.1, p.2 + (place b).2 - 1) := by
  have h1 := fold_line b (1, 1)
  have h2 := fold_line b p
  unfold place
  by_cases hc : 0 < b.count 10
  · rw [if_pos (by rw [h1]; simp only; omega)]
    obtain ⟨k, hk, hn⟩ := last10 b hc
    have e1 := fold_col b (1, 1) k hk hn
    have e2 := fold_col b p k hk hn
    apply Prod.ext
    · simp only; rw [h1, h2]; simp only; omega
    · simp only; rw [e1, e2]
  · have hno : ∀ c ∈ b, c ≠ 10 := fun c hc' e => hc (by subst e; exact List.count_pos_iff.2 hc')
    rw [fold_plain b _ hno, fold_plain b _ hno, if_neg (by simp)]
    simp only [Prod.mk.injEq, true_and]
    omega
set_option maxHeartbeats 1000000 in
theorem rscan_any (s : ByteArray) (w : World) (hs : s.size ≤ 1000000) :
    Calls Tryz.prog 23 #[.string s] w fun e w' => Below w.heap.size w w' ∧ ∃ v, e = .returned (.tuple #[v, .int .i64 (scanE s).1, .int .i64 (scanE s).2.1]) ∧ TokIn w.heap.size w' v (scanE s).2.2 := by
  refine calls_W (l := [_]) Tryz.func23 rfl _ Tryz.ntmps23 (by simp) ?_
  have hI : sliceI Tryz.prog 46 = some (62, 4, 40) := by kernel_rfl
  unfold scanE
  simp +contextual (maxSteps := 2000000) (disch := first | omega | (simp only [SZ]; first | done | omega) | (simp only [TS] at *; omega)) only [RZ, ovw, oneC, reduceAdd, reduceMul, reduceSub, reduceEqDiff, reduceLT, ↓reduceIte, Int.reduceToNat, reduceLeDiff]
  (refine W_if rfl (fun hc => ?_) (fun hc => ?_) <;> (try simp only [TS] at hc))
  · rw [if_pos (by omega)]
    simp +contextual (maxSteps := 2000000) (disch := first | omega | (simp only [SZ]; first | done | omega) | (simp only [TS] at *; omega)) only [RZ, ovw, oneC, reduceAdd, reduceMul, reduceSub, reduceEqDiff, reduceLT, ↓reduceIte, Int.reduceToNat, reduceLeDiff]
    exact ⟨Below.refl _ _, _, rfl, none, 0, rfl, owns_nil _ _ _ _⟩
  rw [if_neg (by omega)]
  clear hc
  simp +contextual (maxSteps := 2000000) (disch := first | omega | (simp only [SZ]; first | done | omega) | (simp only [TS] at *; omega)) only [RZ, ovw, oneC, reduceAdd, reduceMul, reduceSub, reduceEqDiff, reduceLT, ↓reduceIte, Int.reduceToNat, reduceLeDiff]
  generalize hR : lexR 0 (bs s) = R
  refine (rskip_any s 0 w hs (Nat.zero_le _)).mono ?_
  rintro e w0 ⟨rfl, rfl⟩
  refine ⟨_, rfl, ?_⟩
  rw [List.drop_zero]
  have hk0 := skip_le (bs s) false
  rw [bs_len] at hk0
  have hid0 := skip_idem (bs s) false
  rw [lexR_skip _ _ _ (Nat.le_refl _), Nat.zero_add] at hR
  generalize skipB false (bs s) = k0 at *
  refine Raw_loop (fun σ w' => Below w.heap.size w w' ∧ ∃ (at_ last : Nat) (D : List (Nat × Nat × Nat)) (A : Option Addr) (c : Nat), at_ ≤ s.size ∧ last ≤ at_ ∧ D.length ≤ at_ ∧ skipB false ((bs s).drop at_) = 0 ∧ joinR D (lexR at_ ((bs s).drop at_)) = R ∧
      w'.ownsRow w.heap.size 62 4 (.slice A D.length c) D.length ((D.map (tokOf s)).flatMap encTk) ∧
      σ 0 = .string s ∧ σ 5 = .slice A D.length c ∧ σ 6 = .int .i64 (place ((bs s).take last)).1 ∧ σ 7 = .int .i64 (place ((bs s).take last)).2 ∧ σ 8 = .int .i64 last ∧ σ 9 = .int .i64 at_) (fun σ _ => s.size - (intOf (σ 9)).toNat) ?_ ?_
  · simp +contextual (maxSteps := 2000000) (disch := first | omega | (simp only [SZ]; first | done | omega) | (simp only [TS] at *; omega)) only [RZ, ovw, oneC, reduceAdd, reduceMul, reduceSub, reduceEqDiff, reduceLT, ↓reduceIte, Int.reduceToNat, reduceLeDiff]
    exact ⟨Below.refl _ _, k0, 0, [], none, 0, hk0, Nat.zero_le _, Nat.zero_le _, hid0, by rw [hR]; cases R <;> rfl, owns_nil _ _ _ _, rfl, rfl, rfl, rfl, by simp⟩
  rintro σ w1 ⟨hB, at_, last, D, A, c, ha, hla, hDa, hsk, hj, hown, e0, e5, e6, e7, e8, e9⟩ K hK
  have hpb := place_bd ((bs s).take last)
  have hpa := place_bd ((bs s).take at_)
  rw [List.length_take, bs_len] at hpb hpa
  have hx : bs (s.extract last at_) = ((bs s).drop last).take (at_ - last) := bs_extract _ _ _
  have hxs : (s.extract last at_).size = at_ - last := by rw [← bs_len, hx, List.length_take, List.length_drop, bs_len]; omega
  have hpt : place ((bs s).take at_) = (bs (s.extract last at_)).foldl step1 (place ((bs s).take last)) := by
    rw [hx, ← place_append, ← List.take_add, show last + (at_ - last) = at_ from by omega]
  rw [fold_place] at hpt
  have hpd := place_bd (bs (s.extract last at_))
  rw [bs_len, hxs] at hpd
  have htl : (bs (s.extract last at_)).take (at_ - last) = bs (s.extract last at_) := List.take_of_length_le (by rw [bs_len]; omega)
  have hlast : ((at_ : Int) - last) = ((at_ - last : Nat) : Int) := by omega
  have hd : decide ((at_ : Int) ≤ s.size) = true := decide_eq_true (by omega)
  simp +contextual (maxSteps := 2000000) (disch := first | omega | (simp only [SZ]; first | done | omega) | (simp only [TS] at *; omega)) only [RZ, ovw, oneC, reduceAdd, reduceMul, reduceSub, reduceEqDiff, reduceLT, ↓reduceIte, Int.reduceToNat, reduceLeDiff,  e0, e5, e6, e7, e8, e9, hd]
  refine W_if_t rfl ?_
  simp +contextual (maxSteps := 2000000) (disch := first | omega | (simp only [SZ]; first | done | omega) | (simp only [TS] at *; omega)) only [RZ, ovw, oneC, reduceAdd, reduceMul, reduceSub, reduceEqDiff, reduceLT, ↓reduceIte, Int.reduceToNat, reduceLeDiff,  e0, e5, e6, e7, e8, e9, hlast]
  refine (rplace_any (s.extract last at_) (at_ - last) w1 (by omega) (by omega)).mono ?_
  rintro e w2 ⟨rfl, rfl⟩
  refine ⟨_, rfl, ?_⟩
  rw [htl]
  generalize place (bs (s.extract last at_)) = dp at *
  obtain ⟨dl, dc⟩ := dp
  simp only at *
  simp +contextual (maxSteps := 2000000) (disch := first | omega | (simp only [SZ]; first | done | omega) | (simp only [TS] at *; omega)) only [RZ, ovw, oneC, reduceAdd, reduceMul, reduceSub, reduceEqDiff, reduceLT, ↓reduceIte, Int.reduceToNat, reduceLeDiff,  e0, e5, e6, e7, e8, e9]
  refine W_cut (fun τ w2 => w2 = w1 ∧ τ 0 = .string s ∧ τ 5 = .slice A D.length c ∧ τ 6 = .int .i64 (place ((bs s).take at_)).1 ∧ τ 7 = .int .i64 (place ((bs s).take at_)).2 ∧ τ 9 = .int .i64 at_) ?_ ?_
  · rintro τ w2 ⟨rfl, f0, f5, f6, f7, f9⟩
    simp +contextual (maxSteps := 2000000) (disch := first | omega | (simp only [SZ]; first | done | omega) | (simp only [TS] at *; omega)) only [RZ, ovw, oneC, reduceAdd, reduceMul, reduceSub, reduceEqDiff, reduceLT, ↓reduceIte, Int.reduceToNat, reduceLeDiff,  f0, f5, f6, f7, f9]
    (refine W_if rfl (fun hc => ?_) (fun hc => ?_) <;> (try simp only [TS] at hc))
    · have hae : at_ = s.size := by omega
      clear hc
      subst hae
      rw [List.drop_eq_nil_of_le (by rw [bs_len]; omega), lexR_nil] at hj
      simp only [joinR, List.append_nil] at hj
      subst hj
      simp only
      have htk : (bs s).take s.size = bs s := List.take_of_length_le (by rw [bs_len]; omega)
      rw [htk] at f6 f7
      obtain ⟨A', c', w3, he, hown3, hb3, hs3⟩ := push1 (P := Tryz.prog) (T := 46) (ty := 46) (news := encTk (endTok s)) hown hB.size hI rfl (fun u hu => by simp only [encTk, List.mem_cons, List.not_mem_nil, or_false] at hu; rcases hu with rfl | rfl | rfl | rfl <;> rfl) (by omega) (by omega)
      simp only [encTk, endTok] at he
      simp +contextual (maxSteps := 2000000) (disch := first | omega | (simp only [SZ]; first | done | omega) | (simp only [TS] at *; omega)) only [RZ, ovw, oneC, reduceAdd, reduceMul, reduceSub, reduceEqDiff, reduceLT, ↓reduceIte, Int.reduceToNat, reduceLeDiff,  f0, f5, f6, f7, f9, he]
      refine ⟨hB.trans hb3, _, rfl, A', c', ?_, ?_⟩
      · rw [List.length_append, tok_len]; rfl
      · rw [List.length_append, tok_len, List.flatMap_append]; simpa using hown3
    have hal : at_ < s.size := by omega
    clear hc
    have hll : ((bs s).drop at_).length = s.size - at_ := by rw [List.length_drop, bs_len]
    have hne : (bs s).drop at_ ≠ [] := by intro e; rw [e] at hll; simp at hll; omega
    rw [lexG_tok hsk hne] at hj
    have htp : (tokP ((bs s).drop at_)).2 ≤ s.size - at_ ∧ ((tokP ((bs s).drop at_)).1 = 0 ∨ 1 ≤ (tokP ((bs s).drop at_)).2) := by
      have := piece_le ((bs s).drop at_)
      unfold tokP
      split
      · simp
      · omega
    simp +contextual (maxSteps := 2000000) (disch := first | omega | (simp only [SZ]; first | done | omega) | (simp only [TS] at *; omega)) only [RZ, ovw, oneC, reduceAdd, reduceMul, reduceSub, reduceEqDiff, reduceLT, ↓reduceIte, Int.reduceToNat, reduceLeDiff,  f0, f5, f6, f7, f9]
    refine (rend_any s at_ _ hs hal).mono ?_
    rintro e w3 ⟨rfl, rfl⟩
    refine ⟨_, rfl, ?_⟩
    generalize tokP ((bs s).drop at_) = tp at *
    obtain ⟨k, n⟩ := tp
    simp only at *
    simp +contextual (maxSteps := 2000000) (disch := first | omega | (simp only [SZ]; first | done | omega) | (simp only [TS] at *; omega)) only [RZ, ovw, oneC, reduceAdd, reduceMul, reduceSub, reduceEqDiff, reduceLT, ↓reduceIte, Int.reduceToNat, reduceLeDiff,  f0, f5, f6, f7, f9]
    (refine W_if rfl (fun hc => ?_) (fun hc => ?_) <;> (try simp only [TS] at hc))
    · rw [if_pos (by omega)] at hj
      have hR2 : R = .error at_ := hj.symm
      subst hR2
      simp +contextual (maxSteps := 2000000) (disch := first | omega | (simp only [SZ]; first | done | omega) | (simp only [TS] at *; omega)) only [RZ, ovw, oneC, reduceAdd, reduceMul, reduceSub, reduceEqDiff, reduceLT, ↓reduceIte, Int.reduceToNat, reduceLeDiff,  f0, f5, f6, f7, f9]
      exact ⟨hB, _, rfl, none, 0, rfl, owns_nil _ _ _ _⟩
    have hk0 : k ≠ 0 := by omega
    clear hc
    rw [if_neg hk0, joinR_cons, List.drop_drop] at hj
    obtain ⟨A', c', w3, he, hown3, hb3, hs3⟩ := push1 (P := Tryz.prog) (T := 46) (ty := 46) (news := encTk (tokOf s (k, at_, n))) hown hB.size hI rfl (fun u hu => by simp only [encTk, List.mem_cons, List.not_mem_nil, or_false] at hu; rcases hu with rfl | rfl | rfl | rfl <;> rfl) (by omega) (by omega)
    have hB3 := hB.trans hb3
    have hown3' : w3.ownsRow w.heap.size 62 4 (.slice A' (D ++ [(k, at_, n)]).length c') (D ++ [(k, at_, n)]).length (((D ++ [(k, at_, n)]).map (tokOf s)).flatMap encTk) := by
      rw [List.length_append, List.map_append, List.flatMap_append]; simpa using hown3
    simp only [encTk, tokOf] at he
    have htn : ((at_ : Int) + n).toNat = at_ + n := by omega
    simp +contextual (maxSteps := 2000000) (disch := first | omega | (simp only [SZ]; first | done | omega) | (simp only [TS] at *; omega)) only [RZ, ovw, oneC, reduceAdd, reduceMul, reduceSub, reduceEqDiff, reduceLT, ↓reduceIte, Int.reduceToNat, reduceLeDiff,  f0, f5, f6, f7, f9, he, htn]
    have hcast : ((at_ : Int) + n) = ((at_ + n : Nat) : Int) := by omega
    rw [hcast]
    refine (rskip_any s (at_ + n) w3 hs (by omega)).mono ?_
    rintro e w4 ⟨rfl, rfl⟩
    refine ⟨_, rfl, ?_⟩
    have hk3 := skip_le ((bs s).drop (at_ + n)) false
    rw [List.length_drop, bs_len] at hk3
    have hid := skip_idem ((bs s).drop (at_ + n)) false
    rw [lexR_skip _ _ _ (Nat.le_refl _), List.drop_drop] at hj
    rw [List.drop_drop] at hid
    generalize skipB false ((bs s).drop (at_ + n)) = k3 at *
    simp +contextual (maxSteps := 2000000) (disch := first | omega | (simp only [SZ]; first | done | omega) | (simp only [TS] at *; omega)) only [RZ, ovw, oneC, reduceAdd, reduceMul, reduceSub, reduceEqDiff, reduceLT, ↓reduceIte, Int.reduceToNat, reduceLeDiff,  f0, f5, f6, f7, f9]
    refine hK _ _ ⟨hB3, at_ + n + k3, at_, D ++ [(k, at_, n)], A', c', by omega, by omega, by simp; omega, hid, hj, hown3', f0, ?_, f6, f7, ?_, ?_⟩ ?_
    · rw [List.length_append]; rfl
    · rfl
    · simp only [upd_apply]; simp
    · show s.size - (intOf (.int .i64 (((at_ + n : Nat) : Int) + k3))).toNat < s.size - (intOf (σ 9)).toNat; rw [e9]; simp only [intOf]; omega
  · (refine W_if rfl (fun hc => ?_) (fun hc => ?_) <;> (try simp only [TS] at hc))
    · rw [if_pos hc] at hpt
      simp +contextual (maxSteps := 2000000) (disch := first | omega | (simp only [SZ]; first | done | omega) | (simp only [TS] at *; omega)) only [RZ, ovw, oneC, reduceAdd, reduceMul, reduceSub, reduceEqDiff, reduceLT, ↓reduceIte, Int.reduceToNat, reduceLeDiff,  e0, e5, e6, e7, e8, e9, cutX_normal, cutX_ret, cutX_exit, cut2X_normal, cut2X_ret, cut2X_same, cut2X_ne]
      rw [hpt]
      exact ⟨rfl, rfl⟩
    · rw [if_neg hc] at hpt
      simp +contextual (maxSteps := 2000000) (disch := first | omega | (simp only [SZ]; first | done | omega) | (simp only [TS] at *; omega)) only [RZ, ovw, oneC, reduceAdd, reduceMul, reduceSub, reduceEqDiff, reduceLT, ↓reduceIte, Int.reduceToNat, reduceLeDiff,  e0, e5, e6, e7, e8, e9, cutX_normal, cutX_ret, cutX_exit, cut2X_normal, cut2X_ret, cut2X_same, cut2X_ne]
      rw [hpt]
      exact ⟨rfl, rfl⟩
end Go.Proofs.YtbdkggnajipdhaaGreatDoor
/- The reference's Parse (chapter 11). -/
namespace Go.Proofs.YtbdkggnajipdhaaGreatDoor
open Nat (reduceAdd reduceMul reduceSub reduceEqDiff reduceLT reduceLeDiff)
open Go.RowKit
set_option maxRecDepth 100000
theorem scan_tokW (s : ByteArray) : TokW (scanE s).2.2 := by
  unfold scanE
  split
  · intro t h; cases h
  · cases hT : lexR 0 (bs s) with
    | error e => intro t h; cases h
    | ok T =>
      intro t ht
      rcases List.mem_append.1 ht with ht | ht
      · obtain ⟨x, hx, rfl⟩ := List.mem_map.1 ht
        obtain ⟨_, _, _, hg⟩ := lexR_good _ _ _ _ (Nat.le_refl _) hT x hx
        have : bs (tokOf s x).text = ((bs s).drop (x.2.1 - 0)).take x.2.2 := by
          show bs (s.extract x.2.1 (x.2.1 + x.2.2)) = _
          rw [bs_extract, Nat.add_sub_cancel_left, Nat.sub_zero]
        exact .inr ⟨x.1, rfl, by rw [this]; exact hg⟩
      · simp only [List.mem_singleton] at ht
        subst ht
        exact .inl ⟨rfl, rfl⟩
theorem store_gm {w : World} {g : Nat} {cs0 : List Value} {G : Gm} {Va Vt : Value} (hR : Row w g 26 cs0) (hl : cs0.length = 22) (ha : oneC Va = true) (ht : oneC Vt = true) :
    vStore Tryz.prog 26 (.pointer (some ⟨g, 0, none⟩)) (.agg (gmV G Va Vt).toArray) w = .ok .skip (stW g 0 (gmV G Va Vt) w) := by
  rw [← setCells_stW]
  exact vStore_row hR (by rw [hl]; rfl) (by kernel_rfl) fun v hv => by
    simp only [gmV, List.mem_cons, List.not_mem_nil, or_false] at hv
    rcases hv with rfl | rfl | rfl | rfl | rfl | rfl | rfl | rfl | rfl | rfl | rfl | rfl | rfl | rfl | rfl | rfl | rfl | rfl | rfl | rfl | rfl | rfl <;> first | rfl | assumption
theorem stW_gm {w : World} {g : Nat} {cs0 : List Value} {G : Gm} {Va Vt : Value} (hR : Row w g 26 cs0) (hl : cs0.length = 22) : Row (stW g 0 (gmV G Va Vt) w) g 26 (gmV G Va Vt) :=
  stW_row (gmV G Va Vt) 0 w cs0 hR (by rw [hl]; rfl)
section
variable {base g c a k : Nat} {A : Option Addr} {T : List Tk} {w : World} {G : Gm} {seen : List (List Nat)} {Va Vt Vn : Value} {Vs : List (List Value)} {Q : List ByteArray} {x : Except (Int × List Tk) (List Tk)}
theorem RgSt.game (h : RgSt w base g A c T x k G seen Va Vt Vn Vs Q) {w' : World} (hk : ∀ k, base ≤ k → k < w.heap.size → w'.heap[k]? = w.heap[k]?) : GmIn w' Va Vt G := by
  have ads := h.ads.mono fun v L (hv : IntsT base w v L) => (hv.of_blocksL fun b cs hlo hr => hk b hlo hr.lt).read
  have own := owns_keep h.own fun b hb => hk b (owns_ge h.own hb).1 (owns_ge h.own hb).2
  have tis := owns_keep h.tis fun b hb => hk b (owns_ge h.tis hb).1 (owns_ge h.tis hb).2
  constructor
  · obtain ⟨Aa, ca, rfl⟩ := owns_slice own
    refine ⟨_, _, Vs, rfl, fun hn => ?_, ads⟩
    obtain ⟨g2, e, _, hr, _⟩ := owns_row own (by have := ads.1; omega)
    subst e
    exact arr_row hr ads.len hn
  · obtain ⟨At, ct, rfl⟩ := owns_slice tis
    refine ⟨_, _, rfl, fun hn => ?_⟩
    rw [List.length_map] at hn
    obtain ⟨g2, e, _, hr, _⟩ := owns_row tis hn
    subst e
    exact hr.arr (fun _ => rfl) (by rw [List.length_map]; exact hn)
theorem RgSt.one (h : RgSt w base g A c T x k G seen Va Vt Vn Vs Q) : oneC Va = true ∧ oneC Vt = true := by
  obtain ⟨_, _, rfl⟩ := owns_slice h.own
  obtain ⟨_, _, rfl⟩ := owns_slice h.tis
  exact ⟨rfl, rfl⟩
theorem RgSt.name (h : RgSt w base g A c T x k G seen Va Vt Vn Vs Q) (s : ByteArray) : RgSt (w.setCell ⟨g, 2, none⟩ (.string s)) base g A c T x k { G with name := s } seen Va Vt Vn Vs Q := by
  have kk := (Kept.refl [g] w).setCell (p := ⟨g, 2, none⟩) (by simp) (.string s)
  obtain ⟨cs, hr⟩ := h.row
  refine ⟨h.rs.setR (i := 0) (by decide) (.string s), h.qs, ?_, h.ads.mono fun v L hv => hv.kt (KT.of_kept kk) (fun y hy => by simp at hy; subst hy; exact not_int_row hr (by decide)), ?_, ?_, h.few, h.kbig, h.days, h.toks, h.hg⟩
  · refine owns_keep h.nown fun b hb => kk.block b (owns_ge h.nown hb).2 fun hx => ?_
    simp at hx
    subst hx
    exact own_ne h.nown hr (by decide) hb
  · refine owns_keep h.own fun b hb => kk.block b (owns_ge h.own hb).2 fun hx => ?_
    simp at hx
    subst hx
    exact own_ne h.own hr (by decide) hb
  · refine owns_keep h.tis fun b hb => kk.block b (owns_ge h.tis hb).2 fun hx => ?_
    simp at hx
    subst hx
    exact own_ne h.tis hr (by decide) hb
/-- What an item's reading needs of the fuel. -/
theorem gitems_step {f : Nat} {L : List Tk} (hk : (hdT L).kind = 1) : gitemsT (f + 1) L G seen = bindT (itemX L G seen) fun y => gitemsT f y.2 y.1.1 y.1.2 := by
  conv => lhs; unfold gitemsT
  rw [if_pos hk]
  unfold itemX
  cases itemG L G seen with
  | error y => rfl
  | ok y =>
    dsimp only [bindT]
    cases isT 3 (asc ";") y.2 with
    | none => rfl
    | some L2 => rfl
theorem gitems_stop {f : Nat} {L : List Tk} (hk : (hdT L).kind ≠ 1) : gitemsT (f + 1) L G seen = .ok ((G, seen), L) := by
  unfold gitemsT
  rw [if_neg hk]
end
/-- The error's number in the reader's block. -/
def erOf (w : World) (g : Nat) : Int := match w.cell? ⟨g, 25, none⟩ with
  | some v => intOf v
  | none => 0
theorem PrIn.erOf {g c a : Nat} {A : Option Addr} {T : List Tk} {w : World} {rest : List Value} {er ln : Int} (h : PrIn w g A c T a rest er ln) : Go.Proofs.YtbdkggnajipdhaaGreatDoor.erOf w g = er := by
  unfold Go.Proofs.YtbdkggnajipdhaaGreatDoor.erOf
  rw [h.c25]
  rfl
theorem Rs.erOf {g c : Nat} {A : Option Addr} {T : List Tk} {w : World} {rest : List Value} {y : Int × List Tk} (h : Rs w g A c T (.error y) rest) : Go.Proofs.YtbdkggnajipdhaaGreatDoor.erOf w g = y.1 := by
  obtain ⟨a, er, ln, p, h1, h2, h3⟩ := h
  rw [p.erOf, h1]
theorem Rs.err_ne {g c : Nat} {A : Option Addr} {T : List Tk} {w : World} {rest : List Value} {y : Int × List Tk} (h : Rs w g A c T (.error y) rest) : ¬ y.1 = 0 := by
  obtain ⟨a, er, ln, p, h1, h2, h3⟩ := h
  exact h2
theorem itemX_len {T : List Tk} {a : Nat} {G : Gm} {seen : List (List Nat)} {y : (Gm × List (List Nat)) × List Tk} (hT : TokOk T) (hlt : a < T.length) (h : itemX (T.drop a) G seen = .ok y) : y.2.length + 1 ≤ T.length - a := by
  unfold itemX at h
  cases hi : itemG (T.drop a) G seen with
  | error z => rw [hi] at h; cases h
  | ok z =>
    rw [hi] at h
    dsimp only [bindT] at h
    have h1 := itemG_len hi
    have hk : (hdT (T.drop a)).kind = 1 := by
      unfold itemG at hi
      by_cases hk : (hdT (T.drop a)).kind = 1
      · exact hk
      · rw [if_pos hk] at hi; cases hi
    obtain ⟨n1, n2⟩ := nx_at hT hlt (by omega)
    rw [n2, List.length_drop] at h1
    cases hs : isT 3 (asc ";") z.2 with
    | none => rw [hs] at h; cases h
    | some L2 =>
      rw [hs] at h
      dsimp only [thenT] at h
      injection h with h
      obtain ⟨u1, u2, u3⟩ := is_some hs
      have h2 := nx_len z.2
      rw [← h]
      dsimp only
      rw [u3]
      omega
theorem count_take (s : ByteArray) {k : Nat} (hk : k < s.size) : ((bs s).take (k + 1)).count 10 = ((bs s).take k).count 10 + if bt s k = 10 then 1 else 0 := by
  rw [List.take_add_one, bs_get hk, List.count_append]
  by_cases h : bt s k = 10
  · rw [if_pos h, h]; rfl
  · rw [if_neg h]
    simp [h]
set_option maxHeartbeats 4000000 in
theorem rgParse_any (s : ByteArray) (w : World) (hs : s.size ≤ 1000000) : Calls Tryz.prog 10 #[.string s] w fun e w' => Below w.heap.size w w' ∧
    ∃ Va Vt, e = .returned (.tuple #[.agg (gmV (parseG s).1 Va Vt).toArray, .int .i64 (parseG s).2.1, .int .i64 (parseG s).2.2]) ∧ GmIn w' Va Vt (parseG s).1 := by
  refine calls_W (l := [_]) Tryz.func10 rfl _ Tryz.ntmps10 (by simp) ?_
  generalize hR : parseG s = R
  unfold parseG at hR
  refine W_piece fun K hK hX => ?_
  simp +contextual (maxSteps := 2000000) (disch := first | omega | (simp only [SZ]; first | done | omega) | (simp only [TS] at *; omega)) only [RZ, ovw, oneC, reduceAdd, reduceMul, reduceSub, reduceEqDiff, reduceLT, ↓reduceIte, Int.reduceToNat, reduceLeDiff]
  have r0 := Row.new w 26 [Value.string ByteArray.empty, .int .i64 0, .int .i64 0, .int .i64 0, .int .i64 0, .int .i64 0, .int .i64 0, .int .i64 0, .int .i64 0, .int .i64 0, .int .i64 0, .int .i64 0, .int .i64 0, .int .i64 0, .int .i64 0, .int .i64 0, .int .i64 0, .int .i64 0, .int .i64 0, .int .i64 0, .slice none 0 0, .slice none 0 0]
  replace r0 : Row (w.alloc (.cells #[Value.string ByteArray.empty, .int .i64 0, .int .i64 0, .int .i64 0, .int .i64 0, .int .i64 0, .int .i64 0, .int .i64 0, .int .i64 0, .int .i64 0, .int .i64 0, .int .i64 0, .int .i64 0, .int .i64 0, .int .i64 0, .int .i64 0, .int .i64 0, .int .i64 0, .int .i64 0, .int .i64 0, .slice none 0 0, .slice none 0 0] 26)) _ _ _ := r0
  have hB0 := below_alloc w (.cells #[Value.string ByteArray.empty, .int .i64 0, .int .i64 0, .int .i64 0, .int .i64 0, .int .i64 0, .int .i64 0, .int .i64 0, .int .i64 0, .int .i64 0, .int .i64 0, .int .i64 0, .int .i64 0, .int .i64 0, .int .i64 0, .int .i64 0, .int .i64 0, .int .i64 0, .int .i64 0, .int .i64 0, .slice none 0 0, .slice none 0 0] 26)
  have hz0 : (w.alloc (.cells #[Value.string ByteArray.empty, .int .i64 0, .int .i64 0, .int .i64 0, .int .i64 0, .int .i64 0, .int .i64 0, .int .i64 0, .int .i64 0, .int .i64 0, .int .i64 0, .int .i64 0, .int .i64 0, .int .i64 0, .int .i64 0, .int .i64 0, .int .i64 0, .int .i64 0, .int .i64 0, .int .i64 0, .slice none 0 0, .slice none 0 0] 26)).heap.size = w.heap.size + 1 := World.size_alloc _ _
  refine hK _ _ ?_
  clear hK hX K
  generalize w.alloc (.cells #[Value.string ByteArray.empty, .int .i64 0, .int .i64 0, .int .i64 0, .int .i64 0, .int .i64 0, .int .i64 0, .int .i64 0, .int .i64 0, .int .i64 0, .int .i64 0, .int .i64 0, .int .i64 0, .int .i64 0, .int .i64 0, .int .i64 0, .int .i64 0, .int .i64 0, .int .i64 0, .int .i64 0, .slice none 0 0, .slice none 0 0] 26) = w0 at *
  refine W_piece fun K hK hX => ?_
  simp +contextual (maxSteps := 2000000) (disch := first | omega | (simp only [SZ]; first | done | omega) | (simp only [TS] at *; omega)) only [RZ, ovw, oneC, reduceAdd, reduceMul, reduceSub, reduceEqDiff, reduceLT, ↓reduceIte, Int.reduceToNat, reduceLeDiff]
  refine (rscan_any s w0 hs).mono ?_
  rintro e w1 ⟨hB1, v, rfl, A, c, rfl, hown⟩
  refine ⟨_, rfl, ?_⟩
  have hf1 := hB0.trans (hB1.mono (by omega))
  have r1 := r0.below hB1
  have hof := scan_off (s := s)
  have hok := scan_tokOk (s := s)
  have hW := scan_tokW s
  generalize hSC : scanE s = SC at *
  have hz1 := hB1.size
  try simp +contextual (maxSteps := 2000000) (disch := first | omega | (simp only [SZ]; first | done | omega) | (simp only [TS] at *; omega)) only [RZ, ovw, oneC, reduceAdd, reduceMul, reduceSub, reduceEqDiff, reduceLT, ↓reduceIte, Int.reduceToNat, reduceLeDiff]
  refine hK _ _ ?_
  clear hK hX K
  generalize hn : w.heap.size = n at *
  by_cases hc3 : SC.1 = 3
  · have e1 : (SC.1 = 3) = True := eq_true hc3
    rw [if_pos hc3] at hR
    subst hR
    have st := store_gm (G := noGm) (Va := .slice none 0 0) (Vt := .slice none 0 0) r1 rfl rfl rfl
    change vStore Tryz.prog 26 (.pointer (some ⟨n, 0, none⟩)) (.agg #[Value.string ByteArray.empty, .int .i64 0, .int .i64 0, .int .i64 0, .int .i64 0, .int .i64 0, .int .i64 0, .int .i64 0, .int .i64 0, .int .i64 0, .int .i64 0, .int .i64 0, .int .i64 0, .int .i64 0, .int .i64 0, .int .i64 0, .int .i64 0, .int .i64 0, .int .i64 0, .int .i64 0, .slice none 0 0, .slice none 0 0]) w1 = .ok .skip (stW n 0 zeroGm w1) at st
    refine W_piece fun K hK hX => ?_
    refine W_piece fun K2 hK2 hX2 => ?_
    simp +contextual (maxSteps := 2000000) (disch := first | omega | (simp only [SZ]; first | done | omega) | (simp only [TS] at *; omega)) only [RZ, ovw, oneC, reduceAdd, reduceMul, reduceSub, reduceEqDiff, reduceLT, ↓reduceIte, Int.reduceToNat, reduceLeDiff,  e1]
    refine hK2 _ _ ?_
    clear hK2 hX2 K2
    refine W_if_t rfl ?_
    refine W_piece fun K2 hK2 hX2 => ?_
    simp +contextual (maxSteps := 2000000) (disch := first | omega | (simp only [SZ]; first | done | omega) | (simp only [TS] at *; omega)) only [RZ, ovw, oneC, reduceAdd, reduceMul, reduceSub, reduceEqDiff, reduceLT, ↓reduceIte, Int.reduceToNat, reduceLeDiff,  st]
    have r2 : Row (stW n 0 zeroGm w1) n 26 (gmV noGm (.slice none 0 0) (.slice none 0 0)) := stW_gm r1 rfl
    have l2 := load_game r2
    have kA := stW_kept (X := [n]) (g := n) (by simp) zeroGm 0 w1 w1 (Kept.refl _ _)
    generalize stW n 0 zeroGm w1 = w2 at *
    refine hK2 _ _ ?_
    clear hK2 hX2 K2
    rw [W_ret]
    refine hX _ _ _ (fun h => by cases h) ?_
    simp +contextual (maxSteps := 2000000) (disch := first | omega | (simp only [SZ]; first | done | omega) | (simp only [TS] at *; omega)) only [RZ, ovw, oneC, reduceAdd, reduceMul, reduceSub, reduceEqDiff, reduceLT, ↓reduceIte, Int.reduceToNat, reduceLeDiff,  l2]
    exact ⟨hf1.trans ⟨kA.os, kA.tape, kA.output, kA.size, fun i hi => kA.block i (by have := hf1.size; omega) (by simp; omega)⟩, _, _, by rw [hc3], GmIn.nil _⟩
  rw [if_neg hc3] at hR
  have e3 : (SC.1 = 3) = False := eq_false hc3
  refine W_piece fun K hK hX => ?_
  refine W_piece fun K2 hK2 hX2 => ?_
  simp +contextual (maxSteps := 2000000) (disch := first | omega | (simp only [SZ]; first | done | omega) | (simp only [TS] at *; omega)) only [RZ, ovw, oneC, reduceAdd, reduceMul, reduceSub, reduceEqDiff, reduceLT, ↓reduceIte, Int.reduceToNat, reduceLeDiff,  e3]
  refine hK2 _ _ ?_
  clear hK2 hX2 K2
  refine W_if_f rfl ?_
  rw [W_skip]
  refine hK _ _ ?_
  clear hK hX K
  by_cases hc0 : SC.1 = 0
  rotate_left
  · rw [if_pos hc0] at hR
    subst hR
    obtain ⟨o0, o1⟩ := hof hc0
    obtain ⟨m, hm⟩ : ∃ m : Nat, SC.2.1 = m := ⟨SC.2.1.toNat, (Int.toNat_of_nonneg o0).symm⟩
    rw [hm] at o0 o1 ⊢
    rw [Int.toNat_natCast]
    have e1 : (SC.1 = 0) = False := eq_false hc0
    refine W_piece fun K hK hX => ?_
    refine W_piece fun K2 hK2 hX2 => ?_
    simp +contextual (maxSteps := 2000000) (disch := first | omega | (simp only [SZ]; first | done | omega) | (simp only [TS] at *; omega)) only [RZ, ovw, oneC, reduceAdd, reduceMul, reduceSub, reduceEqDiff, reduceLT, ↓reduceIte, Int.reduceToNat, reduceLeDiff,  e1]
    refine hK2 _ _ ?_
    clear hK2 hX2 K2
    refine W_if_t rfl ?_
    refine W_piece fun K2 hK2 hX2 => ?_
    simp +contextual (maxSteps := 2000000) (disch := first | omega | (simp only [SZ]; first | done | omega) | (simp only [TS] at *; omega)) only [RZ, ovw, oneC, reduceAdd, reduceMul, reduceSub, reduceEqDiff, reduceLT, ↓reduceIte, Int.reduceToNat, reduceLeDiff]
    refine hK2 _ _ ?_
    clear hK2 hX2 K2
    refine W_cutS (fun σ w2 => w2 = w1 ∧ σ 2 = .pointer (some ⟨n, 0, none⟩) ∧ σ 6 = .int .i64 SC.1 ∧ σ 8 = .int .i64 (1 + (((bs s).take m).count 10 : Nat))) ?_ ?_
    rotate_left
    · refine W_piece fun K2 hK2 hX2 => ?_
      simp +contextual (maxSteps := 2000000) (disch := first | omega | (simp only [SZ]; first | done | omega) | (simp only [TS] at *; omega)) only [RZ, ovw, oneC, reduceAdd, reduceMul, reduceSub, reduceEqDiff, reduceLT, ↓reduceIte, Int.reduceToNat, reduceLeDiff]
      refine hK2 _ _ ?_
      clear hK2 hX2 K2
      simp +contextual (maxSteps := 2000000) (disch := first | omega | (simp only [SZ]; first | done | omega) | (simp only [TS] at *; omega)) only [RZ, ovw, oneC, reduceAdd, reduceMul, reduceSub, reduceEqDiff, reduceLT, ↓reduceIte, Int.reduceToNat, reduceLeDiff]
      refine Raw_loop (fun σ w2 => w2 = w1 ∧ ∃ k : Nat, k ≤ m ∧ σ 0 = .string s ∧ σ 2 = .pointer (some ⟨n, 0, none⟩) ∧ σ 6 = .int .i64 SC.1 ∧ σ 7 = .int .i64 m ∧ σ 8 = .int .i64 (1 + (((bs s).take k).count 10 : Nat)) ∧ σ 9 = .int .i64 k) (fun σ _ => m - (intOf (σ 9)).toNat) ?_ ?_
      · simp +contextual (maxSteps := 2000000) (disch := first | omega | (simp only [SZ]; first | done | omega) | (simp only [TS] at *; omega)) only [RZ, ovw, oneC, reduceAdd, reduceMul, reduceSub, reduceEqDiff, reduceLT, ↓reduceIte, Int.reduceToNat, reduceLeDiff,  hm]
        exact ⟨0, Nat.zero_le _, rfl, rfl⟩
      rintro σ w2 ⟨rfl, k, hk, f0, f2, f6, f7, f8, f9⟩ K2 hK2
      simp +contextual (maxSteps := 2000000) (disch := first | omega | (simp only [SZ]; first | done | omega) | (simp only [TS] at *; omega)) only [RZ, ovw, oneC, reduceAdd, reduceMul, reduceSub, reduceEqDiff, reduceLT, ↓reduceIte, Int.reduceToNat, reduceLeDiff,  f7, f9]
      by_cases hkm : k < m
      · have e2 : ((k : Int) < (m : Int)) = True := eq_true (by omega)
        have hst := count_take s (k := k) (by omega)
        have hcm : ((bs s).take k).count 10 ≤ k := Nat.le_trans List.count_le_length (by rw [List.length_take]; omega)
        simp +contextual (maxSteps := 2000000) (disch := first | omega | (simp only [SZ]; first | done | omega) | (simp only [TS] at *; omega)) only [RZ, ovw, oneC, reduceAdd, reduceMul, reduceSub, reduceEqDiff, reduceLT, ↓reduceIte, Int.reduceToNat, reduceLeDiff,  e2]
        refine W_if_t rfl ?_
        rw [W_skip]
        have hks : k < s.size := by omega
        by_cases hb : bt s k = 10
        · have e4 : ((bt s k : Int) = 10) = True := eq_true (by omega)
          rw [if_pos hb] at hst
          simp +contextual (maxSteps := 2000000) (disch := first | omega | (simp only [SZ]; first | done | omega) | (simp only [TS] at *; omega)) only [RZ, ovw, oneC, reduceAdd, reduceMul, reduceSub, reduceEqDiff, reduceLT, ↓reduceIte, Int.reduceToNat, reduceLeDiff,  f0, f9, e4]
          refine W_if_t rfl ?_
          simp +contextual (maxSteps := 2000000) (disch := first | omega | (simp only [SZ]; first | done | omega) | (simp only [TS] at *; omega)) only [RZ, ovw, oneC, reduceAdd, reduceMul, reduceSub, reduceEqDiff, reduceLT, ↓reduceIte, Int.reduceToNat, reduceLeDiff,  f8, f9]
          refine hK2 _ _ ⟨rfl, k + 1, by omega, ?_⟩ ?_
          · simp +contextual (maxSteps := 2000000) (disch := first | omega | (simp only [SZ]; first | done | omega) | (simp only [TS] at *; omega)) only [RZ, ovw, oneC, reduceAdd, reduceMul, reduceSub, reduceEqDiff, reduceLT, ↓reduceIte, Int.reduceToNat, reduceLeDiff,  f0, f2, f6, f7, f8, f9]
            rw [hst]
            congr 1
          · simp +contextual (maxSteps := 2000000) (disch := first | omega | (simp only [SZ]; first | done | omega) | (simp only [TS] at *; omega)) only [RZ, ovw, oneC, reduceAdd, reduceMul, reduceSub, reduceEqDiff, reduceLT, ↓reduceIte, Int.reduceToNat, reduceLeDiff,  intOf, f9]
            omega
        · have e4 : ((bt s k : Int) = 10) = False := eq_false (by omega)
          rw [if_neg hb] at hst
          simp +contextual (maxSteps := 2000000) (disch := first | omega | (simp only [SZ]; first | done | omega) | (simp only [TS] at *; omega)) only [RZ, ovw, oneC, reduceAdd, reduceMul, reduceSub, reduceEqDiff, reduceLT, ↓reduceIte, Int.reduceToNat, reduceLeDiff,  f0, f9, e4]
          refine W_if_f rfl ?_
          simp +contextual (maxSteps := 2000000) (disch := first | omega | (simp only [SZ]; first | done | omega) | (simp only [TS] at *; omega)) only [RZ, ovw, oneC, reduceAdd, reduceMul, reduceSub, reduceEqDiff, reduceLT, ↓reduceIte, Int.reduceToNat, reduceLeDiff,  f8, f9]
          refine hK2 _ _ ⟨rfl, k + 1, by omega, ?_⟩ ?_
          · simp +contextual (maxSteps := 2000000) (disch := first | omega | (simp only [SZ]; first | done | omega) | (simp only [TS] at *; omega)) only [RZ, ovw, oneC, reduceAdd, reduceMul, reduceSub, reduceEqDiff, reduceLT, ↓reduceIte, Int.reduceToNat, reduceLeDiff,  f0, f2, f6, f7, f8, f9]
            rw [hst]
            rfl
          · simp +contextual (maxSteps := 2000000) (disch := first | omega | (simp only [SZ]; first | done | omega) | (simp only [TS] at *; omega)) only [RZ, ovw, oneC, reduceAdd, reduceMul, reduceSub, reduceEqDiff, reduceLT, ↓reduceIte, Int.reduceToNat, reduceLeDiff,  intOf, f9]
            omega
      · have e2 : ((k : Int) < (m : Int)) = False := eq_false (by omega)
        obtain rfl : k = m := by omega
        simp +contextual (maxSteps := 2000000) (disch := first | omega | (simp only [SZ]; first | done | omega) | (simp only [TS] at *; omega)) only [RZ, ovw, oneC, reduceAdd, reduceMul, reduceSub, reduceEqDiff, reduceLT, ↓reduceIte, Int.reduceToNat, reduceLeDiff,  e2]
        refine W_if_f rfl ?_
        simp +contextual (maxSteps := 2000000) (disch := first | omega | (simp only [SZ]; first | done | omega) | (simp only [TS] at *; omega)) only [RZ, ovw, oneC, reduceAdd, reduceMul, reduceSub, reduceEqDiff, reduceLT, ↓reduceIte, Int.reduceToNat, reduceLeDiff,  f2, f6, f8]
    rintro σ w2 ⟨rfl, f2, f6, f8⟩
    have st := store_gm (G := noGm) (Va := .slice none 0 0) (Vt := .slice none 0 0) r1 rfl rfl rfl
    change vStore Tryz.prog 26 (.pointer (some ⟨n, 0, none⟩)) (.agg #[Value.string ByteArray.empty, .int .i64 0, .int .i64 0, .int .i64 0, .int .i64 0, .int .i64 0, .int .i64 0, .int .i64 0, .int .i64 0, .int .i64 0, .int .i64 0, .int .i64 0, .int .i64 0, .int .i64 0, .int .i64 0, .int .i64 0, .int .i64 0, .int .i64 0, .int .i64 0, .int .i64 0, .slice none 0 0, .slice none 0 0]) w2 = .ok .skip (stW n 0 zeroGm w2) at st
    refine W_piece fun K2 hK2 hX2 => ?_
    simp +contextual (maxSteps := 2000000) (disch := first | omega | (simp only [SZ]; first | done | omega) | (simp only [TS] at *; omega)) only [RZ, ovw, oneC, reduceAdd, reduceMul, reduceSub, reduceEqDiff, reduceLT, ↓reduceIte, Int.reduceToNat, reduceLeDiff,  f2, f6, f8, st]
    have r2 : Row (stW n 0 zeroGm w2) n 26 (gmV noGm (.slice none 0 0) (.slice none 0 0)) := stW_gm r1 rfl
    have l2 := load_game r2
    have kA := stW_kept (X := [n]) (g := n) (by simp) zeroGm 0 w2 w2 (Kept.refl _ _)
    generalize stW n 0 zeroGm w2 = w3 at *
    refine hK2 _ _ ?_
    clear hK2 hX2 K2
    rw [W_ret]
    refine hX _ _ _ (fun h => by cases h) ?_
    simp +contextual (maxSteps := 2000000) (disch := first | omega | (simp only [SZ]; first | done | omega) | (simp only [TS] at *; omega)) only [RZ, ovw, oneC, reduceAdd, reduceMul, reduceSub, reduceEqDiff, reduceLT, ↓reduceIte, Int.reduceToNat, reduceLeDiff,  f2, f6, f8, l2]
    exact ⟨hf1.trans ⟨kA.os, kA.tape, kA.output, kA.size, fun i hi => kA.block i (by have := hf1.size; omega) (by simp; omega)⟩, _, _, rfl, GmIn.nil _⟩
  rw [if_neg (fun h => h hc0)] at hR
  have e0 : (SC.1 = 0) = True := eq_true hc0
  refine W_piece fun K hK hX => ?_
  refine W_piece fun K2 hK2 hX2 => ?_
  simp +contextual (maxSteps := 2000000) (disch := first | omega | (simp only [SZ]; first | done | omega) | (simp only [TS] at *; omega)) only [RZ, ovw, oneC, reduceAdd, reduceMul, reduceSub, reduceEqDiff, reduceLT, ↓reduceIte, Int.reduceToNat, reduceLeDiff,  e0]
  refine hK2 _ _ ?_
  clear hK2 hX2 K2
  refine W_if_f rfl ?_
  rw [W_skip]
  refine hK _ _ ?_
  clear hK hX K
  obtain ⟨hT, hpos⟩ := hok hc0
  obtain ⟨gt, rfl, hgt1, hrt, _, _⟩ := owns_row hown hpos
  have hgtl := hrt.lt
  refine W_piece fun K hK hX => ?_
  simp +contextual (maxSteps := 2000000) (disch := first | omega | (simp only [SZ]; first | done | omega) | (simp only [TS] at *; omega)) only [RZ, ovw, oneC, reduceAdd, reduceMul, reduceSub, reduceEqDiff, reduceLT, ↓reduceIte, Int.reduceToNat, reduceLeDiff]
  have hbP := below_alloc w1 (.cells #[.slice (some ⟨gt, 0, none⟩) SC.2.2.length c, .int .i64 0, .string ByteArray.empty, .int .i64 0, .int .i64 0, .int .i64 0, .int .i64 0, .int .i64 0, .int .i64 0, .int .i64 0, .int .i64 0, .int .i64 0, .int .i64 0, .int .i64 0, .int .i64 0, .int .i64 0, .int .i64 0, .int .i64 0, .int .i64 0, .int .i64 0, .int .i64 0, .int .i64 0, .slice none 0 0, .slice none 0 0, .slice none 0 0, .int .i64 0, .int .i64 0] 58)
  have rP := Row.new w1 58 [.slice (some ⟨gt, 0, none⟩) SC.2.2.length c, .int .i64 0, .string ByteArray.empty, .int .i64 0, .int .i64 0, .int .i64 0, .int .i64 0, .int .i64 0, .int .i64 0, .int .i64 0, .int .i64 0, .int .i64 0, .int .i64 0, .int .i64 0, .int .i64 0, .int .i64 0, .int .i64 0, .int .i64 0, .int .i64 0, .int .i64 0, .int .i64 0, .int .i64 0, .slice none 0 0, .slice none 0 0, .slice none 0 0, .int .i64 0, .int .i64 0]
  replace rP : Row (w1.alloc (.cells #[.slice (some ⟨gt, 0, none⟩) SC.2.2.length c, .int .i64 0, .string ByteArray.empty, .int .i64 0, .int .i64 0, .int .i64 0, .int .i64 0, .int .i64 0, .int .i64 0, .int .i64 0, .int .i64 0, .int .i64 0, .int .i64 0, .int .i64 0, .int .i64 0, .int .i64 0, .int .i64 0, .int .i64 0, .int .i64 0, .int .i64 0, .int .i64 0, .int .i64 0, .slice none 0 0, .slice none 0 0, .slice none 0 0, .int .i64 0, .int .i64 0] 58)) _ _ _ := rP
  have hzP : (w1.alloc (.cells #[.slice (some ⟨gt, 0, none⟩) SC.2.2.length c, .int .i64 0, .string ByteArray.empty, .int .i64 0, .int .i64 0, .int .i64 0, .int .i64 0, .int .i64 0, .int .i64 0, .int .i64 0, .int .i64 0, .int .i64 0, .int .i64 0, .int .i64 0, .int .i64 0, .int .i64 0, .int .i64 0, .int .i64 0, .int .i64 0, .int .i64 0, .int .i64 0, .int .i64 0, .slice none 0 0, .slice none 0 0, .slice none 0 0, .int .i64 0, .int .i64 0] 58)).heap.size = w1.heap.size + 1 := World.size_alloc _ _
  have hrt2 := hrt.below hbP
  have r2 := r1.below hbP
  have hf2 := hf1.trans (hbP.mono (by omega))
  refine hK _ _ ?_
  clear hK hX K
  generalize w1.alloc (.cells #[.slice (some ⟨gt, 0, none⟩) SC.2.2.length c, .int .i64 0, .string ByteArray.empty, .int .i64 0, .int .i64 0, .int .i64 0, .int .i64 0, .int .i64 0, .int .i64 0, .int .i64 0, .int .i64 0, .int .i64 0, .int .i64 0, .int .i64 0, .int .i64 0, .int .i64 0, .int .i64 0, .int .i64 0, .int .i64 0, .int .i64 0, .int .i64 0, .int .i64 0, .slice none 0 0, .slice none 0 0, .slice none 0 0, .int .i64 0, .int .i64 0] 58) = w2 at *
  generalize hTT : SC.2.2 = T at *
  generalize hgg : w1.heap.size = g at *
  have h2 : RgSt w2 g g (some ⟨gt, 0, none⟩) c T (.ok (T.drop 0)) 0 noGm [] (.slice none 0 0) (.slice none 0 0) (.slice none 0 0) [] [] :=
    ⟨⟨0, 0, 0, ⟨hpos, hrt2.arr (fun _ => rfl), fun b o e => by injection e with e; injection e with e; omega, rfl, rP⟩, rfl, rfl⟩, fun u => by simp, owns_nil _ _ _ _, ⟨rfl, fun i cs x h => by simp at h⟩, owns_nil _ _ _ _, owns_nil _ _ _ _,
      ⟨Nat.le_refl _, Nat.le_refl _, Nat.le_refl _⟩, by decide, fun _ => rfl, fun b o e => by injection e with e; injection e with e; omega, Nat.le_refl _⟩
  -- the numbers that are 1 at first
  have z10 := h2.cellN (i := 7) (by decide)
  have z10z : w2.frozen? ⟨g, 10, none⟩ = false := rP.frozen 10
  have z19 := h2.cellN (i := 16) (by decide)
  have z19z : w2.frozen? ⟨g, 19, none⟩ = false := rP.frozen 19
  have h3 := (h2.setN (i := 7) (by decide) 1 (fun _ => by decide)).setN (i := 16) (by decide) 1 (fun _ => by decide)
  change RgSt ((w2.setCell ⟨g, 10, none⟩ (.int .i64 1)).setCell ⟨g, 19, none⟩ (.int .i64 1)) _ _ _ _ _ _ _ _ _ _ _ _ _ _ at h3
  have k3 := ((Kept.refl [g] w2).setCell (p := ⟨g, 10, none⟩) (by simp) (.int .i64 1)).setCell (p := ⟨g, 19, none⟩) (by simp) (.int .i64 1)
  have K3 := h2.keptB k3 (by simp)
  refine W_piece fun K hK hX => ?_
  simp +contextual (maxSteps := 2000000) (disch := first | omega | (simp only [SZ]; first | done | omega) | (simp only [TS] at *; omega)) only [RZ, ovw, oneC, reduceAdd, reduceMul, reduceSub, reduceEqDiff, reduceLT, ↓reduceIte, Int.reduceToNat, reduceLeDiff,  z10, z10z, z19, z19z]
  refine hK _ _ ?_
  clear hK hX K z10 z10z z19 z19z k3 rP h2
  generalize (w2.setCell ⟨g, 10, none⟩ (.int .i64 1)).setCell ⟨g, 19, none⟩ (.int .i64 1) = w3 at *
  have hlg : asc "game" = bs ⟨#[103, 97, 109, 101]⟩ := by decide +kernel
  generalize hGT : gameT T = GT at *
  unfold gameT at hGT
  refine W_piece fun K hK hX => ?_
  simp +contextual (maxSteps := 2000000) (disch := first | omega | (simp only [SZ]; first | done | omega) | (simp only [TS] at *; omega)) only [RZ, ovw, oneC, reduceAdd, reduceMul, reduceSub, reduceEqDiff, reduceLT, ↓reduceIte, Int.reduceToNat, reduceLeDiff]
  refine (rgNeed_any ⟨#[103, 97, 109, 101]⟩ hT h3.rs).mono ?_
  rintro e w4 ⟨⟨v, rfl⟩, s4, k4⟩
  refine ⟨_, rfl, ?_⟩
  rw [← hlg] at s4
  have h4 := h3.leaf k4 s4
  have K4 := K3.trans (h3.keptB k4 (by simp))
  try simp +contextual (maxSteps := 2000000) (disch := first | omega | (simp only [SZ]; first | done | omega) | (simp only [TS] at *; omega)) only [RZ, ovw, oneC, reduceAdd, reduceMul, reduceSub, reduceEqDiff, reduceLT, ↓reduceIte, Int.reduceToNat, reduceLeDiff]
  refine hK _ _ ?_
  clear hK hX K
  refine W_piece fun K hK hX => ?_
  simp +contextual (maxSteps := 2000000) (disch := first | omega | (simp only [SZ]; first | done | omega) | (simp only [TS] at *; omega)) only [RZ, ovw, oneC, reduceAdd, reduceMul, reduceSub, reduceEqDiff, reduceLT, ↓reduceIte, Int.reduceToNat, reduceLeDiff]
  refine (rgWord_any hT h4.rs).mono ?_
  rintro e w5 ⟨nm, rfl, s5, k5, q5⟩
  refine ⟨_, rfl, ?_⟩
  have h5 := h4.leaf k5 s5
  have K5 := K4.trans (h4.keptB k5 (by simp))
  obtain ⟨cs5, rr5⟩ := h5.row
  obtain ⟨a5, er5, ln5, p5, pl5⟩ := h5.rs
  have z2 : w5.cell? ⟨g, 2, none⟩ = some (.string ByteArray.empty) := p5.cR (i := 0) rfl
  have z2z : w5.frozen? ⟨g, 2, none⟩ = false := rr5.frozen 2
  have h6 := h5.name nm
  have K6 := K5.setCell (p := ⟨g, 2, none⟩) (Nat.le_refl _) (.string nm)
  try simp +contextual (maxSteps := 2000000) (disch := first | omega | (simp only [SZ]; first | done | omega) | (simp only [TS] at *; omega)) only [RZ, ovw, oneC, reduceAdd, reduceMul, reduceSub, reduceEqDiff, reduceLT, ↓reduceIte, Int.reduceToNat, reduceLeDiff,  z2, z2z]
  refine hK _ _ ?_
  clear hK hX K z2 z2z p5 rr5 pl5
  generalize w5.setCell ⟨g, 2, none⟩ (.string nm) = w6 at *
  refine W_piece fun K hK hX => ?_
  simp +contextual (maxSteps := 2000000) (disch := first | omega | (simp only [SZ]; first | done | omega) | (simp only [TS] at *; omega)) only [RZ, ovw, oneC, reduceAdd, reduceMul, reduceSub, reduceEqDiff, reduceLT, ↓reduceIte, Int.reduceToNat, reduceLeDiff]
  refine (rgNeed_any ⟨#[123]⟩ hT h6.rs).mono ?_
  rintro e w7 ⟨⟨v, rfl⟩, s7, k7⟩
  refine ⟨_, rfl, ?_⟩
  rw [show bs ⟨#[123]⟩ = asc "{" by decide +kernel] at s7
  have h7 := h6.leaf k7 s7
  have K7 := K6.trans (h6.keptB k7 (by simp))
  try simp +contextual (maxSteps := 2000000) (disch := first | omega | (simp only [SZ]; first | done | omega) | (simp only [TS] at *; omega)) only [RZ, ovw, oneC, reduceAdd, reduceMul, reduceSub, reduceEqDiff, reduceLT, ↓reduceIte, Int.reduceToNat, reduceLeDiff]
  refine hK _ _ ?_
  clear hK hX K
  -- the state behind the head
  have hhead : (∃ y, sndX (bindT (sndX (bindT (sndX (bindT (.ok (T.drop 0)) (needX (asc "game")))) wordT)) (needX (asc "{"))) = .error y ∧ GT = .error y) ∨
      ∃ a7, sndX (bindT (sndX (bindT (sndX (bindT (.ok (T.drop 0)) (needX (asc "game")))) wordT)) (needX (asc "{"))) = .ok (T.drop a7) ∧ a7 < T.length ∧ GT = bindT (gitemsT (T.drop a7).length (T.drop a7) (gm0 nm) []) closeT := by
    have hw0 := isWM_word (a := 0) hW hpos (ch := 103) (r := [97, 109, 101]) (by decide)
    rw [show ([103, 97, 109, 101] : List Nat) = asc "game" by decide +kernel] at hw0
    rw [show bindT (.ok (T.drop 0)) (needX (asc "game")) = needX (asc "game") (T.drop 0) from rfl] at q5 ⊢
    rw [needX_is 1 hw0] at q5 ⊢
    change thenT (isT 1 (asc "game") (T.drop 0)) (T.drop 0) _ = GT at hGT
    cases hI1 : isT 1 (asc "game") (T.drop 0) with
    | none =>
      rw [hI1] at hGT
      exact .inl ⟨_, rfl, hGT.symm⟩
    | some L1 =>
      rw [hI1] at hGT q5
      obtain ⟨u1, u2, u3⟩ := is_some hI1
      obtain ⟨n1, n2⟩ := nx_at hT hpos (by omega)
      rw [n2] at u3
      subst u3
      dsimp only [thenT, sndX, bindT] at hGT q5 ⊢
      by_cases hk1 : (hdT (T.drop (0 + 1))).kind = 1
      · rw [if_neg (fun h => h hk1)] at hGT
        obtain ⟨m1, m2⟩ := nx_at hT n1 (by omega)
        have hwd : wordT (T.drop (0 + 1)) = .ok ((hdT (T.drop (0 + 1))).text, T.drop (0 + 1 + 1)) := by unfold wordT; rw [if_pos hk1, m2]
        obtain rfl := q5 _ hwd
        rw [hwd]
        dsimp only
        rw [m2] at hGT
        have hm2 := isWM_mark hW m1 (d := 123) (by decide)
        rw [show ([123] : List Nat) = asc "{" by decide +kernel] at hm2
        rw [needX_is 3 hm2]
        cases hI2 : isT 3 (asc "{") (T.drop (0 + 1 + 1)) with
        | none =>
          rw [hI2] at hGT
          exact .inl ⟨_, rfl, hGT.symm⟩
        | some L3 =>
          rw [hI2] at hGT
          obtain ⟨v1, v2, v3⟩ := is_some hI2
          obtain ⟨l1, l2⟩ := nx_at hT m1 (by omega)
          rw [l2] at v3
          subst v3
          exact .inr ⟨_, rfl, l1, hGT.symm⟩
      · rw [if_pos hk1] at hGT
        have hwd : wordT (T.drop (0 + 1)) = .error (1, T.drop (0 + 1)) := by unfold wordT; rw [if_neg hk1]
        rw [hwd]
        exact .inl ⟨_, rfl, hGT.symm⟩
  generalize sndX (bindT (sndX (bindT (sndX (bindT (.ok (T.drop 0)) (needX (asc "game")))) wordT)) (needX (asc "{"))) = X7 at *
  clear hGT q5
  have hL7 : Below g w2 w7 ∧ ((∃ y rest, Rs w7 g (some ⟨gt, 0, none⟩) c T (.error y) rest ∧ GT = .error y) ∨ ∃ (a1 k f : Nat) (G : Gm) (seen : List (List Nat)) (Va Vt Vn : Value) (Vs : List (List Value)) (Q : List ByteArray),
      RgSt w7 g g (some ⟨gt, 0, none⟩) c T (.ok (T.drop a1)) k G seen Va Vt Vn Vs Q ∧ a1 < T.length ∧ k ≤ 2 * a1 ∧ T.length - a1 ≤ f ∧ GT = bindT (gitemsT f (T.drop a1) G seen) closeT) := by
    refine ⟨K7, ?_⟩
    rcases hhead with ⟨y, e1, e2⟩ | ⟨a7, e1, l7, e2⟩
    · rw [e1] at h7; exact .inl ⟨y, _, h7.rs, e2⟩
    · rw [e1] at h7
      exact .inr ⟨a7, 0, _, _, _, _, _, _, _, _, h7, l7, Nat.zero_le _, by rw [List.length_drop]; exact Nat.le_refl _, e2⟩
  clear h3 h4 h5 h6 h7 s4 s5 s7 k4 k5 k7 K3 K4 K5 K6 K7 hhead cs5 a5 er5 ln5
  have hcl : bs ⟨#[125]⟩ = asc "}" := by decide +kernel
  have hW3 {a : Nat} (ha : a < T.length) := isWM_mark hW ha (d := 125) (by decide)
  rw [show ([125] : List Nat) = asc "}" by decide +kernel] at hW3
  refine W_cutS (fun σ w8 => σ 2 = .pointer (some ⟨n, 0, none⟩) ∧ σ 10 = .pointer (some ⟨g, 0, none⟩) ∧ Below g w2 w8 ∧ ((∃ y rest, Rs w8 g (some ⟨gt, 0, none⟩) c T (.error y) rest ∧ GT = .error y) ∨ ∃ (a1 k : Nat) (G : Gm) (seen : List (List Nat)) (Va Vt Vn : Value) (Vs : List (List Value)) (Q : List ByteArray),
      RgSt w8 g g (some ⟨gt, 0, none⟩) c T (.ok (T.drop a1)) k G seen Va Vt Vn Vs Q ∧ a1 < T.length ∧ isWM (asc "}") (T.drop a1) = true ∧ GT = closeT ((G, seen), T.drop a1))) ?_ ?_
  rotate_left
  · simp +contextual (maxSteps := 2000000) (disch := first | omega | (simp only [SZ]; first | done | omega) | (simp only [TS] at *; omega)) only [RZ, ovw, oneC, reduceAdd, reduceMul, reduceSub, reduceEqDiff, reduceLT, ↓reduceIte, Int.reduceToNat, reduceLeDiff]
    refine Raw_loop (fun σ w8 => σ 2 = .pointer (some ⟨n, 0, none⟩) ∧ σ 10 = .pointer (some ⟨g, 0, none⟩) ∧ Below g w2 w8 ∧ ((∃ y rest, Rs w8 g (some ⟨gt, 0, none⟩) c T (.error y) rest ∧ GT = .error y) ∨ ∃ (a1 k f : Nat) (G : Gm) (seen : List (List Nat)) (Va Vt Vn : Value) (Vs : List (List Value)) (Q : List ByteArray),
      RgSt w8 g g (some ⟨gt, 0, none⟩) c T (.ok (T.drop a1)) k G seen Va Vt Vn Vs Q ∧ a1 < T.length ∧ k ≤ 2 * a1 ∧ T.length - a1 ≤ f ∧ GT = bindT (gitemsT f (T.drop a1) G seen) closeT)) (fun _ w8 => if erOf w8 g = 0 then T.length - atOf w8 g + 1 else 0) ?_ ?_
    · exact ⟨by simp +contextual (maxSteps := 2000000) (disch := first | omega | (simp only [SZ]; first | done | omega) | (simp only [TS] at *; omega)) only [RZ, ovw, oneC, reduceAdd, reduceMul, reduceSub, reduceEqDiff, reduceLT, ↓reduceIte, Int.reduceToNat, reduceLeDiff], by simp +contextual (maxSteps := 2000000) (disch := first | omega | (simp only [SZ]; first | done | omega) | (simp only [TS] at *; omega)) only [RZ, ovw, oneC, reduceAdd, reduceMul, reduceSub, reduceEqDiff, reduceLT, ↓reduceIte, Int.reduceToNat, reduceLeDiff], hL7⟩
    clear hL7
    rintro σ w8 ⟨f2, f10, K8, hS⟩ K hK
    rcases hS with ⟨y, rest, hs8, hGe⟩ | ⟨a1, k, f, G, seen, Va, Vt, Vn, Vs, Q, h8, hlt1, hka, hfu, hG⟩
    · obtain ⟨a8, er8, ln8, p8, hx8⟩ := hs8.cases
      rcases hx8 with ⟨_, hx8⟩ | ⟨hne, L, hx8, hl⟩
      · cases hx8
      have c25 := p8.c25
      have e1 : (er8 = 0) = False := eq_false hne
      simp +contextual (maxSteps := 2000000) (disch := first | omega | (simp only [SZ]; first | done | omega) | (simp only [TS] at *; omega)) only [RZ, ovw, oneC, reduceAdd, reduceMul, reduceSub, reduceEqDiff, reduceLT, ↓reduceIte, Int.reduceToNat, reduceLeDiff,  f10, c25, e1]
      refine W_if_f rfl ?_
      simp +contextual (maxSteps := 2000000) (disch := first | omega | (simp only [SZ]; first | done | omega) | (simp only [TS] at *; omega)) only [RZ, ovw, oneC, reduceAdd, reduceMul, reduceSub, reduceEqDiff, reduceLT, ↓reduceIte, Int.reduceToNat, reduceLeDiff,  f2, f10]
      exact ⟨K8, .inl ⟨y, rest, hs8, hGe⟩⟩
    obtain ⟨a8, er8, ln8, p8, hx8⟩ := h8.rs.cases
    rcases hx8 with ⟨rfl, hx8⟩ | ⟨_, _, hx8, _⟩
    rotate_left
    · cases hx8
    injection hx8 with hx8
    obtain rfl : a1 = a8 := drop_same hx8.symm hlt1 p8.lt
    clear hx8
    have c25 := p8.c25
    refine W_piece fun K2 hK2 hX2 => ?_
    refine W_piece fun K3 hK3 hX3 => ?_
    simp +contextual (maxSteps := 2000000) (disch := first | omega | (simp only [SZ]; first | done | omega) | (simp only [TS] at *; omega)) only [RZ, ovw, oneC, reduceAdd, reduceMul, reduceSub, reduceEqDiff, reduceLT, ↓reduceIte, Int.reduceToNat, reduceLeDiff,  f10, c25]
    refine (rgIs_any ⟨#[125]⟩ h8.rs).mono ?_
    rintro e w9 ⟨rfl, hB9⟩
    refine ⟨_, rfl, ?_⟩
    rw [hcl, show isX (.ok (T.drop a1)) (asc "}") = isWM (asc "}") (T.drop a1) from rfl]
    have h9 := h8.below hB9
    have K9 := K8.trans (hB9.mono (by have := h8.lt; omega))
    obtain ⟨f', rfl⟩ : ∃ f', f = f' + 1 := ⟨f - 1, by omega⟩
    cases hi : isWM (asc "}") (T.drop a1) with
    | true =>
      try simp +contextual (maxSteps := 2000000) (disch := first | omega | (simp only [SZ]; first | done | omega) | (simp only [TS] at *; omega)) only [RZ, ovw, oneC, reduceAdd, reduceMul, reduceSub, reduceEqDiff, reduceLT, ↓reduceIte, Int.reduceToNat, reduceLeDiff]
      refine hK3 _ _ ?_
      clear hK3 hX3 K3
      refine W_if_f rfl ?_
      rw [W_exit]
      refine hX2 _ _ _ (fun h => by cases h) ?_
      simp +contextual (maxSteps := 2000000) (disch := first | omega | (simp only [SZ]; first | done | omega) | (simp only [TS] at *; omega)) only [RZ, ovw, oneC, reduceAdd, reduceMul, reduceSub, reduceEqDiff, reduceLT, ↓reduceIte, Int.reduceToNat, reduceLeDiff,  f2, f10]
      refine ⟨K9, .inr ⟨a1, k, G, seen, Va, Vt, Vn, Vs, Q, h9, hlt1, hi, ?_⟩⟩
      have hk3 := of_decide_eq_true ((hW3 hlt1).symm.trans hi)
      rw [hG, gitems_stop (by omega)]
      rfl
    | false =>
      try simp +contextual (maxSteps := 2000000) (disch := first | omega | (simp only [SZ]; first | done | omega) | (simp only [TS] at *; omega)) only [RZ, ovw, oneC, reduceAdd, reduceMul, reduceSub, reduceEqDiff, reduceLT, ↓reduceIte, Int.reduceToNat, reduceLeDiff]
      refine hK3 _ _ ?_
      clear hK3 hX3 K3
      refine W_if_t rfl ?_
      rw [W_skip]
      refine hK2 _ _ ?_
      clear hK2 hX2 K2
      simp +contextual (maxSteps := 2000000) (disch := first | omega | (simp only [SZ]; first | done | omega) | (simp only [TS] at *; omega)) only [RZ, ovw, oneC, reduceAdd, reduceMul, reduceSub, reduceEqDiff, reduceLT, ↓reduceIte, Int.reduceToNat, reduceLeDiff,  f10]
      refine (rgItem_any h9 hlt1 (by have := hT.big; omega) hT hW).mono ?_
      rintro e wA ⟨⟨v, rfl⟩, hBA, hO⟩
      refine ⟨_, rfl, ?_⟩
      try simp +contextual (maxSteps := 2000000) (disch := first | omega | (simp only [SZ]; first | done | omega) | (simp only [TS] at *; omega)) only [RZ, ovw, oneC, reduceAdd, reduceMul, reduceSub, reduceEqDiff, reduceLT, ↓reduceIte, Int.reduceToNat, reduceLeDiff]
      have hm8 : erOf w8 g = 0 ∧ atOf w8 g = a1 := ⟨p8.erOf, p8.atOf⟩
      by_cases hk1 : (hdT (T.drop a1)).kind = 1
      · rw [gitems_step hk1] at hG
        cases hit : itemX (T.drop a1) G seen with
        | error y =>
          rw [hit] at hG hO
          obtain ⟨rest, hsA⟩ := hO
          refine hK _ _ ⟨?_, ?_, K9.trans hBA, .inl ⟨y, rest, hsA, hG⟩⟩ ?_
          · simp +contextual (maxSteps := 2000000) (disch := first | omega | (simp only [SZ]; first | done | omega) | (simp only [TS] at *; omega)) only [RZ, ovw, oneC, reduceAdd, reduceMul, reduceSub, reduceEqDiff, reduceLT, ↓reduceIte, Int.reduceToNat, reduceLeDiff,  f2]
          · simp +contextual (maxSteps := 2000000) (disch := first | omega | (simp only [SZ]; first | done | omega) | (simp only [TS] at *; omega)) only [RZ, ovw, oneC, reduceAdd, reduceMul, reduceSub, reduceEqDiff, reduceLT, ↓reduceIte, Int.reduceToNat, reduceLeDiff,  f10]
          · rw [if_neg (by rw [hsA.erOf]; exact hsA.err_ne), if_pos hm8.1]
            omega
        | ok y =>
          rw [hit] at hG hO
          obtain ⟨Va', Vt', Vn', Vs', Q', hA⟩ := hO
          obtain ⟨a2, e2, hlt2⟩ := hA.rs.at_
          have hlen := itemX_len (T := T) hT hlt1 hit
          rw [e2, List.length_drop] at hlen
          rw [e2] at hA
          obtain ⟨a9, er9, ln9, p9, hx9⟩ := hA.rs.cases
          rcases hx9 with ⟨rfl, hx9⟩ | ⟨_, _, hx9, _⟩
          rotate_left
          · cases hx9
          injection hx9 with hx9
          obtain rfl : a2 = a9 := drop_same hx9.symm hlt2 p9.lt
          refine hK _ _ ⟨?_, ?_, K9.trans hBA, .inr ⟨a2, k + 2, f', _, _, _, _, _, _, _, hA, hlt2, by omega, by omega, ?_⟩⟩ ?_
          · simp +contextual (maxSteps := 2000000) (disch := first | omega | (simp only [SZ]; first | done | omega) | (simp only [TS] at *; omega)) only [RZ, ovw, oneC, reduceAdd, reduceMul, reduceSub, reduceEqDiff, reduceLT, ↓reduceIte, Int.reduceToNat, reduceLeDiff,  f2]
          · simp +contextual (maxSteps := 2000000) (disch := first | omega | (simp only [SZ]; first | done | omega) | (simp only [TS] at *; omega)) only [RZ, ovw, oneC, reduceAdd, reduceMul, reduceSub, reduceEqDiff, reduceLT, ↓reduceIte, Int.reduceToNat, reduceLeDiff,  f10]
          · rw [hG, ← e2]; rfl
          · rw [if_pos p9.erOf, p9.atOf, if_pos hm8.1, hm8.2]
            omega
      · have hit : itemX (T.drop a1) G seen = .error (1, T.drop a1) := by unfold itemX; rw [item_unknown (fun h => hk1 h.1)]; rfl
        rw [hit] at hO
        obtain ⟨rest, hsA⟩ := hO
        have hGe : GT = .error (1, T.drop a1) := by
          rw [hG, gitems_stop hk1]
          show closeT _ = _
          unfold closeT
          have hni : isT 3 (asc "}") (T.drop a1) = none := isT_no fun h => by
            have := (hW3 hlt1).symm.trans hi
            exact absurd h (of_decide_eq_false this)
          dsimp only
          rw [hni]; rfl
        refine hK _ _ ⟨?_, ?_, K9.trans hBA, .inl ⟨_, rest, hsA, hGe⟩⟩ ?_
        · simp +contextual (maxSteps := 2000000) (disch := first | omega | (simp only [SZ]; first | done | omega) | (simp only [TS] at *; omega)) only [RZ, ovw, oneC, reduceAdd, reduceMul, reduceSub, reduceEqDiff, reduceLT, ↓reduceIte, Int.reduceToNat, reduceLeDiff,  f2]
        · simp +contextual (maxSteps := 2000000) (disch := first | omega | (simp only [SZ]; first | done | omega) | (simp only [TS] at *; omega)) only [RZ, ovw, oneC, reduceAdd, reduceMul, reduceSub, reduceEqDiff, reduceLT, ↓reduceIte, Int.reduceToNat, reduceLeDiff,  f10]
        · rw [if_neg (by rw [hsA.erOf]; exact hsA.err_ne), if_pos hm8.1]
          omega
  clear hL7
  rintro σ w8 ⟨f2, f10, K8, hS⟩
  -- the closing mark
  refine W_piece fun K hK hX => ?_
  refine W_cut (fun σ w9 => σ 2 = .pointer (some ⟨n, 0, none⟩) ∧ σ 10 = .pointer (some ⟨g, 0, none⟩) ∧ Below g w2 w9 ∧ ((∃ y rest, Rs w9 g (some ⟨gt, 0, none⟩) c T (.error y) rest ∧ GT = .error y) ∨ ∃ (a2 k : Nat) (G : Gm) (seen : List (List Nat)) (Va Vt Vn : Value) (Vs : List (List Value)) (Q : List ByteArray),
      RgSt w9 g g (some ⟨gt, 0, none⟩) c T (.ok (T.drop a2)) k G seen Va Vt Vn Vs Q ∧ a2 < T.length ∧ GT = if (hdT (T.drop a2)).kind = 0 then .ok (if asc "system" ∈ seen then G else { G with n := putN G.n 8 (G.n 2) }) else .error (1, T.drop a2))) ?_ ?_
  rotate_left
  · simp +contextual (maxSteps := 2000000) (disch := first | omega | (simp only [SZ]; first | done | omega) | (simp only [TS] at *; omega)) only [RZ, ovw, oneC, reduceAdd, reduceMul, reduceSub, reduceEqDiff, reduceLT, ↓reduceIte, Int.reduceToNat, reduceLeDiff,  f10]
    rcases hS with ⟨y, rest, hs8, hGe⟩ | ⟨a1, k, G, seen, Va, Vt, Vn, Vs, Q, h8, hlt1, hi, hG⟩
    · refine (rgNeed_any ⟨#[125]⟩ hT hs8).mono ?_
      rintro e w9 ⟨⟨v, rfl⟩, s9, k9⟩
      refine ⟨_, rfl, ?_⟩
      try simp +contextual (maxSteps := 2000000) (disch := first | omega | (simp only [SZ]; first | done | omega) | (simp only [TS] at *; omega)) only [RZ, ovw, oneC, reduceAdd, reduceMul, reduceSub, reduceEqDiff, reduceLT, ↓reduceIte, Int.reduceToNat, reduceLeDiff,  f2, f10, cutX_normal, cutX_ret, cutX_exit, cut2X_normal, cut2X_ret, cut2X_same, cut2X_ne]
      exact ⟨K8.trans ⟨k9.os, k9.tape, k9.output, k9.size, fun i hi => k9.block i (by have := K8.size; omega) (by simp; omega)⟩, .inl ⟨y, rest, s9, hGe⟩⟩
    · refine (rgNeed_any ⟨#[125]⟩ hT h8.rs).mono ?_
      rintro e w9 ⟨⟨v, rfl⟩, s9, k9⟩
      refine ⟨_, rfl, ?_⟩
      try simp +contextual (maxSteps := 2000000) (disch := first | omega | (simp only [SZ]; first | done | omega) | (simp only [TS] at *; omega)) only [RZ, ovw, oneC, reduceAdd, reduceMul, reduceSub, reduceEqDiff, reduceLT, ↓reduceIte, Int.reduceToNat, reduceLeDiff,  f2, f10, cutX_normal, cutX_ret, cutX_exit, cut2X_normal, cut2X_ret, cut2X_same, cut2X_ne]
      obtain ⟨n1, n2⟩ := isWM_end hT hlt1 hi
      rw [hcl, show bindT (.ok (T.drop a1)) (needX (asc "}")) = needX (asc "}") (T.drop a1) from rfl, needX, if_pos hi, n2] at s9
      refine ⟨K8.trans (h8.keptB k9 (by simp)), .inr ⟨a1 + 1, k, G, seen, Va, Vt, Vn, Vs, Q, h8.leaf k9 s9, n1, ?_⟩⟩
      rw [hG]
      unfold closeT
      have hd := of_decide_eq_true ((hW3 hlt1).symm.trans hi)
      dsimp only
      rw [isT_yes hd.1 hd.2, n2]
      rfl
  clear hS K8 f2 f10 σ
  rintro σ w9 ⟨f2, f10, K9, hS⟩
  refine hK _ _ ?_
  clear hK hX K
  -- the end
  refine W_cutS (fun σ w9 => σ 2 = .pointer (some ⟨n, 0, none⟩) ∧ σ 10 = .pointer (some ⟨g, 0, none⟩) ∧ Below g w2 w9 ∧ ((∃ y rest, Rs w9 g (some ⟨gt, 0, none⟩) c T (.error y) rest ∧ GT = .error y) ∨ ∃ (a2 k : Nat) (G : Gm) (seen : List (List Nat)) (Va Vt Vn : Value) (Vs : List (List Value)) (Q : List ByteArray),
      RgSt w9 g g (some ⟨gt, 0, none⟩) c T (.ok (T.drop a2)) k G seen Va Vt Vn Vs Q ∧ GT = .ok (if asc "system" ∈ seen then G else { G with n := putN G.n 8 (G.n 2) }))) ?_ ?_
  rotate_left
  · refine W_piece fun K hK hX => ?_
    simp +contextual (maxSteps := 2000000) (disch := first | omega | (simp only [SZ]; first | done | omega) | (simp only [TS] at *; omega)) only [RZ, ovw, oneC, reduceAdd, reduceMul, reduceSub, reduceEqDiff, reduceLT, ↓reduceIte, Int.reduceToNat, reduceLeDiff]
    refine Raw_still MX (by kernel_rfl) ?_
    rcases hS with ⟨y, rest, hs9, hGe⟩ | ⟨a2, k, G, seen, Va, Vt, Vn, Vs, Q, h9, hlt2, hG⟩
    · have hsd := hs9.kept (X := []) (Kept.refl _ _).drew (by simp) (by simp)
      obtain ⟨a8, er8, ln8, p8, hx8⟩ := hsd.cases
      rcases hx8 with ⟨_, hx8⟩ | ⟨hne, L, hx8, hl⟩
      · cases hx8
      have c25 := p8.c25
      have e1 : (er8 = 0) = False := eq_false hne
      have Kd := below_drew K9
      generalize w9.drew = wA at *
      simp +contextual (maxSteps := 2000000) (disch := first | omega | (simp only [SZ]; first | done | omega) | (simp only [TS] at *; omega)) only [RZ, ovw, oneC, reduceAdd, reduceMul, reduceSub, reduceEqDiff, reduceLT, ↓reduceIte, Int.reduceToNat, reduceLeDiff,  f10, c25, e1]
      refine hK _ _ ?_
      clear hK hX K
      refine W_if_f rfl ?_
      simp +contextual (maxSteps := 2000000) (disch := first | omega | (simp only [SZ]; first | done | omega) | (simp only [TS] at *; omega)) only [RZ, ovw, oneC, reduceAdd, reduceMul, reduceSub, reduceEqDiff, reduceLT, ↓reduceIte, Int.reduceToNat, reduceLeDiff,  f2, f10]
      exact ⟨Kd, .inl ⟨y, rest, hsd, hGe⟩⟩
    · have hd := h9.leaf (w' := w9.drew) (Kept.refl [g] w9).drew (h9.rs.kept (X := []) (Kept.refl [] w9).drew (by simp) (by simp))
      obtain ⟨a8, er8, ln8, p8, hx8⟩ := hd.rs.cases
      rcases hx8 with ⟨rfl, hx8⟩ | ⟨_, _, hx8, _⟩
      rotate_left
      · cases hx8
      injection hx8 with hx8
      obtain rfl : a2 = a8 := drop_same hx8.symm hlt2 p8.lt
      have c25 := p8.c25
      have c0 := p8.c0
      have c1 := p8.c1
      obtain ⟨b', o', e', hb4, hbg4, l0, l1, l2, l3⟩ := p8.tok
      injection e' with e'
      injection e' with e' e''
      subst e' e''
      rw [Nat.zero_add] at l0
      have hbig := hT.big
      have Kd := below_drew K9
      generalize w9.drew = wA at *
      simp +contextual (maxSteps := 2000000) (disch := first | omega | (simp only [SZ]; first | done | omega) | (simp only [TS] at *; omega)) only [RZ, ovw, oneC, reduceAdd, reduceMul, reduceSub, reduceEqDiff, reduceLT, ↓reduceIte, Int.reduceToNat, reduceLeDiff,  f10, c25, c0, c1, l0]
      refine hK _ _ ?_
      clear hK hX K
      by_cases hk0 : (hdT (T.drop a2)).kind = 0
      · have e1 : ((hdT (T.drop a2)).kind = 0) = True := eq_true hk0
        rw [if_pos hk0] at hG
        refine W_if_f (by simp +contextual (maxSteps := 2000000) (disch := first | omega | (simp only [SZ]; first | done | omega) | (simp only [TS] at *; omega)) only [RZ, ovw, oneC, reduceAdd, reduceMul, reduceSub, reduceEqDiff, reduceLT, ↓reduceIte, Int.reduceToNat, reduceLeDiff,  e1]) ?_
        simp +contextual (maxSteps := 2000000) (disch := first | omega | (simp only [SZ]; first | done | omega) | (simp only [TS] at *; omega)) only [RZ, ovw, oneC, reduceAdd, reduceMul, reduceSub, reduceEqDiff, reduceLT, ↓reduceIte, Int.reduceToNat, reduceLeDiff,  f2, f10]
        exact ⟨Kd, .inr ⟨a2, k, G, seen, Va, Vt, Vn, Vs, Q, hd, hG⟩⟩
      · have e1 : ((hdT (T.drop a2)).kind = 0) = False := eq_false hk0
        rw [if_neg hk0] at hG
        refine W_if_t (by simp +contextual (maxSteps := 2000000) (disch := first | omega | (simp only [SZ]; first | done | omega) | (simp only [TS] at *; omega)) only [RZ, ovw, oneC, reduceAdd, reduceMul, reduceSub, reduceEqDiff, reduceLT, ↓reduceIte, Int.reduceToNat, reduceLeDiff,  e1]) ?_
        simp +contextual (maxSteps := 2000000) (disch := first | omega | (simp only [SZ]; first | done | omega) | (simp only [TS] at *; omega)) only [RZ, ovw, oneC, reduceAdd, reduceMul, reduceSub, reduceEqDiff, reduceLT, ↓reduceIte, Int.reduceToNat, reduceLeDiff,  f10]
        refine (rgFail_any 1 (by decide) hd.rs).mono ?_
        rintro e wB ⟨⟨v, rfl⟩, sB, kB⟩
        refine ⟨_, rfl, ?_⟩
        try simp +contextual (maxSteps := 2000000) (disch := first | omega | (simp only [SZ]; first | done | omega) | (simp only [TS] at *; omega)) only [RZ, ovw, oneC, reduceAdd, reduceMul, reduceSub, reduceEqDiff, reduceLT, ↓reduceIte, Int.reduceToNat, reduceLeDiff,  f2, f10]
        exact ⟨Kd.trans (hd.keptB kB (by simp)), .inl ⟨_, _, sB, hG⟩⟩
  clear hS K9 f2 f10 σ w9
  rintro σ w9 ⟨f2, f10, K9, hS⟩
  have hF9 : Below n w w9 := hf2.trans (K9.mono (by have := hf2.size; omega))
  have r9 : Row w9 n 26 _ := r2.of_block (K9.block n (by omega))
  rcases hS with ⟨y, rest, hs9, hGe⟩ | ⟨a2, k, G, seen, Va, Vt, Vn, Vs, Q, h9, hG⟩
  · obtain ⟨a8, er8, ln8, p8, hx8⟩ := hs9.cases
    rcases hx8 with ⟨_, hx8⟩ | ⟨hne, L, hx8, hl⟩
    · cases hx8
    injection hx8 with hx8
    subst hx8
    have c25 := p8.c25
    have e1 : (er8 = 0) = False := eq_false hne
    refine W_pieceP (fun _ _ _ h => h) fun K hK hX hP => ?_
    refine W_piece fun K2 hK2 hX2 => ?_
    simp +contextual (maxSteps := 2000000) (disch := first | omega | (simp only [SZ]; first | done | omega) | (simp only [TS] at *; omega)) only [RZ, ovw, oneC, reduceAdd, reduceMul, reduceSub, reduceEqDiff, reduceLT, ↓reduceIte, Int.reduceToNat, reduceLeDiff,  f10, c25, e1]
    refine hK2 _ _ ?_
    clear hK2 hX2 K2
    refine W_if_t rfl ?_
    refine W_pieceP hP fun K2 hK2 hX2 hP2 => ?_
    simp +contextual (maxSteps := 2000000) (disch := first | omega | (simp only [SZ]; first | done | omega) | (simp only [TS] at *; omega)) only [RZ, ovw, oneC, reduceAdd, reduceMul, reduceSub, reduceEqDiff, reduceLT, ↓reduceIte, Int.reduceToNat, reduceLeDiff,  f2, f10]
    have c26 := p8.c26
    have hgn : n ≠ g := by omega
    have rD : Row w9.drew n 26 [Value.string ByteArray.empty, .int .i64 0, .int .i64 0, .int .i64 0, .int .i64 0, .int .i64 0, .int .i64 0, .int .i64 0, .int .i64 0, .int .i64 0, .int .i64 0, .int .i64 0, .int .i64 0, .int .i64 0, .int .i64 0, .int .i64 0, .int .i64 0, .int .i64 0, .int .i64 0, .int .i64 0, .slice none 0 0, .slice none 0 0] := r9
    have st := store_gm (G := noGm) (Va := .slice none 0 0) (Vt := .slice none 0 0) rD rfl rfl rfl
    change vStore Tryz.prog 26 (.pointer (some ⟨n, 0, none⟩)) (.agg #[Value.string ByteArray.empty, .int .i64 0, .int .i64 0, .int .i64 0, .int .i64 0, .int .i64 0, .int .i64 0, .int .i64 0, .int .i64 0, .int .i64 0, .int .i64 0, .int .i64 0, .int .i64 0, .int .i64 0, .int .i64 0, .int .i64 0, .int .i64 0, .int .i64 0, .int .i64 0, .int .i64 0, .slice none 0 0, .slice none 0 0]) w9.drew = .ok .skip (stW n 0 zeroGm w9.drew) at st
    have kA := stW_kept (X := [n]) (g := n) (by simp) zeroGm 0 w9.drew w9.drew (Kept.refl _ _)
    have pD := p8.drew
    have pS : PrIn (stW n 0 zeroGm w9.drew) g _ _ _ _ _ _ _ := pD.kept kA (by simp; omega) (fun b o e => by injection e with e; injection e with e; simp; omega)
    refine Raw_rcS (τ := ?te) (fun w' => w'.cell? ⟨g, 25, none⟩ = some (.int .i64 er8) ∧ w'.cell? ⟨g, 26, none⟩ = some (.int .i64 ln8)) [0, 1, 2, 3, 4, 5, 6, 7, 8] [9, 10, 11] MX rfl (by kernel_rfl) (by kernel_rfl) (by kernel_rfl) hP2 ⟨c25, c26⟩ (fun w8 h8 => ?_) ?_; rotate_left
    · simp only [opsL_cons, opsL_nil, List.getElem?_toArray, List.getElem?_cons_zero, List.getElem?_cons_succ, optL_some]
      simp +contextual (maxSteps := 2000000) (disch := first | omega | (simp only [SZ]; first | done | omega) | (simp only [TS] at *; omega)) only [RZ, ovw, oneC, reduceAdd, reduceMul, reduceSub, reduceEqDiff, reduceLT, ↓reduceIte, Int.reduceToNat, reduceLeDiff,  f2, f10, h8.1, h8.2]
      exact rfl
    simp only [opsL_cons, opsL_nil, List.getElem?_toArray, List.getElem?_cons_zero, List.getElem?_cons_succ, optL_some]
    have r2' : Row (stW n 0 zeroGm w9.drew) n 26 (gmV noGm (.slice none 0 0) (.slice none 0 0)) := stW_gm rD rfl
    have l2 := load_game r2'
    simp +contextual (maxSteps := 2000000) (disch := first | omega | (simp only [SZ]; first | done | omega) | (simp only [TS] at *; omega)) only [RZ, ovw, oneC, reduceAdd, reduceMul, reduceSub, reduceEqDiff, reduceLT, ↓reduceIte, Int.reduceToNat, reduceLeDiff,  EC_op, EC_nil, f2, st]
    have hFA : Below n w (stW n 0 zeroGm w9.drew) := (below_drew hF9).trans ⟨kA.os, kA.tape, kA.output, kA.size, fun i hi => kA.block i (by have := hF9.size; show i < w9.heap.size; omega) (by simp; omega)⟩
    have s25 := pS.c25
    have s26 := pS.c26
    generalize stW n 0 zeroGm w9.drew = wB at *
    refine ⟨⟨s25, s26⟩, ⟨s25, s26⟩, ⟨s25, s26⟩, ?_⟩
    refine hK2 _ _ ?_
    clear hK2 hX2 hP2 K2
    rw [W_ret]
    refine hX _ _ _ (fun h => by cases h) ?_
    simp +contextual (maxSteps := 2000000) (disch := first | omega | (simp only [SZ]; first | done | omega) | (simp only [TS] at *; omega)) only [RZ, ovw, oneC, reduceAdd, reduceMul, reduceSub, reduceEqDiff, reduceLT, ↓reduceIte, Int.reduceToNat, reduceLeDiff,  f2, l2]
    rw [hGe] at hR
    dsimp only at hR
    subst hR
    exact ⟨hFA, _, _, by rw [hl], GmIn.nil _⟩
  · rw [hG] at hR
    dsimp only at hR
    subst hR
    obtain ⟨a8, er8, ln8, p8, hx8⟩ := h9.rs.cases
    rcases hx8 with ⟨rfl, hx8⟩ | ⟨_, _, hx8, _⟩
    rotate_left
    · cases hx8
    have c25 := p8.c25
    refine W_piece fun K hK hX => ?_
    refine W_piece fun K2 hK2 hX2 => ?_
    simp +contextual (maxSteps := 2000000) (disch := first | omega | (simp only [SZ]; first | done | omega) | (simp only [TS] at *; omega)) only [RZ, ovw, oneC, reduceAdd, reduceMul, reduceSub, reduceEqDiff, reduceLT, ↓reduceIte, Int.reduceToNat, reduceLeDiff,  f10, c25]
    refine hK2 _ _ ?_
    clear hK2 hX2 K2
    refine W_if_f rfl ?_
    rw [W_skip]
    refine hK _ _ ?_
    clear hK hX K
    obtain ⟨Sn, cn, rfl⟩ := owns_slice h9.nown
    have hQ := owns_strs h9.nown
    refine W_cutS (fun σ wA => σ 2 = .pointer (some ⟨n, 0, none⟩) ∧ σ 10 = .pointer (some ⟨g, 0, none⟩) ∧ Below g w2 wA ∧ ∃ (a2 : Nat) (Vn : Value), RgSt wA g g (some ⟨gt, 0, none⟩) c T (.ok (T.drop a2)) k (if asc "system" ∈ seen then G else { G with n := putN G.n 8 (G.n 2) }) seen Va Vt Vn Vs Q) ?_ ?_
    rotate_left
    · refine W_piece fun K hK hX => ?_
      simp +contextual (maxSteps := 2000000) (disch := first | omega | (simp only [SZ]; first | done | omega) | (simp only [TS] at *; omega)) only [RZ, ovw, oneC, reduceAdd, reduceMul, reduceSub, reduceEqDiff, reduceLT, ↓reduceIte, Int.reduceToNat, reduceLeDiff,  f10]
      refine (rgHas_any ⟨#[115, 121, 115, 116, 101, 109]⟩ p8 rfl hQ (by have := h9.few.2.2; have := h9.kbig; omega)).mono ?_
      rintro e wA ⟨rfl, rfl⟩
      refine ⟨_, rfl, ?_⟩
      rw [show bs ⟨#[115, 121, 115, 116, 101, 109]⟩ = asc "system" by decide +kernel]
      try simp +contextual (maxSteps := 2000000) (disch := first | omega | (simp only [SZ]; first | done | omega) | (simp only [TS] at *; omega)) only [RZ, ovw, oneC, reduceAdd, reduceMul, reduceSub, reduceEqDiff, reduceLT, ↓reduceIte, Int.reduceToNat, reduceLeDiff]
      refine hK _ _ ?_
      clear hK hX K
      by_cases hsy : asc "system" ∈ seen
      · rw [decide_eq_true ((h9.qs _).1 hsy)]
        simp only [if_pos hsy]
        refine W_if_f rfl ?_
        simp +contextual (maxSteps := 2000000) (disch := first | omega | (simp only [SZ]; first | done | omega) | (simp only [TS] at *; omega)) only [RZ, ovw, oneC, reduceAdd, reduceMul, reduceSub, reduceEqDiff, reduceLT, ↓reduceIte, Int.reduceToNat, reduceLeDiff,  f2, f10]
        exact ⟨K9, a2, _, h9⟩
      · rw [decide_eq_false (fun h => hsy ((h9.qs _).2 h))]
        simp only [if_neg hsy]
        refine W_if_t rfl ?_
        have z5 := h9.cellN (i := 2) (by decide)
        have z11 := h9.cellN (i := 8) (by decide)
        have z11z : w9.frozen? ⟨g, 11, none⟩ = false := p8.row.frozen 11
        simp +contextual (maxSteps := 2000000) (disch := first | omega | (simp only [SZ]; first | done | omega) | (simp only [TS] at *; omega)) only [RZ, ovw, oneC, reduceAdd, reduceMul, reduceSub, reduceEqDiff, reduceLT, ↓reduceIte, Int.reduceToNat, reduceLeDiff,  f2, f10, z5, z11, z11z]
        exact ⟨K9.setCell (p := ⟨g, 11, none⟩) (Nat.le_refl _) _, a2, _, h9.setN (i := 8) (by decide) (G.n 2) (fun _ => by decide)⟩
    clear f2 f10 σ K9 hF9 r9 p8 c25 h9 hx8 hQ
    rintro σ wA ⟨f2, f10, KA, a9, Vn9, hA⟩
    generalize (if asc "system" ∈ seen then G else { G with n := putN G.n 8 (G.n 2) }) = G' at *
    have hFA : Below n w wA := hf2.trans (KA.mono (by have := hf2.size; omega))
    have rA : Row wA n 26 _ := r2.of_block (KA.block n (by omega))
    obtain ⟨hv1, hv2⟩ := hA.one
    obtain ⟨a5, er5, ln5, p5, pl5⟩ := id hA.rs
    have lG : vLoad Tryz.prog 26 (.pointer (some ⟨g, 2, none⟩)) wA = .ok (.value (.agg (gmV G' Va Vt).toArray)) wA :=
      vLoad_all (by kernel_rfl) (by rw [gmV_len]; kernel_rfl) (fun i v hv => by
        rw [Nat.add_comm]
        refine p5.cR ?_
        rw [List.getElem?_append_left (List.getElem?_eq_some_iff.1 hv).1]
        exact hv)
    have st := store_gm (G := G') (Va := Va) (Vt := Vt) rA rfl hv1 hv2
    have r2' : Row (stW n 0 (gmV G' Va Vt) wA) n 26 (gmV G' Va Vt) := stW_gm rA rfl
    have l2 := load_game r2'
    have kB := stW_kept (X := [n]) (g := n) (by simp) (gmV G' Va Vt) 0 wA wA (Kept.refl _ _)
    have hgm := hA.game (w' := stW n 0 (gmV G' Va Vt) wA) (fun k h1 h2 => kB.block k h2 (by simp; omega))
    have hFB : Below n w (stW n 0 (gmV G' Va Vt) wA) := hFA.trans ⟨kB.os, kB.tape, kB.output, kB.size, fun i hi => kB.block i (by have := hFA.size; omega) (by simp; omega)⟩
    generalize hag : Value.agg (gmV G' Va Vt).toArray = AG at *
    refine W_piece fun K hK hX => ?_
    simp +contextual (maxSteps := 2000000) (disch := first | omega | (simp only [SZ]; first | done | omega) | (simp only [TS] at *; omega)) only [RZ, ovw, oneC, reduceAdd, reduceMul, reduceSub, reduceEqDiff, reduceLT, ↓reduceIte, Int.reduceToNat, reduceLeDiff,  f2, f10, lG, st]
    generalize stW n 0 (gmV G' Va Vt) wA = wB at *
    refine hK _ _ ?_
    clear hK hX K
    simp +contextual (maxSteps := 2000000) (disch := first | omega | (simp only [SZ]; first | done | omega) | (simp only [TS] at *; omega)) only [RZ, ovw, oneC, reduceAdd, reduceMul, reduceSub, reduceEqDiff, reduceLT, ↓reduceIte, Int.reduceToNat, reduceLeDiff,  f2, l2]
    exact ⟨hFB, _, _, by rw [hag], hgm⟩
end Go.Proofs.YtbdkggnajipdhaaGreatDoor
/- Plain: chapter 11, what was read is small. No program in sight. -/
namespace Go.Proofs.YtbdkggnajipdhaaGreatDoor
theorem nx_suf (L : List Tk) : nxT L <:+ L := by
  match L with
  | [] => exact List.suffix_refl _
  | [_] => exact List.suffix_refl _
  | a :: b :: r => exact List.suffix_cons a (b :: r)
theorem num_suf {L : List Tk} {x : Int × List Tk} (h : numT L = some x) : x.2 <:+ L := by rw [(num_some (x := x.1) (L' := x.2) h).2.2.2]; exact nx_suf L
theorem is_suf {k : Int} {w : List Nat} {L L' : List Tk} (h : isT k w L = some L') : L' <:+ L := by rw [(is_some h).2.2]; exact nx_suf L
theorem nums_suf : ∀ (f : Nat) (L : List Tk), (numsT f L).2 <:+ L ∧ (numsT f L).1.length ≤ f
  | 0, L => ⟨List.suffix_refl _, Nat.le_refl _⟩
  | f + 1, L => by
    unfold numsT
    cases h : numT L with
    | none => exact ⟨List.suffix_refl _, Nat.zero_le _⟩
    | some a => exact ⟨(nums_suf f a.2).1.trans (num_suf h), by simp only [List.length_cons]; have := (nums_suf f a.2).2; omega⟩
theorem pair_suf {L L' : List Tk} {x : Int × Int} (h : pairT L = .ok (x, L')) : L' <:+ L := by
  unfold pairT at h
  obtain ⟨y, h1, h⟩ := then_ok h
  obtain ⟨L2, h2, h⟩ := then_ok h
  obtain ⟨z, h3, h⟩ := then_ok h
  injection h with h
  injection h with _ h
  subst h
  exact ((num_suf h3).trans (is_suf h2)).trans (num_suf h1)
theorem less_suf {m : Int} {L : List Tk} {x : Int × List Tk} (h : lessT m L = some x) : x.2 <:+ L := by
  unfold lessT at h
  cases hn : numT L with
  | none => rw [hn] at h; cases h
  | some y =>
    rw [hn] at h
    dsimp only at h
    split at h
    · injection h with h; subst h; exact num_suf hn
    · cases h
theorem days_suf : ∀ (f : Nat) (L : List Tk) (d : Nat) (x : Nat × List Tk), daysT f L d = .ok x → x.2 <:+ L
  | 0, L, d, x, h => by cases h
  | f + 1, L, d, x, h => by
    unfold daysT at h
    split at h
    · injection h with h; subst h; exact nx_suf L
    · split at h
      · cases h
      · cases hd : dayI (bs (hdT L).text) with
        | none => rw [hd] at h; cases h
        | some i =>
          rw [hd] at h
          dsimp only at h
          split at h
          · cases h
          · exact (days_suf f _ _ x h).trans (nx_suf L)
theorem day_suf {L L' : List Tk} {x : Int × Int} (h : dayT L = .ok (x, L')) : L' <:+ L := by
  unfold dayT at h
  obtain ⟨d, h0, h⟩ := bind_ok h
  obtain ⟨y, h1, h⟩ := then_ok h
  obtain ⟨L2, h2, h⟩ := then_ok h
  obtain ⟨z, h3, h⟩ := then_ok h
  injection h with h
  injection h with _ h
  subst h
  exact (((less_suf h3).trans (is_suf h2)).trans (less_suf h1)).trans (days_suf _ _ _ _ h0)
theorem hit_suf {w : List Nat} {L : List Tk} {x : Int × List Tk} (h : hitT w L = .ok x) : x.2 <:+ L := by
  unfold hitT at h
  cases hq : isT 1 w L with
  | none => rw [hq] at h; injection h with h; subst h; exact List.suffix_refl _
  | some L1 =>
    rw [hq] at h
    obtain ⟨y, h1, h⟩ := then_ok h
    injection h with h
    subst h
    exact (num_suf h1).trans (is_suf hq)
theorem mode_suf {L : List Tk} {x : (Int × Int × Int × Int) × List Tk} (h : modeT L = .ok x) : x.2 <:+ L := by
  unfold modeT at h
  cases h1 : isT 1 (asc "exact") L with
  | some L1 => rw [h1] at h; injection h with h; subst h; exact is_suf h1
  | none =>
  rw [h1] at h
  cases h2 : isT 1 (asc "box") L with
  | some L1 => rw [h2] at h; injection h with h; subst h; exact is_suf h2
  | none =>
  rw [h2] at h
  cases h3 : isT 1 (asc "front") L with
  | some L1 =>
    rw [h3] at h
    obtain ⟨y, e1, h⟩ := then_ok h
    injection h with h; subst h
    exact (num_suf e1).trans (is_suf h3)
  | none =>
  rw [h3] at h
  cases h4 : isT 1 (asc "back") L with
  | some L1 =>
    rw [h4] at h
    obtain ⟨y, e1, h⟩ := then_ok h
    injection h with h; subst h
    exact (num_suf e1).trans (is_suf h4)
  | none =>
  rw [h4] at h
  obtain ⟨y1, e1, h⟩ := bind_ok h
  obtain ⟨y2, e2, h⟩ := bind_ok h
  obtain ⟨y3, e3, h⟩ := bind_ok h
  injection h with h; subst h
  exact ((hit_suf e3).trans (hit_suf e2)).trans (hit_suf e1)
theorem tier_suf {L : List Tk} {x : Ti × List Tk} (h : tierT L = .ok x) : x.2 <:+ L := by
  unfold tierT at h
  obtain ⟨m, e1, h⟩ := bind_ok h
  have s1 := mode_suf e1
  split at h
  · cases h
  · cases hp : prizeK (bs (hdT m.2).text) with
    | none => rw [hp] at h; cases h
    | some k =>
      rw [hp] at h
      obtain ⟨v, e2, h⟩ := then_ok h
      injection h with h; subst h
      exact ((num_suf e2).trans (nx_suf m.2)).trans s1
theorem hd_size {M : Nat} {L : List Tk} (h : ∀ t ∈ L, t.text.size ≤ M) : (hdT L).text.size ≤ M := by
  cases L with
  | nil => exact Nat.zero_le _
  | cons t r => exact h t (by simp)
theorem suf_all {P : Tk → Prop} {L L' : List Tk} (h : L' <:+ L) (hp : ∀ t ∈ L, P t) : ∀ t ∈ L', P t := fun t ht => hp t (h.mem ht)
theorem addon_suf {L : List Tk} {x : Ad × List Tk} (h : addonT L = .ok x) : x.2 <:+ L ∧ x.1.name = (hdT L).text ∧ x.1.factors.length ≤ L.length ∧ x.1.serials.length ≤ L.length := by
  unfold addonT at h
  have n1 := nx_suf L
  have n2 := nx_suf (nxT L)
  split at h
  · cases h
  · split at h
    · cases h
    · split at h
      · obtain ⟨v, e2, h⟩ := then_ok h
        injection h with h; subst h
        have s := (num_suf e2).trans (n2.trans n1)
        have s2 := nums_suf v.2.length v.2
        exact ⟨s2.1.trans s, rfl, Nat.le_trans s2.2 s.length_le, Nat.zero_le _⟩
      · split at h
        · obtain ⟨v, e2, h⟩ := then_ok h
          obtain ⟨u, e3, h⟩ := then_ok h
          injection h with h; subst h
          have s := (num_suf e3).trans ((num_suf e2).trans (n2.trans n1))
          have s2 := nums_suf u.2.length u.2
          exact ⟨s2.1.trans s, rfl, Nat.zero_le _, Nat.le_trans s2.2 s.length_le⟩
        · cases h
/-- A game that is at most as large as K, M and N say. -/
def Fit (M N K : Nat) (G : Gm) : Prop := G.name.size ≤ M ∧ G.addons.length ≤ K ∧ G.tiers.length ≤ K ∧ ∀ a ∈ G.addons, a.name.size ≤ M ∧ a.factors.length ≤ N ∧ a.serials.length ≤ N
theorem item_fit {M N K : Nat} {L : List Tk} {G : Gm} {seen : List (List Nat)} {x : (Gm × List (List Nat)) × List Tk} (hM : ∀ t ∈ L, t.text.size ≤ M) (hN : L.length ≤ N) (hG : Fit M N K G) (h : itemG L G seen = .ok x) : x.2 <:+ L ∧ Fit M N (K + 1) x.1.1 := by
  have hG1 : ∀ n, Fit M N (K + 1) { G with n := n } := fun n => ⟨hG.1, Nat.le_succ_of_le hG.2.1, Nat.le_succ_of_le hG.2.2.1, hG.2.2.2⟩
  have n1 := nx_suf L
  unfold itemG at h
  split at h
  · cases h
  split at h
  · split at h
    · cases h
    · obtain ⟨y, e, h⟩ := bind_ok h
      injection h with h; subst h
      exact ⟨(pair_suf e).trans n1, hG1 _⟩
  split at h
  · split at h
    · cases h
    · obtain ⟨y, e, h⟩ := bind_ok h
      injection h with h; subst h
      exact ⟨(pair_suf e).trans n1, hG1 _⟩
  split at h
  · split at h
    · cases h
    · obtain ⟨y, e, h⟩ := bind_ok h
      injection h with h; subst h
      exact ⟨(day_suf e).trans n1, hG1 _⟩
  split at h
  · obtain ⟨y, e, h⟩ := bind_ok h
    injection h with h; subst h
    obtain ⟨s1, s2, s3, s4⟩ := addon_suf e
    have hl := n1.length_le
    refine ⟨s1.trans n1, hG.1, by simp only [List.length_append, List.length_singleton]; have := hG.2.1; omega, Nat.le_succ_of_le hG.2.2.1, fun a ha => ?_⟩
    rcases List.mem_append.1 ha with ha | ha
    · exact hG.2.2.2 a ha
    · rw [List.mem_singleton.1 ha, s2]
      exact ⟨hd_size (suf_all n1 hM), by omega, by omega⟩
  split at h
  · obtain ⟨y, e, h⟩ := bind_ok h
    injection h with h; subst h
    exact ⟨(tier_suf e).trans n1, hG.1, Nat.le_succ_of_le hG.2.1, by simp only [List.length_append, List.length_singleton]; have := hG.2.2.1; omega, hG.2.2.2⟩
  · cases hs : simpleI (bs (hdT L).text) with
    | none => rw [hs] at h; cases h
    | some i =>
      rw [hs] at h
      dsimp only at h
      split at h
      · cases h
      · obtain ⟨y, e, h⟩ := then_ok h
        injection h with h; subst h
        exact ⟨(num_suf e).trans n1, hG1 _⟩
theorem gitems_fit {M N : Nat} : ∀ (f K : Nat) (L : List Tk) (G : Gm) (seen : List (List Nat)) (x : (Gm × List (List Nat)) × List Tk), (∀ t ∈ L, t.text.size ≤ M) → L.length ≤ N → Fit M N K G → gitemsT f L G seen = .ok x → Fit M N (K + f) x.1.1
  | 0, K, L, G, seen, x, _, _, _, h => by cases h
  | f + 1, K, L, G, seen, x, hM, hN, hG, h => by
    unfold gitemsT at h
    split at h
    · obtain ⟨y, e1, h⟩ := bind_ok h
      obtain ⟨L2, e2, h⟩ := then_ok h
      obtain ⟨s1, g1⟩ := item_fit hM hN hG e1
      have s2 := (is_suf e2).trans s1
      have := gitems_fit f (K + 1) L2 _ _ x (suf_all s2 hM) (Nat.le_trans s2.length_le hN) g1 h
      rw [show K + (f + 1) = K + 1 + f by omega]
      exact this
    · injection h with h
      subst h
      exact ⟨hG.1, Nat.le_trans hG.2.1 (by omega), Nat.le_trans hG.2.2.1 (by omega), hG.2.2.2⟩
theorem game_fit {M N : Nat} {L : List Tk} {G : Gm} (hM : ∀ t ∈ L, t.text.size ≤ M) (hN : L.length ≤ N) (h : gameT L = .ok G) : Fit M N N G := by
  unfold gameT at h
  obtain ⟨L1, e1, h⟩ := then_ok h
  split at h
  · cases h
  obtain ⟨L3, e3, h⟩ := then_ok h
  obtain ⟨y, e4, h⟩ := bind_ok h
  have s1 := is_suf e1
  have s3 := ((is_suf e3).trans (nx_suf L1)).trans s1
  have := gitems_fit L3.length 0 L3 (gm0 (hdT L1).text) [] y (suf_all s3 hM) (Nat.le_trans s3.length_le hN) ⟨hd_size (suf_all s1 hM), Nat.le_refl _, Nat.le_refl _, fun a ha => by cases ha⟩ e4
  rw [Nat.zero_add] at this
  have hl := Nat.le_trans s3.length_le hN
  unfold closeT at h
  obtain ⟨L5, e5, h⟩ := then_ok h
  split at h
  · injection h with h
    have hy : Fit M N N y.1.1 := ⟨this.1, Nat.le_trans this.2.1 hl, Nat.le_trans this.2.2.1 hl, this.2.2.2⟩
    rw [← h]
    split
    · exact hy
    · exact hy
  · cases h
theorem parse_little (s : ByteArray) : (parseG s).1.little := by
  unfold parseG
  split
  · exact ⟨Nat.zero_le _, Nat.zero_le _, Nat.zero_le _, fun a ha => by cases ha⟩
  split
  · exact ⟨Nat.zero_le _, Nat.zero_le _, Nat.zero_le _, fun a ha => by cases ha⟩
  · rename_i h3 h0
    obtain ⟨hT, _⟩ := scan_tokOk (s := s) (Classical.byContradiction fun h => h0 h)
    cases hg : gameT (scanE s).2.2 with
    | ok G => exact game_fit hT.szs hT.big hg
    | error e => exact ⟨Nat.zero_le _, Nat.zero_le _, Nat.zero_le _, fun a ha => by cases ha⟩
end Go.Proofs.YtbdkggnajipdhaaGreatDoor
