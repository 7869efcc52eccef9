/- Texts laid one behind the other: LexL, DkT, DkU, DkV, DkW, DkX, DkY, DkZ. Each says at its head what it proves. -/
import Derived.Test.YtcnlopjjejdahaaDoorY04
import Derived.Lib.ItoaLen
set_option linter.unusedSimpArgs false
/- Plain: laws of the scanner: blanks, line feeds, shifts, what its tokens are. No program in sight. -/
namespace Go.Proofs.YtcnlopjjejdahaaDoor
theorem spn_cons_pos {q : Nat → Bool} {c : Nat} {r : List Nat} (h : q c = true) : spn q (c :: r) = spn q r + 1 := by unfold spn; rw [List.takeWhile_cons_of_pos h]; rfl
theorem spn_cons_neg {q : Nat → Bool} {c : Nat} {r : List Nat} (h : q c = false) : spn q (c :: r) = 0 := by unfold spn; rw [List.takeWhile_cons_of_neg (by rw [h]; simp)]; rfl
/-- One blank is passed. -/
theorem blank_one {c : Nat} (h : blankB c = true) (l : List Nat) (at_ : Nat) : lexR at_ (c :: l) = lexR (at_ + 1) l := by
  have hp : piece (c :: l) = (0, spn blankB l + 1) := by rw [piece, if_pos h, spn_cons_pos h]
  rw [lexR_cons, hp, if_neg (by simp), if_pos rfl]
  simp only [List.drop_succ_cons]
  cases l with
  | nil => simp [spn, lexR_nil]
  | cons d r =>
    by_cases hd : blankB d = true
    · have hp2 : piece (d :: r) = (0, spn blankB (d :: r)) := by rw [piece, if_pos hd]
      have := spn_pos (r := r) hd
      rw [lexR_cons (at_ + 1), hp2, if_neg (by simp only; omega), if_pos rfl]
      simp only
      rw [show at_ + (spn blankB (d :: r) + 1) = at_ + 1 + spn blankB (d :: r) from by omega]
    · rw [spn_cons_neg (by simpa using hd)]; simp
/-- A remark is passed. -/
theorem hash_one (r : List Nat) (at_ : Nat) : lexR at_ (35 :: r) = lexR (at_ + spn remB (35 :: r)) ((35 :: r).drop (spn remB (35 :: r))) := by
  have hp : piece (35 :: r) = (0, spn remB (35 :: r)) := by rw [piece, if_neg (by decide), if_pos rfl]
  rw [lexR_cons, hp, if_neg (by rw [spn_cons_pos (by decide)]; simp), if_pos rfl]
theorem blank_not {c : Nat} (h : blankB c = true) : letterB c = false ∧ digitB c = false ∧ wordB c = false ∧ markB c = false ∧ c ≠ 35 := by
  unfold wordB markB letterB digitB
  unfold blankB at h
  simp only [Bool.or_eq_true, beq_iff_eq, Bool.or_eq_false_iff, Bool.and_eq_false_iff, decide_eq_false_iff_not, beq_eq_false_iff_ne] at *
  omega
theorem spn_app {q : Nat → Bool} {b : Nat} (hb : q b = false) (r : List Nat) : ∀ l : List Nat, spn q (l ++ b :: r) = spn q l
  | [] => spn_cons_neg hb
  | c :: l => by
    rw [List.cons_append]
    by_cases h : q c = true
    · rw [spn_cons_pos h, spn_cons_pos h, spn_app hb r l]
    · rw [spn_cons_neg (by simpa using h), spn_cons_neg (by simpa using h)]
/-- The first piece, where something stands behind with which no word and no number goes on. -/
theorem piece_app {b : Nat} (hw : wordB b = false) (hd : digitB b = false) (r : List Nat) (c : Nat) (l : List Nat) (h1 : blankB c = false) (h2 : c ≠ 35) : piece (c :: l ++ b :: r) = piece (c :: l) := by
  have e1 := spn_app hw r (c :: l)
  have e2 := spn_app hd r (c :: l)
  rw [List.cons_append] at *
  simp only [piece, h1, Bool.false_eq_true, if_false, h2, e1, e2]
def thenR (R : Except Nat (List (Nat × Nat × Nat))) (S : Except Nat (List (Nat × Nat × Nat))) : Except Nat (List (Nat × Nat × Nat)) := match R with
  | .ok T => joinR T S
  | .error e => .error e
theorem thenR_cons (t : Nat × Nat × Nat) (R S : Except Nat (List (Nat × Nat × Nat))) : thenR (consR t R) S = consR t (thenR R S) := by
  cases R <;> cases S <;> simp [thenR, consR, joinR]
/-- A line feed behind a text: the text's tokens, then the rest's. -/
theorem lexR_line (r : List Nat) : ∀ (n : Nat) (l : List Nat) (at_ : Nat), l.length ≤ n → lexR at_ (l ++ 10 :: r) = thenR (lexR at_ l) (lexR (at_ + l.length) (10 :: r))
  | _, [], at_, _ => by
    rw [List.nil_append, lexR_nil, List.length_nil, Nat.add_zero]
    unfold thenR joinR
    cases lexR at_ (10 :: r) <;> rfl
  | 0, c :: l, _, h => by simp at h
  | n + 1, c :: l, at_, h => by
    rw [List.length_cons] at h
    by_cases hb : blankB c = true
    · rw [List.cons_append, blank_one hb, blank_one hb, lexR_line r n l _ (by omega), List.length_cons, show at_ + 1 + l.length = at_ + (l.length + 1) from by omega]
    · have hb : blankB c = false := by simpa using hb
      have go : ∀ k, k ≤ (c :: l).length → 1 ≤ k → lexR (at_ + k) ((c :: l ++ 10 :: r).drop k) = thenR (lexR (at_ + k) ((c :: l).drop k)) (lexR (at_ + (c :: l).length) (10 :: r)) := by
        intro k hk h1
        rw [List.drop_append_of_le_length hk, lexR_line r n _ _ (by rw [List.length_drop, List.length_cons]; omega), List.length_drop, show at_ + k + ((c :: l).length - k) = at_ + (c :: l).length from by omega]
      by_cases h35 : c = 35
      · subst h35
        have e : spn remB (35 :: (l ++ 10 :: r)) = spn remB (35 :: l) := spn_app (by decide) r (35 :: l)
        rw [List.cons_append, hash_one, hash_one, e]
        exact go _ (spn_le _ _) (spn_pos (by decide))
      · have hp := piece_app (b := 10) (by decide) (by decide) r c l hb h35
        rw [List.cons_append] at hp ⊢
        rw [lexR_cons, lexR_cons, hp]
        split
        · rfl
        · rename_i h2
          have := go (piece (c :: l)).2 (piece_le _) (by omega)
          rw [List.cons_append] at this
          split
          · exact this
          · rw [this, thenR_cons]
/-- A blank behind a text changes nothing. -/
theorem lexR_snoc {b : Nat} (hb : blankB b = true) : ∀ (n : Nat) (l : List Nat) (at_ : Nat), l.length ≤ n → lexR at_ (l ++ [b]) = lexR at_ l
  | _, [], at_, _ => by rw [List.nil_append, blank_one hb, lexR_nil, lexR_nil]
  | 0, c :: l, _, h => by simp at h
  | n + 1, c :: l, at_, h => by
    rw [List.length_cons] at h
    by_cases hc : blankB c = true
    · rw [List.cons_append, blank_one hc, blank_one hc, lexR_snoc hb n l _ (by omega)]
    · have hc : blankB c = false := by simpa using hc
      have go : ∀ k, k ≤ (c :: l).length → 1 ≤ k → lexR (at_ + k) ((c :: l ++ [b]).drop k) = lexR (at_ + k) ((c :: l).drop k) := by
        intro k hk h1
        rw [List.drop_append_of_le_length hk, lexR_snoc hb n _ _ (by rw [List.length_drop, List.length_cons]; omega)]
      by_cases h35 : c = 35
      · subst h35
        by_cases h10 : b = 10
        · subst h10
          have e : spn remB (35 :: (l ++ [10])) = spn remB (35 :: l) := spn_app (by decide) [] (35 :: l)
          rw [List.cons_append, hash_one, hash_one, e]
          exact go _ (spn_le _ _) (spn_pos (by decide))
        · have hrb : remB b = true := by unfold remB; simp [h10]
          have e : spn remB (35 :: l ++ [b]) = if spn remB (35 :: l) = (35 :: l).length then (35 :: l).length + 1 else spn remB (35 :: l) := by
            generalize (35 :: l) = m
            induction m with
            | nil => simp [spn, hrb]
            | cons d m ih =>
              rw [List.cons_append]
              by_cases hd : remB d = true
              · rw [spn_cons_pos hd, spn_cons_pos hd, ih, List.length_cons]
                split <;> split <;> omega
              · rw [spn_cons_neg (by simpa using hd), spn_cons_neg (by simpa using hd), if_neg (by simp)]
          rw [List.cons_append] at e ⊢
          rw [hash_one, hash_one, e]
          split
          · rename_i h1
            rw [h1, List.drop_eq_nil_of_le (by simp), List.drop_eq_nil_of_le (by simp), lexR_nil, lexR_nil]
          · exact go _ (spn_le _ _) (spn_pos (by decide))
      · obtain ⟨_, hd, hw, _⟩ := blank_not hb
        have hp := piece_app hw hd [] c l hc h35
        rw [List.cons_append] at hp ⊢
        rw [lexR_cons, lexR_cons, hp]
        split
        · rfl
        · rename_i h2
          have := go (piece (c :: l)).2 (piece_le _) (by omega)
          rw [List.cons_append] at this
          split
          · exact this
          · rw [this]
def shiftR (d : Nat) : Except Nat (List (Nat × Nat × Nat)) → Except Nat (List (Nat × Nat × Nat))
  | .ok T => .ok (T.map fun t => (t.1, t.2.1 + d, t.2.2))
  | .error e => .error (e + d)
theorem lexR_shift (d : Nat) : ∀ (n : Nat) (l : List Nat) (at_ : Nat), l.length ≤ n → lexR (at_ + d) l = shiftR d (lexR at_ l)
  | _, [], at_, _ => rfl
  | 0, c :: l, _, h => by simp at h
  | n + 1, c :: l, at_, h => by
    rw [lexR_cons, lexR_cons]
    split
    · rfl
    · have hd : ((c :: l).drop (piece (c :: l)).2).length ≤ n := by rw [List.length_drop]; omega
      have e : at_ + d + (piece (c :: l)).2 = at_ + (piece (c :: l)).2 + d := by omega
      split
      · rw [e, lexR_shift d n _ _ hd]
      · rw [e, lexR_shift d n _ _ hd]
        cases lexR (at_ + (piece (c :: l)).2) ((c :: l).drop (piece (c :: l)).2) <;> simp [consR, shiftR]
/-! What the tokens are. -/
def good (k : Nat) (t : List Nat) : Prop :=
  (k = 1 ∧ (∃ c r, t = c :: r ∧ letterB c = true) ∧ ∀ c ∈ t, wordB c = true) ∨
  (k = 2 ∧ (∃ c r, t = c :: r ∧ badN t.length c = false) ∧ ∀ c ∈ t, digitB c = true) ∨
  (k = 3 ∧ ∃ c, t = [c] ∧ markB c = true)
theorem spn_take {q : Nat → Bool} : ∀ l : List Nat, ∀ c ∈ l.take (spn q l), q c = true
  | [], c, h => by simp at h
  | d :: l, c, h => by
    by_cases hd : q d = true
    · rw [spn_cons_pos hd, List.take_succ_cons] at h
      rcases List.mem_cons.1 h with rfl | h
      · exact hd
      · exact spn_take l c h
    · rw [spn_cons_neg (by simpa using hd)] at h; simp at h
theorem piece_good (l : List Nat) (h1 : (piece l).1 ≠ 0) (h2 : (piece l).2 ≠ 0) : good (piece l).1 (l.take (piece l).2) := by
  cases l with
  | nil => simp [piece] at h1
  | cons c r =>
    rw [piece] at h1 h2 ⊢
    split at h1
    · simp at h1
    · rename_i a1
      rw [if_neg a1] at h2 ⊢
      split at h1
      · simp at h1
      · rename_i a2
        rw [if_neg a2] at h2 ⊢
        split at h1
        · rename_i a3
          rw [if_pos a3] at h2 ⊢
          have hw : wordB c = true := by unfold wordB; rw [a3]; rfl
          refine .inl ⟨rfl, ⟨c, r.take (spn wordB r), ?_, a3⟩, spn_take _⟩
          simp only [spn_cons_pos hw, List.take_succ_cons]
        · rename_i a3
          rw [if_neg a3] at h2 ⊢
          split at h1
          · rename_i a4
            rw [if_pos a4] at h2 ⊢
            split at h2
            · simp at h2
            · rename_i a5
              rw [if_neg a5]
              refine .inr (.inl ⟨rfl, ⟨c, r.take (spn digitB r), ?_, ?_⟩, spn_take _⟩)
              · simp only [spn_cons_pos a4, List.take_succ_cons]
              · simp only
                rw [List.length_take, Nat.min_eq_left (spn_le _ _)]
                simpa using a5
          · rename_i a4
            rw [if_neg a4] at h2 ⊢
            split at h1
            · rename_i a5
              rw [if_pos a5]
              exact .inr (.inr ⟨rfl, c, by simp, a5⟩)
            · simp at h1
theorem lexR_good : ∀ (n : Nat) (l : List Nat) (at_ : Nat) (T : List (Nat × Nat × Nat)), l.length ≤ n → lexR at_ l = .ok T →
    ∀ t ∈ T, at_ ≤ t.2.1 ∧ 1 ≤ t.2.2 ∧ t.2.1 + t.2.2 ≤ at_ + l.length ∧ good t.1 ((l.drop (t.2.1 - at_)).take t.2.2)
  | _, [], _, T, _, h => by rw [lexR_nil] at h; injection h with h; subst h; intro t ht; simp at ht
  | 0, c :: l, _, _, hl, _ => by simp at hl
  | n + 1, c :: l, at_, T, hl, h => by
    have hpl := piece_le (c :: l)
    have hpg := piece_good (c :: l)
    rw [lexR_cons] at h
    generalize piece (c :: l) = pc at *
    obtain ⟨k, m⟩ := pc
    simp only at *
    have go : ∀ T', 1 ≤ m → lexR (at_ + m) ((c :: l).drop m) = .ok T' → ∀ t ∈ T', at_ ≤ t.2.1 ∧ 1 ≤ t.2.2 ∧ t.2.1 + t.2.2 ≤ at_ + (c :: l).length ∧ good t.1 (((c :: l).drop (t.2.1 - at_)).take t.2.2) := by
      intro T' hm hT t ht
      obtain ⟨h1, h2, h3, h4⟩ := lexR_good n _ _ T' (by rw [List.length_drop]; omega) hT t ht
      rw [List.length_drop] at h3
      refine ⟨by omega, h2, by omega, ?_⟩
      rw [List.drop_drop] at h4
      rwa [show m + (t.2.1 - (at_ + m)) = t.2.1 - at_ from by omega] at h4
    split at h
    · cases h
    · rename_i a1
      split at h
      · exact go T (by omega) h
      · rename_i a2
        cases hR : lexR (at_ + m) ((c :: l).drop m) with
        | error e => rw [hR] at h; cases h
        | ok T' =>
          rw [hR] at h
          simp only [consR, Except.ok.injEq] at h
          subst h
          intro t ht
          rcases List.mem_cons.1 ht with rfl | ht
          · exact ⟨Nat.le_refl _, by simp only; omega, by simp only; omega, by simpa using hpg a2 a1⟩
          · exact go T' (by omega) hR t ht
/-- An error lies within the text. -/
theorem lexR_err : ∀ (n : Nat) (l : List Nat) (at_ x : Nat), l.length ≤ n → lexR at_ l = .error x → at_ ≤ x ∧ x < at_ + l.length
  | _, [], _, x, _, h => by rw [lexR_nil] at h; cases h
  | 0, c :: l, _, _, hl, _ => by simp at hl
  | n + 1, c :: l, at_, x, hl, h => by
    have hpl := piece_le (c :: l)
    rw [lexR_cons] at h
    split at h
    · injection h with h; subst h; simp
    · have hd : ((c :: l).drop (piece (c :: l)).2).length ≤ n := by rw [List.length_drop]; omega
      have hdl : ((c :: l).drop (piece (c :: l)).2).length = (c :: l).length - (piece (c :: l)).2 := List.length_drop
      split at h
      · have := lexR_err n _ _ x hd h; omega
      · cases hR : lexR (at_ + (piece (c :: l)).2) ((c :: l).drop (piece (c :: l)).2) with
        | error e =>
          rw [hR] at h
          simp only [consR, Except.error.injEq] at h
          subst h
          have := lexR_err n _ _ e hd hR; omega
        | ok T' => rw [hR] at h; cases h
/-- The lengths of the tokens together. -/
theorem lexR_sum : ∀ (n : Nat) (l : List Nat) (at_ : Nat) (T : List (Nat × Nat × Nat)), l.length ≤ n → lexR at_ l = .ok T → (T.map (·.2.2)).sum ≤ l.length
  | _, [], _, T, _, h => by rw [lexR_nil] at h; injection h with h; subst h; simp
  | 0, c :: l, _, _, hl, _ => by simp at hl
  | n + 1, c :: l, at_, T, hl, h => by
    have hpl := piece_le (c :: l)
    rw [lexR_cons] at h
    split at h
    · cases h
    · rename_i a1
      have hd : ((c :: l).drop (piece (c :: l)).2).length ≤ n := by rw [List.length_drop]; omega
      split at h
      · have := lexR_sum n _ _ T hd h
        rw [List.length_drop] at this; omega
      · cases hR : lexR (at_ + (piece (c :: l)).2) ((c :: l).drop (piece (c :: l)).2) with
        | error e => rw [hR] at h; cases h
        | ok T' =>
          rw [hR] at h
          simp only [consR, Except.ok.injEq] at h
          subst h
          have := lexR_sum n _ _ T' hd hR
          rw [List.length_drop] at this
          simp only [List.map_cons, List.sum_cons]; omega
/-! Text that is written out of tokens. -/
/-- A token is read as it was written, where nothing goes on behind it. -/
theorem good_piece {k : Nat} {t : List Nat} (h : good k t) (r : List Nat) (hr : ∀ c r', r = c :: r' → wordB c = false ∧ digitB c = false) : piece (t ++ r) = (k, t.length) ∧ t ≠ [] := by
  have sp : ∀ (q : Nat → Bool), (∀ c ∈ t, q c = true) → (∀ c r', r = c :: r' → q c = false) → spn q (t ++ r) = t.length := by
    intro q h1 h2
    clear h
    induction t with
    | nil => cases r with
      | nil => rfl
      | cons c r' => exact spn_cons_neg (h2 c r' rfl)
    | cons c t ih => rw [List.cons_append, spn_cons_pos (h1 c (by simp)), ih fun d hd => h1 d (by simp [hd])]; rfl
  rcases h with ⟨rfl, ⟨c, r', rfl, hc⟩, hall⟩ | ⟨rfl, ⟨c, r', rfl, hbad⟩, hall⟩ | ⟨rfl, c, rfl, hc⟩
  · have h0 : blankB c = false ∧ c ≠ 35 := by
      unfold letterB at hc; unfold blankB
      simp only [Bool.and_eq_true, decide_eq_true_eq, Bool.or_eq_false_iff, beq_eq_false_iff_ne] at *
      omega
    have e := sp wordB hall fun c r' h => (hr c r' h).1
    refine ⟨?_, by simp⟩
    rw [List.cons_append] at e ⊢
    rw [piece, if_neg (by rw [h0.1]; simp), if_neg h0.2, if_pos hc, e]
  · have hc := hall c (by simp)
    have h0 : blankB c = false ∧ c ≠ 35 ∧ letterB c = false := by
      unfold digitB at hc; unfold blankB letterB
      simp only [Bool.and_eq_true, decide_eq_true_eq, Bool.or_eq_false_iff, Bool.and_eq_false_iff, decide_eq_false_iff_not, beq_eq_false_iff_ne] at *
      omega
    have e := sp digitB hall fun c r' h => (hr c r' h).2
    refine ⟨?_, by simp⟩
    rw [List.cons_append] at e ⊢
    rw [piece, if_neg (by rw [h0.1]; simp), if_neg h0.2.1, if_neg (by rw [h0.2.2]; simp), if_pos hc, e, hbad, if_neg (by simp)]
  · have h0 : blankB c = false ∧ c ≠ 35 ∧ letterB c = false ∧ digitB c = false := by
      unfold markB at hc; unfold blankB letterB digitB
      simp only [Bool.or_eq_true, beq_iff_eq, Bool.or_eq_false_iff, Bool.and_eq_false_iff, decide_eq_false_iff_not, beq_eq_false_iff_ne] at *
      omega
    refine ⟨?_, by simp⟩
    rw [List.cons_append, List.nil_append, piece, if_neg (by rw [h0.1]; simp), if_neg h0.2.1, if_neg (by rw [h0.2.2.1]; simp), if_neg (by rw [h0.2.2.2]; simp), if_pos hc]
    rfl
theorem good_kind {k : Nat} {t : List Nat} (h : good k t) : k ≠ 0 ∧ k ≤ 3 := by
  rcases h with ⟨rfl, _⟩ | ⟨rfl, _⟩ | ⟨rfl, _⟩ <;> simp
/-- A token, a blank, the rest. -/
theorem lexR_tok_blank {k : Nat} {t : List Nat} (h : good k t) {b : Nat} (hb : blankB b = true) (r : List Nat) (at_ : Nat) : lexR at_ (t ++ b :: r) = consR (k, at_, t.length) (lexR (at_ + t.length + 1) r) := by
  obtain ⟨_, hd, hw, _⟩ := blank_not hb
  obtain ⟨hp, hne⟩ := good_piece h (b :: r) (fun c r' e => by injection e with e1 e2; subst e1; exact ⟨hw, hd⟩)
  have hk := (good_kind h).1
  cases t with
  | nil => exact absurd rfl hne
  | cons c t =>
    rw [List.cons_append] at hp ⊢
    rw [lexR_cons, hp, if_neg (by simp), if_neg hk]
    simp only
    rw [show (c :: (t ++ b :: r)).drop (c :: t).length = b :: r from by simp, blank_one hb]
theorem lexR_tok_end {k : Nat} {t : List Nat} (h : good k t) (at_ : Nat) : lexR at_ t = .ok [(k, at_, t.length)] := by
  obtain ⟨hp, hne⟩ := good_piece h [] (fun c r' e => by cases e)
  have hk := (good_kind h).1
  rw [List.append_nil] at hp
  cases t with
  | nil => exact absurd rfl hne
  | cons c t =>
    rw [lexR_cons, hp, if_neg (by simp), if_neg hk]
    simp only
    rw [List.drop_length, lexR_nil]
    rfl
end Go.Proofs.YtcnlopjjejdahaaDoor
/- Plain: chapter 41, what is printed is read again as the plan. No program in sight. -/
namespace Go.Proofs.YtcnlopjjejdahaaDoor
theorem lexR_tok {k : Nat} {t : List Nat} (h : good k t) (r : List Nat) (hr : ∀ c r', r = c :: r' → wordB c = false ∧ digitB c = false) (at_ : Nat) : lexR at_ (t ++ r) = consR (k, at_, t.length) (lexR (at_ + t.length) r) := by
  obtain ⟨hp, hne⟩ := good_piece h r hr
  have hk := (good_kind h).1
  cases t with
  | nil => exact absurd rfl hne
  | cons c t =>
    rw [List.cons_append] at hp ⊢
    rw [lexR_cons, hp, if_neg (by simp), if_neg hk]
    simp only
    rw [show (c :: (t ++ r)).drop (c :: t).length = r from by simp]
/-- A text and what stands in it: kinds and words. -/
def Lx (l : List Nat) (S : List (Nat × List Nat)) : Prop :=
  ∀ at_, ∃ T, lexR at_ l = .ok T ∧ (∀ t ∈ T, at_ ≤ t.2.1) ∧ T.map (fun t => (t.1, (l.drop (t.2.1 - at_)).take t.2.2)) = S
theorem Lx_nil : Lx [] [] := fun _ => ⟨[], rfl, fun t h => (by simp at h), rfl⟩
theorem Lx_blank {b : Nat} {r : List Nat} {S : List (Nat × List Nat)} (hb : blankB b = true) (h : Lx r S) : Lx (b :: r) S := fun at_ => by
  obtain ⟨T, h1, h2, h3⟩ := h (at_ + 1)
  refine ⟨T, by rw [blank_one hb, h1], fun t ht => by have := h2 t ht; omega, ?_⟩
  rw [← h3]
  refine List.map_congr_left fun t ht => ?_
  have := h2 t ht
  rw [show t.2.1 - at_ = (t.2.1 - (at_ + 1)) + 1 by omega, List.drop_succ_cons]
theorem Lx_tok {k : Nat} {t r : List Nat} {S : List (Nat × List Nat)} (hg : good k t) (hr : ∀ c r', r = c :: r' → wordB c = false ∧ digitB c = false) (h : Lx r S) : Lx (t ++ r) ((k, t) :: S) := fun at_ => by
  obtain ⟨T, h1, h2, h3⟩ := h (at_ + t.length)
  refine ⟨(k, at_, t.length) :: T, by rw [lexR_tok hg r hr, h1]; rfl, fun x hx => ?_, ?_⟩
  · rcases List.mem_cons.1 hx with rfl | hx
    · exact Nat.le_refl _
    · have := h2 x hx; omega
  · rw [List.map_cons]
    congr 1
    · simp
    · rw [← h3]
      refine List.map_congr_left fun x hx => ?_
      have := h2 x hx
      rw [show x.2.1 - at_ = t.length + (x.2.1 - (at_ + t.length)) by omega, List.drop_append, List.drop_eq_nil_of_le (by omega), List.nil_append, Nat.add_sub_cancel_left]
def Kt (t : Tk) : Int × List Nat := (t.kind, bs t.text)
/-- A whole text's tokens. -/
theorem scan_Lx {s : ByteArray} {S : List (Nat × List Nat)} (hs : s.size ≤ 32768) (h : Lx (bs s) S) :
    ∃ L, scanE s = (0, 0, L) ∧ L.map Kt = S.map (fun x => ((x.1 : Int), x.2)) ++ [(0, [])] := by
  obtain ⟨T, h1, _, h3⟩ := h 0
  refine ⟨T.map (tokOf s) ++ [endTok s], by unfold scanE; rw [if_neg (by omega), h1], ?_⟩
  rw [List.map_append, ← h3, List.map_map, List.map_map]
  congr 1
  refine List.map_congr_left fun t _ => ?_
  show ((t.1 : Int), bs (s.extract t.2.1 (t.2.1 + t.2.2))) = _
  rw [bs_extract, Nat.add_sub_cancel_left]
  rfl
/-! The tokens of a printed plan. -/
theorem dec_len {u : Nat} (h : u < 1000000000000000000) : (dec u).length ≤ 18 := by
  have key : ∀ (k u : Nat), u < 10 ^ (k + 1) → (dec u).length ≤ k + 1 := by
    intro k
    induction k with
    | zero => intro u h; rw [dec_lt (by simpa using h)]; simp
    | succ k ih =>
      intro u h
      by_cases h1 : u < 10
      · rw [dec_lt h1]; simp
      · rw [dec_ge h1, List.length_append]
        have := ih (u / 10) (by rw [Nat.pow_succ] at h; omega)
        simp only [List.length_cons, List.length_nil]
        omega
  exact key 17 u h
theorem good_dec {u : Nat} (h : u < 1000000000000000000) : good 2 (dec u) := by
  refine Or.inr (Or.inl ⟨rfl, ?_, fun c hc => by have := dec_all u c hc; unfold digitB; simp [this]⟩)
  have hl := dec_len h
  by_cases h1 : u < 10
  · rw [dec_lt h1]
    exact ⟨_, [], rfl, by simp [badN]⟩
  · obtain ⟨c, r, h2, h3⟩ := dec_head u (by omega)
    refine ⟨c, r, h2, ?_⟩
    unfold badN
    simp only [Bool.or_eq_false_iff, decide_eq_false_iff_not, Bool.and_eq_false_iff, beq_eq_false_iff_ne]
    exact ⟨by omega, Or.inr h3⟩
theorem good_name {s : ByteArray} (h : nameB s = true) : good 1 (bs s) := by
  simp only [nameB, Bool.and_eq_true, decide_eq_true_eq, List.all_eq_true, List.mem_range] at h
  obtain ⟨⟨h1, _⟩, h2⟩ := h
  refine Or.inl ⟨rfl, ?_, fun c hc => ?_⟩
  · have h0 := h2 0 (by omega)
    have hb := bs_get (s := s) (i := 0) (by omega)
    cases hl : bs s with
    | nil => rw [hl] at hb; cases hb
    | cons c r =>
      rw [hl, List.getElem?_cons_zero] at hb
      injection hb with hb
      refine ⟨c, r, rfl, ?_⟩
      subst hb
      simp only [nmAt, nmLow, Bool.or_eq_true, Bool.and_eq_true, decide_eq_true_eq] at h0
      unfold letterB
      simp only [Bool.and_eq_true, decide_eq_true_eq]
      omega
  · obtain ⟨j, hj⟩ := List.mem_iff_getElem?.1 hc
    have hjl : j < s.size := by have := (List.getElem?_eq_some_iff.1 hj).1; rwa [bs_len] at this
    have hb := bs_get hjl
    rw [hb] at hj
    injection hj with hj
    subst hj
    have h0 := h2 j hjl
    simp only [nmAt, nmLow, nmMore, Bool.or_eq_true, Bool.and_eq_true, decide_eq_true_eq] at h0
    unfold wordB letterB digitB
    simp only [Bool.or_eq_true, Bool.and_eq_true, decide_eq_true_eq, beq_iff_eq]
    omega
/-- What follows a word begins with none of its bytes. -/
theorem sepC {b : Nat} {l : List Nat} (h : wordB b = false ∧ digitB b = false) : ∀ c r', b :: l = c :: r' → wordB c = false ∧ digitB c = false := fun c r' e => by injection e with e1 _; rw [← e1]; exact h
theorem sep32 {l : List Nat} : ∀ c r', 32 :: l = c :: r' → wordB c = false ∧ digitB c = false := sepC (by decide)
theorem sep10 {l : List Nat} : ∀ c r', 10 :: l = c :: r' → wordB c = false ∧ digitB c = false := sepC (by decide)
theorem sep59 {l : List Nat} : ∀ c r', asc ";" ++ l = c :: r' → wordB c = false ∧ digitB c = false := sepC (by decide)
theorem gw {w : List Nat} (h : w ≠ [] ∧ w.all letterB = true) : good 1 w := by
  obtain ⟨h1, h2⟩ := h
  rw [List.all_eq_true] at h2
  cases w with
  | nil => exact absurd rfl h1
  | cons c r => exact Or.inl ⟨rfl, ⟨c, r, rfl, h2 c (by simp)⟩, fun d hd => by unfold wordB; rw [h2 d hd]; rfl⟩
theorem gm {c : Nat} (h : markB c = true) : good 3 [c] := Or.inr (Or.inr ⟨rfl, c, rfl, h⟩)
def lvlS (v : Lvl) : List (Nat × List Nat) := [(1, asc "prize"), (2, dec v.prize.toNat), (1, asc "count"), (2, dec v.count.toNat), (1, asc "pack"), (2, dec v.pack.toNat), (3, asc ";")]
def headS (p : Pl) : List (Nat × List Nat) := [(1, asc "deck"), (1, bs p.name), (3, asc "{"), (1, asc "price"), (2, dec p.price.toNat), (3, asc ";"), (1, asc "packs"), (2, dec p.packs.toNat), (1, asc "of"), (2, dec p.size.toNat), (3, asc ";")]
def planS (p : Pl) : List (Nat × List Nat) := headS p ++ (p.levels.flatMap lvlS ++ [(3, asc "}")])
theorem fit_nat {n : Int} (h : fitB n = true) : 0 ≤ n ∧ n.toNat < 1000000000000000000 := by
  unfold fitB at h
  simp only [Bool.and_eq_true, decide_eq_true_eq] at h
  omega
theorem fmt_dec {n : Int} (h : fitB n = true) : fmtI n = dec n.toNat := fmtI_nonneg (fit_nat h).1
theorem lvl_text {v : Lvl} (h : v.fits = true) (r : List Nat) : lvlT v ++ r =
    asc "prize" ++ (32 :: (dec v.prize.toNat ++ (32 :: (asc "count" ++ (32 :: (dec v.count.toNat ++ (32 :: (asc "pack" ++ (32 :: (dec v.pack.toNat ++ (asc ";" ++ (10 :: r)))))))))))) := by
  unfold Lvl.fits at h
  simp only [Bool.and_eq_true] at h
  unfold lvlT
  rw [fmt_dec h.1.1, fmt_dec h.1.2, fmt_dec h.2, show asc "prize " = asc "prize" ++ [32] by kernel_rfl, show asc " count " = 32 :: (asc "count" ++ [32]) by kernel_rfl, show asc " pack " = 32 :: (asc "pack" ++ [32]) by kernel_rfl, show asc ";\n" = asc ";" ++ [10] by kernel_rfl]
  simp only [List.append_assoc, List.cons_append, List.nil_append]
theorem lvl_Lx {v : Lvl} (h : v.fits = true) {r : List Nat} {S : List (Nat × List Nat)} (hr : Lx r S) : Lx (lvlT v ++ r) (lvlS v ++ S) := by
  rw [lvl_text h]
  unfold Lvl.fits at h
  simp only [Bool.and_eq_true] at h
  have b32 : blankB 32 = true := by decide
  exact Lx_tok (gw (by decide +kernel)) sep32 (Lx_blank b32 (Lx_tok (good_dec (fit_nat h.1.1).2) sep32 (Lx_blank b32 (Lx_tok (gw (by decide +kernel)) sep32 (Lx_blank b32 (Lx_tok (good_dec (fit_nat h.1.2).2) sep32 (Lx_blank b32
    (Lx_tok (gw (by decide +kernel)) sep32 (Lx_blank b32 (Lx_tok (good_dec (fit_nat h.2).2) sep59 (Lx_tok (gm (by decide)) sep10 (Lx_blank (by decide) hr))))))))))))
theorem lvls_Lx : ∀ (V : List Lvl), V.all Lvl.fits = true → ∀ {r : List Nat} {S : List (Nat × List Nat)}, Lx r S → Lx (V.flatMap lvlT ++ r) (V.flatMap lvlS ++ S)
  | [], _, _, _, h => h
  | v :: V, hV, r, S, h => by
    rw [List.all_cons, Bool.and_eq_true] at hV
    rw [List.flatMap_cons, List.flatMap_cons, List.append_assoc, List.append_assoc]
    exact lvl_Lx hV.1 (lvls_Lx V hV.2 h)
theorem head_text {p : Pl} (h : (fitB p.price && fitB p.packs && fitB p.size) = true) (r : List Nat) : headT p ++ r =
    asc "deck" ++ (32 :: (bs p.name ++ (32 :: (asc "{" ++ (10 :: (asc "price" ++ (32 :: (dec p.price.toNat ++ (asc ";" ++ (10 :: (asc "packs" ++ (32 :: (dec p.packs.toNat ++ (32 :: (asc "of" ++ (32 :: (dec p.size.toNat ++ (asc ";" ++ (10 :: r))))))))))))))))))) := by
  simp only [Bool.and_eq_true] at h
  unfold headT
  rw [fmt_dec h.1.1, fmt_dec h.1.2, fmt_dec h.2, show asc "deck " = asc "deck" ++ [32] by kernel_rfl, show asc " {\n" = 32 :: (asc "{" ++ [10]) by kernel_rfl, show asc "price " = asc "price" ++ [32] by kernel_rfl, show asc "packs " = asc "packs" ++ [32] by kernel_rfl,
    show asc " of " = 32 :: (asc "of" ++ [32]) by kernel_rfl, show asc ";\n" = asc ";" ++ [10] by kernel_rfl]
  simp only [List.append_assoc, List.cons_append, List.nil_append]
theorem plan_Lx {p : Pl} (hn : nameB p.name = true) (h : (fitB p.price && fitB p.packs && fitB p.size) = true) (hV : p.levels.all Lvl.fits = true) : Lx (headT p ++ p.levels.flatMap lvlT ++ asc "}\n") (planS p) := by
  rw [List.append_assoc, head_text h, show asc "}\n" = asc "}" ++ [10] by kernel_rfl]
  simp only [Bool.and_eq_true] at h
  have b32 : blankB 32 = true := by decide
  have b10 : blankB 10 = true := by decide
  have he : Lx (asc "}" ++ [10]) [(3, asc "}")] := Lx_tok (gm (by decide)) sep10 (Lx_blank b10 Lx_nil)
  have hl := lvls_Lx p.levels hV he
  exact Lx_tok (gw (by decide +kernel)) sep32 (Lx_blank b32 (Lx_tok (good_name hn) sep32 (Lx_blank b32 (Lx_tok (gm (by decide)) sep10 (Lx_blank b10 (Lx_tok (gw (by decide +kernel)) sep32 (Lx_blank b32 (Lx_tok (good_dec (fit_nat h.1.1).2) sep59
    (Lx_tok (gm (by decide)) sep10 (Lx_blank b10 (Lx_tok (gw (by decide +kernel)) sep32 (Lx_blank b32 (Lx_tok (good_dec (fit_nat h.1.2).2) sep32 (Lx_blank b32 (Lx_tok (gw (by decide +kernel)) sep32 (Lx_blank b32 (Lx_tok (good_dec (fit_nat h.2).2) sep59
      (Lx_tok (gm (by decide)) sep10 (Lx_blank b10 hl)))))))))))))))))))
end Go.Proofs.YtcnlopjjejdahaaDoor
/- Plain: chapter 41, a printed plan is read again as the plan; the tokens' numbers are numbers. No program in sight. -/
namespace Go.Proofs.YtcnlopjjejdahaaDoor
theorem valD_bd : ∀ (l : List Nat) (a : Nat), (∀ c ∈ l, digitB c = true) → valD a l < (a + 1) * 10 ^ l.length
  | [], a, _ => by simp [valD]
  | c :: r, a, h => by
    have hc := h c (by simp)
    unfold digitB at hc
    simp only [Bool.and_eq_true, decide_eq_true_eq] at hc
    have ih := valD_bd r (a * 10 + (c - 48)) fun d hd => h d (by simp [hd])
    have e : valD a (c :: r) = valD (a * 10 + (c - 48)) r := rfl
    rw [e, List.length_cons, Nat.pow_succ]
    refine Nat.lt_of_lt_of_le ih ?_
    rw [Nat.mul_comm (10 ^ r.length) 10, ← Nat.mul_assoc]
    exact Nat.mul_le_mul_right _ (by omega)
theorem num_good {t : List Nat} (h : good 2 t) : (numE t).2 = 0 := by
  rcases h with ⟨h, _⟩ | ⟨_, ⟨c, r, rfl, hb⟩, hall⟩ | ⟨h, _⟩
  · cases h
  · have hc := hall c (by simp)
    unfold digitB at hc
    simp only [Bool.and_eq_true, decide_eq_true_eq] at hc
    unfold badN at hb
    simp only [Bool.or_eq_false_iff, decide_eq_false_iff_not, Bool.and_eq_false_iff, beq_eq_false_iff_ne] at hb
    have hn : negB (c :: r) = false := by
      unfold negB
      split
      · rename_i e; injection e with e _; omega
      · rfl
    have hm : magL (c :: r) = c :: r := by unfold magL; rw [hn]; rfl
    have hd : decOK (c :: r) = true := by
      show ((c != 48 || r.isEmpty) && (c :: r).all digitB) = true
      rw [List.all_eq_true.2 hall, Bool.and_true]
      rcases hb.2 with h1 | h1
      · cases r with
        | nil => simp
        | cons d r => simp at h1
      · simp [h1]
    have hv : valD 0 (c :: r) < 1000000000000000000 := by
      have h1 := valD_bd (c :: r) 0 hall
      have h2 : 10 ^ (c :: r).length ≤ 10 ^ 18 := Nat.pow_le_pow_right (by decide) (by omega)
      have h3 : (10 : Nat) ^ 18 = 1000000000000000000 := by decide
      omega
    unfold numE
    rw [hm, hn, hd, if_neg (by simp), if_neg (by simp), if_neg (by omega)]
  · cases h
theorem NumOk_scan (s : ByteArray) : NumOk (scanE s).2.2 := by
  unfold scanE
  split
  · intro t h; cases h
  · cases hT : lexR 0 (bs s) with
    | error e => intro t h; cases h
    | ok T =>
      intro t ht hk
      rcases List.mem_append.1 ht with ht | ht
      · obtain ⟨x, hx, rfl⟩ := List.mem_map.1 ht
        obtain ⟨_, _, _, hg⟩ := lexR_good _ _ _ _ (Nat.le_refl _) hT x hx
        have hk' : (x.1 : Int) = 2 := hk
        have hk2 : x.1 = 2 := by omega
        rw [hk2] at hg
        have : bs (tokOf s x).text = ((bs s).drop (x.2.1 - 0)).take x.2.2 := by
          show bs (s.extract x.2.1 (x.2.1 + x.2.2)) = _
          rw [bs_extract, Nat.add_sub_cancel_left, Nat.sub_zero]
        rw [this]
        exact num_good hg
      · simp only [List.mem_singleton] at ht
        subst ht
        cases hk
theorem parse_ref (s : ByteArray) : rparseP s = parseP s := parse_same s (NumOk_scan s)
/-! Reading what was printed. -/
theorem st_next {L : List Tk} {k : Int} {w : List Nat} {M : List (Int × List Nat)} (h : L.map Kt = (k, w) :: M) (hM : M ≠ []) : (hdT L).kind = k ∧ bs (hdT L).text = w ∧ (nxT L).map Kt = M := by
  match L, h with
  | [], h => cases h
  | [t], h =>
    simp only [List.map_cons, List.map_nil, List.cons.injEq] at h
    exact absurd h.2.symm hM
  | t :: u :: r, h =>
    simp only [List.map_cons, List.cons.injEq, Kt, Prod.mk.injEq] at h
    exact ⟨h.1.1, h.1.2, by rw [← h.2]; rfl⟩
theorem st_is {L : List Tk} {k : Int} {w : List Nat} {M : List (Int × List Nat)} (h : L.map Kt = (k, w) :: M) (hM : M ≠ []) : isT k w L = some (nxT L) ∧ (nxT L).map Kt = M :=
  ⟨isT_yes (st_next h hM).1 (st_next h hM).2.1, (st_next h hM).2.2⟩
theorem st_num {L : List Tk} {n : Int} {M : List (Int × List Nat)} (hn : fitB n = true) (h : L.map Kt = (2, dec n.toNat) :: M) (hM : M ≠ []) : numT L = some (n, nxT L) ∧ (nxT L).map Kt = M := by
  obtain ⟨h1, h2, h3⟩ := st_next h hM
  have e : numE (dec n.toNat) = (n, 0) := by
    rw [← fmt_dec hn]
    have := fit_nat hn
    exact numE_fmt (by omega) (by omega)
  refine ⟨?_, h3⟩
  unfold numT
  rw [h1, h2, e, if_pos ⟨rfl, rfl⟩]
def inK (S : List (Nat × List Nat)) : List (Int × List Nat) := S.map fun x => ((x.1 : Int), x.2)
theorem level_read {v : Lvl} (hv : v.fits = true) {L : List Tk} {M : List (Int × List Nat)} (hM : M ≠ [])
    (h : L.map Kt = (2, dec v.prize.toNat) :: (1, asc "count") :: (2, dec v.count.toNat) :: (1, asc "pack") :: (2, dec v.pack.toNat) :: M) : ∃ L', levelT L = .ok (v, L') ∧ L'.map Kt = M := by
  unfold Lvl.fits at hv
  simp only [Bool.and_eq_true] at hv
  obtain ⟨e1, h1⟩ := st_num hv.1.1 h (by simp)
  obtain ⟨e2, h2⟩ := st_is h1 (by simp)
  obtain ⟨e3, h3⟩ := st_num hv.1.2 h2 (by simp)
  obtain ⟨e4, h4⟩ := st_is h3 (by simp)
  obtain ⟨e5, h5⟩ := st_num hv.2 h4 hM
  refine ⟨_, ?_, h5⟩
  unfold levelT
  rw [e1]
  dsimp only [thenT]
  rw [e2]
  dsimp only
  rw [e3]
  dsimp only
  rw [e4]
  dsimp only
  rw [e5]
theorem ne_price : asc "prize" ≠ asc "price" := by decide +kernel
theorem ne_packs : asc "prize" ≠ asc "packs" := by decide +kernel
theorem ne_pp : asc "packs" ≠ asc "price" := by decide +kernel
theorem not_end {L : List Tk} {w : List Nat} {M : List (Int × List Nat)} (h : L.map Kt = (1, w) :: M) (hM : M ≠ []) : isT 3 (asc "}") L = none :=
  isT_no fun e => absurd ((st_next h hM).1.symm.trans e.1) (by decide)
theorem items_read : ∀ (V : List Lvl) (f : Nat) (L : List Tk) (p : Pl) (pr pa : Bool), V.all Lvl.fits = true → V.length < f → L.map Kt = inK (V.flatMap lvlS) ++ [(3, asc "}"), (0, [])] →
    itemsT f L p pr pa = .ok { p with levels := p.levels ++ V }
  | _, 0, _, _, _, _, _, h, _ => absurd h (Nat.not_lt_zero _)
  | [], f + 1, L, p, pr, pa, _, _, h => by
    obtain ⟨e1, h1⟩ := st_is (k := 3) (w := asc "}") (M := [(0, [])]) h (by simp)
    rw [itemsT, e1]
    dsimp only
    have hk : (hdT (nxT L)).kind = 0 := by
      cases hn : nxT L with
      | nil => rfl
      | cons t r => rw [hn] at h1; simp only [List.map_cons, List.cons.injEq, Kt, Prod.mk.injEq] at h1; exact h1.1.1
    rw [if_pos hk, List.append_nil]
  | v :: V, f + 1, L, p, pr, pa, hV, hf, h => by
    rw [List.all_cons, Bool.and_eq_true] at hV
    have hL : L.map Kt = (1, asc "prize") :: (2, dec v.prize.toNat) :: (1, asc "count") :: (2, dec v.count.toNat) :: (1, asc "pack") :: (2, dec v.pack.toNat) :: (3, asc ";") :: (inK (V.flatMap lvlS) ++ [(3, asc "}"), (0, [])]) := h
    obtain ⟨k1, w1, h1⟩ := st_next hL (by simp)
    obtain ⟨L2, e2, h2⟩ := level_read hV.1 (by simp) h1
    obtain ⟨e3, h3⟩ := st_is h2 (by simp)
    rw [itemsT, not_end hL (by simp)]
    have eI : itemT L p pr pa = .ok (({ p with levels := p.levels ++ [v] }, pr, pa), nxT L2) := by
      unfold itemT
      rw [if_neg (fun e => e k1), w1, if_neg ne_price, if_neg ne_packs, if_pos rfl, e2]
      dsimp only
      rw [e3]
      rfl
    rw [eI]
    dsimp only
    rw [items_read V f (nxT L2) _ pr pa hV.2 (by simpa using hf) h3]
    simp
theorem plan_read {p : Pl} (h : (fitB p.price && fitB p.packs && fitB p.size) = true) (hV : p.levels.all Lvl.fits = true) {L : List Tk} (hL : L.map Kt = inK (planS p) ++ [(0, [])]) :
    ∃ nm, bs nm = bs p.name ∧ planT L = .ok { p with name := nm } := by
  simp only [Bool.and_eq_true] at h
  have hlen : p.levels.length + 2 < L.length + 1 := by
    have e := congrArg List.length hL
    have hl : p.levels.length ≤ (p.levels.flatMap lvlS).length := by
      rw [List.length_flatMap]
      generalize p.levels = V
      induction V with
      | nil => simp
      | cons v V ih => simp only [List.map_cons, List.sum_cons, List.length_cons, lvlS, List.length_nil] at *; omega
    simp only [List.length_map, List.length_append, planS, headS, inK, List.length_cons, List.length_nil, List.map_append] at e
    omega
  have hL' : L.map Kt = (1, asc "deck") :: (1, bs p.name) :: (3, asc "{") :: (1, asc "price") :: (2, dec p.price.toNat) :: (3, asc ";") :: (1, asc "packs") :: (2, dec p.packs.toNat) :: (1, asc "of") :: (2, dec p.size.toNat) :: (3, asc ";") ::
      (inK (p.levels.flatMap lvlS) ++ [(3, asc "}"), (0, [])]) := by
    rw [hL]
    simp only [planS, headS, inK, List.map_append, List.map_cons, List.map_nil, List.cons_append, List.nil_append, List.append_assoc]
    rfl
  obtain ⟨e1, h1⟩ := st_is hL' (by simp)
  obtain ⟨k2, w2, h2⟩ := st_next h1 (by simp)
  obtain ⟨e3, h3⟩ := st_is h2 (by simp)
  obtain ⟨k4, w4, h4⟩ := st_next h3 (by simp)
  obtain ⟨e5, h5⟩ := st_num h.1.1 h4 (by simp)
  obtain ⟨e6, h6⟩ := st_is h5 (by simp)
  obtain ⟨k7, w7, h7⟩ := st_next h6 (by simp)
  obtain ⟨e8, h8⟩ := st_num h.1.2 h7 (by simp)
  obtain ⟨e9, h9⟩ := st_is h8 (by simp)
  obtain ⟨e10, h10⟩ := st_num h.2 h9 (by simp)
  obtain ⟨e11, h11⟩ := st_is h10 (by simp)
  refine ⟨(hdT (nxT L)).text, w2, ?_⟩
  unfold planT
  rw [e1]
  dsimp only [thenT]
  rw [if_neg (fun e => e k2), e3]
  dsimp only
  obtain ⟨m, hm⟩ : ∃ m, L.length + 1 = m + 2 := ⟨L.length - 1, by omega⟩
  rw [hm]
  rw [itemsT, not_end h3 (by simp)]
  have eI : ∀ q : Pl, itemT (nxT (nxT (nxT L))) q false false = .ok (({ q with price := p.price }, true, false), nxT (nxT (nxT (nxT (nxT (nxT L)))))) := fun q => by
    unfold itemT
    rw [if_neg (fun e => e k4), w4, if_pos rfl, if_neg Bool.false_ne_true, e5]
    dsimp only [thenT]
    rw [e6]
  rw [eI]
  dsimp only
  rw [itemsT, not_end h6 (by simp)]
  have eJ : ∀ q : Pl, itemT (nxT (nxT (nxT (nxT (nxT (nxT L)))))) q true false = .ok (({ q with packs := p.packs, size := p.size }, true, true), nxT (nxT (nxT (nxT (nxT (nxT (nxT (nxT (nxT (nxT (nxT L))))))))))) := fun q => by
    unfold itemT
    rw [if_neg (fun e => e k7), w7, if_neg ne_pp, if_pos rfl, if_neg Bool.false_ne_true, e8]
    dsimp only [thenT]
    rw [e9]
    dsimp only
    rw [e10]
    dsimp only
    rw [e11]
  rw [eJ]
  dsimp only
  rw [items_read p.levels m _ _ true true hV (by omega) h11]
  rfl
/-- THE ROUND TRIP: a plan that has a text is read from it again. -/
theorem round_trip {p : Pl} (hne : printP p ≠ []) {s : ByteArray} (hs : bs s = printP p) (hsz : s.size ≤ 32768) : parseP s = (p, 0, 0) := by
  unfold printP at hne hs
  split at hne
  · rename_i hc
    rw [if_pos hc] at hs
    simp only [Bool.and_eq_true] at hc
    obtain ⟨⟨hn, hf⟩, hV⟩ := hc
    have hf' : (fitB p.price && fitB p.packs && fitB p.size) = true := by simp only [Bool.and_eq_true]; exact hf
    obtain ⟨L, e, hL⟩ := scan_Lx hsz (by rw [hs]; exact plan_Lx hn hf' hV)
    obtain ⟨nm, h1, h2⟩ := plan_read hf' hV hL
    have h3 : nm = p.name := bs_inj h1
    unfold parseP
    rw [e, if_neg (by show (0 : Int) ≠ 3; decide), if_neg (fun h => h rfl), h2, h3]
  · exact absurd rfl hne
end Go.Proofs.YtcnlopjjejdahaaDoor
/- Plain: chapter 41, a valid plan has a text; how long texts are. No program in sight. -/
namespace Go.Proofs.YtcnlopjjejdahaaDoor
theorem fit_of {n B : Int} (h0 : 0 ≤ n) (h1 : n ≤ B) (hB : B ≤ 999999999999999999) : fitB n = true := by
  unfold fitB
  simp only [Bool.and_eq_true, decide_eq_true_eq]
  omega
/-- What a valid plan's levels are. -/
theorem chkL_ok {P S : Int} (hP : 1 ≤ P ∧ P ≤ 32) (hS : 1 ≤ S ∧ S ≤ 256) : ∀ (L : List Lvl) (b c k : Int), b ≤ 1000000001 → chkL P S b c k L = 0 →
    ∀ v ∈ L, (1 ≤ v.prize ∧ v.prize < b) ∧ (1 ≤ v.count ∧ v.count ≤ 8192) ∧ (0 ≤ v.pack ∧ v.pack ≤ S) ∧ v.pack * P ≤ v.count
  | [], _, _, _, _, _ => fun v h => by cases h
  | v :: L, b, c, k, hb, h => by
    rw [chkL] at h
    split at h
    · cases h
    · rename_i h1
      split at h
      · cases h
      · rename_i h2
        simp only [Lvl.bad, not_or] at h1
        obtain ⟨a1, a2, a3, a4, a5, a6⟩ := h1
        have hm := (mul_bd (a := P) (b := S) (A := 32) (B := 256) (by omega) hP.2 (by omega) hS.2).2
        intro u hu
        rcases List.mem_cons.1 hu with rfl | hu
        · exact ⟨⟨by omega, by omega⟩, ⟨by omega, by omega⟩, ⟨by omega, by omega⟩, by omega⟩
        · obtain ⟨g1, g2, g3, g4⟩ := chkL_ok hP hS L v.prize (c + v.count) (k + v.pack) (by omega) h u hu
          exact ⟨⟨g1.1, by omega⟩, g2, g3, g4⟩
theorem chk_ok {p : Pl} (h : p.chk = 0) : nameB p.name = true ∧ (1 ≤ p.price ∧ p.price ≤ 1000000) ∧ (1 ≤ p.packs ∧ p.packs ≤ 32) ∧ (1 ≤ p.size ∧ p.size ≤ 256) ∧ (1 ≤ p.levels.length ∧ p.levels.length ≤ 12) ∧ chkL p.packs p.size 1000000001 0 0 p.levels = 0 := by
  unfold Pl.chk chk at h
  split at h
  · cases h
  · rename_i h1
    split at h
    · cases h
    · rename_i h2
      split at h
      · cases h
      · rename_i h3
        simp only [not_or] at h2
        obtain ⟨a1, a2, a3, a4, a5, a6⟩ := h2
        exact ⟨by cases hn : nameB p.name with | true => rfl | false => exact absurd hn h1, ⟨by omega, by omega⟩, ⟨by omega, by omega⟩, ⟨by omega, by omega⟩, ⟨by omega, by omega⟩, h⟩
theorem print_ok {p : Pl} (h : p.chk = 0) : printP p ≠ [] := by
  obtain ⟨h1, h2, h3, h4, h5, h6⟩ := chk_ok h
  have hv := chkL_ok h3 h4 _ _ _ _ (Int.le_refl _) h6
  unfold printP
  rw [if_pos]
  · rw [show asc "}\n" = 125 :: [10] by kernel_rfl]
    simp
  · simp only [Bool.and_eq_true]
    refine ⟨⟨h1, ⟨fit_of (by omega) h2.2 (by decide), fit_of (by omega) h3.2 (by decide)⟩, fit_of (by omega) h4.2 (by decide)⟩, ?_⟩
    rw [List.all_eq_true]
    intro v hm
    obtain ⟨g1, g2, g3, g4⟩ := hv v hm
    unfold Lvl.fits
    simp only [Bool.and_eq_true]
    exact ⟨⟨fit_of (B := 1000000001) (by omega) (by omega) (by decide), fit_of (by omega) g2.2 (by decide)⟩, fit_of (B := 256) (by omega) (by omega) (by decide)⟩
theorem fmt_len {n : Int} (h : fitB n = true) : (fmtI n).length ≤ 18 := by rw [fmt_dec h]; exact dec_len (fit_nat h).2
theorem lvlT_len {v : Lvl} (h : v.fits = true) : (lvlT v).length ≤ 80 := by
  unfold Lvl.fits at h
  simp only [Bool.and_eq_true] at h
  have h1 := fmt_len h.1.1
  have h2 := fmt_len h.1.2
  have h3 := fmt_len h.2
  have e1 : (asc "prize ").length = 6 := by decide +kernel
  have e2 : (asc " count ").length = 7 := by decide +kernel
  have e3 : (asc " pack ").length = 6 := by decide +kernel
  have e4 : (asc ";\n").length = 2 := by decide +kernel
  unfold lvlT
  simp only [List.length_append]
  omega
theorem lvlsT_len : ∀ (V : List Lvl), V.all Lvl.fits = true → (V.flatMap lvlT).length ≤ 80 * V.length
  | [], _ => by simp
  | v :: V, h => by
    rw [List.all_cons, Bool.and_eq_true] at h
    have h1 := lvlT_len h.1
    have h2 := lvlsT_len V h.2
    rw [List.flatMap_cons, List.length_append, List.length_cons]
    omega
theorem headT_len {p : Pl} (h : (fitB p.price && fitB p.packs && fitB p.size) = true) : (headT p).length ≤ 90 + p.name.size := by
  simp only [Bool.and_eq_true] at h
  have h1 := fmt_len h.1.1
  have h2 := fmt_len h.1.2
  have h3 := fmt_len h.2
  have e1 : (asc "deck ").length = 5 := by decide +kernel
  have e2 : (asc " {\n").length = 3 := by decide +kernel
  have e3 : (asc "price ").length = 6 := by decide +kernel
  have e4 : (asc ";\n").length = 2 := by decide +kernel
  have e5 : (asc "packs ").length = 6 := by decide +kernel
  have e6 : (asc " of ").length = 4 := by decide +kernel
  unfold headT
  simp only [List.length_append, bs_len]
  omega
theorem print_len (p : Pl) : (printP p).length ≤ 120 + 80 * p.levels.length := by
  unfold printP
  split
  · rename_i hc
    simp only [Bool.and_eq_true] at hc
    obtain ⟨⟨hn, hf⟩, hV⟩ := hc
    have h1 := headT_len (p := p) (by simp only [Bool.and_eq_true]; exact hf)
    have h2 := lvlsT_len _ hV
    have e : (asc "}\n").length = 2 := by decide +kernel
    simp only [nameB, Bool.and_eq_true, decide_eq_true_eq] at hn
    simp only [List.length_append]
    omega
  · simp
end Go.Proofs.YtcnlopjjejdahaaDoor
/- Plain: chapter 41, counting prizes: what a stored prize does to a count; shuffles keep their numbers. No program in sight. -/
namespace Go.Proofs.YtcnlopjjejdahaaDoor
/-- How many places that q names hold x; the first place is i. -/
def cntP (q : Nat → Bool) (x : Int) : Nat → List Int → Nat
  | _, [] => 0
  | i, z :: r => (if q i = true ∧ z = x then 1 else 0) + cntP q x (i + 1) r
theorem cntP_set (q : Nat → Bool) (x z : Int) : ∀ (Z : List Int) (i k : Nat), Z[k]? = some 0 →
    cntP q x i (Z.set k z) + (if q (i + k) = true ∧ (0 : Int) = x then 1 else 0) = cntP q x i Z + (if q (i + k) = true ∧ z = x then 1 else 0)
  | [], _, _, h => by cases h
  | y :: r, i, 0, h => by
    simp only [List.getElem?_cons_zero, Option.some.injEq] at h
    subst h
    simp only [List.set_cons_zero, cntP, Nat.add_zero]
    omega
  | y :: r, i, k + 1, h => by
    have ih := cntP_set q x z r (i + 1) k (by simpa using h)
    rw [show i + 1 + k = i + (k + 1) by omega] at ih
    simp only [List.set_cons_succ, cntP]
    omega
theorem cntP_zero (q : Nat → Bool) {x : Int} (hx : x ≠ 0) : ∀ (n i : Nat), cntP q x i (List.replicate n 0) = 0
  | 0, _ => rfl
  | n + 1, i => by rw [List.replicate_succ, cntP, cntP_zero q hx n, if_neg (fun h => hx h.2.symm)]
theorem cntP_all : ∀ (n i : Nat), cntP (fun _ => true) 0 i (List.replicate n 0) = n
  | 0, _ => rfl
  | n + 1, i => by rw [List.replicate_succ, cntP, cntP_all n, if_pos ⟨rfl, rfl⟩]; omega
/-! Shuffles. -/
theorem set_getD {l : List Int} {i : Nat} (h : i < l.length) (a : Int) (j : Nat) : (l.set i a).getD j 0 = if i = j then a else l.getD j 0 := by
  unfold List.getD
  rw [List.getElem?_set]
  by_cases e : i = j
  · subst e; simp [h]
  · simp [e]
theorem swp_getD {l : List Int} {i j : Nat} (hi : i < l.length) (hj : j < l.length) (k : Nat) : (swp l i j).getD k 0 = if k = j then l.getD i 0 else if k = i then l.getD j 0 else l.getD k 0 := by
  unfold swp
  rw [set_getD (by simpa using hj), set_getD hi]
  by_cases h1 : j = k
  · subst h1; simp
  · rw [if_neg h1, if_neg (show ¬ k = j from fun e => h1 e.symm)]
    by_cases h2 : i = k
    · subst h2; simp
    · rw [if_neg h2, if_neg (show ¬ k = i from fun e => h2 e.symm)]
theorem swp_len (l : List Int) (i j : Nat) : (swp l i j).length = l.length := by unfold swp; simp
/-- All different, as places of a list. -/
def Diff (l : List Int) : Prop := ∀ i j, i < l.length → j < l.length → l.getD i 0 = l.getD j 0 → i = j
theorem Diff.swp {l : List Int} (h : Diff l) {i j : Nat} (hi : i < l.length) (hj : j < l.length) : Diff (swp l i j) := by
  intro a b ha hb e
  rw [swp_len] at ha hb
  rw [swp_getD hi hj, swp_getD hi hj] at e
  have key : ∀ c, c < l.length → (if c = j then l.getD i 0 else if c = i then l.getD j 0 else l.getD c 0) = l.getD (if c = j then i else if c = i then j else c) 0 := by
    intro c _; split
    · rfl
    · split <;> rfl
  rw [key a ha, key b hb] at e
  have := h _ _ (by split; exact hi; split; exact hj; exact ha) (by split; exact hi; split; exact hj; exact hb) e
  split at this <;> split at this <;> (try split at this) <;> (try split at this) <;> omega
def Within (l : List Int) (a b : Int) : Prop := ∀ i, i < l.length → a ≤ l.getD i 0 ∧ l.getD i 0 ≤ b
theorem Within.swp {l : List Int} {a b : Int} (h : Within l a b) {i j : Nat} (hi : i < l.length) (hj : j < l.length) : Within (swp l i j) a b := by
  intro k hk
  rw [swp_len] at hk
  rw [swp_getD hi hj]
  split
  · exact h i hi
  · split
    · exact h j hj
    · exact h k hk
theorem belR_lt (n : Int) (hn : 1 ≤ n) : ∀ (f : Nat) (st : Int), (belR n f st).2.1 = 0 → 0 ≤ (belR n f st).1 ∧ (belR n f st).1 < n
  | 0, st, h => by cases h
  | f + 1, st, h => by
    rw [belR] at h ⊢
    split at h
    · rename_i hc
      rw [if_pos hc]
      exact ⟨Int.emod_nonneg _ (by omega), Int.emod_lt_of_pos _ (by omega)⟩
    · rename_i hc
      rw [if_neg hc]
      exact belR_lt n hn f _ h
theorem belE_lt {n st : Int} (h : (belE n st).2.1 = 0) : 1 ≤ n ∧ 0 ≤ (belE n st).1 ∧ (belE n st).1 < n := by
  unfold belE at h ⊢
  split at h
  · cases h
  · rename_i hc
    rw [if_neg hc]
    exact ⟨by omega, belR_lt n (by omega) 64 st h⟩
theorem shufE_keeps : ∀ (i : Nat) (l : List Int) (st : Int) (a b : Int), i < l.length → Diff l → Within l a b → (shufE i l st).2.1 = 0 →
    (shufE i l st).1.length = l.length ∧ Diff (shufE i l st).1 ∧ Within (shufE i l st).1 a b
  | 0, l, st, a, b, _, hd, hw, _ => ⟨rfl, hd, hw⟩
  | i + 1, l, st, a, b, hi, hd, hw, h => by
    rw [shufE] at h ⊢
    split at h
    · rename_i he
      rw [if_pos he]
      have hb := belE_lt he
      have hj : (belE (i + 2) st).1.toNat < l.length := by omega
      obtain ⟨h1, h2, h3⟩ := shufE_keeps i (swp l (i + 1) (belE (i + 2) st).1.toNat) (belE (i + 2) st).2.2 a b (by rw [swp_len]; omega) (hd.swp hi hj) (hw.swp hi hj) h
      exact ⟨by rw [h1, swp_len], h2, h3⟩
    · rename_i he
      exact absurd h he
theorem asc1_len (n : Nat) : (asc1 n).length = n := by unfold asc1; simp
theorem asc1_get {n i : Nat} (h : i < n) : (asc1 n).getD i 0 = (i : Int) + 1 := by
  unfold asc1 List.getD
  rw [List.getElem?_map, List.getElem?_range h]
  rfl
theorem shuS_keeps {n : Nat} {st : Int} (hn : 1 ≤ n) (h : (shuS n st).2.1 = 0) : (shuS n st).1.length = n ∧ Diff (shuS n st).1 ∧ Within (shuS n st).1 1 n := by
  have h1 : Diff (asc1 n) := fun i j hi hj e => by
    rw [asc1_len] at hi hj
    rw [asc1_get hi, asc1_get hj] at e
    omega
  have h2 : Within (asc1 n) 1 n := fun i hi => by
    rw [asc1_len] at hi
    rw [asc1_get hi]
    omega
  have := shufE_keeps (n - 1) (asc1 n) st 1 n (by rw [asc1_len]; omega) h1 h2 h
  rw [asc1_len] at this
  exact this
end Go.Proofs.YtcnlopjjejdahaaDoor
/- Plain: chapter 41, how often a deck holds a prize. No program in sight. -/
namespace Go.Proofs.YtcnlopjjejdahaaDoor
theorem set_other {Z : List Int} {i j : Nat} {z : Int} (h : i ≠ j) : (Z.set i z)[j]? = Z[j]? := List.getElem?_set_ne h
theorem putZ_len (base : Nat) (o : List Int) : ∀ (sure : List Int) (k : Nat) (Z : List Int), (putZ base o k sure Z).length = Z.length
  | [], _, _ => rfl
  | z :: r, k, Z => by rw [putZ, putZ_len base o r]; simp
theorem putZ_else {S base i : Nat} {o : List Int} (hw : Within o 1 S) (hi : i < base ∨ base + S ≤ i) : ∀ (sure : List Int) (k : Nat) (Z : List Int), k + sure.length ≤ o.length → (putZ base o k sure Z)[i]? = Z[i]?
  | [], _, _, _ => rfl
  | z :: r, k, Z, hl => by
    rw [List.length_cons] at hl
    have := hw k (by omega)
    rw [putZ, putZ_else hw hi r (k + 1) _ (by omega), set_other (by omega)]
theorem putZ_count {S base : Nat} {o : List Int} {q : Nat → Bool} {b : Bool} (x : Int) (hd : Diff o) (hw : Within o 1 S) (hq : ∀ m, m < S → q (base + m) = b) :
    ∀ (sure : List Int) (k : Nat) (Z : List Int), (∀ z ∈ sure, z ≠ 0) → k + sure.length ≤ o.length → (∀ j, k ≤ j → j < o.length → Z[base + (o.getD j 0 - 1).toNat]? = some 0) →
    cntP q x 0 (putZ base o k sure Z) + (if b = true ∧ (0 : Int) = x then sure.length else 0) = cntP q x 0 Z + (if b = true then sure.count x else 0)
  | [], k, Z, _, _, _ => by rw [putZ]; simp
  | z :: r, k, Z, hz, hl, h0 => by
    rw [List.length_cons] at hl
    have hk := hw k (by omega)
    have ih := putZ_count x hd hw hq r (k + 1) (Z.set (base + (o.getD k 0 - 1).toNat) z) (fun u hu => hz u (by simp [hu])) (by omega) (fun j h1 h2 => by
      have hj := hw j h2
      have : base + (o.getD k 0 - 1).toNat ≠ base + (o.getD j 0 - 1).toNat := fun e => by
        have := hd k j (by omega) h2 (by omega)
        omega
      rw [set_other this]
      exact h0 j (by omega) h2)
    have hs := cntP_set q x z Z 0 (base + (o.getD k 0 - 1).toNat) (h0 k (Nat.le_refl _) (by omega))
    rw [Nat.zero_add, hq _ (by omega)] at hs
    rw [putZ, List.count_cons, List.length_cons]
    have hzx : (z == x) = true ↔ z = x := beq_iff_eq
    cases b with
    | false => simp at *; omega
    | true =>
      by_cases h1 : z = x
      · have h2 : (0 : Int) ≠ x := fun e => hz z (by simp) (by omega)
        simp [h1, h2] at *; omega
      · by_cases h2 : (0 : Int) = x
        · simp [h1, h2] at *; omega
        · simp [h1, h2] at *; omega
/-- How many of f packs from the k-th on a test names. -/
def packsB (b : Nat → Bool) : Nat → Nat → Nat
  | _, 0 => 0
  | k, f + 1 => (if b k = true then 1 else 0) + packsB b (k + 1) f
theorem guaE_count {S N : Nat} {q b : Nat → Bool} {sure : List Int} (x : Int) (hS : 1 ≤ S) (hl : sure.length ≤ S) (hz : ∀ z ∈ sure, z ≠ 0) (hq : ∀ k m, m < S → q (k * S + m) = b k) :
    ∀ (f k : Nat) (Z : List Int) (st : Int), Z.length = N → (k + f) * S ≤ N → (∀ i, k * S ≤ i → i < N → Z[i]? = some 0) → (guaE S sure f k Z st).2.1 = 0 →
    (guaE S sure f k Z st).1.length = N ∧
    cntP q x 0 (guaE S sure f k Z st).1 + (if (0 : Int) = x then packsB b k f * sure.length else 0) = cntP q x 0 Z + packsB b k f * sure.count x
  | 0, k, Z, st, hN, _, _, _ => ⟨hN, by rw [guaE, packsB]; simp⟩
  | f + 1, k, Z, st, hN, hkf, h0, h => by
    rw [guaE] at h ⊢
    split at h
    · rename_i he
      rw [if_pos he]
      obtain ⟨o1, o2, o3⟩ := shuS_keeps hS he
      generalize shuS S st = o at *
      have hm : (k + 1) * S ≤ N := Nat.le_trans (Nat.mul_le_mul_right S (by omega)) hkf
      rw [Nat.succ_mul] at hm
      have hpos : ∀ j, 0 ≤ j → j < o.1.length → Z[k * S + (o.1.getD j 0 - 1).toNat]? = some 0 := fun j _ hj => by
        have := o3 j hj
        exact h0 _ (by omega) (by omega)
      have hp := putZ_count (base := k * S) (q := q) (b := b k) x o2 o3 (fun m hm => hq k m hm) sure 0 Z hz (by omega) hpos
      obtain ⟨g1, g2⟩ := guaE_count x hS hl hz hq f (k + 1) (putZ (k * S) o.1 0 sure Z) o.2.2 (by rw [putZ_len, hN]) (by rw [show k + 1 + f = k + (f + 1) by omega]; exact hkf)
        (fun i h1 h2 => by
          rw [Nat.succ_mul] at h1
          rw [putZ_else o3 (Or.inr h1) sure 0 Z (by omega)]
          exact h0 i (by omega) h2) h
      refine ⟨g1, ?_⟩
      rw [packsB]
      cases hb : b k with
      | false => simp [hb] at *; omega
      | true =>
        rw [hb] at hp
        simp only [if_true, true_and] at hp
        rw [if_pos rfl, Nat.add_mul, Nat.add_mul, Nat.one_mul, Nat.one_mul]
        by_cases h2 : (0 : Int) = x
        · rw [if_pos h2] at hp g2 ⊢
          omega
        · rw [if_neg h2] at hp g2 ⊢
          omega
    · rename_i he
      exact absurd h he
theorem scaE_count (x : Int) : ∀ (rest free : List Int) (i : Nat) (Z : List Int) (st : Int), Diff free → (∀ z ∈ rest, z ≠ 0) → (∀ j, j < free.length → 0 ≤ free.getD j 0) → (∀ j, i ≤ j → j < free.length → Z[(free.getD j 0).toNat]? = some 0) →
    (scaE rest free i Z st).2.1 = 0 →
    (scaE rest free i Z st).1.length = Z.length ∧
    (∀ q, cntP q x 0 Z ≤ cntP q x 0 (scaE rest free i Z st).1 + (if (0 : Int) = x then rest.length else 0)) ∧
    cntP (fun _ => true) x 0 (scaE rest free i Z st).1 + (if (0 : Int) = x then rest.length else 0) = cntP (fun _ => true) x 0 Z + rest.count x
  | [], free, i, Z, st, _, _, _, _, _ => ⟨rfl, fun q => (by rw [scaE]; exact Nat.le_add_right _ _), by rw [scaE]; simp⟩
  | z :: r, free, i, Z, st, hd, hz, hn, h0, h => by
    rw [scaE] at h ⊢
    split at h
    · rename_i he
      rw [if_pos he]
      have hb := belE_lt he
      generalize belE ((free.length : Int) - i) st = o at *
      have hi : i < free.length := by omega
      have hj : i + o.1.toNat < free.length := by omega
      have hg : (swp free i (i + o.1.toNat)).getD i 0 = free.getD (i + o.1.toNat) 0 := by
        rw [swp_getD hi hj]
        split
        · rename_i e; rw [← e]
        · rw [if_pos rfl]
      have hpl := h0 (i + o.1.toNat) (by omega) hj
      have hnz : z ≠ 0 := hz z (by simp)
      rw [hg] at h ⊢
      obtain ⟨g1, g2, g3⟩ := scaE_count x r (swp free i (i + o.1.toNat)) (i + 1) (Z.set (free.getD (i + o.1.toNat) 0).toNat z) o.2.2 (hd.swp hi hj) (fun u hu => hz u (by simp [hu]))
        (fun j h1 => by
          rw [swp_len] at h1
          rw [swp_getD hi hj]
          split
          · exact hn i hi
          · split
            · exact hn _ hj
            · exact hn j h1)
        (fun j h1 h2 => by
          rw [swp_len] at h2
          rw [swp_getD hi hj]
          by_cases e : j = i + o.1.toNat
          · rw [if_pos e]
            have hne : free.getD (i + o.1.toNat) 0 ≠ free.getD i 0 := fun e2 => by
              have := hd _ _ hj hi e2
              omega
            have ha := hn i hi
            have hb2 := hn _ hj
            rw [set_other (by omega)]
            exact h0 i (Nat.le_refl _) hi
          · rw [if_neg e, if_neg (by omega)]
            have hne : free.getD (i + o.1.toNat) 0 ≠ free.getD j 0 := fun e2 => e (hd _ _ hj h2 e2).symm
            have ha := hn j h2
            have hb2 := hn _ hj
            rw [set_other (by omega)]
            exact h0 j (by omega) h2) h
      have hs := fun q => cntP_set q x z Z 0 (free.getD (i + o.1.toNat) 0).toNat hpl
      refine ⟨by rw [g1]; simp, fun q => ?_, ?_⟩
      · have a := g2 q
        have b := hs q
        rw [List.length_cons]
        by_cases h2 : (0 : Int) = x
        · simp only [h2, and_true] at *
          split at b <;> split at b <;> simp at * <;> omega
        · simp only [h2, and_false, if_false] at *
          omega
      · have b := hs fun _ => true
        rw [List.length_cons, List.count_cons]
        by_cases h1 : z = x
        · have h2 : (0 : Int) ≠ x := fun e => hnz (by omega)
          simp [h1, h2] at *; omega
        · by_cases h2 : (0 : Int) = x
          · simp [h1, h2] at *; omega
          · simp [h1, h2] at *; omega
    · rename_i he
      exact absurd h he
end Go.Proofs.YtcnlopjjejdahaaDoor
/- Plain: chapter 41, sums over a deck's prizes. No program in sight. -/
namespace Go.Proofs.YtcnlopjjejdahaaDoor
def tot (w : Int → Int) (Z : List Int) : Int := (Z.map w).sum
theorem tot_cons (w : Int → Int) (z : Int) (r : List Int) : tot w (z :: r) = w z + tot w r := by unfold tot; rw [List.map_cons, List.sum_cons]
theorem tot_set {w : Int → Int} (w0 : w 0 = 0) (z : Int) : ∀ (Z : List Int) (k : Nat), Z[k]? = some 0 → tot w (Z.set k z) = tot w Z + w z
  | [], _, h => by cases h
  | y :: r, 0, h => by
    simp only [List.getElem?_cons_zero, Option.some.injEq] at h
    subst h
    rw [List.set_cons_zero, tot_cons, tot_cons, w0]
    omega
  | y :: r, k + 1, h => by
    rw [List.set_cons_succ, tot_cons, tot_cons, tot_set w0 z r k (by simpa using h)]
    omega
theorem tot_zero {w : Int → Int} (w0 : w 0 = 0) : ∀ n, tot w (List.replicate n 0) = 0
  | 0 => rfl
  | n + 1 => by rw [List.replicate_succ, tot_cons, tot_zero w0 n, w0]; rfl
theorem putZ_tot {S base : Nat} {o : List Int} {w : Int → Int} (w0 : w 0 = 0) (hd : Diff o) (hw : Within o 1 S) :
    ∀ (sure : List Int) (k : Nat) (Z : List Int), k + sure.length ≤ o.length → (∀ j, k ≤ j → j < o.length → Z[base + (o.getD j 0 - 1).toNat]? = some 0) →
    tot w (putZ base o k sure Z) = tot w Z + tot w sure
  | [], k, Z, _, _ => by rw [putZ]; exact (Int.add_zero _).symm
  | z :: r, k, Z, hl, h0 => by
    rw [List.length_cons] at hl
    have hk := hw k (by omega)
    rw [putZ, putZ_tot w0 hd hw r (k + 1) (Z.set (base + (o.getD k 0 - 1).toNat) z) (by omega) (fun j h1 h2 => by
      have hj := hw j h2
      have : base + (o.getD k 0 - 1).toNat ≠ base + (o.getD j 0 - 1).toNat := fun e => by
        have := hd k j (by omega) h2 (by omega)
        omega
      rw [set_other this]
      exact h0 j (by omega) h2), tot_set w0 z Z _ (h0 k (Nat.le_refl _) (by omega)), tot_cons]
    omega
theorem guaE_tot {S N : Nat} {w : Int → Int} {sure : List Int} (w0 : w 0 = 0) (hS : 1 ≤ S) (hl : sure.length ≤ S) :
    ∀ (f k : Nat) (Z : List Int) (st : Int), Z.length = N → (k + f) * S ≤ N → (∀ i, k * S ≤ i → i < N → Z[i]? = some 0) → (guaE S sure f k Z st).2.1 = 0 →
    tot w (guaE S sure f k Z st).1 = tot w Z + f * tot w sure
  | 0, k, Z, st, hN, _, _, _ => by rw [guaE]; simp
  | f + 1, k, Z, st, hN, hkf, h0, h => by
    rw [guaE] at h ⊢
    split at h
    · rename_i he
      rw [if_pos he]
      obtain ⟨o1, o2, o3⟩ := shuS_keeps hS he
      generalize shuS S st = o at *
      have hm : (k + 1) * S ≤ N := Nat.le_trans (Nat.mul_le_mul_right S (by omega)) hkf
      rw [Nat.succ_mul] at hm
      have hpos : ∀ j, 0 ≤ j → j < o.1.length → Z[k * S + (o.1.getD j 0 - 1).toNat]? = some 0 := fun j _ hj => by
        have := o3 j hj
        exact h0 _ (by omega) (by omega)
      rw [guaE_tot w0 hS hl f (k + 1) (putZ (k * S) o.1 0 sure Z) o.2.2 (by rw [putZ_len, hN]) (by rw [show k + 1 + f = k + (f + 1) by omega]; exact hkf)
        (fun i h1 h2 => by
          rw [Nat.succ_mul] at h1
          rw [putZ_else o3 (Or.inr h1) sure 0 Z (by omega)]
          exact h0 i (by omega) h2) h, putZ_tot w0 o2 o3 sure 0 Z (by omega) hpos, cast1, Int.add_mul, Int.one_mul]
      omega
    · rename_i he
      exact absurd h he
theorem scaE_tot {w : Int → Int} (w0 : w 0 = 0) : ∀ (rest free : List Int) (i : Nat) (Z : List Int) (st : Int), Diff free → (∀ j, j < free.length → 0 ≤ free.getD j 0) → (∀ j, i ≤ j → j < free.length → Z[(free.getD j 0).toNat]? = some 0) →
    (scaE rest free i Z st).2.1 = 0 → tot w (scaE rest free i Z st).1 = tot w Z + tot w rest
  | [], free, i, Z, st, _, _, _, _ => by rw [scaE]; exact (Int.add_zero _).symm
  | z :: r, free, i, Z, st, hd, hn, h0, h => by
    rw [scaE] at h ⊢
    split at h
    · rename_i he
      rw [if_pos he]
      have hb := belE_lt he
      generalize belE ((free.length : Int) - i) st = o at *
      have hi : i < free.length := by omega
      have hj : i + o.1.toNat < free.length := by omega
      have hg : (swp free i (i + o.1.toNat)).getD i 0 = free.getD (i + o.1.toNat) 0 := by
        rw [swp_getD hi hj]
        split
        · rename_i e; rw [← e]
        · rw [if_pos rfl]
      have hpl := h0 (i + o.1.toNat) (by omega) hj
      rw [hg] at h ⊢
      rw [scaE_tot w0 r (swp free i (i + o.1.toNat)) (i + 1) (Z.set (free.getD (i + o.1.toNat) 0).toNat z) o.2.2 (hd.swp hi hj)
        (fun j h1 => by
          rw [swp_len] at h1
          rw [swp_getD hi hj]
          split
          · exact hn i hi
          · split
            · exact hn _ hj
            · exact hn j h1)
        (fun j h1 h2 => by
          rw [swp_len] at h2
          rw [swp_getD hi hj]
          by_cases e : j = i + o.1.toNat
          · rw [if_pos e]
            have hne : free.getD (i + o.1.toNat) 0 ≠ free.getD i 0 := fun e2 => by
              have := hd _ _ hj hi e2
              omega
            have ha := hn i hi
            have hb2 := hn _ hj
            rw [set_other (by omega)]
            exact h0 i (Nat.le_refl _) hi
          · rw [if_neg e, if_neg (by omega)]
            have hne : free.getD (i + o.1.toNat) 0 ≠ free.getD j 0 := fun e2 => e (hd _ _ hj h2 e2).symm
            have ha := hn j h2
            have hb2 := hn _ hj
            rw [set_other (by omega)]
            exact h0 j (by omega) h2) h, tot_set w0 z Z _ hpl, tot_cons]
      omega
    · rename_i he
      exact absurd h he
/-! The free places. -/
theorem filt_get (Q : Nat → Bool) (n : Nat) : ∀ j, j < ((List.range n).filter Q).length → ∃ i, ((List.range n).filter Q)[j]? = some i ∧ i < n ∧ Q i = true := by
  intro j hj
  refine ⟨_, List.getElem?_eq_getElem hj, ?_⟩
  have := List.getElem_mem hj
  rw [List.mem_filter, List.mem_range] at this
  exact this
theorem freeL_len (Z : List Int) : (freeL Z).length = ((List.range Z.length).filter fun i => Z.getD i 1 = 0).length := by unfold freeL; rw [List.length_map]
theorem freeL_get {Z : List Int} {j : Nat} (h : j < (freeL Z).length) : ∃ i : Nat, (freeL Z).getD j 0 = (i : Int) ∧ Z[i]? = some 0 ∧ ((List.range Z.length).filter fun i => Z.getD i 1 = 0)[j]? = some i := by
  rw [freeL_len] at h
  obtain ⟨i, h1, h2, h3⟩ := filt_get _ _ j h
  refine ⟨i, ?_, ?_, h1⟩
  · unfold freeL
    rw [List.getD_eq_getElem?_getD, List.getElem?_map, h1]
    rfl
  · have h4 : Z.getD i 1 = 0 := by simpa using h3
    rw [List.getD_eq_getElem?_getD, List.getElem?_eq_getElem h2] at h4
    rw [List.getElem?_eq_getElem h2]
    exact congrArg some h4
theorem freeL_diff (Z : List Int) : Diff (freeL Z) := by
  intro a b ha hb e
  obtain ⟨i, h1, _, h3⟩ := freeL_get ha
  obtain ⟨j, g1, _, g3⟩ := freeL_get hb
  rw [h1, g1] at e
  have hij : i = j := by omega
  subst hij
  have hn : ((List.range Z.length).filter fun i => Z.getD i 1 = 0).Nodup := List.nodup_range.filter _
  obtain ⟨ha', ha2⟩ := List.getElem?_eq_some_iff.1 h3
  obtain ⟨hb', hb2⟩ := List.getElem?_eq_some_iff.1 g3
  have hp := List.pairwise_iff_getElem.1 hn
  rcases Nat.lt_trichotomy a b with h | h | h
  · exact absurd (ha2.trans hb2.symm) (hp a b ha' hb' h)
  · exact h
  · exact absurd (hb2.trans ha2.symm) (hp b a hb' ha' h)
theorem freeL_zero {Z : List Int} : ∀ j, j < (freeL Z).length → 0 ≤ (freeL Z).getD j 0 ∧ Z[((freeL Z).getD j 0).toNat]? = some 0 := fun j h => by
  obtain ⟨i, h1, h2, _⟩ := freeL_get h
  rw [h1]
  exact ⟨by omega, by simpa using h2⟩
end Go.Proofs.YtcnlopjjejdahaaDoor
/- Plain: chapter 41, what the deck of a valid plan holds. No program in sight. -/
namespace Go.Proofs.YtcnlopjjejdahaaDoor
def flatG (g : Lvl → Nat) (L : List Lvl) : List Int := L.flatMap fun v => List.replicate (g v) v.prize
theorem flatG_cons (g : Lvl → Nat) (v : Lvl) (L : List Lvl) : flatG g (v :: L) = List.replicate (g v) v.prize ++ flatG g L := by unfold flatG; rw [List.flatMap_cons]
theorem sureL_flat (L : List Lvl) : sureL L = flatG (fun v => v.pack.toNat) L := rfl
theorem restL_flat (P : Int) (L : List Lvl) : restL P L = flatG (fun v => (v.count - v.pack * P).toNat) L := rfl
theorem flatG_mem {g : Lvl → Nat} {L : List Lvl} {z : Int} (h : z ∈ flatG g L) : ∃ v ∈ L, z = v.prize := by
  unfold flatG at h
  obtain ⟨v, hv, hz⟩ := List.mem_flatMap.1 h
  exact ⟨v, hv, (List.mem_replicate.1 hz).2⟩
theorem flatG_none {g : Lvl → Nat} {L : List Lvl} {x : Int} (h : ∀ u ∈ L, u.prize ≠ x) : (flatG g L).count x = 0 :=
  List.count_eq_zero.2 fun hm => by obtain ⟨v, hv, e⟩ := flatG_mem hm; exact h v hv e.symm
theorem chkL_next {P S b c k : Int} {v : Lvl} {L : List Lvl} (h : chkL P S b c k (v :: L) = 0) : chkL P S v.prize (c + v.count) (k + v.pack) L = 0 := by
  rw [chkL] at h
  split at h
  · cases h
  · split at h
    · cases h
    · exact h
theorem flatG_count {g : Lvl → Nat} {P S : Int} (hP : 1 ≤ P ∧ P ≤ 32) (hS : 1 ≤ S ∧ S ≤ 256) : ∀ (L : List Lvl) (b c k : Int), b ≤ 1000000001 → chkL P S b c k L = 0 → ∀ v ∈ L, (flatG g L).count v.prize = g v
  | [], _, _, _, _, _ => fun v h => by cases h
  | v :: L, b, c, k, hb, h => by
    have hv := (chkL_ok hP hS (v :: L) b c k hb h v (by simp)).1
    have h' := chkL_next h
    have hlt := fun u hu => (chkL_ok hP hS L v.prize _ _ (by omega) h' u hu).1.2
    intro u hu
    rw [flatG_cons, List.count_append, List.count_replicate]
    rcases List.mem_cons.1 hu with e | hu
    · subst e
      rw [flatG_none (fun w hw => by have := hlt w hw; omega)]
      simp
    · have h3 := hlt u hu
      rw [flatG_count hP hS L v.prize _ _ (by omega) h' u hu]
      have : (v.prize == u.prize) = false := by rw [beq_eq_false_iff_ne]; omega
      rw [this]
      simp
def sumC (L : List Lvl) : Int := (L.map Lvl.count).sum
def sumK (L : List Lvl) : Int := (L.map Lvl.pack).sum
theorem sumC_cons (v : Lvl) (L : List Lvl) : sumC (v :: L) = v.count + sumC L := by unfold sumC; rw [List.map_cons, List.sum_cons]
theorem sumK_cons (v : Lvl) (L : List Lvl) : sumK (v :: L) = v.pack + sumK L := by unfold sumK; rw [List.map_cons, List.sum_cons]
theorem chkL_sum {P S : Int} : ∀ (L : List Lvl) (b c k : Int), chkL P S b c k L = 0 → c + sumC L ≤ P * S ∧ k + sumK L ≤ S
  | [], b, c, k, h => by
    rw [chkL] at h
    split at h
    · cases h
    · rename_i h1
      have e1 : sumC [] = 0 := rfl
      have e2 : sumK [] = 0 := rfl
      omega
  | v :: L, b, c, k, h => by
    have := chkL_sum L _ _ _ (chkL_next h)
    rw [sumC_cons, sumK_cons]
    omega
theorem sure_len : ∀ (L : List Lvl), (∀ v ∈ L, 0 ≤ v.pack) → ((sureL L).length : Int) = sumK L
  | [], _ => rfl
  | v :: L, h => by
    have ih := sure_len L fun u hu => h u (by simp [hu])
    have := h v (by simp)
    rw [sureL_flat] at ih ⊢
    rw [flatG_cons, List.length_append, List.length_replicate, sumK_cons]
    omega
theorem rest_len {P : Int} : ∀ (L : List Lvl), (∀ v ∈ L, v.pack * P ≤ v.count) → ((restL P L).length : Int) = sumC L - sumK L * P
  | [], _ => by rw [show sumK [] = 0 from rfl, Int.zero_mul]; rfl
  | v :: L, h => by
    have ih := rest_len L fun u hu => h u (by simp [hu])
    have := h v (by simp)
    rw [restL_flat] at ih ⊢
    rw [flatG_cons, List.length_append, List.length_replicate, sumK_cons, sumC_cons, Int.add_mul]
    omega
theorem tot_append (w : Int → Int) (a b : List Int) : tot w (a ++ b) = tot w a + tot w b := by unfold tot; rw [List.map_append, List.sum_append]
theorem tot_rep (w : Int → Int) (z : Int) : ∀ n : Nat, tot w (List.replicate n z) = n * w z
  | 0 => by rw [List.replicate_zero]; simp [tot]
  | n + 1 => by rw [List.replicate_succ, tot_cons, tot_rep w z n, cast1, Int.add_mul, Int.one_mul, Int.add_comm]
theorem tot_both {P : Int} (w : Int → Int) : ∀ (L : List Lvl), (∀ v ∈ L, 0 ≤ v.pack ∧ v.pack * P ≤ v.count) →
    P * tot w (sureL L) + tot w (restL P L) = (L.map fun v => w v.prize * v.count).sum
  | [], _ => by rw [show sureL [] = [] from rfl, show restL P [] = [] from rfl]; simp [tot]
  | v :: L, h => by
    have ih := tot_both w L fun u hu => h u (by simp [hu])
    have h1 := h v (by simp)
    rw [sureL_flat, restL_flat] at ih ⊢
    rw [flatG_cons, flatG_cons, tot_append, tot_append, tot_rep, tot_rep, List.map_cons, List.sum_cons, Int.toNat_of_nonneg h1.1, Int.toNat_of_nonneg (by omega), Int.mul_add, Int.sub_mul, ← Int.mul_assoc, Int.mul_comm P v.pack, Int.mul_comm (w v.prize) v.count]
    omega
/-! Errors. -/
theorem belR_err (n : Int) : ∀ (f : Nat) (st : Int), (belR n f st).2.1 = 0 ∨ (belR n f st).2.1 = 11
  | 0, _ => Or.inr rfl
  | f + 1, st => by
    rw [belR]
    split
    · exact Or.inl rfl
    · exact belR_err n f _
theorem belE_err {n : Int} (st : Int) (h1 : 1 ≤ n) (h2 : n ≤ 2147483648) : (belE n st).2.1 = 0 ∨ (belE n st).2.1 = 11 := by
  unfold belE
  rw [if_neg (by omega)]
  exact belR_err n 64 st
theorem shufE_err : ∀ (i : Nat) (l : List Int) (st : Int), i ≤ 5000 → (shufE i l st).2.1 = 0 ∨ (shufE i l st).2.1 = 11
  | 0, _, _, _ => Or.inl rfl
  | i + 1, l, st, h => by
    rw [shufE]
    split
    · exact shufE_err i _ _ (by omega)
    · exact belE_err st (by omega) (by omega)
theorem guaE_err {S : Nat} (hS : S ≤ 5000) (sure : List Int) : ∀ (f k : Nat) (Z : List Int) (st : Int), (guaE S sure f k Z st).2.1 = 0 ∨ (guaE S sure f k Z st).2.1 = 11
  | 0, _, _, _ => Or.inl rfl
  | f + 1, k, Z, st => by
    rw [guaE]
    split
    · exact guaE_err hS sure f _ _ _
    · exact shufE_err (S - 1) _ st (by omega)
theorem scaE_err : ∀ (rest free : List Int) (i : Nat) (Z : List Int) (st : Int), i + rest.length ≤ free.length → free.length ≤ 2147483648 → (scaE rest free i Z st).2.1 = 0 ∨ (scaE rest free i Z st).2.1 = 11
  | [], _, _, _, _, _, _ => Or.inl rfl
  | z :: r, free, i, Z, st, h, hm => by
    rw [List.length_cons] at h
    rw [scaE]
    split
    · exact scaE_err r _ _ _ _ (by rw [swp_len]; omega) (by rw [swp_len]; omega)
    · exact belE_err st (by omega) (by omega)
/-! How many places are free. -/
theorem freeL_count : ∀ (Z : List Int) (i : Nat), cntP (fun _ => true) 0 i Z = ((List.range Z.length).filter fun i => Z.getD i 1 = 0).length
  | [], _ => rfl
  | z :: r, i => by
    rw [cntP, freeL_count r (i + 1), List.length_cons, List.range_succ_eq_map, List.filter_cons, List.filter_map, show ((fun i => decide ((z :: r).getD i 1 = 0)) ∘ Nat.succ) = fun i => decide (r.getD i 1 = 0) from rfl]
    by_cases hz : z = 0
    · subst hz
      simp
      omega
    · have : ¬ decide ((z :: r).getD 0 1 = 0) = true := by simpa using hz
      rw [if_neg this, List.length_map, if_neg (by simpa using hz)]
      omega
theorem packsB_all : ∀ (f k : Nat), packsB (fun _ => true) k f = f
  | 0, _ => rfl
  | f + 1, k => by rw [packsB, packsB_all f]; simp; omega
theorem packsB_one (K : Nat) : ∀ (f k : Nat), packsB (fun k => decide (k + 1 = K)) k f = if k + 1 ≤ K ∧ K ≤ k + f then 1 else 0
  | 0, k => by rw [packsB, if_neg (by omega)]
  | f + 1, k => by
    rw [packsB, packsB_one K f]
    simp only [decide_eq_true_eq]
    split <;> split <;> split <;> omega
theorem tot_nonneg {w : Int → Int} (hw : ∀ z, 0 ≤ w z) : ∀ (Z : List Int), 0 ≤ tot w Z
  | [] => Int.le_refl _
  | z :: r => by rw [tot_cons]; have := tot_nonneg hw r; have := hw z; omega
theorem tot_none {w : Int → Int} (hw : ∀ z, 0 ≤ w z) : ∀ (Z : List Int), tot w Z = 0 → ∀ z ∈ Z, w z = 0
  | [], _ => fun z h => by cases h
  | z :: r, h => by
    rw [tot_cons] at h
    have h1 := tot_nonneg hw r
    have h2 := hw z
    intro u hu
    rcases List.mem_cons.1 hu with e | hu
    · subst e; omega
    · exact tot_none hw r (by omega) u hu
/-- Is it no prize: a number below 0 or above the greatest. -/
def offW (z : Int) : Int := if z < 0 ∨ 1000000000 < z then 1 else 0
theorem sumW_none {w : Int → Int} : ∀ (L : List Lvl), (∀ v ∈ L, w v.prize = 0) → (L.map fun v => w v.prize * v.count).sum = 0
  | [], _ => rfl
  | v :: L, h => by rw [List.map_cons, List.sum_cons, sumW_none L (fun u hu => h u (by simp [hu])), h v (by simp), Int.zero_mul]; rfl
structure DeckOk (p s : Nat) (L : List Lvl) (Z : List Int) : Prop where
  len : Z.length = p * s
  all : ∀ v ∈ L, (cntP (fun _ => true) v.prize 0 Z : Int) = v.count
  per : ∀ k : Nat, 1 ≤ k → k ≤ p → ∀ v ∈ L, v.pack ≤ cntP (fun i => decide (i / s + 1 = k)) v.prize 0 Z
  none : (cntP (fun _ => true) 0 0 Z : Int) = p * s - sumC L
  sum : tot (fun z => z) Z = paid L
  ran : ∀ z ∈ Z, 0 ≤ z ∧ z ≤ 1000000000
theorem deckZ_ok {p s : Nat} {L : List Lvl} (hp : 1 ≤ p ∧ p ≤ 32) (hs : 1 ≤ s ∧ s ≤ 256) (hc : chkL p s 1000000001 0 0 L = 0) (seed : Int) :
    ((deckZ p s L seed).2 = 0 ∧ DeckOk p s L (deckZ p s L seed).1) ∨ ((deckZ p s L seed).2 = 11 ∧ (deckZ p s L seed).1 = []) := by
  have hP : 1 ≤ (p : Int) ∧ (p : Int) ≤ 32 := by omega
  have hS : 1 ≤ (s : Int) ∧ (s : Int) ≤ 256 := by omega
  have hv := chkL_ok hP hS L _ _ _ (Int.le_refl _) hc
  have hsum := chkL_sum L _ _ _ hc
  have hms : (p : Int) * s ≤ 32 * 256 := Int.mul_le_mul hP.2 hS.2 (by omega) (by omega)
  have hsl := sure_len L fun v h => (hv v h).2.2.1.1
  have hrl := rest_len (P := p) L fun v h => (hv v h).2.2.2
  have hsz : ∀ z ∈ sureL L, z ≠ 0 := fun z hz => by
    obtain ⟨v, h1, rfl⟩ := flatG_mem hz
    have := (hv v h1).1
    omega
  have hrz : ∀ z ∈ restL p L, z ≠ 0 := fun z hz => by
    obtain ⟨v, h1, rfl⟩ := flatG_mem hz
    have := (hv v h1).1
    omega
  have hN : ((p : Int) * s).toNat = p * s := by rw [← Int.natCast_mul, Int.toNat_natCast]
  have hNi : ((p * s : Nat) : Int) = (p : Int) * s := Int.natCast_mul p s
  unfold deckZ
  rw [Int.toNat_natCast, Int.toNat_natCast, hN]
  have hg0 : ∀ i, 0 * s ≤ i → i < p * s → (List.replicate (p * s) (0 : Int))[i]? = some 0 := fun i _ h => by rw [List.getElem?_replicate, if_pos h]
  have hgc := fun (q b : Nat → Bool) (x : Int) hq h => guaE_count (S := s) (N := p * s) (q := q) (b := b) (sure := sureL L) x hs.1 (by omega) hsz hq p 0 (List.replicate (p * s) 0) seed (by simp) (by rw [Nat.zero_add]; exact Nat.le_refl _) hg0 h
  have hgt := fun (w : Int → Int) w0 h => guaE_tot (S := s) (N := p * s) (w := w) (sure := sureL L) w0 hs.1 (by omega) p 0 (List.replicate (p * s) 0) seed (by simp) (by rw [Nat.zero_add]; exact Nat.le_refl _) hg0 h
  have hge := guaE_err (S := s) (by omega) (sureL L) p 0 (List.replicate (p * s) 0) seed
  generalize guaE s (sureL L) p 0 (List.replicate (p * s) 0) seed = g at *
  dsimp only
  by_cases hg : g.2.1 = 0
  · rw [if_pos hg]
    have hT := hgc (fun _ => true) (fun _ => true) 0 (fun _ _ _ => rfl) hg
    rw [if_pos rfl, packsB_all, cntP_all, List.count_eq_zero.2 (fun h => hsz 0 h rfl), Nat.mul_zero, Nat.add_zero] at hT
    have hfl : (freeL g.1).length = cntP (fun _ => true) 0 0 g.1 := by rw [freeL_len, freeL_count]
    have hpk : ((p * (sureL L).length : Nat) : Int) = sumK L * p := by rw [Int.natCast_mul, hsl, Int.mul_comm]
    have hfd := freeL_diff g.1
    have hfz := freeL_zero (Z := g.1)
    have hlen : (restL p L).length ≤ (freeL g.1).length := by omega
    have hse := scaE_err (restL p L) (freeL g.1) 0 g.1 g.2.2 (by omega) (by omega)
    have hsc := fun x h => scaE_count x (restL p L) (freeL g.1) 0 g.1 g.2.2 hfd hrz (fun j hj => (hfz j hj).1) (fun j _ hj => (hfz j hj).2) h
    have hst := fun (w : Int → Int) w0 h => scaE_tot (w := w) w0 (restL p L) (freeL g.1) 0 g.1 g.2.2 hfd (fun j hj => (hfz j hj).1) (fun j _ hj => (hfz j hj).2) h
    generalize scaE (restL p L) (freeL g.1) 0 g.1 g.2.2 = c at *
    by_cases hcz : c.2.1 = 0
    · rw [if_pos hcz]
      refine Or.inl ⟨rfl, (?_ : DeckOk p s L c.1)⟩
      have htot : ∀ w : Int → Int, w 0 = 0 → tot w c.1 = (L.map fun v => w v.prize * v.count).sum := fun w w0 => by
        rw [hst w w0 hcz, hgt w w0 hg, tot_zero w0, Int.zero_add]
        exact tot_both w L fun v h => ⟨(hv v h).2.2.1.1, (hv v h).2.2.2⟩
      refine ⟨?_, ?_, ?_, ?_, ?_, ?_⟩
      · rw [(hsc 0 hcz).1, hT.1]
      · intro v h
        have h0 : ¬ (0 : Int) = v.prize := by have := (hv v h).1; omega
        have a := (hsc v.prize hcz).2.2
        have b := (hgc (fun _ => true) (fun _ => true) v.prize (fun _ _ _ => rfl) hg).2
        rw [if_neg h0] at a b
        rw [packsB_all, cntP_zero _ (fun e => h0 e.symm), sureL_flat, flatG_count hP hS L _ _ _ (Int.le_refl _) hc v h] at b
        rw [restL_flat, flatG_count hP hS L _ _ _ (Int.le_refl _) hc v h] at a
        have hm : ((p * v.pack.toNat : Nat) : Int) = v.pack * p := by rw [Int.natCast_mul, Int.toNat_of_nonneg (hv v h).2.2.1.1, Int.mul_comm]
        have := (hv v h).2.2.2
        omega
      · intro k k1 k2 v h
        have h0 : ¬ (0 : Int) = v.prize := by have := (hv v h).1; omega
        have a := (hsc v.prize hcz).2.1 fun i => decide (i / s + 1 = k)
        have b := (hgc (fun i => decide (i / s + 1 = k)) (fun j => decide (j + 1 = k)) v.prize (fun j m hm => by rw [Nat.mul_comm, Nat.mul_add_div (by omega), Nat.div_eq_of_lt hm, Nat.add_zero]) hg).2
        rw [if_neg h0] at a b
        rw [packsB_one, if_pos (by omega), cntP_zero _ (fun e => h0 e.symm), sureL_flat, flatG_count hP hS L _ _ _ (Int.le_refl _) hc v h] at b
        have := (hv v h).2.2.1.1
        omega
      · have a := (hsc 0 hcz).2.2
        rw [if_pos rfl, List.count_eq_zero.2 (fun h => hrz 0 h rfl)] at a
        omega
      · exact htot (fun z => z) rfl
      · intro z hz
        have h1 := tot_none (w := offW) (fun z => by unfold offW; split <;> omega) c.1 (by
          rw [htot offW rfl]
          exact sumW_none L fun v h => by
            have := (hv v h).1
            unfold offW
            rw [if_neg (by omega)]) z hz
        unfold offW at h1
        split at h1
        · cases h1
        · omega
    · rw [if_neg hcz]
      exact Or.inr ⟨hse.resolve_left hcz, rfl⟩
  · rw [if_neg hg]
    exact Or.inr ⟨hge.resolve_left hg, rfl⟩
/-- There is room for what is scattered. -/
theorem gua_free {p s : Nat} {L : List Lvl} (hp : 1 ≤ p ∧ p ≤ 32) (hs : 1 ≤ s ∧ s ≤ 256) (hc : chkL p s 1000000001 0 0 L = 0) (seed : Int) (hg : (guaE s (sureL L) p 0 (List.replicate (p * s) 0) seed).2.1 = 0) :
    (restL p L).length ≤ (freeL (guaE s (sureL L) p 0 (List.replicate (p * s) 0) seed).1).length ∧ (guaE s (sureL L) p 0 (List.replicate (p * s) 0) seed).1.length = p * s := by
  have hP : 1 ≤ (p : Int) ∧ (p : Int) ≤ 32 := by omega
  have hS : 1 ≤ (s : Int) ∧ (s : Int) ≤ 256 := by omega
  have hv := chkL_ok hP hS L _ _ _ (Int.le_refl _) hc
  have hsum := chkL_sum L _ _ _ hc
  have hsl := sure_len L fun v h => (hv v h).2.2.1.1
  have hrl := rest_len (P := p) L fun v h => (hv v h).2.2.2
  have hsz : ∀ z ∈ sureL L, z ≠ 0 := fun z hz => by
    obtain ⟨v, h1, rfl⟩ := flatG_mem hz
    have := (hv v h1).1
    omega
  have hNi : ((p * s : Nat) : Int) = (p : Int) * s := Int.natCast_mul p s
  have hg0 : ∀ i, 0 * s ≤ i → i < p * s → (List.replicate (p * s) (0 : Int))[i]? = some 0 := fun i _ h => by rw [List.getElem?_replicate, if_pos h]
  have hT := guaE_count (S := s) (N := p * s) (q := fun _ => true) (b := fun _ => true) (sure := sureL L) 0 hs.1 (by omega) hsz (fun _ _ _ => rfl) p 0 (List.replicate (p * s) 0) seed (by simp) (by rw [Nat.zero_add]; exact Nat.le_refl _) hg0 hg
  generalize guaE s (sureL L) p 0 (List.replicate (p * s) 0) seed = g at *
  rw [if_pos rfl, packsB_all, cntP_all, List.count_eq_zero.2 (fun h => hsz 0 h rfl), Nat.mul_zero, Nat.add_zero] at hT
  have hfl : (freeL g.1).length = cntP (fun _ => true) 0 0 g.1 := by rw [freeL_len, freeL_count]
  have hpk : ((p * (sureL L).length : Nat) : Int) = sumK L * p := by rw [Int.natCast_mul, hsl, Int.mul_comm]
  exact ⟨by omega, hT.1⟩
end Go.Proofs.YtcnlopjjejdahaaDoor
