/- Plain: laws of the scanner: blanks, line feeds, shifts, what its tokens are. No program in sight. -/
import Derived.Test.YthadhnmbddddbaaLexS
namespace Go.Proofs.Ythadhnmbddddbaa
theorem spn_cons_pos {q : Nat → Bool} {c : Nat} {r : List Nat} (h : q c = true) : spn q (c :: r) = spn q r + 1 := by unfold spn; rw [List.takeWhile_cons_of_pos h]; rfl
theorem spn_cons_neg {q : Nat → Bool} {c : Nat} {r : List Nat} (h : q c = false) : spn q (c :: r) = 0 := by unfold spn; rw [List.takeWhile_cons_of_neg (by rw [h]; simp)]; rfl
/-- One blank is passed. -/
theorem blank_one {c : Nat} (h : blankB c = true) (l : List Nat) (at_ : Nat) : lexR at_ (c :: l) = lexR (at_ + 1) l := by
  have hp : piece (c :: l) = (0, spn blankB l + 1) := by rw [piece, if_pos h, spn_cons_pos h]
  rw [lexR_cons, hp, if_neg (by simp), if_pos rfl]
  simp only [List.drop_succ_cons]
  cases l with
  | nil => simp [spn, lexR_nil]
  | cons d r =>
    by_cases hd : blankB d = true
    · have hp2 : piece (d :: r) = (0, spn blankB (d :: r)) := by rw [piece, if_pos hd]
      have := spn_pos (r := r) hd
      rw [lexR_cons (at_ + 1), hp2, if_neg (by simp only; omega), if_pos rfl]
      simp only
      rw [show at_ + (spn blankB (d :: r) + 1) = at_ + 1 + spn blankB (d :: r) from by omega]
    · rw [spn_cons_neg (by simpa using hd)]; simp
/-- A remark is passed. -/
theorem hash_one (r : List Nat) (at_ : Nat) : lexR at_ (35 :: r) = lexR (at_ + spn remB (35 :: r)) ((35 :: r).drop (spn remB (35 :: r))) := by
  have hp : piece (35 :: r) = (0, spn remB (35 :: r)) := by rw [piece, if_neg (by decide), if_pos rfl]
  rw [lexR_cons, hp, if_neg (by rw [spn_cons_pos (by decide)]; simp), if_pos rfl]
theorem blank_not {c : Nat} (h : blankB c = true) : letterB c = false ∧ digitB c = false ∧ wordB c = false ∧ markB c = false ∧ c ≠ 35 := by
  unfold wordB markB letterB digitB
  unfold blankB at h
  simp only [Bool.or_eq_true, beq_iff_eq, Bool.or_eq_false_iff, Bool.and_eq_false_iff, decide_eq_false_iff_not, beq_eq_false_iff_ne] at *
  omega
theorem spn_app {q : Nat → Bool} {b : Nat} (hb : q b = false) (r : List Nat) : ∀ l : List Nat, spn q (l ++ b :: r) = spn q l
  | [] => spn_cons_neg hb
  | c :: l => by
    rw [List.cons_append]
    by_cases h : q c = true
    · rw [spn_cons_pos h, spn_cons_pos h, spn_app hb r l]
    · rw [spn_cons_neg (by simpa using h), spn_cons_neg (by simpa using h)]
/-- The first piece, where something stands behind with which no word and no number goes on. -/
theorem piece_app {b : Nat} (hw : wordB b = false) (hd : digitB b = false) (r : List Nat) (c : Nat) (l : List Nat) (h1 : blankB c = false) (h2 : c ≠ 35) : piece (c :: l ++ b :: r) = piece (c :: l) := by
  have e1 := spn_app hw r (c :: l)
  have e2 := spn_app hd r (c :: l)
  rw [List.cons_append] at *
  simp only [piece, h1, Bool.false_eq_true, if_false, h2, e1, e2]
def thenR (R : Except Nat (List (Nat × Nat × Nat))) (S : Except Nat (List (Nat × Nat × Nat))) : Except Nat (List (Nat × Nat × Nat)) := match R with
  | .ok T => joinR T S
  | .error e => .error e
theorem thenR_cons (t : Nat × Nat × Nat) (R S : Except Nat (List (Nat × Nat × Nat))) : thenR (consR t R) S = consR t (thenR R S) := by
  cases R <;> cases S <;> simp [thenR, consR, joinR]
/-- A line feed behind a text: the text's tokens, then the rest's. -/
theorem lexR_line (r : List Nat) : ∀ (n : Nat) (l : List Nat) (at_ : Nat), l.length ≤ n → lexR at_ (l ++ 10 :: r) = thenR (lexR at_ l) (lexR (at_ + l.length) (10 :: r))
  | _, [], at_, _ => by
    rw [List.nil_append, lexR_nil, List.length_nil, Nat.add_zero]
    unfold thenR joinR
    cases lexR at_ (10 :: r) <;> rfl
  | 0, c :: l, _, h => by simp at h
  | n + 1, c :: l, at_, h => by
    rw [List.length_cons] at h
    by_cases hb : blankB c = true
    · rw [List.cons_append, blank_one hb, blank_one hb, lexR_line r n l _ (by omega), List.length_cons, show at_ + 1 + l.length = at_ + (l.length + 1) from by omega]
    · have hb : blankB c = false := by simpa using hb
      have go : ∀ k, k ≤ (c :: l).length → 1 ≤ k → lexR (at_ + k) ((c :: l ++ 10 :: r).drop k) = thenR (lexR (at_ + k) ((c :: l).drop k)) (lexR (at_ + (c :: l).length) (10 :: r)) := by
        intro k hk h1
        rw [List.drop_append_of_le_length hk, lexR_line r n _ _ (by rw [List.length_drop, List.length_cons]; omega), List.length_drop, show at_ + k + ((c :: l).length - k) = at_ + (c :: l).length from by omega]
      by_cases h35 : c = 35
      · subst h35
        have e : spn remB (35 :: (l ++ 10 :: r)) = spn remB (35 :: l) := spn_app (by decide) r (35 :: l)
        rw [List.cons_append, hash_one, hash_one, e]
        exact go _ (spn_le _ _) (spn_pos (by decide))
      · have hp := piece_app (b := 10) (by decide) (by decide) r c l hb h35
        rw [List.cons_append] at hp ⊢
        rw [lexR_cons, lexR_cons, hp]
        split
        · rfl
        · rename_i h2
          have := go (piece (c :: l)).2 (piece_le _) (by omega)
          rw [List.cons_append] at this
          split
          · exact this
          · rw [this, thenR_cons]
/-- A blank behind a text changes nothing. -/
theorem lexR_snoc {b : Nat} (hb : blankB b = true) : ∀ (n : Nat) (l : List Nat) (at_ : Nat), l.length ≤ n → lexR at_ (l ++ [b]) = lexR at_ l
  | _, [], at_, _ => by rw [List.nil_append, blank_one hb, lexR_nil, lexR_nil]
  | 0, c :: l, _, h => by simp at h
  | n + 1, c :: l, at_, h => by
    rw [List.length_cons] at h
    by_cases hc : blankB c = true
    · rw [List.cons_append, blank_one hc, blank_one hc, lexR_snoc hb n l _ (by omega)]
    · have hc : blankB c = false := by simpa using hc
      have go : ∀ k, k ≤ (c :: l).length → 1 ≤ k → lexR (at_ + k) ((c :: l ++ [b]).drop k) = lexR (at_ + k) ((c :: l).drop k) := by
        intro k hk h1
        rw [List.drop_append_of_le_length hk, lexR_snoc hb n _ _ (by rw [List.length_drop, List.length_cons]; omega)]
      by_cases h35 : c = 35
      · subst h35
        by_cases h10 : b = 10
        · subst h10
          have e : spn remB (35 :: (l ++ [10])) = spn remB (35 :: l) := spn_app (by decide) [] (35 :: l)
          rw [List.cons_append, hash_one, hash_one, e]
          exact go _ (spn_le _ _) (spn_pos (by decide))
        · have hrb : remB b = true := by unfold remB; simp [h10]
          have e : spn remB (35 :: l ++ [b]) = if spn remB (35 :: l) = (35 :: l).length then (35 :: l).length + 1 else spn remB (35 :: l) := by
            generalize (35 :: l) = m
            induction m with
            | nil => simp [spn, hrb]
            | cons d m ih =>
              rw [List.cons_append]
              by_cases hd : remB d = true
              · rw [spn_cons_pos hd, spn_cons_pos hd, ih, List.length_cons]
                split <;> split <;> omega
              · rw [spn_cons_neg (by simpa using hd), spn_cons_neg (by simpa using hd), if_neg (by simp)]
          rw [List.cons_append] at e ⊢
          rw [hash_one, hash_one, e]
          split
          · rename_i h1
            rw [h1, List.drop_eq_nil_of_le (by simp), List.drop_eq_nil_of_le (by simp), lexR_nil, lexR_nil]
          · exact go _ (spn_le _ _) (spn_pos (by decide))
      · obtain ⟨_, hd, hw, _⟩ := blank_not hb
        have hp := piece_app hw hd [] c l hc h35
        rw [List.cons_append] at hp ⊢
        rw [lexR_cons, lexR_cons, hp]
        split
        · rfl
        · rename_i h2
          have := go (piece (c :: l)).2 (piece_le _) (by omega)
          rw [List.cons_append] at this
          split
          · exact this
          · rw [this]
def shiftR (d : Nat) : Except Nat (List (Nat × Nat × Nat)) → Except Nat (List (Nat × Nat × Nat))
  | .ok T => .ok (T.map fun t => (t.1, t.2.1 + d, t.2.2))
  | .error e => .error (e + d)
theorem lexR_shift (d : Nat) : ∀ (n : Nat) (l : List Nat) (at_ : Nat), l.length ≤ n → lexR (at_ + d) l = shiftR d (lexR at_ l)
  | _, [], at_, _ => rfl
  | 0, c :: l, _, h => by simp at h
  | n + 1, c :: l, at_, h => by
    rw [lexR_cons, lexR_cons]
    split
    · rfl
    · have hd : ((c :: l).drop (piece (c :: l)).2).length ≤ n := by rw [List.length_drop]; omega
      have e : at_ + d + (piece (c :: l)).2 = at_ + (piece (c :: l)).2 + d := by omega
      split
      · rw [e, lexR_shift d n _ _ hd]
      · rw [e, lexR_shift d n _ _ hd]
        cases lexR (at_ + (piece (c :: l)).2) ((c :: l).drop (piece (c :: l)).2) <;> simp [consR, shiftR]
/-! What the tokens are. -/
def good (k : Nat) (t : List Nat) : Prop :=
  (k = 1 ∧ (∃ c r, t = c :: r ∧ letterB c = true) ∧ ∀ c ∈ t, wordB c = true) ∨
  (k = 2 ∧ (∃ c r, t = c :: r ∧ badN t.length c = false) ∧ ∀ c ∈ t, digitB c = true) ∨
  (k = 3 ∧ ∃ c, t = [c] ∧ markB c = true)
theorem spn_take {q : Nat → Bool} : ∀ l : List Nat, ∀ c ∈ l.take (spn q l), q c = true
  | [], c, h => by simp at h
  | d :: l, c, h => by
    by_cases hd : q d = true
    · rw [spn_cons_pos hd, List.take_succ_cons] at h
      rcases List.mem_cons.1 h with rfl | h
      · exact hd
      · exact spn_take l c h
    · rw [spn_cons_neg (by simpa using hd)] at h; simp at h
theorem piece_good (l : List Nat) (h1 : (piece l).1 ≠ 0) (h2 : (piece l).2 ≠ 0) : good (piece l).1 (l.take (piece l).2) := by
  cases l with
  | nil => simp [piece] at h1
  | cons c r =>
    rw [piece] at h1 h2 ⊢
    split at h1
    · simp at h1
    · rename_i a1
      rw [if_neg a1] at h2 ⊢
      split at h1
      · simp at h1
      · rename_i a2
        rw [if_neg a2] at h2 ⊢
        split at h1
        · rename_i a3
          rw [if_pos a3] at h2 ⊢
          have hw : wordB c = true := by unfold wordB; rw [a3]; rfl
          refine .inl ⟨rfl, ⟨c, r.take (spn wordB r), ?_, a3⟩, spn_take _⟩
          simp only [spn_cons_pos hw, List.take_succ_cons]
        · rename_i a3
          rw [if_neg a3] at h2 ⊢
          split at h1
          · rename_i a4
            rw [if_pos a4] at h2 ⊢
            split at h2
            · simp at h2
            · rename_i a5
              rw [if_neg a5]
              refine .inr (.inl ⟨rfl, ⟨c, r.take (spn digitB r), ?_, ?_⟩, spn_take _⟩)
              · simp only [spn_cons_pos a4, List.take_succ_cons]
              · simp only
                rw [List.length_take, Nat.min_eq_left (spn_le _ _)]
                simpa using a5
          · rename_i a4
            rw [if_neg a4] at h2 ⊢
            split at h1
            · rename_i a5
              rw [if_pos a5]
              exact .inr (.inr ⟨rfl, c, by simp, a5⟩)
            · simp at h1
theorem lexR_good : ∀ (n : Nat) (l : List Nat) (at_ : Nat) (T : List (Nat × Nat × Nat)), l.length ≤ n → lexR at_ l = .ok T →
    ∀ t ∈ T, at_ ≤ t.2.1 ∧ 1 ≤ t.2.2 ∧ t.2.1 + t.2.2 ≤ at_ + l.length ∧ good t.1 ((l.drop (t.2.1 - at_)).take t.2.2)
  | _, [], _, T, _, h => by rw [lexR_nil] at h; injection h with h; subst h; intro t ht; simp at ht
  | 0, c :: l, _, _, hl, _ => by simp at hl
  | n + 1, c :: l, at_, T, hl, h => by
    have hpl := piece_le (c :: l)
    have hpg := piece_good (c :: l)
    rw [lexR_cons] at h
    generalize piece (c :: l) = pc at *
    obtain ⟨k, m⟩ := pc
    simp only at *
    have go : ∀ T', 1 ≤ m → lexR (at_ + m) ((c :: l).drop m) = .ok T' → ∀ t ∈ T', at_ ≤ t.2.1 ∧ 1 ≤ t.2.2 ∧ t.2.1 + t.2.2 ≤ at_ + (c :: l).length ∧ good t.1 (((c :: l).drop (t.2.1 - at_)).take t.2.2) := by
      intro T' hm hT t ht
      obtain ⟨h1, h2, h3, h4⟩ := lexR_good n _ _ T' (by rw [List.length_drop]; omega) hT t ht
      rw [List.length_drop] at h3
      refine ⟨by omega, h2, by omega, ?_⟩
      rw [List.drop_drop] at h4
      rwa [show m + (t.2.1 - (at_ + m)) = t.2.1 - at_ from by omega] at h4
    split at h
    · cases h
    · rename_i a1
      split at h
      · exact go T (by omega) h
      · rename_i a2
        cases hR : lexR (at_ + m) ((c :: l).drop m) with
        | error e => rw [hR] at h; cases h
        | ok T' =>
          rw [hR] at h
          simp only [consR, Except.ok.injEq] at h
          subst h
          intro t ht
          rcases List.mem_cons.1 ht with rfl | ht
          · exact ⟨Nat.le_refl _, by simp only; omega, by simp only; omega, by simpa using hpg a2 a1⟩
          · exact go T' (by omega) hR t ht
/-- An error lies within the text. -/
theorem lexR_err : ∀ (n : Nat) (l : List Nat) (at_ x : Nat), l.length ≤ n → lexR at_ l = .error x → at_ ≤ x ∧ x < at_ + l.length
  | _, [], _, x, _, h => by rw [lexR_nil] at h; cases h
  | 0, c :: l, _, _, hl, _ => by simp at hl
  | n + 1, c :: l, at_, x, hl, h => by
    have hpl := piece_le (c :: l)
    rw [lexR_cons] at h
    split at h
    · injection h with h; subst h; simp
    · have hd : ((c :: l).drop (piece (c :: l)).2).length ≤ n := by rw [List.length_drop]; omega
      have hdl : ((c :: l).drop (piece (c :: l)).2).length = (c :: l).length - (piece (c :: l)).2 := List.length_drop
      split at h
      · have := lexR_err n _ _ x hd h; omega
      · cases hR : lexR (at_ + (piece (c :: l)).2) ((c :: l).drop (piece (c :: l)).2) with
        | error e =>
          rw [hR] at h
          simp only [consR, Except.error.injEq] at h
          subst h
          have := lexR_err n _ _ e hd hR; omega
        | ok T' => rw [hR] at h; cases h
/-- The lengths of the tokens together. -/
theorem lexR_sum : ∀ (n : Nat) (l : List Nat) (at_ : Nat) (T : List (Nat × Nat × Nat)), l.length ≤ n → lexR at_ l = .ok T → (T.map (·.2.2)).sum ≤ l.length
  | _, [], _, T, _, h => by rw [lexR_nil] at h; injection h with h; subst h; simp
  | 0, c :: l, _, _, hl, _ => by simp at hl
  | n + 1, c :: l, at_, T, hl, h => by
    have hpl := piece_le (c :: l)
    rw [lexR_cons] at h
    split at h
    · cases h
    · rename_i a1
      have hd : ((c :: l).drop (piece (c :: l)).2).length ≤ n := by rw [List.length_drop]; omega
      split at h
      · have := lexR_sum n _ _ T hd h
        rw [List.length_drop] at this; omega
      · cases hR : lexR (at_ + (piece (c :: l)).2) ((c :: l).drop (piece (c :: l)).2) with
        | error e => rw [hR] at h; cases h
        | ok T' =>
          rw [hR] at h
          simp only [consR, Except.ok.injEq] at h
          subst h
          have := lexR_sum n _ _ T' hd hR
          rw [List.length_drop] at this
          simp only [List.map_cons, List.sum_cons]; omega
/-! Text that is written out of tokens. -/
/-- A token is read as it was written, where nothing goes on behind it. -/
theorem good_piece {k : Nat} {t : List Nat} (h : good k t) (r : List Nat) (hr : ∀ c r', r = c :: r' → wordB c = false ∧ digitB c = false) : piece (t ++ r) = (k, t.length) ∧ t ≠ [] := by
  have sp : ∀ (q : Nat → Bool), (∀ c ∈ t, q c = true) → (∀ c r', r = c :: r' → q c = false) → spn q (t ++ r) = t.length := by
    intro q h1 h2
    clear h
    induction t with
    | nil => cases r with
      | nil => rfl
      | cons c r' => exact spn_cons_neg (h2 c r' rfl)
    | cons c t ih => rw [List.cons_append, spn_cons_pos (h1 c (by simp)), ih fun d hd => h1 d (by simp [hd])]; rfl
  rcases h with ⟨rfl, ⟨c, r', rfl, hc⟩, hall⟩ | ⟨rfl, ⟨c, r', rfl, hbad⟩, hall⟩ | ⟨rfl, c, rfl, hc⟩
  · have h0 : blankB c = false ∧ c ≠ 35 := by
      unfold letterB at hc; unfold blankB
      simp only [Bool.and_eq_true, decide_eq_true_eq, Bool.or_eq_false_iff, beq_eq_false_iff_ne] at *
      omega
    have e := sp wordB hall fun c r' h => (hr c r' h).1
    refine ⟨?_, by simp⟩
    rw [List.cons_append] at e ⊢
    rw [piece, if_neg (by rw [h0.1]; simp), if_neg h0.2, if_pos hc, e]
  · have hc := hall c (by simp)
    have h0 : blankB c = false ∧ c ≠ 35 ∧ letterB c = false := by
      unfold digitB at hc; unfold blankB letterB
      simp only [Bool.and_eq_true, decide_eq_true_eq, Bool.or_eq_false_iff, Bool.and_eq_false_iff, decide_eq_false_iff_not, beq_eq_false_iff_ne] at *
      omega
    have e := sp digitB hall fun c r' h => (hr c r' h).2
    refine ⟨?_, by simp⟩
    rw [List.cons_append] at e ⊢
    rw [piece, if_neg (by rw [h0.1]; simp), if_neg h0.2.1, if_neg (by rw [h0.2.2]; simp), if_pos hc, e, hbad, if_neg (by simp)]
  · have h0 : blankB c = false ∧ c ≠ 35 ∧ letterB c = false ∧ digitB c = false := by
      unfold markB at hc; unfold blankB letterB digitB
      simp only [Bool.or_eq_true, beq_iff_eq, Bool.or_eq_false_iff, Bool.and_eq_false_iff, decide_eq_false_iff_not, beq_eq_false_iff_ne] at *
      omega
    refine ⟨?_, by simp⟩
    rw [List.cons_append, List.nil_append, piece, if_neg (by rw [h0.1]; simp), if_neg h0.2.1, if_neg (by rw [h0.2.2.1]; simp), if_neg (by rw [h0.2.2.2]; simp), if_pos hc]
    rfl
theorem good_kind {k : Nat} {t : List Nat} (h : good k t) : k ≠ 0 ∧ k ≤ 3 := by
  rcases h with ⟨rfl, _⟩ | ⟨rfl, _⟩ | ⟨rfl, _⟩ <;> simp
/-- A token, a blank, the rest. -/
theorem lexR_tok_blank {k : Nat} {t : List Nat} (h : good k t) {b : Nat} (hb : blankB b = true) (r : List Nat) (at_ : Nat) : lexR at_ (t ++ b :: r) = consR (k, at_, t.length) (lexR (at_ + t.length + 1) r) := by
  obtain ⟨_, hd, hw, _⟩ := blank_not hb
  obtain ⟨hp, hne⟩ := good_piece h (b :: r) (fun c r' e => by injection e with e1 e2; subst e1; exact ⟨hw, hd⟩)
  have hk := (good_kind h).1
  cases t with
  | nil => exact absurd rfl hne
  | cons c t =>
    rw [List.cons_append] at hp ⊢
    rw [lexR_cons, hp, if_neg (by simp), if_neg hk]
    simp only
    rw [show (c :: (t ++ b :: r)).drop (c :: t).length = b :: r from by simp, blank_one hb]
theorem lexR_tok_end {k : Nat} {t : List Nat} (h : good k t) (at_ : Nat) : lexR at_ t = .ok [(k, at_, t.length)] := by
  obtain ⟨hp, hne⟩ := good_piece h [] (fun c r' e => by cases e)
  have hk := (good_kind h).1
  rw [List.append_nil] at hp
  cases t with
  | nil => exact absurd rfl hne
  | cons c t =>
    rw [lexR_cons, hp, if_neg (by simp), if_neg hk]
    simp only
    rw [List.drop_length, lexR_nil]
    rfl
end Go.Proofs.Ythadhnmbddddbaa
