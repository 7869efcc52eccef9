/- Texts laid one behind the other: LexD, NumA, PaA, PaB, PaR, ScrQ. Each says at its head what it proves. -/
import Derived.Test.YtbdkggnajipdhaaGreatDoorY06
set_option linter.unusedSimpArgs false
/- Walk: lex.Scan. -/
namespace Go.Proofs.YtbdkggnajipdhaaGreatDoor
open Go.RowKit
set_option maxRecDepth 100000
def encTk (t : Tk) : List Value := [.int .i64 t.kind, .int .i64 t.line, .int .i64 t.col, .string t.text]
/-- A list of tokens in memory that is nobody else's. -/
def TokIn (base : Nat) (w : World) (v : Value) (L : List Tk) : Prop := ∃ A c, v = .slice A L.length c ∧ w.ownsRow base 62 4 (.slice A L.length c) L.length (L.flatMap encTk)
theorem step1_bd {p : Int × Int} {c : Nat} (h : 1 ≤ p.1 ∧ 1 ≤ p.2) : 1 ≤ (step1 p c).1 ∧ (step1 p c).1 ≤ p.1 + 1 ∧ 1 ≤ (step1 p c).2 ∧ (step1 p c).2 ≤ p.2 + 1 := by
  unfold step1
  split <;> simp only <;> omega
theorem fold_bd : ∀ (b : List Nat) (p : Int × Int), 1 ≤ p.1 ∧ 1 ≤ p.2 → 1 ≤ (b.foldl step1 p).1 ∧ (b.foldl step1 p).1 ≤ p.1 + b.length ∧ 1 ≤ (b.foldl step1 p).2 ∧ (b.foldl step1 p).2 ≤ p.2 + b.length
  | [], p, h => by simp; omega
  | c :: r, p, h => by
    have h1 := step1_bd (c := c) h
    have h2 := fold_bd r (step1 p c) ⟨h1.1, h1.2.2.1⟩
    rw [List.foldl_cons, List.length_cons]
    omega
theorem place_bd (l : List Nat) : 1 ≤ (place l).1 ∧ (place l).1 ≤ l.length + 1 ∧ 1 ≤ (place l).2 ∧ (place l).2 ≤ l.length + 1 := by
  have := fold_bd l (1, 1) ⟨by decide, by decide⟩
  unfold place
  simp only at this
  omega
theorem take_piece (l : List Nat) (a n : Nat) : l.take (a + n) = l.take a ++ (l.drop a).take n := List.take_add
theorem drop_piece (l : List Nat) (a n : Nat) : l.drop (a + n) = (l.drop a).drop n := by rw [List.drop_drop]
theorem count_bs (s : ByteArray) : Lib.countByte s.data.toList 10 = (bs s).count 10 := by
  unfold Lib.countByte bs
  induction s.data.toList with
  | nil => rfl
  | cons c r ih =>
    rw [List.map_cons, List.count_cons, List.count_cons, ih]
    congr 1
    by_cases h : c = 10
    · subst h; rfl
    · have h' : ¬ c.toNat = 10 := fun e => h (UInt8.toNat_inj.1 e)
      simp [h, h']
theorem data_bt {s : ByteArray} {j : Nat} (h : j < s.size) : (s.data[j]!).toNat = bt s j := get_bt h
theorem last_bs (s : ByteArray) : (Lib.lastIndexByte s 10 = -1 ∧ ∀ c ∈ bs s, c ≠ 10) ∨ (∃ i : Nat, i < s.size ∧ Lib.lastIndexByte s 10 = i ∧ (bs s)[i]? = some 10 ∧ ∀ j, i < j → (bs s)[j]? ≠ some 10) := by
  rcases Lib.lastIdx_spec s 10 s.size with ⟨h1, h2⟩ | ⟨i, hi, h1, h2, h3⟩
  · refine .inl ⟨h1, fun c hc e => ?_⟩
    subst e
    obtain ⟨j, hj⟩ := List.mem_iff_getElem?.1 hc
    have hjl := (List.getElem?_eq_some_iff.1 hj).1
    rw [bs_len] at hjl
    rw [bs_get hjl] at hj
    injection hj with hj
    exact h2 j hjl (by rw [data_bt hjl, hj]; rfl)
  · refine .inr ⟨i, hi, h1, ?_, fun j hij hj => ?_⟩
    · rw [bs_get hi]
      rw [data_bt hi] at h2
      congr 1
      omega
    · have hjl := (List.getElem?_eq_some_iff.1 hj).1
      rw [bs_len] at hjl
      rw [bs_get hjl] at hj
      injection hj with hj
      exact h3 j hij hjl (by rw [data_bt hjl, hj]; rfl)
theorem tok_len (D : List (Nat × Nat × Nat)) (s : ByteArray) : (D.map (tokOf s)).length = D.length := List.length_map ..
set_option maxHeartbeats 1000000 in
theorem scan_any (s : ByteArray) (w : World) (hs : s.size ≤ 1000000) :
    Calls Tryz.prog 19 #[.string s] w fun e w' => Below w.heap.size w w' ∧ ∃ v, e = .returned (.tuple #[v, .int .i64 (scanE s).1, .int .i64 (scanE s).2.1]) ∧ TokIn w.heap.size w' v (scanE s).2.2 := by
  refine calls_W (l := [_]) Tryz.func19 rfl _ Tryz.ntmps19 (by simp) ?_
  have hI : sliceI Tryz.prog 46 = some (62, 4, 40) := by kernel_rfl
  unfold scanE
  simp +contextual (maxSteps := 2000000) (disch := (first | omega | (simp only [SZ]; first | done | omega) | (simp only [TS] at *; omega))) only [RZ, ovw, oneC, Nat.reduceAdd, Nat.reduceMul, Nat.reduceSub, Nat.reduceEqDiff, Nat.reduceLT, ↓reduceIte, Int.reduceToNat, Nat.reduceLeDiff]
  (refine W_if rfl (fun hc => ?_) (fun hc => ?_) <;> (try simp only [TS] at hc))
  · rw [if_pos (by omega)]
    simp +contextual (maxSteps := 2000000) (disch := (first | omega | (simp only [SZ]; first | done | omega) | (simp only [TS] at *; omega))) only [RZ, ovw, oneC, Nat.reduceAdd, Nat.reduceMul, Nat.reduceSub, Nat.reduceEqDiff, Nat.reduceLT, ↓reduceIte, Int.reduceToNat, Nat.reduceLeDiff]
    exact ⟨Below.refl _ _, _, rfl, none, 0, rfl, owns_nil _ _ _ _⟩
  rw [if_neg (by omega)]
  clear hc
  simp +contextual (maxSteps := 2000000) (disch := (first | omega | (simp only [SZ]; first | done | omega) | (simp only [TS] at *; omega))) only [RZ, ovw, oneC, Nat.reduceAdd, Nat.reduceMul, Nat.reduceSub, Nat.reduceEqDiff, Nat.reduceLT, ↓reduceIte, Int.reduceToNat, Nat.reduceLeDiff]
  generalize hR : lexR 0 (bs s) = R
  refine Raw_loop (fun σ w' => Below w.heap.size w w' ∧ ∃ (at_ : Nat) (D : List (Nat × Nat × Nat)) (A : Option Addr) (c : Nat), at_ ≤ s.size ∧ D.length ≤ at_ ∧ joinR D (lexR at_ ((bs s).drop at_)) = R ∧
      w'.ownsRow w.heap.size 62 4 (.slice A D.length c) D.length ((D.map (tokOf s)).flatMap encTk) ∧
      σ 0 = .string s ∧ σ 5 = .slice A D.length c ∧ σ 6 = .int .i64 (place ((bs s).take at_)).1 ∧ σ 7 = .int .i64 (at_ + 1 - (place ((bs s).take at_)).2) ∧ σ 8 = .int .i64 at_) (fun σ _ => s.size - (intOf (σ 8)).toNat) ?_ ?_
  · simp +contextual (maxSteps := 2000000) (disch := (first | omega | (simp only [SZ]; first | done | omega) | (simp only [TS] at *; omega))) only [RZ, ovw, oneC, Nat.reduceAdd, Nat.reduceMul, Nat.reduceSub, Nat.reduceEqDiff, Nat.reduceLT, ↓reduceIte, Int.reduceToNat, Nat.reduceLeDiff]
    exact ⟨Below.refl _ _, 0, [], none, 0, Nat.zero_le _, Nat.le_refl _, by rw [List.drop_zero, hR]; cases R <;> rfl, owns_nil _ _ _ _, rfl, rfl, rfl, rfl⟩
  rintro σ w1 ⟨hB, at_, D, A, c, ha, hDa, hj, hown, e0, e5, e6, e7, e8⟩ K hK
  have hpb := place_bd ((bs s).take at_)
  rw [List.length_take, bs_len] at hpb
  simp +contextual (maxSteps := 2000000) (disch := (first | omega | (simp only [SZ]; first | done | omega) | (simp only [TS] at *; omega))) only [RZ, ovw, oneC, Nat.reduceAdd, Nat.reduceMul, Nat.reduceSub, Nat.reduceEqDiff, Nat.reduceLT, ↓reduceIte, Int.reduceToNat, Nat.reduceLeDiff,  e0, e5, e6, e7, e8]
  (refine W_if rfl (fun hc => ?_) (fun hc => ?_) <;> (try simp only [TS] at hc))
  · have hal : at_ < s.size := by omega
    clear hc
    simp +contextual (maxSteps := 2000000) (disch := (first | omega | (simp only [SZ]; first | done | omega) | (simp only [TS] at *; omega))) only [RZ, ovw, oneC, Nat.reduceAdd, Nat.reduceMul, Nat.reduceSub, Nat.reduceEqDiff, Nat.reduceLT, ↓reduceIte, Int.reduceToNat, Nat.reduceLeDiff,  e0, e5, e6, e7, e8]
    have hx : bs (s.extract at_ s.size) = (bs s).drop at_ := by rw [bs_extract, List.take_of_length_le]; rw [List.length_drop, bs_len]; omega
    have hxs : (s.extract at_ s.size).size = s.size - at_ := by rw [← bs_len, hx, List.length_drop, bs_len]
    have hll : ((bs s).drop at_).length = s.size - at_ := by rw [List.length_drop, bs_len]
    obtain ⟨c0, r0, hl⟩ : ∃ c r, (bs s).drop at_ = c :: r := by
      cases hd : (bs s).drop at_ with
      | nil => rw [hd] at hll; simp at hll; omega
      | cons c r => exact ⟨c, r, rfl⟩
    rw [hl, lexR_cons, ← hl] at hj
    have hpl := piece_le ((bs s).drop at_)
    have hpp := piece_plain ((bs s).drop at_)
    refine (piece_any _ w1 (by omega) (by omega)).mono ?_
    rintro e w2 ⟨rfl, hb2⟩
    refine ⟨_, rfl, ?_⟩
    rw [hx]
    generalize piece ((bs s).drop at_) = pc at *
    obtain ⟨k, n⟩ := pc
    simp only at *
    have hB2 := hB.trans (hb2.mono hB.size)
    have hown2 := owns_below hown hb2
    simp +contextual (maxSteps := 2000000) (disch := (first | omega | (simp only [SZ]; first | done | omega) | (simp only [TS] at *; omega))) only [RZ, ovw, oneC, Nat.reduceAdd, Nat.reduceMul, Nat.reduceSub, Nat.reduceEqDiff, Nat.reduceLT, ↓reduceIte, Int.reduceToNat, Nat.reduceLeDiff,  e0, e5, e6, e7, e8]
    (refine W_if rfl (fun hc => ?_) (fun hc => ?_) <;> (try simp only [TS] at hc))
    · rw [if_pos (by omega)] at hj
      have hR2 : R = .error at_ := hj.symm
      subst hR2
      simp +contextual (maxSteps := 2000000) (disch := (first | omega | (simp only [SZ]; first | done | omega) | (simp only [TS] at *; omega))) only [RZ, ovw, oneC, Nat.reduceAdd, Nat.reduceMul, Nat.reduceSub, Nat.reduceEqDiff, Nat.reduceLT, ↓reduceIte, Int.reduceToNat, Nat.reduceLeDiff,  e0, e5, e6, e7, e8]
      exact ⟨hB2, _, rfl, none, 0, rfl, owns_nil _ _ _ _⟩
    have hn0 : ¬ n = 0 := by omega
    clear hc
    rw [if_neg hn0] at hj
    have htn : ((at_ : Int) + n).toNat = at_ + n := by omega
    have hpt : place ((bs s).take (at_ + n)) = (((bs s).drop at_).take n).foldl step1 (place ((bs s).take at_)) := by rw [take_piece, place_append]
    have hxt : bs (s.extract at_ (at_ + n)) = ((bs s).drop at_).take n := by rw [bs_extract]; congr 1; omega
    have hxz : (s.extract at_ (at_ + n)).size = n := by rw [← bs_len, hxt, List.length_take, hll]; omega
    rw [List.drop_drop] at hj
    simp +contextual (maxSteps := 2000000) (disch := (first | omega | (simp only [SZ]; first | done | omega) | (simp only [TS] at *; omega))) only [RZ, ovw, oneC, Nat.reduceAdd, Nat.reduceMul, Nat.reduceSub, Nat.reduceEqDiff, Nat.reduceLT, ↓reduceIte, Int.reduceToNat, Nat.reduceLeDiff,  e0, e5, e6, e7, e8, htn]
    (refine W_if rfl (fun hc => ?_) (fun hc => ?_) <;> (try simp only [TS] at hc))
    · have hk0 : k ≠ 0 := by omega
      clear hc
      rw [if_neg hk0, joinR_cons] at hj
      rw [fold_plain _ _ (hpp hk0), List.length_take, hll, Nat.min_eq_left (by omega)] at hpt
      obtain ⟨A', c', w3, he, hown3, hb3, hs3⟩ := push1 (P := Tryz.prog) (T := 46) (ty := 46) (news := encTk (tokOf s (k, at_, n))) hown2 hB2.size hI rfl (fun u hu => by simp only [encTk, List.mem_cons, List.not_mem_nil, or_false] at hu; rcases hu with rfl | rfl | rfl | rfl <;> rfl) (by omega) (by omega)
      have hB3 := hB2.trans hb3
      have hown3' : w3.ownsRow w.heap.size 62 4 (.slice A' (D ++ [(k, at_, n)]).length c') (D ++ [(k, at_, n)]).length (((D ++ [(k, at_, n)]).map (tokOf s)).flatMap encTk) := by
        rw [List.length_append, List.map_append, List.flatMap_append]; simpa using hown3
      have ecol : (at_ : Int) - (at_ + 1 - (place ((bs s).take at_)).2) + 1 = (place ((bs s).take at_)).2 := by omega
      have he' := he
      simp only [encTk, tokOf] at he'
      simp +contextual (maxSteps := 2000000) (disch := (first | omega | (simp only [SZ]; first | done | omega) | (simp only [TS] at *; omega))) only [RZ, ovw, oneC, Nat.reduceAdd, Nat.reduceMul, Nat.reduceSub, Nat.reduceEqDiff, Nat.reduceLT, ↓reduceIte, Int.reduceToNat, Nat.reduceLeDiff,  e0, e5, e6, e7, e8, ecol, he']
      refine hK _ _ ⟨hB3, at_ + n, D ++ [(k, at_, n)], A', c', by omega, by simp; omega, hj, hown3', e0, ?_, ?_, ?_, ?_⟩ ?_
      · rw [List.length_append]; rfl
      · rw [hpt]; exact e6
      · rw [hpt]; show σ 7 = _; rw [e7]; simp only; congr 1; omega
      · simp only [upd_apply]; simp
      · show s.size - (intOf (.int .i64 ((at_ : Int) + n))).toNat < s.size - (intOf (σ 8)).toNat; rw [e8]; simp only [intOf]; omega
    · have hk0 : k = 0 := by omega
      clear hc
      rw [if_pos hk0] at hj
      have hcnt := count_bs (s.extract at_ (at_ + n))
      rw [hxt] at hcnt
      have hfl := fold_line (((bs s).drop at_).take n) (place ((bs s).take at_))
      rw [← hpt, ← hcnt] at hfl
      have hpb2 := place_bd ((bs s).take (at_ + n))
      rw [List.length_take, bs_len] at hpb2
      have hlast := last_bs (s.extract at_ (at_ + n))
      rw [hxt, hxz] at hlast
      simp +contextual (maxSteps := 2000000) (disch := (first | omega | (simp only [SZ]; first | done | omega) | (simp only [TS] at *; omega))) only [RZ, ovw, oneC, Nat.reduceAdd, Nat.reduceMul, Nat.reduceSub, Nat.reduceEqDiff, Nat.reduceLT, ↓reduceIte, Int.reduceToNat, Nat.reduceLeDiff,  e0, e5, e6, e7, e8]
      refine (Tryz.strings_LastIndexByte (s.extract at_ (at_ + n)) 10 (by omega) w2).mono ?_
      rintro e w3 ⟨rfl, rfl⟩
      refine ⟨_, rfl, ?_⟩
      generalize Lib.lastIndexByte (s.extract at_ (at_ + n)) 10 = li at *
      simp +contextual (maxSteps := 2000000) (disch := (first | omega | (simp only [SZ]; first | done | omega) | (simp only [TS] at *; omega))) only [RZ, ovw, oneC, Nat.reduceAdd, Nat.reduceMul, Nat.reduceSub, Nat.reduceEqDiff, Nat.reduceLT, ↓reduceIte, Int.reduceToNat, Nat.reduceLeDiff,  e0, e5, e6, e7, e8]
      (refine W_if rfl (fun hc => ?_) (fun hc => ?_) <;> (try simp only [TS] at hc))
      · obtain ⟨i, hi, rfl, h10, hlst⟩ : ∃ i : Nat, i < n ∧ li = i ∧ (((bs s).drop at_).take n)[i]? = some 10 ∧ ∀ j, i < j → (((bs s).drop at_).take n)[j]? ≠ some 10 := by
          rcases hlast with ⟨h, _⟩ | h
          · omega
          · exact h
        clear hc hlast
        have hfc := fold_col _ (place ((bs s).take at_)) i h10 hlst
        rw [← hpt, List.length_take, hll, Nat.min_eq_left (by omega)] at hfc
        simp +contextual (maxSteps := 2000000) (disch := (first | omega | (simp only [SZ]; first | done | omega) | (simp only [TS] at *; omega))) only [RZ, ovw, oneC, Nat.reduceAdd, Nat.reduceMul, Nat.reduceSub, Nat.reduceEqDiff, Nat.reduceLT, ↓reduceIte, Int.reduceToNat, Nat.reduceLeDiff,  e0, e5, e6, e7, e8]
        refine (Tryz.strings_Count_one (s.extract at_ (at_ + n)) 10 w3).mono ?_
        rintro e w4 ⟨rfl, rfl⟩
        refine ⟨_, rfl, ?_⟩
        generalize Lib.countByte (s.extract at_ (at_ + n)).data.toList 10 = cnt at *
        simp +contextual (maxSteps := 2000000) (disch := (first | omega | (simp only [SZ]; first | done | omega) | (simp only [TS] at *; omega))) only [RZ, ovw, oneC, Nat.reduceAdd, Nat.reduceMul, Nat.reduceSub, Nat.reduceEqDiff, Nat.reduceLT, ↓reduceIte, Int.reduceToNat, Nat.reduceLeDiff,  e0, e5, e6, e7, e8]
        refine hK _ _ ⟨hB2, at_ + n, D, A, c, by omega, by omega, hj, hown2, e0, e5, ?_, ?_, ?_⟩ ?_
        · rw [hfl]; rfl
        · rw [hfc]; simp only [upd_apply]; simp; omega
        · simp only [upd_apply]; simp
        · show s.size - (intOf (.int .i64 ((at_ : Int) + n))).toNat < s.size - (intOf (σ 8)).toNat; rw [e8]; simp only [intOf]; omega
      · have hno : ∀ c ∈ ((bs s).drop at_).take n, c ≠ 10 := by
          rcases hlast with ⟨_, h⟩ | ⟨i, _, h, _⟩
          · exact h
          · omega
        clear hc hlast
        rw [fold_plain _ _ hno, List.length_take, hll, Nat.min_eq_left (by omega)] at hpt
        simp +contextual (maxSteps := 2000000) (disch := (first | omega | (simp only [SZ]; first | done | omega) | (simp only [TS] at *; omega))) only [RZ, ovw, oneC, Nat.reduceAdd, Nat.reduceMul, Nat.reduceSub, Nat.reduceEqDiff, Nat.reduceLT, ↓reduceIte, Int.reduceToNat, Nat.reduceLeDiff,  e0, e5, e6, e7, e8]
        refine hK _ _ ⟨hB2, at_ + n, D, A, c, by omega, by omega, hj, hown2, e0, e5, ?_, ?_, ?_⟩ ?_
        · rw [hpt]; exact e6
        · rw [hpt]; show σ 7 = _; rw [e7]; simp only; congr 1; omega
        · simp only [upd_apply]; simp
        · show s.size - (intOf (.int .i64 ((at_ : Int) + n))).toNat < s.size - (intOf (σ 8)).toNat; rw [e8]; simp only [intOf]; omega
  have hae : at_ = s.size := by omega
  clear hc
  subst hae
  rw [List.drop_eq_nil_of_le (by rw [bs_len]; omega), lexR_nil] at hj
  simp only [joinR, List.append_nil] at hj
  subst hj
  simp only
  have htk : (bs s).take s.size = bs s := List.take_of_length_le (by rw [bs_len]; omega)
  rw [htk] at e6 e7 hpb
  obtain ⟨A', c', w3, he, hown3, hb3, hs3⟩ := push1 (P := Tryz.prog) (T := 46) (ty := 46) (news := encTk (endTok s)) hown hB.size hI rfl (fun u hu => by simp only [encTk, List.mem_cons, List.not_mem_nil, or_false] at hu; rcases hu with rfl | rfl | rfl | rfl <;> rfl) (by omega) (by omega)
  have ecol : (s.size : Int) - (s.size + 1 - (place (bs s)).2) + 1 = (place (bs s)).2 := by omega
  simp only [encTk, endTok] at he
  simp +contextual (maxSteps := 2000000) (disch := (first | omega | (simp only [SZ]; first | done | omega) | (simp only [TS] at *; omega))) only [RZ, ovw, oneC, Nat.reduceAdd, Nat.reduceMul, Nat.reduceSub, Nat.reduceEqDiff, Nat.reduceLT, ↓reduceIte, Int.reduceToNat, Nat.reduceLeDiff,  e0, e5, e6, e7, e8, ecol, he]
  refine ⟨hB.trans hb3, _, rfl, A', c', ?_, ?_⟩
  · rw [List.length_append, tok_len]; rfl
  · rw [List.length_append, tok_len, List.flatMap_append]; simpa using hown3
end Go.Proofs.YtbdkggnajipdhaaGreatDoor
/- Walks: num.decimal, num.Parse. -/
namespace Go.Proofs.YtbdkggnajipdhaaGreatDoor
open Go.RowKit
set_option maxRecDepth 100000
theorem sz_pos {s : ByteArray} (h : s ≠ ⟨#[]⟩) : 0 < s.size := by
  rcases Nat.eq_zero_or_pos s.size with h0 | h0
  · exact absurd (ByteArray.ext (Array.eq_empty_of_size_eq_zero h0)) h
  · exact h0
theorem bs_nil : bs ⟨#[]⟩ = [] := rfl
theorem bs_ne {s : ByteArray} (h : 0 < s.size) : bs s ≠ [] := fun e => by have := congrArg List.length e; rw [bs_len, List.length_nil] at this; omega
theorem bs_at {s : ByteArray} {k c : Nat} (h : (bs s)[k]? = some c) : k < s.size ∧ c = bt s k := by
  have hk : k < s.size := by have := (List.getElem?_eq_some_iff.1 h).1; rwa [bs_len] at this
  rw [bs_get hk] at h
  injection h with h
  exact ⟨hk, h.symm⟩
theorem decimal_any (s : ByteArray) (w : World) (hs : s.size ≤ 1000000000) : Calls Tryz.prog 146 #[.string s] w fun e w' => e = .returned (.bool (decOK (bs s))) ∧ w = w' := by
  refine calls_W (l := [_]) Tryz.func146 rfl _ Tryz.ntmps146 (by simp) ?_
  by_cases h0 : s = ⟨#[]⟩
  · subst h0
    simp +contextual (maxSteps := 2000000) (disch := (first | omega | (simp only [SZ]; first | done | omega) | (simp only [TS] at *; omega))) only [RZ, ovw, oneC, Nat.reduceAdd, Nat.reduceMul, Nat.reduceSub, Nat.reduceEqDiff, Nat.reduceLT, ↓reduceIte, Int.reduceToNat, Nat.reduceLeDiff]
    refine W_if_t rfl ?_
    simp +contextual (maxSteps := 2000000) (disch := (first | omega | (simp only [SZ]; first | done | omega) | (simp only [TS] at *; omega))) only [RZ, ovw, oneC, Nat.reduceAdd, Nat.reduceMul, Nat.reduceSub, Nat.reduceEqDiff, Nat.reduceLT, ↓reduceIte, Int.reduceToNat, Nat.reduceLeDiff]
    exact rfl
  have hp := sz_pos h0
  have e0 : (s = ⟨#[]⟩) = False := eq_false h0
  simp +contextual (maxSteps := 2000000) (disch := (first | omega | (simp only [SZ]; first | done | omega) | (simp only [TS] at *; omega))) only [RZ, ovw, oneC, Nat.reduceAdd, Nat.reduceMul, Nat.reduceSub, Nat.reduceEqDiff, Nat.reduceLT, ↓reduceIte, Int.reduceToNat, Nat.reduceLeDiff,  e0]
  (refine W_if rfl (fun hc => ?_) (fun hc => ?_) <;> (try simp only [TS] at hc))
  · simp +contextual (maxSteps := 2000000) (disch := (first | omega | (simp only [SZ]; first | done | omega) | (simp only [TS] at *; omega))) only [RZ, ovw, oneC, Nat.reduceAdd, Nat.reduceMul, Nat.reduceSub, Nat.reduceEqDiff, Nat.reduceLT, ↓reduceIte, Int.reduceToNat, Nat.reduceLeDiff]
    exact ret_bool (decOK_zero (by rw [bs_get hp]; congr 1; omega) (by rw [bs_len]; omega)).symm
  simp +contextual (maxSteps := 2000000) (disch := (first | omega | (simp only [SZ]; first | done | omega) | (simp only [TS] at *; omega))) only [RZ, ovw, oneC, Nat.reduceAdd, Nat.reduceMul, Nat.reduceSub, Nat.reduceEqDiff, Nat.reduceLT, ↓reduceIte, Int.reduceToNat, Nat.reduceLeDiff,  e0]
  refine Raw_loop (fun σ w' => w' = w ∧ ∃ k : Nat, k ≤ s.size ∧ (∀ j, j < k → 48 ≤ bt s j ∧ bt s j ≤ 57) ∧ σ 0 = .string s ∧ σ 17 = .int .i64 s.size ∧ σ 18 = .int .i64 k) (fun σ _ => s.size - (intOf (σ 18)).toNat) ?_ ?_
  · simp +contextual (maxSteps := 2000000) (disch := (first | omega | (simp only [SZ]; first | done | omega) | (simp only [TS] at *; omega))) only [RZ, ovw, oneC, Nat.reduceAdd, Nat.reduceMul, Nat.reduceSub, Nat.reduceEqDiff, Nat.reduceLT, ↓reduceIte, Int.reduceToNat, Nat.reduceLeDiff]
    exact ⟨0, Nat.zero_le _, fun j hj => absurd hj (Nat.not_lt_zero _), rfl⟩
  rintro σ w' ⟨rfl, k, hk, hup, f0, f17, f18⟩ K hK
  simp +contextual (maxSteps := 2000000) (disch := (first | omega | (simp only [SZ]; first | done | omega) | (simp only [TS] at *; omega))) only [RZ, ovw, oneC, Nat.reduceAdd, Nat.reduceMul, Nat.reduceSub, Nat.reduceEqDiff, Nat.reduceLT, ↓reduceIte, Int.reduceToNat, Nat.reduceLeDiff,  f0, f17, f18]
  (refine W_if rfl (fun hc => ?_) (fun hc => ?_) <;> (try simp only [TS] at hc))
  · simp +contextual (maxSteps := 2000000) (disch := (first | omega | (simp only [SZ]; first | done | omega) | (simp only [TS] at *; omega))) only [RZ, ovw, oneC, Nat.reduceAdd, Nat.reduceMul, Nat.reduceSub, Nat.reduceEqDiff, Nat.reduceLT, ↓reduceIte, Int.reduceToNat, Nat.reduceLeDiff,  f0, f17, f18]
    (refine W_if rfl (fun hc => ?_) (fun hc => ?_) <;> (try simp only [TS] at hc))
    · simp +contextual (maxSteps := 2000000) (disch := (first | omega | (simp only [SZ]; first | done | omega) | (simp only [TS] at *; omega))) only [RZ, ovw, oneC, Nat.reduceAdd, Nat.reduceMul, Nat.reduceSub, Nat.reduceEqDiff, Nat.reduceLT, ↓reduceIte, Int.reduceToNat, Nat.reduceLeDiff,  f0, f17, f18]
      exact ret_bool (decOK_bad (bs_get (i := k) (by omega)) (by omega)).symm
    · simp +contextual (maxSteps := 2000000) (disch := (first | omega | (simp only [SZ]; first | done | omega) | (simp only [TS] at *; omega))) only [RZ, ovw, oneC, Nat.reduceAdd, Nat.reduceMul, Nat.reduceSub, Nat.reduceEqDiff, Nat.reduceLT, ↓reduceIte, Int.reduceToNat, Nat.reduceLeDiff,  f0, f17, f18]
      refine hK _ _ ⟨rfl, k + 1, by omega, fun j hj => ?_, ?_⟩ ?_
      · rcases Nat.lt_or_eq_of_le (Nat.lt_succ_iff.1 hj) with h | rfl
        · exact hup j h
        · omega
      · simp +contextual (maxSteps := 2000000) (disch := (first | omega | (simp only [SZ]; first | done | omega) | (simp only [TS] at *; omega))) only [RZ, ovw, oneC, Nat.reduceAdd, Nat.reduceMul, Nat.reduceSub, Nat.reduceEqDiff, Nat.reduceLT, ↓reduceIte, Int.reduceToNat, Nat.reduceLeDiff,  f0, f17, f18]
      · simp +contextual (maxSteps := 2000000) (disch := (first | omega | (simp only [SZ]; first | done | omega) | (simp only [TS] at *; omega))) only [RZ, ovw, oneC, Nat.reduceAdd, Nat.reduceMul, Nat.reduceSub, Nat.reduceEqDiff, Nat.reduceLT, ↓reduceIte, Int.reduceToNat, Nat.reduceLeDiff,  intOf, f18]
        omega
  · simp +contextual (maxSteps := 2000000) (disch := (first | omega | (simp only [SZ]; first | done | omega) | (simp only [TS] at *; omega))) only [RZ, ovw, oneC, Nat.reduceAdd, Nat.reduceMul, Nat.reduceSub, Nat.reduceEqDiff, Nat.reduceLT, ↓reduceIte, Int.reduceToNat, Nat.reduceLeDiff,  f0, f17, f18]
    refine ret_bool (decOK_yes (bs_ne hp) (fun h => ?_) (fun j c hj => ?_)).symm
    · have := (bs_at h.1).2
      rw [bs_len] at h
      omega
    · obtain ⟨h1, rfl⟩ := bs_at hj
      exact hup j (by omega)
theorem negB_bs (s : ByteArray) : negB (bs s) = (decide (0 < s.size) && decide (bt s 0 = 45)) := by
  rcases Nat.eq_zero_or_pos s.size with h | h
  · have e : bs s = [] := List.length_eq_zero_iff.1 (by rw [bs_len]; exact h)
    rw [e, h]; rfl
  · have h1 := bs_get h
    cases hb : bs s with
    | nil => exact absurd hb (bs_ne h)
    | cons c r =>
      rw [hb] at h1
      simp only [List.getElem?_cons_zero, Option.some.injEq] at h1
      subst h1
      by_cases h45 : bt s 0 = 45
      · rw [h45]; simp [negB, h]
      · unfold negB
        split
        · rename_i e; injection e with e _; exact absurd e h45
        · simp [h45]
def magB (s : ByteArray) : ByteArray := if negB (bs s) then s.extract 1 s.size else s
theorem bs_mag (s : ByteArray) : bs (magB s) = magL (bs s) := by
  unfold magB magL
  split
  · rw [bs_extract]
    rw [List.take_of_length_le (by rw [List.length_drop, bs_len]; omega)]
  · rfl
theorem mag_sz (s : ByteArray) : (magB s).size ≤ s.size := by
  unfold magB
  split
  · rw [ByteArray.size_extract]; omega
  · omega
theorem numParse_any (s : ByteArray) (w : World) (hs : s.size ≤ 1000000000) : Calls Tryz.prog 143 #[.string s] w fun e w' => e = .returned (.tuple #[.int .i64 (numE (bs s)).1, .int .i64 (numE (bs s)).2]) ∧ w = w' := by
  refine calls_W (l := [_]) Tryz.func143 rfl _ Tryz.ntmps143 (by simp) ?_
  have hms := mag_sz s
  simp +contextual (maxSteps := 2000000) (disch := (first | omega | (simp only [SZ]; first | done | omega) | (simp only [TS] at *; omega))) only [RZ, ovw, oneC, Nat.reduceAdd, Nat.reduceMul, Nat.reduceSub, Nat.reduceEqDiff, Nat.reduceLT, ↓reduceIte, Int.reduceToNat, Nat.reduceLeDiff]
  refine W_cut (fun τ w' => w' = w ∧ τ 4 = .string (magB s) ∧ τ 5 = .bool (negB (bs s))) ?_ ?_
  rotate_left
  · (refine W_if rfl (fun hc => ?_) (fun hc => ?_) <;> (try simp only [TS] at hc))
    · have hn : negB (bs s) = true := by rw [negB_bs]; simp; omega
      have hm : magB s = s.extract 1 s.size := by unfold magB; rw [if_pos hn]
      simp +contextual (maxSteps := 2000000) (disch := (first | omega | (simp only [SZ]; first | done | omega) | (simp only [TS] at *; omega))) only [RZ, ovw, oneC, Nat.reduceAdd, Nat.reduceMul, Nat.reduceSub, Nat.reduceEqDiff, Nat.reduceLT, ↓reduceIte, Int.reduceToNat, Nat.reduceLeDiff,  cutX_normal, cutX_ret, cutX_exit, cut2X_normal, cut2X_ret, cut2X_same, cut2X_ne, hn, hm]
      simp; omega
    · have hn : negB (bs s) = false := by rw [negB_bs]; simp; omega
      have hm : magB s = s := by unfold magB; rw [hn]; rfl
      simp +contextual (maxSteps := 2000000) (disch := (first | omega | (simp only [SZ]; first | done | omega) | (simp only [TS] at *; omega))) only [RZ, ovw, oneC, Nat.reduceAdd, Nat.reduceMul, Nat.reduceSub, Nat.reduceEqDiff, Nat.reduceLT, ↓reduceIte, Int.reduceToNat, Nat.reduceLeDiff,  cutX_normal, cutX_ret, cutX_exit, cut2X_normal, cut2X_ret, cut2X_same, cut2X_ne, hn, hm]
      simp; omega
  rintro τ w' ⟨rfl, f4, f5⟩
  have hR1 := @numE_bad (bs s)
  have hR2 := @numE_over (bs s)
  have hR3 := @numE_in (bs s)
  rw [← bs_mag] at hR1 hR2 hR3
  generalize numE (bs s) = R at *
  generalize magB s = t at *
  generalize negB (bs s) = ng at *
  have h48 : (bs t = [48]) = (t = ⟨#[48]⟩) := by
    apply propext
    exact ⟨fun h => bs_inj (by rw [h]; rfl), fun h => by rw [h]; rfl⟩
  rw [h48] at hR1 hR2 hR3
  simp +contextual (maxSteps := 2000000) (disch := (first | omega | (simp only [SZ]; first | done | omega) | (simp only [TS] at *; omega))) only [RZ, ovw, oneC, Nat.reduceAdd, Nat.reduceMul, Nat.reduceSub, Nat.reduceEqDiff, Nat.reduceLT, ↓reduceIte, Int.reduceToNat, Nat.reduceLeDiff,  f4, f5]
  refine (decimal_any _ _ (by omega)).mono ?_
  rintro e w1 ⟨rfl, rfl⟩
  refine ⟨_, rfl, ?_⟩
  simp +contextual (maxSteps := 2000000) (disch := (first | omega | (simp only [SZ]; first | done | omega) | (simp only [TS] at *; omega))) only [RZ, ovw, oneC, Nat.reduceAdd, Nat.reduceMul, Nat.reduceSub, Nat.reduceEqDiff, Nat.reduceLT, ↓reduceIte, Int.reduceToNat, Nat.reduceLeDiff,  f4, f5]
  (refine W_if rfl (fun hc => ?_) (fun hc => ?_) <;> (try simp only [TS] at hc))
  · rw [hR1 hc]
    simp +contextual (maxSteps := 2000000) (disch := (first | omega | (simp only [SZ]; first | done | omega) | (simp only [TS] at *; omega))) only [RZ, ovw, oneC, Nat.reduceAdd, Nat.reduceMul, Nat.reduceSub, Nat.reduceEqDiff, Nat.reduceLT, ↓reduceIte, Int.reduceToNat, Nat.reduceLeDiff]
  have hgood : ¬ (decOK (bs t) = false ∨ (ng = true ∧ t = ⟨#[48]⟩)) := by
    rintro (h | ⟨h1, h2⟩)
    · rw [h] at hc; cases hc.1
    · rcases hc.2 with h | h
      · rw [h] at h1; cases h1
      · exact h h2
  replace hR2 := hR2 hgood
  replace hR3 := hR3 hgood
  clear hR1 hc
  rw [not_or] at hgood
  have hd : decOK (bs t) = true := by simpa using hgood.1
  have hl : limN ng = 9223372036854775807 ∨ (limN ng = 9223372036854775808 ∧ ng = true) := by cases ng <;> simp [limN]
  simp +contextual (maxSteps := 2000000) (disch := (first | omega | (simp only [SZ]; first | done | omega) | (simp only [TS] at *; omega))) only [RZ, ovw, oneC, Nat.reduceAdd, Nat.reduceMul, Nat.reduceSub, Nat.reduceEqDiff, Nat.reduceLT, ↓reduceIte, Int.reduceToNat, Nat.reduceLeDiff,  f4, f5]
  refine W_cut (fun τ w2 => w2 = w' ∧ τ 4 = .string t ∧ τ 5 = .bool ng ∧ τ 6 = .int .u64 (limN ng)) ?_ ?_
  rotate_left
  · cases ng
    · refine W_if_f rfl ?_
      simp +contextual (maxSteps := 2000000) (disch := (first | omega | (simp only [SZ]; first | done | omega) | (simp only [TS] at *; omega))) only [RZ, ovw, oneC, Nat.reduceAdd, Nat.reduceMul, Nat.reduceSub, Nat.reduceEqDiff, Nat.reduceLT, ↓reduceIte, Int.reduceToNat, Nat.reduceLeDiff,  cutX_normal, cutX_ret, cutX_exit, cut2X_normal, cut2X_ret, cut2X_same, cut2X_ne, f4, f5]
      rfl
    · refine W_if_t rfl ?_
      simp +contextual (maxSteps := 2000000) (disch := (first | omega | (simp only [SZ]; first | done | omega) | (simp only [TS] at *; omega))) only [RZ, ovw, oneC, Nat.reduceAdd, Nat.reduceMul, Nat.reduceSub, Nat.reduceEqDiff, Nat.reduceLT, ↓reduceIte, Int.reduceToNat, Nat.reduceLeDiff,  cutX_normal, cutX_ret, cutX_exit, cut2X_normal, cut2X_ret, cut2X_same, cut2X_ne, f4, f5]
      rfl
  clear f4 f5
  rintro υ w2 ⟨rfl, f4, f5, f6⟩
  simp +contextual (maxSteps := 2000000) (disch := (first | omega | (simp only [SZ]; first | done | omega) | (simp only [TS] at *; omega))) only [RZ, ovw, oneC, Nat.reduceAdd, Nat.reduceMul, Nat.reduceSub, Nat.reduceEqDiff, Nat.reduceLT, ↓reduceIte, Int.reduceToNat, Nat.reduceLeDiff,  f4, f5, f6]
  refine Raw_loop (fun σ w3 => w3 = w2 ∧ ∃ k : Nat, k ≤ t.size ∧ valD 0 ((bs t).take k) ≤ limN ng ∧ σ 4 = .string t ∧ σ 5 = .bool ng ∧ σ 6 = .int .u64 (limN ng) ∧ σ 7 = .int .u64 (valD 0 ((bs t).take k)) ∧ σ 36 = .int .i64 t.size ∧ σ 37 = .int .i64 k) (fun σ _ => t.size - (intOf (σ 37)).toNat) ?_ ?_
  · simp +contextual (maxSteps := 2000000) (disch := (first | omega | (simp only [SZ]; first | done | omega) | (simp only [TS] at *; omega))) only [RZ, ovw, oneC, Nat.reduceAdd, Nat.reduceMul, Nat.reduceSub, Nat.reduceEqDiff, Nat.reduceLT, ↓reduceIte, Int.reduceToNat, Nat.reduceLeDiff,  f4, f5, f6]
    exact ⟨0, Nat.zero_le _, Nat.zero_le _, rfl, rfl⟩
  rintro σ w3 ⟨rfl, k, hk, hv, g4, g5, g6, g7, g36, g37⟩ K hK
  have hdig := decOK_all hd
  simp +contextual (maxSteps := 2000000) (disch := (first | omega | (simp only [SZ]; first | done | omega) | (simp only [TS] at *; omega))) only [RZ, ovw, oneC, Nat.reduceAdd, Nat.reduceMul, Nat.reduceSub, Nat.reduceEqDiff, Nat.reduceLT, ↓reduceIte, Int.reduceToNat, Nat.reduceLeDiff,  g4, g5, g6, g7, g36, g37]
  (refine W_if rfl (fun hc => ?_) (fun hc => ?_) <;> (try simp only [TS] at hc))
  · have hkl : k < t.size := by omega
    have hb := hdig (bt t k) (List.mem_of_getElem? (bs_get hkl))
    have hst := valD_step (bs_get hkl)
    have htk := valD_take (bs t) (k + 1)
    simp +contextual (maxSteps := 2000000) (disch := (first | omega | (simp only [SZ]; first | done | omega) | (simp only [TS] at *; omega))) only [RZ, ovw, oneC, Nat.reduceAdd, Nat.reduceMul, Nat.reduceSub, Nat.reduceEqDiff, Nat.reduceLT, ↓reduceIte, Int.reduceToNat, Nat.reduceLeDiff,  g4, g5, g6, g7, g36, g37]
    (refine W_if rfl (fun hc => ?_) (fun hc => ?_) <;> (try simp only [TS] at hc))
    · rw [hR2 (by omega)]
      simp +contextual (maxSteps := 2000000) (disch := (first | omega | (simp only [SZ]; first | done | omega) | (simp only [TS] at *; omega))) only [RZ, ovw, oneC, Nat.reduceAdd, Nat.reduceMul, Nat.reduceSub, Nat.reduceEqDiff, Nat.reduceLT, ↓reduceIte, Int.reduceToNat, Nat.reduceLeDiff,  g4]
    · simp +contextual (maxSteps := 2000000) (disch := (first | omega | (simp only [SZ]; first | done | omega) | (simp only [TS] at *; omega))) only [RZ, ovw, oneC, Nat.reduceAdd, Nat.reduceMul, Nat.reduceSub, Nat.reduceEqDiff, Nat.reduceLT, ↓reduceIte, Int.reduceToNat, Nat.reduceLeDiff,  g4, g5, g6, g7, g36, g37]
      refine hK _ _ ⟨rfl, k + 1, by omega, by omega, ?_⟩ ?_
      · simp +contextual (maxSteps := 2000000) (disch := (first | omega | (simp only [SZ]; first | done | omega) | (simp only [TS] at *; omega))) only [RZ, ovw, oneC, Nat.reduceAdd, Nat.reduceMul, Nat.reduceSub, Nat.reduceEqDiff, Nat.reduceLT, ↓reduceIte, Int.reduceToNat, Nat.reduceLeDiff,  g4, g5, g6, g7, g36, g37]
        rw [hst]
        congr 1
        omega
      · simp +contextual (maxSteps := 2000000) (disch := (first | omega | (simp only [SZ]; first | done | omega) | (simp only [TS] at *; omega))) only [RZ, ovw, oneC, Nat.reduceAdd, Nat.reduceMul, Nat.reduceSub, Nat.reduceEqDiff, Nat.reduceLT, ↓reduceIte, Int.reduceToNat, Nat.reduceLeDiff,  intOf, g37]
        omega
  · have hkl : k = t.size := by omega
    subst hkl
    rw [List.take_of_length_le (by rw [bs_len]; omega)] at hv g7
    rw [hR3 (by omega)]
    simp +contextual (maxSteps := 2000000) (disch := (first | omega | (simp only [SZ]; first | done | omega) | (simp only [TS] at *; omega))) only [RZ, ovw, oneC, Nat.reduceAdd, Nat.reduceMul, Nat.reduceSub, Nat.reduceEqDiff, Nat.reduceLT, ↓reduceIte, Int.reduceToNat, Nat.reduceLeDiff,  g4, g5, g6, g7, g36, g37]
    cases ng
    · refine W_if_t rfl ?_
      rcases hl with hl | ⟨_, hl⟩
      · simp +contextual (maxSteps := 2000000) (disch := (first | omega | (simp only [SZ]; first | done | omega) | (simp only [TS] at *; omega))) only [RZ, ovw, oneC, Nat.reduceAdd, Nat.reduceMul, Nat.reduceSub, Nat.reduceEqDiff, Nat.reduceLT, ↓reduceIte, Int.reduceToNat, Nat.reduceLeDiff,  g4, g5, g6, g7, g36, g37]
      · cases hl
    · refine W_if_f rfl ?_
      have hp := decOK_pos hd (by rw [ne_eq, h48]; have := hgood.2; simpa using this)
      have hl2 : limN true = 9223372036854775808 := rfl
      simp +contextual (maxSteps := 2000000) (disch := (first | omega | (simp only [SZ]; first | done | omega) | (simp only [TS] at *; omega))) only [RZ, ovw, oneC, Nat.reduceAdd, Nat.reduceMul, Nat.reduceSub, Nat.reduceEqDiff, Nat.reduceLT, ↓reduceIte, Int.reduceToNat, Nat.reduceLeDiff,  g4, g5, g6, g7, g36, g37]
      rw [show -((valD 0 (bs t) : Int) - 1) - 1 = -(valD 0 (bs t) : Int) by omega]
end Go.Proofs.YtbdkggnajipdhaaGreatDoor
/- Walks: the reader of a game's tokens: fail, peek, take. -/
namespace Go.Proofs.YtbdkggnajipdhaaGreatDoor
open Go.RowKit
set_option maxRecDepth 100000
/-- What the reader panics with. -/
def failV (e line : Int) : Value := .iface 51 (.agg #[.int .i64 e, .int .i64 line])
theorem cncF : cncB Tryz.prog 51 = true := by kernel_rfl
theorem paFail_any (g : Nat) (e : Int) (t : Tk) (w : World) : Calls Tryz.prog 101 #[.pointer (some ⟨g, 0, none⟩), .int .i64 e, .agg (encTk t).toArray] w fun en w' => en = .panicked [{ v := failV e t.line, recovered := false }] ∧ Below w.heap.size w w' := by
  refine calls_WX (l := [_, _, _]) Tryz.func101 rfl _ Tryz.ntmps101 (by simp) ?_
  rw [show (encTk t).toArray = #[.int .i64 t.kind, .int .i64 t.line, .int .i64 t.col, .string t.text] from rfl]
  simp +contextual (maxSteps := 2000000) (disch := (first | omega | (simp only [SZ]; first | done | omega) | (simp only [TS] at *; omega))) only [PZ, RZ, ovw, oneC, Nat.reduceAdd, Nat.reduceMul, Nat.reduceSub, Nat.reduceEqDiff, Nat.reduceLT, ↓reduceIte, Int.reduceToNat, Nat.reduceLeDiff,  cncF]
  exact ⟨rfl, below_alloc _ _⟩
/-- The reader's tokens: what they are, and that the last one, and no other, is the end. -/
structure TokOk (T : List Tk) : Prop where
  big : T.length ≤ 1000000
  szs : ∀ t ∈ T, t.text.size ≤ 1000000
  num : ∀ t ∈ T, t.kind = 2 → (numE (bs t.text)).2 = 0 ∧ 0 ≤ (numE (bs t.text)).1 ∧ (numE (bs t.text)).1 ≤ 999999999999999999
  last : ∀ a t, T[a]? = some t → t.kind ≠ 0 → a + 1 < T.length
  fin : ∀ a t, T[a]? = some t → t.kind = 0 → a + 1 = T.length
  kinds : ∀ t ∈ T, 0 ≤ t.kind ∧ t.kind ≤ 3
  lines : ∀ t ∈ T, 0 ≤ t.line ∧ t.line ≤ 1000000
theorem nxT_drop {T : List Tk} {a : Nat} (h : a + 1 < T.length) : nxT (T.drop a) = T.drop (a + 1) := by
  rw [List.drop_eq_getElem_cons (show a < T.length by omega), List.drop_eq_getElem_cons h]
  rfl
theorem hdT_drop {T : List Tk} {a : Nat} {t : Tk} (h : T[a]? = some t) : hdT (T.drop a) = t := by
  obtain ⟨hk, rfl⟩ := List.getElem?_eq_some_iff.1 h
  rw [List.drop_eq_getElem_cons hk]
  rfl
/-- A reader at the a-th of its tokens; behind these two cells: rest. -/
structure PkIn (w : World) (g : Nat) (A : Option Addr) (c : Nat) (T : List Tk) (a : Nat) (rest : List Value) : Prop where
  lt : a < T.length
  arr : Arr w A 4 (T.map encTk)
  off : ∀ b o, A = some ⟨b, o, none⟩ → b ≠ g
  row : Row w g 55 (.slice A T.length c :: .int .i64 a :: rest)
theorem PkIn.kept {X : List Nat} {w w' : World} {g : Nat} {A : Option Addr} {c : Nat} {T : List Tk} {a : Nat} {rest : List Value} (h : PkIn w g A c T a rest) (k : Kept X w w') (hg : g ∉ X) (hA : ∀ b o, A = some ⟨b, o, none⟩ → b ∉ X) : PkIn w' g A c T a rest :=
  ⟨h.lt, h.arr.kept k hA, h.off, h.row.kept k hg⟩
theorem PkIn.below {w w' : World} {g : Nat} {A : Option Addr} {c : Nat} {T : List Tk} {a : Nat} {rest : List Value} (h : PkIn w g A c T a rest) (k : Below w.heap.size w w') : PkIn w' g A c T a rest :=
  ⟨h.lt, h.arr.below k, h.off, h.row.below k⟩
/-- The tokens from here on. -/
abbrev tl (T : List Tk) (a : Nat) : List Tk := T.drop a
section
variable {g c a : Nat} {A : Option Addr} {T : List Tk} {w : World} {rest : List Value}
theorem paPeek_any (h : PkIn w g A c T a rest) (hT : TokOk T) : Calls Tryz.prog 57 #[.pointer (some ⟨g, 0, none⟩)] w fun e w' => e = .returned (.agg (encTk (hdT (T.drop a))).toArray) ∧ Below w.heap.size w w' := by
  refine calls_W (l := [_]) Tryz.func57 rfl _ Tryz.ntmps57 (by simp) ?_
  obtain ⟨h1, h2, h3, h4⟩ := h
  have hbig := hT.big
  obtain ⟨t, ht⟩ : ∃ t, T[a]? = some t := ⟨_, List.getElem?_eq_getElem h1⟩
  rw [hdT_drop ht]
  obtain ⟨b, o, rfl, hb, hcell⟩ := h2.at_ ht
  have l0 := hcell 0 _ rfl
  rw [Nat.add_zero] at l0
  have l1 := hcell 1 _ rfl
  have l2 := hcell 2 _ rfl
  have l3 := hcell 3 _ rfl
  have c0 := h4.cell (i := 0) rfl
  have c1 := h4.cell (i := 1) rfl
  have hgl := h4.lt
  simp +contextual (maxSteps := 2000000) (disch := (first | omega | (simp only [SZ]; first | done | omega) | (simp only [TS] at *; omega))) only [RZ, ovw, oneC, Nat.reduceAdd, Nat.reduceMul, Nat.reduceSub, Nat.reduceEqDiff, Nat.reduceLT, ↓reduceIte, Int.reduceToNat, Nat.reduceLeDiff]
  have hB := below_alloc w (.cells #[.int .i64 0, .int .i64 0, .int .i64 0, .string ByteArray.empty] 62)
  have hr := Row.new w 62 [.int .i64 0, .int .i64 0, .int .i64 0, .string ByteArray.empty]
  replace hr : Row (w.alloc (.cells #[.int .i64 0, .int .i64 0, .int .i64 0, .string ByteArray.empty] 62)) _ _ _ := hr
  have hz : (w.alloc (.cells #[.int .i64 0, .int .i64 0, .int .i64 0, .string ByteArray.empty] 62)).heap.size = w.heap.size + 1 := World.size_alloc _ _
  generalize w.alloc (.cells #[.int .i64 0, .int .i64 0, .int .i64 0, .string ByteArray.empty] 62) = w1 at *
  have r0 := hr.cell (i := 0) rfl
  have r1 := hr.cell (i := 1) rfl
  have r2 := hr.cell (i := 2) rfl
  have r3 := hr.cell (i := 3) rfl
  have y0 := hr.frozen 0
  have y1 := hr.frozen 1
  have y2 := hr.frozen 2
  have y3 := hr.frozen 3
  have hBd : Below w.heap.size w w1.drew := ⟨hB.os, hB.tape, hB.output, hB.size, hB.block⟩
  refine Raw_rcS (τ := ?ta) (fun w' => Below w.heap.size w w') [0, 1, 2, 3, 4, 5, 6, 7, 8, 9] [10] MX rfl (by kernel_rfl) (by kernel_rfl) (by kernel_rfl) (fun _ _ _ h => h) hBd (fun w7 h7 => ?_) ?_; rotate_left
  · have k := (bcell h7).1
    have l0 := (k _ _ hb).trans l0
    have l1 := (k _ _ hb).trans l1
    have l2 := (k _ _ hb).trans l2
    have l3 := (k _ _ hb).trans l3
    have c0 := (k _ _ hgl).trans c0
    have c1 := (k _ _ hgl).trans c1
    simp only [opsL_cons, opsL_nil, List.getElem?_toArray, List.getElem?_cons_zero, List.getElem?_cons_succ, optL_some]
    simp +contextual (maxSteps := 2000000) (disch := (first | omega | (simp only [SZ]; first | done | omega) | (simp only [TS] at *; omega))) only [RZ, ovw, oneC, Nat.reduceAdd, Nat.reduceMul, Nat.reduceSub, Nat.reduceEqDiff, Nat.reduceLT, ↓reduceIte, Int.reduceToNat, Nat.reduceLeDiff,  c0, c1, l0, l1, l2, l3]
    exact rfl
  simp only [opsL_cons, opsL_nil, List.getElem?_toArray, List.getElem?_cons_zero, List.getElem?_cons_succ, optL_some]
  simp +contextual (maxSteps := 2000000) (disch := (first | omega | (simp only [SZ]; first | done | omega) | (simp only [TS] at *; omega))) only [RZ, ovw, oneC, Nat.reduceAdd, Nat.reduceMul, Nat.reduceSub, Nat.reduceEqDiff, Nat.reduceLT, ↓reduceIte, Int.reduceToNat, Nat.reduceLeDiff,  EC_op, EC_nil, r0, r1, r2, r3, y0, y1, y2, y3]
  have hf : Below w.heap.size w ((((w1.setCell ⟨w.heap.size, 0, none⟩ (.int .i64 t.kind)).setCell ⟨w.heap.size, 1, none⟩ (.int .i64 t.line)).setCell ⟨w.heap.size, 2, none⟩ (.int .i64 t.col)).setCell ⟨w.heap.size, 3, none⟩ (.string t.text)).drew := by
    have h4 := (((hB.setCell (p := ⟨w.heap.size, 0, none⟩) (Nat.le_refl _) (.int .i64 t.kind)).setCell (p := ⟨w.heap.size, 1, none⟩) (Nat.le_refl _) (.int .i64 t.line)).setCell (p := ⟨w.heap.size, 2, none⟩) (Nat.le_refl _) (.int .i64 t.col)).setCell (p := ⟨w.heap.size, 3, none⟩) (Nat.le_refl _) (.string t.text)
    exact ⟨h4.os, h4.tape, h4.output, h4.size, h4.block⟩
  exact ⟨hf, rfl, hf⟩
end
/-- What a reader's call gives: a value and what is left, or an error and where. -/
def Res {α : Type} (g : Nat) (A : Option Addr) (c : Nat) (T : List Tk) (rest : List Value) (w : World) (r : Except (Int × List Tk) (α × List Tk)) (val : α → Value) (e : Ending) (w' : World) : Prop := Kept [g] w w' ∧ match r with
  | .ok x => e = .returned (val x.1) ∧ ∃ a', x.2 = T.drop a' ∧ PkIn w' g A c T a' rest
  | .error x => e = .panicked [{ v := failV x.1 (hdT x.2).line, recovered := false }]
def takeT (k : Int) (L : List Tk) : Except (Int × List Tk) (Tk × List Tk) := if (hdT L).kind = k then .ok (hdT L, nxT L) else .error (1, L)
/-- A token's box: new, and then filled. -/
def boxW (w : World) (b : Nat) (t : Tk) : World := (((w.setCell ⟨b, 0, none⟩ (.int .i64 t.kind)).setCell ⟨b, 1, none⟩ (.int .i64 t.line)).setCell ⟨b, 2, none⟩ (.int .i64 t.col)).setCell ⟨b, 3, none⟩ (.string t.text)
theorem box_row {w : World} {b : Nat} {T : TypeId} {u : List Value} (h : Row w b T u) (hu : u.length = 4) (t : Tk) : Row (boxW w b t) b T (encTk t) := by
  have h4 := (((h.set_ (i := 0) (by omega) (.int .i64 t.kind)).set_ (i := 1) (by simp; omega) (.int .i64 t.line)).set_ (i := 2) (by simp; omega) (.int .i64 t.col)).set_ (i := 3) (by simp; omega) (.string t.text)
  match u, hu with
  | [_, _, _, _], _ => exact h4
theorem box_below {B b : Nat} {w w' : World} (h : Below B w w') (hb : B ≤ b) (t : Tk) : Below B w (boxW w' b t) :=
  (((h.setCell (p := ⟨b, 0, none⟩) hb (.int .i64 t.kind)).setCell (p := ⟨b, 1, none⟩) hb (.int .i64 t.line)).setCell (p := ⟨b, 2, none⟩) hb (.int .i64 t.col)).setCell (p := ⟨b, 3, none⟩) hb (.string t.text)
theorem box_size {b : Nat} {w : World} (t : Tk) : (boxW w b t).heap.size = w.heap.size := by unfold boxW; simp only [World.size_setCell]
theorem box_kept {X : List Nat} {b : Nat} {w w' : World} (h : Kept X w w') (hb : b ∈ X ∨ w.heap.size ≤ b) (t : Tk) : Kept X w (boxW w' b t) := by
  have : Kept (b :: X) w (boxW w' b t) := ((((h.less fun k hk _ => List.mem_cons_of_mem _ hk).setCell (p := ⟨b, 0, none⟩) (by simp) (.int .i64 t.kind)).setCell (p := ⟨b, 1, none⟩) (by simp) (.int .i64 t.line)).setCell (p := ⟨b, 2, none⟩) (by simp) (.int .i64 t.col)).setCell (p := ⟨b, 3, none⟩) (by simp) (.string t.text)
  refine this.less fun k hk hl => ?_
  rcases List.mem_cons.1 hk with rfl | hk
  · rcases hb with hb | hb
    · exact hb
    · omega
  · exact hk
section
variable {g c a : Nat} {A : Option Addr} {T : List Tk} {w : World} {rest : List Value}
theorem PkIn.kept1 {w' : World} {rest' : List Value} (h : PkIn w g A c T a rest) (k : Kept [g] w w') {a' : Nat} (ha : a' < T.length) (hR : Row w' g 55 (.slice A T.length c :: .int .i64 a' :: rest')) : PkIn w' g A c T a' rest' :=
  ⟨ha, h.arr.kept k (fun b o hb => by have := h.off b o hb; simpa using this), h.off, hR⟩
theorem paTake_any (k : Int) (h : PkIn w g A c T a rest) (hT : TokOk T) : Calls Tryz.prog 59 #[.pointer (some ⟨g, 0, none⟩), .int .i64 k] w (Res g A c T rest w (takeT k (T.drop a)) fun t => .agg (encTk t).toArray) := by
  refine calls_WX (l := [_, _]) Tryz.func59 rfl _ Tryz.ntmps59 (by simp) ?_
  generalize hRes : (Res g A c T rest w (takeT k (T.drop a)) fun t => .agg (encTk t).toArray) = R
  have hlt := h.lt
  have hbig := hT.big
  have hgl := h.row.lt
  obtain ⟨t, ht⟩ : ∃ t, T[a]? = some t := ⟨_, List.getElem?_eq_getElem hlt⟩
  have htd := hdT_drop ht
  unfold takeT at hRes
  rw [htd] at hRes
  simp +contextual (maxSteps := 2000000) (disch := (first | omega | (simp only [SZ]; first | done | omega) | (simp only [TS] at *; omega))) only [PZ, RZ, ovw, oneC, Nat.reduceAdd, Nat.reduceMul, Nat.reduceSub, Nat.reduceEqDiff, Nat.reduceLT, ↓reduceIte, Int.reduceToNat, Nat.reduceLeDiff]
  have h0 := h.below (below_alloc w (.cells #[Value.int .i64 0, .int .i64 0, .int .i64 0, .string ByteArray.empty] 62))
  have k0 : Kept [g] w _ := Kept.of_below (below_alloc w (.cells #[Value.int .i64 0, .int .i64 0, .int .i64 0, .string ByteArray.empty] 62))
  have r0 := Row.new w 62 [Value.int .i64 0, .int .i64 0, .int .i64 0, .string ByteArray.empty]
  have z0 : (w.alloc (.cells #[Value.int .i64 0, .int .i64 0, .int .i64 0, .string ByteArray.empty] 62)).heap.size = w.heap.size + 1 := World.size_alloc _ _
  change Calls _ _ _ (w.alloc (.cells #[Value.int .i64 0, .int .i64 0, .int .i64 0, .string ByteArray.empty] 62)) _
  generalize w.alloc (.cells #[Value.int .i64 0, .int .i64 0, .int .i64 0, .string ByteArray.empty] 62) = w0 at *
  refine (paPeek_any h0 hT).mono ?_
  rintro e w1 ⟨rfl, hB1⟩
  rw [htd, show (encTk t).toArray = #[.int .i64 t.kind, .int .i64 t.line, .int .i64 t.col, .string t.text] from rfl]
  have h1 := h0.below hB1
  have k1 := k0.trans (Kept.of_below hB1)
  have r1 := r0.below hB1
  have z1 := hB1.size
  replace r0 : Row w0 w.heap.size 62 _ := r0
  simp +contextual (maxSteps := 2000000) (disch := (first | omega | (simp only [SZ]; first | done | omega) | (simp only [TS] at *; omega))) only [PZ, RZ, ovw, oneC, Nat.reduceAdd, Nat.reduceMul, Nat.reduceSub, Nat.reduceEqDiff, Nat.reduceLT, ↓reduceIte, Int.reduceToNat, Nat.reduceLeDiff]
  have h2 := h1.below (below_alloc w1 (.cells #[Value.int .i64 t.kind, .int .i64 t.line, .int .i64 t.col, .string t.text] 62))
  have k2 := k1.alloc (.cells #[Value.int .i64 t.kind, .int .i64 t.line, .int .i64 t.col, .string t.text] 62)
  have r2 := r1.alloc (.cells #[Value.int .i64 t.kind, .int .i64 t.line, .int .i64 t.col, .string t.text] 62)
  have q2 := Row.new w1 62 [Value.int .i64 t.kind, .int .i64 t.line, .int .i64 t.col, .string t.text]
  have z2 : (w1.alloc (.cells #[Value.int .i64 t.kind, .int .i64 t.line, .int .i64 t.col, .string t.text] 62)).heap.size = w1.heap.size + 1 := World.size_alloc _ _
  replace q2 : Row (w1.alloc (.cells #[Value.int .i64 t.kind, .int .i64 t.line, .int .i64 t.col, .string t.text] 62)) _ _ _ := q2
  generalize w1.alloc (.cells #[Value.int .i64 t.kind, .int .i64 t.line, .int .i64 t.col, .string t.text] 62) = w2 at *
  have c0 := q2.cell (i := 0) rfl
  have c1 := q2.cell (i := 1) rfl
  have c2 := q2.cell (i := 2) rfl
  have c3 := q2.cell (i := 3) rfl
  have d0 := r2.cell (i := 0) rfl
  have d1 := r2.cell (i := 1) rfl
  have d2 := r2.cell (i := 2) rfl
  have d3 := r2.cell (i := 3) rfl
  have e0 := r2.frozen 0
  have e1 := r2.frozen 1
  have e2 := r2.frozen 2
  have e3 := r2.frozen 3
  (refine WX_if rfl (fun hc => ?_) (fun hc => ?_) <;> (try simp only [TS] at hc))
  · simp +contextual (maxSteps := 2000000) (disch := (first | omega | (simp only [SZ]; first | done | omega) | (simp only [TS] at *; omega))) only [PZ, RZ, ovw, oneC, Nat.reduceAdd, Nat.reduceMul, Nat.reduceSub, Nat.reduceEqDiff, Nat.reduceLT, ↓reduceIte, Int.reduceToNat, Nat.reduceLeDiff,  c0, c1, c2, c3]
    refine (paFail_any g 1 t w2).mono ?_
    rintro e w3 ⟨rfl, hB3⟩
    have hc' : ¬ t.kind = k := by simpa using hc
    subst hRes
    rw [if_neg hc', Ends_pan]
    refine ⟨k2.trans (Kept.of_below hB3), ?_⟩
    dsimp only
    rw [htd]
  · have hc' : t.kind = k := by simpa using hc
    simp +contextual (maxSteps := 2000000) (disch := (first | omega | (simp only [SZ]; first | done | omega) | (simp only [TS] at *; omega))) only [PZ, RZ, ovw, oneC, Nat.reduceAdd, Nat.reduceMul, Nat.reduceSub, Nat.reduceEqDiff, Nat.reduceLT, ↓reduceIte, Int.reduceToNat, Nat.reduceLeDiff,  c0]
    (refine WX_if rfl (fun hc => ?_) (fun hc => ?_) <;> (try simp only [TS] at hc))
    · have p1 := h2.row.cell (i := 1) rfl
      have p1z := h2.row.frozen 1
      have hk0 : ¬ k = 0 := by simpa using hc
      have hlast := hT.last a t ht (by omega)
      simp +contextual (maxSteps := 2000000) (disch := (first | omega | (simp only [SZ]; first | done | omega) | (simp only [TS] at *; omega))) only [PZ, RZ, ovw, oneC, Nat.reduceAdd, Nat.reduceMul, Nat.reduceSub, Nat.reduceEqDiff, Nat.reduceLT, ↓reduceIte, Int.reduceToNat, Nat.reduceLeDiff,  c0, c1, c2, c3, p1, p1z, d0, d1, d2, d3, e0, e1, e2, e3]
      subst hRes
      rw [if_pos hc']
      have k3 := k2.setCell (p := ⟨g, 1, none⟩) (by simp) (.int .i64 ((a : Int) + 1))
      have h3 := h2.kept1 ((Kept.refl [g] w2).setCell (p := ⟨g, 1, none⟩) (by simp) (.int .i64 ((a : Int) + 1))) hlast (h2.row.set_ (i := 1) (by simp) _)
      refine ⟨box_kept k3 (Or.inr (Nat.le_refl _)) t, rfl, a + 1, nxT_drop hlast, ?_⟩
      exact h3.kept (box_kept (X := [w.heap.size]) (Kept.refl _ _) (Or.inl (by simp)) t) (by simp; omega) (fun b o hb => by have := (h.arr (by simp; omega)); obtain ⟨b', o', e', hb', _⟩ := this; rw [hb] at e'; injection e' with e'; injection e' with e'; simp; omega)
    · simp +contextual (maxSteps := 2000000) (disch := (first | omega | (simp only [SZ]; first | done | omega) | (simp only [TS] at *; omega))) only [PZ, RZ, ovw, oneC, Nat.reduceAdd, Nat.reduceMul, Nat.reduceSub, Nat.reduceEqDiff, Nat.reduceLT, ↓reduceIte, Int.reduceToNat, Nat.reduceLeDiff,  c0, c1, c2, c3, d0, d1, d2, d3, e0, e1, e2, e3]
      subst hRes
      rw [if_pos hc']
      have hk0 : k = 0 := by simpa using hc
      have hfin := hT.fin a t ht (by omega)
      refine ⟨box_kept k2 (Or.inr (Nat.le_refl _)) t, rfl, a, ?_, ?_⟩
      · rw [List.drop_eq_getElem_cons hlt, List.drop_eq_nil_of_le (by omega)]
        rfl
      exact h2.kept (box_kept (X := [w.heap.size]) (Kept.refl _ _) (Or.inl (by simp)) t) (by simp; omega) (fun b o hb => by have := (h.arr (by simp; omega)); obtain ⟨b', o', e', hb', _⟩ := this; rw [hb] at e'; injection e' with e'; injection e' with e'; simp; omega)
end
end Go.Proofs.YtbdkggnajipdhaaGreatDoor
/- Walks: the reader of a game's tokens: expect, word, number, any, follows, pair. -/
namespace Go.Proofs.YtbdkggnajipdhaaGreatDoor
open Go.RowKit
set_option maxRecDepth 100000
def expectT (k : Int) (s : ByteArray) (L : List Tk) : Except (Int × List Tk) (Unit × List Tk) := thenT (isT k (bs s) L) L fun L' => .ok ((), L')
def wordT (L : List Tk) : Except (Int × List Tk) (ByteArray × List Tk) := if (hdT L).kind = 1 then .ok ((hdT L).text, nxT L) else .error (1, L)
def numberT (m : Int) (L : List Tk) : Except (Int × List Tk) (Int × List Tk) := thenT (lessT m L) L fun x => .ok x
def anyT (L : List Tk) : Except (Int × List Tk) (Int × List Tk) := thenT (numT L) L fun x => .ok x
section
variable {g c a : Nat} {A : Option Addr} {T : List Tk} {w : World} {rest : List Value}
theorem arr_off {b : Nat} {X : List Nat} (h : Arr w A 4 (T.map encTk)) (hT : a < T.length) (hX : ∀ x ∈ X, w.heap.size ≤ x) : ∀ b o, A = some ⟨b, o, none⟩ → b ∉ X := fun b o hb hx => by
  obtain ⟨b', o', e', hb', _⟩ := h (by simp; omega)
  rw [hb] at e'
  injection e' with e'
  injection e' with e'
  have := hX b hx
  omega
theorem Res.after {α : Type} {r : Except (Int × List Tk) (α × List Tk)} {val : α → Value} {e : Ending} {w0 w1 : World} (h : Res g A c T rest w1 r val e w0) (k : Kept [g] w w1) : Res g A c T rest w r val e w0 := ⟨k.trans h.1, h.2⟩
theorem paExpect_any (k : Int) (s : ByteArray) (h : PkIn w g A c T a rest) (hT : TokOk T) : Calls Tryz.prog 55 #[.pointer (some ⟨g, 0, none⟩), .int .i64 k, .string s] w (Res g A c T rest w (expectT k s (T.drop a)) fun _ => .tuple #[]) := by
  refine calls_WX (l := [_, _, _]) Tryz.func55 rfl _ Tryz.ntmps55 (by simp) ?_
  generalize hRes : (Res g A c T rest w (expectT k s (T.drop a)) fun _ => .tuple #[]) = R
  have hlt := h.lt
  simp +contextual (maxSteps := 2000000) (disch := (first | omega | (simp only [SZ]; first | done | omega) | (simp only [TS] at *; omega))) only [PZ, RZ, ovw, oneC, Nat.reduceAdd, Nat.reduceMul, Nat.reduceSub, Nat.reduceEqDiff, Nat.reduceLT, ↓reduceIte, Int.reduceToNat, Nat.reduceLeDiff]
  refine (paPeek_any h hT).mono ?_
  rintro e w1 ⟨rfl, hB1⟩
  generalize htd : hdT (T.drop a) = t
  rw [show (encTk t).toArray = #[.int .i64 t.kind, .int .i64 t.line, .int .i64 t.col, .string t.text] from rfl]
  have h1 := h.below hB1
  have k1 : Kept [g] w w1 := Kept.of_below hB1
  simp +contextual (maxSteps := 2000000) (disch := (first | omega | (simp only [SZ]; first | done | omega) | (simp only [TS] at *; omega))) only [PZ, RZ, ovw, oneC, Nat.reduceAdd, Nat.reduceMul, Nat.reduceSub, Nat.reduceEqDiff, Nat.reduceLT, ↓reduceIte, Int.reduceToNat, Nat.reduceLeDiff]
  have h2 := h1.below (below_alloc w1 (.cells #[Value.int .i64 t.kind, .int .i64 t.line, .int .i64 t.col, .string t.text] 62))
  have k2 := k1.alloc (.cells #[Value.int .i64 t.kind, .int .i64 t.line, .int .i64 t.col, .string t.text] 62)
  have q2 := Row.new w1 62 [Value.int .i64 t.kind, .int .i64 t.line, .int .i64 t.col, .string t.text]
  replace q2 : Row (w1.alloc (.cells #[Value.int .i64 t.kind, .int .i64 t.line, .int .i64 t.col, .string t.text] 62)) _ _ _ := q2
  generalize w1.alloc (.cells #[Value.int .i64 t.kind, .int .i64 t.line, .int .i64 t.col, .string t.text] 62) = w2 at *
  have c0 := q2.cell (i := 0) rfl
  have c1 := q2.cell (i := 1) rfl
  have c2 := q2.cell (i := 2) rfl
  have c3 := q2.cell (i := 3) rfl
  (refine WX_if rfl (fun hc => ?_) (fun hc => ?_) <;> (try simp only [TS] at hc))
  · simp +contextual (maxSteps := 2000000) (disch := (first | omega | (simp only [SZ]; first | done | omega) | (simp only [TS] at *; omega))) only [PZ, RZ, ovw, oneC, Nat.reduceAdd, Nat.reduceMul, Nat.reduceSub, Nat.reduceEqDiff, Nat.reduceLT, ↓reduceIte, Int.reduceToNat, Nat.reduceLeDiff,  c0, c1, c2, c3]
    refine (paFail_any g 1 t w2).mono ?_
    rintro e w3 ⟨rfl, hB3⟩
    have hc' : ¬ t.text = s := by simpa using hc
    have hI : isT k (bs s) (T.drop a) = none := isT_no (by rw [htd]; exact fun h => hc' (bs_inj h.2))
    subst hRes
    rw [Ends_pan, expectT, hI]
    refine ⟨k2.trans (Kept.of_below hB3), ?_⟩
    dsimp only [thenT]
    rw [htd]
  · have hc' : t.text = s := by simpa using hc
    simp +contextual (maxSteps := 2000000) (disch := (first | omega | (simp only [SZ]; first | done | omega) | (simp only [TS] at *; omega))) only [PZ, RZ, ovw, oneC, Nat.reduceAdd, Nat.reduceMul, Nat.reduceSub, Nat.reduceEqDiff, Nat.reduceLT, ↓reduceIte, Int.reduceToNat, Nat.reduceLeDiff,  c0]
    refine (paTake_any k h2 hT).mono ?_
    rintro e w3 h3
    have h4 := h3.after k2
    subst hRes
    by_cases hk : t.kind = k
    · rw [takeT, htd, if_pos hk] at h4
      obtain ⟨k4, rfl, h5⟩ := h4
      simp +contextual (maxSteps := 2000000) (disch := (first | omega | (simp only [SZ]; first | done | omega) | (simp only [TS] at *; omega))) only [PZ, RZ, ovw, oneC, Nat.reduceAdd, Nat.reduceMul, Nat.reduceSub, Nat.reduceEqDiff, Nat.reduceLT, ↓reduceIte, Int.reduceToNat, Nat.reduceLeDiff]
      rw [expectT, isT_yes (by rw [htd]; exact hk) (by rw [htd, hc'])]
      exact ⟨k4, rfl, h5⟩
    · rw [takeT, htd, if_neg hk] at h4
      obtain ⟨k4, rfl⟩ := h4
      simp +contextual (maxSteps := 2000000) (disch := (first | omega | (simp only [SZ]; first | done | omega) | (simp only [TS] at *; omega))) only [PZ, RZ, ovw, oneC, Nat.reduceAdd, Nat.reduceMul, Nat.reduceSub, Nat.reduceEqDiff, Nat.reduceLT, ↓reduceIte, Int.reduceToNat, Nat.reduceLeDiff]
      rw [expectT, isT_no (by rw [htd]; exact fun h => hk h.1)]
      exact ⟨k4, rfl⟩
theorem paWord_any (h : PkIn w g A c T a rest) (hT : TokOk T) : Calls Tryz.prog 56 #[.pointer (some ⟨g, 0, none⟩)] w (Res g A c T rest w (wordT (T.drop a)) fun s => .string s) := by
  refine calls_WX (l := [_]) Tryz.func56 rfl _ Tryz.ntmps56 (by simp) ?_
  generalize hRes : (Res g A c T rest w (wordT (T.drop a)) fun s => .string s) = R
  simp +contextual (maxSteps := 2000000) (disch := (first | omega | (simp only [SZ]; first | done | omega) | (simp only [TS] at *; omega))) only [PZ, RZ, ovw, oneC, Nat.reduceAdd, Nat.reduceMul, Nat.reduceSub, Nat.reduceEqDiff, Nat.reduceLT, ↓reduceIte, Int.reduceToNat, Nat.reduceLeDiff]
  refine (paTake_any 1 h hT).mono ?_
  rintro e w1 h1
  subst hRes
  by_cases hk : (hdT (T.drop a)).kind = 1
  · rw [takeT, if_pos hk] at h1
    obtain ⟨k1, rfl, h2⟩ := h1
    generalize htd : hdT (T.drop a) = t at *
    dsimp only
    rw [show (encTk t).toArray = #[.int .i64 t.kind, .int .i64 t.line, .int .i64 t.col, .string t.text] from rfl]
    simp +contextual (maxSteps := 2000000) (disch := (first | omega | (simp only [SZ]; first | done | omega) | (simp only [TS] at *; omega))) only [PZ, RZ, ovw, oneC, Nat.reduceAdd, Nat.reduceMul, Nat.reduceSub, Nat.reduceEqDiff, Nat.reduceLT, ↓reduceIte, Int.reduceToNat, Nat.reduceLeDiff]
    rw [wordT, htd, if_pos hk]
    exact ⟨k1, rfl, h2⟩
  · rw [takeT, if_neg hk] at h1
    obtain ⟨k1, rfl⟩ := h1
    simp +contextual (maxSteps := 2000000) (disch := (first | omega | (simp only [SZ]; first | done | omega) | (simp only [TS] at *; omega))) only [PZ, RZ, ovw, oneC, Nat.reduceAdd, Nat.reduceMul, Nat.reduceSub, Nat.reduceEqDiff, Nat.reduceLT, ↓reduceIte, Int.reduceToNat, Nat.reduceLeDiff]
    rw [wordT, if_neg hk]
    exact ⟨k1, rfl⟩
theorem tok_mem (h : a < T.length) : hdT (T.drop a) ∈ T := by
  rw [hdT_drop (List.getElem?_eq_getElem h)]; exact List.getElem_mem h
theorem paNumber_any (m : Int) (h : PkIn w g A c T a rest) (hT : TokOk T) : Calls Tryz.prog 133 #[.pointer (some ⟨g, 0, none⟩), .int .i64 m] w (Res g A c T rest w (numberT m (T.drop a)) fun n => .int .i64 n) := by
  refine calls_WX (l := [_, _]) Tryz.func133 rfl _ Tryz.ntmps133 (by simp) ?_
  generalize hRes : (Res g A c T rest w (numberT m (T.drop a)) fun n => .int .i64 n) = R
  have hlt := h.lt
  have htm := tok_mem h.lt
  simp +contextual (maxSteps := 2000000) (disch := (first | omega | (simp only [SZ]; first | done | omega) | (simp only [TS] at *; omega))) only [PZ, RZ, ovw, oneC, Nat.reduceAdd, Nat.reduceMul, Nat.reduceSub, Nat.reduceEqDiff, Nat.reduceLT, ↓reduceIte, Int.reduceToNat, Nat.reduceLeDiff]
  refine (paTake_any 2 h hT).mono ?_
  rintro e w1 h1
  by_cases hk : (hdT (T.drop a)).kind = 2
  · rw [takeT, if_pos hk] at h1
    obtain ⟨k1, rfl, a1, ha1, h2⟩ := h1
    generalize htd : hdT (T.drop a) = t at *
    have hnum := hT.num t htm hk
    have hsz := hT.szs t htm
    dsimp only
    rw [show (encTk t).toArray = #[.int .i64 t.kind, .int .i64 t.line, .int .i64 t.col, .string t.text] from rfl]
    simp +contextual (maxSteps := 2000000) (disch := (first | omega | (simp only [SZ]; first | done | omega) | (simp only [TS] at *; omega))) only [PZ, RZ, ovw, oneC, Nat.reduceAdd, Nat.reduceMul, Nat.reduceSub, Nat.reduceEqDiff, Nat.reduceLT, ↓reduceIte, Int.reduceToNat, Nat.reduceLeDiff]
    have h3 := h2.below (below_alloc w1 (.cells #[Value.int .i64 t.kind, .int .i64 t.line, .int .i64 t.col, .string t.text] 62))
    have k3 := k1.alloc (.cells #[Value.int .i64 t.kind, .int .i64 t.line, .int .i64 t.col, .string t.text] 62)
    have q3 := Row.new w1 62 [Value.int .i64 t.kind, .int .i64 t.line, .int .i64 t.col, .string t.text]
    replace q3 : Row (w1.alloc (.cells #[Value.int .i64 t.kind, .int .i64 t.line, .int .i64 t.col, .string t.text] 62)) _ _ _ := q3
    generalize w1.alloc (.cells #[Value.int .i64 t.kind, .int .i64 t.line, .int .i64 t.col, .string t.text] 62) = w3 at *
    have c0 := q3.cell (i := 0) rfl
    have c1 := q3.cell (i := 1) rfl
    have c2 := q3.cell (i := 2) rfl
    have c3 := q3.cell (i := 3) rfl
    refine (numParse_any t.text w3 (by omega)).mono ?_
    rintro e w4 ⟨rfl, rfl⟩
    have hnT : numT (T.drop a) = some ((numE (bs t.text)).1, nxT (T.drop a)) := by unfold numT; rw [htd, if_pos ⟨hk, hnum.1⟩]
    generalize numE (bs t.text) = NE at *
    obtain ⟨n0, n1, n2⟩ := hnum
    simp +contextual (maxSteps := 2000000) (disch := (first | omega | (simp only [SZ]; first | done | omega) | (simp only [TS] at *; omega))) only [PZ, RZ, ovw, oneC, Nat.reduceAdd, Nat.reduceMul, Nat.reduceSub, Nat.reduceEqDiff, Nat.reduceLT, ↓reduceIte, Int.reduceToNat, Nat.reduceLeDiff,  n0]
    by_cases hm : NE.1 ≤ m
    · have hd1 : decide (m < NE.1) = false := by simpa using hm
      simp +contextual (maxSteps := 2000000) (disch := (first | omega | (simp only [SZ]; first | done | omega) | (simp only [TS] at *; omega))) only [PZ, RZ, ovw, oneC, Nat.reduceAdd, Nat.reduceMul, Nat.reduceSub, Nat.reduceEqDiff, Nat.reduceLT, ↓reduceIte, Int.reduceToNat, Nat.reduceLeDiff,  hd1]
      refine WX_if_f rfl ?_
      simp +contextual (maxSteps := 2000000) (disch := (first | omega | (simp only [SZ]; first | done | omega) | (simp only [TS] at *; omega))) only [PZ, RZ, ovw, oneC, Nat.reduceAdd, Nat.reduceMul, Nat.reduceSub, Nat.reduceEqDiff, Nat.reduceLT, ↓reduceIte, Int.reduceToNat, Nat.reduceLeDiff]
      subst hRes
      rw [numberT, lessT, hnT]
      dsimp only
      rw [if_pos hm]
      exact ⟨k3, rfl, a1, ha1, h3⟩
    · have hd1 : decide (m < NE.1) = true := by simpa using hm
      simp +contextual (maxSteps := 2000000) (disch := (first | omega | (simp only [SZ]; first | done | omega) | (simp only [TS] at *; omega))) only [PZ, RZ, ovw, oneC, Nat.reduceAdd, Nat.reduceMul, Nat.reduceSub, Nat.reduceEqDiff, Nat.reduceLT, ↓reduceIte, Int.reduceToNat, Nat.reduceLeDiff,  hd1]
      refine WX_if_t rfl ?_
      simp +contextual (maxSteps := 2000000) (disch := (first | omega | (simp only [SZ]; first | done | omega) | (simp only [TS] at *; omega))) only [PZ, RZ, ovw, oneC, Nat.reduceAdd, Nat.reduceMul, Nat.reduceSub, Nat.reduceEqDiff, Nat.reduceLT, ↓reduceIte, Int.reduceToNat, Nat.reduceLeDiff,  c0, c1, c2, c3]
      refine (paFail_any g 1 t w3).mono ?_
      rintro e w4 ⟨rfl, hB4⟩
      subst hRes
      rw [Ends_pan, numberT, lessT, hnT]
      dsimp only
      rw [if_neg hm]
      refine ⟨k3.trans (Kept.of_below hB4), ?_⟩
      dsimp only [thenT]
      rw [htd]
  · rw [takeT, if_neg hk] at h1
    obtain ⟨k1, rfl⟩ := h1
    simp +contextual (maxSteps := 2000000) (disch := (first | omega | (simp only [SZ]; first | done | omega) | (simp only [TS] at *; omega))) only [PZ, RZ, ovw, oneC, Nat.reduceAdd, Nat.reduceMul, Nat.reduceSub, Nat.reduceEqDiff, Nat.reduceLT, ↓reduceIte, Int.reduceToNat, Nat.reduceLeDiff]
    subst hRes
    have hnT : numT (T.drop a) = none := by unfold numT; rw [if_neg (fun h => hk h.1)]
    rw [numberT, lessT, hnT]
    exact ⟨k1, rfl⟩
theorem num_small (h : PkIn w g A c T a rest) (hT : TokOk T) {x : Int × List Tk} (hx : numT (T.drop a) = some x) : 0 ≤ x.1 ∧ x.1 ≤ 999999999999999999 := by
  obtain ⟨h1, _, h3, _⟩ := num_some (x := x.1) (L' := x.2) hx
  rw [h3]
  exact (hT.num _ (tok_mem h.lt) h1).2
theorem anyT_is (h : PkIn w g A c T a rest) (hT : TokOk T) : numberT 999999999999999999 (T.drop a) = anyT (T.drop a) := by
  unfold numberT anyT lessT
  cases hx : numT (T.drop a) with
  | none => rfl
  | some x => simp only [if_pos (num_small h hT hx).2]
theorem paAny_any (h : PkIn w g A c T a rest) (hT : TokOk T) : Calls Tryz.prog 108 #[.pointer (some ⟨g, 0, none⟩)] w (Res g A c T rest w (anyT (T.drop a)) fun n => .int .i64 n) := by
  refine calls_WX (l := [_]) Tryz.func108 rfl _ Tryz.ntmps108 (by simp) ?_
  generalize hRes : (Res g A c T rest w (anyT (T.drop a)) fun n => .int .i64 n) = R
  simp +contextual (maxSteps := 2000000) (disch := (first | omega | (simp only [SZ]; first | done | omega) | (simp only [TS] at *; omega))) only [PZ, RZ, ovw, oneC, Nat.reduceAdd, Nat.reduceMul, Nat.reduceSub, Nat.reduceEqDiff, Nat.reduceLT, ↓reduceIte, Int.reduceToNat, Nat.reduceLeDiff]
  refine (paNumber_any 999999999999999999 h hT).mono ?_
  rintro e w1 h1
  rw [anyT_is h hT] at h1
  subst hRes
  cases hr : anyT (T.drop a) with
  | ok x =>
    rw [hr] at h1
    obtain ⟨k1, rfl, h2⟩ := h1
    simp +contextual (maxSteps := 2000000) (disch := (first | omega | (simp only [SZ]; first | done | omega) | (simp only [TS] at *; omega))) only [PZ, RZ, ovw, oneC, Nat.reduceAdd, Nat.reduceMul, Nat.reduceSub, Nat.reduceEqDiff, Nat.reduceLT, ↓reduceIte, Int.reduceToNat, Nat.reduceLeDiff]
    exact ⟨k1, rfl, h2⟩
  | error x =>
    rw [hr] at h1
    obtain ⟨k1, rfl⟩ := h1
    simp +contextual (maxSteps := 2000000) (disch := (first | omega | (simp only [SZ]; first | done | omega) | (simp only [TS] at *; omega))) only [PZ, RZ, ovw, oneC, Nat.reduceAdd, Nat.reduceMul, Nat.reduceSub, Nat.reduceEqDiff, Nat.reduceLT, ↓reduceIte, Int.reduceToNat, Nat.reduceLeDiff]
    exact ⟨k1, rfl⟩
theorem paFollows_any (s : ByteArray) (h : PkIn w g A c T a rest) (hT : TokOk T) : Calls Tryz.prog 131 #[.pointer (some ⟨g, 0, none⟩), .string s] w fun e w' =>
    e = .returned (.bool (isT 1 (bs s) (T.drop a)).isSome) ∧ PkIn w' g A c T (if (isT 1 (bs s) (T.drop a)).isSome then a + 1 else a) rest ∧ Kept [g] w w' ∧ ((isT 1 (bs s) (T.drop a)).isSome = true → isT 1 (bs s) (T.drop a) = some (T.drop (a + 1))) := by
  refine calls_W (l := [_, _]) Tryz.func131 rfl _ Tryz.ntmps131 (by simp) ?_
  have hlt := h.lt
  have hbig := hT.big
  simp +contextual (maxSteps := 2000000) (disch := (first | omega | (simp only [SZ]; first | done | omega) | (simp only [TS] at *; omega))) only [RZ, ovw, oneC, Nat.reduceAdd, Nat.reduceMul, Nat.reduceSub, Nat.reduceEqDiff, Nat.reduceLT, ↓reduceIte, Int.reduceToNat, Nat.reduceLeDiff]
  refine (paPeek_any h hT).mono ?_
  rintro e w1 ⟨rfl, hB1⟩
  refine ⟨_, rfl, ?_⟩
  generalize htd : hdT (T.drop a) = t
  rw [show (encTk t).toArray = #[.int .i64 t.kind, .int .i64 t.line, .int .i64 t.col, .string t.text] from rfl]
  have h1 := h.below hB1
  have k1 : Kept [g] w w1 := Kept.of_below hB1
  simp +contextual (maxSteps := 2000000) (disch := (first | omega | (simp only [SZ]; first | done | omega) | (simp only [TS] at *; omega))) only [RZ, ovw, oneC, Nat.reduceAdd, Nat.reduceMul, Nat.reduceSub, Nat.reduceEqDiff, Nat.reduceLT, ↓reduceIte, Int.reduceToNat, Nat.reduceLeDiff]
  have h2 := h1.below (below_alloc w1 (.cells #[Value.int .i64 t.kind, .int .i64 t.line, .int .i64 t.col, .string t.text] 62))
  have k2 := k1.alloc (.cells #[Value.int .i64 t.kind, .int .i64 t.line, .int .i64 t.col, .string t.text] 62)
  have q2 := Row.new w1 62 [Value.int .i64 t.kind, .int .i64 t.line, .int .i64 t.col, .string t.text]
  replace q2 : Row (w1.alloc (.cells #[Value.int .i64 t.kind, .int .i64 t.line, .int .i64 t.col, .string t.text] 62)) _ _ _ := q2
  generalize w1.alloc (.cells #[Value.int .i64 t.kind, .int .i64 t.line, .int .i64 t.col, .string t.text] 62) = w2 at *
  have c0 := q2.cell (i := 0) rfl
  have c3 := q2.cell (i := 3) rfl
  have p1 := h2.row.cell (i := 1) rfl
  have p1z := h2.row.frozen 1
  have htm := hdT_drop (List.getElem?_eq_getElem hlt)
  (refine W_if rfl (fun hc => ?_) (fun hc => ?_) <;> (try simp only [TS] at hc))
  · have hI : isT 1 (bs s) (T.drop a) = none := isT_no (by
      rw [htd]
      rintro ⟨h1, h2⟩
      rw [h1, bs_inj h2] at hc
      simp at hc)
    rw [hI]
    simp +contextual (maxSteps := 2000000) (disch := (first | omega | (simp only [SZ]; first | done | omega) | (simp only [TS] at *; omega))) only [RZ, ovw, oneC, Nat.reduceAdd, Nat.reduceMul, Nat.reduceSub, Nat.reduceEqDiff, Nat.reduceLT, ↓reduceIte, Int.reduceToNat, Nat.reduceLeDiff]
    exact ⟨h2, k2, fun h => (by cases h)⟩
  · have hkt : t.kind = 1 ∧ t.text = s := by simpa using hc
    have hI : isT 1 (bs s) (T.drop a) = some (nxT (T.drop a)) := isT_yes (by rw [htd]; exact hkt.1) (by rw [htd, hkt.2])
    have hat : T[a]? = some t := by rw [List.getElem?_eq_getElem hlt, ← htm, htd]
    have hlast := hT.last a t hat (by omega)
    rw [hI]
    simp +contextual (maxSteps := 2000000) (disch := (first | omega | (simp only [SZ]; first | done | omega) | (simp only [TS] at *; omega))) only [RZ, ovw, oneC, Nat.reduceAdd, Nat.reduceMul, Nat.reduceSub, Nat.reduceEqDiff, Nat.reduceLT, ↓reduceIte, Int.reduceToNat, Nat.reduceLeDiff,  p1, p1z]
    have k3 := k2.setCell (p := ⟨g, 1, none⟩) (by simp) (.int .i64 ((a : Int) + 1))
    have h3 := h2.kept1 ((Kept.refl [g] w2).setCell (p := ⟨g, 1, none⟩) (by simp) (.int .i64 ((a : Int) + 1))) hlast (h2.row.set_ (i := 1) (by simp) _)
    exact ⟨h3, k3, by rw [nxT_drop hlast]; exact fun _ => rfl⟩
/-- A reader's call, and what stands behind it. -/
theorem Res.use {α : Type} {P : Program} {f : FuncId} {args : Array Value} {r : Except (Int × List Tk) (α × List Tk)} {val : α → Value} {R : Value → World → Prop} {X : List PanicEntry → World → Prop} (hc : Calls P f args w (Res g A c T rest w r val))
    (h1 : ∀ x a' w', r = .ok (x, T.drop a') → Kept [g] w w' → PkIn w' g A c T a' rest → R (val x) w')
    (h2 : ∀ e L w', r = .error (e, L) → Kept [g] w w' → X [{ v := failV e (hdT L).line, recovered := false }] w') : Calls P f args w (Ends R X) := by
  refine hc.mono fun e w' h => ?_
  obtain ⟨k, h⟩ := h
  cases hr : r with
  | ok x =>
    rw [hr] at h
    obtain ⟨x, L⟩ := x
    obtain ⟨rfl, a', ha, hp⟩ := h
    dsimp only at ha
    subst ha
    exact h1 x a' w' hr k hp
  | error x =>
    rw [hr] at h
    obtain ⟨e', L⟩ := x
    have h : e = _ := h
    subst h
    exact h2 e' L w' hr k
theorem anyT_ok {L L' : List Tk} {n : Int} (h : anyT L = .ok (n, L')) : numT L = some (n, L') := by
  unfold anyT at h
  cases hn : numT L with
  | none => rw [hn] at h; cases h
  | some x => rw [hn] at h; dsimp only [thenT] at h; rw [Except.ok.inj h]
theorem anyT_err {L L' : List Tk} {e : Int} (h : anyT L = .error (e, L')) : numT L = none ∧ e = 1 ∧ L' = L := by
  unfold anyT at h
  cases hn : numT L with
  | none => rw [hn] at h; dsimp only [thenT] at h; have := Except.error.inj h; injection this with h1 h2; exact ⟨rfl, h1.symm, h2.symm⟩
  | some x => rw [hn] at h; cases h
theorem expT_ok {k : Int} {s : ByteArray} {L L' : List Tk} {u : Unit} (h : expectT k s L = .ok (u, L')) : isT k (bs s) L = some L' := by
  unfold expectT at h
  cases hn : isT k (bs s) L with
  | none => rw [hn] at h; cases h
  | some x => rw [hn] at h; dsimp only [thenT] at h; have := Except.ok.inj h; injection this with h1 h2; rw [h2]
theorem expT_err {k : Int} {s : ByteArray} {L L' : List Tk} {e : Int} (h : expectT k s L = .error (e, L')) : isT k (bs s) L = none ∧ e = 1 ∧ L' = L := by
  unfold expectT at h
  cases hn : isT k (bs s) L with
  | none => rw [hn] at h; dsimp only [thenT] at h; have := Except.error.inj h; injection this with h1 h2; exact ⟨rfl, h1.symm, h2.symm⟩
  | some x => rw [hn] at h; cases h
theorem numbT_ok {m : Int} {L L' : List Tk} {n : Int} (h : numberT m L = .ok (n, L')) : lessT m L = some (n, L') := by
  unfold numberT at h
  cases hn : lessT m L with
  | none => rw [hn] at h; cases h
  | some x => rw [hn] at h; dsimp only [thenT] at h; rw [Except.ok.inj h]
theorem numbT_err {m : Int} {L L' : List Tk} {e : Int} (h : numberT m L = .error (e, L')) : lessT m L = none ∧ e = 1 ∧ L' = L := by
  unfold numberT at h
  cases hn : lessT m L with
  | none => rw [hn] at h; dsimp only [thenT] at h; have := Except.error.inj h; injection this with h1 h2; exact ⟨rfl, h1.symm, h2.symm⟩
  | some x => rw [hn] at h; cases h
theorem Res.ok {α : Type} {r : Except (Int × List Tk) (α × List Tk)} {val : α → Value} {w' : World} {x : α} {a' : Nat} (hr : r = .ok (x, T.drop a')) (k : Kept [g] w w') (h : PkIn w' g A c T a' rest) : Res g A c T rest w r val (.returned (val x)) w' := by
  subst hr; exact ⟨k, rfl, a', rfl, h⟩
theorem Res.err {α : Type} {r : Except (Int × List Tk) (α × List Tk)} {val : α → Value} {w' : World} {e : Int} {L : List Tk} (hr : r = .error (e, L)) (k : Kept [g] w w') : Res g A c T rest w r val (.panicked [{ v := failV e (hdT L).line, recovered := false }]) w' := by
  subst hr; exact ⟨k, rfl⟩
theorem paPair_any (h : PkIn w g A c T a rest) (hT : TokOk T) : Calls Tryz.prog 103 #[.pointer (some ⟨g, 0, none⟩)] w (Res g A c T rest w (pairT (T.drop a)) fun x => .tuple #[.int .i64 x.1, .int .i64 x.2]) := by
  refine calls_WX (l := [_]) Tryz.func103 rfl _ Tryz.ntmps103 (by simp) ?_
  generalize hr : pairT (T.drop a) = r
  unfold pairT at hr
  simp +contextual (maxSteps := 2000000) (disch := (first | omega | (simp only [SZ]; first | done | omega) | (simp only [TS] at *; omega))) only [PZ, RZ, ovw, oneC, Nat.reduceAdd, Nat.reduceMul, Nat.reduceSub, Nat.reduceEqDiff, Nat.reduceLT, ↓reduceIte, Int.reduceToNat, Nat.reduceLeDiff]
  refine Res.use (paAny_any h hT) (fun x a1 w1 e1 k1 h1 => ?_) (fun e L w1 e1 k1 => ?_); rotate_left
  · obtain ⟨q1, rfl, rfl⟩ := anyT_err e1
    rw [q1] at hr
    exact Res.err hr.symm k1
  have q1 := anyT_ok e1
  rw [q1] at hr
  dsimp only [thenT] at hr
  try simp +contextual (maxSteps := 2000000) (disch := (first | omega | (simp only [SZ]; first | done | omega) | (simp only [TS] at *; omega))) only [PZ, RZ, ovw, oneC, Nat.reduceAdd, Nat.reduceMul, Nat.reduceSub, Nat.reduceEqDiff, Nat.reduceLT, ↓reduceIte, Int.reduceToNat, Nat.reduceLeDiff]
  have ho : bs ⟨#[111, 102]⟩ = asc "of" := by decide +kernel
  refine Res.use (paExpect_any 1 _ h1 hT) (fun u a2 w2 e2 k2 h2 => ?_) (fun e L w2 e2 k2 => ?_); rotate_left
  · obtain ⟨q2, rfl, rfl⟩ := expT_err e2
    rw [ho] at q2
    rw [q2] at hr
    exact Res.err hr.symm (k1.trans k2)
  have q2 := expT_ok e2
  rw [ho] at q2
  rw [q2] at hr
  dsimp only [thenT] at hr
  try simp +contextual (maxSteps := 2000000) (disch := (first | omega | (simp only [SZ]; first | done | omega) | (simp only [TS] at *; omega))) only [PZ, RZ, ovw, oneC, Nat.reduceAdd, Nat.reduceMul, Nat.reduceSub, Nat.reduceEqDiff, Nat.reduceLT, ↓reduceIte, Int.reduceToNat, Nat.reduceLeDiff]
  refine Res.use (paAny_any h2 hT) (fun y a3 w3 e3 k3 h3 => ?_) (fun e L w3 e3 k3 => ?_); rotate_left
  · obtain ⟨q3, rfl, rfl⟩ := anyT_err e3
    rw [q3] at hr
    exact Res.err hr.symm ((k1.trans k2).trans k3)
  have q3 := anyT_ok e3
  rw [q3] at hr
  dsimp only [thenT] at hr
  try simp +contextual (maxSteps := 2000000) (disch := (first | omega | (simp only [SZ]; first | done | omega) | (simp only [TS] at *; omega))) only [PZ, RZ, ovw, oneC, Nat.reduceAdd, Nat.reduceMul, Nat.reduceSub, Nat.reduceEqDiff, Nat.reduceLT, ↓reduceIte, Int.reduceToNat, Nat.reduceLeDiff]
  exact Res.ok hr.symm ((k1.trans k2).trans k3) h3
end
end Go.Proofs.YtbdkggnajipdhaaGreatDoor
/- The engine's rules for this chapter: bits of ints, lookups, a set of strings. No function of the program in sight. -/
namespace Go.Proofs.YtbdkggnajipdhaaGreatDoor
open Go.RowKit
set_option maxRecDepth 100000
section
variable {P : Program} {T : TypeId} {x y : Operand} {w : World}
theorem bits_nat {n a : Nat} (h : a < 2 ^ n) : (BitVec.ofInt n (a : Int)).toNat = a := by
  rw [BitVec.toNat_ofInt, Int.emod_eq_of_lt (Int.natCast_nonneg a) (by exact_mod_cast h), Int.toNat_natCast]
theorem vBin_andN {a b : Nat} (ha : a < 4611686018427387904) (hb : b < 4611686018427387904) : vBin P .and T x y (.int .i64 a) (.int .i64 b) w = .ok (.value (.int .i64 ((a &&& b : Nat) : Int))) w := by
  have hbits : (2 : Nat) ^ IntKind.i64.bits = 18446744073709551616 := by decide
  have e : ((BitVec.ofInt IntKind.i64.bits (a : Int) &&& BitVec.ofInt IntKind.i64.bits (b : Int)).toNat : Int) = ((a &&& b : Nat) : Int) := by
    rw [BitVec.toNat_and, bits_nat (by omega), bits_nat (by omega)]
  have hle : a &&& b ≤ a := Nat.and_le_left
  have e2 : IntKind.i64.wrap ((a &&& b : Nat) : Int) = ((a &&& b : Nat) : Int) := IntWalk.i64_in _ (by omega)
  simp [vBin, eqGuard, binOp, Op.intBits, -BitVec.toNat_and, -BitVec.toNat_or, -BitVec.toNat_ofInt, -BitVec.ofInt_ofNat, -BitVec.ofInt_natCast, e, e2]
theorem vBin_orN {a b : Nat} (ha : a < 4611686018427387904) (hb : b < 4611686018427387904) : vBin P .or T x y (.int .i64 a) (.int .i64 b) w = .ok (.value (.int .i64 ((a ||| b : Nat) : Int))) w := by
  have hbits : (2 : Nat) ^ IntKind.i64.bits = 18446744073709551616 := by decide
  have e : ((BitVec.ofInt IntKind.i64.bits (a : Int) ||| BitVec.ofInt IntKind.i64.bits (b : Int)).toNat : Int) = ((a ||| b : Nat) : Int) := by
    rw [BitVec.toNat_or, bits_nat (by omega), bits_nat (by omega)]
  have hle : a ||| b < 2 ^ 62 := Nat.or_lt_two_pow (by omega) (by omega)
  have e2 : IntKind.i64.wrap ((a ||| b : Nat) : Int) = ((a ||| b : Nat) : Int) := IntWalk.i64_in _ (by omega)
  simp [vBin, eqGuard, binOp, Op.intBits, -BitVec.toNat_and, -BitVec.toNat_or, -BitVec.toNat_ofInt, -BitVec.ofInt_ofNat, -BitVec.ofInt_natCast, e, e2]
theorem vBin_shlN {k : IntKind} {i : Nat} (hi : i < 7) : vBin P .shl T x y (.int .i64 1) (.int k i) w = .ok (.value (.int .i64 ((2 ^ i : Nat) : Int))) w := by
  have e : IntKind.i64.wrap (1 * 2 ^ (min (i : Int).toNat IntKind.i64.bits)) = ((2 ^ i : Nat) : Int) := by
    have : ∀ i : Fin 7, IntKind.i64.wrap (1 * 2 ^ (min (i.1 : Int).toNat IntKind.i64.bits)) = ((2 ^ i.1 : Nat) : Int) := by decide +kernel
    exact this ⟨i, hi⟩
  simp only [vBin, eqGuard, binOp, Op.shift]
  simp [show ¬ ((i : Int) < 0) by omega]
  first | done | (simpa using e)
theorem vLookup_str0 {l : List (ByteArray × Value × Nat)} {clk g : Nat} {k : ByteArray} {z : Value} (hz : mapZ P T = some z) (hg : w.heap[g]? = some (.map (mkS l) clk)) :
    vLookup P T (.map (some g)) (.string k) false w = .ok (.value ((sget k l).getD z)) w := by
  obtain ⟨K, E, inf, hT, hK, hE, hzz⟩ := mapZ_is hz
  have hf := findNow_str (k := k) l 0
  cases hs : sfind k 0 l with
  | none =>
    rw [hs] at hf
    simp [vLookup, Instr.lookup, Sem.run_bind, run_underlying hT w, getObj, Sem.run, hg, run_checkKey_str hK, run_underlying hK w, Instr.findKey, mkS, hf, zeroValue, typeInfo, hE, hzz, sget, hs]
  | some p =>
    rw [hs] at hf
    simp [vLookup, Instr.lookup, Sem.run_bind, run_underlying hT w, getObj, Sem.run, hg, run_checkKey_str hK, run_underlying hK w, Instr.findKey, mkS, hf, sget, hs]
end
/-- The map at g holds the words seen. -/
def SeenIn (w : World) (g : Nat) (seen : List (List Nat)) : Prop := ∃ (l : List (ByteArray × Value × Nat)) (clk : Nat), w.heap[g]? = some (.map (mkS l) clk) ∧ ∀ k, (bs k ∈ seen → sget k l = some (.bool true)) ∧ (bs k ∉ seen → sget k l = none)
theorem SeenIn.kept {X : List Nat} {w w' : World} {g : Nat} {seen : List (List Nat)} (h : SeenIn w g seen) (k : Kept X w w') (hg : g ∉ X) : SeenIn w' g seen := by
  obtain ⟨l, clk, h1, h2⟩ := h
  exact ⟨l, clk, (k.block g (Array.getElem?_eq_some_iff.1 h1).1 hg).trans h1, h2⟩
theorem SeenIn.lt {w : World} {g : Nat} {seen : List (List Nat)} (h : SeenIn w g seen) : g < w.heap.size := by
  obtain ⟨l, clk, h1, h2⟩ := h
  exact (Array.getElem?_eq_some_iff.1 h1).1
theorem SeenIn.new (w : World) : SeenIn (w.alloc (.map #[] 0)) w.heap.size [] := ⟨[], 0, heap_alloc_new w _, fun k => ⟨fun h => (by cases h), fun _ => rfl⟩⟩
theorem sfind_app (k : ByteArray) (x : ByteArray × Value × Nat) : ∀ (l : List (ByteArray × Value × Nat)) (i : Nat), sfind k i (l ++ [x]) = match sfind k i l with
    | some p => some p
    | none => if k = x.1 then some (i + l.length, x.2.1) else none
  | [], i => by
    obtain ⟨k', v, b⟩ := x
    rw [List.nil_append, sfind, sfind, sfind]; rfl
  | (k', v, b) :: r, i => by
    rw [List.cons_append, sfind, sfind]
    by_cases h : k = k'
    · rw [if_pos h, if_pos h]
    · rw [if_neg h, if_neg h, sfind_app k x r (i + 1)]
      cases sfind k (i + 1) r with
      | some p => rfl
      | none => simp only [List.length_cons]; split <;> simp <;> omega
theorem SeenIn.add {w : World} {g : Nat} {seen : List (List Nat)} {s : ByteArray} {l : List (ByteArray × Value × Nat)} {clk : Nat} (h1 : w.heap[g]? = some (.map (mkS l) clk)) (h2 : ∀ k, (bs k ∈ seen → sget k l = some (.bool true)) ∧ (bs k ∉ seen → sget k l = none)) (hs : bs s ∉ seen) :
    SeenIn (setO w g (.map (mkS (l ++ [(s, .bool true, clk)])) (clk + 1))) g (bs s :: seen) := by
  refine ⟨_, _, setO_at _ (Array.getElem?_eq_some_iff.1 h1).1, fun k => ?_⟩
  unfold sget
  rw [sfind_app]
  by_cases hk : k = s
  · subst hk
    refine ⟨fun _ => ?_, fun h => absurd List.mem_cons_self h⟩
    have := (h2 k).2 hs
    unfold sget at this
    cases hf : sfind k 0 l with
    | some p => rw [hf] at this; cases this
    | none => simp
  · constructor
    · intro h
      rcases List.mem_cons.1 h with h | h
      · exact absurd (bs_inj h) hk
      · have := (h2 k).1 h
        unfold sget at this
        cases hf : sfind k 0 l with
        | some p => rw [hf] at this; exact this
        | none => rw [hf] at this; cases this
    · intro h
      have := (h2 k).2 (fun e => h (List.mem_cons_of_mem _ e))
      unfold sget at this
      cases hf : sfind k 0 l with
      | some p => rw [hf] at this; cases this
      | none => simp [hk]
theorem setO_kept {X : List Nat} {a w : World} {g : Nat} (h : Kept X a w) (hg : g ∈ X) (o : Obj) : Kept X a (setO w g o) :=
  h.trans ⟨rfl, rfl, rfl, by rw [setO_size]; exact Nat.le_refl _, fun k hk hx => setO_block o (fun e => hx (e ▸ hg))⟩
/-- Numbers as values. -/
def iW (l : List Int) : List Value := l.map fun n => Value.int .i64 n
/-! Days. -/
theorem day_bits (d i : Nat) (hd : d < 128) (hi : i < 7) : (d &&& 2 ^ i = 0 ↔ ¬ d / 2 ^ i % 2 = 1) ∧ (¬ d / 2 ^ i % 2 = 1 → d ||| 2 ^ i = d + 2 ^ i ∧ d + 2 ^ i < 128) := by
  have : ∀ (d : Fin 128) (i : Fin 7), (d.1 &&& 2 ^ i.1 = 0 ↔ ¬ d.1 / 2 ^ i.1 % 2 = 1) ∧ (¬ d.1 / 2 ^ i.1 % 2 = 1 → d.1 ||| 2 ^ i.1 = d.1 + 2 ^ i.1 ∧ d.1 + 2 ^ i.1 < 128) := by decide +kernel
  exact this ⟨d, hd⟩ ⟨i, hi⟩
theorem dayI_lt {w : List Nat} {i : Nat} (h : dayI w = some i) : i < 7 ∧ dayW[i]? = some w ∧ ∀ j, j < i → dayW[j]? ≠ some w := by
  unfold dayI at h
  rw [List.findIdx?_eq_some_iff_getElem] at h
  obtain ⟨h1, h2, h3⟩ := h
  refine ⟨h1, ?_, fun j hj e => ?_⟩
  · rw [List.getElem?_eq_getElem h1]; simpa using h2
  · have := h3 j hj
    rw [List.getElem?_eq_getElem (by omega)] at e
    simp only [Option.some.injEq] at e
    simp [e] at this
theorem dayI_at {w : List Nat} {i : Nat} (h1 : dayW[i]? = some w) (h2 : ∀ j d, j < i → dayW[j]? = some d → d ≠ w) : dayI w = some i := by
  unfold dayI
  rw [List.findIdx?_eq_some_iff_getElem]
  obtain ⟨hi, he⟩ := List.getElem?_eq_some_iff.1 h1
  refine ⟨hi, by simpa using he, fun j hj => ?_⟩
  have := h2 j _ hj (List.getElem?_eq_getElem (by omega))
  simpa using this
theorem dayI_none {w : List Nat} (h2 : ∀ j d, j < 7 → dayW[j]? = some d → d ≠ w) : dayI w = none := by
  unfold dayI
  rw [List.findIdx?_eq_none_iff]
  intro d hd
  obtain ⟨j, hj⟩ := List.mem_iff_getElem?.1 hd
  have hl := (List.getElem?_eq_some_iff.1 hj).1
  have := h2 j d hl hj
  simpa using this
end Go.Proofs.YtbdkggnajipdhaaGreatDoor
/- Plain: numbers, digits of sixteen and quoted texts are read as they were written. No program in sight. -/
namespace Go.Proofs.YtbdkggnajipdhaaGreatDoor
theorem bs_toBA {l : List Nat} (h : ∀ c ∈ l, c < 256) : bs (toBA l) = l := by
  unfold bs toBA
  simp only [List.map_map]
  conv => rhs; rw [← List.map_id l]
  refine List.map_congr_left fun c hc => ?_
  have := h c hc
  simp only [Function.comp, id]
  simp only [UInt8.toNat_ofNat']
  omega
theorem toBA_bs (s : ByteArray) : toBA (bs s) = s := bs_inj (bs_toBA (bs_lt s))
/-! Digits of sixteen. -/
theorem hexv_d {d : Nat} (h : d < 16) : hexv (hexd d) = some d := by
  unfold hexv hexd
  by_cases h1 : d < 10
  · rw [if_pos h1, if_pos (by omega)]
    congr 1
    omega
  · rw [if_neg h1, if_neg (by omega), if_pos (by omega)]
    congr 1
    omega
theorem hexd_bd {d : Nat} (h : d < 16) : (48 ≤ hexd d ∧ hexd d ≤ 57) ∨ (97 ≤ hexd d ∧ hexd d ≤ 102) := by unfold hexd; split <;> omega
theorem hexT_len : ∀ (k x : Nat), (hexT k x).length = k
  | 0, _ => rfl
  | k + 1, x => by rw [hexT, List.length_cons, hexT_len k x]
theorem hexT_all : ∀ (k x : Nat), ∀ c ∈ hexT k x, (48 ≤ c ∧ c ≤ 57) ∨ (97 ≤ c ∧ c ≤ 102)
  | 0, _, c, h => by simp [hexT] at h
  | k + 1, x, c, h => by
    rw [hexT, List.mem_cons] at h
    rcases h with rfl | h
    · exact hexd_bd (Nat.mod_lt _ (by decide))
    · exact hexT_all k x c h
theorem hexV_T : ∀ (k acc x : Nat), hexV acc (hexT k x) = some (acc * 16 ^ k + x % 16 ^ k)
  | 0, acc, x => by simp [hexT, hexV, Nat.mod_one]
  | k + 1, acc, x => by
    rw [hexT, hexV, hexv_d (Nat.mod_lt _ (by decide))]
    simp only
    rw [hexV_T k]
    congr 1
    have e : x % 16 ^ (k + 1) = 16 ^ k * (x / 16 ^ k % 16) + x % 16 ^ k := by
      rw [Nat.pow_succ, Nat.mod_mul]; omega
    rw [e, Nat.pow_succ, Nat.add_mul, ← Nat.mul_assoc]
    have : acc * 16 * 16 ^ k = acc * 16 ^ k * 16 := by rw [Nat.mul_assoc, Nat.mul_comm 16, Nat.mul_assoc]
    rw [this]
    have h2 : x / 16 ^ k % 16 * 16 ^ k = 16 ^ k * (x / 16 ^ k % 16) := Nat.mul_comm ..
    omega
theorem hexE_T {x : Nat} (h : x < 18446744073709551616) : hexE (hexT 16 x) = some x := by
  unfold hexE
  rw [if_pos (hexT_len _ _), hexV_T]
  congr 1
  rw [Nat.mod_eq_of_lt (by simpa using h)]
  omega
/-! Texts in quotes. -/
theorem plain_bd {c : Nat} (h : plainB c = true) : 32 ≤ c ∧ c ≤ 126 ∧ c ≠ 34 ∧ c ≠ 92 := by
  unfold plainB at h
  simp at h
  omega
theorem escS_self {c : Nat} (r : List Nat) (h : c = 34 ∨ c = 92) : escS (c :: r) = some (c, 1) := by unfold escS; exact if_pos h
theorem escS_n (r : List Nat) : escS (110 :: r) = some (10, 1) := rfl
theorem escS_x {x y : Nat} (h l : Nat) (r : List Nat) (hx : hexv h = some x) (hy : hexv l = some y) : escS (120 :: h :: l :: r) = if (32 ≤ x * 16 + y ∧ x * 16 + y ≤ 126) ∨ x * 16 + y = 10 then none else some (x * 16 + y, 3) := by
  have e : escS (120 :: h :: l :: r) = (match hexv h, hexv l with
        | some x, some y => if (32 ≤ x * 16 + y ∧ x * 16 + y ≤ 126) ∨ x * 16 + y = 10 then none else some (x * 16 + y, 3)
        | _, _ => none) := rfl
  rw [e, hx, hy]
theorem unq_q (c : Nat) (r : List Nat) (h : c < 256) : unq (qB c ++ r) = (unq r).map (c :: ·) := by
  unfold qB
  by_cases hp : plainB c = true
  · rw [if_pos hp]
    obtain ⟨h1, h2, h3, h4⟩ := plain_bd hp
    rw [List.cons_append, unq, if_neg h3, if_neg h4, if_pos hp]
    rfl
  · rw [if_neg hp]
    by_cases h1 : c = 34 ∨ c = 92
    · rw [if_pos h1, List.cons_append, List.cons_append, unq, if_neg (by decide), if_pos rfl, escS_self _ h1]
      rfl
    · rw [if_neg h1]
      by_cases h2 : c = 10
      · subst h2
        rw [if_pos rfl, List.cons_append, List.cons_append, unq, if_neg (by decide), if_pos rfl, escS_n]
        rfl
      · rw [if_neg h2, List.cons_append, List.cons_append, List.cons_append, List.cons_append, unq, if_neg (by decide), if_pos rfl, escS_x _ _ _ (hexv_d (show c / 16 < 16 by omega)) (hexv_d (show c % 16 < 16 by omega))]
        have e : c / 16 * 16 + c % 16 = c := by omega
        rw [e, if_neg]
        · rfl
        · intro hh
          rcases hh with hh | hh
          · refine hp ?_
            unfold plainB
            simp
            omega
          · exact h2 hh
theorem unq_quote : ∀ (l : List Nat), (∀ c ∈ l, c < 256) → unq (l.flatMap qB ++ [34]) = some l
  | [], _ => by
    rw [List.flatMap_nil, List.nil_append, unq, if_pos rfl, if_pos rfl]
  | c :: l, h => by
    rw [List.flatMap_cons, List.append_assoc, unq_q c _ (h c (by simp)), unq_quote l fun d hd => h d (by simp [hd])]
    rfl
theorem textS_quote {l : List Nat} (h : ∀ c ∈ l, c < 256) : textS (32 :: quoteL l) = some l := by
  unfold textS quoteL
  simp only [and_self, if_true]
  exact unq_quote l h
theorem qB_all {c : Nat} (h : c < 256) : ∀ d ∈ qB c, 32 ≤ d ∧ d ≤ 126 := by
  intro d hd
  unfold qB at hd
  split at hd
  · rename_i hp
    have := plain_bd hp
    simp at hd
    omega
  · split at hd
    · rename_i h1
      simp at hd
      omega
    · split at hd
      · simp at hd
        omega
      · have h1 := hexd_bd (show c / 16 < 16 by omega)
        have h2 := hexd_bd (show c % 16 < 16 by omega)
        simp at hd
        omega
theorem quote_all {l : List Nat} (h : ∀ c ∈ l, c < 256) : ∀ d ∈ quoteL l, 32 ≤ d ∧ d ≤ 126 := by
  intro d hd
  unfold quoteL at hd
  rw [List.mem_cons, List.mem_append, List.mem_flatMap] at hd
  rcases hd with rfl | ⟨c, hc, hd⟩ | hd
  · decide
  · exact qB_all (h c hc) d hd
  · simp at hd; omega
end Go.Proofs.YtbdkggnajipdhaaGreatDoor
