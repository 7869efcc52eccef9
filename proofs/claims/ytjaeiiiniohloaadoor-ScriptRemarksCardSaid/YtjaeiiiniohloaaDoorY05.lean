/- Texts laid one behind the other: ScrI, ScrV, ScrJ, ScrK, ScrW, Ord2. Each says at its head what it proves. -/
import Derived.Test.YtjaeiiiniohloaaDoorY04
import Derived.Lib.AppendIntMem
set_option linter.unusedSimpArgs false
/- Walks: digest.ParseHex. -/
namespace Go.Proofs.YtjaeiiiniohloaaDoor
open Go.RowKit
set_option maxRecDepth 100000
def hexR (l : List Nat) : Value := match hexE l with
  | some v => .tuple #[.int .u64 (v : Int), .int .i64 0]
  | none => .tuple #[.int .u64 0, .int .i64 1]
theorem parseHex_any (s : ByteArray) (w : World) (_hs : s.size ≤ 1000000) : Calls Tryd.prog 68 #[.string s] w fun e w' => e = .returned (hexR (bs s)) ∧ w = w' := by
  refine calls_W (l := [_]) Tryd.func68 rfl _ Tryd.ntmps68 (by simp) ?_
  unfold hexR hexE
  simp +contextual (maxSteps := 2000000) (disch := (first | omega | (simp only [SZ]; done) | (simp only [SZ]; omega) | (simp only [TS] at *; omega))) only [RZ, gval, gslot, fillL, ovw, numb, catL, ldN, agL, okC, oneC, init, Nat.reduceAdd, Nat.reduceMul, Nat.reduceSub, Nat.reduceEqDiff, Nat.reduceLT, ↓reduceIte, Int.reduceToNat, Int.reduceAdd, Int.reduceSub, Int.reduceMul, Int.reduceLT, Int.reduceLE, Int.reduceEq, Nat.reduceLeDiff]
  (refine W_if rfl (fun hc => ?_) (fun hc => ?_) <;> (try simp only [TS] at hc))
  · rw [if_neg (by rw [bs_len]; omega)]
    simp +contextual (maxSteps := 2000000) (disch := (first | omega | (simp only [SZ]; done) | (simp only [SZ]; omega) | (simp only [TS] at *; omega))) only [RZ, gval, gslot, fillL, ovw, numb, catL, ldN, agL, okC, oneC, init, Nat.reduceAdd, Nat.reduceMul, Nat.reduceSub, Nat.reduceEqDiff, Nat.reduceLT, ↓reduceIte, Int.reduceToNat, Int.reduceAdd, Int.reduceSub, Int.reduceMul, Int.reduceLT, Int.reduceLE, Int.reduceEq, Nat.reduceLeDiff]
  rw [if_pos (by rw [bs_len]; omega)]
  simp +contextual (maxSteps := 2000000) (disch := (first | omega | (simp only [SZ]; done) | (simp only [SZ]; omega) | (simp only [TS] at *; omega))) only [RZ, gval, gslot, fillL, ovw, numb, catL, ldN, agL, okC, oneC, init, Nat.reduceAdd, Nat.reduceMul, Nat.reduceSub, Nat.reduceEqDiff, Nat.reduceLT, ↓reduceIte, Int.reduceToNat, Int.reduceAdd, Int.reduceSub, Int.reduceMul, Int.reduceLT, Int.reduceLE, Int.reduceEq, Nat.reduceLeDiff]
  generalize hR : hexV 0 (bs s) = R
  refine Raw_loop (fun σ w2 => w2 = w ∧ ∃ (k acc : Nat), k ≤ 16 ∧ acc < 16 ^ k ∧ hexV acc ((bs s).drop k) = R ∧ σ 0 = .string s ∧ σ 4 = .int .u64 acc ∧ σ 10 = .int .i64 k) (fun σ _ => 16 - (intOf (σ 10)).toNat) ?_ ?_
  · simp +contextual (maxSteps := 2000000) (disch := (first | omega | (simp only [SZ]; done) | (simp only [SZ]; omega) | (simp only [TS] at *; omega))) only [RZ, gval, gslot, fillL, ovw, numb, catL, ldN, agL, okC, oneC, init, Nat.reduceAdd, Nat.reduceMul, Nat.reduceSub, Nat.reduceEqDiff, Nat.reduceLT, ↓reduceIte, Int.reduceToNat, Int.reduceAdd, Int.reduceSub, Int.reduceMul, Int.reduceLT, Int.reduceLE, Int.reduceEq, Nat.reduceLeDiff]
    exact ⟨0, 0, by omega, by decide, hR, rfl, rfl⟩
  rintro σ w2 ⟨rfl, k, acc, hk, ha, hj, f0, f4, f10⟩ K hK
  have hltk := bt_lt s k
  simp +contextual (maxSteps := 2000000) (disch := (first | omega | (simp only [SZ]; done) | (simp only [SZ]; omega) | (simp only [TS] at *; omega))) only [RZ, gval, gslot, fillL, ovw, numb, catL, ldN, agL, okC, oneC, init, Nat.reduceAdd, Nat.reduceMul, Nat.reduceSub, Nat.reduceEqDiff, Nat.reduceLT, ↓reduceIte, Int.reduceToNat, Int.reduceAdd, Int.reduceSub, Int.reduceMul, Int.reduceLT, Int.reduceLE, Int.reduceEq, Nat.reduceLeDiff,  f0, f4, f10]
  have hpow : k < 16 → acc ≤ 1152921504606846975 := fun h => by
    have h1 : 16 ^ k ≤ 16 ^ 15 := Nat.pow_le_pow_right (by decide) (by omega)
    have h2 : 16 ^ 15 = 1152921504606846976 := by decide
    omega
  (refine W_if rfl (fun hc => ?_) (fun hc => ?_) <;> (try simp only [TS] at hc))
  · have hkl : k < 16 := by omega
    have hp := hpow hkl
    rw [bs_dropc (by omega)] at hj
    clear hc
    simp +contextual (maxSteps := 2000000) (disch := (first | omega | (simp only [SZ]; done) | (simp only [SZ]; omega) | (simp only [TS] at *; omega))) only [RZ, gval, gslot, fillL, ovw, numb, catL, ldN, agL, okC, oneC, init, Nat.reduceAdd, Nat.reduceMul, Nat.reduceSub, Nat.reduceEqDiff, Nat.reduceLT, ↓reduceIte, Int.reduceToNat, Int.reduceAdd, Int.reduceSub, Int.reduceMul, Int.reduceLT, Int.reduceLE, Int.reduceEq, Nat.reduceLeDiff,  f0, f4, f10]
    have hp1 : 16 ^ (k + 1) = 16 ^ k * 16 := Nat.pow_succ ..
    (refine W_if rfl (fun hc => ?_) (fun hc => ?_) <;> (try simp only [TS] at hc))
    · have hd : hexv (bt s k) = some (bt s k - 48) := by unfold hexv; rw [if_pos (by omega)]
      rw [hexV, hd] at hj
      simp +contextual (maxSteps := 2000000) (disch := (first | omega | (simp only [SZ]; done) | (simp only [SZ]; omega) | (simp only [TS] at *; omega))) only [RZ, gval, gslot, fillL, ovw, numb, catL, ldN, agL, okC, oneC, init, Nat.reduceAdd, Nat.reduceMul, Nat.reduceSub, Nat.reduceEqDiff, Nat.reduceLT, ↓reduceIte, Int.reduceToNat, Int.reduceAdd, Int.reduceSub, Int.reduceMul, Int.reduceLT, Int.reduceLE, Int.reduceEq, Nat.reduceLeDiff,  f0, f4, f10]
      refine hK _ _ ⟨rfl, k + 1, acc * 16 + (bt s k - 48), by omega, by omega, hj, ?_⟩ ?_
      · simp +contextual (maxSteps := 2000000) (disch := (first | omega | (simp only [SZ]; done) | (simp only [SZ]; omega) | (simp only [TS] at *; omega))) only [RZ, gval, gslot, fillL, ovw, numb, catL, ldN, agL, okC, oneC, init, Nat.reduceAdd, Nat.reduceMul, Nat.reduceSub, Nat.reduceEqDiff, Nat.reduceLT, ↓reduceIte, Int.reduceToNat, Int.reduceAdd, Int.reduceSub, Int.reduceMul, Int.reduceLT, Int.reduceLE, Int.reduceEq, Nat.reduceLeDiff,  f0, f4, f10]
        congr 1
        omega
      · simp +contextual (maxSteps := 2000000) (disch := (first | omega | (simp only [SZ]; done) | (simp only [SZ]; omega) | (simp only [TS] at *; omega))) only [RZ, gval, gslot, fillL, ovw, numb, catL, ldN, agL, okC, oneC, init, Nat.reduceAdd, Nat.reduceMul, Nat.reduceSub, Nat.reduceEqDiff, Nat.reduceLT, ↓reduceIte, Int.reduceToNat, Int.reduceAdd, Int.reduceSub, Int.reduceMul, Int.reduceLT, Int.reduceLE, Int.reduceEq, Nat.reduceLeDiff,  intOf, f10]
        omega
    have h1 := hc
    clear hc
    simp +contextual (maxSteps := 2000000) (disch := (first | omega | (simp only [SZ]; done) | (simp only [SZ]; omega) | (simp only [TS] at *; omega))) only [RZ, gval, gslot, fillL, ovw, numb, catL, ldN, agL, okC, oneC, init, Nat.reduceAdd, Nat.reduceMul, Nat.reduceSub, Nat.reduceEqDiff, Nat.reduceLT, ↓reduceIte, Int.reduceToNat, Int.reduceAdd, Int.reduceSub, Int.reduceMul, Int.reduceLT, Int.reduceLE, Int.reduceEq, Nat.reduceLeDiff,  f0, f4, f10]
    (refine W_if rfl (fun hc => ?_) (fun hc => ?_) <;> (try simp only [TS] at hc))
    · have hd : hexv (bt s k) = some (bt s k - 87) := by unfold hexv; rw [if_neg (by omega), if_pos (by omega)]
      rw [hexV, hd] at hj
      simp +contextual (maxSteps := 2000000) (disch := (first | omega | (simp only [SZ]; done) | (simp only [SZ]; omega) | (simp only [TS] at *; omega))) only [RZ, gval, gslot, fillL, ovw, numb, catL, ldN, agL, okC, oneC, init, Nat.reduceAdd, Nat.reduceMul, Nat.reduceSub, Nat.reduceEqDiff, Nat.reduceLT, ↓reduceIte, Int.reduceToNat, Int.reduceAdd, Int.reduceSub, Int.reduceMul, Int.reduceLT, Int.reduceLE, Int.reduceEq, Nat.reduceLeDiff,  f0, f4, f10]
      refine hK _ _ ⟨rfl, k + 1, acc * 16 + (bt s k - 87), by omega, by omega, hj, ?_⟩ ?_
      · simp +contextual (maxSteps := 2000000) (disch := (first | omega | (simp only [SZ]; done) | (simp only [SZ]; omega) | (simp only [TS] at *; omega))) only [RZ, gval, gslot, fillL, ovw, numb, catL, ldN, agL, okC, oneC, init, Nat.reduceAdd, Nat.reduceMul, Nat.reduceSub, Nat.reduceEqDiff, Nat.reduceLT, ↓reduceIte, Int.reduceToNat, Int.reduceAdd, Int.reduceSub, Int.reduceMul, Int.reduceLT, Int.reduceLE, Int.reduceEq, Nat.reduceLeDiff,  f0, f4, f10]
        congr 1
        omega
      · simp +contextual (maxSteps := 2000000) (disch := (first | omega | (simp only [SZ]; done) | (simp only [SZ]; omega) | (simp only [TS] at *; omega))) only [RZ, gval, gslot, fillL, ovw, numb, catL, ldN, agL, okC, oneC, init, Nat.reduceAdd, Nat.reduceMul, Nat.reduceSub, Nat.reduceEqDiff, Nat.reduceLT, ↓reduceIte, Int.reduceToNat, Int.reduceAdd, Int.reduceSub, Int.reduceMul, Int.reduceLT, Int.reduceLE, Int.reduceEq, Nat.reduceLeDiff,  intOf, f10]
        omega
    · have hd : hexv (bt s k) = none := by unfold hexv; rw [if_neg (by omega), if_neg (by omega)]
      rw [hexV, hd] at hj
      simp +contextual (maxSteps := 2000000) (disch := (first | omega | (simp only [SZ]; done) | (simp only [SZ]; omega) | (simp only [TS] at *; omega))) only [RZ, gval, gslot, fillL, ovw, numb, catL, ldN, agL, okC, oneC, init, Nat.reduceAdd, Nat.reduceMul, Nat.reduceSub, Nat.reduceEqDiff, Nat.reduceLT, ↓reduceIte, Int.reduceToNat, Int.reduceAdd, Int.reduceSub, Int.reduceMul, Int.reduceLT, Int.reduceLE, Int.reduceEq, Nat.reduceLeDiff,  f0, f4, f10]
      rw [← hj]
      try exact rfl
  · have hk16 : k = 16 := by omega
    subst hk16
    rw [List.drop_of_length_le (by rw [bs_len]; omega), hexV] at hj
    simp +contextual (maxSteps := 2000000) (disch := (first | omega | (simp only [SZ]; done) | (simp only [SZ]; omega) | (simp only [TS] at *; omega))) only [RZ, gval, gslot, fillL, ovw, numb, catL, ldN, agL, okC, oneC, init, Nat.reduceAdd, Nat.reduceMul, Nat.reduceSub, Nat.reduceEqDiff, Nat.reduceLT, ↓reduceIte, Int.reduceToNat, Int.reduceAdd, Int.reduceSub, Int.reduceMul, Int.reduceLT, Int.reduceLE, Int.reduceEq, Nat.reduceLeDiff,  f0, f4, f10]
    rw [← hj]
    try exact rfl
end Go.Proofs.YtjaeiiiniohloaaDoor
/- Plain: printed commands are parsed to the same commands. No program in sight. -/
namespace Go.Proofs.YtjaeiiiniohloaaDoor
def spB (l : List Nat) : Prop := l = [] ∨ ∃ r, l = 32 :: r
theorem tw_sp {t l : List Nat} (ht : ∀ c ∈ t, c ≠ 32) (hl : spB l) : (t ++ l).takeWhile notSp = t ∧ (t ++ l).dropWhile notSp = l := by
  have ha : ∀ c ∈ t, notSp c = true := fun c hc => by simp [notSp, ht c hc]
  rw [List.takeWhile_append_of_pos ha, List.dropWhile_append_of_pos ha]
  rcases hl with rfl | ⟨r, rfl⟩
  · simp
  · rw [List.takeWhile_cons_of_neg (by simp [notSp]), List.dropWhile_cons_of_neg (by simp [notSp])]; simp
theorem tw_nl {t l : List Nat} (ht : ∀ c ∈ t, c ≠ 10) : (t ++ 10 :: l).takeWhile notNl = t ∧ (t ++ 10 :: l).dropWhile notNl = 10 :: l := by
  have ha : ∀ c ∈ t, notNl c = true := fun c hc => by simp [notNl, ht c hc]
  rw [List.takeWhile_append_of_pos ha, List.dropWhile_append_of_pos ha, List.takeWhile_cons_of_neg (by simp [notNl]), List.dropWhile_cons_of_neg (by simp [notNl])]; simp
theorem tw_end {t : List Nat} (ht : ∀ c ∈ t, c ≠ 10) : t.takeWhile notNl = t ∧ t.dropWhile notNl = [] := by
  have ha : ∀ c ∈ t, notNl c = true := fun c hc => by simp [notNl, ht c hc]
  have h1 := List.takeWhile_append_of_pos (l₂ := []) ha
  have h2 := List.dropWhile_append_of_pos (l₂ := []) ha
  rw [List.append_nil] at h1 h2
  exact ⟨h1.trans (by simp), h2.trans (by simp)⟩
theorem cutS_tok {t l : List Nat} (ht : ∀ c ∈ t, c ≠ 32) (hl : spB l) : cutS (32 :: (t ++ l)) = some (t, l) := by
  unfold cutS
  simp only [if_true]
  rw [(tw_sp ht hl).1, (tw_sp ht hl).2]
theorem fmtI_nosp (n : Int) : ∀ c ∈ fmtI n, c ≠ 32 := fun c hc => by have := fmtI_all n c hc; omega
theorem hexT_nosp (k x : Nat) : ∀ c ∈ hexT k x, c ≠ 32 := fun c hc => by have := hexT_all k x c hc; omega
theorem word_bd {c : Nat} (h : wordB c = true) : (97 ≤ c ∧ c ≤ 122) ∨ (48 ≤ c ∧ c ≤ 57) ∨ c = 45 := by
  unfold wordB letterB digitB at h
  simp at h
  omega
theorem name_all {l : List Nat} (h : scNameB l = true) : ∀ c ∈ l, (97 ≤ c ∧ c ≤ 122) ∨ (48 ≤ c ∧ c ≤ 57) ∨ c = 45 := by
  unfold scNameB at h
  simp only [Bool.and_eq_true, List.all_eq_true] at h
  exact fun c hc => word_bd (h.2 c hc)
theorem name_nosp {l : List Nat} (h : scNameB l = true) : ∀ c ∈ l, c ≠ 32 := fun c hc => by have := name_all h c hc; omega
def numR (n : Int) : Prop := -9223372036854775808 ≤ n ∧ n ≤ 9223372036854775807
def spNums (l : List Int) : List Nat := l.flatMap fun n => 32 :: fmtI n
theorem spNums_sp : ∀ (l : List Int), spB (spNums l)
  | [] => .inl rfl
  | _ :: _ => .inr ⟨_, rfl⟩
theorem numsF_print : ∀ (l : List Int) (f : Nat) (count : Int) (done : Nat), (∀ n ∈ l, numR n) → l.length ≤ f → (count = -1 ∨ count = done + l.length) → numsF f count done (spNums l) = some (l, [])
  | [], f, count, done, _, _, hc => by
    unfold numsF
    rw [if_pos]
    · rfl
    · rcases hc with h | h
      · exact .inr ⟨h, rfl⟩
      · exact .inl (by simpa using h)
  | n :: l, 0, _, _, _, h, _ => by simp at h
  | n :: l, f + 1, count, done, hr, hf, hc => by
    unfold numsF
    have hs : spNums (n :: l) = 32 :: (fmtI n ++ spNums l) := rfl
    rw [List.length_cons] at hc hf
    rw [if_neg (by rintro (h | h); · rcases hc with hc | hc <;> omega
                   · rw [hs] at h; exact absurd h.2 (by simp))]
    simp only
    rw [hs, cutS_tok (fmtI_nosp n) (spNums_sp l)]
    have hn := hr n (by simp)
    simp only [numE_fmt hn.1 hn.2]
    rw [if_neg (by simp), numsF_print l f count (done + 1) (fun m hm => hr m (by simp [hm])) (by omega) (by omega)]
    rfl
theorem prF_sp (c : Cm) (x : Nat) : spB (prF c x) := by
  unfold prF
  repeat' split
  all_goals first | exact .inr ⟨_, rfl⟩ | exact spNums_sp _
theorem flat_sp (c : Cm) : ∀ (fl : List Nat), spB (fl.flatMap (prF c))
  | [] => .inl rfl
  | x :: fl => by
    rw [List.flatMap_cons]
    rcases prF_sp c x with h | ⟨r, h⟩
    · rw [h]; exact flat_sp c fl
    · rw [h]; exact .inr ⟨_, rfl⟩
/-- The last letter may be a text or numbers. -/
def okF : List Nat → Bool
  | [] => true
  | x :: fl => if x = 116 ∨ x = 108 then decide (fl = []) else [119, 97, 98, 110, 107, 111].contains x && okF fl
def setF (c c0 : Cm) (x : Nat) : Cm :=
  if x = 119 then { c0 with who := c.who } else if x = 97 then { c0 with a := c.a } else if x = 98 then { c0 with b := c.b }
  else if x = 110 then { c0 with name := c.name } else if x = 116 then { c0 with text := c.text } else if x = 107 then { c0 with key := c.key }
  else if x = 111 then { c0 with nonce := c.nonce } else { c0 with nums := c.nums }
theorem fieldS_print (c c0 : Cm) (hok : c.ok) (x : Nat) (hx : [119, 97, 98, 110, 107, 111].contains x = true) (hn : x = 110 → scNameB (bs c.name) = true) :
    ∃ t, prF c x = 32 :: t ∧ (∀ d ∈ t, d ≠ 32) ∧ fieldS c0 x t = some (setF c c0 x) := by
  obtain ⟨_, _, h1, h2, h3, _, h4, h5⟩ := hok
  simp only [List.contains_cons, List.contains_nil, Bool.or_false, Bool.or_eq_true, beq_iff_eq] at hx
  rcases hx with rfl | rfl | rfl | rfl | rfl | rfl
  · exact ⟨_, rfl, fmtI_nosp _, by unfold fieldS setF; simp [numE_fmt h1.1 h1.2]⟩
  · exact ⟨_, rfl, fmtI_nosp _, by unfold fieldS setF; simp [numE_fmt h2.1 h2.2]⟩
  · exact ⟨_, rfl, fmtI_nosp _, by unfold fieldS setF; simp [numE_fmt h3.1 h3.2]⟩
  · exact ⟨_, rfl, name_nosp (hn rfl), by unfold fieldS setF; simp [hn rfl, toBA_bs]⟩
  · exact ⟨_, rfl, hexT_nosp _ _, by unfold fieldS setF; simp [hexE_T (show c.key.toNat < 18446744073709551616 by omega), Int.toNat_of_nonneg h4.1]⟩
  · exact ⟨_, rfl, hexT_nosp _ _, by unfold fieldS setF; simp [hexE_T (show c.nonce.toNat < 18446744073709551616 by omega), Int.toNat_of_nonneg h5.1]⟩
theorem spNums_len (l : List Int) : l.length ≤ (spNums l).length := by
  induction l with
  | nil => simp [spNums]
  | cons n l ih =>
    unfold spNums at ih ⊢
    rw [List.flatMap_cons, List.length_append, List.length_cons, List.length_cons]
    omega
theorem fieldsS_print (c : Cm) (hok : c.ok) (nums : Int) (hn : nums = -1 ∨ nums = c.nums.length) : ∀ (fl : List Nat) (c0 : Cm), okF fl = true → (fl.contains 110 = true → scNameB (bs c.name) = true) →
    fieldsS nums c0 fl (fl.flatMap (prF c)) = some (fl.foldl (setF c) c0)
  | [], c0, _, _ => by simp [fieldsS]
  | x :: fl, c0, h, hnm => by
    unfold okF at h
    by_cases hx : x = 116 ∨ x = 108
    · rw [if_pos hx, decide_eq_true_eq] at h
      subst h
      rcases hx with rfl | rfl
      · have e : [116].flatMap (prF c) = 32 :: quoteL (bs c.text) := by simp [prF]
        rw [e]
        unfold fieldsS
        rw [if_pos rfl, textS_quote (bs_lt _)]
        simp [fieldsS, setF, toBA_bs]
      · have e : [108].flatMap (prF c) = spNums c.nums := by simp [prF, spNums]
        rw [e]
        unfold fieldsS
        have hl := spNums_len c.nums
        rw [if_neg (by decide), if_pos rfl, numsF_print c.nums _ nums 0 hok.2.2.2.2.2.1 (by omega) (by omega)]
        simp [fieldsS, setF]
    · rw [if_neg hx, Bool.and_eq_true] at h
      obtain ⟨t, h1, h2, h3⟩ := fieldS_print c c0 hok x h.1 (fun e => hnm (by simp [e]))
      rw [List.flatMap_cons, h1, List.cons_append]
      unfold fieldsS
      rw [if_neg (fun e => hx (.inl e)), if_neg (fun e => hx (.inr e)), cutS_tok h2 (flat_sp c fl)]
      simp only [h3]
      exact fieldsS_print c hok nums hn fl _ h.2 (fun e => hnm (by simp at e ⊢; exact .inr e))
theorem fm_mem {k : Int} {f : Fm} (h : fmOf k = some f) : f ∈ fmT ∧ f.kind = k := ⟨List.mem_of_find?_eq_some h, by have := List.find?_some h; simpa using this⟩
theorem fm_facts : ∀ f ∈ fmT, okF f.fields = true ∧ fmNamed f.word = some f ∧ (∀ c ∈ f.word, c ≠ 32 ∧ c ≠ 10) ∧ (f.fields.contains 108 = false → f.nums = 0) ∧ f.fields.length ≤ 5 ∧ f.word.length ≤ 8 ∧ 4 ≤ f.word.length := by decide
theorem idle_parts {fl : List Nat} {c : Cm} (h : idleB fl c = true) : (fl.contains 119 = true ∨ c.who = 0) ∧ (fl.contains 97 = true ∨ c.a = 0) ∧ (fl.contains 98 = true ∨ c.b = 0) ∧ (fl.contains 110 = true ∨ c.name = ByteArray.empty) ∧
    (fl.contains 116 = true ∨ c.text = ByteArray.empty) ∧ (fl.contains 107 = true ∨ c.key = 0) ∧ (fl.contains 111 = true ∨ c.nonce = 0) := by
  unfold idleB at h
  simp only [Bool.and_eq_true, Bool.or_eq_true, beq_iff_eq, decide_eq_true_eq] at h
  obtain ⟨⟨⟨⟨⟨⟨h1, h2⟩, h3⟩, h4⟩, h5⟩, h6⟩, h7⟩ := h
  exact ⟨h1, h2, h3, h4.imp id (fun e => bs_inj (by rw [e, bs_empty])), h5.imp id (fun e => bs_inj (by rw [e, bs_empty])), h6, h7⟩
theorem chk_parts {c : Cm} (h : chkE c = 0) : ∃ f, fmOf c.kind = some f ∧ 0 ≤ c.at_ ∧ c.at_ ≤ 1073741824 ∧ idleB f.fields c = true ∧ (f.nums = -1 ∨ f.nums = c.nums.length) ∧ (f.fields.contains 110 = true → scNameB (bs c.name) = true) ∧ c.text.size ≤ 32768 ∧ c.nums.length ≤ 256 := by
  unfold chkE at h
  cases hf : fmOf c.kind with
  | none => rw [hf] at h; simp at h
  | some f =>
    rw [hf] at h
    simp only at h
    refine ⟨f, rfl, ?_⟩
    split at h
    · exact absurd h (by decide)
    rename_i h1
    split at h
    · exact absurd h (by decide)
    rename_i h2
    split at h
    · exact absurd h (by decide)
    rename_i h3
    split at h
    · exact absurd h (by decide)
    rename_i h4
    rw [not_or] at h2
    refine ⟨by omega, by omega, by simpa using h2.1, by by_cases e : f.nums = -1 <;> omega, fun e => ?_, by omega, by omega⟩
    cases hn : scNameB (bs c.name) with
    | true => rfl
    | false => exact absurd ⟨e, hn⟩ h3
theorem fold_set {c : Cm} : ∀ f ∈ fmT, f.kind = c.kind → idleB f.fields c = true → (f.nums = -1 ∨ f.nums = c.nums.length) → f.fields.foldl (setF c) { Cm.zero with kind := f.kind, at_ := c.at_ } = c := by
  intro f hf hk hi hn
  obtain ⟨h1, h2, h3, h4, h5, h6, h7⟩ := idle_parts hi
  have h8 : f.fields.contains 108 = true ∨ c.nums = [] := by
    cases h : f.fields.contains 108 with
    | true => exact .inl rfl
    | false =>
      have := (fm_facts f hf).2.2.2.1 h
      exact .inr (List.length_eq_zero_iff.1 (by omega))
  obtain ⟨k, at_, who, a, b, name, text, nums, key, nonce⟩ := c
  simp only at *
  subst hk
  unfold fmT at hf
  simp only [List.mem_cons, List.not_mem_nil, or_false] at hf
  rcases hf with rfl | rfl | rfl | rfl | rfl | rfl | rfl | rfl | rfl | rfl | rfl | rfl | rfl | rfl | rfl | rfl | rfl | rfl | rfl | rfl
  all_goals
    simp [asc] at h1 h2 h3 h4 h5 h6 h7 h8
    simp [asc, setF, Cm.zero, *]
/-- The line of a command without its end. -/
def bodyL (c : Cm) (f : Fm) : List Nat := fmtI c.at_ ++ 32 :: (f.word ++ f.fields.flatMap (prF c))
theorem prL_body {c : Cm} {f : Fm} (h : fmOf c.kind = some f) : prL c = bodyL c f ++ [10] := by unfold prL bodyL; rw [h]; simp
theorem lineS_body {c : Cm} {f : Fm} (hok : c.ok) (hf : fmOf c.kind = some f) (h : chkE c = 0) : lineS (bodyL c f) = .ok c := by
  obtain ⟨f', hf', ha0, ha1, hi, hn, hnm, _, _⟩ := chk_parts h
  rw [hf] at hf'
  injection hf' with hf'
  subst hf'
  obtain ⟨hm, hk⟩ := fm_mem hf
  obtain ⟨g1, g2, g3, g4, _⟩ := fm_facts f hm
  have e1 := tw_sp (fmtI_nosp c.at_) (l := 32 :: (f.word ++ f.fields.flatMap (prF c))) (.inr ⟨_, rfl⟩)
  have e2 := tw_sp (t := f.word) (fun d hd => (g3 d hd).1) (flat_sp c f.fields)
  unfold lineS bodyL
  rw [e1.2, e1.1]
  simp only
  rw [e2.1, g2, e2.2]
  simp only
  rw [numE_fmt hok.2.1.1 hok.2.1.2]
  simp only
  rw [if_neg (by simp), fieldsS_print c hok f.nums hn f.fields _ g1 hnm]
  simp only
  rw [fold_set f hm hk hi hn, h]
  simp
theorem body_nonl {c : Cm} {f : Fm} (hf : fmOf c.kind = some f) (h : chkE c = 0) : ∀ d ∈ bodyL c f, d ≠ 10 := by
  obtain ⟨f', hf', ha0, ha1, hi, hn, hnm, _, _⟩ := chk_parts h
  rw [hf] at hf'
  injection hf' with hf'
  subst hf'
  obtain ⟨hm, hk⟩ := fm_mem hf
  obtain ⟨g1, g2, g3, g4, _⟩ := fm_facts f hm
  intro d hd
  unfold bodyL at hd
  have hF : ∀ n, ∀ x ∈ fmtI n, x ≠ 10 := fun n x hx => by have := fmtI_all n x hx; omega
  rw [List.mem_append, List.mem_cons, List.mem_append, List.mem_flatMap] at hd
  rcases hd with hd | rfl | hd | ⟨x, hx, hd⟩
  · exact hF _ d hd
  · decide
  · exact (g3 d hd).2
  · unfold prF at hd
    split at hd
    · rcases List.mem_cons.1 hd with rfl | hd
      · decide
      · exact hF _ d hd
    split at hd
    · rcases List.mem_cons.1 hd with rfl | hd
      · decide
      · exact hF _ d hd
    split at hd
    · rcases List.mem_cons.1 hd with rfl | hd
      · decide
      · exact hF _ d hd
    split at hd
    · rename_i e
      rcases List.mem_cons.1 hd with rfl | hd
      · decide
      · have := name_all (hnm (by rw [List.contains_iff_mem]; exact e ▸ hx)) d hd
        omega
    split at hd
    · rcases List.mem_cons.1 hd with rfl | hd
      · decide
      · have := quote_all (bs_lt _) d hd
        omega
    split at hd
    · rcases List.mem_cons.1 hd with rfl | hd
      · decide
      · have := hexT_all _ _ d hd
        omega
    split at hd
    · rcases List.mem_cons.1 hd with rfl | hd
      · decide
      · have := hexT_all _ _ d hd
        omega
    · obtain ⟨n, _, hd⟩ := List.mem_flatMap.1 hd
      rcases List.mem_cons.1 hd with rfl | hd
      · decide
      · exact hF _ d hd
theorem body_head (c : Cm) (f : Fm) : bodyL c f ≠ [] ∧ (bodyL c f).head? ≠ some 35 := by
  unfold bodyL
  cases hq : fmtI c.at_ with
  | nil => exact absurd hq (fmtI_ne _)
  | cons d r =>
    have := fmtI_all c.at_ d (by rw [hq]; simp)
    refine ⟨by simp, ?_⟩
    simp only [List.cons_append, List.head?_cons, ne_eq, Option.some.injEq]
    omega
theorem scrS_print : ∀ (L : List Cm) (cnt num : Nat), (∀ c ∈ L, c.ok ∧ chkE c = 0) → cnt + L.length ≤ 512 → scrS cnt num (L.flatMap prL) = .ok L
  | [], cnt, num, _, _ => by rw [List.flatMap_nil, scrS]; simp
  | c :: L, cnt, num, h, hc => by
    obtain ⟨hok, h0⟩ := h c (by simp)
    obtain ⟨f, hf, _⟩ := chk_parts h0
    rw [List.length_cons] at hc
    have e : (c :: L).flatMap prL = bodyL c f ++ 10 :: L.flatMap prL := by rw [List.flatMap_cons, prL_body hf]; simp
    obtain ⟨t1, t2⟩ := tw_nl (l := L.flatMap prL) (body_nonl hf h0)
    obtain ⟨b1, b2⟩ := body_head c f
    rw [e, scrS, dif_neg (by simp), t1, t2, if_neg (fun hh => hh.elim b1 b2), if_neg (by omega), lineS_body hok hf h0]
    simp only [List.drop_one, List.tail_cons]
    rw [scrS_print L (cnt + 1) (num + 1) (fun d hd => h d (by simp [hd])) (by omega)]
    rfl
end Go.Proofs.YtjaeiiiniohloaaDoor
/- Walks: num.Format. -/
namespace Go.Proofs.YtjaeiiiniohloaaDoor
open Go.RowKit
set_option maxRecDepth 100000
def fmtB (n : Int) : ByteArray := ⟨(Lib.itoa n).toArray⟩
theorem bs_fmtB (n : Int) : bs (fmtB n) = fmtI n := rfl
theorem format_any (n : Int) (w : World) (hL : Laid w) (hn : numR n) : Calls Tryd.prog 29 #[.int .i64 n] w fun e w' => e = .returned (.string (fmtB n)) ∧ Below w.heap.size w w' := by
  refine calls_W (l := [_]) Tryd.func29 rfl _ Tryd.ntmps29 (by simp) ?_
  simp +contextual (maxSteps := 2000000) (disch := (first | omega | (simp only [SZ]; done) | (simp only [SZ]; omega) | (simp only [TS] at *; omega))) only [RZ, gval, gslot, fillL, ovw, numb, catL, ldN, agL, okC, oneC, init, Nat.reduceAdd, Nat.reduceMul, Nat.reduceSub, Nat.reduceEqDiff, Nat.reduceLT, ↓reduceIte, Int.reduceToNat, Int.reduceAdd, Int.reduceSub, Int.reduceMul, Int.reduceLT, Int.reduceLE, Int.reduceEq, Nat.reduceLeDiff]
  refine (Tryd.strconv_Itoa n hn.1 hn.2 w hL.pow).mono ?_
  rintro e w1 ⟨rfl, k, os, rfl⟩
  refine ⟨_, rfl, ?_⟩
  simp +contextual (maxSteps := 2000000) (disch := (first | omega | (simp only [SZ]; done) | (simp only [SZ]; omega) | (simp only [TS] at *; omega))) only [RZ, gval, gslot, fillL, ovw, numb, catL, ldN, agL, okC, oneC, init, Nat.reduceAdd, Nat.reduceMul, Nat.reduceSub, Nat.reduceEqDiff, Nat.reduceLT, ↓reduceIte, Int.reduceToNat, Int.reduceAdd, Int.reduceSub, Int.reduceMul, Int.reduceLT, Int.reduceLE, Int.reduceEq, Nat.reduceLeDiff]
  exact ⟨rfl, Lib.below_grow _ w (Nat.le_refl _) k os⟩
end Go.Proofs.YtjaeiiiniohloaaDoor
/- Walks: digest.Hex. -/
namespace Go.Proofs.YtjaeiiiniohloaaDoor
open Go.RowKit
set_option maxRecDepth 100000
theorem hexT_get : ∀ (k x i : Nat), i < k → (hexT k x)[i]? = some (hexd (x / 16 ^ (k - 1 - i) % 16))
  | 0, x, i, h => absurd h (Nat.not_lt_zero _)
  | k + 1, x, 0, h => rfl
  | k + 1, x, i + 1, h => by
    show (hexT k x)[i]? = _
    rw [hexT_get k x i (by omega)]
    congr 5
    omega
theorem byV_set {X : List Nat} {i k n : Nat} {z : Value} (h : X[i]? = some n) (hk : X.length = i + k + 1) : (byV (X.take i) ++ List.replicate (k + 1) z).set i (.int .u8 (n : Int)) = byV (X.take (i + 1)) ++ List.replicate k z := by
  have hl : (byV (X.take i)).length = i := by simp [byV]; omega
  rw [List.set_append_right _ _ (by omega), hl, Nat.sub_self, List.replicate_succ, List.set_cons_zero, List.take_add_one, h]
  unfold byV
  rw [List.map_append, List.append_assoc]
  rfl
theorem hex_any (X : Nat) (w : World) (hL : Laid w) (h1 : X ≤ 18446744073709551615) : Calls Tryd.prog 42 #[.int .u64 X] w fun e w' => e = .returned (.string (toBA (hexT 16 X))) ∧ Below w.heap.size w w' := by
  refine calls_W (l := [_]) Tryd.func42 rfl _ Tryd.ntmps42 (by simp) ?_
  have hsz := hL.size
  simp +contextual (maxSteps := 2000000) (disch := (first | omega | (simp only [SZ]; done) | (simp only [SZ]; omega) | (simp only [TS] at *; omega))) only [RZ, gval, gslot, fillL, ovw, numb, catL, ldN, agL, okC, oneC, init, Nat.reduceAdd, Nat.reduceMul, Nat.reduceSub, Nat.reduceEqDiff, Nat.reduceLT, ↓reduceIte, Int.reduceToNat, Int.reduceAdd, Int.reduceSub, Int.reduceMul, Int.reduceLT, Int.reduceLE, Int.reduceEq, Nat.reduceLeDiff]
  generalize hw1 : w.alloc (.cells #[.int .u8 0, .int .u8 0, .int .u8 0, .int .u8 0, .int .u8 0, .int .u8 0, .int .u8 0, .int .u8 0, .int .u8 0, .int .u8 0, .int .u8 0, .int .u8 0, .int .u8 0, .int .u8 0, .int .u8 0, .int .u8 0] 84) = w1
  have hb1 : Below w.heap.size w w1 := by rw [← hw1]; exact below_alloc _ _
  have hs1 : w1.heap.size = w.heap.size + 1 := by rw [← hw1]; simp
  have hr1 : Row w1 w.heap.size 84 (byV ((hexT 16 X).take 0) ++ List.replicate 16 (.int .u8 0)) := by rw [← hw1]; exact Row.new _ _ _
  clear hw1
  have hlen := hexT_len 16 X
  refine Raw_loop (fun σ w2 => Below w.heap.size w w2 ∧ w2.heap.size = w.heap.size + 1 ∧ ∃ i k : Nat, i + k = 16 ∧ Row w2 w.heap.size 84 (byV ((hexT 16 X).take i) ++ List.replicate k (.int .u8 0)) ∧ σ 0 = .int .u64 X ∧ σ 3 = .pointer (some ⟨w.heap.size, 0, none⟩) ∧ σ 5 = .int .i64 i) (fun σ _ => 16 - (intOf (σ 5)).toNat) ?_ ?_
  · simp +contextual (maxSteps := 2000000) (disch := (first | omega | (simp only [SZ]; done) | (simp only [SZ]; omega) | (simp only [TS] at *; omega))) only [RZ, gval, gslot, fillL, ovw, numb, catL, ldN, agL, okC, oneC, init, Nat.reduceAdd, Nat.reduceMul, Nat.reduceSub, Nat.reduceEqDiff, Nat.reduceLT, ↓reduceIte, Int.reduceToNat, Int.reduceAdd, Int.reduceSub, Int.reduceMul, Int.reduceLT, Int.reduceLE, Int.reduceEq, Nat.reduceLeDiff]
    exact ⟨hb1, hs1, 0, 16, rfl, hr1, rfl⟩
  rintro σ w2 ⟨hB, hs2, i, k, hik, hR, f0, f3, f5⟩ K hK
  have hA : ∀ (b : Nat) (k : IntKind) (j : Int) (w : World), 0 ≤ j → j < 16 → vIndexAddr Tryd.prog 84 (.pointer (some ⟨b, 0, none⟩)) (.int k j) w = .ok (.value (.pointer (some ⟨b, 0 + j.toNat * 1, none⟩))) w := fun b k j w h0 h1 => vIndexAddr_arr Tryd.underlying84 (by kernel_rfl) h0 h1
  simp +contextual (maxSteps := 2000000) (disch := (first | omega | (simp only [SZ]; done) | (simp only [SZ]; omega) | (simp only [TS] at *; omega))) only [RZ, gval, gslot, fillL, ovw, numb, catL, ldN, agL, okC, oneC, init, Nat.reduceAdd, Nat.reduceMul, Nat.reduceSub, Nat.reduceEqDiff, Nat.reduceLT, ↓reduceIte, Int.reduceToNat, Int.reduceAdd, Int.reduceSub, Int.reduceMul, Int.reduceLT, Int.reduceLE, Int.reduceEq, Nat.reduceLeDiff,  f0, f3, f5]
  (refine W_if rfl (fun hc => ?_) (fun hc => ?_) <;> (try simp only [TS] at hc))
  · obtain ⟨k, rfl⟩ : ∃ m, k = m + 1 := ⟨k - 1, by omega⟩
    have hq : (X : Int) / 2 ^ ((4 * (15 - (i : Int))).toNat) = ((X / 16 ^ (15 - i) : Nat) : Int) := by
      rw [show (4 * (15 - (i : Int))).toNat = 4 * (15 - i) by omega, Int.natCast_ediv, Int.natCast_pow, Int.pow_mul]
      rfl
    have hg := hexT_get 16 X i (by omega)
    have hle : X / 16 ^ (15 - i) ≤ X := Nat.div_le_self _ _
    rw [show 16 - 1 - i = 15 - i by omega] at hg
    generalize X / 16 ^ (15 - i) = q at *
    have hh := (hL.below hB hsz).hex (q % 16) (by omega)
    have e1 : ((q : Int) % 16).toNat = q % 16 := by omega
    have hl : (byV ((hexT 16 X).take i)).length = i := by simp [byV]; omega
    have cg := hR.cell (i := i) (v := .int .u8 0) (by rw [List.getElem?_append_right (by omega), hl, Nat.sub_self]; rfl)
    have zg := hR.frozen i
    simp +contextual (maxSteps := 2000000) (disch := (first | omega | (simp only [SZ]; done) | (simp only [SZ]; omega) | (simp only [TS] at *; omega))) only [RZ, gval, gslot, fillL, ovw, numb, catL, ldN, agL, okC, oneC, init, Nat.reduceAdd, Nat.reduceMul, Nat.reduceSub, Nat.reduceEqDiff, Nat.reduceLT, ↓reduceIte, Int.reduceToNat, Int.reduceAdd, Int.reduceSub, Int.reduceMul, Int.reduceLT, Int.reduceLE, Int.reduceEq, Nat.reduceLeDiff,  f0, f3, f5, hA, hq, e1, hh, cg, zg]
    refine hK _ _ ⟨hB.setCell (p := ⟨w.heap.size, i, none⟩) (Nat.le_refl _) _, by simpa using hs2, i + 1, k, by omega, ?_, ?_⟩ ?_
    · rw [← byV_set hg (by omega)]
      exact hR.set_ (by simp [byV]; omega) _
    · simp +contextual (maxSteps := 2000000) (disch := (first | omega | (simp only [SZ]; done) | (simp only [SZ]; omega) | (simp only [TS] at *; omega))) only [RZ, gval, gslot, fillL, ovw, numb, catL, ldN, agL, okC, oneC, init, Nat.reduceAdd, Nat.reduceMul, Nat.reduceSub, Nat.reduceEqDiff, Nat.reduceLT, ↓reduceIte, Int.reduceToNat, Int.reduceAdd, Int.reduceSub, Int.reduceMul, Int.reduceLT, Int.reduceLE, Int.reduceEq, Nat.reduceLeDiff,  f0, f3, f5]
    · simp +contextual (maxSteps := 2000000) (disch := (first | omega | (simp only [SZ]; done) | (simp only [SZ]; omega) | (simp only [TS] at *; omega))) only [RZ, gval, gslot, fillL, ovw, numb, catL, ldN, agL, okC, oneC, init, Nat.reduceAdd, Nat.reduceMul, Nat.reduceSub, Nat.reduceEqDiff, Nat.reduceLT, ↓reduceIte, Int.reduceToNat, Int.reduceAdd, Int.reduceSub, Int.reduceMul, Int.reduceLT, Int.reduceLE, Int.reduceEq, Nat.reduceLeDiff,  intOf, f5]
      omega
  · obtain ⟨rfl, rfl⟩ : i = 16 ∧ k = 0 := by omega
    rw [List.take_of_length_le (by omega), List.replicate_zero, List.append_nil] at hR
    have hsl := vSlice_arr (P := Tryd.prog) (b := w.heap.size) (o := 0) (w := w2) Tryd.underlying84 (sz := 1) (by kernel_rfl)
    obtain ⟨s, hs1, hs2⟩ := bytes_str (w := w2) (a := ⟨w.heap.size, 0, none⟩) (cap := 16) (hexT 16 X) (fun n hn => by have := hexT_all 16 X n hn; omega) (fun j u hu => by rw [addr_add, Nat.zero_add]; exact hR.cell hu)
    rw [hlen] at hs2
    simp +contextual (maxSteps := 2000000) (disch := (first | omega | (simp only [SZ]; done) | (simp only [SZ]; omega) | (simp only [TS] at *; omega))) only [RZ, gval, gslot, fillL, ovw, numb, catL, ldN, agL, okC, oneC, init, Nat.reduceAdd, Nat.reduceMul, Nat.reduceSub, Nat.reduceEqDiff, Nat.reduceLT, ↓reduceIte, Int.reduceToNat, Int.reduceAdd, Int.reduceSub, Int.reduceMul, Int.reduceLT, Int.reduceLE, Int.reduceEq, Nat.reduceLeDiff,  f0, f3, f5, hsl, hs2]
    refine ⟨?_, hB⟩
    rw [← hs1, toBA_bs]
end Go.Proofs.YtjaeiiiniohloaaDoor
/- Plain: scripts of two parts, remarks, what is accepted. No program in sight. -/
namespace Go.Proofs.YtjaeiiiniohloaaDoor
theorem tw_mem {q : Nat → Bool} : ∀ (l : List Nat) (c : Nat), c ∈ l.takeWhile q → q c = true
  | [], c, h => by simp at h
  | d :: l, c, h => by
    by_cases hd : q d = true
    · rw [List.takeWhile_cons_of_pos hd] at h
      rcases List.mem_cons.1 h with rfl | h
      · exact hd
      · exact tw_mem l c h
    · rw [List.takeWhile_cons_of_neg hd] at h; simp at h
theorem line_split (l : List Nat) : ∃ t, (∀ c ∈ t, c ≠ 10) ∧ (l = t ∨ ∃ r, l = t ++ 10 :: r) := by
  refine ⟨l.takeWhile notNl, fun c hc => ?_, ?_⟩
  · have := tw_mem _ _ hc
    simpa [notNl] using this
  · have h1 := List.takeWhile_append_dropWhile (p := notNl) (l := l)
    cases hd : l.dropWhile notNl with
    | nil => rw [hd, List.append_nil] at h1; exact .inl h1.symm
    | cons d r =>
      right
      have h2 : ¬ notNl d = true := by
        have := List.head?_dropWhile_not (p := notNl) (l := l)
        rw [hd] at this
        simpa using this
      have h3 : d = 10 := by simpa [notNl] using h2
      exact ⟨r, by rw [← h3, ← hd]; exact h1.symm⟩
def stepS (cnt num : Nat) (t : List Nat) (k : Nat → Nat → Except (Int × Nat) (List Cm)) : Except (Int × Nat) (List Cm) :=
  if t = [] ∨ t.head? = some 35 then k cnt (num + 1) else if 512 ≤ cnt then .error (3, num + 1)
  else match lineS t with
    | .error e => .error (e, num + 1)
    | .ok c => consS c (k (cnt + 1) (num + 1))
theorem scrS_nil (cnt num : Nat) : scrS cnt num [] = .ok [] := by rw [scrS]; simp
theorem scrS_line {t : List Nat} (ht : ∀ c ∈ t, c ≠ 10) (cnt num : Nat) (r : List Nat) : scrS cnt num (t ++ 10 :: r) = stepS cnt num t fun a b => scrS a b r := by
  obtain ⟨t1, t2⟩ := tw_nl (l := r) ht
  rw [scrS, dif_neg (by simp), t1, t2]
  rfl
theorem scrS_last {t : List Nat} (ht : ∀ c ∈ t, c ≠ 10) (h0 : t ≠ []) (cnt num : Nat) : scrS cnt num t = stepS cnt num t fun _ _ => .ok [] := by
  obtain ⟨t1, t2⟩ := tw_end ht
  rw [scrS, dif_neg h0, t1, t2]
  simp only [List.drop_nil, scrS_nil]
  rfl
def shE (k : Nat) : Except (Int × Nat) (List Cm) → Except (Int × Nat) (List Cm)
  | .ok L => .ok L
  | .error e => .error (e.1, e.2 + k)
theorem shE_add (a b : Nat) (x : Except (Int × Nat) (List Cm)) : shE a (shE b x) = shE (b + a) x := by cases x <;> simp [shE, Nat.add_assoc]
theorem shE_cons (a : Nat) (c : Cm) (x : Except (Int × Nat) (List Cm)) : shE a (consS c x) = consS c (shE a x) := by cases x <;> rfl
/-- How many commands and lines stand before does not matter. -/
theorem scrS_sh : ∀ (n : Nat) (l : List Nat), l.length ≤ n → ∀ (cnt cnt' num : Nat), cnt + l.length ≤ 512 → cnt' + l.length ≤ 512 → scrS cnt num l = shE num (scrS cnt' 0 l)
  | 0, l, h, cnt, cnt', num, _, _ => by
    have : l = [] := List.length_eq_zero_iff.1 (by omega)
    subst this
    rw [scrS_nil, scrS_nil]; rfl
  | n + 1, l, h, cnt, cnt', num, h1, h2 => by
    obtain ⟨t, ht, hl⟩ := line_split l
    by_cases h0 : l = []
    · subst h0
      rw [scrS_nil, scrS_nil]; rfl
    rcases hl with rfl | ⟨r, rfl⟩
    · have hp : 0 < l.length := List.length_pos_iff.2 h0
      rw [scrS_last ht h0, scrS_last ht h0]
      unfold stepS
      split
      · rfl
      rw [if_neg (by omega), if_neg (by omega)]
      cases lineS l with
      | error e => simp only [shE, Nat.zero_add, Nat.add_comm]
      | ok c => rfl
    · rw [List.length_append, List.length_cons] at h h1 h2
      rw [scrS_line ht, scrS_line ht]
      unfold stepS
      split
      · simp only
        rw [scrS_sh n r (by omega) cnt cnt' (num + 1) (by omega) (by omega), scrS_sh n r (by omega) cnt' cnt' (0 + 1) (by omega) (by omega), shE_add]
        congr 1
        omega
      rw [if_neg (by omega), if_neg (by omega)]
      cases lineS t with
      | error e => simp only [shE, Nat.zero_add, Nat.add_comm]
      | ok c =>
        simp only
        rw [scrS_sh n r (by omega) (cnt + 1) (cnt' + 1) (num + 1) (by omega) (by omega), scrS_sh n r (by omega) (cnt' + 1) (cnt' + 1) (0 + 1) (by omega) (by omega), shE_cons, shE_add]
        congr 2
        omega
def joinS (x : Except (Int × Nat) (List Cm)) (k : List Cm → Except (Int × Nat) (List Cm)) : Except (Int × Nat) (List Cm) := match x with
  | .error e => .error e
  | .ok L => (match k L with | .error e => .error e | .ok M => .ok (L ++ M))
theorem joinS_cons (c : Cm) (x : Except (Int × Nat) (List Cm)) (k : List Cm → Except (Int × Nat) (List Cm)) : joinS (consS c x) k = consS c (joinS x fun L => k (c :: L)) := by
  cases x with
  | error e => rfl
  | ok L =>
    simp only [consS, joinS]
    cases k (c :: L) <;> rfl
theorem joinS_nil (k : List Cm → Except (Int × Nat) (List Cm)) : joinS (.ok []) k = k [] := by
  simp only [joinS]
  cases k [] <;> rfl
theorem scrS_append (b : List Nat) : ∀ (n : Nat) (l : List Nat), l.length ≤ n → ∀ (cnt num : Nat), scrS cnt num (l ++ 10 :: b) = joinS (scrS cnt num l) fun L => scrS (cnt + L.length) (num + (l.count 10 + 1)) b
  | 0, l, h, cnt, num => by
    have : l = [] := List.length_eq_zero_iff.1 (by omega)
    subst this
    rw [scrS_line (t := []) (by simp), scrS_nil, joinS_nil]
    rfl
  | n + 1, l, h, cnt, num => by
    obtain ⟨t, ht, hl⟩ := line_split l
    have ct : t.count 10 = 0 := List.count_eq_zero.2 fun hm => ht 10 hm rfl
    by_cases h0 : l = []
    · subst h0
      rw [scrS_line (t := []) (by simp), scrS_nil, joinS_nil]
      rfl
    rcases hl with rfl | ⟨r, rfl⟩
    · rw [scrS_line ht, scrS_last ht h0, ct]
      unfold stepS
      split
      · rw [joinS_nil]; rfl
      split
      · rfl
      cases lineS l with
      | error e => rfl
      | ok c =>
        simp only
        rw [joinS_cons, joinS_nil]
        rfl
    · rw [List.length_append, List.length_cons] at h
      have e : (t ++ 10 :: r).count 10 = r.count 10 + 1 := by rw [List.count_append, ct, List.count_cons_self]; omega
      rw [List.append_assoc, List.cons_append, scrS_line ht, scrS_line ht, e]
      unfold stepS
      split
      · simp only
        rw [scrS_append b n r (by omega)]
        congr 1
        funext L
        congr 1
        omega
      split
      · rfl
      cases lineS t with
      | error e => rfl
      | ok c =>
        simp only
        rw [scrS_append b n r (by omega), joinS_cons]
        congr 2
        funext L
        rw [List.length_cons]
        congr 1 <;> omega
/-! What is accepted. -/
theorem valD_nn (l : List Nat) : 0 ≤ (valD 0 l : Int) := by omega
theorem numE_R (l : List Nat) : numR (numE l).1 := by
  unfold numE numR
  repeat' split
  all_goals simp only
  all_goals omega
theorem hexv_lt {c d : Nat} (h : hexv c = some d) : d < 16 := by
  unfold hexv at h
  split at h
  · injection h; omega
  · split at h
    · injection h; omega
    · cases h
theorem hexV_bd : ∀ (l : List Nat) (acc v : Nat), hexV acc l = some v → v < (acc + 1) * 16 ^ l.length
  | [], acc, v, h => by simp [hexV] at h; simp; omega
  | c :: l, acc, v, h => by
    unfold hexV at h
    cases hc : hexv c with
    | none => rw [hc] at h; cases h
    | some d =>
      rw [hc] at h
      have h1 := hexV_bd l _ v h
      have h2 := hexv_lt hc
      have h3 : (acc * 16 + d + 1) * 16 ^ l.length ≤ ((acc + 1) * 16) * 16 ^ l.length := Nat.mul_le_mul_right _ (by omega)
      rw [List.length_cons, Nat.pow_succ, Nat.mul_comm (16 ^ l.length), ← Nat.mul_assoc]
      omega
theorem hexE_bd {l : List Nat} {v : Nat} (h : hexE l = some v) : v < 18446744073709551616 := by
  unfold hexE at h
  split at h
  · rename_i hl
    have := hexV_bd l 0 v h
    rw [hl] at this
    simpa using this
  · cases h
theorem toBA_size (l : List Nat) : (toBA l).size = l.length := by
  unfold toBA
  show (Array.size _) = _
  simp
theorem fieldS_ok {c c' : Cm} {x : Nat} {t : List Nat} (hok : c.ok) (h : fieldS c x t = some c') : c'.ok ∧ c'.text = c.text ∧ c'.nums = c.nums := by
  obtain ⟨h1, h2, h3, h4, h5, h6, h7, h8⟩ := hok
  have hn := numE_R t
  unfold numR at hn
  unfold fieldS at h
  split at h
  · split at h
    · injection h with h; subst h; exact ⟨⟨h1, h2, hn, h4, h5, h6, h7, h8⟩, rfl, rfl⟩
    · cases h
  split at h
  · split at h
    · injection h with h; subst h; exact ⟨⟨h1, h2, h3, hn, h5, h6, h7, h8⟩, rfl, rfl⟩
    · cases h
  split at h
  · split at h
    · injection h with h; subst h; exact ⟨⟨h1, h2, h3, h4, hn, h6, h7, h8⟩, rfl, rfl⟩
    · cases h
  split at h
  · split at h
    · injection h with h; subst h; exact ⟨⟨h1, h2, h3, h4, h5, h6, h7, h8⟩, rfl, rfl⟩
    · cases h
  split at h
  · obtain ⟨v, hv, rfl⟩ := Option.map_eq_some_iff.1 h
    have := hexE_bd hv
    exact ⟨⟨h1, h2, h3, h4, h5, h6, ⟨Int.natCast_nonneg v, by simp only; omega⟩, h8⟩, rfl, rfl⟩
  split at h
  · obtain ⟨v, hv, rfl⟩ := Option.map_eq_some_iff.1 h
    have := hexE_bd hv
    exact ⟨⟨h1, h2, h3, h4, h5, h6, h7, ⟨Int.natCast_nonneg v, by simp only; omega⟩⟩, rfl, rfl⟩
  · cases h
theorem cutS_len {l t r : List Nat} (h : cutS l = some (t, r)) : t.length + r.length + 1 = l.length := by
  unfold cutS at h
  cases l with
  | nil => cases h
  | cons c l =>
    simp only at h
    split at h
    · injection h with h
      injection h with e1 e2
      subst e1; subst e2
      have := congrArg List.length (List.takeWhile_append_dropWhile (p := notSp) (l := l))
      rw [List.length_append] at this
      rw [List.length_cons]
      omega
    · cases h
theorem numsF_ok : ∀ (f : Nat) (count : Int) (done : Nat) (l : List Nat) (ns : List Int) (r : List Nat), numsF f count done l = some (ns, r) → (∀ n ∈ ns, numR n) ∧ ns.length + r.length ≤ l.length
  | f, count, done, l, ns, r, h => by
    unfold numsF at h
    split at h
    · injection h with h
      injection h with e1 e2
      subst e1; subst e2
      simp
    · cases f with
      | zero => cases h
      | succ f =>
        simp only at h
        cases hc : cutS l with
        | none => rw [hc] at h; cases h
        | some p =>
          obtain ⟨t, s⟩ := p
          rw [hc] at h
          simp only at h
          have hl := cutS_len hc
          split at h
          · cases h
          · obtain ⟨⟨ns', r'⟩, hq, he⟩ := Option.map_eq_some_iff.1 h
            injection he with e1 e2
            subst e1; subst e2
            obtain ⟨g1, g2⟩ := numsF_ok f _ _ _ _ _ hq
            refine ⟨fun n hn => ?_, by show ns'.length + 1 + r'.length ≤ _; omega⟩
            rcases List.mem_cons.1 hn with rfl | hn
            · exact numE_R t
            · exact g1 n hn
theorem unq_len : ∀ (n : Nat) (l t : List Nat), l.length ≤ n → unq l = some t → t.length < l.length
  | 0, l, t, hl, h => by
    have : l = [] := List.length_eq_zero_iff.1 (by omega)
    subst this
    rw [unq] at h
    cases h
  | n + 1, l, t, hl, h => by
    cases l with
    | nil => rw [unq] at h; cases h
    | cons c r =>
      rw [List.length_cons] at hl ⊢
      rw [unq] at h
      split at h
      · split at h
        · injection h with h; subst h; simp
        · cases h
      split at h
      · cases he : escS r with
        | none => rw [he] at h; cases h
        | some p =>
          rw [he] at h
          obtain ⟨t', ht, rfl⟩ := Option.map_eq_some_iff.1 h
          have h1 := unq_len n _ _ (by rw [List.length_drop]; omega) ht
          rw [List.length_drop] at h1
          rw [List.length_cons]
          omega
      split at h
      · obtain ⟨t', ht, rfl⟩ := Option.map_eq_some_iff.1 h
        have h1 := unq_len n _ _ (by omega) ht
        rw [List.length_cons]
        omega
      · cases h
theorem textS_len {l t : List Nat} (h : textS l = some t) : t.length ≤ l.length := by
  unfold textS at h
  match l, h with
  | [], h => cases h
  | [_], h => cases h
  | c :: d :: r, h =>
    simp only at h
    split at h
    · have := unq_len _ _ _ (Nat.le_refl _) h
      simp only [List.length_cons]
      omega
    · cases h
theorem fieldsS_ok (N : Nat) (nums : Int) : ∀ (fl : List Nat) (c c' : Cm) (l : List Nat), c.ok → c.text.size ≤ N → c.nums.length ≤ N → l.length ≤ N → fieldsS nums c fl l = some c' → c'.ok ∧ c'.text.size ≤ N ∧ c'.nums.length ≤ N
  | [], c, c', l, h1, h2, h3, h4, h => by
    unfold fieldsS at h
    split at h
    · injection h with h; subst h; exact ⟨h1, h2, h3⟩
    · cases h
  | x :: fl, c, c', l, h1, h2, h3, h4, h => by
    unfold fieldsS at h
    split at h
    · cases ht : textS l with
      | none => rw [ht] at h; cases h
      | some t =>
        rw [ht] at h
        have := textS_len ht
        exact fieldsS_ok N nums fl { c with text := toBA t } _ _ h1 (by simp only; rw [toBA_size]; omega) h3 (by simp) h
    split at h
    · cases hn : numsF (l.length + 1) nums 0 l with
      | none => rw [hn] at h; cases h
      | some p =>
        obtain ⟨ns, r⟩ := p
        rw [hn] at h
        obtain ⟨g1, g2⟩ := numsF_ok _ _ _ _ _ _ hn
        exact fieldsS_ok N nums fl { c with nums := ns } _ _ ⟨h1.1, h1.2.1, h1.2.2.1, h1.2.2.2.1, h1.2.2.2.2.1, g1, h1.2.2.2.2.2.2⟩ h2 (by simp only; omega) (by omega) h
    · cases hc : cutS l with
      | none => rw [hc] at h; cases h
      | some p =>
        obtain ⟨t, r⟩ := p
        rw [hc] at h
        have hl := cutS_len hc
        simp only at h
        cases hf : fieldS c x t with
        | none => rw [hf] at h; cases h
        | some c2 =>
          rw [hf] at h
          obtain ⟨g1, g2, g3⟩ := fieldS_ok h1 hf
          exact fieldsS_ok N nums fl _ _ _ g1 (by rw [g2]; exact h2) (by rw [g3]; exact h3) (by omega) h
theorem lineS_ok {l : List Nat} {c : Cm} (h : lineS l = .ok c) : c.ok ∧ chkE c = 0 ∧ c.text.size ≤ l.length ∧ c.nums.length ≤ l.length := by
  unfold lineS at h
  have hl := congrArg List.length (List.takeWhile_append_dropWhile (p := notSp) (l := l))
  rw [List.length_append] at hl
  cases hd : l.dropWhile notSp with
  | nil => rw [hd] at h; cases h
  | cons d rest =>
    rw [hd] at h hl
    simp only at h
    cases hf : fmNamed (rest.takeWhile notSp) with
    | none => rw [hf] at h; cases h
    | some f =>
      rw [hf] at h
      simp only at h
      split at h
      · cases h
      cases hg : fieldsS f.nums { Cm.zero with kind := f.kind, at_ := (numE (l.takeWhile notSp)).1 } f.fields (rest.dropWhile notSp) with
      | none => rw [hg] at h; cases h
      | some c2 =>
        rw [hg] at h
        simp only at h
        split at h
        · cases h
        rename_i h0
        injection h with h
        subst h
        have hk : f ∈ fmT := List.mem_of_find?_eq_some hf
        have hk2 : ∀ g ∈ fmT, (-9223372036854775808 ≤ g.kind ∧ g.kind ≤ 9223372036854775807) := by decide
        have hr := congrArg List.length (List.takeWhile_append_dropWhile (p := notSp) (l := rest))
        rw [List.length_append] at hr
        rw [List.length_cons] at hl
        have hat := numE_R (l.takeWhile notSp)
        unfold numR at hat
        obtain ⟨g1, g2, g3⟩ := fieldsS_ok l.length f.nums f.fields _ _ _ ⟨hk2 f hk, hat, (show (-9223372036854775808 : Int) ≤ 0 ∧ (0 : Int) ≤ 9223372036854775807 by decide), (show (-9223372036854775808 : Int) ≤ 0 ∧ (0 : Int) ≤ 9223372036854775807 by decide), (show (-9223372036854775808 : Int) ≤ 0 ∧ (0 : Int) ≤ 9223372036854775807 by decide), by intro n hn; exact absurd hn (by simp [Cm.zero]), (show (0 : Int) ≤ 0 ∧ (0 : Int) ≤ 18446744073709551615 by decide), (show (0 : Int) ≤ 0 ∧ (0 : Int) ≤ 18446744073709551615 by decide)⟩ (by simp [Cm.zero]) (by simp [Cm.zero]) (by omega) hg
        exact ⟨g1, Classical.byContradiction h0, g2, g3⟩
theorem qB_len (c : Nat) : (qB c).length ≤ 4 := by
  unfold qB
  repeat' split
  all_goals simp
theorem flat_le {α : Type} (g : α → List Nat) (m : Nat) : ∀ (l : List α), (∀ x ∈ l, (g x).length ≤ m) → (l.flatMap g).length ≤ m * l.length
  | [], _ => by simp
  | x :: l, h => by
    rw [List.flatMap_cons, List.length_append, List.length_cons, Nat.mul_succ]
    have h1 := h x (by simp)
    have h2 := flat_le g m l fun y hy => h y (by simp [hy])
    omega
theorem fmtI_len {n : Int} (h : numR n) : (fmtI n).length ≤ 21 := by unfold fmtI; rw [List.length_map]; exact Lib.itoa_length_le n h.1 h.2
theorem prF_len {c : Cm} (hok : c.ok) (hn : (bs c.name).length ≤ 24) (x : Nat) : (prF c x).length ≤ 30 + 4 * c.text.size + 22 * c.nums.length := by
  obtain ⟨_, _, h1, h2, h3, h4, _⟩ := hok
  unfold prF
  have e1 := fmtI_len h1
  have e2 := fmtI_len h2
  have e3 := fmtI_len h3
  have e4 := flat_le qB 4 (bs c.text) fun d _ => qB_len d
  have e5 := flat_le (fun n => 32 :: fmtI n) 22 c.nums fun n hm => by have := fmtI_len (h4 n hm); simp only [List.length_cons]; omega
  rw [bs_len] at e4
  repeat' split
  all_goals first | rw [List.length_cons] | skip
  all_goals first | rw [hexT_len] | (unfold quoteL; rw [List.length_cons, List.length_append]; simp only [List.length_cons, List.length_nil]) | skip
  all_goals omega
theorem prL_len {c : Cm} (hok : c.ok) (h : chkE c = 0) : (prL c).length ≤ 200 + 20 * c.text.size + 110 * c.nums.length := by
  obtain ⟨f, hf, _, _, hi, _, hnm, _, _⟩ := chk_parts h
  obtain ⟨hm, hk⟩ := fm_mem hf
  obtain ⟨g1, g2, g3, g4, g5, g6, _⟩ := fm_facts f hm
  have hn : (bs c.name).length ≤ 24 := by
    rcases (idle_parts hi).2.2.2.1 with h1 | h1
    · have := hnm h1
      unfold scNameB at this
      simp only [Bool.and_eq_true, decide_eq_true_eq] at this
      exact this.1.2
    · rw [h1, bs_empty]; simp
  have e1 := flat_le (prF c) _ f.fields fun x _ => prF_len hok hn x
  have e2 : (30 + 4 * c.text.size + 22 * c.nums.length) * f.fields.length ≤ (30 + 4 * c.text.size + 22 * c.nums.length) * 5 := Nat.mul_le_mul_left _ g5
  have e3 := fmtI_len (n := c.at_) hok.2.1
  rw [prL_body hf]
  unfold bodyL
  simp only [List.length_append, List.length_cons, List.length_nil]
  omega
theorem scrS_ok : ∀ (n : Nat) (l : List Nat) (cnt num : Nat) (L : List Cm), l.length ≤ n → scrS cnt num l = .ok L → (∀ c ∈ L, c.ok ∧ chkE c = 0) ∧ L.length ≤ l.length ∧ (L.flatMap prL).length ≤ 330 * l.length
  | 0, l, cnt, num, L, hl, h => by
    have : l = [] := List.length_eq_zero_iff.1 (by omega)
    subst this
    rw [scrS_nil] at h
    injection h with h; subst h; simp
  | n + 1, l, cnt, num, L, hl, h => by
    obtain ⟨t, ht, hs⟩ := line_split l
    by_cases h0 : l = []
    · subst h0
      rw [scrS_nil] at h
      injection h with h; subst h; simp
    have key : ∀ c, lineS t = .ok c → 0 < t.length → (c.ok ∧ chkE c = 0) ∧ (prL c).length ≤ 330 * t.length := by
      intro c hc hp
      obtain ⟨h1, h2, h3, h4⟩ := lineS_ok hc
      have := prL_len h1 h2
      exact ⟨⟨h1, h2⟩, by omega⟩
    rcases hs with rfl | ⟨r, rfl⟩
    · have hp : 0 < l.length := List.length_pos_iff.2 h0
      rw [scrS_last ht h0] at h
      unfold stepS at h
      split at h
      · injection h with h; subst h; simp
      split at h
      · cases h
      cases hc : lineS l with
      | error e => rw [hc] at h; cases h
      | ok c =>
        rw [hc] at h
        simp only [consS] at h
        injection h with h
        subst h
        obtain ⟨k1, k2⟩ := key c hc hp
        exact ⟨by simpa using k1, by simp; omega, by simpa using k2⟩
    · rw [List.length_append, List.length_cons] at hl ⊢
      rw [scrS_line ht] at h
      unfold stepS at h
      split at h
      · obtain ⟨g1, g2, g3⟩ := scrS_ok n r _ _ _ (by omega) h
        exact ⟨g1, by omega, by omega⟩
      rename_i hne
      rw [not_or] at hne
      split at h
      · cases h
      cases hc : lineS t with
      | error e => rw [hc] at h; cases h
      | ok c =>
        rw [hc] at h
        simp only at h
        cases hr : scrS (cnt + 1) (num + 1) r with
        | error e => rw [hr] at h; cases h
        | ok M =>
          rw [hr] at h
          simp only [consS] at h
          injection h with h
          subst h
          obtain ⟨g1, g2, g3⟩ := scrS_ok n r _ _ _ (by omega) hr
          have hp : 0 < t.length := List.length_pos_iff.2 hne.1
          obtain ⟨k1, k2⟩ := key c hc hp
          refine ⟨fun d hd => ?_, by rw [List.length_cons]; omega, by rw [List.flatMap_cons, List.length_append]; omega⟩
          rcases List.mem_cons.1 hd with rfl | hd
          · exact k1
          · exact g1 d hd
theorem firstE_zero : ∀ {L : List Cm}, firstE L = 0 → ∀ c ∈ L, chkE c = 0
  | [], _, c, h => by simp at h
  | d :: L, h, c, hc => by
    unfold firstE at h
    split at h
    · rename_i h1; exact absurd h h1
    · rename_i h1
      rcases List.mem_cons.1 hc with rfl | hc
      · exact Classical.byContradiction h1
      · exact firstE_zero h c hc
theorem firstE_of : ∀ {L : List Cm}, (∀ c ∈ L, chkE c = 0) → firstE L = 0
  | [], _ => rfl
  | d :: L, h => by
    unfold firstE
    rw [if_neg (by rw [h d (by simp)]; simp)]
    exact firstE_of fun c hc => h c (by simp [hc])
theorem parse_print {L : List Cm} (h : ∀ c ∈ L, c.ok ∧ chkE c = 0) (hl : L.length ≤ 512) (hn : (L.flatMap prL).length ≤ 1048576) : printE L = (L.flatMap prL, 0) ∧ parseS (L.flatMap prL) = .ok L := by
  have h0 := firstE_of fun c hc => (h c hc).2
  refine ⟨?_, ?_⟩
  · unfold printE
    rw [if_neg (by omega), h0, if_neg (by simp)]
  · unfold parseS
    rw [if_neg (by omega)]
    exact scrS_print L 0 0 h (by omega)
/-- What is accepted is printed and parsed to the same. -/
theorem again_law {l : List Nat} {L : List Cm} (hl : l.length ≤ 512) (h : parseS l = .ok L) : printE L = (L.flatMap prL, 0) ∧ parseS (L.flatMap prL) = .ok L := by
  unfold parseS at h
  rw [if_neg (by omega)] at h
  obtain ⟨g1, g2, g3⟩ := scrS_ok _ _ _ _ _ (Nat.le_refl _) h
  exact parse_print g1 (by omega) (by omega)
theorem remarks_law (a note : List Nat) (hn : ∀ c ∈ note, c ≠ 10) (ha : a.length ≤ 500) (hm : note.length ≤ 500) :
    parseS (10 :: (35 :: note) ++ 10 :: 10 :: a ++ 10 :: 35 :: note) = shE 3 (parseS a) := by
  have hn' : ∀ c ∈ 35 :: note, c ≠ 10 := fun c hc => by
    rcases List.mem_cons.1 hc with rfl | hc
    · decide
    · exact hn c hc
  unfold parseS
  rw [if_neg (by simp only [List.length_append, List.length_cons]; omega), if_neg (by omega)]
  have e : 10 :: (35 :: note) ++ 10 :: 10 :: a ++ 10 :: 35 :: note = [] ++ 10 :: ((35 :: note) ++ 10 :: ([] ++ 10 :: (a ++ 10 :: 35 :: note))) := by simp
  rw [e, scrS_line (by simp)]
  unfold stepS
  rw [if_pos (.inl rfl)]
  simp only
  rw [scrS_line hn']
  unfold stepS
  rw [if_pos (.inr rfl)]
  simp only
  rw [scrS_line (t := []) (by simp)]
  unfold stepS
  rw [if_pos (.inl rfl)]
  simp only
  rw [scrS_append _ _ _ (Nat.le_refl _), scrS_sh _ a (Nat.le_refl _) 0 0 (0 + 1 + 1 + 1) (by omega) (by omega)]
  have hlast : ∀ cnt num, scrS cnt num (35 :: note) = .ok [] := fun cnt num => by
    rw [scrS_last hn' (by simp)]
    unfold stepS
    rw [if_pos (.inr rfl)]
  cases scrS 0 0 a with
  | error e => rfl
  | ok L => simp [joinS, shE, hlast]
theorem parts_law (a b : List Nat) (ha : a.length ≤ 400) (hb : b.length ≤ 100) : parseS (a ++ 10 :: b) = joinS (parseS a) fun _ => shE (a.count 10 + 1) (parseS b) := by
  unfold parseS
  rw [if_neg (by simp only [List.length_append, List.length_cons]; omega), if_neg (by omega), if_neg (by omega), scrS_append _ _ _ (Nat.le_refl _)]
  cases hL : scrS 0 0 a with
  | error e => rfl
  | ok L =>
    have := (scrS_ok _ _ _ _ _ (Nat.le_refl _) hL).2.1
    simp only [joinS]
    rw [scrS_sh _ b (Nat.le_refl _) (0 + L.length) 0 (0 + (a.count 10 + 1)) (by omega) (by omega), Nat.zero_add]
end Go.Proofs.YtjaeiiiniohloaaDoor
/- Regions that draw their order: slot readers (in any world alike), and a chain behind them. -/
namespace Go.Proofs.YtjaeiiiniohloaaDoor
open Go.RowKit
section
variable {P : Program} {n : Nat} {ops : Array Oper} {Q : Exit → Sl → World → Prop} {σ : Sl} {w : World}
def chB (ops : Array Oper) : Array Bool → List Nat → Bool
  | L, [] => decide (Region.ready .any ops L = [])
  | L, j :: r => decide (Region.ready .any ops L = [j]) && (match ops[j]? with
    | some ⟨_, _, _, _, _, none⟩ => true
    | _ => false) && chB ops (L.setIfInBounds j true) r
theorem Ord_chain : ∀ (js : List Nat) (listed : Array Bool) (σ : Sl) (w : World), chB ops listed js = true → E P n ops (opsL ops js) σ w (Q .normal) → Ord P n ops Q (fun _ => True) js.length listed σ w
  | [], L, σ, w, h, hE => Ord_done (of_decide_eq_true h) hE
  | j :: r, L, σ, w, h, hE => by
    rw [chB, Bool.and_eq_true, Bool.and_eq_true] at h
    obtain ⟨⟨h1, h2⟩, h3⟩ := h
    rw [opsL_cons] at hE
    cases ho : ops[j]? with
    | none => rw [ho] at h2; cases h2
    | some o =>
      obtain ⟨d, op, ty, p, af, g⟩ := o
      rw [ho] at h2
      cases g with
      | some g => cases h2
      | none =>
        rw [ho, optL_some, E_op] at hE
        exact Ord_one j (of_decide_eq_true h1) ho (Okv_mono (fun v w' hh => ⟨trivial, Ord_chain r _ _ _ h3 hh⟩) hE)
/-- Readers of slots, then a chain. -/
theorem Raw_rc (is js : List Nat) {τ : Sl} {id : Nat} (hm : P.follows .mixedOrders = true) (hsz : ops.size = js.length + is.length) (hs : Region.noSelect ops = true) (hB : rdB n ops (Array.replicate (js.length + is.length) false) is = true)
    (hc : chB ops (markL (Array.replicate (js.length + is.length) false) is) js = true) (hQ : ∀ c σ w, ¬ Q (.panic c) σ w)
    (hv : ∀ w', V P n w' (opsL ops is) σ (fun σ' => σ' = τ)) (h : E P n ops (opsL ops js) τ w.drew (Q .normal)) : Raw P n (.region id ops true) Q σ w :=
  Raw_ord (fun _ => True) _ hsz hm (Ord_reads is js.length rfl hs hB hQ trivial (fun w' _ => hv w') (Ord_chain js _ _ _ hc h))
/-! The same where the readers read memory: S is what all worlds of the chain meet. Guarded operations may stand in the chain. -/
def chG (ops : Array Oper) : Array Bool → List Nat → Bool
  | L, [] => decide (Region.ready .any ops L = [])
  | L, j :: r => decide (Region.ready .any ops L = [j]) && (ops[j]?).isSome && chG ops (L.setIfInBounds j true) r
def EC (P : Program) (n : Nat) (ops : Array Oper) (S : World → Prop) : List Oper → Sl → World → (Sl → World → Prop) → Prop
  | [], σ, w, K => K σ w
  | ⟨d, op, ty, _, _, g⟩ :: r, σ, w, K => match g with
    | none => Okv P (fun v w' => S w' ∧ EC P n ops S r (put n σ d v) w' K) (run1 P op ty σ w)
    | some (j, b) => GB P (isB b (gval σ (gslot ops j))) (run1 P op ty σ w) (fun v w' => S w' ∧ EC P n ops S r (put n σ d v) w' K) w
theorem EC_nil (S : World → Prop) (σ : Sl) (w : World) (K : Sl → World → Prop) : EC P n ops S [] σ w K = K σ w := nr rfl
theorem EC_op (S : World → Prop) (d : Option Nat) (op : Op) (ty : TypeId) (p : String) (af : Array Edge) (r : List Oper) (σ : Sl) (w : World) (K : Sl → World → Prop) :
    EC P n ops S (⟨d, op, ty, p, af, none⟩ :: r) σ w K = Okv P (fun v w' => S w' ∧ EC P n ops S r (put n σ d v) w' K) (run1 P op ty σ w) := nr rfl
theorem EC_opg (S : World → Prop) (d : Option Nat) (op : Op) (ty : TypeId) (p : String) (af : Array Edge) (j : Nat) (b : Bool) (r : List Oper) (σ : Sl) (w : World) (K : Sl → World → Prop) :
    EC P n ops S (⟨d, op, ty, p, af, some (j, b)⟩ :: r) σ w K = GB P (isB b (gval σ (gslot ops j))) (run1 P op ty σ w) (fun v w' => S w' ∧ EC P n ops S r (put n σ d v) w' K) w := nr rfl
@[congr] theorem EC_congr {S : World → Prop} {l : List Oper} {σ σ' : Sl} {w w' : World} {K : Sl → World → Prop} (h : σ = σ') (h' : w = w') : EC P n ops S l σ w K = EC P n ops S l σ' w' K := by rw [h, h']
theorem OpO_ofg {S : World → Prop} {fuel : Nat} {listed : Array Bool} (i : Nat) {d : Option Nat} {op : Op} {ty : TypeId} {p : String} {af : Array Edge} {j : Nat} {b : Bool} (hi : ops[i]? = some ⟨d, op, ty, p, af, some (j, b)⟩)
    (h : GB P (isB b (gval σ (gslot ops j))) (run1 P op ty σ w) (fun v w' => S w' ∧ Ord P n ops Q S fuel (listed.setIfInBounds i true) (put n σ d v) w') w) : OpO P n ops Q S fuel listed σ w i := by
  intro a hfr
  unfold wpOp
  simp only [hi]
  rw [wanted_some hfr rfl]
  unfold GB at h
  split
  · rename_i hg
    rw [if_pos hg] at h
    exact .inl (Oper.wp_of_Okv hfr (o := ⟨d, op, ty, p, af, some (j, b)⟩) h fun v w' hE => ⟨hE.1, hE.2 _ (hfr.put d v)⟩)
  · rename_i hg
    rw [if_neg hg] at h
    exact ⟨h.1, h.2 _ (hfr.put d undef)⟩
theorem GB_mono {g : Bool} {R R' : Value → World → Prop} {r : Result Next} (h : ∀ v w, R v w → R' v w) (hr : GB P g r R w) : GB P g r R' w := by
  unfold GB at *
  split
  · rename_i hg
    rw [if_pos hg] at hr
    exact Okv_mono h hr
  · rename_i hg
    rw [if_neg hg] at hr
    exact h _ _ hr
theorem Ord_chainS (S : World → Prop) : ∀ (js : List Nat) (listed : Array Bool) (σ : Sl) (w : World), chG ops listed js = true → EC P n ops S (opsL ops js) σ w (Q .normal) → Ord P n ops Q S js.length listed σ w
  | [], L, σ, w, h, hE => Ord_done (of_decide_eq_true h) hE
  | j :: r, L, σ, w, h, hE => by
    rw [chG, Bool.and_eq_true, Bool.and_eq_true] at h
    obtain ⟨⟨h1, h2⟩, h3⟩ := h
    rw [opsL_cons] at hE
    cases ho : ops[j]? with
    | none => rw [ho] at h2; cases h2
    | some o =>
      obtain ⟨d, op, ty, p, af, g⟩ := o
      refine Ord_all [j] (of_decide_eq_true h1) (by simp) fun k hk => ?_
      obtain rfl : k = j := by simpa using hk
      cases g with
      | some g =>
        obtain ⟨gj, gb⟩ := g
        rw [ho, optL_some, EC_opg] at hE
        exact OpO_ofg k ho (GB_mono (fun v w' hh => ⟨hh.1, Ord_chainS S r _ _ _ h3 hh.2⟩) hE)
      | none =>
        rw [ho, optL_some, EC_op] at hE
        exact OpO_of k ho (Okv_mono (fun v w' hh => ⟨hh.1, Ord_chainS S r _ _ _ h3 hh.2⟩) hE)
theorem Raw_rcS (S : World → Prop) (is js : List Nat) {τ : Sl} {id : Nat} (hm : P.follows .mixedOrders = true) (hsz : ops.size = js.length + is.length) (hs : Region.noSelect ops = true) (hB : rdB n ops (Array.replicate (js.length + is.length) false) is = true)
    (hc : chG ops (markL (Array.replicate (js.length + is.length) false) is) js = true) (hQ : ∀ c σ w, ¬ Q (.panic c) σ w) (hS : S w.drew)
    (hv : ∀ w', S w' → V P n w' (opsL ops is) σ (fun σ' => σ' = τ)) (h : EC P n ops S (opsL ops js) τ w.drew (Q .normal)) : Raw P n (.region id ops true) Q σ w :=
  Raw_ord S _ hsz hm (Ord_reads is js.length rfl hs hB hQ hS hv (Ord_chainS S js _ _ _ hc h))
/-- A scope whose label stands behind three pieces of code. -/
theorem Raw_scope3 {x1 x2 x3 r : Code} (l : Nat) (J : Sl → World → Prop) (μ : Sl → World → Nat) (hf : findLabel (x1.seq (x2.seq (x3.seq ((Code.label l).seq r)))) l = some (Code.skip.seq r)) (hQ : ∀ l σ w, ¬ Q (.goto l) σ w)
    (first : W P n x1 (thenX (W P n x2 (thenX (W P n x3 (thenX J Q)) Q)) Q) σ w) (pass : ∀ σ w, J σ w → ∀ K : Sl → World → Prop, (∀ σ' w', J σ' w' → μ σ' w' < μ σ w → K σ' w') → W P n r (jumpX l K Q) σ w) :
    Raw P n (.scope (x1.seq (x2.seq (x3.seq ((Code.label l).seq r))))) Q σ w := by
  refine Raw_scope l J μ hf ?_ fun σ w hJ K hK => by rw [W_seq, W_skip, thenX_normal]; exact pass σ w hJ K hK
  have key : ∀ {x : Code} {K K' : Sl → World → Prop} {σ : Sl} {w : World}, (∀ σ w, K σ w → K' σ w) → W P n x (thenX K Q) σ w → W P n x (thenX K' (jumpX l J Q)) σ w := fun h hw => W_mono _ (fun e σ' w' hq => by
    cases e
    case normal => exact h _ _ hq
    case goto l' => exact absurd hq (hQ _ _ _)
    all_goals exact hq) hw
  rw [W_seq]
  refine key (fun σ w h => ?_) first
  rw [W_seq]
  refine key (fun σ w h => ?_) h
  rw [W_seq]
  refine key (fun σ w h => ?_) h
  rw [W_seq, W_label, thenX_normal]
  exact pass σ w h J fun _ _ h _ => h
end
end Go.Proofs.YtjaeiiiniohloaaDoor
