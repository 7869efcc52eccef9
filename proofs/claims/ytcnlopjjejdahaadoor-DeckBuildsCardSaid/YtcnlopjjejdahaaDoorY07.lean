/- Texts laid one behind the other: ScrV, ScrJ, Ord2, DhB, DkArgs, DgR, DlA, ScrK. Each says at its head what it proves. -/
import Derived.Test.YtcnlopjjejdahaaDoorY06
import Derived.Lib.AppendIntMem
set_option linter.unusedSimpArgs false
/- Plain: printed commands are parsed to the same commands. No program in sight. -/
namespace Go.Proofs.YtcnlopjjejdahaaDoor
def spB (l : List Nat) : Prop := l = [] ∨ ∃ r, l = 32 :: r
theorem tw_sp {t l : List Nat} (ht : ∀ c ∈ t, c ≠ 32) (hl : spB l) : (t ++ l).takeWhile notSp = t ∧ (t ++ l).dropWhile notSp = l := by
  have ha : ∀ c ∈ t, notSp c = true := fun c hc => by simp [notSp, ht c hc]
  rw [List.takeWhile_append_of_pos ha, List.dropWhile_append_of_pos ha]
  rcases hl with rfl | ⟨r, rfl⟩
  · simp
  · rw [List.takeWhile_cons_of_neg (by simp [notSp]), List.dropWhile_cons_of_neg (by simp [notSp])]; simp
theorem tw_nl {t l : List Nat} (ht : ∀ c ∈ t, c ≠ 10) : (t ++ 10 :: l).takeWhile notNl = t ∧ (t ++ 10 :: l).dropWhile notNl = 10 :: l := by
  have ha : ∀ c ∈ t, notNl c = true := fun c hc => by simp [notNl, ht c hc]
  rw [List.takeWhile_append_of_pos ha, List.dropWhile_append_of_pos ha, List.takeWhile_cons_of_neg (by simp [notNl]), List.dropWhile_cons_of_neg (by simp [notNl])]; simp
theorem tw_end {t : List Nat} (ht : ∀ c ∈ t, c ≠ 10) : t.takeWhile notNl = t ∧ t.dropWhile notNl = [] := by
  have ha : ∀ c ∈ t, notNl c = true := fun c hc => by simp [notNl, ht c hc]
  have h1 := List.takeWhile_append_of_pos (l₂ := []) ha
  have h2 := List.dropWhile_append_of_pos (l₂ := []) ha
  rw [List.append_nil] at h1 h2
  exact ⟨h1.trans (by simp), h2.trans (by simp)⟩
theorem cutS_tok {t l : List Nat} (ht : ∀ c ∈ t, c ≠ 32) (hl : spB l) : cutS (32 :: (t ++ l)) = some (t, l) := by
  unfold cutS
  simp only [if_true]
  rw [(tw_sp ht hl).1, (tw_sp ht hl).2]
theorem fmtI_nosp (n : Int) : ∀ c ∈ fmtI n, c ≠ 32 := fun c hc => by have := fmtI_all n c hc; omega
theorem hexT_nosp (k x : Nat) : ∀ c ∈ hexT k x, c ≠ 32 := fun c hc => by have := hexT_all k x c hc; omega
theorem word_bd {c : Nat} (h : wordB c = true) : (97 ≤ c ∧ c ≤ 122) ∨ (48 ≤ c ∧ c ≤ 57) ∨ c = 45 := by
  unfold wordB letterB digitB at h
  simp at h
  omega
theorem name_all {l : List Nat} (h : scNameB l = true) : ∀ c ∈ l, (97 ≤ c ∧ c ≤ 122) ∨ (48 ≤ c ∧ c ≤ 57) ∨ c = 45 := by
  unfold scNameB at h
  simp only [Bool.and_eq_true, List.all_eq_true] at h
  exact fun c hc => word_bd (h.2 c hc)
theorem name_nosp {l : List Nat} (h : scNameB l = true) : ∀ c ∈ l, c ≠ 32 := fun c hc => by have := name_all h c hc; omega
def numR (n : Int) : Prop := -9223372036854775808 ≤ n ∧ n ≤ 9223372036854775807
def spNums (l : List Int) : List Nat := l.flatMap fun n => 32 :: fmtI n
theorem spNums_sp : ∀ (l : List Int), spB (spNums l)
  | [] => .inl rfl
  | _ :: _ => .inr ⟨_, rfl⟩
theorem numsF_print : ∀ (l : List Int) (f : Nat) (count : Int) (done : Nat), (∀ n ∈ l, numR n) → l.length ≤ f → (count = -1 ∨ count = done + l.length) → numsF f count done (spNums l) = some (l, [])
  | [], f, count, done, _, _, hc => by
    unfold numsF
    rw [if_pos]
    · rfl
    · rcases hc with h | h
      · exact .inr ⟨h, rfl⟩
      · exact .inl (by simpa using h)
  | n :: l, 0, _, _, _, h, _ => by simp at h
  | n :: l, f + 1, count, done, hr, hf, hc => by
    unfold numsF
    have hs : spNums (n :: l) = 32 :: (fmtI n ++ spNums l) := rfl
    rw [List.length_cons] at hc hf
    rw [if_neg (by rintro (h | h); · rcases hc with hc | hc <;> omega
                   · rw [hs] at h; exact absurd h.2 (by simp))]
    simp only
    rw [hs, cutS_tok (fmtI_nosp n) (spNums_sp l)]
    have hn := hr n (by simp)
    simp only [numE_fmt hn.1 hn.2]
    rw [if_neg (by simp), numsF_print l f count (done + 1) (fun m hm => hr m (by simp [hm])) (by omega) (by omega)]
    rfl
theorem prF_sp (c : Cm) (x : Nat) : spB (prF c x) := by
  unfold prF
  repeat' split
  all_goals first | exact .inr ⟨_, rfl⟩ | exact spNums_sp _
theorem flat_sp (c : Cm) : ∀ (fl : List Nat), spB (fl.flatMap (prF c))
  | [] => .inl rfl
  | x :: fl => by
    rw [List.flatMap_cons]
    rcases prF_sp c x with h | ⟨r, h⟩
    · rw [h]; exact flat_sp c fl
    · rw [h]; exact .inr ⟨_, rfl⟩
/-- The last letter may be a text or numbers. -/
def okF : List Nat → Bool
  | [] => true
  | x :: fl => if x = 116 ∨ x = 108 then decide (fl = []) else [119, 97, 98, 110, 107, 111].contains x && okF fl
def setF (c c0 : Cm) (x : Nat) : Cm :=
  if x = 119 then { c0 with who := c.who } else if x = 97 then { c0 with a := c.a } else if x = 98 then { c0 with b := c.b }
  else if x = 110 then { c0 with name := c.name } else if x = 116 then { c0 with text := c.text } else if x = 107 then { c0 with key := c.key }
  else if x = 111 then { c0 with nonce := c.nonce } else { c0 with nums := c.nums }
theorem fieldS_print (c c0 : Cm) (hok : c.ok) (x : Nat) (hx : [119, 97, 98, 110, 107, 111].contains x = true) (hn : x = 110 → scNameB (bs c.name) = true) :
    ∃ t, prF c x = 32 :: t ∧ (∀ d ∈ t, d ≠ 32) ∧ fieldS c0 x t = some (setF c c0 x) := by
  obtain ⟨_, _, h1, h2, h3, _, h4, h5⟩ := hok
  simp only [List.contains_cons, List.contains_nil, Bool.or_false, Bool.or_eq_true, beq_iff_eq] at hx
  rcases hx with rfl | rfl | rfl | rfl | rfl | rfl
  · exact ⟨_, rfl, fmtI_nosp _, by unfold fieldS setF; simp [numE_fmt h1.1 h1.2]⟩
  · exact ⟨_, rfl, fmtI_nosp _, by unfold fieldS setF; simp [numE_fmt h2.1 h2.2]⟩
  · exact ⟨_, rfl, fmtI_nosp _, by unfold fieldS setF; simp [numE_fmt h3.1 h3.2]⟩
  · exact ⟨_, rfl, name_nosp (hn rfl), by unfold fieldS setF; simp [hn rfl, toBA_bs]⟩
  · exact ⟨_, rfl, hexT_nosp _ _, by unfold fieldS setF; simp [hexE_T (show c.key.toNat < 18446744073709551616 by omega), Int.toNat_of_nonneg h4.1]⟩
  · exact ⟨_, rfl, hexT_nosp _ _, by unfold fieldS setF; simp [hexE_T (show c.nonce.toNat < 18446744073709551616 by omega), Int.toNat_of_nonneg h5.1]⟩
theorem spNums_len (l : List Int) : l.length ≤ (spNums l).length := by
  induction l with
  | nil => simp [spNums]
  | cons n l ih =>
    unfold spNums at ih ⊢
    rw [List.flatMap_cons, List.length_append, List.length_cons, List.length_cons]
    omega
theorem fieldsS_print (c : Cm) (hok : c.ok) (nums : Int) (hn : nums = -1 ∨ nums = c.nums.length) : ∀ (fl : List Nat) (c0 : Cm), okF fl = true → (fl.contains 110 = true → scNameB (bs c.name) = true) →
    fieldsS nums c0 fl (fl.flatMap (prF c)) = some (fl.foldl (setF c) c0)
  | [], c0, _, _ => by simp [fieldsS]
  | x :: fl, c0, h, hnm => by
    unfold okF at h
    by_cases hx : x = 116 ∨ x = 108
    · rw [if_pos hx, decide_eq_true_eq] at h
      subst h
      rcases hx with rfl | rfl
      · have e : [116].flatMap (prF c) = 32 :: quoteL (bs c.text) := by simp [prF]
        rw [e]
        unfold fieldsS
        rw [if_pos rfl, textS_quote (bs_lt _)]
        simp [fieldsS, setF, toBA_bs]
      · have e : [108].flatMap (prF c) = spNums c.nums := by simp [prF, spNums]
        rw [e]
        unfold fieldsS
        have hl := spNums_len c.nums
        rw [if_neg (by decide), if_pos rfl, numsF_print c.nums _ nums 0 hok.2.2.2.2.2.1 (by omega) (by omega)]
        simp [fieldsS, setF]
    · rw [if_neg hx, Bool.and_eq_true] at h
      obtain ⟨t, h1, h2, h3⟩ := fieldS_print c c0 hok x h.1 (fun e => hnm (by simp [e]))
      rw [List.flatMap_cons, h1, List.cons_append]
      unfold fieldsS
      rw [if_neg (fun e => hx (.inl e)), if_neg (fun e => hx (.inr e)), cutS_tok h2 (flat_sp c fl)]
      simp only [h3]
      exact fieldsS_print c hok nums hn fl _ h.2 (fun e => hnm (by simp at e ⊢; exact .inr e))
theorem fm_mem {k : Int} {f : Fm} (h : fmOf k = some f) : f ∈ fmT ∧ f.kind = k := ⟨List.mem_of_find?_eq_some h, by have := List.find?_some h; simpa using this⟩
theorem fm_facts : ∀ f ∈ fmT, okF f.fields = true ∧ fmNamed f.word = some f ∧ (∀ c ∈ f.word, c ≠ 32 ∧ c ≠ 10) ∧ (f.fields.contains 108 = false → f.nums = 0) ∧ f.fields.length ≤ 5 ∧ f.word.length ≤ 8 ∧ 4 ≤ f.word.length := by decide
theorem idle_parts {fl : List Nat} {c : Cm} (h : idleB fl c = true) : (fl.contains 119 = true ∨ c.who = 0) ∧ (fl.contains 97 = true ∨ c.a = 0) ∧ (fl.contains 98 = true ∨ c.b = 0) ∧ (fl.contains 110 = true ∨ c.name = ByteArray.empty) ∧
    (fl.contains 116 = true ∨ c.text = ByteArray.empty) ∧ (fl.contains 107 = true ∨ c.key = 0) ∧ (fl.contains 111 = true ∨ c.nonce = 0) := by
  unfold idleB at h
  simp only [Bool.and_eq_true, Bool.or_eq_true, beq_iff_eq, decide_eq_true_eq] at h
  obtain ⟨⟨⟨⟨⟨⟨h1, h2⟩, h3⟩, h4⟩, h5⟩, h6⟩, h7⟩ := h
  exact ⟨h1, h2, h3, h4.imp id (fun e => bs_inj (by rw [e, bs_empty])), h5.imp id (fun e => bs_inj (by rw [e, bs_empty])), h6, h7⟩
theorem chk_parts {c : Cm} (h : chkE c = 0) : ∃ f, fmOf c.kind = some f ∧ 0 ≤ c.at_ ∧ c.at_ ≤ 1073741824 ∧ idleB f.fields c = true ∧ (f.nums = -1 ∨ f.nums = c.nums.length) ∧ (f.fields.contains 110 = true → scNameB (bs c.name) = true) ∧ c.text.size ≤ 32768 ∧ c.nums.length ≤ 256 := by
  unfold chkE at h
  cases hf : fmOf c.kind with
  | none => rw [hf] at h; simp at h
  | some f =>
    rw [hf] at h
    simp only at h
    refine ⟨f, rfl, ?_⟩
    split at h
    · exact absurd h (by decide)
    rename_i h1
    split at h
    · exact absurd h (by decide)
    rename_i h2
    split at h
    · exact absurd h (by decide)
    rename_i h3
    split at h
    · exact absurd h (by decide)
    rename_i h4
    rw [not_or] at h2
    refine ⟨by omega, by omega, by simpa using h2.1, by by_cases e : f.nums = -1 <;> omega, fun e => ?_, by omega, by omega⟩
    cases hn : scNameB (bs c.name) with
    | true => rfl
    | false => exact absurd ⟨e, hn⟩ h3
theorem fold_set {c : Cm} : ∀ f ∈ fmT, f.kind = c.kind → idleB f.fields c = true → (f.nums = -1 ∨ f.nums = c.nums.length) → f.fields.foldl (setF c) { Cm.zero with kind := f.kind, at_ := c.at_ } = c := by
  intro f hf hk hi hn
  obtain ⟨h1, h2, h3, h4, h5, h6, h7⟩ := idle_parts hi
  have h8 : f.fields.contains 108 = true ∨ c.nums = [] := by
    cases h : f.fields.contains 108 with
    | true => exact .inl rfl
    | false =>
      have := (fm_facts f hf).2.2.2.1 h
      exact .inr (List.length_eq_zero_iff.1 (by omega))
  obtain ⟨k, at_, who, a, b, name, text, nums, key, nonce⟩ := c
  simp only at *
  subst hk
  unfold fmT at hf
  simp only [List.mem_cons, List.not_mem_nil, or_false] at hf
  rcases hf with rfl | rfl | rfl | rfl | rfl | rfl | rfl | rfl | rfl | rfl | rfl | rfl | rfl | rfl | rfl | rfl | rfl | rfl | rfl | rfl
  all_goals
    simp [asc] at h1 h2 h3 h4 h5 h6 h7 h8
    simp [asc, setF, Cm.zero, *]
/-- The line of a command without its end. -/
def bodyL (c : Cm) (f : Fm) : List Nat := fmtI c.at_ ++ 32 :: (f.word ++ f.fields.flatMap (prF c))
theorem prL_body {c : Cm} {f : Fm} (h : fmOf c.kind = some f) : prL c = bodyL c f ++ [10] := by unfold prL bodyL; rw [h]; simp
theorem lineS_body {c : Cm} {f : Fm} (hok : c.ok) (hf : fmOf c.kind = some f) (h : chkE c = 0) : lineS (bodyL c f) = .ok c := by
  obtain ⟨f', hf', ha0, ha1, hi, hn, hnm, _, _⟩ := chk_parts h
  rw [hf] at hf'
  injection hf' with hf'
  subst hf'
  obtain ⟨hm, hk⟩ := fm_mem hf
  obtain ⟨g1, g2, g3, g4, _⟩ := fm_facts f hm
  have e1 := tw_sp (fmtI_nosp c.at_) (l := 32 :: (f.word ++ f.fields.flatMap (prF c))) (.inr ⟨_, rfl⟩)
  have e2 := tw_sp (t := f.word) (fun d hd => (g3 d hd).1) (flat_sp c f.fields)
  unfold lineS bodyL
  rw [e1.2, e1.1]
  simp only
  rw [e2.1, g2, e2.2]
  simp only
  rw [numE_fmt hok.2.1.1 hok.2.1.2]
  simp only
  rw [if_neg (by simp), fieldsS_print c hok f.nums hn f.fields _ g1 hnm]
  simp only
  rw [fold_set f hm hk hi hn, h]
  simp
theorem body_nonl {c : Cm} {f : Fm} (hf : fmOf c.kind = some f) (h : chkE c = 0) : ∀ d ∈ bodyL c f, d ≠ 10 := by
  obtain ⟨f', hf', ha0, ha1, hi, hn, hnm, _, _⟩ := chk_parts h
  rw [hf] at hf'
  injection hf' with hf'
  subst hf'
  obtain ⟨hm, hk⟩ := fm_mem hf
  obtain ⟨g1, g2, g3, g4, _⟩ := fm_facts f hm
  intro d hd
  unfold bodyL at hd
  have hF : ∀ n, ∀ x ∈ fmtI n, x ≠ 10 := fun n x hx => by have := fmtI_all n x hx; omega
  rw [List.mem_append, List.mem_cons, List.mem_append, List.mem_flatMap] at hd
  rcases hd with hd | rfl | hd | ⟨x, hx, hd⟩
  · exact hF _ d hd
  · decide
  · exact (g3 d hd).2
  · unfold prF at hd
    split at hd
    · rcases List.mem_cons.1 hd with rfl | hd
      · decide
      · exact hF _ d hd
    split at hd
    · rcases List.mem_cons.1 hd with rfl | hd
      · decide
      · exact hF _ d hd
    split at hd
    · rcases List.mem_cons.1 hd with rfl | hd
      · decide
      · exact hF _ d hd
    split at hd
    · rename_i e
      rcases List.mem_cons.1 hd with rfl | hd
      · decide
      · have := name_all (hnm (by rw [List.contains_iff_mem]; exact e ▸ hx)) d hd
        omega
    split at hd
    · rcases List.mem_cons.1 hd with rfl | hd
      · decide
      · have := quote_all (bs_lt _) d hd
        omega
    split at hd
    · rcases List.mem_cons.1 hd with rfl | hd
      · decide
      · have := hexT_all _ _ d hd
        omega
    split at hd
    · rcases List.mem_cons.1 hd with rfl | hd
      · decide
      · have := hexT_all _ _ d hd
        omega
    · obtain ⟨n, _, hd⟩ := List.mem_flatMap.1 hd
      rcases List.mem_cons.1 hd with rfl | hd
      · decide
      · exact hF _ d hd
theorem body_head (c : Cm) (f : Fm) : bodyL c f ≠ [] ∧ (bodyL c f).head? ≠ some 35 := by
  unfold bodyL
  cases hq : fmtI c.at_ with
  | nil => exact absurd hq (fmtI_ne _)
  | cons d r =>
    have := fmtI_all c.at_ d (by rw [hq]; simp)
    refine ⟨by simp, ?_⟩
    simp only [List.cons_append, List.head?_cons, ne_eq, Option.some.injEq]
    omega
theorem scrS_print : ∀ (L : List Cm) (cnt num : Nat), (∀ c ∈ L, c.ok ∧ chkE c = 0) → cnt + L.length ≤ 512 → scrS cnt num (L.flatMap prL) = .ok L
  | [], cnt, num, _, _ => by rw [List.flatMap_nil, scrS]; simp
  | c :: L, cnt, num, h, hc => by
    obtain ⟨hok, h0⟩ := h c (by simp)
    obtain ⟨f, hf, _⟩ := chk_parts h0
    rw [List.length_cons] at hc
    have e : (c :: L).flatMap prL = bodyL c f ++ 10 :: L.flatMap prL := by rw [List.flatMap_cons, prL_body hf]; simp
    obtain ⟨t1, t2⟩ := tw_nl (l := L.flatMap prL) (body_nonl hf h0)
    obtain ⟨b1, b2⟩ := body_head c f
    rw [e, scrS, dif_neg (by simp), t1, t2, if_neg (fun hh => hh.elim b1 b2), if_neg (by omega), lineS_body hok hf h0]
    simp only [List.drop_one, List.tail_cons]
    rw [scrS_print L (cnt + 1) (num + 1) (fun d hd => h d (by simp [hd])) (by omega)]
    rfl
end Go.Proofs.YtcnlopjjejdahaaDoor
/- Walks: num.Format. -/
namespace Go.Proofs.YtcnlopjjejdahaaDoor
open Go.RowKit
set_option maxRecDepth 100000
def fmtB (n : Int) : ByteArray := ⟨(Lib.itoa n).toArray⟩
theorem bs_fmtB (n : Int) : bs (fmtB n) = fmtI n := rfl
theorem format_any (n : Int) (w : World) (hL : Laid w) (hn : numR n) : Calls Tryd.prog 48 #[.int .i64 n] w fun e w' => e = .returned (.string (fmtB n)) ∧ Below w.heap.size w w' := by
  refine calls_W (l := [_]) Tryd.func48 rfl _ Tryd.ntmps48 (by simp) ?_
  simp +contextual (maxSteps := 2000000) (disch := (first | omega | (simp only [SZ]; done) | (simp only [SZ]; omega) | (simp only [TS] at *; omega))) only [RZ, gval, gslot, fillL, ovw, numb, catL, ldN, agL, okC, oneC, init, Nat.reduceAdd, Nat.reduceMul, Nat.reduceSub, Nat.reduceEqDiff, Nat.reduceLT, ↓reduceIte, Int.reduceToNat, Int.reduceAdd, Int.reduceSub, Int.reduceMul, Int.reduceLT, Int.reduceLE, Int.reduceEq, Nat.reduceLeDiff]
  refine (Tryd.strconv_Itoa n hn.1 hn.2 w hL.pow).mono ?_
  rintro e w1 ⟨rfl, k, os, rfl⟩
  refine ⟨_, rfl, ?_⟩
  simp +contextual (maxSteps := 2000000) (disch := (first | omega | (simp only [SZ]; done) | (simp only [SZ]; omega) | (simp only [TS] at *; omega))) only [RZ, gval, gslot, fillL, ovw, numb, catL, ldN, agL, okC, oneC, init, Nat.reduceAdd, Nat.reduceMul, Nat.reduceSub, Nat.reduceEqDiff, Nat.reduceLT, ↓reduceIte, Int.reduceToNat, Int.reduceAdd, Int.reduceSub, Int.reduceMul, Int.reduceLT, Int.reduceLE, Int.reduceEq, Nat.reduceLeDiff]
  exact ⟨rfl, Lib.below_grow _ w (Nat.le_refl _) k os⟩
end Go.Proofs.YtcnlopjjejdahaaDoor
/- Regions that draw their order: slot readers (in any world alike), and a chain behind them. -/
namespace Go.Proofs.YtcnlopjjejdahaaDoor
open Go.RowKit
section
variable {P : Program} {n : Nat} {ops : Array Oper} {Q : Exit → Sl → World → Prop} {σ : Sl} {w : World}
def chB (ops : Array Oper) : Array Bool → List Nat → Bool
  | L, [] => decide (Region.ready .any ops L = [])
  | L, j :: r => decide (Region.ready .any ops L = [j]) && (match ops[j]? with
    | some ⟨_, _, _, _, _, none⟩ => true
    | _ => false) && chB ops (L.setIfInBounds j true) r
theorem Ord_chain : ∀ (js : List Nat) (listed : Array Bool) (σ : Sl) (w : World), chB ops listed js = true → E P n ops (opsL ops js) σ w (Q .normal) → Ord P n ops Q (fun _ => True) js.length listed σ w
  | [], L, σ, w, h, hE => Ord_done (of_decide_eq_true h) hE
  | j :: r, L, σ, w, h, hE => by
    rw [chB, Bool.and_eq_true, Bool.and_eq_true] at h
    obtain ⟨⟨h1, h2⟩, h3⟩ := h
    rw [opsL_cons] at hE
    cases ho : ops[j]? with
    | none => rw [ho] at h2; cases h2
    | some o =>
      obtain ⟨d, op, ty, p, af, g⟩ := o
      rw [ho] at h2
      cases g with
      | some g => cases h2
      | none =>
        rw [ho, optL_some, E_op] at hE
        exact Ord_one j (of_decide_eq_true h1) ho (Okv_mono (fun v w' hh => ⟨trivial, Ord_chain r _ _ _ h3 hh⟩) hE)
/-- Readers of slots, then a chain. -/
theorem Raw_rc (is js : List Nat) {τ : Sl} {id : Nat} (hm : P.follows .mixedOrders = true) (hsz : ops.size = js.length + is.length) (hs : Region.noSelect ops = true) (hB : rdB n ops (Array.replicate (js.length + is.length) false) is = true)
    (hc : chB ops (markL (Array.replicate (js.length + is.length) false) is) js = true) (hQ : ∀ c σ w, ¬ Q (.panic c) σ w)
    (hv : ∀ w', V P n w' (opsL ops is) σ (fun σ' => σ' = τ)) (h : E P n ops (opsL ops js) τ w.drew (Q .normal)) : Raw P n (.region id ops true) Q σ w :=
  Raw_ord (fun _ => True) _ hsz hm (Ord_reads is js.length rfl hs hB hQ trivial (fun w' _ => hv w') (Ord_chain js _ _ _ hc h))
/-! The same where the readers read memory: S is what all worlds of the chain meet. Guarded operations may stand in the chain. -/
def chG (ops : Array Oper) : Array Bool → List Nat → Bool
  | L, [] => decide (Region.ready .any ops L = [])
  | L, j :: r => decide (Region.ready .any ops L = [j]) && (ops[j]?).isSome && chG ops (L.setIfInBounds j true) r
def EC (P : Program) (n : Nat) (ops : Array Oper) (S : World → Prop) : List Oper → Sl → World → (Sl → World → Prop) → Prop
  | [], σ, w, K => K σ w
  | ⟨d, op, ty, _, _, g⟩ :: r, σ, w, K => match g with
    | none => Okv P (fun v w' => S w' ∧ EC P n ops S r (put n σ d v) w' K) (run1 P op ty σ w)
    | some (j, b) => GB P (isB b (gval σ (gslot ops j))) (run1 P op ty σ w) (fun v w' => S w' ∧ EC P n ops S r (put n σ d v) w' K) w
theorem EC_nil (S : World → Prop) (σ : Sl) (w : World) (K : Sl → World → Prop) : EC P n ops S [] σ w K = K σ w := nr rfl
theorem EC_op (S : World → Prop) (d : Option Nat) (op : Op) (ty : TypeId) (p : String) (af : Array Edge) (r : List Oper) (σ : Sl) (w : World) (K : Sl → World → Prop) :
    EC P n ops S (⟨d, op, ty, p, af, none⟩ :: r) σ w K = Okv P (fun v w' => S w' ∧ EC P n ops S r (put n σ d v) w' K) (run1 P op ty σ w) := nr rfl
theorem EC_opg (S : World → Prop) (d : Option Nat) (op : Op) (ty : TypeId) (p : String) (af : Array Edge) (j : Nat) (b : Bool) (r : List Oper) (σ : Sl) (w : World) (K : Sl → World → Prop) :
    EC P n ops S (⟨d, op, ty, p, af, some (j, b)⟩ :: r) σ w K = GB P (isB b (gval σ (gslot ops j))) (run1 P op ty σ w) (fun v w' => S w' ∧ EC P n ops S r (put n σ d v) w' K) w := nr rfl
@[congr] theorem EC_congr {S : World → Prop} {l : List Oper} {σ σ' : Sl} {w w' : World} {K : Sl → World → Prop} (h : σ = σ') (h' : w = w') : EC P n ops S l σ w K = EC P n ops S l σ' w' K := by rw [h, h']
theorem OpO_ofg {S : World → Prop} {fuel : Nat} {listed : Array Bool} (i : Nat) {d : Option Nat} {op : Op} {ty : TypeId} {p : String} {af : Array Edge} {j : Nat} {b : Bool} (hi : ops[i]? = some ⟨d, op, ty, p, af, some (j, b)⟩)
    (h : GB P (isB b (gval σ (gslot ops j))) (run1 P op ty σ w) (fun v w' => S w' ∧ Ord P n ops Q S fuel (listed.setIfInBounds i true) (put n σ d v) w') w) : OpO P n ops Q S fuel listed σ w i := by
  intro a hfr
  unfold wpOp
  simp only [hi]
  rw [wanted_some hfr rfl]
  unfold GB at h
  split
  · rename_i hg
    rw [if_pos hg] at h
    exact .inl (Oper.wp_of_Okv hfr (o := ⟨d, op, ty, p, af, some (j, b)⟩) h fun v w' hE => ⟨hE.1, hE.2 _ (hfr.put d v)⟩)
  · rename_i hg
    rw [if_neg hg] at h
    exact ⟨h.1, h.2 _ (hfr.put d undef)⟩
theorem GB_mono {g : Bool} {R R' : Value → World → Prop} {r : Result Next} (h : ∀ v w, R v w → R' v w) (hr : GB P g r R w) : GB P g r R' w := by
  unfold GB at *
  split
  · rename_i hg
    rw [if_pos hg] at hr
    exact Okv_mono h hr
  · rename_i hg
    rw [if_neg hg] at hr
    exact h _ _ hr
theorem Ord_chainS (S : World → Prop) : ∀ (js : List Nat) (listed : Array Bool) (σ : Sl) (w : World), chG ops listed js = true → EC P n ops S (opsL ops js) σ w (Q .normal) → Ord P n ops Q S js.length listed σ w
  | [], L, σ, w, h, hE => Ord_done (of_decide_eq_true h) hE
  | j :: r, L, σ, w, h, hE => by
    rw [chG, Bool.and_eq_true, Bool.and_eq_true] at h
    obtain ⟨⟨h1, h2⟩, h3⟩ := h
    rw [opsL_cons] at hE
    cases ho : ops[j]? with
    | none => rw [ho] at h2; cases h2
    | some o =>
      obtain ⟨d, op, ty, p, af, g⟩ := o
      refine Ord_all [j] (of_decide_eq_true h1) (by simp) fun k hk => ?_
      obtain rfl : k = j := by simpa using hk
      cases g with
      | some g =>
        obtain ⟨gj, gb⟩ := g
        rw [ho, optL_some, EC_opg] at hE
        exact OpO_ofg k ho (GB_mono (fun v w' hh => ⟨hh.1, Ord_chainS S r _ _ _ h3 hh.2⟩) hE)
      | none =>
        rw [ho, optL_some, EC_op] at hE
        exact OpO_of k ho (Okv_mono (fun v w' hh => ⟨hh.1, Ord_chainS S r _ _ _ h3 hh.2⟩) hE)
theorem Raw_rcS (S : World → Prop) (is js : List Nat) {τ : Sl} {id : Nat} (hm : P.follows .mixedOrders = true) (hsz : ops.size = js.length + is.length) (hs : Region.noSelect ops = true) (hB : rdB n ops (Array.replicate (js.length + is.length) false) is = true)
    (hc : chG ops (markL (Array.replicate (js.length + is.length) false) is) js = true) (hQ : ∀ c σ w, ¬ Q (.panic c) σ w) (hS : S w.drew)
    (hv : ∀ w', S w' → V P n w' (opsL ops is) σ (fun σ' => σ' = τ)) (h : EC P n ops S (opsL ops js) τ w.drew (Q .normal)) : Raw P n (.region id ops true) Q σ w :=
  Raw_ord S _ hsz hm (Ord_reads is js.length rfl hs hB hQ hS hv (Ord_chainS S js _ _ _ hc h))
/-- A scope whose label stands behind three pieces of code. -/
theorem Raw_scope3 {x1 x2 x3 r : Code} (l : Nat) (J : Sl → World → Prop) (μ : Sl → World → Nat) (hf : findLabel (x1.seq (x2.seq (x3.seq ((Code.label l).seq r)))) l = some (Code.skip.seq r)) (hQ : ∀ l σ w, ¬ Q (.goto l) σ w)
    (first : W P n x1 (thenX (W P n x2 (thenX (W P n x3 (thenX J Q)) Q)) Q) σ w) (pass : ∀ σ w, J σ w → ∀ K : Sl → World → Prop, (∀ σ' w', J σ' w' → μ σ' w' < μ σ w → K σ' w') → W P n r (jumpX l K Q) σ w) :
    Raw P n (.scope (x1.seq (x2.seq (x3.seq ((Code.label l).seq r))))) Q σ w := by
  refine Raw_scope l J μ hf ?_ fun σ w hJ K hK => by rw [W_seq, W_skip, thenX_normal]; exact pass σ w hJ K hK
  have key : ∀ {x : Code} {K K' : Sl → World → Prop} {σ : Sl} {w : World}, (∀ σ w, K σ w → K' σ w) → W P n x (thenX K Q) σ w → W P n x (thenX K' (jumpX l J Q)) σ w := fun h hw => W_mono _ (fun e σ' w' hq => by
    cases e
    case normal => exact h _ _ hq
    case goto l' => exact absurd hq (hQ _ _ _)
    all_goals exact hq) hw
  rw [W_seq]
  refine key (fun σ w h => ?_) first
  rw [W_seq]
  refine key (fun σ w h => ?_) h
  rw [W_seq]
  refine key (fun σ w h => ?_) h
  rw [W_seq, W_label, thenX_normal]
  exact pass σ w h J fun _ _ h _ => h
end
end Go.Proofs.YtcnlopjjejdahaaDoor
/- Walks: deck.Print. -/
namespace Go.Proofs.YtcnlopjjejdahaaDoor
open Go.RowKit
set_option maxRecDepth 100000
def enc1 (n : Int) : List Value := [.int .i64 n]
theorem fitB_no {n : Int} (h : n < 0 ∨ 999999999999999999 < n) : fitB n = false := by
  unfold fitB
  simp only [Bool.and_eq_false_iff, decide_eq_false_iff_not]
  omega
theorem fitB_yes {n : Int} (h : ¬ n < 0 ∧ ¬ 999999999999999999 < n) : fitB n = true := by
  unfold fitB
  simp only [Bool.and_eq_true, decide_eq_true_eq]
  omega
theorem fits_any (A : Option Addr) (c : Nat) (L : List Int) (w : World) (hL : Arr w A 1 (L.map enc1)) (hl : L.length ≤ 1000) :
    Calls Tryd.prog 46 #[.slice A L.length c] w fun e w' => e = .returned (.bool (L.all fitB)) ∧ w' = w := by
  refine calls_W (l := [_]) Tryd.func46 rfl _ Tryd.ntmps46 (by simp) ?_
  simp +contextual (maxSteps := 2000000) (disch := (first | omega | (simp only [SZ]; done) | (simp only [SZ]; omega) | (simp only [TS] at *; omega))) only [RZ, gval, gslot, fillL, ovw, numb, catL, ldN, agL, okC, oneC, init, Nat.reduceAdd, Nat.reduceMul, Nat.reduceSub, Nat.reduceEqDiff, Nat.reduceLT, ↓reduceIte, Int.reduceToNat, Int.reduceAdd, Int.reduceSub, Int.reduceMul, Int.reduceLT, Int.reduceLE, Int.reduceEq, Nat.reduceLeDiff]
  refine Raw_loop (fun σ w2 => w2 = w ∧ ∃ k : Nat, k ≤ L.length ∧ (∀ x ∈ L.take k, fitB x = true) ∧ σ 5 = .slice A L.length c ∧ σ 6 = .int .i64 L.length ∧ σ 7 = .int .i64 k) (fun σ _ => L.length - (intOf (σ 7)).toNat) ?_ ?_
  · simp +contextual (maxSteps := 2000000) (disch := (first | omega | (simp only [SZ]; done) | (simp only [SZ]; omega) | (simp only [TS] at *; omega))) only [RZ, gval, gslot, fillL, ovw, numb, catL, ldN, agL, okC, oneC, init, Nat.reduceAdd, Nat.reduceMul, Nat.reduceSub, Nat.reduceEqDiff, Nat.reduceLT, ↓reduceIte, Int.reduceToNat, Int.reduceAdd, Int.reduceSub, Int.reduceMul, Int.reduceLT, Int.reduceLE, Int.reduceEq, Nat.reduceLeDiff]
    exact ⟨0, Nat.zero_le _, fun x h => by simp at h, rfl⟩
  rintro σ w2 ⟨rfl, k, hk, hx, f5, f6, f7⟩ K hK
  simp +contextual (maxSteps := 2000000) (disch := (first | omega | (simp only [SZ]; done) | (simp only [SZ]; omega) | (simp only [TS] at *; omega))) only [RZ, gval, gslot, fillL, ovw, numb, catL, ldN, agL, okC, oneC, init, Nat.reduceAdd, Nat.reduceMul, Nat.reduceSub, Nat.reduceEqDiff, Nat.reduceLT, ↓reduceIte, Int.reduceToNat, Int.reduceAdd, Int.reduceSub, Int.reduceMul, Int.reduceLT, Int.reduceLE, Int.reduceEq, Nat.reduceLeDiff,  f5, f6, f7]
  (refine W_if rfl (fun hc => ?_) (fun hc => ?_) <;> (try simp only [TS] at hc))
  · obtain ⟨v, hv⟩ : ∃ v, L[k]? = some v := ⟨_, List.getElem?_eq_getElem (by omega)⟩
    obtain ⟨b, o, rfl, hb, hcell⟩ := hL.at_ hv
    have l0 := hcell 0 _ rfl
    rw [Nat.add_zero] at l0
    rw [Nat.mul_one] at l0
    simp +contextual (maxSteps := 2000000) (disch := (first | omega | (simp only [SZ]; done) | (simp only [SZ]; omega) | (simp only [TS] at *; omega))) only [RZ, gval, gslot, fillL, ovw, numb, catL, ldN, agL, okC, oneC, init, Nat.reduceAdd, Nat.reduceMul, Nat.reduceSub, Nat.reduceEqDiff, Nat.reduceLT, ↓reduceIte, Int.reduceToNat, Int.reduceAdd, Int.reduceSub, Int.reduceMul, Int.reduceLT, Int.reduceLE, Int.reduceEq, Nat.reduceLeDiff,  f5, f6, f7, l0]
    (refine W_if rfl (fun hc => ?_) (fun hc => ?_) <;> (try simp only [TS] at hc))
    · simp +contextual (maxSteps := 2000000) (disch := (first | omega | (simp only [SZ]; done) | (simp only [SZ]; omega) | (simp only [TS] at *; omega))) only [RZ, gval, gslot, fillL, ovw, numb, catL, ldN, agL, okC, oneC, init, Nat.reduceAdd, Nat.reduceMul, Nat.reduceSub, Nat.reduceEqDiff, Nat.reduceLT, ↓reduceIte, Int.reduceToNat, Int.reduceAdd, Int.reduceSub, Int.reduceMul, Int.reduceLT, Int.reduceLE, Int.reduceEq, Nat.reduceLeDiff,  f5, f6, f7, l0]
      have := fitB_no hc
      congr 2
      rw [eq_comm, Bool.eq_false_iff]
      intro h
      rw [List.all_eq_true] at h
      rw [h v (List.mem_of_getElem? hv)] at this
      cases this
    · simp +contextual (maxSteps := 2000000) (disch := (first | omega | (simp only [SZ]; done) | (simp only [SZ]; omega) | (simp only [TS] at *; omega))) only [RZ, gval, gslot, fillL, ovw, numb, catL, ldN, agL, okC, oneC, init, Nat.reduceAdd, Nat.reduceMul, Nat.reduceSub, Nat.reduceEqDiff, Nat.reduceLT, ↓reduceIte, Int.reduceToNat, Int.reduceAdd, Int.reduceSub, Int.reduceMul, Int.reduceLT, Int.reduceLE, Int.reduceEq, Nat.reduceLeDiff,  f5, f6, f7, l0]
      refine hK _ _ ⟨rfl, k + 1, by omega, fun x h => ?_, ?_⟩ ?_
      · rw [List.take_add_one, hv, List.mem_append] at h
        rcases h with h | h
        · exact hx x h
        · obtain rfl : x = v := by simpa using h
          exact fitB_yes hc
      · simp +contextual (maxSteps := 2000000) (disch := (first | omega | (simp only [SZ]; done) | (simp only [SZ]; omega) | (simp only [TS] at *; omega))) only [RZ, gval, gslot, fillL, ovw, numb, catL, ldN, agL, okC, oneC, init, Nat.reduceAdd, Nat.reduceMul, Nat.reduceSub, Nat.reduceEqDiff, Nat.reduceLT, ↓reduceIte, Int.reduceToNat, Int.reduceAdd, Int.reduceSub, Int.reduceMul, Int.reduceLT, Int.reduceLE, Int.reduceEq, Nat.reduceLeDiff,  f5, f6, f7]
      · simp +contextual (maxSteps := 2000000) (disch := (first | omega | (simp only [SZ]; done) | (simp only [SZ]; omega) | (simp only [TS] at *; omega))) only [RZ, gval, gslot, fillL, ovw, numb, catL, ldN, agL, okC, oneC, init, Nat.reduceAdd, Nat.reduceMul, Nat.reduceSub, Nat.reduceEqDiff, Nat.reduceLT, ↓reduceIte, Int.reduceToNat, Int.reduceAdd, Int.reduceSub, Int.reduceMul, Int.reduceLT, Int.reduceLE, Int.reduceEq, Nat.reduceLeDiff,  intOf, f7]
        omega
  · have hk2 : k = L.length := by omega
    subst hk2
    rw [List.take_length] at hx
    simp +contextual (maxSteps := 2000000) (disch := (first | omega | (simp only [SZ]; done) | (simp only [SZ]; omega) | (simp only [TS] at *; omega))) only [RZ, gval, gslot, fillL, ovw, numb, catL, ldN, agL, okC, oneC, init, Nat.reduceAdd, Nat.reduceMul, Nat.reduceSub, Nat.reduceEqDiff, Nat.reduceLT, ↓reduceIte, Int.reduceToNat, Int.reduceAdd, Int.reduceSub, Int.reduceMul, Int.reduceLT, Int.reduceLE, Int.reduceEq, Nat.reduceLeDiff,  f5, f6, f7]
    congr 2
    rw [eq_comm, List.all_eq_true]
    exact hx
theorem Row.keeps {w w' : World} {g b : Nat} {T : TypeId} {cs : List Value} (h : Row w g T cs) (k : Keeps b w w') (hg : g ≠ b) (hT : T ≠ 5) : Row w' g T cs := by
  obtain ⟨cur, h1, h2⟩ := h
  exact ⟨cur, k g _ hg h1 (fun c f e => by injection e with _ e _; exact hT e), h2⟩
theorem three_arr (w : World) (a b d : Int) : Arr (w.alloc (.cells #[.int .i64 a, .int .i64 b, .int .i64 d] 3)) (some ⟨w.heap.size, 0, none⟩) 1 ([a, b, d].map enc1) ∧ Below w.heap.size w (w.alloc (.cells #[.int .i64 a, .int .i64 b, .int .i64 d] 3)) ∧ (w.alloc (.cells #[.int .i64 a, .int .i64 b, .int .i64 d] 3)).heap.size = w.heap.size + 1 := by
  obtain ⟨hq, hqs, hqB⟩ := new_block w #[Value.int .i64 a, .int .i64 b, .int .i64 d] 3
  refine ⟨fun _ => ⟨w.heap.size, 0, rfl, by omega, fun k l hl j u hu => ?_⟩, hqB, hqs⟩
  rw [hq]
  match k, hl with
  | 0, hl => simp [enc1] at hl; subst hl; cases j <;> simp at hu ⊢; exact hu
  | 1, hl => simp [enc1] at hl; subst hl; cases j <;> simp at hu ⊢; exact hu
  | 2, hl => simp [enc1] at hl; subst hl; cases j <;> simp at hu ⊢; exact hu
  | k + 3, hl => simp at hl
theorem print_any (p : Pl) (A : Option Addr) (c : Nat) (w : World) (hW : Laid w) (hs : p.name.size ≤ 100) (hl : p.levels.length ≤ 20) (hL : Arr w A 3 (p.levels.map encLvl)) (hr : (numR p.price ∧ numR p.packs ∧ numR p.size) ∧ ∀ v ∈ p.levels, numR v.prize ∧ numR v.count ∧ numR v.pack) :
    Calls Tryd.prog 20 #[planV p A c] w fun e w' => e = .returned (.string (toBA (printP p))) ∧ Below w.heap.size w w' := by
  unfold planV
  refine calls_W (l := [_]) Tryd.func20 rfl _ Tryd.ntmps20 (by simp) ?_
  have hw5 := hW.size
  obtain ⟨hp, hsz, hB⟩ := new_block w #[Value.string p.name, .int .i64 p.price, .int .i64 p.packs, .int .i64 p.size, .slice A p.levels.length c] 24
  have hp0 := hp 0
  have hp1 := hp 1
  have hp2 := hp 2
  have hp3 := hp 3
  have hp4 := hp 4
  simp only [List.getElem?_toArray, List.getElem?_cons_zero, List.getElem?_cons_succ] at hp0 hp1 hp2 hp3 hp4
  simp +contextual (maxSteps := 2000000) (disch := (first | omega | (simp only [SZ]; done) | (simp only [SZ]; omega) | (simp only [TS] at *; omega))) only [RZ, gval, gslot, fillL, ovw, numb, catL, ldN, agL, okC, oneC, init, Nat.reduceAdd, Nat.reduceMul, Nat.reduceSub, Nat.reduceEqDiff, Nat.reduceLT, ↓reduceIte, Int.reduceToNat, Int.reduceAdd, Int.reduceSub, Int.reduceMul, Int.reduceLT, Int.reduceLE, Int.reduceEq, Nat.reduceLeDiff]
  generalize w.alloc (.cells #[Value.string p.name, .int .i64 p.price, .int .i64 p.packs, .int .i64 p.size, .slice A p.levels.length c] 24) = w1 at *
  refine (name_any _ _ (by omega)).mono ?_
  rintro e w2 ⟨rfl, rfl⟩
  refine ⟨_, rfl, ?_⟩
  have hL1 := hL.below hB
  cases hn : nameB p.name with
  | false =>
    simp +contextual (maxSteps := 2000000) (disch := (first | omega | (simp only [SZ]; done) | (simp only [SZ]; omega) | (simp only [TS] at *; omega))) only [RZ, gval, gslot, fillL, ovw, numb, catL, ldN, agL, okC, oneC, init, Nat.reduceAdd, Nat.reduceMul, Nat.reduceSub, Nat.reduceEqDiff, Nat.reduceLT, ↓reduceIte, Int.reduceToNat, Int.reduceAdd, Int.reduceSub, Int.reduceMul, Int.reduceLT, Int.reduceLE, Int.reduceEq, Nat.reduceLeDiff]
    refine W_if_t rfl ?_
    simp +contextual (maxSteps := 2000000) (disch := (first | omega | (simp only [SZ]; done) | (simp only [SZ]; omega) | (simp only [TS] at *; omega))) only [RZ, gval, gslot, fillL, ovw, numb, catL, ldN, agL, okC, oneC, init, Nat.reduceAdd, Nat.reduceMul, Nat.reduceSub, Nat.reduceEqDiff, Nat.reduceLT, ↓reduceIte, Int.reduceToNat, Int.reduceAdd, Int.reduceSub, Int.reduceMul, Int.reduceLT, Int.reduceLE, Int.reduceEq, Nat.reduceLeDiff]
    unfold printP
    rw [hn]
    exact ⟨rfl, hB⟩
  | true =>
  obtain ⟨hA3, hqB, hqs⟩ := three_arr w1 p.price p.packs p.size
  simp +contextual (maxSteps := 2000000) (disch := (first | omega | (simp only [SZ]; done) | (simp only [SZ]; omega) | (simp only [TS] at *; omega))) only [RZ, gval, gslot, fillL, ovw, numb, catL, ldN, agL, okC, oneC, init, Nat.reduceAdd, Nat.reduceMul, Nat.reduceSub, Nat.reduceEqDiff, Nat.reduceLT, ↓reduceIte, Int.reduceToNat, Int.reduceAdd, Int.reduceSub, Int.reduceMul, Int.reduceLT, Int.reduceLE, Int.reduceEq, Nat.reduceLeDiff,  hp1, hp2, hp3]
  refine (fits_any (some ⟨w1.heap.size, 0, none⟩) 3 [p.price, p.packs, p.size] _ hA3 (by simp)).mono ?_
  rintro e w2 ⟨rfl, rfl⟩
  refine ⟨_, rfl, ?_⟩
  have hL2 := hL1.below hqB
  have hB2 := hB.trans (hqB.mono (by omega))
  have e0 := ((bcell hqB).1 w.heap.size 0 (by omega)).trans hp0
  have e1 := ((bcell hqB).1 w.heap.size 1 (by omega)).trans hp1
  have e2 := ((bcell hqB).1 w.heap.size 2 (by omega)).trans hp2
  have e3 := ((bcell hqB).1 w.heap.size 3 (by omega)).trans hp3
  have e4 := ((bcell hqB).1 w.heap.size 4 (by omega)).trans hp4
  have hz2 := hqB.size
  generalize w1.alloc (.cells #[Value.int .i64 p.price, .int .i64 p.packs, .int .i64 p.size] 3) = w2 at *
  have hfa : [p.price, p.packs, p.size].all fitB = (fitB p.price && fitB p.packs && fitB p.size) := by simp [Bool.and_assoc]
  rw [hfa]
  cases hf : (fitB p.price && fitB p.packs && fitB p.size) with
  | false =>
    simp +contextual (maxSteps := 2000000) (disch := (first | omega | (simp only [SZ]; done) | (simp only [SZ]; omega) | (simp only [TS] at *; omega))) only [RZ, gval, gslot, fillL, ovw, numb, catL, ldN, agL, okC, oneC, init, Nat.reduceAdd, Nat.reduceMul, Nat.reduceSub, Nat.reduceEqDiff, Nat.reduceLT, ↓reduceIte, Int.reduceToNat, Int.reduceAdd, Int.reduceSub, Int.reduceMul, Int.reduceLT, Int.reduceLE, Int.reduceEq, Nat.reduceLeDiff]
    refine W_if_t rfl ?_
    simp +contextual (maxSteps := 2000000) (disch := (first | omega | (simp only [SZ]; done) | (simp only [SZ]; omega) | (simp only [TS] at *; omega))) only [RZ, gval, gslot, fillL, ovw, numb, catL, ldN, agL, okC, oneC, init, Nat.reduceAdd, Nat.reduceMul, Nat.reduceSub, Nat.reduceEqDiff, Nat.reduceLT, ↓reduceIte, Int.reduceToNat, Int.reduceAdd, Int.reduceSub, Int.reduceMul, Int.reduceLT, Int.reduceLE, Int.reduceEq, Nat.reduceLeDiff]
    unfold printP
    rw [hn, hf]
    exact ⟨rfl, hB2⟩
  | true =>
  simp +contextual (maxSteps := 2000000) (disch := (first | omega | (simp only [SZ]; done) | (simp only [SZ]; omega) | (simp only [TS] at *; omega))) only [RZ, gval, gslot, fillL, ovw, numb, catL, ldN, agL, okC, oneC, init, Nat.reduceAdd, Nat.reduceMul, Nat.reduceSub, Nat.reduceEqDiff, Nat.reduceLT, ↓reduceIte, Int.reduceToNat, Int.reduceAdd, Int.reduceSub, Int.reduceMul, Int.reduceLT, Int.reduceLE, Int.reduceEq, Nat.reduceLeDiff]
  refine W_if_f rfl ?_
  have hff := hf
  simp only [Bool.and_eq_true] at hff
  have zn : ∀ n : Int, fitB n = true → (fmtB n).size ≤ 18 := fun n h => by rw [← bs_len, bs_fmtB]; exact fmt_len h
  have zp := zn _ hff.1.1
  have zk := zn _ hff.1.2
  have zs := zn _ hff.2
  have hb0 := BldIn.fresh w2
  have hF3 := hB2.alloc (by omega) (.cells #[.pointer none, .slice none 0 0] 79)
  have k0 := bcell (below_alloc w2 (.cells #[.pointer none, .slice none 0 0] 79))
  have e0 := (k0.1 w.heap.size 0 (by omega)).trans e0
  have e1 := (k0.1 w.heap.size 1 (by omega)).trans e1
  have e2 := (k0.1 w.heap.size 2 (by omega)).trans e2
  have e3 := (k0.1 w.heap.size 3 (by omega)).trans e3
  have e4 := (k0.1 w.heap.size 4 (by omega)).trans e4
  simp +contextual (maxSteps := 2000000) (disch := (first | omega | (simp only [SZ]; done) | (simp only [SZ]; omega) | (simp only [TS] at *; omega))) only [RZ, gval, gslot, fillL, ovw, numb, catL, ldN, agL, okC, oneC, init, Nat.reduceAdd, Nat.reduceMul, Nat.reduceSub, Nat.reduceEqDiff, Nat.reduceLT, ↓reduceIte, Int.reduceToNat, Int.reduceAdd, Int.reduceSub, Int.reduceMul, Int.reduceLT, Int.reduceLE, Int.reduceEq, Nat.reduceLeDiff,  e0]
  generalize w2.alloc (.cells #[.pointer none, .slice none 0 0] 79) = w3 at *
  generalize hb : w2.heap.size = b at *
  have hwb : w.heap.size < b := by omega
  have hJ3 : Below b w3 w3 := Below.refl _ _
  refine (hb0.write _ (by simp only [SZ]; omega)).mono ?_
  rintro e w4 ⟨rfl, hb1, hs4, _⟩
  refine ⟨_, rfl, ?_⟩
  have hF4 := hF3.trans (hs4.mono (by omega))
  have hb4 := hb1.lt
  have c1 := ((bcell hs4).1 w.heap.size 1 hwb).trans e1
  simp +contextual (maxSteps := 2000000) (disch := (first | omega | (simp only [SZ]; done) | (simp only [SZ]; omega) | (simp only [TS] at *; omega))) only [RZ, gval, gslot, fillL, ovw, numb, catL, ldN, agL, okC, oneC, init, Nat.reduceAdd, Nat.reduceMul, Nat.reduceSub, Nat.reduceEqDiff, Nat.reduceLT, ↓reduceIte, Int.reduceToNat, Int.reduceAdd, Int.reduceSub, Int.reduceMul, Int.reduceLT, Int.reduceLE, Int.reduceEq, Nat.reduceLeDiff,  c1]
  have hz4 := hF4.size
  refine (format_any p.price w4 (hW.below hF4 hw5) hr.1.1).mono ?_
  rintro e w5 ⟨rfl, hs5⟩
  refine ⟨_, rfl, ?_⟩
  have hb1 := hb1.below hs5
  have hF5 := hF4.trans (hs5.mono hz4)
  have hlt4 := hb1.lt
  simp +contextual (maxSteps := 2000000) (disch := (first | omega | (simp only [SZ]; done) | (simp only [SZ]; omega) | (simp only [TS] at *; omega))) only [RZ, gval, gslot, fillL, ovw, numb, catL, ldN, agL, okC, oneC, init, Nat.reduceAdd, Nat.reduceMul, Nat.reduceSub, Nat.reduceEqDiff, Nat.reduceLT, ↓reduceIte, Int.reduceToNat, Int.reduceAdd, Int.reduceSub, Int.reduceMul, Int.reduceLT, Int.reduceLE, Int.reduceEq, Nat.reduceLeDiff]
  refine (hb1.write _ (by simp only [List.length_append, bs_len, SZ]; omega)).mono ?_
  rintro e w6 ⟨rfl, hb2, hs6, _⟩
  refine ⟨_, rfl, ?_⟩
  have hF6 := hF5.trans (hs6.mono (by omega))
  simp +contextual (maxSteps := 2000000) (disch := (first | omega | (simp only [SZ]; done) | (simp only [SZ]; omega) | (simp only [TS] at *; omega))) only [RZ, gval, gslot, fillL, ovw, numb, catL, ldN, agL, okC, oneC, init, Nat.reduceAdd, Nat.reduceMul, Nat.reduceSub, Nat.reduceEqDiff, Nat.reduceLT, ↓reduceIte, Int.reduceToNat, Int.reduceAdd, Int.reduceSub, Int.reduceMul, Int.reduceLT, Int.reduceLE, Int.reduceEq, Nat.reduceLeDiff]
  have hz6 := hF6.size
  have hs36 : Below b w3 w6 := (hs4.trans (hs5.mono (by omega))).trans hs6
  have hz36 := hs36.size
  have ec : ∀ w', Below (w.heap.size + 1) w6 w' → ∀ o, w'.cell? ⟨w.heap.size, o, none⟩ = w3.cell? ⟨w.heap.size, o, none⟩ := fun w' h o => ((bcell h).1 w.heap.size o (by omega)).trans ((bcell hs36).1 w.heap.size o hwb)
  have hJ6 : Below (w.heap.size + 1) w6 w6.drew := ⟨rfl, rfl, rfl, Nat.le_refl _, fun _ _ => rfl⟩
  refine Raw_ord (fun w' => Below (w.heap.size + 1) w6 w') 11 rfl MX ?_
  refine Ord_reads (τ := ?ta) [0, 1, 5, 6] 7 rfl (by kernel_rfl) (by kernel_rfl) (fun _ _ _ h => h) hJ6 (fun w7 h7 => ?_) ?_; rotate_left
  · have c2 := (ec w7 h7 2).trans e2
    have c3 := (ec w7 h7 3).trans e3
    simp only [opsL_cons, opsL_nil, List.getElem?_toArray, List.getElem?_cons_zero, List.getElem?_cons_succ, optL_some]
    simp +contextual (maxSteps := 2000000) (disch := (first | omega | (simp only [SZ]; done) | (simp only [SZ]; omega) | (simp only [TS] at *; omega))) only [RZ, gval, gslot, fillL, ovw, numb, catL, ldN, agL, okC, oneC, init, Nat.reduceAdd, Nat.reduceMul, Nat.reduceSub, Nat.reduceEqDiff, Nat.reduceLT, ↓reduceIte, Int.reduceToNat, Int.reduceAdd, Int.reduceSub, Int.reduceMul, Int.reduceLT, Int.reduceLE, Int.reduceEq, Nat.reduceLeDiff,  c2, c3]
    exact rfl
  have hF6 : Below w.heap.size w w6.drew := hF6.trans ⟨rfl, rfl, rfl, Nat.le_refl _, fun _ _ => rfl⟩
  have hW6 : Laid w6.drew := hW.below hF6 hw5
  have hb2 : BldIn b w6.drew _ := hb2
  replace hz6 : w.heap.size ≤ w6.drew.heap.size := hz6
  have hzd : w6.drew.heap.size = w6.heap.size := rfl
  generalize w6.drew = w7 at *
  have hb7 := hb2.lt
  refine Ord_one 2 (by kernel_rfl) rfl ?_
  simp +contextual (maxSteps := 2000000) (disch := (first | omega | (simp only [SZ]; done) | (simp only [SZ]; omega) | (simp only [TS] at *; omega))) only [RZ, gval, gslot, fillL, ovw, numb, catL, ldN, agL, okC, oneC, init, Nat.reduceAdd, Nat.reduceMul, Nat.reduceSub, Nat.reduceEqDiff, Nat.reduceLT, ↓reduceIte, Int.reduceToNat, Int.reduceAdd, Int.reduceSub, Int.reduceMul, Int.reduceLT, Int.reduceLE, Int.reduceEq, Nat.reduceLeDiff]
  refine (format_any p.packs w7 hW6 hr.1.2.1).mono ?_
  rintro e w8 ⟨rfl, hs8⟩
  refine ⟨_, rfl, ?_⟩
  have hF8 := hF6.trans (hs8.mono hz6)
  have hJ8 := hJ6.trans (hs8.mono (by omega))
  have hb2 := hb2.below hs8
  have hz8 := hs8.size
  refine ⟨hJ8, ?_⟩
  refine Ord_reads (τ := ?tb) [3, 4] 4 rfl (by kernel_rfl) (by kernel_rfl) (fun _ _ _ h => h) hJ8 (fun w9 _ => ?_) ?_; rotate_left
  · simp only [opsL_cons, opsL_nil, List.getElem?_toArray, List.getElem?_cons_zero, List.getElem?_cons_succ, optL_some]
    simp +contextual (maxSteps := 2000000) (disch := (first | omega | (simp only [SZ]; done) | (simp only [SZ]; omega) | (simp only [TS] at *; omega))) only [RZ, gval, gslot, fillL, ovw, numb, catL, ldN, agL, okC, oneC, init, Nat.reduceAdd, Nat.reduceMul, Nat.reduceSub, Nat.reduceEqDiff, Nat.reduceLT, ↓reduceIte, Int.reduceToNat, Int.reduceAdd, Int.reduceSub, Int.reduceMul, Int.reduceLT, Int.reduceLE, Int.reduceEq, Nat.reduceLeDiff]
    exact rfl
  refine Ord_chainS _ [7, 8, 9, 10] _ _ _ (by kernel_rfl) ?_
  simp only [opsL_cons, opsL_nil, List.getElem?_toArray, List.getElem?_cons_zero, List.getElem?_cons_succ, optL_some]
  simp +contextual (maxSteps := 2000000) (disch := (first | omega | (simp only [SZ]; done) | (simp only [SZ]; omega) | (simp only [TS] at *; omega))) only [RZ, gval, gslot, fillL, ovw, numb, catL, ldN, agL, okC, oneC, init, Nat.reduceAdd, Nat.reduceMul, Nat.reduceSub, Nat.reduceEqDiff, Nat.reduceLT, ↓reduceIte, Int.reduceToNat, Int.reduceAdd, Int.reduceSub, Int.reduceMul, Int.reduceLT, Int.reduceLE, Int.reduceEq, Nat.reduceLeDiff,  EC_op, EC_nil]
  refine (format_any p.size w8 (hW.below hF8 hw5) hr.1.2.2).mono ?_
  rintro e w9 ⟨rfl, hs9⟩
  refine ⟨_, rfl, ?_⟩
  have hF9 := hF8.trans (hs9.mono (by omega))
  have hJ9 := hJ8.trans (hs9.mono (by omega))
  have hb2 := hb2.below hs9
  have hz9 := hs9.size
  refine ⟨hJ9, ?_⟩
  simp +contextual (maxSteps := 2000000) (disch := (first | omega | (simp only [SZ]; done) | (simp only [SZ]; omega) | (simp only [TS] at *; omega))) only [RZ, gval, gslot, fillL, ovw, numb, catL, ldN, agL, okC, oneC, init, Nat.reduceAdd, Nat.reduceMul, Nat.reduceSub, Nat.reduceEqDiff, Nat.reduceLT, ↓reduceIte, Int.reduceToNat, Int.reduceAdd, Int.reduceSub, Int.reduceMul, Int.reduceLT, Int.reduceLE, Int.reduceEq, Nat.reduceLeDiff,  EC_op, EC_nil, hJ9]
  refine (hb2.write _ (by simp only [List.length_append, bs_len, SZ]; omega)).mono ?_
  rintro e w10 ⟨rfl, hb3, hs10, _⟩
  refine ⟨_, rfl, ?_⟩
  have hF10 := hF9.trans (hs10.mono (by omega))
  have hJ10 := hJ9.trans (hs10.mono (by omega))
  have c4 := (ec w10 hJ10 4).trans e4
  refine ⟨hJ10, ?_⟩
  simp +contextual (maxSteps := 2000000) (disch := (first | omega | (simp only [SZ]; done) | (simp only [SZ]; omega) | (simp only [TS] at *; omega))) only [RZ, gval, gslot, fillL, ovw, numb, catL, ldN, agL, okC, oneC, init, Nat.reduceAdd, Nat.reduceMul, Nat.reduceSub, Nat.reduceEqDiff, Nat.reduceLT, ↓reduceIte, Int.reduceToNat, Int.reduceAdd, Int.reduceSub, Int.reduceMul, Int.reduceLT, Int.reduceLE, Int.reduceEq, Nat.reduceLeDiff,  EC_nil, c4]
  have hX : ([] ++ bs (⟨#[100, 101, 99, 107, 32]⟩ ++ p.name ++ ⟨#[32, 123, 10]⟩)) ++ bs (⟨#[112, 114, 105, 99, 101, 32]⟩ ++ fmtB p.price ++ ⟨#[59, 10]⟩) ++ bs (⟨#[112, 97, 99, 107, 115, 32]⟩ ++ fmtB p.packs ++ ⟨#[32, 111, 102, 32]⟩ ++ fmtB p.size ++ ⟨#[59, 10]⟩) = headT p := by
    have q1 : bs ⟨#[100, 101, 99, 107, 32]⟩ = asc "deck " := by kernel_rfl
    have q2 : bs ⟨#[32, 123, 10]⟩ = asc " {\n" := by kernel_rfl
    have q3 : bs ⟨#[112, 114, 105, 99, 101, 32]⟩ = asc "price " := by kernel_rfl
    have q4 : bs ⟨#[59, 10]⟩ = asc ";\n" := by kernel_rfl
    have q5 : bs ⟨#[112, 97, 99, 107, 115, 32]⟩ = asc "packs " := by kernel_rfl
    have q6 : bs ⟨#[32, 111, 102, 32]⟩ = asc " of " := by kernel_rfl
    unfold headT
    simp only [bs_append, q1, q2, q3, q4, q5, q6, bs_fmtB, List.nil_append, List.append_assoc]
  rw [hX] at hb3
  have hhl := headT_len (p := p) hf
  clear hX hb0 hb1 hb2
  refine Raw_loop (fun σ w' => ∃ k : Nat, k ≤ p.levels.length ∧ (p.levels.take k).all Lvl.fits = true ∧ BldIn b w' (headT p ++ (p.levels.take k).flatMap lvlT) ∧ Below w.heap.size w w' ∧ σ 3 = .func (.func 46) #[] #[] ∧ σ 4 = .pointer (some ⟨b, 0, none⟩) ∧ σ 46 = .slice A p.levels.length c ∧ σ 47 = .int .i64 p.levels.length ∧ σ 48 = .int .i64 k) (fun σ _ => p.levels.length - (intOf (σ 48)).toNat) ?_ ?_
  · simp +contextual (maxSteps := 2000000) (disch := (first | omega | (simp only [SZ]; done) | (simp only [SZ]; omega) | (simp only [TS] at *; omega))) only [RZ, gval, gslot, fillL, ovw, numb, catL, ldN, agL, okC, oneC, init, Nat.reduceAdd, Nat.reduceMul, Nat.reduceSub, Nat.reduceEqDiff, Nat.reduceLT, ↓reduceIte, Int.reduceToNat, Int.reduceAdd, Int.reduceSub, Int.reduceMul, Int.reduceLT, Int.reduceLE, Int.reduceEq, Nat.reduceLeDiff]
    exact ⟨0, Nat.zero_le _, rfl, by rw [List.take_zero, List.flatMap_nil, List.append_nil]; exact hb3, hF10, rfl⟩
  clear hb3
  rintro σ w11 ⟨k, hk, hall, hbl, hF11, f3, f4, f46, f47, f48⟩ K hK
  have hlt11 := hbl.lt
  have hz11 := hF11.size
  have hfl := lvlsT_len _ hall
  rw [List.length_take, Nat.min_eq_left hk] at hfl
  simp +contextual (maxSteps := 2000000) (disch := (first | omega | (simp only [SZ]; done) | (simp only [SZ]; omega) | (simp only [TS] at *; omega))) only [RZ, gval, gslot, fillL, ovw, numb, catL, ldN, agL, okC, oneC, init, Nat.reduceAdd, Nat.reduceMul, Nat.reduceSub, Nat.reduceEqDiff, Nat.reduceLT, ↓reduceIte, Int.reduceToNat, Int.reduceAdd, Int.reduceSub, Int.reduceMul, Int.reduceLT, Int.reduceLE, Int.reduceEq, Nat.reduceLeDiff,  f46, f47, f48]
  (refine W_if rfl (fun hc => ?_) (fun hc => ?_) <;> (try simp only [TS] at hc))
  · obtain ⟨v, hv⟩ : ∃ v, p.levels[k]? = some v := ⟨_, List.getElem?_eq_getElem (by omega)⟩
    have hrv := hr.2 v (List.mem_of_getElem? hv)
    obtain ⟨ba, o, rfl, hba, hcell⟩ := (hL.below hF11).at_ hv
    have l0 := hcell 0 _ rfl
    rw [Nat.add_zero] at l0
    have l1 := hcell 1 _ rfl
    have l2 := hcell 2 _ rfl
    simp +contextual (maxSteps := 2000000) (disch := (first | omega | (simp only [SZ]; done) | (simp only [SZ]; omega) | (simp only [TS] at *; omega))) only [RZ, gval, gslot, fillL, ovw, numb, catL, ldN, agL, okC, oneC, init, Nat.reduceAdd, Nat.reduceMul, Nat.reduceSub, Nat.reduceEqDiff, Nat.reduceLT, ↓reduceIte, Int.reduceToNat, Int.reduceAdd, Int.reduceSub, Int.reduceMul, Int.reduceLT, Int.reduceLE, Int.reduceEq, Nat.reduceLeDiff,  f3, f4, f46, f47, f48, l0, l1, l2]
    have hro : Row (w11.alloc (.cells #[.int .i64 v.prize, .int .i64 v.count, .int .i64 v.pack] 43)) w11.heap.size 43 (encLvl v) := Row.new _ _ _
    have hbl2 := hbl.below (below_alloc w11 (.cells #[.int .i64 v.prize, .int .i64 v.count, .int .i64 v.pack] 43))
    have hF12 := hF11.alloc (by omega) (.cells #[.int .i64 v.prize, .int .i64 v.count, .int .i64 v.pack] 43)
    have hz12 : (w11.alloc (.cells #[.int .i64 v.prize, .int .i64 v.count, .int .i64 v.pack] 43)).heap.size = w11.heap.size + 1 := World.size_alloc _ _
    generalize w11.alloc (.cells #[.int .i64 v.prize, .int .i64 v.count, .int .i64 v.pack] 43) = w12 at *
    obtain ⟨hA4, hq4, hz13⟩ := three_arr w12 v.prize v.count v.pack
    rw [hz12] at hA4
    refine (fits_any _ 3 [v.prize, v.count, v.pack] _ hA4 (by simp)).mono ?_
    rintro e w13 ⟨rfl, rfl⟩
    refine ⟨_, rfl, ?_⟩
    have hro := hro.below hq4
    have hbl2 := hbl2.below hq4
    have hF13 := hF12.trans (hq4.mono (by omega))
    rw [hz12] at hz13
    generalize w12.alloc (.cells #[.int .i64 v.prize, .int .i64 v.count, .int .i64 v.pack] 3) = w13 at *
    have hvf : [v.prize, v.count, v.pack].all fitB = v.fits := by simp [Lvl.fits, Bool.and_assoc]
    rw [hvf]
    cases hvv : v.fits with
    | false =>
      simp +contextual (maxSteps := 2000000) (disch := (first | omega | (simp only [SZ]; done) | (simp only [SZ]; omega) | (simp only [TS] at *; omega))) only [RZ, gval, gslot, fillL, ovw, numb, catL, ldN, agL, okC, oneC, init, Nat.reduceAdd, Nat.reduceMul, Nat.reduceSub, Nat.reduceEqDiff, Nat.reduceLT, ↓reduceIte, Int.reduceToNat, Int.reduceAdd, Int.reduceSub, Int.reduceMul, Int.reduceLT, Int.reduceLE, Int.reduceEq, Nat.reduceLeDiff]
      refine W_if_t rfl ?_
      simp +contextual (maxSteps := 2000000) (disch := (first | omega | (simp only [SZ]; done) | (simp only [SZ]; omega) | (simp only [TS] at *; omega))) only [RZ, gval, gslot, fillL, ovw, numb, catL, ldN, agL, okC, oneC, init, Nat.reduceAdd, Nat.reduceMul, Nat.reduceSub, Nat.reduceEqDiff, Nat.reduceLT, ↓reduceIte, Int.reduceToNat, Int.reduceAdd, Int.reduceSub, Int.reduceMul, Int.reduceLT, Int.reduceLE, Int.reduceEq, Nat.reduceLeDiff]
      have : p.levels.all Lvl.fits = false := by
        rw [Bool.eq_false_iff]
        intro h
        rw [List.all_eq_true] at h
        rw [h v (List.mem_of_getElem? hv)] at hvv
        cases hvv
      unfold printP
      rw [hn, hf, this]
      exact ⟨rfl, hF13⟩
    | true =>
    simp +contextual (maxSteps := 2000000) (disch := (first | omega | (simp only [SZ]; done) | (simp only [SZ]; omega) | (simp only [TS] at *; omega))) only [RZ, gval, gslot, fillL, ovw, numb, catL, ldN, agL, okC, oneC, init, Nat.reduceAdd, Nat.reduceMul, Nat.reduceSub, Nat.reduceEqDiff, Nat.reduceLT, ↓reduceIte, Int.reduceToNat, Int.reduceAdd, Int.reduceSub, Int.reduceMul, Int.reduceLT, Int.reduceLE, Int.reduceEq, Nat.reduceLeDiff]
    refine W_if_f rfl ?_
    have hvz := hvv
    unfold Lvl.fits at hvz
    simp only [Bool.and_eq_true] at hvz
    have y1 := zn _ hvz.1.1
    have y2 := zn _ hvz.1.2
    have y3 := zn _ hvz.2
    simp +contextual (maxSteps := 2000000) (disch := (first | omega | (simp only [SZ]; done) | (simp only [SZ]; omega) | (simp only [TS] at *; omega))) only [RZ, gval, gslot, fillL, ovw, numb, catL, ldN, agL, okC, oneC, init, Nat.reduceAdd, Nat.reduceMul, Nat.reduceSub, Nat.reduceEqDiff, Nat.reduceLT, ↓reduceIte, Int.reduceToNat, Int.reduceAdd, Int.reduceSub, Int.reduceMul, Int.reduceLT, Int.reduceLE, Int.reduceEq, Nat.reduceLeDiff]
    have hro : Row w13.drew w11.heap.size 43 (encLvl v) := hro
    have hF13 : Below w.heap.size w w13.drew := hF13.trans ⟨rfl, rfl, rfl, Nat.le_refl _, fun _ _ => rfl⟩
    have hbl2 : BldIn b w13.drew _ := hbl2
    replace hz13 : w13.drew.heap.size = w11.heap.size + 1 + 1 := hz13
    refine Raw_ord (fun w' => Row w' w11.heap.size 43 (encLvl v)) 16 rfl MX ?_
    generalize w13.drew = w14 at *
    refine Ord_reads (τ := ?tc) [0, 1, 5, 6, 10, 11] 10 rfl (by kernel_rfl) (by kernel_rfl) (fun _ _ _ h => h) hro (fun w15 h15 => ?_) ?_; rotate_left
    · have c0 := h15.cell (i := 0) rfl
      have c1 := h15.cell (i := 1) rfl
      have c2 := h15.cell (i := 2) rfl
      simp only [opsL_cons, opsL_nil, List.getElem?_toArray, List.getElem?_cons_zero, List.getElem?_cons_succ, optL_some]
      simp +contextual (maxSteps := 2000000) (disch := (first | omega | (simp only [SZ]; done) | (simp only [SZ]; omega) | (simp only [TS] at *; omega))) only [RZ, gval, gslot, fillL, ovw, numb, catL, ldN, agL, okC, oneC, init, Nat.reduceAdd, Nat.reduceMul, Nat.reduceSub, Nat.reduceEqDiff, Nat.reduceLT, ↓reduceIte, Int.reduceToNat, Int.reduceAdd, Int.reduceSub, Int.reduceMul, Int.reduceLT, Int.reduceLE, Int.reduceEq, Nat.reduceLeDiff,  c0, c1, c2]
      exact rfl
    refine Ord_one 2 (by kernel_rfl) rfl ?_
    simp +contextual (maxSteps := 2000000) (disch := (first | omega | (simp only [SZ]; done) | (simp only [SZ]; omega) | (simp only [TS] at *; omega))) only [RZ, gval, gslot, fillL, ovw, numb, catL, ldN, agL, okC, oneC, init, Nat.reduceAdd, Nat.reduceMul, Nat.reduceSub, Nat.reduceEqDiff, Nat.reduceLT, ↓reduceIte, Int.reduceToNat, Int.reduceAdd, Int.reduceSub, Int.reduceMul, Int.reduceLT, Int.reduceLE, Int.reduceEq, Nat.reduceLeDiff]
    refine (format_any v.prize w14 (hW.below hF13 hw5) hrv.1).mono ?_
    rintro e w15 ⟨rfl, hs15⟩
    refine ⟨_, rfl, ?_⟩
    have hF15 := hF13.trans (hs15.mono (by omega))
    have hro := hro.below hs15
    have hbl2 := hbl2.below hs15
    have hz15 := hs15.size
    refine ⟨hro, ?_⟩
    refine Ord_reads (τ := ?td) [3, 4] 7 rfl (by kernel_rfl) (by kernel_rfl) (fun _ _ _ h => h) hro (fun w16 _ => ?_) ?_; rotate_left
    · simp only [opsL_cons, opsL_nil, List.getElem?_toArray, List.getElem?_cons_zero, List.getElem?_cons_succ, optL_some]
      simp +contextual (maxSteps := 2000000) (disch := (first | omega | (simp only [SZ]; done) | (simp only [SZ]; omega) | (simp only [TS] at *; omega))) only [RZ, gval, gslot, fillL, ovw, numb, catL, ldN, agL, okC, oneC, init, Nat.reduceAdd, Nat.reduceMul, Nat.reduceSub, Nat.reduceEqDiff, Nat.reduceLT, ↓reduceIte, Int.reduceToNat, Int.reduceAdd, Int.reduceSub, Int.reduceMul, Int.reduceLT, Int.reduceLE, Int.reduceEq, Nat.reduceLeDiff]
      exact rfl
    refine Ord_one 7 (by kernel_rfl) rfl ?_
    simp +contextual (maxSteps := 2000000) (disch := (first | omega | (simp only [SZ]; done) | (simp only [SZ]; omega) | (simp only [TS] at *; omega))) only [RZ, gval, gslot, fillL, ovw, numb, catL, ldN, agL, okC, oneC, init, Nat.reduceAdd, Nat.reduceMul, Nat.reduceSub, Nat.reduceEqDiff, Nat.reduceLT, ↓reduceIte, Int.reduceToNat, Int.reduceAdd, Int.reduceSub, Int.reduceMul, Int.reduceLT, Int.reduceLE, Int.reduceEq, Nat.reduceLeDiff]
    refine (format_any v.count w15 (hW.below hF15 hw5) hrv.2.1).mono ?_
    rintro e w16 ⟨rfl, hs16⟩
    refine ⟨_, rfl, ?_⟩
    have hF16 := hF15.trans (hs16.mono (by omega))
    have hro := hro.below hs16
    have hbl2 := hbl2.below hs16
    have hz16 := hs16.size
    refine ⟨hro, ?_⟩
    refine Ord_reads (τ := ?te) [8, 9] 4 rfl (by kernel_rfl) (by kernel_rfl) (fun _ _ _ h => h) hro (fun w17 _ => ?_) ?_; rotate_left
    · simp only [opsL_cons, opsL_nil, List.getElem?_toArray, List.getElem?_cons_zero, List.getElem?_cons_succ, optL_some]
      simp +contextual (maxSteps := 2000000) (disch := (first | omega | (simp only [SZ]; done) | (simp only [SZ]; omega) | (simp only [TS] at *; omega))) only [RZ, gval, gslot, fillL, ovw, numb, catL, ldN, agL, okC, oneC, init, Nat.reduceAdd, Nat.reduceMul, Nat.reduceSub, Nat.reduceEqDiff, Nat.reduceLT, ↓reduceIte, Int.reduceToNat, Int.reduceAdd, Int.reduceSub, Int.reduceMul, Int.reduceLT, Int.reduceLE, Int.reduceEq, Nat.reduceLeDiff]
      exact rfl
    refine Ord_chainS _ [12, 13, 14, 15] _ _ _ (by kernel_rfl) ?_
    simp only [opsL_cons, opsL_nil, List.getElem?_toArray, List.getElem?_cons_zero, List.getElem?_cons_succ, optL_some]
    simp +contextual (maxSteps := 2000000) (disch := (first | omega | (simp only [SZ]; done) | (simp only [SZ]; omega) | (simp only [TS] at *; omega))) only [RZ, gval, gslot, fillL, ovw, numb, catL, ldN, agL, okC, oneC, init, Nat.reduceAdd, Nat.reduceMul, Nat.reduceSub, Nat.reduceEqDiff, Nat.reduceLT, ↓reduceIte, Int.reduceToNat, Int.reduceAdd, Int.reduceSub, Int.reduceMul, Int.reduceLT, Int.reduceLE, Int.reduceEq, Nat.reduceLeDiff,  EC_op, EC_nil]
    refine (format_any v.pack w16 (hW.below hF16 hw5) hrv.2.2).mono ?_
    rintro e w17 ⟨rfl, hs17⟩
    refine ⟨_, rfl, ?_⟩
    have hF17 := hF16.trans (hs17.mono (by omega))
    have hro := hro.below hs17
    have hbl2 := hbl2.below hs17
    have hz17 := hs17.size
    refine ⟨hro, ?_⟩
    simp +contextual (maxSteps := 2000000) (disch := (first | omega | (simp only [SZ]; done) | (simp only [SZ]; omega) | (simp only [TS] at *; omega))) only [RZ, gval, gslot, fillL, ovw, numb, catL, ldN, agL, okC, oneC, init, Nat.reduceAdd, Nat.reduceMul, Nat.reduceSub, Nat.reduceEqDiff, Nat.reduceLT, ↓reduceIte, Int.reduceToNat, Int.reduceAdd, Int.reduceSub, Int.reduceMul, Int.reduceLT, Int.reduceLE, Int.reduceEq, Nat.reduceLeDiff,  EC_op, EC_nil, hro, f4]
    refine (hbl2.write _ (by simp only [List.length_append, SZ]; omega)).mono ?_
    rintro e w18 ⟨rfl, hbl3, hs18, hk18⟩
    refine ⟨_, rfl, ?_⟩
    have hF18 := hF17.trans (hs18.mono (by omega))
    refine ⟨hro.keeps hk18 (by omega) (by decide), ?_⟩
    simp +contextual (maxSteps := 2000000) (disch := (first | omega | (simp only [SZ]; done) | (simp only [SZ]; omega) | (simp only [TS] at *; omega))) only [RZ, gval, gslot, fillL, ovw, numb, catL, ldN, agL, okC, oneC, init, Nat.reduceAdd, Nat.reduceMul, Nat.reduceSub, Nat.reduceEqDiff, Nat.reduceLT, ↓reduceIte, Int.reduceToNat, Int.reduceAdd, Int.reduceSub, Int.reduceMul, Int.reduceLT, Int.reduceLE, Int.reduceEq, Nat.reduceLeDiff,  EC_nil, f3, f4, f46, f47, f48]
    have hX : (headT p ++ (p.levels.take k).flatMap lvlT) ++ bs (⟨#[112, 114, 105, 122, 101, 32]⟩ ++ fmtB v.prize ++ ⟨#[32, 99, 111, 117, 110, 116, 32]⟩ ++ fmtB v.count ++ ⟨#[32, 112, 97, 99, 107, 32]⟩ ++ fmtB v.pack ++ ⟨#[59, 10]⟩) = headT p ++ (p.levels.take (k + 1)).flatMap lvlT := by
      have q1 : bs ⟨#[112, 114, 105, 122, 101, 32]⟩ = asc "prize " := by kernel_rfl
      have q2 : bs ⟨#[32, 99, 111, 117, 110, 116, 32]⟩ = asc " count " := by kernel_rfl
      have q3 : bs ⟨#[32, 112, 97, 99, 107, 32]⟩ = asc " pack " := by kernel_rfl
      have q4 : bs ⟨#[59, 10]⟩ = asc ";\n" := by kernel_rfl
      rw [List.take_add_one, hv, Option.toList_some, List.flatMap_append, List.flatMap_cons, List.flatMap_nil]
      unfold lvlT
      simp only [bs_append, q1, q2, q3, q4, bs_fmtB, List.append_assoc, List.append_nil]
    rw [hX] at hbl3
    refine hK _ _ ⟨k + 1, by omega, ?_, hbl3, hF18, ?_⟩ ?_
    · rw [List.take_add_one, hv, Option.toList_some, List.all_append, hall]
      simp [hvv]
    · simp +contextual (maxSteps := 2000000) (disch := (first | omega | (simp only [SZ]; done) | (simp only [SZ]; omega) | (simp only [TS] at *; omega))) only [RZ, gval, gslot, fillL, ovw, numb, catL, ldN, agL, okC, oneC, init, Nat.reduceAdd, Nat.reduceMul, Nat.reduceSub, Nat.reduceEqDiff, Nat.reduceLT, ↓reduceIte, Int.reduceToNat, Int.reduceAdd, Int.reduceSub, Int.reduceMul, Int.reduceLT, Int.reduceLE, Int.reduceEq, Nat.reduceLeDiff,  f3, f4, f46, f47, f48]
    · simp +contextual (maxSteps := 2000000) (disch := (first | omega | (simp only [SZ]; done) | (simp only [SZ]; omega) | (simp only [TS] at *; omega))) only [RZ, gval, gslot, fillL, ovw, numb, catL, ldN, agL, okC, oneC, init, Nat.reduceAdd, Nat.reduceMul, Nat.reduceSub, Nat.reduceEqDiff, Nat.reduceLT, ↓reduceIte, Int.reduceToNat, Int.reduceAdd, Int.reduceSub, Int.reduceMul, Int.reduceLT, Int.reduceLE, Int.reduceEq, Nat.reduceLeDiff,  intOf, f48]
      omega
  · have hk2 : k = p.levels.length := by omega
    subst hk2
    rw [List.take_length] at hall hbl hfl
    simp +contextual (maxSteps := 2000000) (disch := (first | omega | (simp only [SZ]; done) | (simp only [SZ]; omega) | (simp only [TS] at *; omega))) only [RZ, gval, gslot, fillL, ovw, numb, catL, ldN, agL, okC, oneC, init, Nat.reduceAdd, Nat.reduceMul, Nat.reduceSub, Nat.reduceEqDiff, Nat.reduceLT, ↓reduceIte, Int.reduceToNat, Int.reduceAdd, Int.reduceSub, Int.reduceMul, Int.reduceLT, Int.reduceLE, Int.reduceEq, Nat.reduceLeDiff,  f3, f4, f46, f47, f48]
    refine (hbl.write _ (by simp only [List.length_append, SZ]; omega)).mono ?_
    rintro e w12 ⟨rfl, hbl2, hs12, _⟩
    refine ⟨_, rfl, ?_⟩
    have hF12 := hF11.trans (hs12.mono (by omega))
    simp +contextual (maxSteps := 2000000) (disch := (first | omega | (simp only [SZ]; done) | (simp only [SZ]; omega) | (simp only [TS] at *; omega))) only [RZ, gval, gslot, fillL, ovw, numb, catL, ldN, agL, okC, oneC, init, Nat.reduceAdd, Nat.reduceMul, Nat.reduceSub, Nat.reduceEqDiff, Nat.reduceLT, ↓reduceIte, Int.reduceToNat, Int.reduceAdd, Int.reduceSub, Int.reduceMul, Int.reduceLT, Int.reduceLE, Int.reduceEq, Nat.reduceLeDiff]
    refine hbl2.str.mono ?_
    rintro e w13 ⟨rfl, hs13⟩
    refine ⟨_, rfl, ?_⟩
    simp +contextual (maxSteps := 2000000) (disch := (first | omega | (simp only [SZ]; done) | (simp only [SZ]; omega) | (simp only [TS] at *; omega))) only [RZ, gval, gslot, fillL, ovw, numb, catL, ldN, agL, okC, oneC, init, Nat.reduceAdd, Nat.reduceMul, Nat.reduceSub, Nat.reduceEqDiff, Nat.reduceLT, ↓reduceIte, Int.reduceToNat, Int.reduceAdd, Int.reduceSub, Int.reduceMul, Int.reduceLT, Int.reduceLE, Int.reduceEq, Nat.reduceLeDiff]
    refine ⟨?_, hF12.trans (hs13.mono (by omega))⟩
    have q : bs ⟨#[125, 10]⟩ = asc "}\n" := by kernel_rfl
    unfold printP
    rw [hn, hf, hall, q]
    rfl
end Go.Proofs.YtcnlopjjejdahaaDoor
/- Arguments of chapter 41: a plan. -/
namespace Go.Proofs.YtcnlopjjejdahaaDoor
open Go.ChangeShapes Go.WideShapes Go.ChangeAt Go.RowKit Go.Joins Go.Deep
set_option maxRecDepth 100000
theorem u64_wf {n : Int} (h : (Lit.int .u64 n).wf = true) : 0 ≤ n ∧ n ≤ 18446744073709551615 := by
  have e1 : IntKind.u64.min = 0 := by decide
  have e2 : IntKind.u64.max = 18446744073709551615 := by decide
  simp only [Lit.wf, Bool.and_eq_true, decide_eq_true_eq, e1, e2] at h
  exact h
theorem i64_wf {n : Int} (h : (Lit.int .i64 n).wf = true) : -9223372036854775808 ≤ n ∧ n ≤ 9223372036854775807 := by
  have e1 : IntKind.i64.min = -9223372036854775808 := by decide
  have e2 : IntKind.i64.max = 9223372036854775807 := by decide
  simp only [Lit.wf, Bool.and_eq_true, decide_eq_true_eq, e1, e2] at h
  exact h
theorem list_of {α : Type} {P : Nat → α → Prop} : ∀ n, (∀ i, i < n → ∃ x, P i x) → ∃ L : List α, L.length = n ∧ ∀ i x, L[i]? = some x → P i x
  | 0, _ => ⟨[], rfl, fun i x h => by simp at h⟩
  | n + 1, h => by
    obtain ⟨L, h1, h2⟩ := list_of n fun i hi => h i (by omega)
    obtain ⟨x, hx⟩ := h n (by omega)
    refine ⟨L ++ [x], by simp [h1], fun i y hy => ?_⟩
    by_cases hi : i < n
    · rw [List.getElem?_append_left (by omega)] at hy; exact h2 i y hy
    · rw [List.getElem?_append_right (by omega)] at hy
      have : i - L.length = 0 := by have := (List.getElem?_eq_some_iff.1 hy).1; simp at this; omega
      rw [this] at hy
      simp only [List.getElem?_cons_zero, Option.some.injEq] at hy
      subst hy
      have : i = n := by omega
      subst this; exact hx
theorem arr_of {α : Type} {enc : α → List Value} {sz n : Nat} {W : World} {a : Addr} (Q : α → Prop) (hne : ∀ x, ∃ v, (enc x)[0]? = some v) (h : ∀ i, i < n → ∃ x : α, Q x ∧ ∀ j v, (enc x)[j]? = some v → W.cell? (a.add (i * sz + j)) = some v) :
    ∃ L : List α, L.length = n ∧ Arr W (some a) sz (L.map enc) ∧ ∀ x ∈ L, Q x := by
  obtain ⟨L, h1, h2⟩ := list_of n h
  refine ⟨L, h1, fun hpos => ?_, fun x hx => by obtain ⟨i, hi⟩ := List.mem_iff_getElem?.1 hx; exact (h2 i x hi).1⟩
  rw [List.length_map] at hpos
  obtain ⟨b, o, s⟩ := a
  obtain ⟨x, hx⟩ : ∃ x, L[0]? = some x := ⟨_, List.getElem?_eq_getElem hpos⟩
  obtain ⟨v, hv⟩ := hne x
  have hc := (h2 0 x hx).2 0 v hv
  rw [Nat.zero_mul, Nat.add_zero] at hc
  cases s with
  | some s =>
    have e : Addr.add ⟨b, o, some s⟩ 0 = ⟨b, o, some s⟩ := if_pos rfl
    rw [e] at hc
    simp only [World.cell?] at hc
    split at hc <;> simp at hc
  | none =>
    rw [addr_add, Nat.add_zero] at hc
    refine ⟨b, o, rfl, ?_, fun i l hl j u hu => ?_⟩
    · simp only [World.cell?] at hc
      cases hb : W.heap[b]? with
      | none => rw [hb] at hc; cases hc
      | some ob => exact (Array.getElem?_eq_some_iff.1 hb).1
    · rw [List.getElem?_map] at hl
      cases hy : L[i]? with
      | none => rw [hy] at hl; cases hl
      | some y =>
        rw [hy] at hl
        simp only [Option.map_some, Option.some.injEq] at hl
        subst hl
        have := (h2 i y hy).2 j u hu
        rw [addr_add] at this
        rw [Nat.add_assoc]; exact this
/-- What every plan that comes as an argument meets. -/
def planWf (p : Pl) : Prop := p.name.size ≤ 9223372036854775807 ∧ p.levels.length ≤ 9223372036854775807 ∧ (numR p.price ∧ numR p.packs ∧ numR p.size) ∧ ∀ v ∈ p.levels, numR v.prize ∧ numR v.count ∧ numR v.pack
section
variable {H : Type} {enc : TypeId × Value → H} {W : World} {base n : Nat} {sp : Nat → Bool} {held : Bool}
theorem open_levels {cs : List Value} {y : DataW H × List MemPlace} (h : DataW.trod enc Tryd.prog W base sp held n 22 cs = some y) :
    ∃ (A : Option Addr) (c : Nat) (L : List Lvl), cs = [.slice A L.length c] ∧ Arr W A 3 (L.map encLvl) ∧ L.length ≤ maxLen ∧ ∀ v ∈ L, numR v.prize ∧ numR v.count ∧ numR v.pack := by
  rcases open_slice_fields Tryd.underlying22 Tryd.underlying43 (by kernel_rfl) (by kernel_rfl) h with ⟨rfl, _⟩ | ⟨a, len, cap, m, D, Pl, rfl, _, hl, hc, hm, _, hi⟩
  · exact ⟨none, 0, [], rfl, fun h => by simp at h, by simp, fun v h => by cases h⟩
  · obtain ⟨L, h1, h2, h3⟩ := arr_of (enc := encLvl) (sz := 3) (n := len) (W := W) (a := a) (fun v => numR v.prize ∧ numR v.count ∧ numR v.pack) (fun x => ⟨_, rfl⟩) fun i him => by
      obtain ⟨ys, k, _, _, _, hf⟩ := hi i (by rw [hm]; split <;> omega)
      obtain ⟨v0, y0, c0, _, t0⟩ := hf 0 _ rfl
      obtain ⟨v1, y1, c1, _, t1⟩ := hf 1 _ rfl
      obtain ⟨v2, y2, c2, _, t2⟩ := hf 2 _ rfl
      obtain ⟨a0, e0, _, w0⟩ := DataW.trod_int Tryd.underlying3 t0
      obtain ⟨a1, e1, _, w1⟩ := DataW.trod_int Tryd.underlying3 t1
      obtain ⟨a2, e2, _, w2⟩ := DataW.trod_int Tryd.underlying3 t2
      simp only [List.cons.injEq, and_true] at e0 e1 e2
      subst e0 e1 e2
      refine ⟨⟨a0, a1, a2⟩, ⟨i64_wf w0, i64_wf w1, i64_wf w2⟩, fun j v hv => ?_⟩
      match j, hv with
      | 0, hv => simp only [encLvl, List.getElem?_cons_zero, Option.some.injEq] at hv; subst hv; exact c0
      | 1, hv => simp only [encLvl, List.getElem?_cons_succ, List.getElem?_cons_zero, Option.some.injEq] at hv; subst hv; exact c1
      | 2, hv => simp only [encLvl, List.getElem?_cons_succ, List.getElem?_cons_zero, Option.some.injEq] at hv; subst hv; exact c2
      | j + 3, hv => simp [encLvl] at hv
    exact ⟨some a, cap, L, by rw [h1], h2, by omega, h3⟩
theorem open_plan {r : Reach} {b0 : Nat} {v : Value} {d : DataW H} {p : List MemPlace} (hv : Value.okWide Tryd.prog W r b0 24 v) (h : DataW.Trod enc Tryd.prog W base sp held 24 v d p) :
    ∃ (q : Pl) (A : Option Addr) (c : Nat), v = planV q A c ∧ Arr W A 3 (q.levels.map encLvl) ∧ planWf q := by
  obtain ⟨c0, c1, c2, c3, c4, y0, y1, y2, y3, y4, n, rfl, rfl, rfl, t0, t1, t2, t3, t4⟩ := open_agg5 Tryd.underlying24 (by kernel_rfl) (by kernel_rfl) hv h
  obtain ⟨name, e0, _, hname⟩ := DataW.trod_string Tryd.underlying9 t0
  obtain ⟨price, e1, _, w1⟩ := DataW.trod_int Tryd.underlying3 t1
  obtain ⟨P, e2, _, w2⟩ := DataW.trod_int Tryd.underlying3 t2
  obtain ⟨S, e3, _, w3⟩ := DataW.trod_int Tryd.underlying3 t3
  obtain ⟨A, c, L, e4, hL, hLn, hq⟩ := open_levels t4
  simp only [List.cons.injEq, and_true] at e0 e1 e2 e3 e4
  subst e0 e1 e2 e3 e4
  unfold maxLen at hname hLn
  exact ⟨⟨name, price, P, S, L⟩, A, c, rfl, hL, hname, by omega, ⟨i64_wf w1, i64_wf w2, i64_wf w3⟩, hq⟩
end
end Go.Proofs.YtcnlopjjejdahaaDoor
/- The engine's rules for unsigned integers that wrap, and for exclusive or. -/
namespace Go.Proofs.YtcnlopjjejdahaaDoor
open Go.RowKit
section
variable {P : Program} {T : TypeId} {w : World} {x y : Operand} {a b : Int}
theorem wrap_u64m (n : Int) : IntKind.u64.wrap n = n % 18446744073709551616 := by
  unfold IntKind.wrap
  rw [show IntKind.u64.signed = false from rfl, show ((2 : Int) ^ IntKind.u64.bits) = 18446744073709551616 by decide]
  simp
theorem vBin_addW : vBin P .add T x y (.int .u64 a) (.int .u64 b) w = .ok (.value (.int .u64 ((a + b) % 18446744073709551616))) w := by
  simp [vBin, eqGuard, binOp, Op.intArith, wrap_u64m]
theorem vBin_subW : vBin P .sub T x y (.int .u64 a) (.int .u64 b) w = .ok (.value (.int .u64 ((a - b) % 18446744073709551616))) w := by
  simp [vBin, eqGuard, binOp, Op.intArith, wrap_u64m]
theorem vBin_mulW : vBin P .mul T x y (.int .u64 a) (.int .u64 b) w = .ok (.value (.int .u64 ((a * b) % 18446744073709551616))) w := by
  simp [vBin, eqGuard, binOp, Op.intArith, wrap_u64m]
theorem vUn_negW : vUn P .neg (.int .u64 a) w = .ok (.value (.int .u64 ((-a) % 18446744073709551616))) w := by
  simp [vUn, Op.unary, Op.intArith, wrap_u64m]
theorem xorI_nonneg (a b : Int) : 0 ≤ xorI a b := Int.natCast_nonneg _
theorem xorI_lt {k : Nat} (ha : a < 2 ^ k) (hb : b < 2 ^ k) : xorI a b < 2 ^ k := by
  have h1 : a.toNat < 2 ^ k := by
    rw [Int.toNat_lt' (by have := Nat.pow_pos (n := k) (show 0 < 2 by decide); omega)]
    simpa using ha
  have h2 : b.toNat < 2 ^ k := by
    rw [Int.toNat_lt' (by have := Nat.pow_pos (n := k) (show 0 < 2 by decide); omega)]
    simpa using hb
  have := Nat.xor_lt_two_pow h1 h2
  unfold xorI
  exact_mod_cast this
theorem xorI_le (ha : a ≤ 18446744073709551615) (hb : b ≤ 18446744073709551615) : xorI a b ≤ 18446744073709551615 := by
  have := xorI_lt (a := a) (b := b) (k := 64) (by rw [show (2 : Int) ^ 64 = 18446744073709551616 by decide]; omega) (by rw [show (2 : Int) ^ 64 = 18446744073709551616 by decide]; omega)
  rw [show (2 : Int) ^ 64 = 18446744073709551616 by decide] at this
  omega
theorem vBin_xorU (h0 : 0 ≤ a) (h1 : a ≤ 18446744073709551615) (h2 : 0 ≤ b) (h3 : b ≤ 18446744073709551615) : vBin P .xor T x y (.int .u64 a) (.int .u64 b) w = .ok (.value (.int .u64 (xorI a b))) w := by
  have e : ((BitVec.ofInt IntKind.u64.bits a ^^^ BitVec.ofInt IntKind.u64.bits b).toNat : Int) = xorI a b := by
    rw [BitVec.toNat_xor, BitVec.toNat_ofInt, BitVec.toNat_ofInt, show ((2 ^ IntKind.u64.bits : Nat) : Int) = 18446744073709551616 by decide, Int.emod_eq_of_lt h0 (by omega), Int.emod_eq_of_lt h2 (by omega)]
    rfl
  have e2 : IntKind.u64.wrap (xorI a b) = xorI a b := IntWalk.u64_in _ ⟨xorI_nonneg a b, xorI_le h1 h3⟩
  simp [vBin, eqGuard, binOp, Op.intBits, -BitVec.toNat_xor, -BitVec.toNat_ofInt, -BitVec.ofInt_ofNat, e, e2]
theorem mixI_bd (x : Int) (h0 : 0 ≤ x) : 0 ≤ mixI x ∧ mixI x ≤ 18446744073709551615 := by
  unfold mixI
  have h : 0 ≤ mixB (mixA x) ∧ mixB (mixA x) < 18446744073709551616 := ⟨Int.emod_nonneg _ (by decide), Int.emod_lt_of_pos _ (by decide)⟩
  generalize mixB (mixA x) = m at *
  exact ⟨xorI_nonneg _ _, xorI_le (by omega) (by omega)⟩
end
end Go.Proofs.YtcnlopjjejdahaaDoor
/- Plain: chapter 41, mixing is undone. No program in sight. -/
namespace Go.Proofs.YtcnlopjjejdahaaDoor
theorem unsh_ok {x n : Nat} (hx : x < 2 ^ 64) (hn : 64 ≤ n + (n + n)) : (x ^^^ (x >>> n)) ^^^ (((x ^^^ (x >>> n)) ^^^ ((x ^^^ (x >>> n)) >>> n)) >>> n) = x := by
  have h3 : x >>> n >>> n >>> n = 0 := by
    rw [← Nat.shiftRight_add, ← Nat.shiftRight_add, Nat.shiftRight_eq_div_pow]
    exact Nat.div_eq_of_lt (Nat.lt_of_lt_of_le hx (Nat.pow_le_pow_right (by decide) hn))
  have e1 : (x ^^^ (x >>> n)) ^^^ ((x ^^^ (x >>> n)) >>> n) = x ^^^ (x >>> n >>> n) := by
    rw [Nat.shiftRight_xor_distrib, Nat.xor_assoc, ← Nat.xor_assoc (x >>> n) (x >>> n), Nat.xor_self, Nat.zero_xor]
  rw [e1, Nat.shiftRight_xor_distrib, h3, Nat.xor_zero, Nat.xor_assoc, Nat.xor_self, Nat.xor_zero]
def unshI (y : Int) (n : Nat) : Int := xorI y (xorI y (y / 2 ^ n) / 2 ^ n)
theorem unshI_ok {x : Int} {n : Nat} (h0 : 0 ≤ x) (h1 : x < 18446744073709551616) (hn : 64 ≤ n + n + n) : unshI (xorI x (x / 2 ^ n)) n = x := by
  obtain ⟨m, rfl⟩ := Int.eq_ofNat_of_zero_le h0
  have hm : m < 2 ^ 64 := by rw [show 2 ^ 64 = 18446744073709551616 by decide]; omega
  have := unsh_ok hm (n := n) (by omega)
  have key : ∀ a b : Nat, xorI (a : Int) ((b : Int) / 2 ^ n) = ((a ^^^ (b >>> n) : Nat) : Int) := fun a b => by
    have e : (b : Int) / 2 ^ n = ((b / 2 ^ n : Nat) : Int) := by rw [Int.natCast_ediv, Int.natCast_pow]; rfl
    rw [Nat.shiftRight_eq_div_pow, e]
    unfold xorI
    rw [Int.toNat_natCast, Int.toNat_natCast]
  unfold unshI
  rw [key, key, key, this]
def stpI (m x : Int) : Int := x * ((2 - m * x % 18446744073709551616) % 18446744073709551616) % 18446744073709551616
def invF (m : Int) : Nat → Int → Int
  | 0, x => x
  | f + 1, x => invF m f (stpI m x)
def invI (m : Int) : Int := invF m 5 m
theorem inv_first : 13787848793156543929 * invI 13787848793156543929 % 18446744073709551616 = 1 := by decide
theorem inv_second : 10723151780598845931 * invI 10723151780598845931 % 18446744073709551616 = 1 := by decide
def unmixA (y : Int) : Int := unshI y 31 * invI 10723151780598845931 % 18446744073709551616
def unmixB (y : Int) : Int := unshI (unmixA y) 27 * invI 13787848793156543929 % 18446744073709551616
def unmixI (y : Int) : Int := unshI (unmixB y) 30
theorem undo_mul {a s i : Int} (h0 : 0 ≤ a) (h1 : a < 18446744073709551616) (hi : s * i % 18446744073709551616 = 1) : (a * s % 18446744073709551616) * i % 18446744073709551616 = a := by
  rw [Int.mul_emod, Int.emod_emod, ← Int.mul_emod, Int.mul_assoc, Int.mul_emod, hi, Int.mul_one, Int.emod_emod, Int.emod_eq_of_lt h0 h1]
theorem xorI_bd {a b : Int} (ha : a < 18446744073709551616) (hb : b < 18446744073709551616) : 0 ≤ xorI a b ∧ xorI a b < 18446744073709551616 := by
  have h1 : a.toNat < 2 ^ 64 := by rw [show 2 ^ 64 = 18446744073709551616 by decide]; omega
  have h2 : b.toNat < 2 ^ 64 := by rw [show 2 ^ 64 = 18446744073709551616 by decide]; omega
  have := Nat.xor_lt_two_pow h1 h2
  rw [show 2 ^ 64 = 18446744073709551616 by decide] at this
  unfold xorI
  omega
theorem unmix_mix {x : Int} (h0 : 0 ≤ x) (h1 : x < 18446744073709551616) : unmixI (mixI x) = x := by
  have a1 := xorI_bd (a := x) (b := x / 1073741824) h1 (by omega)
  have eA : mixA x = xorI x (x / 1073741824) * 13787848793156543929 % 18446744073709551616 := rfl
  have hA : 0 ≤ mixA x ∧ mixA x < 18446744073709551616 := ⟨Int.emod_nonneg _ (by decide), Int.emod_lt_of_pos _ (by decide)⟩
  have hB : 0 ≤ mixB (mixA x) ∧ mixB (mixA x) < 18446744073709551616 := ⟨Int.emod_nonneg _ (by decide), Int.emod_lt_of_pos _ (by decide)⟩
  have eB : mixB (mixA x) = xorI (mixA x) (mixA x / 134217728) * 10723151780598845931 % 18446744073709551616 := rfl
  have a2 := xorI_bd (a := mixA x) (b := mixA x / 134217728) hA.2 (by omega)
  have u1 := unshI_ok (n := 31) hB.1 hB.2 (by decide)
  have u2 := unshI_ok (n := 27) hA.1 hA.2 (by decide)
  have u3 := unshI_ok (n := 30) h0 h1 (by decide)
  rw [show (2 : Int) ^ 31 = 2147483648 by decide] at u1
  rw [show (2 : Int) ^ 27 = 134217728 by decide] at u2
  rw [show (2 : Int) ^ 30 = 1073741824 by decide] at u3
  have hm : mixI x = xorI (mixB (mixA x)) (mixB (mixA x) / 2147483648) := rfl
  unfold unmixI unmixB unmixA
  rw [hm, u1, eB, undo_mul a2.1 a2.2 inv_second, u2, eA, undo_mul a1.1 a1.2 inv_first, u3]
end Go.Proofs.YtcnlopjjejdahaaDoor
/- Walks: digest.Hex. -/
namespace Go.Proofs.YtcnlopjjejdahaaDoor
open Go.RowKit
set_option maxRecDepth 100000
theorem hexT_get : ∀ (k x i : Nat), i < k → (hexT k x)[i]? = some (hexd (x / 16 ^ (k - 1 - i) % 16))
  | 0, x, i, h => absurd h (Nat.not_lt_zero _)
  | k + 1, x, 0, h => rfl
  | k + 1, x, i + 1, h => by
    show (hexT k x)[i]? = _
    rw [hexT_get k x i (by omega)]
    congr 5
    omega
theorem byV_set {X : List Nat} {i k n : Nat} {z : Value} (h : X[i]? = some n) (hk : X.length = i + k + 1) : (byV (X.take i) ++ List.replicate (k + 1) z).set i (.int .u8 (n : Int)) = byV (X.take (i + 1)) ++ List.replicate k z := by
  have hl : (byV (X.take i)).length = i := by simp [byV]; omega
  rw [List.set_append_right _ _ (by omega), hl, Nat.sub_self, List.replicate_succ, List.set_cons_zero, List.take_add_one, h]
  unfold byV
  rw [List.map_append, List.append_assoc]
  rfl
theorem hex_any (X : Nat) (w : World) (hL : Laid w) (h1 : X ≤ 18446744073709551615) : Calls Tryd.prog 27 #[.int .u64 X] w fun e w' => e = .returned (.string (toBA (hexT 16 X))) ∧ Below w.heap.size w w' := by
  refine calls_W (l := [_]) Tryd.func27 rfl _ Tryd.ntmps27 (by simp) ?_
  have hsz := hL.size
  simp +contextual (maxSteps := 2000000) (disch := (first | omega | (simp only [SZ]; done) | (simp only [SZ]; omega) | (simp only [TS] at *; omega))) only [RZ, gval, gslot, fillL, ovw, numb, catL, ldN, agL, okC, oneC, init, Nat.reduceAdd, Nat.reduceMul, Nat.reduceSub, Nat.reduceEqDiff, Nat.reduceLT, ↓reduceIte, Int.reduceToNat, Int.reduceAdd, Int.reduceSub, Int.reduceMul, Int.reduceLT, Int.reduceLE, Int.reduceEq, Nat.reduceLeDiff]
  generalize hw1 : w.alloc (.cells #[.int .u8 0, .int .u8 0, .int .u8 0, .int .u8 0, .int .u8 0, .int .u8 0, .int .u8 0, .int .u8 0, .int .u8 0, .int .u8 0, .int .u8 0, .int .u8 0, .int .u8 0, .int .u8 0, .int .u8 0, .int .u8 0] 95) = w1
  have hb1 : Below w.heap.size w w1 := by rw [← hw1]; exact below_alloc _ _
  have hs1 : w1.heap.size = w.heap.size + 1 := by rw [← hw1]; simp
  have hr1 : Row w1 w.heap.size 95 (byV ((hexT 16 X).take 0) ++ List.replicate 16 (.int .u8 0)) := by rw [← hw1]; exact Row.new _ _ _
  clear hw1
  have hlen := hexT_len 16 X
  refine Raw_loop (fun σ w2 => Below w.heap.size w w2 ∧ w2.heap.size = w.heap.size + 1 ∧ ∃ i k : Nat, i + k = 16 ∧ Row w2 w.heap.size 95 (byV ((hexT 16 X).take i) ++ List.replicate k (.int .u8 0)) ∧ σ 0 = .int .u64 X ∧ σ 3 = .pointer (some ⟨w.heap.size, 0, none⟩) ∧ σ 5 = .int .i64 i) (fun σ _ => 16 - (intOf (σ 5)).toNat) ?_ ?_
  · simp +contextual (maxSteps := 2000000) (disch := (first | omega | (simp only [SZ]; done) | (simp only [SZ]; omega) | (simp only [TS] at *; omega))) only [RZ, gval, gslot, fillL, ovw, numb, catL, ldN, agL, okC, oneC, init, Nat.reduceAdd, Nat.reduceMul, Nat.reduceSub, Nat.reduceEqDiff, Nat.reduceLT, ↓reduceIte, Int.reduceToNat, Int.reduceAdd, Int.reduceSub, Int.reduceMul, Int.reduceLT, Int.reduceLE, Int.reduceEq, Nat.reduceLeDiff]
    exact ⟨hb1, hs1, 0, 16, rfl, hr1, rfl⟩
  rintro σ w2 ⟨hB, hs2, i, k, hik, hR, f0, f3, f5⟩ K hK
  have hA : ∀ (b : Nat) (k : IntKind) (j : Int) (w : World), 0 ≤ j → j < 16 → vIndexAddr Tryd.prog 95 (.pointer (some ⟨b, 0, none⟩)) (.int k j) w = .ok (.value (.pointer (some ⟨b, 0 + j.toNat * 1, none⟩))) w := fun b k j w h0 h1 => vIndexAddr_arr Tryd.underlying95 (by kernel_rfl) h0 h1
  simp +contextual (maxSteps := 2000000) (disch := (first | omega | (simp only [SZ]; done) | (simp only [SZ]; omega) | (simp only [TS] at *; omega))) only [RZ, gval, gslot, fillL, ovw, numb, catL, ldN, agL, okC, oneC, init, Nat.reduceAdd, Nat.reduceMul, Nat.reduceSub, Nat.reduceEqDiff, Nat.reduceLT, ↓reduceIte, Int.reduceToNat, Int.reduceAdd, Int.reduceSub, Int.reduceMul, Int.reduceLT, Int.reduceLE, Int.reduceEq, Nat.reduceLeDiff,  f0, f3, f5]
  (refine W_if rfl (fun hc => ?_) (fun hc => ?_) <;> (try simp only [TS] at hc))
  · obtain ⟨k, rfl⟩ : ∃ m, k = m + 1 := ⟨k - 1, by omega⟩
    have hq : (X : Int) / 2 ^ ((4 * (15 - (i : Int))).toNat) = ((X / 16 ^ (15 - i) : Nat) : Int) := by
      rw [show (4 * (15 - (i : Int))).toNat = 4 * (15 - i) by omega, Int.natCast_ediv, Int.natCast_pow, Int.pow_mul]
      rfl
    have hg := hexT_get 16 X i (by omega)
    have hle : X / 16 ^ (15 - i) ≤ X := Nat.div_le_self _ _
    rw [show 16 - 1 - i = 15 - i by omega] at hg
    generalize X / 16 ^ (15 - i) = q at *
    have hh := (hL.below hB hsz).hex (q % 16) (by omega)
    have e1 : ((q : Int) % 16).toNat = q % 16 := by omega
    have hl : (byV ((hexT 16 X).take i)).length = i := by simp [byV]; omega
    have cg := hR.cell (i := i) (v := .int .u8 0) (by rw [List.getElem?_append_right (by omega), hl, Nat.sub_self]; rfl)
    have zg := hR.frozen i
    simp +contextual (maxSteps := 2000000) (disch := (first | omega | (simp only [SZ]; done) | (simp only [SZ]; omega) | (simp only [TS] at *; omega))) only [RZ, gval, gslot, fillL, ovw, numb, catL, ldN, agL, okC, oneC, init, Nat.reduceAdd, Nat.reduceMul, Nat.reduceSub, Nat.reduceEqDiff, Nat.reduceLT, ↓reduceIte, Int.reduceToNat, Int.reduceAdd, Int.reduceSub, Int.reduceMul, Int.reduceLT, Int.reduceLE, Int.reduceEq, Nat.reduceLeDiff,  f0, f3, f5, hA, hq, e1, hh, cg, zg]
    refine hK _ _ ⟨hB.setCell (p := ⟨w.heap.size, i, none⟩) (Nat.le_refl _) _, by simpa using hs2, i + 1, k, by omega, ?_, ?_⟩ ?_
    · rw [← byV_set hg (by omega)]
      exact hR.set_ (by simp [byV]; omega) _
    · simp +contextual (maxSteps := 2000000) (disch := (first | omega | (simp only [SZ]; done) | (simp only [SZ]; omega) | (simp only [TS] at *; omega))) only [RZ, gval, gslot, fillL, ovw, numb, catL, ldN, agL, okC, oneC, init, Nat.reduceAdd, Nat.reduceMul, Nat.reduceSub, Nat.reduceEqDiff, Nat.reduceLT, ↓reduceIte, Int.reduceToNat, Int.reduceAdd, Int.reduceSub, Int.reduceMul, Int.reduceLT, Int.reduceLE, Int.reduceEq, Nat.reduceLeDiff,  f0, f3, f5]
    · simp +contextual (maxSteps := 2000000) (disch := (first | omega | (simp only [SZ]; done) | (simp only [SZ]; omega) | (simp only [TS] at *; omega))) only [RZ, gval, gslot, fillL, ovw, numb, catL, ldN, agL, okC, oneC, init, Nat.reduceAdd, Nat.reduceMul, Nat.reduceSub, Nat.reduceEqDiff, Nat.reduceLT, ↓reduceIte, Int.reduceToNat, Int.reduceAdd, Int.reduceSub, Int.reduceMul, Int.reduceLT, Int.reduceLE, Int.reduceEq, Nat.reduceLeDiff,  intOf, f5]
      omega
  · obtain ⟨rfl, rfl⟩ : i = 16 ∧ k = 0 := by omega
    rw [List.take_of_length_le (by omega), List.replicate_zero, List.append_nil] at hR
    have hsl := vSlice_arr (P := Tryd.prog) (b := w.heap.size) (o := 0) (w := w2) Tryd.underlying95 (sz := 1) (by kernel_rfl)
    obtain ⟨s, hs1, hs2⟩ := bytes_str (w := w2) (a := ⟨w.heap.size, 0, none⟩) (cap := 16) (hexT 16 X) (fun n hn => by have := hexT_all 16 X n hn; omega) (fun j u hu => by rw [addr_add, Nat.zero_add]; exact hR.cell hu)
    rw [hlen] at hs2
    simp +contextual (maxSteps := 2000000) (disch := (first | omega | (simp only [SZ]; done) | (simp only [SZ]; omega) | (simp only [TS] at *; omega))) only [RZ, gval, gslot, fillL, ovw, numb, catL, ldN, agL, okC, oneC, init, Nat.reduceAdd, Nat.reduceMul, Nat.reduceSub, Nat.reduceEqDiff, Nat.reduceLT, ↓reduceIte, Int.reduceToNat, Int.reduceAdd, Int.reduceSub, Int.reduceMul, Int.reduceLT, Int.reduceLE, Int.reduceEq, Nat.reduceLeDiff,  f0, f3, f5, hsl, hs2]
    refine ⟨?_, hB⟩
    rw [← hs1, toBA_bs]
end Go.Proofs.YtcnlopjjejdahaaDoor
