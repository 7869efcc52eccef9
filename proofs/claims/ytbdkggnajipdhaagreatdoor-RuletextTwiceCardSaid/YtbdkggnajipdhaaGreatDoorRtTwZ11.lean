/- Texts laid one behind the other: RtR, PaH. Each says at its head what it proves. -/
import Derived.Test.YtbdkggnajipdhaaGreatDoorRtTwZ10
set_option linter.unusedSimpArgs false
/- Plain: chapter 11, what is printed is read again. No program in sight. -/
namespace Go.Proofs.YtbdkggnajipdhaaGreatDoor
theorem thenT_some {α β : Type} {x : Option α} {a : α} {L : List Tk} {f : α → Except (Int × List Tk) β} (h : x = some a) : thenT x L f = f a := by rw [h]; rfl
theorem bindT_ok {α β : Type} {x : Except (Int × List Tk) α} {a : α} {f : α → Except (Int × List Tk) β} (h : x = .ok a) : bindT x f = f a := by rw [h]; rfl
/-! Tokens of items. -/
def hitS (w : List Nat) (n : Int) : List (Nat × List Nat) := if n = 0 then [] else [(1, w), (2, dec n.toNat)]
def modeS (t : Ti) : List (Nat × List Nat) :=
  if t.mode = 0 then hitS (asc "main") t.main ++ (hitS (asc "bonus") t.bonus ++ hitS (asc "extra") t.extra)
  else if t.mode = 1 then [(1, asc "exact")] else if t.mode = 2 then [(1, asc "box")] else if t.mode = 3 then [(1, asc "front"), (2, dec t.main.toNat)] else [(1, asc "back"), (2, dec t.main.toNat)]
def numS (L : List Int) : List (Nat × List Nat) := L.map fun n => (2, dec n.toNat)
def dayX (is : List Nat) : List (Nat × List Nat) := is.map fun i => (1, dayW.getD i [])
def dayB (d : Nat) : List Nat := (List.range 7).filter fun i => d / 2 ^ i % 2 == 1
def It.toks : It → List (Nat × List Nat)
  | .two w a b => [(1, w), (2, dec a.toNat), (1, asc "of"), (2, dec b.toNat)]
  | .num w n => [(1, w), (2, dec n.toNat)]
  | .days d t => (1, asc "days") :: (dayX (dayB d) ++ [(1, asc "at"), (2, dec (t / 60).toNat), (3, asc ":"), (2, dec (t % 60).toNat)])
  | .addon a => if a.kind = 1 then (1, asc "addon") :: (1, bs a.name) :: (1, asc "factor") :: (2, dec a.price.toNat) :: numS a.factors else (1, asc "addon") :: (1, bs a.name) :: (1, asc "serial") :: (2, dec a.price.toNat) :: (2, dec a.digits.toNat) :: numS a.serials
  | .tier t => (1, asc "tier") :: (modeS t ++ [(1, kindW t.kind), (2, dec t.value.toNat)])
/-- The first word is one of the language. -/
def It.wok : It → Bool
  | .two w _ _ => decide (w = asc "choose") || decide (w = asc "digits") || decide (w = asc "bonus")
  | .num w _ => (simpleI w).isSome
  | _ => true
theorem good_word {l : List Nat} (h : wordL l = true) : good 1 l := by
  unfold wordL at h
  rw [Bool.and_eq_true] at h
  cases l with
  | nil => cases h.1
  | cons c r => exact Or.inl ⟨rfl, ⟨c, r, rfl, h.1⟩, fun d hd => List.all_eq_true.1 h.2 d hd⟩
theorem good_fit {n : Int} (h : fitB n = true) : good 2 (dec n.toNat) := good_dec (fit_nat h).2
def simpleW : List (List Nat) := [asc "extra", asc "price", asc "draws", asc "system", asc "close", asc "cancel", asc "expiry", asc "pool", asc "reserve", asc "round", asc "cap", asc "rolls"]
theorem simple_mem {w : List Nat} (h : (simpleI w).isSome = true) : w ∈ simpleW := by
  apply Classical.byContradiction
  intro hn
  simp only [simpleW, List.mem_cons, List.not_mem_nil, or_false, not_or] at hn
  obtain ⟨a1, a2, a3, a4, a5, a6, a7, a8, a9, a10, a11, a12⟩ := hn
  unfold simpleI at h
  rw [if_neg a1, if_neg a2, if_neg a3, if_neg a4, if_neg a5, if_neg a6, if_neg a7, if_neg a8, if_neg a9, if_neg a10, if_neg a11, if_neg a12] at h
  cases h
theorem simpleW_word : simpleW.all wordL = true := by decide +kernel
theorem simple_good {w : List Nat} (h : (simpleI w).isSome = true) : good 1 w := good_word (List.all_eq_true.1 simpleW_word w (simple_mem h))
theorem dayW_good (i : Nat) (h : i < 7) : good 1 (dayW.getD i []) := by
  have : ∀ i : Fin 7, wordL (dayW.getD i.1 []) = true := by decide +kernel
  exact good_word (this ⟨i, h⟩)
theorem dayB_lt {d i : Nat} (h : i ∈ dayB d) : i < 7 := List.mem_range.1 (List.mem_filter.1 h).1
theorem fits_words (L : List Int) (h : L.all fitB = true) : (numS L).map (·.2) = L.map fmtI ∧ ∀ x ∈ numS L, good x.1 x.2 := by
  rw [List.all_eq_true] at h
  constructor
  · unfold numS
    rw [List.map_map]
    exact List.map_congr_left fun n hn => (fmt_dec (h n hn)).symm
  · intro x hx
    obtain ⟨n, hn, rfl⟩ := List.mem_map.1 hx
    exact good_fit (h n hn)
theorem hit_words {w : List Nat} (hw : good 1 w) {n : Int} (h : hitB n = true) : (hitS w n).map (·.2) = hitW w n ∧ ∀ x ∈ hitS w n, good x.1 x.2 := by
  unfold hitB at h
  unfold hitS hitW
  by_cases e : n = 0
  · rw [if_pos e, if_pos e]; exact ⟨rfl, fun x hx => by cases hx⟩
  · have hf : fitB n = true := by simpa [e] using h
    rw [if_neg e, if_neg e]
    refine ⟨by simp [fmt_dec hf], fun x hx => ?_⟩
    rcases List.mem_cons.1 hx with rfl | hx
    · exact hw
    · rw [List.mem_singleton] at hx; subst hx; exact good_fit hf
theorem app_words {A B : List (Nat × List Nat)} {a b : List (List Nat)} (h1 : A.map (·.2) = a ∧ ∀ x ∈ A, good x.1 x.2) (h2 : B.map (·.2) = b ∧ ∀ x ∈ B, good x.1 x.2) : (A ++ B).map (·.2) = a ++ b ∧ ∀ x ∈ A ++ B, good x.1 x.2 :=
  ⟨by rw [List.map_append, h1.1, h2.1], fun x hx => (List.mem_append.1 hx).elim (h1.2 x) (h2.2 x)⟩
theorem one_word {k : Nat} {w : List Nat} (h : good k w) : [(k, w)].map (·.2) = [w] ∧ ∀ x ∈ [(k, w)], good x.1 x.2 := ⟨rfl, fun x hx => by rw [List.mem_singleton] at hx; subst hx; exact h⟩
theorem cons_word {k : Nat} {w : List Nat} {B : List (Nat × List Nat)} {b : List (List Nat)} (h : good k w) (h2 : B.map (·.2) = b ∧ ∀ x ∈ B, good x.1 x.2) : ((k, w) :: B).map (·.2) = w :: b ∧ ∀ x ∈ (k, w) :: B, good x.1 x.2 := app_words (one_word h) h2
theorem num_word {n : Int} {B : List (Nat × List Nat)} {b : List (List Nat)} (h : fitB n = true) (h2 : B.map (·.2) = b ∧ ∀ x ∈ B, good x.1 x.2) : ((2, dec n.toNat) :: B).map (·.2) = fmtI n :: b ∧ ∀ x ∈ (2, dec n.toNat) :: B, good x.1 x.2 := by
  rw [fmt_dec h]; exact cons_word (good_fit h) h2
theorem nil_words : (([] : List (Nat × List Nat)).map (·.2) = []) ∧ ∀ x ∈ ([] : List (Nat × List Nat)), good x.1 x.2 := ⟨rfl, fun x hx => by cases hx⟩
theorem day_words (d : Nat) : (dayX (dayB d)).map (·.2) = dayL d ∧ ∀ x ∈ dayX (dayB d), good x.1 x.2 := by
  refine ⟨by unfold dayX dayL dayB; rw [List.map_map]; rfl, fun x hx => ?_⟩
  obtain ⟨i, hi, rfl⟩ := List.mem_map.1 hx
  exact dayW_good i (dayB_lt hi)
theorem mode_words {t : Ti} (h : t.fineM = true) : (modeS t).map (·.2) = modeW t ∧ ∀ x ∈ modeS t, good x.1 x.2 := by
  unfold Ti.fineM at h
  unfold modeS modeW
  by_cases h0 : t.mode = 0
  · rw [if_pos h0] at h ⊢
    rw [if_pos h0]
    simp only [Bool.and_eq_true] at h
    rw [← List.append_assoc]
    exact app_words (app_words (hit_words (good_word (by decide +kernel)) h.1.1) (hit_words (good_word (by decide +kernel)) h.1.2)) (hit_words (good_word (by decide +kernel)) h.2)
  rw [if_neg h0] at h ⊢
  rw [if_neg h0]
  by_cases h1 : t.mode = 1
  · rw [if_pos h1, if_pos h1]; exact one_word (good_word (by decide +kernel))
  rw [if_neg h1, if_neg h1]
  by_cases h2 : t.mode = 2
  · rw [if_pos h2, if_pos h2]; exact one_word (good_word (by decide +kernel))
  rw [if_neg h2, if_neg h2]
  rw [if_neg (fun e => e.elim h1 h2)] at h
  by_cases h3 : t.mode = 3
  · rw [if_pos h3, if_pos h3]
    rw [if_pos (.inl h3)] at h
    rw [Bool.and_eq_true] at h
    exact cons_word (good_word (by decide +kernel)) (num_word h.2 nil_words)
  rw [if_neg h3, if_neg h3]
  by_cases h4 : t.mode = 4
  · rw [if_pos (.inr h4)] at h
    rw [Bool.and_eq_true] at h
    exact cons_word (good_word (by decide +kernel)) (num_word h.2 nil_words)
  · rw [if_neg (fun e => e.elim h3 h4)] at h; cases h
theorem day_fit {t : Int} (h0 : 0 ≤ t) (h1 : t ≤ 1439) : fitB (t / 60) = true ∧ fitB (t % 60) = true := by
  unfold fitB; simp only [Bool.and_eq_true, decide_eq_true_eq]; omega
/-- An item's words are its tokens' texts. -/
theorem item_words {i : It} (hf : i.fine = true) (hw : i.wok = true) : i.toks.map (·.2) = i.words ∧ ∀ x ∈ i.toks, good x.1 x.2 := by
  cases i with
  | two w a b =>
    simp only [It.fine, Bool.and_eq_true] at hf
    have hg : good 1 w := by
      simp only [It.wok, Bool.or_eq_true, decide_eq_true_eq] at hw
      rcases hw with (rfl | rfl) | rfl <;> exact good_word (by decide +kernel)
    exact cons_word hg (num_word hf.1 (cons_word (good_word (by decide +kernel)) (num_word hf.2 nil_words)))
  | num w n => exact cons_word (simple_good hw) (num_word hf nil_words)
  | days d t =>
    simp only [It.fine, Bool.and_eq_true, decide_eq_true_eq] at hf
    obtain ⟨f1, f2⟩ := day_fit hf.1.2 hf.2
    exact cons_word (good_word (by decide +kernel)) (app_words (day_words d) (cons_word (good_word (by decide +kernel)) (num_word f1 (cons_word (gm (by decide)) (num_word f2 nil_words)))))
  | addon a =>
    simp only [It.fine, Ad.fine, Bool.and_eq_true] at hf
    simp only [It.toks, It.words]
    by_cases h1 : a.kind = 1
    · rw [if_pos h1] at hf ⊢
      rw [if_pos h1]
      simp only [Bool.and_eq_true] at hf
      exact cons_word (good_word (by decide +kernel)) (cons_word (good_word hf.1) (cons_word (good_word (by decide +kernel)) (num_word hf.2.1.2 (fits_words _ hf.2.2))))
    · rw [if_neg h1] at hf ⊢
      rw [if_neg h1]
      by_cases h2 : a.kind = 2
      · rw [if_pos h2] at hf
        simp only [Bool.and_eq_true, and_true] at hf
        exact cons_word (good_word (by decide +kernel)) (cons_word (good_word hf.1) (cons_word (good_word (by decide +kernel)) (num_word hf.2.1.2.1 (num_word hf.2.1.2.2 (fits_words _ hf.2.2)))))
      · rw [if_neg h2] at hf; cases hf.2
  | tier t =>
    simp only [It.fine, Ti.fine, Bool.and_eq_true] at hf
    refine cons_word (good_word (by decide +kernel)) (app_words (mode_words hf.1.1) (cons_word (good_word ?_) (num_word hf.2 nil_words)))
    unfold kindW
    repeat' split
    all_goals decide +kernel
/-- Words, each behind a space. -/
theorem Lx_words {r : List Nat} {S : List (Nat × List Nat)} (hr : ∀ c r', r = c :: r' → wordB c = false ∧ digitB c = false) (h : Lx r S) :
    ∀ A : List (Nat × List Nat), (∀ x ∈ A, good x.1 x.2) → Lx ((A.map (·.2)).flatMap (32 :: ·) ++ r) (A ++ S)
  | [], _ => h
  | x :: A, hA => by
    rw [List.map_cons, List.flatMap_cons, List.cons_append, List.cons_append, List.append_assoc, List.cons_append]
    refine Lx_blank (by decide) (Lx_tok (hA x (by simp)) (fun c r' e => ?_) (Lx_words hr h A fun y hy => hA y (by simp [hy])))
    cases A with
    | nil => exact hr c r' e
    | cons y A =>
      rw [List.map_cons, List.flatMap_cons, List.cons_append, List.cons_append] at e
      exact sep32 c r' e
theorem Lx_line {i : It} (hf : i.fine = true) (hw : i.wok = true) {r : List Nat} {S : List (Nat × List Nat)} (h : Lx r S) : Lx (lineG i ++ r) (i.toks ++ (3, asc ";") :: S) := by
  obtain ⟨h1, h2⟩ := item_words hf hw
  unfold lineG
  rw [List.cons_append, List.append_assoc]
  refine Lx_blank (by decide) ?_
  rw [← h1]
  exact Lx_words sep59 (Lx_tok (gm (by decide)) sep10 (Lx_blank (by decide) h)) _ h2
def itemsS (V : List It) : List (Nat × List Nat) := V.flatMap fun i => i.toks ++ [(3, asc ";")]
theorem Lx_lines : ∀ (V : List It), V.all It.fine = true → V.all It.wok = true → ∀ {r : List Nat} {S : List (Nat × List Nat)}, Lx r S → Lx (V.flatMap lineG ++ r) (itemsS V ++ S)
  | [], _, _, _, _, h => h
  | i :: V, hf, hw, r, S, h => by
    rw [List.all_cons, Bool.and_eq_true] at hf hw
    rw [List.flatMap_cons, List.append_assoc]
    have := Lx_line hf.1 hw.1 (Lx_lines V hf.2 hw.2 h)
    unfold itemsS at this ⊢
    rw [List.flatMap_cons, List.append_assoc, List.append_assoc]
    exact this
def gameS (n : List Nat) (V : List It) : List (Nat × List Nat) := (1, asc "game") :: (1, n) :: (3, asc "{") :: (itemsS V ++ [(3, asc "}")])
def gameX (n : List Nat) (V : List It) : List Nat := asc "game" ++ (32 :: n) ++ asc " {\n" ++ V.flatMap lineG ++ asc "}\n"
theorem game_Lx {n : List Nat} (hn : wordL n = true) {V : List It} (hf : V.all It.fine = true) (hw : V.all It.wok = true) : Lx (gameX n V) (gameS n V) := by
  have h := Lx_lines V hf hw (Lx_tok (k := 3) (t := asc "}") (gm (by decide)) sep10 (Lx_blank (by decide) Lx_nil))
  have h1 := Lx_tok (k := 3) (t := asc "{") (gm (by decide)) sep10 (Lx_blank (b := 10) (by decide) h)
  have h2 := Lx_tok (good_word hn) sep32 (Lx_blank (b := 32) (by decide) h1)
  have h3 := Lx_tok (k := 1) (t := asc "game") (good_word (by decide +kernel)) sep32 (Lx_blank (b := 32) (by decide) h2)
  have e : gameX n V = asc "game" ++ 32 :: (n ++ 32 :: (asc "{" ++ 10 :: (V.flatMap lineG ++ (asc "}" ++ 10 :: [])))) := by
    unfold gameX
    rw [show asc " {\n" = 32 :: (asc "{" ++ [10]) by decide +kernel, show asc "}\n" = asc "}" ++ [10] by decide +kernel]
    simp only [List.append_assoc, List.cons_append, List.nil_append]
  rw [e]
  exact h3
/-! Reading. -/
theorem st_less {L : List Tk} {n m : Int} {M : List (Int × List Nat)} (hn : fitB n = true) (hm : n ≤ m) (h : L.map Kt = (2, dec n.toNat) :: M) (hM : M ≠ []) : lessT m L = some (n, nxT L) ∧ (nxT L).map Kt = M := by
  obtain ⟨h1, h2⟩ := st_num hn h hM
  unfold lessT
  rw [h1]
  exact ⟨if_pos hm, h2⟩
theorem st_len {L : List Tk} {M : List (Int × List Nat)} (h : L.map Kt = M) : L.length = M.length := by rw [← h, List.length_map]
theorem nums_read {M : List (Int × List Nat)} (hM : M ≠ []) (hk : ∀ x ∈ M.head?, x.1 ≠ 2) : ∀ (Z : List Int) (f : Nat) (L : List Tk), Z.all fitB = true → Z.length < f → L.map Kt = inK (numS Z) ++ M → ∃ L', numsT f L = (Z, L') ∧ L'.map Kt = M
  | [], f + 1, L, _, _, h => by
    have h : L.map Kt = M := h
    obtain ⟨x, M', rfl⟩ : ∃ x M', M = x :: M' := by cases M with | nil => exact absurd rfl hM | cons x M' => exact ⟨x, M', rfl⟩
    refine ⟨L, ?_, h⟩
    have hx := hk x (by simp)
    unfold numsT
    have : numT L = none := by
      unfold numT
      rw [if_neg]
      intro e
      cases L with
      | nil => cases h
      | cons t r =>
        rw [List.map_cons, List.cons.injEq] at h
        apply hx
        rw [← h.1]
        exact e.1
    rw [this]
  | n :: Z, f + 1, L, hz, hf, h => by
    rw [List.all_cons, Bool.and_eq_true] at hz
    have h' : L.map Kt = (2, dec n.toNat) :: (inK (numS Z) ++ M) := h
    obtain ⟨e, h2⟩ := st_num hz.1 h' (by intro e; exact hM (List.append_eq_nil_iff.1 e).2)
    obtain ⟨L', e3, h3⟩ := nums_read hM hk Z f (nxT L) hz.2 (by simpa using hf) h2
    refine ⟨L', ?_, h3⟩
    unfold numsT
    rw [e]
    dsimp only
    rw [e3]
theorem hit_read {w : List Nat} {n : Int} (hn : hitB n = true) {L : List Tk} {M : List (Int × List Nat)} (hM : M ≠ []) (hd : ∀ x ∈ M.head?, x ≠ (1, w)) (h : L.map Kt = inK (hitS w n) ++ M) : ∃ L', hitT w L = .ok (n, L') ∧ L'.map Kt = M := by
  unfold hitS at h
  unfold hitT
  by_cases e : n = 0
  · subst e
    rw [if_pos rfl] at h
    have h : L.map Kt = M := h
    obtain ⟨x, M', rfl⟩ : ∃ x M', M = x :: M' := by cases M with | nil => exact absurd rfl hM | cons x M' => exact ⟨x, M', rfl⟩
    have : isT 1 w L = none := isT_no fun e => by
      cases L with
      | nil => cases h
      | cons t r =>
        rw [List.map_cons, List.cons.injEq] at h
        refine hd x (by simp) ?_
        rw [← h.1]
        exact Prod.ext e.1 e.2
    rw [this]
    exact ⟨L, rfl, h⟩
  · rw [if_neg e] at h
    have hf : fitB n = true := by unfold hitB at hn; simpa [e] using hn
    have h' : L.map Kt = (1, w) :: (2, dec n.toNat) :: M := h
    obtain ⟨e1, h1⟩ := st_is h' (by simp)
    obtain ⟨e2, h2⟩ := st_num hf h1 hM
    rw [e1]
    dsimp only
    rw [thenT_some e2]
    exact ⟨_, rfl, h2⟩
theorem is_not {k : Int} {w : List Nat} {L : List Tk} {x : Int × List Nat} {M : List (Int × List Nat)} (h : L.map Kt = x :: M) (hx : x ≠ (k, w)) : isT k w L = none := isT_no fun e => by
  cases L with
  | nil => cases h
  | cons t r =>
    rw [List.map_cons, List.cons.injEq] at h
    apply hx
    rw [← h.1]
    exact Prod.ext e.1 e.2
theorem pair_read {a b : Int} (ha : fitB a = true) (hb : fitB b = true) {L : List Tk} {M : List (Int × List Nat)} (hM : M ≠ []) (h : L.map Kt = (2, dec a.toNat) :: (1, asc "of") :: (2, dec b.toNat) :: M) : ∃ L', pairT L = .ok ((a, b), L') ∧ L'.map Kt = M := by
  obtain ⟨e1, h1⟩ := st_num ha h (by simp)
  obtain ⟨e2, h2⟩ := st_is h1 (by simp)
  obtain ⟨e3, h3⟩ := st_num hb h2 hM
  refine ⟨_, ?_, h3⟩
  unfold pairT
  rw [thenT_some e1, thenT_some e2, thenT_some e3]
/-- Weekdays one after the other. -/
def dayA : List Nat → Nat → Option Nat
  | [], d => some d
  | i :: r, d => if d / 2 ^ i % 2 = 1 then none else dayA r (d + 2 ^ i)
theorem dayA_B (d : Nat) (h : d ≤ 127) : dayA (dayB d) 0 = some d := by
  have : ∀ d : Fin 128, dayA (dayB d.1) 0 = some d.1 := by decide +kernel
  exact this ⟨d, by omega⟩
theorem dayI_W {i : Nat} (h : i < 7) : dayI (dayW.getD i []) = some i ∧ dayW.getD i [] ≠ asc "at" := by
  have : ∀ i : Fin 7, dayI (dayW.getD i.1 []) = some i.1 ∧ dayW.getD i.1 [] ≠ asc "at" := by decide +kernel
  exact this ⟨i, h⟩
theorem days_read {M : List (Int × List Nat)} (hM : M ≠ []) : ∀ (is : List Nat) (d r : Nat) (f : Nat) (L : List Tk), (∀ i ∈ is, i < 7) → dayA is d = some r → r ≠ 0 → is.length < f → L.map Kt = inK (dayX is) ++ (1, asc "at") :: M → ∃ L', daysT f L d = .ok (r, L') ∧ L'.map Kt = M
  | [], d, r, f + 1, L, _, ha, hr, _, h => by
    have ha : d = r := Option.some.inj ha
    subst ha
    have h : L.map Kt = (1, asc "at") :: M := h
    obtain ⟨h1, h2, h3⟩ := st_next h hM
    refine ⟨_, ?_, h3⟩
    unfold daysT
    rw [if_pos ⟨hr, h1, h2⟩]
  | i :: is, d, r, f + 1, L, hi, ha, hr, hf, h => by
    have hi7 := hi i (by simp)
    obtain ⟨w1, w2⟩ := dayI_W hi7
    have h' : L.map Kt = (1, dayW.getD i []) :: (inK (dayX is) ++ (1, asc "at") :: M) := h
    obtain ⟨h1, h2, h3⟩ := st_next h' (by simp)
    unfold dayA at ha
    split at ha
    · cases ha
    · rename_i hb
      obtain ⟨L', e, hL⟩ := days_read hM is (d + 2 ^ i) r f (nxT L) (fun j hj => hi j (by simp [hj])) ha hr (by simpa using hf) h3
      refine ⟨L', ?_, hL⟩
      unfold daysT
      rw [if_neg (fun e => w2 (h2.symm.trans e.2.2)), if_neg (fun e => e h1), h2, w1]
      dsimp only
      rw [if_neg hb, e]
def It.key : It → Option (List Nat)
  | .two w _ _ => some (if w = asc "bonus" then asc "bonus" else asc "choose")
  | .num w _ => some w
  | .days _ _ => some (asc "days")
  | _ => none
def It.eff (g : Gm) : It → Gm
  | .two w a b => if w = asc "bonus" then { g with n := putN (putN g.n 4 a) 5 b } else { g with n := putN (putN (putN g.n 0 (if w = asc "digits" then 2 else 1)) 2 a) 3 b }
  | .num w n => match simpleI w with | some i => { g with n := putN g.n i n } | none => g
  | .days d t => { g with n := putN (putN g.n 9 d) 10 t }
  | .addon a => { g with addons := g.addons ++ [a] }
  | .tier t => { g with tiers := g.tiers ++ [t] }
def It.see (seen : List (List Nat)) (i : It) : List (List Nat) := match i.key with | some k => k :: seen | none => seen
theorem day_read {d : Nat} {t : Int} (h0 : d ≠ 0) (h1 : d ≤ 127) (h2 : 0 ≤ t) (h3 : t ≤ 1439) {L : List Tk} {M : List (Int × List Nat)} (hM : M ≠ [])
    (h : L.map Kt = inK (dayX (dayB d)) ++ (1, asc "at") :: (2, dec (t / 60).toNat) :: (3, asc ":") :: (2, dec (t % 60).toNat) :: M) : ∃ L', dayT L = .ok (((d : Int), t), L') ∧ L'.map Kt = M := by
  obtain ⟨f1, f2⟩ := day_fit h2 h3
  obtain ⟨L1, e1, k1⟩ := days_read (M := (2, dec (t / 60).toNat) :: (3, asc ":") :: (2, dec (t % 60).toNat) :: M) (by simp) (dayB d) 0 d L.length L (fun i hi => dayB_lt hi) (dayA_B d h1) h0
    (by rw [st_len h]; simp [inK, dayX] <;> omega) h
  obtain ⟨e2, k2⟩ := st_less f1 (show t / 60 ≤ 23 by omega) k1 (by simp)
  obtain ⟨e3, k3⟩ := st_is k2 (by simp)
  obtain ⟨e4, k4⟩ := st_less f2 (show t % 60 ≤ 59 by omega) k3 hM
  refine ⟨_, ?_, k4⟩
  unfold dayT
  rw [bindT_ok e1, thenT_some e2, thenT_some e3, thenT_some e4]
  dsimp only
  rw [show 60 * (t / 60) + t % 60 = t by omega]
theorem kindW_prize {k : Int} (h : (decide (k = 1) || decide (k = 2) || decide (k = 3)) = true) : prizeK (kindW k) = some k := by
  simp only [Bool.or_eq_true, decide_eq_true_eq] at h
  rcases h with (rfl | rfl) | rfl <;> decide +kernel
theorem kindW_ne (k : Int) : kindW k ≠ asc "main" ∧ kindW k ≠ asc "bonus" ∧ kindW k ≠ asc "extra" ∧ kindW k ≠ asc "exact" ∧ kindW k ≠ asc "box" ∧ kindW k ≠ asc "front" ∧ kindW k ≠ asc "back" := by
  unfold kindW
  repeat' split
  all_goals decide +kernel
theorem mode_read {t : Ti} (hf : t.fineM = true) {L : List Tk} {M : List (Int × List Nat)} (h : L.map Kt = inK (modeS t) ++ (1, kindW t.kind) :: M) : ∃ L', modeT L = .ok ((t.mode, t.main, t.bonus, t.extra), L') ∧ L'.map Kt = (1, kindW t.kind) :: M := by
  obtain ⟨k1, k2, k3, k4, k5, k6, k7⟩ := kindW_ne t.kind
  unfold Ti.fineM at hf
  unfold modeS at h
  have ne1 : ∀ {a b : List Nat}, a ≠ b → ((1 : Int), a) ≠ (1, b) := fun h e => h (congrArg Prod.snd e)
  by_cases h0 : t.mode = 0
  · rw [if_pos h0] at hf h
    simp only [Bool.and_eq_true] at hf
    have hA : ∀ w : List Nat, w ≠ asc "main" → w ≠ asc "bonus" → w ≠ asc "extra" → kindW t.kind ≠ w → isT 1 w L = none := by
      intro w n1 n2 n3 n4
      unfold hitS at h
      by_cases a1 : t.main = 0 <;> by_cases a2 : t.bonus = 0 <;> by_cases a3 : t.extra = 0 <;> simp only [a1, a2, a3, ↓reduceIte, List.nil_append, List.append_nil, inK, List.map_cons, List.map_nil, List.cons_append, List.map_append] at h <;>
        exact is_not h (ne1 (by first | exact n4 | exact Ne.symm n1 | exact Ne.symm n2 | exact Ne.symm n3))
    have h' : L.map Kt = inK (hitS (asc "main") t.main) ++ (inK (hitS (asc "bonus") t.bonus) ++ (inK (hitS (asc "extra") t.extra) ++ (1, kindW t.kind) :: M)) := by
      rw [h]; simp [inK, List.map_append, List.append_assoc]
    obtain ⟨L1, e1, g1⟩ := hit_read hf.1.1 (by simp) (by
      unfold hitS
      by_cases a2 : t.bonus = 0 <;> by_cases a3 : t.extra = 0 <;> simp only [a2, a3, ↓reduceIte, List.nil_append, inK, List.map_cons, List.map_nil, List.cons_append, List.head?_cons, Option.mem_some_iff] <;> rintro x rfl <;> refine ne1 ?_ <;> first | exact k1 | decide +kernel) h'
    obtain ⟨L2, e2, g2⟩ := hit_read hf.1.2 (by simp) (by
      unfold hitS
      by_cases a3 : t.extra = 0 <;> simp only [a3, ↓reduceIte, List.nil_append, inK, List.map_cons, List.map_nil, List.cons_append, List.head?_cons, Option.mem_some_iff] <;> rintro x rfl <;> refine ne1 ?_ <;> first | exact k2 | decide +kernel) g1
    obtain ⟨L3, e3, g3⟩ := hit_read hf.2 (by simp) (by
      simp only [List.head?_cons, Option.mem_some_iff]; rintro x rfl; exact ne1 k3) g2
    refine ⟨L3, ?_, g3⟩
    unfold modeT
    rw [hA _ (by decide +kernel) (by decide +kernel) (by decide +kernel) k4, hA _ (by decide +kernel) (by decide +kernel) (by decide +kernel) k5, hA _ (by decide +kernel) (by decide +kernel) (by decide +kernel) k6, hA _ (by decide +kernel) (by decide +kernel) (by decide +kernel) k7]
    dsimp only
    rw [bindT_ok e1, bindT_ok e2, bindT_ok e3, h0]
  rw [if_neg h0] at hf h
  by_cases h12 : t.mode = 1 ∨ t.mode = 2
  · rw [if_pos h12] at hf
    simp only [Bool.and_eq_true, decide_eq_true_eq] at hf
    obtain ⟨⟨z1, z2⟩, z3⟩ := hf
    by_cases h1 : t.mode = 1
    · rw [if_pos h1] at h
      have h' : L.map Kt = (1, asc "exact") :: (1, kindW t.kind) :: M := h
      obtain ⟨e1, g1⟩ := st_is h' (by simp)
      refine ⟨_, ?_, g1⟩
      unfold modeT
      rw [e1, h1, z1, z2, z3]
    · have h2 := h12.resolve_left h1
      rw [if_neg h1, if_pos h2] at h
      have h' : L.map Kt = (1, asc "box") :: (1, kindW t.kind) :: M := h
      obtain ⟨e1, g1⟩ := st_is h' (by simp)
      refine ⟨_, ?_, g1⟩
      unfold modeT
      rw [is_not h' (ne1 (by decide +kernel)), e1, h2, z1, z2, z3]
  rw [if_neg h12] at hf
  rw [if_neg (fun e => h12 (.inl e)), if_neg (fun e => h12 (.inr e))] at h
  by_cases h34 : t.mode = 3 ∨ t.mode = 4
  · rw [if_pos h34] at hf
    simp only [Bool.and_eq_true, decide_eq_true_eq] at hf
    obtain ⟨⟨z2, z3⟩, hm⟩ := hf
    by_cases h3 : t.mode = 3
    · rw [if_pos h3] at h
      have h' : L.map Kt = (1, asc "front") :: (2, dec t.main.toNat) :: (1, kindW t.kind) :: M := h
      obtain ⟨e1, g1⟩ := st_is h' (by simp)
      obtain ⟨e2, g2⟩ := st_num hm g1 (by simp)
      refine ⟨_, ?_, g2⟩
      unfold modeT
      rw [is_not h' (ne1 (by decide +kernel)), is_not h' (ne1 (by decide +kernel)), e1]
      dsimp only
      rw [thenT_some e2, h3, z2, z3]
    · have h4 := h34.resolve_left h3
      rw [if_neg h3] at h
      have h' : L.map Kt = (1, asc "back") :: (2, dec t.main.toNat) :: (1, kindW t.kind) :: M := h
      obtain ⟨e1, g1⟩ := st_is h' (by simp)
      obtain ⟨e2, g2⟩ := st_num hm g1 (by simp)
      refine ⟨_, ?_, g2⟩
      unfold modeT
      rw [is_not h' (ne1 (by decide +kernel)), is_not h' (ne1 (by decide +kernel)), is_not h' (ne1 (by decide +kernel)), e1]
      dsimp only
      rw [thenT_some e2, h4, z2, z3]
  · rw [if_neg h34] at hf; cases hf
theorem tier_read {t : Ti} (hf : t.fine = true) {L : List Tk} {M : List (Int × List Nat)} (hM : M ≠ []) (h : L.map Kt = inK (modeS t) ++ (1, kindW t.kind) :: (2, dec t.value.toNat) :: M) : ∃ L', tierT L = .ok (t, L') ∧ L'.map Kt = M := by
  unfold Ti.fine at hf
  simp only [Bool.and_eq_true] at hf
  obtain ⟨L1, e1, h1⟩ := mode_read hf.1.1 h
  obtain ⟨n1, n2, n3⟩ := st_next h1 (by simp)
  obtain ⟨e2, h2⟩ := st_num hf.2 n3 hM
  refine ⟨_, ?_, h2⟩
  unfold tierT
  rw [bindT_ok e1, if_neg (fun e => e n1), n2, kindW_prize (by simpa using hf.1.2)]
  dsimp only
  rw [thenT_some e2]
theorem addon_read {a : Ad} (hf : a.fine = true) {L : List Tk} {M : List (Int × List Nat)} (hM : M ≠ []) (hk : ∀ x ∈ M.head?, x.1 ≠ 2)
    (h : L.map Kt = inK (if a.kind = 1 then (1, bs a.name) :: (1, asc "factor") :: (2, dec a.price.toNat) :: numS a.factors else (1, bs a.name) :: (1, asc "serial") :: (2, dec a.price.toNat) :: (2, dec a.digits.toNat) :: numS a.serials) ++ M) : ∃ L', addonT L = .ok (a, L') ∧ L'.map Kt = M := by
  unfold Ad.fine at hf
  rw [Bool.and_eq_true] at hf
  obtain ⟨hn, hf⟩ := hf
  by_cases h1 : a.kind = 1
  · rw [if_pos h1] at hf h
    simp only [Bool.and_eq_true, decide_eq_true_eq] at hf
    obtain ⟨⟨⟨z1, z2⟩, hp⟩, hl⟩ := hf
    have h' : L.map Kt = (1, bs a.name) :: (1, asc "factor") :: (2, dec a.price.toNat) :: (inK (numS a.factors) ++ M) := h
    obtain ⟨n1, n2, n3⟩ := st_next h' (by simp)
    obtain ⟨m1, m2, m3⟩ := st_next n3 (by simp)
    obtain ⟨e3, h3⟩ := st_num hp m3 (by intro e; exact hM (List.append_eq_nil_iff.1 e).2)
    obtain ⟨L', e4, h4⟩ := nums_read hM hk a.factors (nxT (nxT (nxT L))).length _ hl (by
      rw [st_len h3]; cases M with | nil => exact absurd rfl hM | cons x M => simp [inK, numS] <;> omega) h3
    refine ⟨L', ?_, h4⟩
    unfold addonT
    rw [if_neg (fun e => e n1), if_neg (fun e => e m1), if_pos m2, thenT_some e3, e4]
    have hnm := bs_inj n2
    have hs : a.serials = [] := List.eq_nil_of_length_eq_zero z2
    obtain ⟨nm, k, p, fs, dg, sr⟩ := a
    dsimp only at *
    subst h1 hs z1 hnm
    rfl
  · rw [if_neg h1] at hf h
    by_cases h2 : a.kind = 2
    · rw [if_pos h2] at hf
      simp only [Bool.and_eq_true, decide_eq_true_eq, and_true] at hf
      obtain ⟨⟨z1, hp, hd⟩, hl⟩ := hf
      have h' : L.map Kt = (1, bs a.name) :: (1, asc "serial") :: (2, dec a.price.toNat) :: (2, dec a.digits.toNat) :: (inK (numS a.serials) ++ M) := h
      obtain ⟨n1, n2, n3⟩ := st_next h' (by simp)
      obtain ⟨m1, m2, m3⟩ := st_next n3 (by simp)
      obtain ⟨e3, h3⟩ := st_num hp m3 (by simp)
      obtain ⟨e5, h5⟩ := st_num hd h3 (by intro e; exact hM (List.append_eq_nil_iff.1 e).2)
      obtain ⟨L', e4, h4⟩ := nums_read hM hk a.serials (nxT (nxT (nxT (nxT L)))).length _ hl (by
        rw [st_len h5]; cases M with | nil => exact absurd rfl hM | cons x M => simp [inK, numS] <;> omega) h5
      refine ⟨L', ?_, h4⟩
      unfold addonT
      rw [if_neg (fun e => e n1), if_neg (fun e => e m1), if_neg (by rw [m2]; decide +kernel), if_pos m2, thenT_some e3, thenT_some e5, e4]
      have hnm := bs_inj n2
      have hs : a.factors = [] := List.eq_nil_of_length_eq_zero z1
      obtain ⟨nm, k, p, fs, dg, sr⟩ := a
      dsimp only at *
      subst h2 hs hnm
      rfl
    · rw [if_neg h2] at hf; cases hf
theorem simple_ne {w : List Nat} (h : (simpleI w).isSome = true) : w ≠ asc "choose" ∧ w ≠ asc "digits" ∧ w ≠ asc "bonus" ∧ w ≠ asc "days" ∧ w ≠ asc "addon" ∧ w ≠ asc "tier" := by
  have hm := simple_mem h
  refine ⟨?_, ?_, ?_, ?_, ?_, ?_⟩ <;> (rintro rfl; exact absurd hm (by decide +kernel))
/-- One item is read. -/
theorem item_read {i : It} (hf : i.fine = true) (hw : i.wok = true) (hz : ∀ d t, i = .days d t → d ≠ 0) {L : List Tk} {M : List (Int × List Nat)} (hM : M ≠ []) (hk : ∀ x ∈ M.head?, x.1 ≠ 2) (h : L.map Kt = inK i.toks ++ M) {g : Gm} {seen : List (List Nat)}
    (hs : ∀ k, i.key = some k → k ∉ seen) : ∃ L', itemG L g seen = .ok ((i.eff g, i.see seen), L') ∧ L'.map Kt = M := by
  cases i with
  | two w a b =>
    simp only [It.fine, Bool.and_eq_true] at hf
    have h' : L.map Kt = (1, w) :: (2, dec a.toNat) :: (1, asc "of") :: (2, dec b.toNat) :: M := h
    obtain ⟨n1, n2, n3⟩ := st_next h' (by simp)
    obtain ⟨L', e, k⟩ := pair_read hf.1 hf.2 hM n3
    refine ⟨L', ?_, k⟩
    have hs := hs _ rfl
    unfold itemG
    rw [if_neg (fun e => e n1), n2]
    by_cases hb : w = asc "bonus"
    · subst hb
      rw [if_pos rfl] at hs
      rw [if_neg (by decide +kernel), if_pos rfl, if_neg hs, bindT_ok e]
      simp only [It.eff, It.see, It.key, if_pos]
    · have hcd : w = asc "choose" ∨ w = asc "digits" := by simpa [It.wok, hb] using hw
      rw [if_neg hb] at hs
      rw [if_pos hcd, if_neg hs, bindT_ok e]
      simp only [It.eff, It.see, It.key, if_neg hb]
  | num w n =>
    have h' : L.map Kt = (1, w) :: (2, dec n.toNat) :: M := h
    obtain ⟨n1, n2, n3⟩ := st_next h' (by simp)
    obtain ⟨e, k⟩ := st_num hf n3 hM
    refine ⟨_, ?_, k⟩
    have hs := hs _ rfl
    obtain ⟨w1, w2, w3, w4, w5, w6⟩ := simple_ne hw
    obtain ⟨j, hj⟩ : ∃ j, simpleI w = some j := Option.isSome_iff_exists.1 hw
    unfold itemG
    rw [if_neg (fun e => e n1), n2, if_neg (fun e => e.elim w1 w2), if_neg w3, if_neg w4, if_neg w5, if_neg w6, hj]
    dsimp only
    rw [if_neg hs, thenT_some e]
    simp only [It.eff, It.see, It.key, hj]
  | days d t =>
    simp only [It.fine, Bool.and_eq_true, decide_eq_true_eq] at hf
    have h' : L.map Kt = (1, asc "days") :: (inK (dayX (dayB d)) ++ (1, asc "at") :: (2, dec (t / 60).toNat) :: (3, asc ":") :: (2, dec (t % 60).toNat) :: M) := by
      rw [h]; simp [It.toks, inK, List.map_append]
    obtain ⟨n1, n2, n3⟩ := st_next h' (by simp)
    obtain ⟨L', e, k⟩ := day_read (hz d t rfl) hf.1.1 hf.1.2 hf.2 hM n3
    refine ⟨L', ?_, k⟩
    have hs := hs _ rfl
    unfold itemG
    rw [if_neg (fun e => e n1), n2, if_neg (by decide +kernel), if_neg (by decide +kernel), if_pos rfl, if_neg hs, bindT_ok e]
    rfl
  | addon a =>
    have h' : L.map Kt = (1, asc "addon") :: (inK (if a.kind = 1 then (1, bs a.name) :: (1, asc "factor") :: (2, dec a.price.toNat) :: numS a.factors else (1, bs a.name) :: (1, asc "serial") :: (2, dec a.price.toNat) :: (2, dec a.digits.toNat) :: numS a.serials) ++ M) := by
      rw [h]; by_cases e : a.kind = 1
      · simp only [It.toks, if_pos e]; rfl
      · simp only [It.toks, if_neg e]; rfl
    obtain ⟨n1, n2, n3⟩ := st_next h' (by intro e; exact hM (List.append_eq_nil_iff.1 e).2)
    obtain ⟨L', e, k⟩ := addon_read hf hM hk n3
    refine ⟨L', ?_, k⟩
    unfold itemG
    rw [if_neg (fun e => e n1), n2, if_neg (by decide +kernel), if_neg (by decide +kernel), if_neg (by decide +kernel), if_pos rfl, bindT_ok e]
    rfl
  | tier t =>
    have h' : L.map Kt = (1, asc "tier") :: (inK (modeS t) ++ (1, kindW t.kind) :: (2, dec t.value.toNat) :: M) := by
      rw [h]; simp [It.toks, inK, List.map_append]
    obtain ⟨n1, n2, n3⟩ := st_next h' (by simp)
    obtain ⟨L', e, k⟩ := tier_read hf hM n3
    refine ⟨L', ?_, k⟩
    unfold itemG
    rw [if_neg (fun e => e n1), n2, if_neg (by decide +kernel), if_neg (by decide +kernel), if_neg (by decide +kernel), if_neg (by decide +kernel), if_pos rfl, bindT_ok e]
    rfl
end Go.Proofs.YtbdkggnajipdhaaGreatDoor
/- Walks: the reader of a game's tokens: simple, item. -/
namespace Go.Proofs.YtbdkggnajipdhaaGreatDoor
open Nat (reduceAdd reduceMul reduceSub reduceEqDiff reduceLT reduceLeDiff)
open Go.RowKit
set_option maxRecDepth 100000
set_option maxHeartbeats 1000000 in
theorem simple_any (g o : Nat) (s : ByteArray) (w : World) : Calls Tryz.prog 107 #[.pointer (some ⟨g, o, none⟩), .string s] w fun e w' => e = .returned (.pointer ((simpleI (bs s)).map fun i => ⟨g, o + (i + 1), none⟩)) ∧ w = w' := by
  refine calls_W (l := [_, _]) Tryz.func107 rfl _ Tryz.ntmps107 (by simp) ?_
  generalize hr : (Value.pointer ((simpleI (bs s)).map fun i => ⟨g, o + (i + 1), none⟩)) = r
  refine W_piece fun K hK hX => ?_
  simp +contextual (maxSteps := 2000000) (disch := first | omega | (simp only [SZ]; first | done | omega) | (simp only [TS] at *; omega)) only [RZ, ovw, oneC, reduceAdd, reduceMul, reduceSub, reduceEqDiff, reduceLT, ↓reduceIte, Int.reduceToNat, reduceLeDiff]
  refine hK _ _ ?_
  clear hK hX K
  rw [W_seq]
  refine W_piece fun K hK hX => ?_
  simp +contextual (maxSteps := 2000000) (disch := first | omega | (simp only [SZ]; first | done | omega) | (simp only [TS] at *; omega)) only [RZ, ovw, oneC, reduceAdd, reduceMul, reduceSub, reduceEqDiff, reduceLT, ↓reduceIte, Int.reduceToNat, reduceLeDiff]
  refine hK _ _ ?_
  clear hK hX K
  rw [W_block]
  have b0 : bs ⟨#[101, 120, 116, 114, 97]⟩ = asc "extra" := by decide +kernel
  have b1 : bs ⟨#[112, 114, 105, 99, 101]⟩ = asc "price" := by decide +kernel
  have b2 : bs ⟨#[100, 114, 97, 119, 115]⟩ = asc "draws" := by decide +kernel
  have b3 : bs ⟨#[115, 121, 115, 116, 101, 109]⟩ = asc "system" := by decide +kernel
  have b4 : bs ⟨#[99, 108, 111, 115, 101]⟩ = asc "close" := by decide +kernel
  have b5 : bs ⟨#[99, 97, 110, 99, 101, 108]⟩ = asc "cancel" := by decide +kernel
  have b6 : bs ⟨#[101, 120, 112, 105, 114, 121]⟩ = asc "expiry" := by decide +kernel
  have b7 : bs ⟨#[112, 111, 111, 108]⟩ = asc "pool" := by decide +kernel
  have b8 : bs ⟨#[114, 101, 115, 101, 114, 118, 101]⟩ = asc "reserve" := by decide +kernel
  have b9 : bs ⟨#[114, 111, 117, 110, 100]⟩ = asc "round" := by decide +kernel
  have b10 : bs ⟨#[99, 97, 112]⟩ = asc "cap" := by decide +kernel
  have b11 : bs ⟨#[114, 111, 108, 108, 115]⟩ = asc "rolls" := by decide +kernel
  refine W_piece fun K hK hX => ?_
  by_cases x0 : s = ⟨#[101, 120, 116, 114, 97]⟩
  · have e1 : (s = ⟨#[101, 120, 116, 114, 97]⟩) = True := eq_true x0
    simp +contextual (maxSteps := 2000000) (disch := first | omega | (simp only [SZ]; first | done | omega) | (simp only [TS] at *; omega)) only [RZ, ovw, oneC, reduceAdd, reduceMul, reduceSub, reduceEqDiff, reduceLT, ↓reduceIte, Int.reduceToNat, reduceLeDiff,  e1]
    refine hK _ _ ?_
    clear hK hX K
    refine W_if_t rfl ?_
    have hp : simpleI (bs s) = some 6 := by rw [x0, b0]; decide +kernel
    rw [hp] at hr
    simp +contextual (maxSteps := 2000000) (disch := first | omega | (simp only [SZ]; first | done | omega) | (simp only [TS] at *; omega)) only [RZ, ovw, oneC, reduceAdd, reduceMul, reduceSub, reduceEqDiff, reduceLT, ↓reduceIte, Int.reduceToNat, reduceLeDiff]
    exact congrArg Ending.returned hr
  have e20 : (s = ⟨#[101, 120, 116, 114, 97]⟩) = False := eq_false x0
  simp +contextual (maxSteps := 2000000) (disch := first | omega | (simp only [SZ]; first | done | omega) | (simp only [TS] at *; omega)) only [RZ, ovw, oneC, reduceAdd, reduceMul, reduceSub, reduceEqDiff, reduceLT, ↓reduceIte, Int.reduceToNat, reduceLeDiff,  e20]
  refine hK _ _ ?_
  clear hK hX K
  refine W_if_f rfl ?_
  refine W_piece fun K hK hX => ?_
  by_cases x1 : s = ⟨#[112, 114, 105, 99, 101]⟩
  · have e1 : (s = ⟨#[112, 114, 105, 99, 101]⟩) = True := eq_true x1
    simp +contextual (maxSteps := 2000000) (disch := first | omega | (simp only [SZ]; first | done | omega) | (simp only [TS] at *; omega)) only [RZ, ovw, oneC, reduceAdd, reduceMul, reduceSub, reduceEqDiff, reduceLT, ↓reduceIte, Int.reduceToNat, reduceLeDiff,  e1]
    refine hK _ _ ?_
    clear hK hX K
    refine W_if_t rfl ?_
    have hp : simpleI (bs s) = some 1 := by rw [x1, b1]; decide +kernel
    rw [hp] at hr
    simp +contextual (maxSteps := 2000000) (disch := first | omega | (simp only [SZ]; first | done | omega) | (simp only [TS] at *; omega)) only [RZ, ovw, oneC, reduceAdd, reduceMul, reduceSub, reduceEqDiff, reduceLT, ↓reduceIte, Int.reduceToNat, reduceLeDiff]
    exact congrArg Ending.returned hr
  have e21 : (s = ⟨#[112, 114, 105, 99, 101]⟩) = False := eq_false x1
  simp +contextual (maxSteps := 2000000) (disch := first | omega | (simp only [SZ]; first | done | omega) | (simp only [TS] at *; omega)) only [RZ, ovw, oneC, reduceAdd, reduceMul, reduceSub, reduceEqDiff, reduceLT, ↓reduceIte, Int.reduceToNat, reduceLeDiff,  e21]
  refine hK _ _ ?_
  clear hK hX K
  refine W_if_f rfl ?_
  refine W_piece fun K hK hX => ?_
  by_cases x2 : s = ⟨#[100, 114, 97, 119, 115]⟩
  · have e1 : (s = ⟨#[100, 114, 97, 119, 115]⟩) = True := eq_true x2
    simp +contextual (maxSteps := 2000000) (disch := first | omega | (simp only [SZ]; first | done | omega) | (simp only [TS] at *; omega)) only [RZ, ovw, oneC, reduceAdd, reduceMul, reduceSub, reduceEqDiff, reduceLT, ↓reduceIte, Int.reduceToNat, reduceLeDiff,  e1]
    refine hK _ _ ?_
    clear hK hX K
    refine W_if_t rfl ?_
    have hp : simpleI (bs s) = some 7 := by rw [x2, b2]; decide +kernel
    rw [hp] at hr
    simp +contextual (maxSteps := 2000000) (disch := first | omega | (simp only [SZ]; first | done | omega) | (simp only [TS] at *; omega)) only [RZ, ovw, oneC, reduceAdd, reduceMul, reduceSub, reduceEqDiff, reduceLT, ↓reduceIte, Int.reduceToNat, reduceLeDiff]
    exact congrArg Ending.returned hr
  have e22 : (s = ⟨#[100, 114, 97, 119, 115]⟩) = False := eq_false x2
  simp +contextual (maxSteps := 2000000) (disch := first | omega | (simp only [SZ]; first | done | omega) | (simp only [TS] at *; omega)) only [RZ, ovw, oneC, reduceAdd, reduceMul, reduceSub, reduceEqDiff, reduceLT, ↓reduceIte, Int.reduceToNat, reduceLeDiff,  e22]
  refine hK _ _ ?_
  clear hK hX K
  refine W_if_f rfl ?_
  refine W_piece fun K hK hX => ?_
  by_cases x3 : s = ⟨#[115, 121, 115, 116, 101, 109]⟩
  · have e1 : (s = ⟨#[115, 121, 115, 116, 101, 109]⟩) = True := eq_true x3
    simp +contextual (maxSteps := 2000000) (disch := first | omega | (simp only [SZ]; first | done | omega) | (simp only [TS] at *; omega)) only [RZ, ovw, oneC, reduceAdd, reduceMul, reduceSub, reduceEqDiff, reduceLT, ↓reduceIte, Int.reduceToNat, reduceLeDiff,  e1]
    refine hK _ _ ?_
    clear hK hX K
    refine W_if_t rfl ?_
    have hp : simpleI (bs s) = some 8 := by rw [x3, b3]; decide +kernel
    rw [hp] at hr
    simp +contextual (maxSteps := 2000000) (disch := first | omega | (simp only [SZ]; first | done | omega) | (simp only [TS] at *; omega)) only [RZ, ovw, oneC, reduceAdd, reduceMul, reduceSub, reduceEqDiff, reduceLT, ↓reduceIte, Int.reduceToNat, reduceLeDiff]
    exact congrArg Ending.returned hr
  have e23 : (s = ⟨#[115, 121, 115, 116, 101, 109]⟩) = False := eq_false x3
  simp +contextual (maxSteps := 2000000) (disch := first | omega | (simp only [SZ]; first | done | omega) | (simp only [TS] at *; omega)) only [RZ, ovw, oneC, reduceAdd, reduceMul, reduceSub, reduceEqDiff, reduceLT, ↓reduceIte, Int.reduceToNat, reduceLeDiff,  e23]
  refine hK _ _ ?_
  clear hK hX K
  refine W_if_f rfl ?_
  refine W_piece fun K hK hX => ?_
  by_cases x4 : s = ⟨#[99, 108, 111, 115, 101]⟩
  · have e1 : (s = ⟨#[99, 108, 111, 115, 101]⟩) = True := eq_true x4
    simp +contextual (maxSteps := 2000000) (disch := first | omega | (simp only [SZ]; first | done | omega) | (simp only [TS] at *; omega)) only [RZ, ovw, oneC, reduceAdd, reduceMul, reduceSub, reduceEqDiff, reduceLT, ↓reduceIte, Int.reduceToNat, reduceLeDiff,  e1]
    refine hK _ _ ?_
    clear hK hX K
    refine W_if_t rfl ?_
    have hp : simpleI (bs s) = some 11 := by rw [x4, b4]; decide +kernel
    rw [hp] at hr
    simp +contextual (maxSteps := 2000000) (disch := first | omega | (simp only [SZ]; first | done | omega) | (simp only [TS] at *; omega)) only [RZ, ovw, oneC, reduceAdd, reduceMul, reduceSub, reduceEqDiff, reduceLT, ↓reduceIte, Int.reduceToNat, reduceLeDiff]
    exact congrArg Ending.returned hr
  have e24 : (s = ⟨#[99, 108, 111, 115, 101]⟩) = False := eq_false x4
  simp +contextual (maxSteps := 2000000) (disch := first | omega | (simp only [SZ]; first | done | omega) | (simp only [TS] at *; omega)) only [RZ, ovw, oneC, reduceAdd, reduceMul, reduceSub, reduceEqDiff, reduceLT, ↓reduceIte, Int.reduceToNat, reduceLeDiff,  e24]
  refine hK _ _ ?_
  clear hK hX K
  refine W_if_f rfl ?_
  refine W_piece fun K hK hX => ?_
  by_cases x5 : s = ⟨#[99, 97, 110, 99, 101, 108]⟩
  · have e1 : (s = ⟨#[99, 97, 110, 99, 101, 108]⟩) = True := eq_true x5
    simp +contextual (maxSteps := 2000000) (disch := first | omega | (simp only [SZ]; first | done | omega) | (simp only [TS] at *; omega)) only [RZ, ovw, oneC, reduceAdd, reduceMul, reduceSub, reduceEqDiff, reduceLT, ↓reduceIte, Int.reduceToNat, reduceLeDiff,  e1]
    refine hK _ _ ?_
    clear hK hX K
    refine W_if_t rfl ?_
    have hp : simpleI (bs s) = some 12 := by rw [x5, b5]; decide +kernel
    rw [hp] at hr
    simp +contextual (maxSteps := 2000000) (disch := first | omega | (simp only [SZ]; first | done | omega) | (simp only [TS] at *; omega)) only [RZ, ovw, oneC, reduceAdd, reduceMul, reduceSub, reduceEqDiff, reduceLT, ↓reduceIte, Int.reduceToNat, reduceLeDiff]
    exact congrArg Ending.returned hr
  have e25 : (s = ⟨#[99, 97, 110, 99, 101, 108]⟩) = False := eq_false x5
  simp +contextual (maxSteps := 2000000) (disch := first | omega | (simp only [SZ]; first | done | omega) | (simp only [TS] at *; omega)) only [RZ, ovw, oneC, reduceAdd, reduceMul, reduceSub, reduceEqDiff, reduceLT, ↓reduceIte, Int.reduceToNat, reduceLeDiff,  e25]
  refine hK _ _ ?_
  clear hK hX K
  refine W_if_f rfl ?_
  refine W_piece fun K hK hX => ?_
  by_cases x6 : s = ⟨#[101, 120, 112, 105, 114, 121]⟩
  · have e1 : (s = ⟨#[101, 120, 112, 105, 114, 121]⟩) = True := eq_true x6
    simp +contextual (maxSteps := 2000000) (disch := first | omega | (simp only [SZ]; first | done | omega) | (simp only [TS] at *; omega)) only [RZ, ovw, oneC, reduceAdd, reduceMul, reduceSub, reduceEqDiff, reduceLT, ↓reduceIte, Int.reduceToNat, reduceLeDiff,  e1]
    refine hK _ _ ?_
    clear hK hX K
    refine W_if_t rfl ?_
    have hp : simpleI (bs s) = some 13 := by rw [x6, b6]; decide +kernel
    rw [hp] at hr
    simp +contextual (maxSteps := 2000000) (disch := first | omega | (simp only [SZ]; first | done | omega) | (simp only [TS] at *; omega)) only [RZ, ovw, oneC, reduceAdd, reduceMul, reduceSub, reduceEqDiff, reduceLT, ↓reduceIte, Int.reduceToNat, reduceLeDiff]
    exact congrArg Ending.returned hr
  have e26 : (s = ⟨#[101, 120, 112, 105, 114, 121]⟩) = False := eq_false x6
  simp +contextual (maxSteps := 2000000) (disch := first | omega | (simp only [SZ]; first | done | omega) | (simp only [TS] at *; omega)) only [RZ, ovw, oneC, reduceAdd, reduceMul, reduceSub, reduceEqDiff, reduceLT, ↓reduceIte, Int.reduceToNat, reduceLeDiff,  e26]
  refine hK _ _ ?_
  clear hK hX K
  refine W_if_f rfl ?_
  refine W_piece fun K hK hX => ?_
  by_cases x7 : s = ⟨#[112, 111, 111, 108]⟩
  · have e1 : (s = ⟨#[112, 111, 111, 108]⟩) = True := eq_true x7
    simp +contextual (maxSteps := 2000000) (disch := first | omega | (simp only [SZ]; first | done | omega) | (simp only [TS] at *; omega)) only [RZ, ovw, oneC, reduceAdd, reduceMul, reduceSub, reduceEqDiff, reduceLT, ↓reduceIte, Int.reduceToNat, reduceLeDiff,  e1]
    refine hK _ _ ?_
    clear hK hX K
    refine W_if_t rfl ?_
    have hp : simpleI (bs s) = some 14 := by rw [x7, b7]; decide +kernel
    rw [hp] at hr
    simp +contextual (maxSteps := 2000000) (disch := first | omega | (simp only [SZ]; first | done | omega) | (simp only [TS] at *; omega)) only [RZ, ovw, oneC, reduceAdd, reduceMul, reduceSub, reduceEqDiff, reduceLT, ↓reduceIte, Int.reduceToNat, reduceLeDiff]
    exact congrArg Ending.returned hr
  have e27 : (s = ⟨#[112, 111, 111, 108]⟩) = False := eq_false x7
  simp +contextual (maxSteps := 2000000) (disch := first | omega | (simp only [SZ]; first | done | omega) | (simp only [TS] at *; omega)) only [RZ, ovw, oneC, reduceAdd, reduceMul, reduceSub, reduceEqDiff, reduceLT, ↓reduceIte, Int.reduceToNat, reduceLeDiff,  e27]
  refine hK _ _ ?_
  clear hK hX K
  refine W_if_f rfl ?_
  refine W_piece fun K hK hX => ?_
  by_cases x8 : s = ⟨#[114, 101, 115, 101, 114, 118, 101]⟩
  · have e1 : (s = ⟨#[114, 101, 115, 101, 114, 118, 101]⟩) = True := eq_true x8
    simp +contextual (maxSteps := 2000000) (disch := first | omega | (simp only [SZ]; first | done | omega) | (simp only [TS] at *; omega)) only [RZ, ovw, oneC, reduceAdd, reduceMul, reduceSub, reduceEqDiff, reduceLT, ↓reduceIte, Int.reduceToNat, reduceLeDiff,  e1]
    refine hK _ _ ?_
    clear hK hX K
    refine W_if_t rfl ?_
    have hp : simpleI (bs s) = some 15 := by rw [x8, b8]; decide +kernel
    rw [hp] at hr
    simp +contextual (maxSteps := 2000000) (disch := first | omega | (simp only [SZ]; first | done | omega) | (simp only [TS] at *; omega)) only [RZ, ovw, oneC, reduceAdd, reduceMul, reduceSub, reduceEqDiff, reduceLT, ↓reduceIte, Int.reduceToNat, reduceLeDiff]
    exact congrArg Ending.returned hr
  have e28 : (s = ⟨#[114, 101, 115, 101, 114, 118, 101]⟩) = False := eq_false x8
  simp +contextual (maxSteps := 2000000) (disch := first | omega | (simp only [SZ]; first | done | omega) | (simp only [TS] at *; omega)) only [RZ, ovw, oneC, reduceAdd, reduceMul, reduceSub, reduceEqDiff, reduceLT, ↓reduceIte, Int.reduceToNat, reduceLeDiff,  e28]
  refine hK _ _ ?_
  clear hK hX K
  refine W_if_f rfl ?_
  refine W_piece fun K hK hX => ?_
  by_cases x9 : s = ⟨#[114, 111, 117, 110, 100]⟩
  · have e1 : (s = ⟨#[114, 111, 117, 110, 100]⟩) = True := eq_true x9
    simp +contextual (maxSteps := 2000000) (disch := first | omega | (simp only [SZ]; first | done | omega) | (simp only [TS] at *; omega)) only [RZ, ovw, oneC, reduceAdd, reduceMul, reduceSub, reduceEqDiff, reduceLT, ↓reduceIte, Int.reduceToNat, reduceLeDiff,  e1]
    refine hK _ _ ?_
    clear hK hX K
    refine W_if_t rfl ?_
    have hp : simpleI (bs s) = some 16 := by rw [x9, b9]; decide +kernel
    rw [hp] at hr
    simp +contextual (maxSteps := 2000000) (disch := first | omega | (simp only [SZ]; first | done | omega) | (simp only [TS] at *; omega)) only [RZ, ovw, oneC, reduceAdd, reduceMul, reduceSub, reduceEqDiff, reduceLT, ↓reduceIte, Int.reduceToNat, reduceLeDiff]
    exact congrArg Ending.returned hr
  have e29 : (s = ⟨#[114, 111, 117, 110, 100]⟩) = False := eq_false x9
  simp +contextual (maxSteps := 2000000) (disch := first | omega | (simp only [SZ]; first | done | omega) | (simp only [TS] at *; omega)) only [RZ, ovw, oneC, reduceAdd, reduceMul, reduceSub, reduceEqDiff, reduceLT, ↓reduceIte, Int.reduceToNat, reduceLeDiff,  e29]
  refine hK _ _ ?_
  clear hK hX K
  refine W_if_f rfl ?_
  refine W_piece fun K hK hX => ?_
  by_cases x10 : s = ⟨#[99, 97, 112]⟩
  · have e1 : (s = ⟨#[99, 97, 112]⟩) = True := eq_true x10
    simp +contextual (maxSteps := 2000000) (disch := first | omega | (simp only [SZ]; first | done | omega) | (simp only [TS] at *; omega)) only [RZ, ovw, oneC, reduceAdd, reduceMul, reduceSub, reduceEqDiff, reduceLT, ↓reduceIte, Int.reduceToNat, reduceLeDiff,  e1]
    refine hK _ _ ?_
    clear hK hX K
    refine W_if_t rfl ?_
    have hp : simpleI (bs s) = some 17 := by rw [x10, b10]; decide +kernel
    rw [hp] at hr
    simp +contextual (maxSteps := 2000000) (disch := first | omega | (simp only [SZ]; first | done | omega) | (simp only [TS] at *; omega)) only [RZ, ovw, oneC, reduceAdd, reduceMul, reduceSub, reduceEqDiff, reduceLT, ↓reduceIte, Int.reduceToNat, reduceLeDiff]
    exact congrArg Ending.returned hr
  have e30 : (s = ⟨#[99, 97, 112]⟩) = False := eq_false x10
  simp +contextual (maxSteps := 2000000) (disch := first | omega | (simp only [SZ]; first | done | omega) | (simp only [TS] at *; omega)) only [RZ, ovw, oneC, reduceAdd, reduceMul, reduceSub, reduceEqDiff, reduceLT, ↓reduceIte, Int.reduceToNat, reduceLeDiff,  e30]
  refine hK _ _ ?_
  clear hK hX K
  refine W_if_f rfl ?_
  refine W_piece fun K hK hX => ?_
  by_cases x11 : s = ⟨#[114, 111, 108, 108, 115]⟩
  · have e1 : (s = ⟨#[114, 111, 108, 108, 115]⟩) = True := eq_true x11
    simp +contextual (maxSteps := 2000000) (disch := first | omega | (simp only [SZ]; first | done | omega) | (simp only [TS] at *; omega)) only [RZ, ovw, oneC, reduceAdd, reduceMul, reduceSub, reduceEqDiff, reduceLT, ↓reduceIte, Int.reduceToNat, reduceLeDiff,  e1]
    refine hK _ _ ?_
    clear hK hX K
    refine W_if_t rfl ?_
    have hp : simpleI (bs s) = some 18 := by rw [x11, b11]; decide +kernel
    rw [hp] at hr
    simp +contextual (maxSteps := 2000000) (disch := first | omega | (simp only [SZ]; first | done | omega) | (simp only [TS] at *; omega)) only [RZ, ovw, oneC, reduceAdd, reduceMul, reduceSub, reduceEqDiff, reduceLT, ↓reduceIte, Int.reduceToNat, reduceLeDiff]
    exact congrArg Ending.returned hr
  have e31 : (s = ⟨#[114, 111, 108, 108, 115]⟩) = False := eq_false x11
  simp +contextual (maxSteps := 2000000) (disch := first | omega | (simp only [SZ]; first | done | omega) | (simp only [TS] at *; omega)) only [RZ, ovw, oneC, reduceAdd, reduceMul, reduceSub, reduceEqDiff, reduceLT, ↓reduceIte, Int.reduceToNat, reduceLeDiff,  e31]
  refine hK _ _ ?_
  clear hK hX K
  refine W_if_f rfl ?_
  have hp : simpleI (bs s) = none := by unfold simpleI; rw [if_neg (fun h => x0 (bs_inj (h.trans b0.symm))), if_neg (fun h => x1 (bs_inj (h.trans b1.symm))), if_neg (fun h => x2 (bs_inj (h.trans b2.symm))), if_neg (fun h => x3 (bs_inj (h.trans b3.symm))), if_neg (fun h => x4 (bs_inj (h.trans b4.symm))), if_neg (fun h => x5 (bs_inj (h.trans b5.symm))), if_neg (fun h => x6 (bs_inj (h.trans b6.symm))), if_neg (fun h => x7 (bs_inj (h.trans b7.symm))), if_neg (fun h => x8 (bs_inj (h.trans b8.symm))), if_neg (fun h => x9 (bs_inj (h.trans b9.symm))), if_neg (fun h => x10 (bs_inj (h.trans b10.symm))), if_neg (fun h => x11 (bs_inj (h.trans b11.symm)))]
  rw [hp] at hr
  simp +contextual (maxSteps := 2000000) (disch := first | omega | (simp only [SZ]; first | done | omega) | (simp only [TS] at *; omega)) only [RZ, ovw, oneC, reduceAdd, reduceMul, reduceSub, reduceEqDiff, reduceLT, ↓reduceIte, Int.reduceToNat, reduceLeDiff]
  exact congrArg Ending.returned hr
section
variable {base g gs c a : Nat} {A : Option Addr} {T : List Tk} {w : World} {G : Gm} {seen : List (List Nat)} {Va Vt : Value} {Vs : List (List Value)}
theorem pair_len {L L' : List Tk} {x : Int × Int} (h : pairT L = .ok (x, L')) : L'.length ≤ L.length := by
  unfold pairT at h
  obtain ⟨y, h1, h⟩ := then_ok h
  obtain ⟨L2, h2, h⟩ := then_ok h
  obtain ⟨z, h3, h⟩ := then_ok h
  have := num_len h1
  have := is_len h2
  have := num_len h3
  injection h with h
  injection h with _ h
  subst h
  omega
theorem less_len {m : Int} {L : List Tk} {x : Int × List Tk} (h : lessT m L = some x) : x.2.length ≤ L.length := by
  unfold lessT at h
  cases hn : numT L with
  | none => rw [hn] at h; cases h
  | some y =>
    rw [hn] at h
    dsimp only at h
    split at h
    · injection h with h; subst h; exact num_len hn
    · cases h
theorem bind_ok {α β : Type} {x : Except (Int × List Tk) α} {f : α → Except (Int × List Tk) β} {b : β} (h : bindT x f = .ok b) : ∃ a, x = .ok a ∧ f a = .ok b := by
  cases x with
  | ok a => exact ⟨a, rfl, h⟩
  | error e => cases h
theorem days_len : ∀ (f : Nat) (L : List Tk) (d : Nat) (x : Nat × List Tk), daysT f L d = .ok x → x.2.length ≤ L.length
  | 0, L, d, x, h => by cases h
  | f + 1, L, d, x, h => by
    unfold daysT at h
    split at h
    · injection h with h; subst h; exact nx_len L
    · split at h
      · cases h
      · cases hd : dayI (bs (hdT L).text) with
        | none => rw [hd] at h; cases h
        | some i =>
          rw [hd] at h
          dsimp only at h
          split at h
          · cases h
          · exact Nat.le_trans (days_len f _ _ x h) (nx_len L)
theorem day_len {L L' : List Tk} {x : Int × Int} (h : dayT L = .ok (x, L')) : L'.length ≤ L.length := by
  unfold dayT at h
  obtain ⟨d, h0, h⟩ := bind_ok h
  obtain ⟨y, h1, h⟩ := then_ok h
  obtain ⟨L2, h2, h⟩ := then_ok h
  obtain ⟨z, h3, h⟩ := then_ok h
  have := days_len _ _ _ _ h0
  have := less_len h1
  have := is_len h2
  have := less_len h3
  injection h with h
  injection h with _ h
  subst h
  omega
theorem simpleW_lt : (simpleW.all fun w => match simpleI w with | some i => decide (i < 19) && decide (i ≠ 9) | none => true) = true := by decide +kernel
theorem simple_lt {w : List Nat} {i : Nat} (h : simpleI w = some i) : i < 19 ∧ i ≠ 9 := by
  have := List.all_eq_true.1 simpleW_lt w (simple_mem (by rw [h]; rfl))
  rw [h] at this
  simpa using this
/-- A number is set. -/
theorem GmSt.setN (h : GmSt w base g gs A c T a G seen Va Vt Vs) {i : Nat} (hi : i < 19) (h9 : i ≠ 9) (v : Int) : GmSt (w.setCell ⟨g, i + 4, none⟩ (.int .i64 v)) base g gs A c T a { G with n := putN G.n i v } seen Va Vt Vs :=
  h.step ((Kept.refl [g] w).setCell (p := ⟨g, i + 4, none⟩) (by simp) _) (h.pk.setN hi v) (Nat.le_refl _) (fun e => by
    have := h.days e
    unfold putN
    rw [if_neg (fun e => h9 e.symm)]
    exact this)
theorem GmSt.cellN (h : GmSt w base g gs A c T a G seen Va Vt Vs) {i : Nat} (hi : i < 19) : w.cell? ⟨g, i + 4, none⟩ = some (.int .i64 (G.n i)) :=
  h.pk.row.cell (i := i + 4) (by
    rw [show i + 4 = i + 1 + 1 + 1 + 1 from rfl, List.getElem?_cons_succ, List.getElem?_cons_succ, List.getElem?_cons_succ]
    exact gmV_get G Va Vt hi)
/-- once, and what stands behind it. -/
theorem paOnceG {R : Value → World → Prop} {X : List PanicEntry → World → Prop} (h : GmSt w base g gs A c T a G seen Va Vt Vs) (hT : TokOk T) (t : Tk) (s : ByteArray)
    (h1 : ∀ w', bs s ∉ seen → Kept [gs] w w' → GmSt w' base g gs A c T a G (bs s :: seen) Va Vt Vs → R (.tuple #[]) w')
    (h2 : ∀ w', bs s ∈ seen → Kept [gs] w w' → X [{ v := failV 6 t.line, recovered := false }] w') :
    Calls Tryz.prog 102 #[.pointer (some ⟨g, 0, none⟩), .string s, .agg (encTk t).toArray] w (Ends R X) := by
  refine (paOnce_any h.pk hT h.sn h.hg.2.2.2 (fun b o e => by have := h.toks b o e; have := h.hg; omega) t s).mono fun e w' he => ?_
  by_cases hin : bs s ∈ seen
  · rw [if_pos hin] at he
    obtain ⟨rfl, k⟩ := he
    exact h2 w' hin k
  · rw [if_neg hin] at he
    obtain ⟨rfl, p, sn, k⟩ := he
    exact h1 w' hin k (h.once k sn p (fun e e' => e (List.mem_cons_of_mem _ e')))
theorem putN_twice (n : Nat → Int) (i : Nat) (u v : Int) : putN (putN n i u) i v = putN n i v := by
  funext j; unfold putN; split <;> rfl
set_option maxHeartbeats 4000000 in
theorem paItem_any (h : GmSt w base g gs A c T a G seen Va Vt Vs) (hT : TokOk T) (hW : Laid w) : Calls Tryz.prog 58 #[.pointer (some ⟨g, 0, none⟩)] w (ResG base g gs A c T w (itemG (T.drop a) G seen)) := by
  refine calls_WX (l := [_]) Tryz.func58 rfl _ Tryz.ntmps58 (by simp) ?_
  generalize hr : itemG (T.drop a) G seen = r
  unfold itemG at hr
  have hlt := h.pk.lt
  have hbig := hT.big
  obtain ⟨hb9, hbg, hbs, hne⟩ := h.hg
  have hgl0 := h.pk.row.lt
  have hgs0 := h.sn.lt
  refine WX_piece fun K hK hX => ?_
  simp +contextual (maxSteps := 2000000) (disch := first | omega | (simp only [SZ]; first | done | omega) | (simp only [TS] at *; omega)) only [PZ, RZ, ovw, oneC, reduceAdd, reduceMul, reduceSub, reduceEqDiff, reduceLT, ↓reduceIte, Int.reduceToNat, reduceLeDiff]
  refine Res.use (paTake_any 1 h.pk hT) (fun t a3 w3 e3 k3 p3 => ?_) (fun e L w3 e3 k3 => ?_); rotate_left
  · obtain ⟨u1, rfl, rfl⟩ := takeT_err e3
    rw [if_pos u1] at hr
    refine hX _ _ _ (fun h => by cases h) ?_
    exact ResG.err hr.symm (h.keptB k3 (by simpa using hbg))
  obtain ⟨u1, ht, u3⟩ := takeT_ok e3
  obtain ⟨l2, n2⟩ := nx_at hT h.pk.lt (by omega)
  rw [if_neg (fun h => h u1), n2] at hr
  rw [n2] at u3
  obtain rfl : a3 = a + 1 := drop_same u3.symm p3.lt l2
  have h3 := h.leaf k3 p3 (by omega)
  have K3 := h.keptB k3 (by simpa using hbg)
  have hlnT : (hdT (T.drop a)).line = t.line := by rw [← ht]
  rw [← ht] at hr u1
  clear e3 ht
  rw [show (encTk t).toArray = #[.int .i64 t.kind, .int .i64 t.line, .int .i64 t.col, .string t.text] from rfl]
  try simp +contextual (maxSteps := 2000000) (disch := first | omega | (simp only [SZ]; first | done | omega) | (simp only [TS] at *; omega)) only [PZ, RZ, ovw, oneC, reduceAdd, reduceMul, reduceSub, reduceEqDiff, reduceLT, ↓reduceIte, Int.reduceToNat, reduceLeDiff]
  have h4 := h3.below (below_alloc w3 (.cells #[Value.int .i64 t.kind, .int .i64 t.line, .int .i64 t.col, .string t.text] 62))
  have K4 := K3.trans ((below_alloc w3 (.cells #[Value.int .i64 t.kind, .int .i64 t.line, .int .i64 t.col, .string t.text] 62)).mono (by have := h3.pk.row.lt; omega))
  have q4 := Row.new w3 62 [Value.int .i64 t.kind, .int .i64 t.line, .int .i64 t.col, .string t.text]
  replace q4 : Row (w3.alloc (.cells #[Value.int .i64 t.kind, .int .i64 t.line, .int .i64 t.col, .string t.text] 62)) _ _ _ := q4
  have hgb : g < w3.heap.size := h3.pk.row.lt
  have hgsb : gs < w3.heap.size := h3.sn.lt
  generalize hbx : w3.heap.size = bx at *
  generalize w3.alloc (.cells #[Value.int .i64 t.kind, .int .i64 t.line, .int .i64 t.col, .string t.text] 62) = w4 at *
  have c0 := q4.cell (i := 0) rfl
  have c1 := q4.cell (i := 1) rfl
  have c2 := q4.cell (i := 2) rfl
  have c3 := q4.cell (i := 3) rfl
  have hgl4 := h4.pk.row.lt
  refine hK _ _ ?_
  clear hK hX K
  refine WX_piece fun K hK hX => ?_
  simp +contextual (maxSteps := 2000000) (disch := first | omega | (simp only [SZ]; first | done | omega) | (simp only [TS] at *; omega)) only [PZ, RZ, ovw, oneC, reduceAdd, reduceMul, reduceSub, reduceEqDiff, reduceLT, ↓reduceIte, Int.reduceToNat, reduceLeDiff,  c3]
  refine hK _ _ ?_
  clear hK hX K
  refine WX_piece fun K hK hX => ?_
  simp +contextual (maxSteps := 2000000) (disch := first | omega | (simp only [SZ]; first | done | omega) | (simp only [TS] at *; omega)) only [PZ, RZ, ovw, oneC, reduceAdd, reduceMul, reduceSub, reduceEqDiff, reduceLT, ↓reduceIte, Int.reduceToNat, reduceLeDiff,  c3]
  refine hK _ _ ?_
  clear hK hX K
  rw [WX_block]
  have herr : ∀ {e : Int} {w' : World}, r = .error (e, T.drop a) → Below base w w' → ResG base g gs A c T w r (.panicked [{ v := failV e t.line, recovered := false }]) w' := fun hm hB => by
    rw [← hlnT]; exact ResG.err hm hB
  have onb : ∀ {w' : World}, Kept [gs] w4 w' → Below base w w' := fun k => K4.trans (h4.keptB k (by simpa using hbs))
  have bC : bs ⟨#[99, 104, 111, 111, 115, 101]⟩ = asc "choose" := by decide +kernel
  have bD : bs ⟨#[100, 105, 103, 105, 116, 115]⟩ = asc "digits" := by decide +kernel
  have bB : bs ⟨#[98, 111, 110, 117, 115]⟩ = asc "bonus" := by decide +kernel
  have bY : bs ⟨#[100, 97, 121, 115]⟩ = asc "days" := by decide +kernel
  have bN : bs ⟨#[97, 100, 100, 111, 110]⟩ = asc "addon" := by decide +kernel
  have bR : bs ⟨#[116, 105, 101, 114]⟩ = asc "tier" := by decide +kernel
  refine WX_cut (fun σ w5 => w5 = w4 ∧ σ 0 = .pointer (some ⟨g, 0, none⟩) ∧ σ 2 = .pointer (some ⟨bx, 0, none⟩) ∧ σ 3 = .pointer (some ⟨g, 3, none⟩) ∧ σ 11 = .string t.text ∧ σ 30 = .bool (decide (t.text = ⟨#[99, 104, 111, 111, 115, 101]⟩) || decide (t.text = ⟨#[100, 105, 103, 105, 116, 115]⟩))) ?_ ?_; rotate_left
  · refine WX_piece fun K hK hX => ?_
    by_cases x1 : t.text = ⟨#[99, 104, 111, 111, 115, 101]⟩
    · have e1 : (t.text = ⟨#[99, 104, 111, 111, 115, 101]⟩) = True := eq_true x1
      simp +contextual (maxSteps := 2000000) (disch := first | omega | (simp only [SZ]; first | done | omega) | (simp only [TS] at *; omega)) only [PZ, RZ, ovw, oneC, reduceAdd, reduceMul, reduceSub, reduceEqDiff, reduceLT, ↓reduceIte, Int.reduceToNat, reduceLeDiff,  e1]
      refine hK _ _ ?_
      clear hK hX K
      refine WX_if_t rfl ?_
      simp +contextual (maxSteps := 2000000) (disch := first | omega | (simp only [SZ]; first | done | omega) | (simp only [TS] at *; omega)) only [PZ, RZ, ovw, oneC, reduceAdd, reduceMul, reduceSub, reduceEqDiff, reduceLT, ↓reduceIte, Int.reduceToNat, reduceLeDiff,  e1, Bool.true_or]
    · have e1 : (t.text = ⟨#[99, 104, 111, 111, 115, 101]⟩) = False := eq_false x1
      simp +contextual (maxSteps := 2000000) (disch := first | omega | (simp only [SZ]; first | done | omega) | (simp only [TS] at *; omega)) only [PZ, RZ, ovw, oneC, reduceAdd, reduceMul, reduceSub, reduceEqDiff, reduceLT, ↓reduceIte, Int.reduceToNat, reduceLeDiff,  e1]
      refine hK _ _ ?_
      clear hK hX K
      refine WX_if_f rfl ?_
      simp +contextual (maxSteps := 2000000) (disch := first | omega | (simp only [SZ]; first | done | omega) | (simp only [TS] at *; omega)) only [PZ, RZ, ovw, oneC, reduceAdd, reduceMul, reduceSub, reduceEqDiff, reduceLT, ↓reduceIte, Int.reduceToNat, reduceLeDiff,  e1, Bool.false_or]
  rintro σ5 w5 ⟨rfl, g0, g2, g3, g11, g30⟩
  by_cases hcd : t.text = ⟨#[99, 104, 111, 111, 115, 101]⟩ ∨ t.text = ⟨#[100, 105, 103, 105, 116, 115]⟩
  · have hx : (decide (t.text = ⟨#[99, 104, 111, 111, 115, 101]⟩) || decide (t.text = ⟨#[100, 105, 103, 105, 116, 115]⟩)) = true := by simpa using hcd
    rw [hx] at g30
    refine WX_if_t g30 ?_
    have hcd2 : bs t.text = asc "choose" ∨ bs t.text = asc "digits" := hcd.elim (fun e => .inl (by rw [e, bC])) (fun e => .inr (by rw [e, bD]))
    rw [if_pos hcd2] at hr
    refine WX_piece fun K hK hX => ?_
    simp +contextual (maxSteps := 2000000) (disch := first | omega | (simp only [SZ]; first | done | omega) | (simp only [TS] at *; omega)) only [PZ, RZ, ovw, oneC, reduceAdd, reduceMul, reduceSub, reduceEqDiff, reduceLT, ↓reduceIte, Int.reduceToNat, reduceLeDiff,  g0, g2, g3, g11, c0, c1, c2, c3]
    refine paOnceG h4 hT t _ (fun w6 hin k6 h6 => ?_) (fun w6 hin k6 => ?_); rotate_left
    · rw [bC] at hin
      rw [if_pos hin] at hr
      refine hX _ _ _ (fun h => by cases h) ?_
      exact herr hr.symm (onb k6)
    rw [bC] at hin h6
    rw [if_neg hin] at hr
    have K6 := onb k6
    have q6 := q4.kept k6 (by simp; omega)
    try simp +contextual (maxSteps := 2000000) (disch := first | omega | (simp only [SZ]; first | done | omega) | (simp only [TS] at *; omega)) only [PZ, RZ, ovw, oneC, reduceAdd, reduceMul, reduceSub, reduceEqDiff, reduceLT, ↓reduceIte, Int.reduceToNat, reduceLeDiff,  g0, g2, g3, g11]
    refine hK _ _ ?_
    clear hK hX K
    have z0 := h6.cellN (i := 0) (by omega)
    have z0z := h6.pk.row.frozen 4
    refine WX_piece fun K hK hX => ?_
    simp +contextual (maxSteps := 2000000) (disch := first | omega | (simp only [SZ]; first | done | omega) | (simp only [TS] at *; omega)) only [PZ, RZ, ovw, oneC, reduceAdd, reduceMul, reduceSub, reduceEqDiff, reduceLT, ↓reduceIte, Int.reduceToNat, reduceLeDiff,  g0, g2, g3, g11, z0, z0z]
    have h7 := h6.setN (i := 0) (by omega) (by omega) 1
    have K7 : Below base w (w6.setCell ⟨g, 0 + 4, none⟩ (.int .i64 1)) := K6.setCell (p := ⟨g, 0 + 4, none⟩) hbg _
    have q7 := q6.far (p := ⟨g, 0 + 4, none⟩) (by show bx ≠ g; omega) (.int .i64 1)
    rw [show (0 + 4 : Nat) = 4 from rfl] at h7 K7 q7
    generalize w6.setCell ⟨g, 4, none⟩ (.int .i64 1) = w7 at *
    refine hK _ _ ?_
    clear hK hX K
    refine WX_cut (fun σ w8 => σ 0 = .pointer (some ⟨g, 0, none⟩) ∧ σ 3 = .pointer (some ⟨g, 3, none⟩) ∧ GmSt w8 base g gs A c T (a + 1) { G with n := putN G.n 0 (if bs t.text = asc "digits" then 2 else 1) } (asc "choose" :: seen) Va Vt Vs ∧ Below base w w8) ?_ ?_; rotate_left
    · have d3 := q7.cell (i := 3) rfl
      refine WX_piece fun K hK hX => ?_
      by_cases x2 : t.text = ⟨#[100, 105, 103, 105, 116, 115]⟩
      · have e2 : (t.text = ⟨#[100, 105, 103, 105, 116, 115]⟩) = True := eq_true x2
        simp +contextual (maxSteps := 2000000) (disch := first | omega | (simp only [SZ]; first | done | omega) | (simp only [TS] at *; omega)) only [PZ, RZ, ovw, oneC, reduceAdd, reduceMul, reduceSub, reduceEqDiff, reduceLT, ↓reduceIte, Int.reduceToNat, reduceLeDiff,  g0, g2, g3, g11, d3, e2]
        refine hK _ _ ?_
        clear hK hX K
        refine WX_if_t rfl ?_
        have z1 := h7.cellN (i := 0) (by omega)
        have z1z := h7.pk.row.frozen 4
        simp +contextual (maxSteps := 2000000) (disch := first | omega | (simp only [SZ]; first | done | omega) | (simp only [TS] at *; omega)) only [PZ, RZ, ovw, oneC, reduceAdd, reduceMul, reduceSub, reduceEqDiff, reduceLT, ↓reduceIte, Int.reduceToNat, reduceLeDiff,  g0, g2, g3, g11, z1, z1z]
        rw [if_pos (by rw [x2, bD])]
        have h8 := h7.setN (i := 0) (by omega) (by omega) 2
        dsimp only at h8
        rw [putN_twice] at h8
        exact ⟨h8, K7.setCell (p := ⟨g, 4, none⟩) hbg _⟩
      · have e2 : (t.text = ⟨#[100, 105, 103, 105, 116, 115]⟩) = False := eq_false x2
        simp +contextual (maxSteps := 2000000) (disch := first | omega | (simp only [SZ]; first | done | omega) | (simp only [TS] at *; omega)) only [PZ, RZ, ovw, oneC, reduceAdd, reduceMul, reduceSub, reduceEqDiff, reduceLT, ↓reduceIte, Int.reduceToNat, reduceLeDiff,  g0, g2, g3, g11, d3, e2]
        refine hK _ _ ?_
        clear hK hX K
        refine WX_if_f rfl ?_
        simp +contextual (maxSteps := 2000000) (disch := first | omega | (simp only [SZ]; first | done | omega) | (simp only [TS] at *; omega)) only [PZ, RZ, ovw, oneC, reduceAdd, reduceMul, reduceSub, reduceEqDiff, reduceLT, ↓reduceIte, Int.reduceToNat, reduceLeDiff,  g0, g2, g3, g11]
        rw [if_neg (fun h => x2 (bs_inj (h.trans bD.symm)))]
        exact ⟨h7, K7⟩
    rintro σ8 w8 ⟨f0, f3, h8, K8⟩
    simp +contextual (maxSteps := 2000000) (disch := first | omega | (simp only [SZ]; first | done | omega) | (simp only [TS] at *; omega)) only [PZ, RZ, ovw, oneC, reduceAdd, reduceMul, reduceSub, reduceEqDiff, reduceLT, ↓reduceIte, Int.reduceToNat, reduceLeDiff,  f0, f3]
    refine Res.use (paPair_any h8.pk hT) (fun x a9 w9 e9 k9 p9 => ?_) (fun e L w9 e9 k9 => ?_); rotate_left
    · rw [e9] at hr
      exact ResG.err hr.symm (K8.trans (h8.keptB k9 (by simpa using hbg)))
    have m9 := drop_mono (pair_len e9) rfl p9.lt h8.pk.lt
    rw [e9] at hr
    dsimp only [bindT] at hr
    have h9 := h8.leaf k9 p9 m9
    have K9 := K8.trans (h8.keptB k9 (by simpa using hbg))
    obtain ⟨xa, xb⟩ := x
    have y2 := h9.cellN (i := 2) (by omega)
    have y2z := h9.pk.row.frozen 6
    have y3 := h9.cellN (i := 3) (by omega)
    have y3z := h9.pk.row.frozen 7
    try simp +contextual (maxSteps := 2000000) (disch := first | omega | (simp only [SZ]; first | done | omega) | (simp only [TS] at *; omega)) only [PZ, RZ, ovw, oneC, reduceAdd, reduceMul, reduceSub, reduceEqDiff, reduceLT, ↓reduceIte, Int.reduceToNat, reduceLeDiff,  f0, f3, y2, y2z, y3, y3z]
    have h10 := (h9.setN (i := 2) (by omega) (by omega) xa).setN (i := 3) (by omega) (by omega) xb
    exact ResG.ok hr.symm ((K9.setCell (p := ⟨g, 6, none⟩) hbg _).setCell (p := ⟨g, 7, none⟩) hbg _) h10
  have hx : (decide (t.text = ⟨#[99, 104, 111, 111, 115, 101]⟩) || decide (t.text = ⟨#[100, 105, 103, 105, 116, 115]⟩)) = false := by simpa using hcd
  rw [hx] at g30
  refine WX_if_f g30 ?_
  have hcd2 : ¬ (bs t.text = asc "choose" ∨ bs t.text = asc "digits") := fun h => hcd (h.elim (fun e => .inl (bs_inj (e.trans bC.symm))) (fun e => .inr (bs_inj (e.trans bD.symm))))
  rw [if_neg hcd2] at hr
  refine WX_piece fun K hK hX => ?_
  by_cases xB : t.text = ⟨#[98, 111, 110, 117, 115]⟩
  · have e1 : (t.text = ⟨#[98, 111, 110, 117, 115]⟩) = True := eq_true xB
    simp +contextual (maxSteps := 2000000) (disch := first | omega | (simp only [SZ]; first | done | omega) | (simp only [TS] at *; omega)) only [PZ, RZ, ovw, oneC, reduceAdd, reduceMul, reduceSub, reduceEqDiff, reduceLT, ↓reduceIte, Int.reduceToNat, reduceLeDiff,  g0, g2, g3, g11, e1]
    refine hK _ _ ?_
    clear hK hX K
    refine WX_if_t rfl ?_
    have hb : bs t.text = asc "bonus" := by rw [xB, bB]
    rw [if_pos hb] at hr
    refine WX_piece fun K hK hX => ?_
    simp +contextual (maxSteps := 2000000) (disch := first | omega | (simp only [SZ]; first | done | omega) | (simp only [TS] at *; omega)) only [PZ, RZ, ovw, oneC, reduceAdd, reduceMul, reduceSub, reduceEqDiff, reduceLT, ↓reduceIte, Int.reduceToNat, reduceLeDiff,  g0, g2, g3, g11, c0, c1, c2, c3]
    refine paOnceG h4 hT t _ (fun w6 hin k6 h6 => ?_) (fun w6 hin k6 => ?_); rotate_left
    · rw [hb] at hin
      rw [if_pos hin] at hr
      refine hX _ _ _ (fun h => by cases h) ?_
      exact herr hr.symm (onb k6)
    rw [hb] at hin h6
    rw [if_neg hin] at hr
    have K6 := onb k6
    try simp +contextual (maxSteps := 2000000) (disch := first | omega | (simp only [SZ]; first | done | omega) | (simp only [TS] at *; omega)) only [PZ, RZ, ovw, oneC, reduceAdd, reduceMul, reduceSub, reduceEqDiff, reduceLT, ↓reduceIte, Int.reduceToNat, reduceLeDiff,  g0, g2, g3, g11]
    refine hK _ _ ?_
    clear hK hX K
    simp +contextual (maxSteps := 2000000) (disch := first | omega | (simp only [SZ]; first | done | omega) | (simp only [TS] at *; omega)) only [PZ, RZ, ovw, oneC, reduceAdd, reduceMul, reduceSub, reduceEqDiff, reduceLT, ↓reduceIte, Int.reduceToNat, reduceLeDiff,  g0, g3]
    refine Res.use (paPair_any h6.pk hT) (fun x a9 w9 e9 k9 p9 => ?_) (fun e L w9 e9 k9 => ?_); rotate_left
    · rw [e9] at hr
      exact ResG.err hr.symm (K6.trans (h6.keptB k9 (by simpa using hbg)))
    have m9 := drop_mono (pair_len e9) rfl p9.lt h6.pk.lt
    rw [e9] at hr
    dsimp only [bindT] at hr
    have h9 := h6.leaf k9 p9 m9
    have K9 := K6.trans (h6.keptB k9 (by simpa using hbg))
    obtain ⟨xa, xb⟩ := x
    have y2 := h9.cellN (i := 4) (by omega)
    have y2z := h9.pk.row.frozen 8
    have y3 := h9.cellN (i := 5) (by omega)
    have y3z := h9.pk.row.frozen 9
    try simp +contextual (maxSteps := 2000000) (disch := first | omega | (simp only [SZ]; first | done | omega) | (simp only [TS] at *; omega)) only [PZ, RZ, ovw, oneC, reduceAdd, reduceMul, reduceSub, reduceEqDiff, reduceLT, ↓reduceIte, Int.reduceToNat, reduceLeDiff,  g0, g3, y2, y2z, y3, y3z]
    have h10 := (h9.setN (i := 4) (by omega) (by omega) xa).setN (i := 5) (by omega) (by omega) xb
    exact ResG.ok hr.symm ((K9.setCell (p := ⟨g, 8, none⟩) hbg _).setCell (p := ⟨g, 9, none⟩) hbg _) h10
  have eB : (t.text = ⟨#[98, 111, 110, 117, 115]⟩) = False := eq_false xB
  simp +contextual (maxSteps := 2000000) (disch := first | omega | (simp only [SZ]; first | done | omega) | (simp only [TS] at *; omega)) only [PZ, RZ, ovw, oneC, reduceAdd, reduceMul, reduceSub, reduceEqDiff, reduceLT, ↓reduceIte, Int.reduceToNat, reduceLeDiff,  g0, g2, g3, g11, eB]
  refine hK _ _ ?_
  clear hK hX K
  refine WX_if_f rfl ?_
  rw [if_neg (fun h => xB (bs_inj (h.trans bB.symm)))] at hr
  refine WX_piece fun K hK hX => ?_
  by_cases xY : t.text = ⟨#[100, 97, 121, 115]⟩
  · have e1 : (t.text = ⟨#[100, 97, 121, 115]⟩) = True := eq_true xY
    simp +contextual (maxSteps := 2000000) (disch := first | omega | (simp only [SZ]; first | done | omega) | (simp only [TS] at *; omega)) only [PZ, RZ, ovw, oneC, reduceAdd, reduceMul, reduceSub, reduceEqDiff, reduceLT, ↓reduceIte, Int.reduceToNat, reduceLeDiff,  g0, g2, g3, g11, e1]
    refine hK _ _ ?_
    clear hK hX K
    refine WX_if_t rfl ?_
    have hb : bs t.text = asc "days" := by rw [xY, bY]
    rw [if_pos hb] at hr
    refine WX_piece fun K hK hX => ?_
    simp +contextual (maxSteps := 2000000) (disch := first | omega | (simp only [SZ]; first | done | omega) | (simp only [TS] at *; omega)) only [PZ, RZ, ovw, oneC, reduceAdd, reduceMul, reduceSub, reduceEqDiff, reduceLT, ↓reduceIte, Int.reduceToNat, reduceLeDiff,  g0, g2, g3, g11, c0, c1, c2, c3]
    refine paOnceG h4 hT t _ (fun w6 hin k6 h6 => ?_) (fun w6 hin k6 => ?_); rotate_left
    · rw [hb] at hin
      rw [if_pos hin] at hr
      refine hX _ _ _ (fun h => by cases h) ?_
      exact herr hr.symm (onb k6)
    rw [hb] at hin h6
    rw [if_neg hin] at hr
    have K6 := onb k6
    try simp +contextual (maxSteps := 2000000) (disch := first | omega | (simp only [SZ]; first | done | omega) | (simp only [TS] at *; omega)) only [PZ, RZ, ovw, oneC, reduceAdd, reduceMul, reduceSub, reduceEqDiff, reduceLT, ↓reduceIte, Int.reduceToNat, reduceLeDiff,  g0, g2, g3, g11]
    refine hK _ _ ?_
    clear hK hX K
    simp +contextual (maxSteps := 2000000) (disch := first | omega | (simp only [SZ]; first | done | omega) | (simp only [TS] at *; omega)) only [PZ, RZ, ovw, oneC, reduceAdd, reduceMul, reduceSub, reduceEqDiff, reduceLT, ↓reduceIte, Int.reduceToNat, reduceLeDiff,  g0, g3]
    have hW6 : Laid w6 := hW.below K6 (by omega)
    refine ResQ.use (paDays_any h6.pk hT (h4.days hin) hW6 (Nat.le_refl _) (by omega)) (fun x a9 w9 e9 k9 p9 => ?_) (fun e L w9 e9 k9 => ?_); rotate_left
    · rw [e9] at hr
      exact ResG.err hr.symm (K6.trans (h6.keptB k9 (by simpa using hbg)))
    have m9 := drop_mono (day_len e9) rfl p9.lt h6.pk.lt
    rw [e9] at hr
    dsimp only [bindT] at hr
    have h9 := h6.step k9 p9 m9 (fun e => absurd List.mem_cons_self e)
    try simp +contextual (maxSteps := 2000000) (disch := first | omega | (simp only [SZ]; first | done | omega) | (simp only [TS] at *; omega)) only [PZ, RZ, ovw, oneC, reduceAdd, reduceMul, reduceSub, reduceEqDiff, reduceLT, ↓reduceIte, Int.reduceToNat, reduceLeDiff,  g0, g3]
    exact ResG.ok hr.symm (K6.trans (h6.keptB k9 (by simpa using hbg))) h9
  have eY : (t.text = ⟨#[100, 97, 121, 115]⟩) = False := eq_false xY
  simp +contextual (maxSteps := 2000000) (disch := first | omega | (simp only [SZ]; first | done | omega) | (simp only [TS] at *; omega)) only [PZ, RZ, ovw, oneC, reduceAdd, reduceMul, reduceSub, reduceEqDiff, reduceLT, ↓reduceIte, Int.reduceToNat, reduceLeDiff,  g0, g2, g3, g11, eY]
  refine hK _ _ ?_
  clear hK hX K
  refine WX_if_f rfl ?_
  rw [if_neg (fun h => xY (bs_inj (h.trans bY.symm)))] at hr
  refine WX_piece fun K hK hX => ?_
  by_cases xN : t.text = ⟨#[97, 100, 100, 111, 110]⟩
  · have e1 : (t.text = ⟨#[97, 100, 100, 111, 110]⟩) = True := eq_true xN
    simp +contextual (maxSteps := 2000000) (disch := first | omega | (simp only [SZ]; first | done | omega) | (simp only [TS] at *; omega)) only [PZ, RZ, ovw, oneC, reduceAdd, reduceMul, reduceSub, reduceEqDiff, reduceLT, ↓reduceIte, Int.reduceToNat, reduceLeDiff,  g0, g2, g3, g11, e1]
    refine hK _ _ ?_
    clear hK hX K
    refine WX_if_t rfl ?_
    have hb : bs t.text = asc "addon" := by rw [xN, bN]
    rw [if_pos hb] at hr
    simp +contextual (maxSteps := 2000000) (disch := first | omega | (simp only [SZ]; first | done | omega) | (simp only [TS] at *; omega)) only [PZ, RZ, ovw, oneC, reduceAdd, reduceMul, reduceSub, reduceEqDiff, reduceLT, ↓reduceIte, Int.reduceToNat, reduceLeDiff,  g0, g3]
    refine ResG.use (paAddon_any h4 hT) (fun G' seen' a' Va' Vt' Vs' w6 e6 k6 h6 => ?_) (fun e L w6 e6 k6 => ?_); rotate_left
    · rw [hr] at e6
      exact ResG.err e6 (K4.trans k6)
    rw [hr] at e6
    try simp +contextual (maxSteps := 2000000) (disch := first | omega | (simp only [SZ]; first | done | omega) | (simp only [TS] at *; omega)) only [PZ, RZ, ovw, oneC, reduceAdd, reduceMul, reduceSub, reduceEqDiff, reduceLT, ↓reduceIte, Int.reduceToNat, reduceLeDiff,  g0, g3]
    exact ResG.ok e6 (K4.trans k6) h6
  have eN : (t.text = ⟨#[97, 100, 100, 111, 110]⟩) = False := eq_false xN
  simp +contextual (maxSteps := 2000000) (disch := first | omega | (simp only [SZ]; first | done | omega) | (simp only [TS] at *; omega)) only [PZ, RZ, ovw, oneC, reduceAdd, reduceMul, reduceSub, reduceEqDiff, reduceLT, ↓reduceIte, Int.reduceToNat, reduceLeDiff,  g0, g2, g3, g11, eN]
  refine hK _ _ ?_
  clear hK hX K
  refine WX_if_f rfl ?_
  rw [if_neg (fun h => xN (bs_inj (h.trans bN.symm)))] at hr
  refine WX_piece fun K hK hX => ?_
  by_cases xR : t.text = ⟨#[116, 105, 101, 114]⟩
  · have e1 : (t.text = ⟨#[116, 105, 101, 114]⟩) = True := eq_true xR
    simp +contextual (maxSteps := 2000000) (disch := first | omega | (simp only [SZ]; first | done | omega) | (simp only [TS] at *; omega)) only [PZ, RZ, ovw, oneC, reduceAdd, reduceMul, reduceSub, reduceEqDiff, reduceLT, ↓reduceIte, Int.reduceToNat, reduceLeDiff,  g0, g2, g3, g11, e1]
    refine hK _ _ ?_
    clear hK hX K
    refine WX_if_t rfl ?_
    have hb : bs t.text = asc "tier" := by rw [xR, bR]
    rw [if_pos hb] at hr
    simp +contextual (maxSteps := 2000000) (disch := first | omega | (simp only [SZ]; first | done | omega) | (simp only [TS] at *; omega)) only [PZ, RZ, ovw, oneC, reduceAdd, reduceMul, reduceSub, reduceEqDiff, reduceLT, ↓reduceIte, Int.reduceToNat, reduceLeDiff,  g0, g3]
    refine ResG.use (paTier_any h4 hT) (fun G' seen' a' Va' Vt' Vs' w6 e6 k6 h6 => ?_) (fun e L w6 e6 k6 => ?_); rotate_left
    · rw [hr] at e6
      exact ResG.err e6 (K4.trans k6)
    rw [hr] at e6
    try simp +contextual (maxSteps := 2000000) (disch := first | omega | (simp only [SZ]; first | done | omega) | (simp only [TS] at *; omega)) only [PZ, RZ, ovw, oneC, reduceAdd, reduceMul, reduceSub, reduceEqDiff, reduceLT, ↓reduceIte, Int.reduceToNat, reduceLeDiff,  g0, g3]
    exact ResG.ok e6 (K4.trans k6) h6
  have eR : (t.text = ⟨#[116, 105, 101, 114]⟩) = False := eq_false xR
  simp +contextual (maxSteps := 2000000) (disch := first | omega | (simp only [SZ]; first | done | omega) | (simp only [TS] at *; omega)) only [PZ, RZ, ovw, oneC, reduceAdd, reduceMul, reduceSub, reduceEqDiff, reduceLT, ↓reduceIte, Int.reduceToNat, reduceLeDiff,  g0, g2, g3, g11, eR]
  refine hK _ _ ?_
  clear hK hX K
  refine WX_if_f rfl ?_
  rw [if_neg (fun h => xR (bs_inj (h.trans bR.symm)))] at hr
  refine WX_piece fun K hK hX => ?_
  simp +contextual (maxSteps := 2000000) (disch := first | omega | (simp only [SZ]; first | done | omega) | (simp only [TS] at *; omega)) only [PZ, RZ, ovw, oneC, reduceAdd, reduceMul, reduceSub, reduceEqDiff, reduceLT, ↓reduceIte, Int.reduceToNat, reduceLeDiff,  g0, g2, g3, g11, c3]
  refine (simple_any g 3 t.text w5).mono ?_
  rintro e w6 ⟨rfl, rfl⟩
  cases hsi : simpleI (bs t.text) with
  | none =>
    rw [hsi] at hr
    dsimp only [Option.map] at hr ⊢
    simp +contextual (maxSteps := 2000000) (disch := first | omega | (simp only [SZ]; first | done | omega) | (simp only [TS] at *; omega)) only [PZ, RZ, ovw, oneC, reduceAdd, reduceMul, reduceSub, reduceEqDiff, reduceLT, ↓reduceIte, Int.reduceToNat, reduceLeDiff,  g0, g2, g3, g11]
    refine hK _ _ ?_
    clear hK hX K
    rw [WX_seq]
    refine WX_piece fun K hK hX => ?_
    simp +contextual (maxSteps := 2000000) (disch := first | omega | (simp only [SZ]; first | done | omega) | (simp only [TS] at *; omega)) only [PZ, RZ, ovw, oneC, reduceAdd, reduceMul, reduceSub, reduceEqDiff, reduceLT, ↓reduceIte, Int.reduceToNat, reduceLeDiff,  g0, g2, g3, g11]
    refine hK _ _ ?_
    clear hK hX K
    refine WX_if_t rfl ?_
    simp +contextual (maxSteps := 2000000) (disch := first | omega | (simp only [SZ]; first | done | omega) | (simp only [TS] at *; omega)) only [PZ, RZ, ovw, oneC, reduceAdd, reduceMul, reduceSub, reduceEqDiff, reduceLT, ↓reduceIte, Int.reduceToNat, reduceLeDiff,  g0, g2, g3, g11, c0, c1, c2, c3]
    refine (paFail_any g 1 t w5).mono ?_
    rintro e w6 ⟨rfl, hB6⟩
    rw [Ends_pan]
    exact herr hr.symm (K4.trans (hB6.mono (by omega)))
  | some i =>
    rw [hsi] at hr
    dsimp only [Option.map] at hr ⊢
    have hi19 := simple_lt hsi
    rw [show 3 + (i + 1) = i + 4 by omega]
    simp +contextual (maxSteps := 2000000) (disch := first | omega | (simp only [SZ]; first | done | omega) | (simp only [TS] at *; omega)) only [PZ, RZ, ovw, oneC, reduceAdd, reduceMul, reduceSub, reduceEqDiff, reduceLT, ↓reduceIte, Int.reduceToNat, reduceLeDiff,  g0, g2, g3, g11]
    refine hK _ _ ?_
    clear hK hX K
    rw [WX_seq]
    refine WX_piece fun K hK hX => ?_
    simp +contextual (maxSteps := 2000000) (disch := first | omega | (simp only [SZ]; first | done | omega) | (simp only [TS] at *; omega)) only [PZ, RZ, ovw, oneC, reduceAdd, reduceMul, reduceSub, reduceEqDiff, reduceLT, ↓reduceIte, Int.reduceToNat, reduceLeDiff,  g0, g2, g3, g11]
    refine hK _ _ ?_
    clear hK hX K
    refine WX_if_f rfl ?_
    rw [WX_skip, thenX_normal]
    refine WX_piece fun K hK hX => ?_
    simp +contextual (maxSteps := 2000000) (disch := first | omega | (simp only [SZ]; first | done | omega) | (simp only [TS] at *; omega)) only [PZ, RZ, ovw, oneC, reduceAdd, reduceMul, reduceSub, reduceEqDiff, reduceLT, ↓reduceIte, Int.reduceToNat, reduceLeDiff,  g0, g2, g3, g11, c0, c1, c2, c3]
    refine paOnceG h4 hT t _ (fun w6 hin k6 h6 => ?_) (fun w6 hin k6 => ?_); rotate_left
    · rw [if_pos hin] at hr
      refine hX _ _ _ (fun h => by cases h) ?_
      exact herr hr.symm (onb k6)
    rw [if_neg hin] at hr
    have K6 := onb k6
    try simp +contextual (maxSteps := 2000000) (disch := first | omega | (simp only [SZ]; first | done | omega) | (simp only [TS] at *; omega)) only [PZ, RZ, ovw, oneC, reduceAdd, reduceMul, reduceSub, reduceEqDiff, reduceLT, ↓reduceIte, Int.reduceToNat, reduceLeDiff,  g0, g2, g3, g11]
    refine hK _ _ ?_
    clear hK hX K
    simp +contextual (maxSteps := 2000000) (disch := first | omega | (simp only [SZ]; first | done | omega) | (simp only [TS] at *; omega)) only [PZ, RZ, ovw, oneC, reduceAdd, reduceMul, reduceSub, reduceEqDiff, reduceLT, ↓reduceIte, Int.reduceToNat, reduceLeDiff,  g0, g2, g3, g11]
    refine Res.use (paAny_any h6.pk hT) (fun x a9 w9 e9 k9 p9 => ?_) (fun e L w9 e9 k9 => ?_); rotate_left
    · obtain ⟨q9, rfl, rfl⟩ := anyT_err e9
      rw [q9] at hr
      exact ResG.err hr.symm (K6.trans (h6.keptB k9 (by simpa using hbg)))
    have q9 := anyT_ok e9
    rw [q9] at hr
    dsimp only [thenT] at hr
    have m9 := drop_mono (num_len q9) rfl p9.lt h6.pk.lt
    have h9 := h6.leaf k9 p9 m9
    have K9 := K6.trans (h6.keptB k9 (by simpa using hbg))
    have y2 := h9.cellN hi19.1
    have y2z := h9.pk.row.frozen (i + 4)
    try simp +contextual (maxSteps := 2000000) (disch := first | omega | (simp only [SZ]; first | done | omega) | (simp only [TS] at *; omega)) only [PZ, RZ, ovw, oneC, reduceAdd, reduceMul, reduceSub, reduceEqDiff, reduceLT, ↓reduceIte, Int.reduceToNat, reduceLeDiff,  g0, g3, y2, y2z]
    exact ResG.ok hr.symm (K9.setCell (p := ⟨g, i + 4, none⟩) hbg _) (h9.setN hi19.1 hi19.2 x)
end
end Go.Proofs.YtbdkggnajipdhaaGreatDoor
