/- Texts laid one behind the other: OtD, OtY, GmArgs. Each says at its head what it proves. -/
import Derived.Test.YtbdkggnajipdhaaGreatDoorRtTwZ15
set_option linter.unusedSimpArgs false
/- Plain: chapter 11, the line of an item that stands twice. No program in sight. -/
namespace Go.Proofs.YtbdkggnajipdhaaGreatDoor
theorem count_none {l : List Nat} (h : ∀ c ∈ l, c < 128 ∧ c ≠ 10) : l.count 10 = 0 := List.count_eq_zero.2 fun e => (h 10 e).2 rfl
theorem count_lines : ∀ V : List It, V.all It.fine = true → V.all It.wok = true → (V.flatMap lineG).count 10 = V.length
  | [], _, _ => rfl
  | i :: V, hf, hw => by
    rw [List.all_cons, Bool.and_eq_true] at hf hw
    rw [List.flatMap_cons, List.count_append, count_lines V hf.2 hw.2, lineG_C, List.count_append, count_none (lineC_lt hf.1 hw.1), List.length_cons]
    simp
    omega
/-- What stands before the last line but one. -/
def frontY (n : List Nat) (V : List It) : List Nat := headC n ++ [10] ++ V.flatMap lineG
theorem front_last : ∀ (n : List Nat) (V : List It), ∃ l, frontY n V = l ++ [10] := by
  intro n V
  unfold frontY
  rcases List.eq_nil_or_concat V with rfl | ⟨V', i, rfl⟩
  · exact ⟨headC n, by simp⟩
  · refine ⟨headC n ++ [10] ++ V'.flatMap lineG ++ lineC i, ?_⟩
    simp only [List.concat_eq_append, List.flatMap_append, List.flatMap_cons, List.flatMap_nil, List.append_nil, lineG_C, List.append_assoc]
theorem front_count {n : List Nat} (hn : wordL n = true) {V : List It} (hf : V.all It.fine = true) (hw : V.all It.wok = true) : (frontY n V).count 10 = V.length + 1 := by
  unfold frontY
  rw [List.count_append, List.count_append, count_lines V hf hw, count_none (rows_lt hn hf hw (headC n) (by unfold rowsG; simp))]
  simp
  omega
theorem front_Lx {n : List Nat} (hn : wordL n = true) {V : List It} (hf : V.all It.fine = true) (hw : V.all It.wok = true) : Lx (frontY n V) ((1, asc "game") :: (1, n) :: (3, asc "{") :: itemsS V) := by
  have h := Lx_lines V hf hw Lx_nil
  rw [List.append_nil] at h
  have h1 := Lx_tok (k := 3) (t := asc "{") (gm (by decide)) sep10 (Lx_blank (b := 10) (by decide) h)
  have h2 := Lx_tok (good_word hn) sep32 (Lx_blank (b := 32) (by decide) h1)
  have h3 := Lx_tok (k := 1) (t := asc "game") (good_word (by decide +kernel)) sep32 (Lx_blank (b := 32) (by decide) h2)
  have e : frontY n V = asc "game" ++ 32 :: (n ++ 32 :: (asc "{" ++ 10 :: (V.flatMap lineG ++ []))) := by
    unfold frontY headC
    rw [show asc " {" = 32 :: (asc "{") by decide +kernel]
    simp only [List.append_assoc, List.cons_append, List.nil_append, List.append_nil]
  rw [e]
  rw [List.append_nil] at h3 ⊢
  exact h3
/-- The tokens of a text whose last item stands again: how many come before it, and on which line it stands. -/
theorem twice_scan {n : List Nat} (hn : wordL n = true) {V : List It} (hf : V.all It.fine = true) (hw : V.all It.wok = true) {i : It} (hfi : i.fine = true) (hwi : i.wok = true) {s : ByteArray} (hs : bs s = gameY n (V ++ [i])) (hsz : s.size ≤ 32768) :
    ∃ L T2 : List Tk, scanE s = (0, 0, L) ∧ L.map Kt = inK ((1, asc "game") :: (1, n) :: (3, asc "{") :: itemsS V) ++ (inK i.toks ++ [(3, asc ";"), (3, asc "}"), (0, [])]) ∧
      T2 = L.drop (3 + (itemsS V).length) ∧ (hdT T2).line = (V.length : Int) + 2 := by
  obtain ⟨l, hl⟩ := front_last n V
  have hY : bs s = l ++ 10 :: (lineG i ++ asc "}") := by
    rw [hs]
    have : gameY n (V ++ [i]) = frontY n V ++ (lineG i ++ asc "}") := by
      unfold gameY frontY
      simp only [List.flatMap_append, List.flatMap_cons, List.flatMap_nil, List.append_nil, List.append_assoc]
    rw [this, hl, List.append_assoc]
    rfl
  obtain ⟨T1, t1, _, t3⟩ := front_Lx hn hf hw 0
  have hT1 : T1.length = 3 + (itemsS V).length := by
    have := congrArg List.length t3
    rw [List.length_map] at this
    rw [this]
    simp only [List.length_cons]
    omega
  rw [hl, lexR_snoc (b := 10) (by decide) _ _ _ (Nat.le_refl _)] at t1
  have hLxi := Lx_line hfi hwi (Lx_tok (k := 3) (t := asc "}") (r := []) (gm (by decide)) (fun c r' e => by cases e) Lx_nil)
  rw [List.append_nil] at hLxi
  have hall := game_LxY hn (V := V ++ [i]) (by rw [List.all_append, hf]; simp [hfi]) (by rw [List.all_append, hw]; simp [hwi])
  rw [← hs] at hall
  obtain ⟨T, e1, _, e3⟩ := hall 0
  obtain ⟨T2, u1, u2, u3⟩ := Lx_blank (b := 10) (by decide) hLxi (0 + l.length)
  have hTT : T = T1 ++ T2 := by
    have := lexR_line (lineG i ++ asc "}") l.length l 0 (Nat.le_refl _)
    rw [t1, u1, ← hY, e1] at this
    injection this
  obtain ⟨r, hr⟩ := line_first i
  have hgw : good 1 (firstW i) := by
    obtain ⟨g1, g2⟩ := first_word hwi
    cases i with
    | two w a b => exact (item_words hfi hwi).2 _ (List.mem_cons_self ..)
    | num w a => exact (item_words hfi hwi).2 _ (List.mem_cons_self ..)
    | days d t => exact (item_words hfi hwi).2 _ (List.mem_cons_self ..)
    | addon a => exact good_word (show wordL (asc "addon") = true by decide +kernel)
    | tier t => exact good_word (show wordL (asc "tier") = true by decide +kernel)
  have hhd : ∃ R, T2 = (1, l.length + 3, (firstW i).length) :: R := by
    rw [lineG_C, hr] at u1
    rw [List.append_assoc, List.cons_append, List.cons_append, List.append_assoc, List.cons_append, blank_one (by decide), blank_one (by decide), blank_one (by decide), lexR_tok hgw _ sep32] at u1
    cases hq : lexR (0 + l.length + 1 + 1 + 1 + (firstW i).length) (32 :: (r ++ ([10] ++ asc "}"))) with
    | error e => rw [hq] at u1; cases u1
    | ok R =>
      rw [hq] at u1
      injection u1 with u1
      exact ⟨R, by rw [← u1]; simp⟩
  obtain ⟨R, hR⟩ := hhd
  refine ⟨T.map (tokOf s) ++ [endTok s], T2.map (tokOf s) ++ [endTok s], by unfold scanE; rw [if_neg (by omega), e1], ?_, ?_, ?_⟩
  · have : (T.map (tokOf s)).map Kt = inK (gameS n (V ++ [i])) := by
      rw [← e3, List.map_map]
      unfold inK
      rw [List.map_map]
      refine List.map_congr_left fun t _ => ?_
      show ((t.1 : Int), bs (s.extract t.2.1 (t.2.1 + t.2.2))) = _
      rw [bs_extract, Nat.add_sub_cancel_left]
      rfl
    rw [List.map_append, this]
    unfold gameS itemsS inK
    simp only [List.flatMap_append, List.flatMap_cons, List.flatMap_nil, List.append_nil, List.map_append, List.map_cons, List.map_nil, List.cons_append, List.append_assoc, List.nil_append]
    rfl
  · rw [hTT, List.map_append, List.append_assoc, List.drop_append_of_le_length (by rw [List.length_map]; omega), List.drop_eq_nil_of_le (by rw [List.length_map]; omega), List.nil_append]
  · rw [hR]
    show (place ((bs s).take (l.length + 3))).1 = _
    have htk : (bs s).take (l.length + 3) = (l ++ [10]) ++ [32, 32] := by
      rw [hY, lineG_C, hr]
      simp [List.take_append]
      exact List.take_of_length_le (by omega)
    rw [htk, ← hl]
    unfold place
    rw [place_line, List.count_append, front_count hn hf hw]
    simp
    omega
theorem twice_err {G : Gm} (hne : printG G ≠ []) {i : It} (hi : i ∈ itemsG G) {kk : List Nat} (hk : i.key = some kk) {s : ByteArray} (hs : bs s = gameY (bs G.name) (itemsG G ++ [i])) (hsz : s.size ≤ 32768) :
    (parseG s).2 = (6, ((itemsG G).length : Int) + 2) := by
  obtain ⟨V, hVV, hpr, hn, hf, hwk, hz, hnd, hl, _⟩ := printed hne
  rw [← hVV] at hi hs ⊢
  have hfi := List.all_eq_true.1 hf i hi
  have hwi := List.all_eq_true.1 hwk i hi
  obtain ⟨L, T2, e, hL, hT2, hln⟩ := twice_scan hn hf hwk hfi hwi hs hsz
  have h' : L.map Kt = (1, asc "game") :: (1, bs G.name) :: (3, asc "{") :: (inK (itemsS V) ++ (inK i.toks ++ [(3, asc ";"), (3, asc "}"), (0, [])])) := hL
  obtain ⟨e1, h1⟩ := st_is h' (by simp)
  obtain ⟨n1, n2, n3⟩ := st_next h1 (by simp)
  obtain ⟨e3, h3⟩ := st_is n3 (by simp)
  obtain ⟨L', e4, h4, h5⟩ := gitems_dup (M := [(3, asc ";"), (3, asc "}"), (0, [])]) (by simp) hwi hk V (nxT (nxT (nxT L))) (nxT (nxT (nxT L))).length (gm0 (hdT (nxT L)).text) [] hf hwk hz hnd (fun k _ h => by cases h) (.inl (List.mem_filterMap.2 ⟨i, hi, hk⟩)) h3 (by
    have := itemsS_len V
    rw [st_len h3, List.length_append]
    unfold inK
    rw [List.length_map, List.length_append]
    simp only [List.length_cons, List.length_nil]
    omega)
  have hsuf : L' <:+ L := h5.trans ((nx_suf _).trans ((nx_suf _).trans (nx_suf _)))
  have hL2 : L' = T2 := by
    rw [hT2]
    obtain ⟨D, hD⟩ := hsuf
    have l1 := st_len hL
    have l2 := st_len h4
    rw [← hD] at l1
    simp only [List.length_append, List.length_cons, List.length_nil, inK, List.length_map] at l1 l2
    rw [← hD, List.drop_append_of_le_length (by omega), List.drop_eq_nil_of_le (by omega), List.nil_append]
  have hg : gameT L = .error (6, L') := by
    unfold gameT
    rw [thenT_some e1, if_neg (fun h => h n1), thenT_some e3, e4]
    rfl
  unfold parseG
  rw [e, if_neg (by show (0 : Int) ≠ 3; decide), if_neg (fun h => h rfl), hg]
  show ((6 : Int), (hdT L').line) = _
  rw [hL2, hln]
end Go.Proofs.YtbdkggnajipdhaaGreatDoor
/- Walk: the law RuletextTwice. -/
namespace Go.Proofs.YtbdkggnajipdhaaGreatDoor
open Nat (reduceAdd reduceMul reduceSub reduceEqDiff reduceLT reduceLeDiff)
open Go.RowKit
set_option maxRecDepth 100000
theorem owns_new1 (w : World) (T : TypeId) (xs : List Value) (hm : xs.length ≤ maxLen) : (w.alloc (.cells xs.toArray T)).ownsRow w.heap.size T 1 (.slice (some ⟨w.heap.size, 0, none⟩) xs.length xs.length) xs.length xs :=
  ⟨by omega, .inr ⟨w.heap.size, xs.length, xs.toArray, rfl, Nat.le_refl _, heap_alloc_new w _, Nat.le_refl _, hm, by simp, by simp⟩⟩
theorem owns_set1 {w : World} {base T g n c : Nat} {xs : List Value} (h : w.ownsRow base T 1 (.slice (some ⟨g, 0, none⟩) n c) n xs) (i : Nat) (v : Value) : (w.setCell ⟨g, i, none⟩ v).ownsRow base T 1 (.slice (some ⟨g, 0, none⟩) n c) n (xs.set i v) := by
  obtain ⟨hl, h⟩ := h
  refine ⟨by rw [List.length_set]; exact hl, ?_⟩
  rcases h with ⟨h, _⟩ | ⟨g', cap, cur, e, hb, hh, h1, h2, h3, h4⟩
  · cases h
  · injection e with e1 _ e3
    injection e1 with e1
    injection e1 with e1
    subst e1 e3
    refine .inr ⟨g, c, cur.setIfInBounds i v, rfl, hb, ?_, h1, h2, by simpa using h3, ?_⟩
    · simp [World.setCell, Array.getElem?_modify, hh]
    · rw [Array.toList_setIfInBounds, ← h4, List.take_set]
theorem rows_last (n : List Nat) (V : List It) (x : It) : (((rowsB n V).map Value.string).set (V.length + 1) (.string (toBA (lineC x)))) ++ [.string (toBA (asc "}"))] = (rowsB n (V ++ [x])).map Value.string := by
  unfold rowsB rowsG
  simp only [List.map_append, List.map_cons, List.map_nil, List.append_assoc, List.set_cons_succ]
  rw [List.set_append_right _ _ (by simp)]
  simp
theorem owns_arr1 {w : World} {base n c : Nat} {A : Option Addr} {L : List ByteArray} (h : w.ownsRow base 9 1 (.slice A n c) n (L.map Value.string)) (hn : L.length = n) (h0 : 0 < n) : Arr w A 1 (L.map fun s => [Value.string s]) ∧ n ≤ c := by
  obtain ⟨g, rfl, _, hr, hc, _⟩ := owns_row h h0
  refine ⟨arr_row (T := 9) (Vs := L.map fun s => [Value.string s]) ?_ (by simp), hc⟩
  have e : ∀ Q : List ByteArray, (Q.map fun s => [Value.string s]).flatten = Q.map Value.string := fun Q => by
    induction Q with
    | nil => rfl
    | cons s Q ih => rw [List.map_cons, List.flatten_cons, ih]; rfl
  rw [e]
  exact hr
set_option maxHeartbeats 4000000 in
theorem ruletextTwice_any (G : Gm) (Va Vt : Value) (n : Int) (w : World) (hW : Laid w) (hS : LaidS w) (hG : GmIn w Va Vt G) (hn : 0 ≤ n ∧ n < 65536) :
    Calls Tryz.prog 7 #[.agg (gmV G Va Vt).toArray, .int .u16 n] w fun e w' => e = .returned (.bool true) ∧ Below w.heap.size w w' := by
  refine calls_W (l := [_, _]) Tryz.func7 rfl _ Tryz.ntmps7 (by simp) ?_
  have hw5 := hW.size
  have r0 := Row.new w 26 (gmV G Va Vt)
  have b0 := below_alloc w (.cells (gmV G Va Vt).toArray 26)
  refine W_piece fun K hK hX => ?_
  simp +contextual (maxSteps := 2000000) (disch := first | omega | (simp only [SZ]; first | done | omega) | (simp only [TS] at *; omega)) only [RZ, ovw, oneC, reduceAdd, reduceMul, reduceSub, reduceEqDiff, reduceLT, ↓reduceIte, Int.reduceToNat, reduceLeDiff]
  refine hK _ _ ?_
  clear hK hX K
  generalize w.alloc (.cells (gmV G Va Vt).toArray 26) = w1 at r0 b0 ⊢
  have hz1 := b0.size
  have l1 := load_game r0
  refine W_piece fun K hK hX => ?_
  refine W_piece fun K2 hK2 hX2 => ?_
  simp +contextual (maxSteps := 2000000) (disch := first | omega | (simp only [SZ]; first | done | omega) | (simp only [TS] at *; omega)) only [RZ, ovw, oneC, reduceAdd, reduceMul, reduceSub, reduceEqDiff, reduceLT, ↓reduceIte, Int.reduceToNat, reduceLeDiff,  l1]
  refine (few_any G Va Vt w1 (hG.below b0)).mono ?_
  rintro e w2 ⟨rfl, hB2⟩
  refine ⟨_, rfl, ?_⟩
  try simp +contextual (maxSteps := 2000000) (disch := first | omega | (simp only [SZ]; first | done | omega) | (simp only [TS] at *; omega)) only [RZ, ovw, oneC, reduceAdd, reduceMul, reduceSub, reduceEqDiff, reduceLT, ↓reduceIte, Int.reduceToNat, reduceLeDiff,  l1]
  refine hK2 _ _ ?_
  clear hK2 hX2 K2 l1
  have hF2 := b0.trans (hB2.mono hz1)
  have hz2 := hF2.size
  have r2 := r0.below hB2
  have l2 := load_game r2
  have hend : ∀ (w7 : World) {R : Ending → World → Prop}, Below w.heap.size w w7 → (∀ w8, Below w.heap.size w w8 → R (.returned (.bool true)) w8) → Calls Tryz.prog 8 #[] w7 R := fun w7 R hF hR => by
    have := hF.size
    refine (awake_any w7 (hW.below hF hw5) (by omega)).mono ?_
    rintro e w8 ⟨rfl, hB8⟩
    exact hR w8 (hF.trans (hB8.mono this))
  cases hfew : fewB G with
  | false =>
    refine W_if_t rfl ?_
    refine W_piece fun K2 hK2 hX2 => ?_
    simp +contextual (maxSteps := 2000000) (disch := first | omega | (simp only [SZ]; first | done | omega) | (simp only [TS] at *; omega)) only [RZ, ovw, oneC, reduceAdd, reduceMul, reduceSub, reduceEqDiff, reduceLT, ↓reduceIte, Int.reduceToNat, reduceLeDiff]
    refine hend w2 hF2 fun wz hFz => ?_
    refine ⟨_, rfl, ?_⟩
    try simp +contextual (maxSteps := 2000000) (disch := first | omega | (simp only [SZ]; first | done | omega) | (simp only [TS] at *; omega)) only [RZ, ovw, oneC, reduceAdd, reduceMul, reduceSub, reduceEqDiff, reduceLT, ↓reduceIte, Int.reduceToNat, reduceLeDiff]
    refine hK2 _ _ ?_
    clear hK2 hX2 K2
    rw [W_ret]
    refine hX _ _ _ (fun h => by cases h) ?_
    simp +contextual (maxSteps := 2000000) (disch := first | omega | (simp only [SZ]; first | done | omega) | (simp only [TS] at *; omega)) only [RZ, ovw, oneC, reduceAdd, reduceMul, reduceSub, reduceEqDiff, reduceLT, ↓reduceIte, Int.reduceToNat, reduceLeDiff]
    exact hFz
  | true =>
  refine W_if_f rfl ?_
  rw [W_skip]
  refine hK _ _ ?_
  clear hK hX K
  refine W_piece fun K hK hX => ?_
  simp +contextual (maxSteps := 2000000) (disch := first | omega | (simp only [SZ]; first | done | omega) | (simp only [TS] at *; omega)) only [RZ, ovw, oneC, reduceAdd, reduceMul, reduceSub, reduceEqDiff, reduceLT, ↓reduceIte, Int.reduceToNat, reduceLeDiff,  l2]
  refine (print_any G Va Vt w2 (hW.below hF2 hw5) (by omega) (hG.below hF2) (few_little hfew)).mono ?_
  rintro e w3 ⟨rfl, hB3⟩
  refine ⟨_, rfl, ?_⟩
  have hF3 := hF2.trans (hB3.mono hz2)
  have hz3 := hF3.size
  have r3 := r2.below hB3
  have hps := print_size G
  try simp +contextual (maxSteps := 2000000) (disch := first | omega | (simp only [SZ]; first | done | omega) | (simp only [TS] at *; omega)) only [RZ, ovw, oneC, reduceAdd, reduceMul, reduceSub, reduceEqDiff, reduceLT, ↓reduceIte, Int.reduceToNat, reduceLeDiff]
  refine hK _ _ ?_
  clear hK hX K
  refine W_piece fun K hK hX => ?_
  try simp +contextual (maxSteps := 2000000) (disch := first | omega | (simp only [SZ]; first | done | omega) | (simp only [TS] at *; omega)) only [RZ, ovw, oneC, reduceAdd, reduceMul, reduceSub, reduceEqDiff, reduceLT, ↓reduceIte, Int.reduceToNat, reduceLeDiff]
  refine (lines_any (toBA (printG G)) w3 (hS.below hF3 hw5) (by omega)).mono ?_
  rintro e w4 ⟨rfl, hw4⟩
  refine ⟨_, rfl, ?_⟩
  by_cases hp : printG G = []
  · have hcnt : Lib.countB (trimB (toBA (printG G))) nlB = 0 := by rw [hp]; rfl
    have hB4 : Below w3.heap.size w3 w4 := by rw [hw4]; exact below_alloc w3 _
    clear hw4
    rw [hcnt]
    have hF4 := hF3.trans (hB4.mono hz3)
    try simp +contextual (maxSteps := 2000000) (disch := first | omega | (simp only [SZ]; first | done | omega) | (simp only [TS] at *; omega)) only [RZ, ovw, oneC, reduceAdd, reduceMul, reduceSub, reduceEqDiff, reduceLT, ↓reduceIte, Int.reduceToNat, reduceLeDiff]
    refine hK _ _ ?_
    clear hK hX K
    refine W_piece fun K hK hX => ?_
    refine W_piece fun K2 hK2 hX2 => ?_
    simp +contextual (maxSteps := 2000000) (disch := first | omega | (simp only [SZ]; first | done | omega) | (simp only [TS] at *; omega)) only [RZ, ovw, oneC, reduceAdd, reduceMul, reduceSub, reduceEqDiff, reduceLT, ↓reduceIte, Int.reduceToNat, reduceLeDiff]
    refine hK2 _ _ ?_
    clear hK2 hX2 K2
    refine W_if_t rfl ?_
    refine W_piece fun K2 hK2 hX2 => ?_
    simp +contextual (maxSteps := 2000000) (disch := first | omega | (simp only [SZ]; first | done | omega) | (simp only [TS] at *; omega)) only [RZ, ovw, oneC, reduceAdd, reduceMul, reduceSub, reduceEqDiff, reduceLT, ↓reduceIte, Int.reduceToNat, reduceLeDiff]
    refine hend w4 hF4 fun wz hFz => ?_
    refine ⟨_, rfl, ?_⟩
    try simp +contextual (maxSteps := 2000000) (disch := first | omega | (simp only [SZ]; first | done | omega) | (simp only [TS] at *; omega)) only [RZ, ovw, oneC, reduceAdd, reduceMul, reduceSub, reduceEqDiff, reduceLT, ↓reduceIte, Int.reduceToNat, reduceLeDiff]
    refine hK2 _ _ ?_
    clear hK2 hX2 K2
    rw [W_ret]
    refine hX _ _ _ (fun h => by cases h) ?_
    simp +contextual (maxSteps := 2000000) (disch := first | omega | (simp only [SZ]; first | done | omega) | (simp only [TS] at *; omega)) only [RZ, ovw, oneC, reduceAdd, reduceMul, reduceSub, reduceEqDiff, reduceLT, ↓reduceIte, Int.reduceToNat, reduceLeDiff]
    exact hFz
  obtain ⟨V, hV, hpr, hnm, hf, hwk, hz, hnd, hl, hV1⟩ := printed hp
  have hb : bs (toBA (printG G)) = gameY (bs G.name) V ++ [10] := by rw [bs_toBA (printG_lt G), hpr, gameX_Y]
  obtain ⟨hcnt, hspl⟩ := rows_split hnm hf hwk (s := trimB (toBA (printG G))) (trim_nl hb)
  rw [hcnt] at hw4 ⊢
  rw [hspl] at hw4
  have hB4 : Below w3.heap.size w3 w4 := by rw [hw4]; exact below_alloc w3 _
  have q4 : Row w4 w3.heap.size 9 ((rowsB (bs G.name) V).map Value.string) := by rw [hw4]; exact Row.new w3 _ _
  have hrl : ((rowsB (bs G.name) V).map Value.string).length = V.length + 1 + 1 := by
    unfold rowsB rowsG
    simp
  have o4' : V.length ≤ 32768 → w4.ownsRow w3.heap.size 9 1 (.slice (some ⟨w3.heap.size, 0, none⟩) (V.length + 1 + 1) (V.length + 1 + 1)) (V.length + 1 + 1) ((rowsB (bs G.name) V).map Value.string) := fun h => by
    have := owns_new1 w3 9 ((rowsB (bs G.name) V).map Value.string) (by rw [hrl]; unfold maxLen; omega)
    rw [hrl] at this
    rw [hw4]
    exact this
  clear hw4
  have hF4 := hF3.trans (hB4.mono hz3)
  have hz4 := hF4.size
  have r4 := r3.below hB4
  have hVl : V.length ≤ 32768 := by
    have h1 := lines_len V
    have h2 := hl
    unfold gameX at h2
    simp only [List.length_append] at h2
    omega
  try simp +contextual (maxSteps := 2000000) (disch := first | omega | (simp only [SZ]; first | done | omega) | (simp only [TS] at *; omega)) only [RZ, ovw, oneC, reduceAdd, reduceMul, reduceSub, reduceEqDiff, reduceLT, ↓reduceIte, Int.reduceToNat, reduceLeDiff]
  refine hK _ _ ?_
  clear hK hX K
  have eV : ((V.length : Int) + 1 + 1 < 3) = False := eq_false (by omega)
  refine W_piece fun K hK hX => ?_
  refine W_piece fun K2 hK2 hX2 => ?_
  simp +contextual (maxSteps := 2000000) (disch := first | omega | (simp only [SZ]; first | done | omega) | (simp only [TS] at *; omega)) only [RZ, ovw, oneC, reduceAdd, reduceMul, reduceSub, reduceEqDiff, reduceLT, ↓reduceIte, Int.reduceToNat, reduceLeDiff,  eV]
  refine hK2 _ _ ?_
  clear hK2 hX2 K2
  by_cases hsz : 16000 < (toBA (printG G)).size
  · refine W_if_t (by rw [show decide ((16000 : Int) < ((toBA (printG G)).size : Int)) = true from decide_eq_true (by omega)]; rfl) ?_
    refine W_piece fun K2 hK2 hX2 => ?_
    simp +contextual (maxSteps := 2000000) (disch := first | omega | (simp only [SZ]; first | done | omega) | (simp only [TS] at *; omega)) only [RZ, ovw, oneC, reduceAdd, reduceMul, reduceSub, reduceEqDiff, reduceLT, ↓reduceIte, Int.reduceToNat, reduceLeDiff]
    refine hend w4 hF4 fun wz hFz => ?_
    refine ⟨_, rfl, ?_⟩
    try simp +contextual (maxSteps := 2000000) (disch := first | omega | (simp only [SZ]; first | done | omega) | (simp only [TS] at *; omega)) only [RZ, ovw, oneC, reduceAdd, reduceMul, reduceSub, reduceEqDiff, reduceLT, ↓reduceIte, Int.reduceToNat, reduceLeDiff]
    refine hK2 _ _ ?_
    clear hK2 hX2 K2
    rw [W_ret]
    refine hX _ _ _ (fun h => by cases h) ?_
    simp +contextual (maxSteps := 2000000) (disch := first | omega | (simp only [SZ]; first | done | omega) | (simp only [TS] at *; omega)) only [RZ, ovw, oneC, reduceAdd, reduceMul, reduceSub, reduceEqDiff, reduceLT, ↓reduceIte, Int.reduceToNat, reduceLeDiff]
    exact hFz
  refine W_if_f (by rw [show decide ((16000 : Int) < ((toBA (printG G)).size : Int)) = false from decide_eq_false (by omega)]; rfl) ?_
  rw [W_skip]
  refine hK _ _ ?_
  clear hK hX K
  obtain ⟨k, hk1, hk2⟩ : ∃ k : Nat, n % ((V.length : Int) + 1 + 1 - 2) = k ∧ k < V.length := by
    have h1 := Int.emod_nonneg n (show (V.length : Int) + 1 + 1 - 2 ≠ 0 by omega)
    have h2 := Int.emod_lt_of_pos n (show 0 < (V.length : Int) + 1 + 1 - 2 by omega)
    exact ⟨(n % ((V.length : Int) + 1 + 1 - 2)).toNat, by omega, by omega⟩
  refine W_piece fun K hK hX => ?_
  simp +contextual (maxSteps := 2000000) (disch := first | omega | (simp only [SZ]; first | done | omega) | (simp only [TS] at *; omega)) only [RZ, ovw, oneC, reduceAdd, reduceMul, reduceSub, reduceEqDiff, reduceLT, ↓reduceIte, Int.reduceToNat, reduceLeDiff,  hk1]
  refine hK _ _ ?_
  clear hK hX K
  rw [show (1 : Int) + (k : Int) = ((k + 1 : Nat) : Int) by omega]
  obtain ⟨x, hx0, hxV⟩ : ∃ x, V[k]? = some x ∧ x ∈ V := ⟨V[k], List.getElem?_eq_getElem hk2, List.getElem_mem hk2⟩
  have hx : ((rowsB (bs G.name) V).map Value.string)[k + 1]? = some (.string (toBA (lineC x))) := by
    unfold rowsB rowsG
    rw [List.map_cons, List.map_cons, List.getElem?_cons_succ, List.getElem?_map, List.getElem?_map, List.getElem?_append_left (by rw [List.length_map]; exact hk2), List.getElem?_map, hx0]
    rfl
  have hlt : ∃ y, ((rowsB (bs G.name) V).map Value.string)[V.length + 1]? = some y := by
    refine ⟨_, List.getElem?_eq_getElem ?_⟩
    unfold rowsB rowsG
    simp
  obtain ⟨yl, hyl⟩ := hlt
  have hfx := List.all_eq_true.1 hf x hxV
  have hwx := List.all_eq_true.1 hwk x hxV
  obtain ⟨ux, Rx, fx, bx⟩ := line_fields hfx hwx
  have ax : ∀ c ∈ bs (toBA (lineC x)), c < 128 := by
    rw [bs_toBA (fun c hc => by have := (lineC_lt hfx hwx c hc).1; omega)]
    exact fun c hc => (lineC_lt hfx hwx c hc).1
  have hgX : (gameX (bs G.name) V).length ≤ 16000 := by
    rw [toBA_size, hpr] at hsz
    omega
  have hlx : (lineG x).length ≤ 16000 := by
    have h1 : (lineG x).length ≤ (V.flatMap lineG).length := line_le hxV
    have h2 := hgX
    unfold gameX at h2
    simp only [List.length_append] at h2 h1
    omega
  have sx : (toBA (lineC x)).size ≤ 1000000 := by
    rw [lineG_C, List.length_append] at hlx
    rw [toBA_size]
    omega
  have hsz2 : (gameY (bs G.name) (V ++ [x])).length ≤ 32768 := by
    have h2 := hgX
    rw [gameX_Y, List.length_append] at h2
    unfold gameY at h2 ⊢
    simp only [List.length_append, List.flatMap_append, List.flatMap_cons, List.flatMap_nil, List.append_nil] at h2 ⊢
    omega
  generalize hj : k + 1 = j at *
  have hjm : j ≤ V.length := by omega
  have cx := q4.cell hx
  refine W_piece fun K hK hX => ?_
  simp +contextual (maxSteps := 2000000) (disch := first | omega | (simp only [SZ]; first | done | omega) | (simp only [TS] at *; omega)) only [RZ, ovw, oneC, reduceAdd, reduceMul, reduceSub, reduceEqDiff, reduceLT, ↓reduceIte, Int.reduceToNat, reduceLeDiff,  cx]
  refine (item_any (toBA (lineC x)) ux Rx w4 (hS.below hF4 hw5) sx ax fx).mono ?_
  rintro e w5 ⟨rfl, hB5⟩
  refine ⟨_, rfl, ?_⟩
  have hF5 := hF4.trans (hB5.mono hz4)
  have hz5 := hF5.size
  have q5 := q4.below hB5
  have r5 := r4.below hB5
  clear cx
  try simp +contextual (maxSteps := 2000000) (disch := first | omega | (simp only [SZ]; first | done | omega) | (simp only [TS] at *; omega)) only [RZ, ovw, oneC, reduceAdd, reduceMul, reduceSub, reduceEqDiff, reduceLT, ↓reduceIte, Int.reduceToNat, reduceLeDiff]
  refine hK _ _ ?_
  clear hK hX K
  have o4 := o4' hVl
  have o5 := owns_below o4 hB5
  have c5 := q5.cell hx
  have d5 := q5.cell hyl
  have z5 := q5.frozen (V.length + 1)
  have hm1 : (V.length : Int) + 1 + 1 - 1 = ((V.length + 1 : Nat) : Int) := by omega
  have hlt3 := r3.lt
  have hbb : w.heap.size ≤ w3.heap.size := by omega
  have o6 := owns_set1 o5 (V.length + 1) (.string (toBA (lineC x)))
  have hF6 := hF5.setCell (p := ⟨w3.heap.size, V.length + 1, none⟩) hbb (.string (toBA (lineC x)))
  have hB6 : Below w3.heap.size w3 (w5.setCell ⟨w3.heap.size, V.length + 1, none⟩ (.string (toBA (lineC x)))) := (hB4.trans (hB5.mono hB4.size)).setCell (p := ⟨w3.heap.size, V.length + 1, none⟩) (Nat.le_refl _) _
  have r6 := r5.far (p := ⟨w3.heap.size, V.length + 1, none⟩) (by show w.heap.size ≠ w3.heap.size; omega) (.string (toBA (lineC x)))
  refine W_piece fun K hK hX => ?_
  have hm2 : ((V.length : Int) + 1).toNat = V.length + 1 := by omega
  simp +contextual (maxSteps := 2000000) (disch := first | omega | (simp only [SZ]; first | done | omega) | (simp only [TS] at *; omega)) only [RZ, ovw, oneC, reduceAdd, reduceMul, reduceSub, reduceEqDiff, reduceLT, ↓reduceIte, Int.reduceToNat, reduceLeDiff,  hm1, hm2, c5, d5, z5]
  generalize w5.setCell ⟨w3.heap.size, V.length + 1, none⟩ (.string (toBA (lineC x))) = w6 at *
  refine hK _ _ ?_
  clear hK hX K
  have hI : sliceI Tryz.prog 35 = some (9, 1, 16) := by kernel_rfl
  obtain ⟨A', c', w7, he, o7, hb7, hs7⟩ := push1 (P := Tryz.prog) (T := 35) (ty := 35) (news := [.string ⟨#[125]⟩]) o6 hB6.size hI rfl (fun u hu => by simp at hu; subst hu; rfl) (by omega) (by decide)
  rw [show (⟨#[125]⟩ : ByteArray) = toBA (asc "}") by decide +kernel, rows_last] at o7
  have hF7 := hF6.trans (hb7.mono hbb)
  have hz7 := hF7.size
  have r7 := r6.of_block (hb7.block _ hlt3)
  refine W_piece fun K hK hX => ?_
  simp +contextual (maxSteps := 2000000) (disch := first | omega | (simp only [SZ]; first | done | omega) | (simp only [TS] at *; omega)) only [RZ, ovw, oneC, reduceAdd, reduceMul, reduceSub, reduceEqDiff, reduceLT, ↓reduceIte, Int.reduceToNat, reduceLeDiff,  he]
  refine hK _ _ ?_
  clear hK hX K
  have hf2 := all_snoc hf hxV
  have hw2 := all_snoc hwk hxV
  have hjr := join_rows hnm hf2 hw2
  have hml : (rowsB (bs G.name) (V ++ [x])).length = V.length + 1 + 1 + 1 := by
    unfold rowsB rowsG
    simp
  obtain ⟨hPar, hcap⟩ := owns_arr1 o7 hml (by omega)
  have hlt' : ∀ c ∈ gameY (bs G.name) (V ++ [x]), c < 256 := fun c hc => joinS_lt nlB _ c (by rw [show bs nlB = [10] from rfl, hjr]; exact hc)
  have hYb := bs_toBA hlt'
  have hYz : (toBA (gameY (bs G.name) (V ++ [x]))).size ≤ 32768 := by rw [toBA_size]; exact hsz2
  have hJn := sjoin_any (rowsB (bs G.name) (V ++ [x])) nlB A' c' w7 hPar (by omega) (by omega) (by decide) (by
    rw [show bs nlB = [10] from rfl, hjr]
    omega)
  rw [hml, show bs nlB = [10] from rfl, hjr] at hJn
  have hok := fun h => twice_ok hp (hV ▸ hxV) (i := x) h (s := toBA (gameY (bs G.name) (V ++ [x]))) (by rw [hYb, hV]) hYz
  have herr := fun kk h => twice_err hp (hV ▸ hxV) (i := x) (kk := kk) h (s := toBA (gameY (bs G.name) (V ++ [x]))) (by rw [hYb, hV]) hYz
  rw [← hV] at herr
  generalize toBA (gameY (bs G.name) (V ++ [x])) = YY at *
  clear o4' o4 o5 o6 o7 c5 d5 z5 hPar he
  refine W_piece fun K hK hX => ?_
  simp +contextual (maxSteps := 2000000) (disch := first | omega | (simp only [SZ]; first | done | omega) | (simp only [TS] at *; omega)) only [RZ, ovw, oneC, reduceAdd, reduceMul, reduceSub, reduceEqDiff, reduceLT, ↓reduceIte, Int.reduceToNat, reduceLeDiff]
  refine hJn.mono ?_
  rintro e w8 ⟨rfl, hB8⟩
  refine ⟨_, rfl, ?_⟩
  have hF8 := hF7.trans (hB8.mono hz7)
  have hz8 := hF8.size
  have r8 := r7.below hB8
  try simp +contextual (maxSteps := 2000000) (disch := first | omega | (simp only [SZ]; first | done | omega) | (simp only [TS] at *; omega)) only [RZ, ovw, oneC, reduceAdd, reduceMul, reduceSub, reduceEqDiff, reduceLT, ↓reduceIte, Int.reduceToNat, reduceLeDiff]
  refine (parse_any YY w8 (by omega) (hW.below hF8 hw5) (by omega)).mono ?_
  rintro e w9 ⟨hB9, Va9, Vt9, rfl, hG9⟩
  refine ⟨_, rfl, ?_⟩
  have r9 := r8.below hB9
  have hF9 := hF8.trans (hB9.mono hz8)
  have hz9 := hF9.size
  generalize hPG : parseG YY = PG at *
  obtain ⟨H, er, ln⟩ := PG
  dsimp only at hG9 hok herr ⊢
  obtain ⟨⟨Aa9, ca9, Vs9, rfl, _⟩, At9, ct9, rfl, _⟩ := id hG9
  simp only [gmV]
  simp +contextual (maxSteps := 2000000) (disch := first | omega | (simp only [SZ]; first | done | omega) | (simp only [TS] at *; omega)) only [RZ, ovw, oneC, reduceAdd, reduceMul, reduceSub, reduceEqDiff, reduceLT, ↓reduceIte, Int.reduceToNat, reduceLeDiff]
  refine hK _ _ ?_
  clear hK hX K
  refine W_gen fun wA hwA => ?_
  have hBA : Below w9.heap.size w9 wA := by rw [hwA]; exact below_alloc w9 _
  have qA : Row wA w9.heap.size 26 (gmV H (.slice Aa9 H.addons.length ca9) (.slice At9 H.tiers.length ct9)) := by rw [hwA]; exact Row.new w9 _ _
  clear hwA
  have rA := r9.below hBA
  have hFA := hF9.trans (hBA.mono hz9)
  have hzA := hFA.size
  have haw : ∀ t : ByteArray, ((⟨ux.toArray⟩ : ByteArray) = t) = (firstW x = bs t) := fun t => by
    rw [← bx]
    exact propext ⟨fun h => by rw [h], fun h => bs_inj h⟩
  obtain ⟨_, hgl1, hgl2, _⟩ := few_little hfew
  generalize hsa : (⟨ux.toArray⟩ : ByteArray) = a at *
  obtain ⟨⟨Aa, ca, Vs, rfl, _⟩, At, ct, rfl, _⟩ := id hG
  cases hkk : x.key with
  | none =>
    obtain ⟨h0, hcnt⟩ := hok hkk
    injection h0 with h0 h0'
    subst h0 h0'
    have g20 := rA.cell (i := 20) rfl
    have g21 := rA.cell (i := 21) rfl
    have k20 := qA.cell (i := 20) rfl
    have k21 := qA.cell (i := 21) rfl
    have eC : ((H.addons.length : Int) + (H.tiers.length : Int) = (G.addons.length : Int) + (G.tiers.length : Int) + 1) = True := eq_true (by omega)
    have e23 : ((a = ⟨#[97, 100, 100, 111, 110]⟩) = True) ∨ ((a = ⟨#[97, 100, 100, 111, 110]⟩) = False ∧ (a = ⟨#[116, 105, 101, 114]⟩) = True) := by
      rcases key_first hkk with h1 | h1
      · exact .inl ((haw _).trans (eq_true h1))
      · exact .inr ⟨(haw _).trans (eq_false (by rw [h1]; decide +kernel)), (haw _).trans (eq_true h1)⟩
    refine W_piece fun K hK hX => ?_
    refine W_piece fun K2 hK2 hX2 => ?_
    rcases e23 with e2 | ⟨e2, e3⟩
    · simp +contextual (maxSteps := 2000000) (disch := first | omega | (simp only [SZ]; first | done | omega) | (simp only [TS] at *; omega)) only [RZ, ovw, oneC, reduceAdd, reduceMul, reduceSub, reduceEqDiff, reduceLT, ↓reduceIte, Int.reduceToNat, reduceLeDiff,  e2]
      refine hK2 _ _ ?_
      clear hK2 hX2 K2
      refine W_if_t rfl ?_
      refine W_piece fun K2 hK2 hX2 => ?_
      simp +contextual (maxSteps := 2000000) (disch := first | omega | (simp only [SZ]; first | done | omega) | (simp only [TS] at *; omega)) only [RZ, ovw, oneC, reduceAdd, reduceMul, reduceSub, reduceEqDiff, reduceLT, ↓reduceIte, Int.reduceToNat, reduceLeDiff,  g20, g21, k20, k21, eC]
      refine hend wA hFA fun wz hFz => ?_
      refine ⟨_, rfl, ?_⟩
      try simp +contextual (maxSteps := 2000000) (disch := first | omega | (simp only [SZ]; first | done | omega) | (simp only [TS] at *; omega)) only [RZ, ovw, oneC, reduceAdd, reduceMul, reduceSub, reduceEqDiff, reduceLT, ↓reduceIte, Int.reduceToNat, reduceLeDiff]
      refine hK2 _ _ ?_
      clear hK2 hX2 K2
      rw [W_ret]
      refine hX _ _ _ (fun h => by cases h) ?_
      simp +contextual (maxSteps := 2000000) (disch := first | omega | (simp only [SZ]; first | done | omega) | (simp only [TS] at *; omega)) only [RZ, ovw, oneC, reduceAdd, reduceMul, reduceSub, reduceEqDiff, reduceLT, ↓reduceIte, Int.reduceToNat, reduceLeDiff]
      exact hFz
    · simp +contextual (maxSteps := 2000000) (disch := first | omega | (simp only [SZ]; first | done | omega) | (simp only [TS] at *; omega)) only [RZ, ovw, oneC, reduceAdd, reduceMul, reduceSub, reduceEqDiff, reduceLT, ↓reduceIte, Int.reduceToNat, reduceLeDiff,  e2, e3]
      refine hK2 _ _ ?_
      clear hK2 hX2 K2
      refine W_if_t rfl ?_
      refine W_piece fun K2 hK2 hX2 => ?_
      simp +contextual (maxSteps := 2000000) (disch := first | omega | (simp only [SZ]; first | done | omega) | (simp only [TS] at *; omega)) only [RZ, ovw, oneC, reduceAdd, reduceMul, reduceSub, reduceEqDiff, reduceLT, ↓reduceIte, Int.reduceToNat, reduceLeDiff,  g20, g21, k20, k21, eC]
      refine hend wA hFA fun wz hFz => ?_
      refine ⟨_, rfl, ?_⟩
      try simp +contextual (maxSteps := 2000000) (disch := first | omega | (simp only [SZ]; first | done | omega) | (simp only [TS] at *; omega)) only [RZ, ovw, oneC, reduceAdd, reduceMul, reduceSub, reduceEqDiff, reduceLT, ↓reduceIte, Int.reduceToNat, reduceLeDiff]
      refine hK2 _ _ ?_
      clear hK2 hX2 K2
      rw [W_ret]
      refine hX _ _ _ (fun h => by cases h) ?_
      simp +contextual (maxSteps := 2000000) (disch := first | omega | (simp only [SZ]; first | done | omega) | (simp only [TS] at *; omega)) only [RZ, ovw, oneC, reduceAdd, reduceMul, reduceSub, reduceEqDiff, reduceLT, ↓reduceIte, Int.reduceToNat, reduceLeDiff]
      exact hFz
  | some kk =>
    have h0 := herr kk hkk
    injection h0 with h0 h0'
    subst h0 h0'
    have hnw : ∀ t, (t = asc "addon" ∨ t = asc "tier") → firstW x ≠ t := fun t ht h => by
      have := first_none hwx (by rw [h]; exact ht)
      rw [hkk] at this
      cases this
    have e2 : (a = ⟨#[97, 100, 100, 111, 110]⟩) = False := (haw _).trans (eq_false (hnw _ (.inl (by decide +kernel))))
    have e3 : (a = ⟨#[116, 105, 101, 114]⟩) = False := (haw _).trans (eq_false (hnw _ (.inr (by decide +kernel))))
    have eC : ((V.length : Int) + 2 = (V.length : Int) + 1 + 1 + 1 - 1) = True := eq_true (by omega)
    refine W_piece fun K hK hX => ?_
    refine W_piece fun K2 hK2 hX2 => ?_
    simp +contextual (maxSteps := 2000000) (disch := first | omega | (simp only [SZ]; first | done | omega) | (simp only [TS] at *; omega)) only [RZ, ovw, oneC, reduceAdd, reduceMul, reduceSub, reduceEqDiff, reduceLT, ↓reduceIte, Int.reduceToNat, reduceLeDiff,  e2, e3]
    refine hK2 _ _ ?_
    clear hK2 hX2 K2
    refine W_if_f rfl ?_
    rw [W_skip]
    refine hK _ _ ?_
    clear hK hX K
    refine W_piece fun K hK hX => ?_
    simp +contextual (maxSteps := 2000000) (disch := first | omega | (simp only [SZ]; first | done | omega) | (simp only [TS] at *; omega)) only [RZ, ovw, oneC, reduceAdd, reduceMul, reduceSub, reduceEqDiff, reduceLT, ↓reduceIte, Int.reduceToNat, reduceLeDiff,  eC]
    refine hend wA hFA fun wz hFz => ?_
    refine ⟨_, rfl, ?_⟩
    try simp +contextual (maxSteps := 2000000) (disch := first | omega | (simp only [SZ]; first | done | omega) | (simp only [TS] at *; omega)) only [RZ, ovw, oneC, reduceAdd, reduceMul, reduceSub, reduceEqDiff, reduceLT, ↓reduceIte, Int.reduceToNat, reduceLeDiff]
    refine hK _ _ ?_
    clear hK hX K
    simp +contextual (maxSteps := 2000000) (disch := first | omega | (simp only [SZ]; first | done | omega) | (simp only [TS] at *; omega)) only [RZ, ovw, oneC, reduceAdd, reduceMul, reduceSub, reduceEqDiff, reduceLT, ↓reduceIte, Int.reduceToNat, reduceLeDiff]
    exact hFz
end Go.Proofs.YtbdkggnajipdhaaGreatDoor
/- Arguments of chapter 11: a game. -/
namespace Go.Proofs.YtbdkggnajipdhaaGreatDoor
open Go.ChangeShapes Go.WideShapes Go.ChangeAt Go.RowKit Go.Joins Go.Deep
set_option maxRecDepth 100000
theorem list_of {α : Type} {P : Nat → α → Prop} : ∀ n, (∀ i, i < n → ∃ x, P i x) → ∃ L : List α, L.length = n ∧ ∀ i x, L[i]? = some x → P i x
  | 0, _ => ⟨[], rfl, fun i x h => by simp at h⟩
  | n + 1, h => by
    obtain ⟨L, h1, h2⟩ := list_of n fun i hi => h i (by omega)
    obtain ⟨x, hx⟩ := h n (by omega)
    refine ⟨L ++ [x], by simp [h1], fun i y hy => ?_⟩
    by_cases hi : i < n
    · rw [List.getElem?_append_left (by omega)] at hy; exact h2 i y hy
    · rw [List.getElem?_append_right (by omega)] at hy
      have : i - L.length = 0 := by have := (List.getElem?_eq_some_iff.1 hy).1; simp at this; omega
      rw [this] at hy
      simp only [List.getElem?_cons_zero, Option.some.injEq] at hy
      subst hy
      have : i = n := by omega
      subst this; exact hx
theorem arr_of {α : Type} {enc : α → List Value} {sz n : Nat} {W : World} {a : Addr} (Q : α → Prop) (hne : ∀ x, ∃ v, (enc x)[0]? = some v) (h : ∀ i, i < n → ∃ x : α, Q x ∧ ∀ j v, (enc x)[j]? = some v → W.cell? (a.add (i * sz + j)) = some v) :
    ∃ L : List α, L.length = n ∧ Arr W (some a) sz (L.map enc) ∧ ∀ x ∈ L, Q x := by
  obtain ⟨L, h1, h2⟩ := list_of n h
  refine ⟨L, h1, fun hpos => ?_, fun x hx => by obtain ⟨i, hi⟩ := List.mem_iff_getElem?.1 hx; exact (h2 i x hi).1⟩
  rw [List.length_map] at hpos
  obtain ⟨b, o, s⟩ := a
  obtain ⟨x, hx⟩ : ∃ x, L[0]? = some x := ⟨_, List.getElem?_eq_getElem hpos⟩
  obtain ⟨v, hv⟩ := hne x
  have hc := (h2 0 x hx).2 0 v hv
  rw [Nat.zero_mul, Nat.add_zero] at hc
  cases s with
  | some s =>
    have e : Addr.add ⟨b, o, some s⟩ 0 = ⟨b, o, some s⟩ := if_pos rfl
    rw [e] at hc
    simp only [World.cell?] at hc
    split at hc <;> simp at hc
  | none =>
    rw [addr_add, Nat.add_zero] at hc
    refine ⟨b, o, rfl, ?_, fun i l hl j u hu => ?_⟩
    · simp only [World.cell?] at hc
      cases hb : W.heap[b]? with
      | none => rw [hb] at hc; cases hc
      | some ob => exact (Array.getElem?_eq_some_iff.1 hb).1
    · rw [List.getElem?_map] at hl
      cases hy : L[i]? with
      | none => rw [hy] at hl; cases hl
      | some y =>
        rw [hy] at hl
        simp only [Option.map_some, Option.some.injEq] at hl
        subst hl
        have := (h2 i y hy).2 j u hu
        rw [addr_add] at this
        rw [Nat.add_assoc]; exact this
section
variable {H : Type} {enc : TypeId × Value → H} {P : Program} {w : World} {base : Nat} {spare : Nat → Bool} {held : Bool}
/-- A struct of many fields, one cell each. -/
theorem open_aggN {r : Reach} {b0 : Nat} {t : TypeId} {fs : Array Field} {v : Value} {d : DataW H} {p : List MemPlace} (hs : P.underlying t = some (.struct fs)) (hone : oneCellFields P fs = true) (hC : P.cellsOf t = fs.size)
    (hv : Value.okWide P w r b0 t v) (h : DataW.Trod enc P w base spare held t v d p) :
    ∃ (cs : List Value) (n : Nat), v = .agg cs.toArray ∧ cs.length = fs.size ∧ ∀ (j : Nat) (f : Field), fs[j]? = some f → ∃ (c : Value) (y : DataW H × List MemPlace), cs[j]? = some c ∧ DataW.trod enc P w base spare held n f.type [c] = some y := by
  obtain ⟨cs, rfl, hsz⟩ := okWide_struct hs hv
  obtain ⟨l⟩ := cs
  obtain ⟨fuel, hf⟩ := h
  obtain ⟨xs, n, _, hx, _, hlen, hg⟩ := DataW.trod_struct hs hf
  have hl : l.length = fs.size := hsz.trans hC
  refine ⟨l, n, rfl, hl, fun j f hj => ?_⟩
  obtain ⟨ho, hk⟩ := hone_of hone j f hj
  have hjl : j < fs.size := (Array.getElem?_eq_some_iff.1 hj).1
  have h1 := hg j f hj
  simp only [Value.cells] at h1
  rw [ho, hk] at h1
  have hone' : (l.drop j).take 1 = [l[j]'(by omega)] := by
    rw [List.drop_eq_getElem_cons (by omega)]
    rfl
  rw [hone'] at h1
  refine ⟨l[j]'(by omega), xs[j]'(by omega), List.getElem?_eq_getElem (by omega), h1.trans (List.getElem?_eq_getElem (by omega))⟩
end
section
variable {H : Type} {enc : TypeId × Value → H} {W : World} {base n : Nat} {sp : Nat → Bool} {held : Bool}
theorem open_nums {cs : List Value} {y : DataW H × List MemPlace} (h : DataW.trod enc Tryz.prog W base sp held n 43 cs = some y) : ∃ (v : Value) (L : List Int), cs = [v] ∧ IntsR W v L := by
  have hC : Tryz.prog.cellsOf 3 = 1 := by kernel_rfl
  rcases open_slice Tryz.underlying43 h with ⟨rfl, _⟩ | ⟨a, len, cap, m, k, D, Pl, rfl, _, hl, hc, hm, _, hi⟩
  · exact ⟨_, [], rfl, none, 0, rfl, fun h => by simp at h⟩
  · rw [hC] at hi
    obtain ⟨L, h1, h2, _⟩ := arr_of (enc := fun x : Int => [Value.int .i64 x]) (sz := 1) (n := len) (W := W) (a := a) (fun _ => True) (fun x => ⟨_, rfl⟩) fun i him => by
      obtain ⟨cs', hcs, ht⟩ := hi i (by rw [hm]; split <;> omega)
      obtain ⟨x, rfl, _, hwf⟩ := DataW.trod_int Tryz.underlying3 ht
      obtain ⟨_, _, hat⟩ := World.cells?_some hcs
      refine ⟨x, trivial, fun j v hv => ?_⟩
      match j, hv with
      | 0, hv => exact (hat 0 (by omega)).trans hv
      | j + 1, hv => simp at hv
    exact ⟨_, L, rfl, some a, cap, by rw [h1], h2⟩
def encA (p : Ad × Value × Value) : List Value := [.string p.1.name, .int .i64 p.1.kind, .int .i64 p.1.price, p.2.1, .int .i64 p.1.digits, p.2.2]
theorem open_addons {cs : List Value} {y : DataW H × List MemPlace} (h : DataW.trod enc Tryz.prog W base sp held n 23 cs = some y) :
    ∃ (A : Option Addr) (c : Nat) (Vs : List (List Value)) (L : List Ad), cs = [.slice A L.length c] ∧ Arr W A 6 Vs ∧ AdsC (IntsR W) Vs L := by
  rcases open_slice_fields Tryz.underlying23 Tryz.underlying45 (by kernel_rfl) (by kernel_rfl) h with ⟨rfl, _⟩ | ⟨a, len, cap, m, D, Pl, rfl, _, hl, hc, hm, _, hi⟩
  · exact ⟨none, 0, [], [], rfl, fun h => absurd h (Nat.lt_irrefl _), rfl, fun i cs x h => by simp at h⟩
  · obtain ⟨P, h1, h2, h3⟩ := arr_of (enc := encA) (sz := 6) (n := len) (W := W) (a := a) (fun p => IntsR W p.2.1 p.1.factors ∧ IntsR W p.2.2 p.1.serials) (fun x => ⟨_, rfl⟩) fun i him => by
      obtain ⟨ys, k, _, _, _, hf⟩ := hi i (by rw [hm]; split <;> omega)
      obtain ⟨v0, y0, c0, _, t0⟩ := hf 0 _ rfl
      obtain ⟨v1, y1, c1, _, t1⟩ := hf 1 _ rfl
      obtain ⟨v2, y2, c2, _, t2⟩ := hf 2 _ rfl
      obtain ⟨v3, y3, c3, _, t3⟩ := hf 3 _ rfl
      obtain ⟨v4, y4, c4, _, t4⟩ := hf 4 _ rfl
      obtain ⟨v5, y5, c5, _, t5⟩ := hf 5 _ rfl
      obtain ⟨a0, e0, _⟩ := DataW.trod_string Tryz.underlying9 t0
      obtain ⟨a1, e1, _⟩ := DataW.trod_int Tryz.underlying3 t1
      obtain ⟨a2, e2, _⟩ := DataW.trod_int Tryz.underlying3 t2
      obtain ⟨vf, Lf, e3, hF⟩ := open_nums t3
      obtain ⟨a4, e4, _⟩ := DataW.trod_int Tryz.underlying3 t4
      obtain ⟨vs, Ls, e5, hS⟩ := open_nums t5
      simp only [List.cons.injEq, and_true] at e0 e1 e2 e3 e4 e5
      subst e0 e1 e2 e3 e4 e5
      refine ⟨(⟨a0, a1, a2, Lf, a4, Ls⟩, v3, v5), ⟨hF, hS⟩, fun j v hv => ?_⟩
      match j, hv with
      | 0, hv => injection hv with hv; subst hv; exact c0
      | 1, hv => injection hv with hv; subst hv; exact c1
      | 2, hv => injection hv with hv; subst hv; exact c2
      | 3, hv => injection hv with hv; subst hv; exact c3
      | 4, hv => injection hv with hv; subst hv; exact c4
      | 5, hv => injection hv with hv; subst hv; exact c5
      | j + 6, hv => simp [encA] at hv
    refine ⟨some a, cap, P.map encA, P.map (·.1), by rw [List.length_map, h1], h2, by rw [List.length_map, List.length_map], fun i cs x hcs hx => ?_⟩
    rw [List.getElem?_map] at hcs hx
    cases hp : P[i]? with
    | none => rw [hp] at hcs; cases hcs
    | some p =>
      rw [hp] at hcs hx
      simp only [Option.map_some, Option.some.injEq] at hcs hx
      subst hcs hx
      exact ⟨p.2.1, p.2.2, rfl, h3 p (List.mem_of_getElem? hp)⟩
theorem open_tiers {cs : List Value} {y : DataW H × List MemPlace} (h : DataW.trod enc Tryz.prog W base sp held n 24 cs = some y) :
    ∃ (A : Option Addr) (c : Nat) (L : List Ti), cs = [.slice A L.length c] ∧ Arr W A 6 (L.map encTi) := by
  rcases open_slice_fields Tryz.underlying24 Tryz.underlying41 (by kernel_rfl) (by kernel_rfl) h with ⟨rfl, _⟩ | ⟨a, len, cap, m, D, Pl, rfl, _, hl, hc, hm, _, hi⟩
  · exact ⟨none, 0, [], rfl, fun h => by simp at h⟩
  · obtain ⟨L, h1, h2, _⟩ := arr_of (enc := encTi) (sz := 6) (n := len) (W := W) (a := a) (fun _ => True) (fun x => ⟨_, rfl⟩) fun i him => by
      obtain ⟨ys, k, _, _, _, hf⟩ := hi i (by rw [hm]; split <;> omega)
      obtain ⟨v0, y0, c0, _, t0⟩ := hf 0 _ rfl
      obtain ⟨v1, y1, c1, _, t1⟩ := hf 1 _ rfl
      obtain ⟨v2, y2, c2, _, t2⟩ := hf 2 _ rfl
      obtain ⟨v3, y3, c3, _, t3⟩ := hf 3 _ rfl
      obtain ⟨v4, y4, c4, _, t4⟩ := hf 4 _ rfl
      obtain ⟨v5, y5, c5, _, t5⟩ := hf 5 _ rfl
      obtain ⟨a0, e0, _⟩ := DataW.trod_int Tryz.underlying3 t0
      obtain ⟨a1, e1, _⟩ := DataW.trod_int Tryz.underlying3 t1
      obtain ⟨a2, e2, _⟩ := DataW.trod_int Tryz.underlying3 t2
      obtain ⟨a3, e3, _⟩ := DataW.trod_int Tryz.underlying3 t3
      obtain ⟨a4, e4, _⟩ := DataW.trod_int Tryz.underlying3 t4
      obtain ⟨a5, e5, _⟩ := DataW.trod_int Tryz.underlying3 t5
      simp only [List.cons.injEq, and_true] at e0 e1 e2 e3 e4 e5
      subst e0 e1 e2 e3 e4 e5
      refine ⟨⟨a0, a1, a2, a3, a4, a5⟩, trivial, fun j v hv => ?_⟩
      match j, hv with
      | 0, hv => injection hv with hv; subst hv; exact c0
      | 1, hv => injection hv with hv; subst hv; exact c1
      | 2, hv => injection hv with hv; subst hv; exact c2
      | 3, hv => injection hv with hv; subst hv; exact c3
      | 4, hv => injection hv with hv; subst hv; exact c4
      | 5, hv => injection hv with hv; subst hv; exact c5
      | j + 6, hv => simp [encTi] at hv
    exact ⟨some a, cap, L, by rw [h1], h2⟩
theorem open_game {r : Reach} {b0 : Nat} {v : Value} {d : DataW H} {p : List MemPlace} (hv : Value.okWide Tryz.prog W r b0 26 v) (h : DataW.Trod enc Tryz.prog W base sp held 26 v d p) :
    ∃ (G : Gm) (Va Vt : Value), v = .agg (gmV G Va Vt).toArray ∧ GmIn W Va Vt G := by
  obtain ⟨cs, k, rfl, hl, hf⟩ := open_aggN Tryz.underlying26 (by kernel_rfl) (by kernel_rfl) hv h
  match cs, hl with
  | [c0, c1, c2, c3, c4, c5, c6, c7, c8, c9, c10, c11, c12, c13, c14, c15, c16, c17, c18, c19, c20, c21], _ =>
    obtain ⟨x0, y0, g0, t0⟩ := hf 0 _ rfl
    simp only [List.getElem?_cons_succ, List.getElem?_cons_zero, Option.some.injEq] at g0
    subst g0
    obtain ⟨x1, y1, g1, t1⟩ := hf 1 _ rfl
    simp only [List.getElem?_cons_succ, List.getElem?_cons_zero, Option.some.injEq] at g1
    subst g1
    obtain ⟨x2, y2, g2, t2⟩ := hf 2 _ rfl
    simp only [List.getElem?_cons_succ, List.getElem?_cons_zero, Option.some.injEq] at g2
    subst g2
    obtain ⟨x3, y3, g3, t3⟩ := hf 3 _ rfl
    simp only [List.getElem?_cons_succ, List.getElem?_cons_zero, Option.some.injEq] at g3
    subst g3
    obtain ⟨x4, y4, g4, t4⟩ := hf 4 _ rfl
    simp only [List.getElem?_cons_succ, List.getElem?_cons_zero, Option.some.injEq] at g4
    subst g4
    obtain ⟨x5, y5, g5, t5⟩ := hf 5 _ rfl
    simp only [List.getElem?_cons_succ, List.getElem?_cons_zero, Option.some.injEq] at g5
    subst g5
    obtain ⟨x6, y6, g6, t6⟩ := hf 6 _ rfl
    simp only [List.getElem?_cons_succ, List.getElem?_cons_zero, Option.some.injEq] at g6
    subst g6
    obtain ⟨x7, y7, g7, t7⟩ := hf 7 _ rfl
    simp only [List.getElem?_cons_succ, List.getElem?_cons_zero, Option.some.injEq] at g7
    subst g7
    obtain ⟨x8, y8, g8, t8⟩ := hf 8 _ rfl
    simp only [List.getElem?_cons_succ, List.getElem?_cons_zero, Option.some.injEq] at g8
    subst g8
    obtain ⟨x9, y9, g9, t9⟩ := hf 9 _ rfl
    simp only [List.getElem?_cons_succ, List.getElem?_cons_zero, Option.some.injEq] at g9
    subst g9
    obtain ⟨x10, y10, g10, t10⟩ := hf 10 _ rfl
    simp only [List.getElem?_cons_succ, List.getElem?_cons_zero, Option.some.injEq] at g10
    subst g10
    obtain ⟨x11, y11, g11, t11⟩ := hf 11 _ rfl
    simp only [List.getElem?_cons_succ, List.getElem?_cons_zero, Option.some.injEq] at g11
    subst g11
    obtain ⟨x12, y12, g12, t12⟩ := hf 12 _ rfl
    simp only [List.getElem?_cons_succ, List.getElem?_cons_zero, Option.some.injEq] at g12
    subst g12
    obtain ⟨x13, y13, g13, t13⟩ := hf 13 _ rfl
    simp only [List.getElem?_cons_succ, List.getElem?_cons_zero, Option.some.injEq] at g13
    subst g13
    obtain ⟨x14, y14, g14, t14⟩ := hf 14 _ rfl
    simp only [List.getElem?_cons_succ, List.getElem?_cons_zero, Option.some.injEq] at g14
    subst g14
    obtain ⟨x15, y15, g15, t15⟩ := hf 15 _ rfl
    simp only [List.getElem?_cons_succ, List.getElem?_cons_zero, Option.some.injEq] at g15
    subst g15
    obtain ⟨x16, y16, g16, t16⟩ := hf 16 _ rfl
    simp only [List.getElem?_cons_succ, List.getElem?_cons_zero, Option.some.injEq] at g16
    subst g16
    obtain ⟨x17, y17, g17, t17⟩ := hf 17 _ rfl
    simp only [List.getElem?_cons_succ, List.getElem?_cons_zero, Option.some.injEq] at g17
    subst g17
    obtain ⟨x18, y18, g18, t18⟩ := hf 18 _ rfl
    simp only [List.getElem?_cons_succ, List.getElem?_cons_zero, Option.some.injEq] at g18
    subst g18
    obtain ⟨x19, y19, g19, t19⟩ := hf 19 _ rfl
    simp only [List.getElem?_cons_succ, List.getElem?_cons_zero, Option.some.injEq] at g19
    subst g19
    obtain ⟨x20, y20, g20, t20⟩ := hf 20 _ rfl
    simp only [List.getElem?_cons_succ, List.getElem?_cons_zero, Option.some.injEq] at g20
    subst g20
    obtain ⟨x21, y21, g21, t21⟩ := hf 21 _ rfl
    simp only [List.getElem?_cons_succ, List.getElem?_cons_zero, Option.some.injEq] at g21
    subst g21
    obtain ⟨a0, e0, _⟩ := DataW.trod_string Tryz.underlying9 t0
    obtain ⟨a1, e1, _⟩ := DataW.trod_int Tryz.underlying3 t1
    obtain ⟨a2, e2, _⟩ := DataW.trod_int Tryz.underlying3 t2
    obtain ⟨a3, e3, _⟩ := DataW.trod_int Tryz.underlying3 t3
    obtain ⟨a4, e4, _⟩ := DataW.trod_int Tryz.underlying3 t4
    obtain ⟨a5, e5, _⟩ := DataW.trod_int Tryz.underlying3 t5
    obtain ⟨a6, e6, _⟩ := DataW.trod_int Tryz.underlying3 t6
    obtain ⟨a7, e7, _⟩ := DataW.trod_int Tryz.underlying3 t7
    obtain ⟨a8, e8, _⟩ := DataW.trod_int Tryz.underlying3 t8
    obtain ⟨a9, e9, _⟩ := DataW.trod_int Tryz.underlying3 t9
    obtain ⟨a10, e10, _⟩ := DataW.trod_int Tryz.underlying3 t10
    obtain ⟨a11, e11, _⟩ := DataW.trod_int Tryz.underlying3 t11
    obtain ⟨a12, e12, _⟩ := DataW.trod_int Tryz.underlying3 t12
    obtain ⟨a13, e13, _⟩ := DataW.trod_int Tryz.underlying3 t13
    obtain ⟨a14, e14, _⟩ := DataW.trod_int Tryz.underlying3 t14
    obtain ⟨a15, e15, _⟩ := DataW.trod_int Tryz.underlying3 t15
    obtain ⟨a16, e16, _⟩ := DataW.trod_int Tryz.underlying3 t16
    obtain ⟨a17, e17, _⟩ := DataW.trod_int Tryz.underlying3 t17
    obtain ⟨a18, e18, _⟩ := DataW.trod_int Tryz.underlying3 t18
    obtain ⟨a19, e19, _⟩ := DataW.trod_int Tryz.underlying3 t19
    obtain ⟨Aa, ca, Vs, L, e20, hA, hads⟩ := open_addons t20
    obtain ⟨At, ct, M, e21, hT⟩ := open_tiers t21
    simp only [List.cons.injEq, and_true] at e0 e1 e2 e3 e4 e5 e6 e7 e8 e9 e10 e11 e12 e13 e14 e15 e16 e17 e18 e19 e20 e21
    subst e0 e1 e2 e3 e4 e5 e6 e7 e8 e9 e10 e11 e12 e13 e14 e15 e16 e17 e18 e19 e20 e21
    exact ⟨⟨a0, fun i => ([a1, a2, a3, a4, a5, a6, a7, a8, a9, a10, a11, a12, a13, a14, a15, a16, a17, a18, a19] : List Int).getD i 0, L, M⟩, _, _, rfl, ⟨Aa, ca, Vs, rfl, hA, hads⟩, At, ct, rfl, hT⟩
end
end Go.Proofs.YtbdkggnajipdhaaGreatDoor
