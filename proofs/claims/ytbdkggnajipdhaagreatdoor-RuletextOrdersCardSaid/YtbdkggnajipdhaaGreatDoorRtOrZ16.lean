/- Texts laid one behind the other: OtB, OtX, GmArgs. Each says at its head what it proves. -/
import Derived.Test.YtbdkggnajipdhaaGreatDoorRtOrZ15
set_option linter.unusedSimpArgs false
/- Plain: chapter 11, neighbouring items exchanged. No program in sight. -/
namespace Go.Proofs.YtbdkggnajipdhaaGreatDoor
theorem game_LxY {n : List Nat} (hn : wordL n = true) {V : List It} (hf : V.all It.fine = true) (hw : V.all It.wok = true) : Lx (gameY n V) (gameS n V) := by
  have h := Lx_lines V hf hw (Lx_tok (k := 3) (t := asc "}") (r := []) (gm (by decide)) (fun c r' e => by cases e) Lx_nil)
  have h1 := Lx_tok (k := 3) (t := asc "{") (gm (by decide)) sep10 (Lx_blank (b := 10) (by decide) h)
  have h2 := Lx_tok (good_word hn) sep32 (Lx_blank (b := 32) (by decide) h1)
  have h3 := Lx_tok (k := 1) (t := asc "game") (good_word (by decide +kernel)) sep32 (Lx_blank (b := 32) (by decide) h2)
  have e : gameY n V = asc "game" ++ 32 :: (n ++ 32 :: (asc "{" ++ 10 :: (V.flatMap lineG ++ (asc "}" ++ [])))) := by
    unfold gameY headC
    rw [show asc " {" = 32 :: (asc "{") by decide +kernel]
    simp only [List.append_assoc, List.cons_append, List.nil_append, List.append_nil]
  rw [e]
  exact h3
/-- A text of items is read. -/
theorem game_readL {s nm : ByteArray} {V : List It} (hs : Lx (bs s) (gameS (bs nm) V)) (hsz : s.size ≤ 32768) (hf : V.all It.fine = true) (hw : V.all It.wok = true) (hz : ∀ i ∈ V, ∀ d t, i = .days d t → d ≠ 0) (hnd : (V.filterMap It.key).Nodup) :
    parseG s = ((if asc "system" ∈ V.filterMap It.key then V.foldl It.eff (gm0 nm) else { V.foldl It.eff (gm0 nm) with n := putN (V.foldl It.eff (gm0 nm)).n 8 ((V.foldl It.eff (gm0 nm)).n 2) }), 0, 0) := by
  obtain ⟨L, e, hL⟩ := scan_Lx hsz hs
  have h' : L.map Kt = (1, asc "game") :: (1, bs nm) :: (3, asc "{") :: (inK (itemsS V) ++ [(3, asc "}"), (0, [])]) := by
    rw [hL]; simp [gameS, inK, List.map_append]
  obtain ⟨e1, h1⟩ := st_is h' (by simp)
  obtain ⟨n1, n2, n3⟩ := st_next h1 (by simp)
  obtain ⟨e3, h3⟩ := st_is n3 (by simp)
  obtain ⟨L', e4, h4⟩ := gitems_read (M := [(3, asc "}"), (0, [])]) (by simp) (by simp) V (nxT (nxT (nxT L))) (nxT (nxT (nxT L))).length (gm0 nm) [] hf hw hz hnd (fun k _ h => by cases h) h3 (by
    have := itemsS_len V
    rw [st_len h3, List.length_append]
    unfold inK
    rw [List.length_map]
    simp only [List.length_cons, List.length_nil]
    omega)
  have hnm : (hdT (nxT L)).text = nm := bs_inj n2
  have hg : gameT L = .ok (if asc "system" ∈ seeL V [] then V.foldl It.eff (gm0 nm) else { V.foldl It.eff (gm0 nm) with n := putN (V.foldl It.eff (gm0 nm)).n 8 ((V.foldl It.eff (gm0 nm)).n 2) }) := by
    unfold gameT
    rw [thenT_some e1, if_neg (fun h => h n1), thenT_some e3, hnm, bindT_ok e4, closeT_ok h4]
  unfold parseG
  rw [e, if_neg (by show (0 : Int) ≠ 3; decide), if_neg (fun h => h rfl), hg]
  have : asc "system" ∈ seeL V [] ↔ asc "system" ∈ V.filterMap It.key := by rw [see_mem]; simp
  by_cases hm : asc "system" ∈ V.filterMap It.key
  · rw [if_pos hm, if_pos (this.2 hm)]
  · rw [if_neg hm, if_neg (fun h => hm (this.1 h))]
theorem putN_comm (n : Nat → Int) {i j : Nat} (h : i ≠ j) (a b : Int) : putN (putN n i a) j b = putN (putN n j b) i a := by
  funext k
  unfold putN
  by_cases h1 : k = j
  · subst h1; rw [if_pos rfl, if_neg (Ne.symm h), if_pos rfl]
  · rw [if_neg h1]
    by_cases h2 : k = i
    · rw [if_pos h2, if_pos h2]
    · rw [if_neg h2, if_neg h2, if_neg h1]
/-- What an item does: numbers put at places. -/
def It.puts : It → List (Nat × Int)
  | .two w a b => if w = asc "bonus" then [(4, a), (5, b)] else [(0, if w = asc "digits" then 2 else 1), (2, a), (3, b)]
  | .num w n => match simpleI w with | some i => [(i, n)] | none => []
  | .days d t => [(9, (d : Int)), (10, t)]
  | _ => []
def It.adds : It → List Ad
  | .addon a => [a]
  | _ => []
def It.tiers : It → List Ti
  | .tier t => [t]
  | _ => []
def putsN (n : Nat → Int) (P : List (Nat × Int)) : Nat → Int := P.foldl (fun n p => putN n p.1 p.2) n
theorem eff_is (g : Gm) (i : It) : i.eff g = ⟨g.name, putsN g.n i.puts, g.addons ++ i.adds, g.tiers ++ i.tiers⟩ := by
  cases i with
  | two w a b =>
    unfold It.eff It.puts It.adds It.tiers
    by_cases h : w = asc "bonus"
    · simp only [if_pos h, List.append_nil]; rfl
    · simp only [if_neg h, List.append_nil]; rfl
  | num w n =>
    cases h : simpleI w with
    | none => simp only [It.eff, It.puts, It.adds, It.tiers, h, List.append_nil]; rfl
    | some k => simp only [It.eff, It.puts, It.adds, It.tiers, h, List.append_nil]; rfl
  | days d t => simp only [It.eff, It.puts, It.adds, It.tiers, List.append_nil]; rfl
  | addon a => simp only [It.eff, It.puts, It.adds, It.tiers, List.append_nil]; rfl
  | tier t => simp only [It.eff, It.puts, It.adds, It.tiers, List.append_nil]; rfl
theorem putsN_put (P : List (Nat × Int)) : ∀ (n : Nat → Int) (j : Nat) (b : Int), (∀ p ∈ P, p.1 ≠ j) → putN (putsN n P) j b = putsN (putN n j b) P := by
  induction P with
  | nil => intro n j b _; rfl
  | cons p P ih =>
    intro n j b h
    show putN (putsN (putN n p.1 p.2) P) j b = putsN (putN (putN n j b) p.1 p.2) P
    rw [ih _ _ _ (fun q hq => h q (by simp [hq])), putN_comm _ (h p (by simp))]
theorem putsN_comm (P : List (Nat × Int)) : ∀ (Q : List (Nat × Int)) (n : Nat → Int), (∀ p ∈ P, ∀ q ∈ Q, p.1 ≠ q.1) → putsN (putsN n P) Q = putsN (putsN n Q) P
  | [], n, _ => rfl
  | q :: Q, n, h => by
    show putsN (putN (putsN n P) q.1 q.2) Q = putsN (putsN (putN n q.1 q.2) Q) P
    rw [putsN_put P n q.1 q.2 (fun p hp => h p hp q (by simp)), putsN_comm P Q _ (fun p hp r hr => h p hp r (by simp [hr]))]
theorem simpleI_is {w : List Nat} {i : Nat} (h : simpleI w = some i) : i ∈ [6, 1, 7, 8, 11, 12, 13, 14, 15, 16, 17, 18] := by
  have hm := simple_mem (w := w) (by rw [h]; rfl)
  have : (simpleW.all fun w => (simpleI w).all fun i => decide (i ∈ [6, 1, 7, 8, 11, 12, 13, 14, 15, 16, 17, 18])) = true := by decide +kernel
  have := List.all_eq_true.1 this w hm
  rw [h] at this
  exact of_decide_eq_true this
theorem simpleI_inj {w v : List Nat} {i : Nat} (h : simpleI w = some i) (h2 : simpleI v = some i) : w = v := by
  have e1 := simple_mem (w := w) (by rw [h]; rfl)
  have e2 := simple_mem (w := v) (by rw [h2]; rfl)
  have : (simpleW.all fun w => simpleW.all fun v => decide (simpleI w = simpleI v → w = v)) = true := by decide +kernel
  have := List.all_eq_true.1 (List.all_eq_true.1 this w e1) v e2
  simp only [decide_eq_true_eq] at this
  exact this (h.trans h2.symm)
theorem puts_two {w : List Nat} {a b : Int} {p : Nat × Int} (hp : p ∈ (It.two w a b).puts) : if w = asc "bonus" then p.1 = 4 ∨ p.1 = 5 else p.1 = 0 ∨ p.1 = 2 ∨ p.1 = 3 := by
  have hp : p ∈ (if w = asc "bonus" then [(4, a), (5, b)] else [(0, if w = asc "digits" then 2 else 1), (2, a), (3, b)]) := hp
  by_cases h : w = asc "bonus"
  · rw [if_pos h] at hp ⊢
    simp only [List.mem_cons, List.not_mem_nil, or_false] at hp
    rcases hp with rfl | rfl <;> simp
  · rw [if_neg h] at hp ⊢
    simp only [List.mem_cons, List.not_mem_nil, or_false] at hp
    rcases hp with rfl | rfl | rfl <;> simp
theorem puts_num {w : List Nat} {n : Int} {p : Nat × Int} (hp : p ∈ (It.num w n).puts) : simpleI w = some p.1 := by
  cases h : simpleI w with
  | none => simp only [It.puts, h] at hp; cases hp
  | some i => simp only [It.puts, h] at hp; simp only [List.mem_singleton] at hp; subst hp; rfl
theorem puts_days {d : Nat} {t : Int} {p : Nat × Int} (hp : p ∈ (It.days d t).puts) : p.1 = 9 ∨ p.1 = 10 := by
  unfold It.puts at hp
  simp only [List.mem_cons, List.not_mem_nil, or_false] at hp
  rcases hp with rfl | rfl <;> simp
/-- Items with different keys put at different places. -/
theorem puts_apart {i j : It} (hk : i.key = none ∨ j.key = none ∨ i.key ≠ j.key) : ∀ p ∈ i.puts, ∀ q ∈ j.puts, p.1 ≠ q.1 := by
  intro p hp q hq e
  have hnone : ∀ k : It, k.key = none → ∀ p ∈ k.puts, False := fun k hk p hp => by
    cases k with
    | addon a => cases hp
    | tier t => cases hp
    | two w a b => cases hk
    | num w n => cases hk
    | days d t => cases hk
  rcases hk with hk | hk | hk
  · exact hnone i hk p hp
  · exact hnone j hk q hq
  cases i with
  | addon a => cases hp
  | tier t => cases hp
  | two w a b =>
    have h1 := puts_two hp
    cases j with
    | addon a => cases hq
    | tier t => cases hq
    | two v c d =>
      have h2 := puts_two hq
      apply hk
      unfold It.key
      by_cases x : w = asc "bonus" <;> by_cases y : v = asc "bonus" <;> simp only [x, y, if_true, if_false] at h1 h2 ⊢ <;> omega
    | num v n =>
      have h2 := simpleI_is (puts_num hq)
      by_cases x : w = asc "bonus" <;> simp only [x, if_true, if_false, List.mem_cons, List.not_mem_nil, or_false] at h1 h2 <;> omega
    | days d t =>
      have h2 := puts_days hq
      by_cases x : w = asc "bonus" <;> simp only [x, if_true, if_false] at h1 <;> omega
  | num w n =>
    have h1 := puts_num hp
    cases j with
    | addon a => cases hq
    | tier t => cases hq
    | two v c d =>
      have h2 := puts_two hq
      have h1 := simpleI_is h1
      by_cases y : v = asc "bonus" <;> simp only [y, if_true, if_false, List.mem_cons, List.not_mem_nil, or_false] at h1 h2 <;> omega
    | num v m =>
      have h2 := puts_num hq
      exact hk (congrArg some (simpleI_inj (h1.trans (by rw [e])) h2))
    | days d t =>
      have h1 := simpleI_is h1
      have h2 := puts_days hq
      simp only [List.mem_cons, List.not_mem_nil, or_false] at h1
      omega
  | days d t =>
    have h1 := puts_days hp
    cases j with
    | addon a => cases hq
    | tier t => cases hq
    | two v c d =>
      have h2 := puts_two hq
      by_cases y : v = asc "bonus" <;> simp only [y, if_true, if_false] at h2 <;> omega
    | num v m =>
      have h2 := simpleI_is (puts_num hq)
      simp only [List.mem_cons, List.not_mem_nil, or_false] at h2
      omega
    | days d2 t2 => exact hk rfl
/-- Two items with different first words can be exchanged. -/
theorem eff_comm {i j : It} (hi : i.wok = true) (hj : j.wok = true) (hw : firstW i ≠ firstW j) (hk : i.key = none ∨ j.key = none ∨ i.key ≠ j.key) (g : Gm) : j.eff (i.eff g) = i.eff (j.eff g) := by
  rw [eff_is (i.eff g), eff_is g i, eff_is (j.eff g), eff_is g j]
  dsimp only
  rw [putsN_comm _ _ _ (puts_apart hk)]
  have ha : g.addons ++ i.adds ++ j.adds = g.addons ++ j.adds ++ i.adds := by
    cases i <;> cases j <;> simp only [It.adds, List.append_nil]
    exact absurd rfl hw
  have ht : g.tiers ++ i.tiers ++ j.tiers = g.tiers ++ j.tiers ++ i.tiers := by
    cases i <;> cases j <;> simp only [It.tiers, List.append_nil]
    exact absurd rfl hw
  rw [ha, ht]
/-- The same first word: the same key. -/
theorem first_key {i j : It} (hi : i.wok = true) (hj : j.wok = true) (hw : firstW i = firstW j) : i.key = j.key := by
  have hs : ∀ {w : List Nat}, (It.num w 0).wok = true → w ≠ asc "choose" ∧ w ≠ asc "digits" ∧ w ≠ asc "bonus" ∧ w ≠ asc "days" ∧ w ≠ asc "addon" ∧ w ≠ asc "tier" := fun h => simple_ne h
  have h2 : ∀ {w : List Nat} {a b : Int}, (It.two w a b).wok = true → w = asc "choose" ∨ w = asc "digits" ∨ w = asc "bonus" := fun h => by simpa [It.wok, or_assoc] using h
  have d1 : asc "choose" ≠ asc "days" ∧ asc "digits" ≠ asc "days" ∧ asc "bonus" ≠ asc "days" ∧ asc "choose" ≠ asc "addon" ∧ asc "digits" ≠ asc "addon" ∧ asc "bonus" ≠ asc "addon" ∧ asc "choose" ≠ asc "tier" ∧ asc "digits" ≠ asc "tier" ∧ asc "bonus" ≠ asc "tier" ∧ asc "days" ≠ asc "addon" ∧ asc "days" ≠ asc "tier" ∧ asc "addon" ≠ asc "tier" := by decide +kernel
  obtain ⟨c1, c2, c3, c4, c5, c6, c7, c8, c9, c10, c11, c12⟩ := d1
  cases i with
  | two w a b =>
    have hx := h2 hi
    cases j with
    | two v c d => have hw : w = v := hw; rw [hw]; rfl
    | num v n =>
      have hw : w = v := hw
      obtain ⟨n1, n2, n3, _⟩ := simple_ne hj
      subst hw
      rcases hx with rfl | rfl | rfl
      · exact absurd rfl n1
      · exact absurd rfl n2
      · exact absurd rfl n3
    | days d t => have hw : w = asc "days" := hw; subst hw; rcases hx with h | h | h; exact absurd h.symm c1; exact absurd h.symm c2; exact absurd h.symm c3
    | addon a => have hw : w = asc "addon" := hw; subst hw; rcases hx with h | h | h; exact absurd h.symm c4; exact absurd h.symm c5; exact absurd h.symm c6
    | tier t => have hw : w = asc "tier" := hw; subst hw; rcases hx with h | h | h; exact absurd h.symm c7; exact absurd h.symm c8; exact absurd h.symm c9
  | num w n =>
    obtain ⟨n1, n2, n3, n4, n5, n6⟩ := simple_ne hi
    cases j with
    | two v c d =>
      have hw : w = v := hw
      subst hw
      rcases h2 hj with rfl | rfl | rfl
      · exact absurd rfl n1
      · exact absurd rfl n2
      · exact absurd rfl n3
    | num v m => have hw : w = v := hw; rw [hw]; rfl
    | days d t => exact absurd hw n4
    | addon a => exact absurd hw n5
    | tier t => exact absurd hw n6
  | days d t =>
    cases j with
    | two v c d => have hw : asc "days" = v := hw; subst hw; rcases h2 hj with h | h | h; exact absurd h.symm c1; exact absurd h.symm c2; exact absurd h.symm c3
    | num v m => exact absurd hw.symm (simple_ne hj).2.2.2.1
    | days d2 t2 => rfl
    | addon a => exact absurd hw c10
    | tier t => exact absurd hw c11
  | addon a =>
    cases j with
    | two v c d => have hw : asc "addon" = v := hw; subst hw; rcases h2 hj with h | h | h; exact absurd h.symm c4; exact absurd h.symm c5; exact absurd h.symm c6
    | num v m => exact absurd hw.symm (simple_ne hj).2.2.2.2.1
    | days d t => exact absurd hw.symm c10
    | addon a => rfl
    | tier t => rfl
  | tier t =>
    cases j with
    | two v c d => have hw : asc "tier" = v := hw; subst hw; rcases h2 hj with h | h | h; exact absurd h.symm c7; exact absurd h.symm c8; exact absurd h.symm c9
    | num v m => exact absurd hw.symm (simple_ne hj).2.2.2.2.2
    | days d t => exact absurd hw.symm c11
    | addon a => rfl
    | tier t => rfl
theorem key_first {i : It} (h : i.key = none) : firstW i = asc "addon" ∨ firstW i = asc "tier" := by
  cases i with
  | two w a b => cases h
  | num w n => cases h
  | days d t => cases h
  | addon a => exact .inl rfl
  | tier t => exact .inr rfl
/-- What a printed game is. -/
theorem printed {G : Gm} (hne : printG G ≠ []) : ∃ V, V = itemsG G ∧ printG G = gameX (bs G.name) V ∧ wordL (bs G.name) = true ∧ V.all It.fine = true ∧ V.all It.wok = true ∧ (∀ i ∈ V, ∀ d t, i = .days d t → d ≠ 0) ∧ (V.filterMap It.key).Nodup ∧ (gameX (bs G.name) V).length ≤ 32768 ∧ 1 ≤ V.length := by
  have hp := printG_is G
  by_cases h : fineG G = true ∧ (textG G).length ≤ 32768
  · rw [if_pos h] at hp
    obtain ⟨hf, hl⟩ := h
    unfold fineG at hf
    simp only [Bool.and_eq_true, Bool.or_eq_true, decide_eq_true_eq] at hf
    obtain ⟨⟨⟨hn, hk⟩, hd⟩, hi⟩ := hf
    have h09 : 0 ≤ G.n 9 := by
      unfold daysC at hd
      simp only [Bool.and_eq_true, decide_eq_true_eq] at hd
      omega
    refine ⟨_, rfl, hp, hn, hi, items_wok G, items_days G h09, keys_nodup G, hl, ?_⟩
    unfold itemsG headI
    simp only [List.length_append, List.length_cons, List.length_nil]
    omega
  · rw [if_neg h] at hp
    exact absurd hp hne
/-- Two neighbours of a printed game exchanged: the same game is read. -/
theorem orders_law {G : Gm} (hne : printG G ≠ []) {A B : List It} {i j : It} (hV : itemsG G = A ++ i :: j :: B) (hw : firstW i ≠ firstW j) {s : ByteArray} (hs : bs s = gameY (bs G.name) (A ++ j :: i :: B)) : s.size ≤ 32768 ∧ (gmC (parseG s).1, (parseG s).2) = (gmC G, 0, 0) := by
  obtain ⟨V, hVV, hpr, hn, hf, hwk, hz, hnd, hl, _⟩ := printed hne
  rw [hV] at hVV
  have hp : (A ++ j :: i :: B).Perm V := by
    rw [hVV]
    exact List.Perm.append_left A (List.Perm.swap i j B)
  have hback := print_back hne
  have hsz : s.size ≤ 32768 := by
    have h1 : (gameX (bs G.name) V).length = (gameX (bs G.name) (A ++ j :: i :: B)).length := by
      unfold gameX
      simp only [List.length_append, List.length_flatMap]
      rw [((hp.map fun i => (lineG i).length).sum_nat)]
    rw [gameX_Y _ (A ++ _), List.length_append] at h1
    rw [← bs_len, hs]
    simp only [List.length_singleton] at h1
    omega
  refine ⟨hsz, ?_⟩
  have hall : ∀ (q : It → Bool), V.all q = true → (A ++ j :: i :: B).all q = true := fun q h => by
    rw [List.all_eq_true] at h ⊢
    exact fun x hx => h x (hp.mem_iff.1 hx)
  have hkeys : ((A ++ j :: i :: B).filterMap It.key).Perm (V.filterMap It.key) := hp.filterMap _
  have hij : i.key = none ∨ j.key = none ∨ i.key ≠ j.key := by
    cases hi : i.key with
    | none => exact .inl rfl
    | some k =>
      refine .inr (.inr fun e => ?_)
      rw [hVV] at hnd
      rw [List.filterMap_append, List.filterMap_cons, hi, List.filterMap_cons, ← e] at hnd
      have := (List.nodup_append.1 hnd).2.1
      simp at this
  have hfold : (A ++ j :: i :: B).foldl It.eff (gm0 G.name) = V.foldl It.eff (gm0 G.name) := by
    rw [hVV, List.foldl_append, List.foldl_append]
    simp only [List.foldl_cons]
    rw [eff_comm (List.all_eq_true.1 hwk i (by rw [hVV]; simp)) (List.all_eq_true.1 hwk j (by rw [hVV]; simp)) hw hij]
  have e1 := game_readL (s := s) (nm := G.name) (by rw [hs]; exact game_LxY hn (hall _ hf) (hall _ hwk)) hsz (hall _ hf) (hall _ hwk) (fun x hx => hz x (hp.mem_iff.1 hx)) (hkeys.nodup_iff.2 hnd)
  have hb : bs (toBA (printG G)) = printG G := bs_toBA (printG_lt G)
  have e2 := game_readL (s := toBA (printG G)) (nm := G.name) (by rw [hb, hpr]; exact game_Lx hn hf hwk) (print_size G) hf hwk hz hnd
  have hm : asc "system" ∈ (A ++ j :: i :: B).filterMap It.key ↔ asc "system" ∈ V.filterMap It.key := hkeys.mem_iff
  have : parseG s = parseG (toBA (printG G)) := by
    rw [e1, e2, hfold]
    by_cases h : asc "system" ∈ V.filterMap It.key
    · rw [if_pos h, if_pos (hm.2 h)]
    · rw [if_neg h, if_neg (fun x => h (hm.1 x))]
  rw [this]
  exact hback
/-- Neighbours of the same first word are add-ons or tiers. -/
theorem same_first {G : Gm} (hne : printG G ≠ []) {A B : List It} {i j : It} (hV : itemsG G = A ++ i :: j :: B) (hw : firstW i = firstW j) : firstW i = asc "addon" ∨ firstW i = asc "tier" := by
  obtain ⟨V, hVV, hpr, hn, hf, hwk, hz, hnd, hl, _⟩ := printed hne
  rw [hV] at hVV
  have hi := List.all_eq_true.1 hwk i (by rw [hVV]; simp)
  have hj := List.all_eq_true.1 hwk j (by rw [hVV]; simp)
  cases hk : i.key with
  | none => exact key_first hk
  | some k =>
    have hk2 := (first_key hi hj hw).symm.trans hk
    rw [hVV, List.filterMap_append, List.filterMap_cons, hk, List.filterMap_cons, hk2] at hnd
    have := (List.nodup_append.1 hnd).2.1
    simp at this
end Go.Proofs.YtbdkggnajipdhaaGreatDoor
/- Walk: the law RuletextOrders. -/
namespace Go.Proofs.YtbdkggnajipdhaaGreatDoor
open Nat (reduceAdd reduceMul reduceSub reduceEqDiff reduceLT reduceLeDiff)
open Go.RowKit
set_option maxRecDepth 100000
theorem lines_len : ∀ V : List It, V.length ≤ (V.flatMap lineG).length
  | [] => Nat.zero_le _
  | x :: V => by
    have := lines_len V
    have h1 : 1 ≤ (lineG x).length := by unfold lineG; rw [List.length_cons]; omega
    rw [List.flatMap_cons, List.length_append, List.length_cons]
    omega
theorem rows_swap (n : List Nat) (A B : List It) (x y : It) : (((rowsB n (A ++ x :: y :: B)).map Value.string).set (A.length + 1) (.string (toBA (lineC y)))).set (A.length + 1 + 1) (.string (toBA (lineC x))) = (rowsB n (A ++ y :: x :: B)).map Value.string := by
  have e : ∀ u v : It, (rowsB n (A ++ u :: v :: B)).map Value.string = Value.string (toBA (headC n)) :: (((A.map lineC).map toBA).map Value.string ++ Value.string (toBA (lineC u)) :: Value.string (toBA (lineC v)) :: ((B.map lineC ++ [asc "}"]).map toBA).map Value.string) := fun u v => by
    unfold rowsB rowsG
    simp only [List.map_append, List.map_cons, List.cons_append, List.append_assoc]
  rw [e x y, e y x]
  have h : ((A.map lineC).map toBA).map Value.string = ((A.map lineC).map toBA).map Value.string := rfl
  generalize hP : ((A.map lineC).map toBA).map Value.string = P at *
  have hl : A.length = P.length := by rw [← hP]; simp
  rw [hl, List.set_cons_succ, List.set_cons_succ, List.set_append_right _ _ (Nat.le_refl _), Nat.sub_self, List.set_cons_zero, List.set_append_right _ _ (by omega), Nat.add_sub_cancel_left, List.set_cons_succ, List.set_cons_zero]
theorem line_le {z : It} : ∀ {V : List It}, z ∈ V → (lineG z).length ≤ (V.flatMap lineG).length
  | v :: V, h => by
    rw [List.flatMap_cons, List.length_append]
    rcases List.mem_cons.1 h with rfl | h
    · omega
    · have := line_le h
      omega
set_option maxHeartbeats 4000000 in
theorem ruletextOrders_any (G : Gm) (Va Vt : Value) (n : Int) (w : World) (hW : Laid w) (hS : LaidS w) (hG : GmIn w Va Vt G) (hn : 0 ≤ n ∧ n < 65536) :
    Calls Tryz.prog 6 #[.agg (gmV G Va Vt).toArray, .int .u16 n] w fun e w' => e = .returned (.bool true) ∧ Below w.heap.size w w' := by
  refine calls_W (l := [_, _]) Tryz.func6 rfl _ Tryz.ntmps6 (by simp) ?_
  have hw5 := hW.size
  have r0 := Row.new w 26 (gmV G Va Vt)
  have b0 := below_alloc w (.cells (gmV G Va Vt).toArray 26)
  refine W_piece fun K hK hX => ?_
  simp +contextual (maxSteps := 2000000) (disch := first | omega | (simp only [SZ]; first | done | omega) | (simp only [TS] at *; omega)) only [RZ, ovw, oneC, reduceAdd, reduceMul, reduceSub, reduceEqDiff, reduceLT, ↓reduceIte, Int.reduceToNat, reduceLeDiff]
  refine hK _ _ ?_
  clear hK hX K
  generalize w.alloc (.cells (gmV G Va Vt).toArray 26) = w1 at r0 b0 ⊢
  have hz1 := b0.size
  have l1 := load_game r0
  refine W_piece fun K hK hX => ?_
  refine W_piece fun K2 hK2 hX2 => ?_
  simp +contextual (maxSteps := 2000000) (disch := first | omega | (simp only [SZ]; first | done | omega) | (simp only [TS] at *; omega)) only [RZ, ovw, oneC, reduceAdd, reduceMul, reduceSub, reduceEqDiff, reduceLT, ↓reduceIte, Int.reduceToNat, reduceLeDiff,  l1]
  refine (few_any G Va Vt w1 (hG.below b0)).mono ?_
  rintro e w2 ⟨rfl, hB2⟩
  refine ⟨_, rfl, ?_⟩
  try simp +contextual (maxSteps := 2000000) (disch := first | omega | (simp only [SZ]; first | done | omega) | (simp only [TS] at *; omega)) only [RZ, ovw, oneC, reduceAdd, reduceMul, reduceSub, reduceEqDiff, reduceLT, ↓reduceIte, Int.reduceToNat, reduceLeDiff,  l1]
  refine hK2 _ _ ?_
  clear hK2 hX2 K2 l1
  have hF2 := b0.trans (hB2.mono hz1)
  have hz2 := hF2.size
  have r2 := r0.below hB2
  have l2 := load_game r2
  have hend : ∀ (w7 : World) {R : Ending → World → Prop}, Below w.heap.size w w7 → (∀ w8, Below w.heap.size w w8 → R (.returned (.bool true)) w8) → Calls Tryz.prog 8 #[] w7 R := fun w7 R hF hR => by
    have := hF.size
    refine (awake_any w7 (hW.below hF hw5) (by omega)).mono ?_
    rintro e w8 ⟨rfl, hB8⟩
    exact hR w8 (hF.trans (hB8.mono this))
  cases hfew : fewB G with
  | false =>
    refine W_if_t rfl ?_
    refine W_piece fun K2 hK2 hX2 => ?_
    simp +contextual (maxSteps := 2000000) (disch := first | omega | (simp only [SZ]; first | done | omega) | (simp only [TS] at *; omega)) only [RZ, ovw, oneC, reduceAdd, reduceMul, reduceSub, reduceEqDiff, reduceLT, ↓reduceIte, Int.reduceToNat, reduceLeDiff]
    refine hend w2 hF2 fun wz hFz => ?_
    refine ⟨_, rfl, ?_⟩
    try simp +contextual (maxSteps := 2000000) (disch := first | omega | (simp only [SZ]; first | done | omega) | (simp only [TS] at *; omega)) only [RZ, ovw, oneC, reduceAdd, reduceMul, reduceSub, reduceEqDiff, reduceLT, ↓reduceIte, Int.reduceToNat, reduceLeDiff]
    refine hK2 _ _ ?_
    clear hK2 hX2 K2
    rw [W_ret]
    refine hX _ _ _ (fun h => by cases h) ?_
    simp +contextual (maxSteps := 2000000) (disch := first | omega | (simp only [SZ]; first | done | omega) | (simp only [TS] at *; omega)) only [RZ, ovw, oneC, reduceAdd, reduceMul, reduceSub, reduceEqDiff, reduceLT, ↓reduceIte, Int.reduceToNat, reduceLeDiff]
    exact hFz
  | true =>
  refine W_if_f rfl ?_
  rw [W_skip]
  refine hK _ _ ?_
  clear hK hX K
  refine W_piece fun K hK hX => ?_
  simp +contextual (maxSteps := 2000000) (disch := first | omega | (simp only [SZ]; first | done | omega) | (simp only [TS] at *; omega)) only [RZ, ovw, oneC, reduceAdd, reduceMul, reduceSub, reduceEqDiff, reduceLT, ↓reduceIte, Int.reduceToNat, reduceLeDiff,  l2]
  refine (print_any G Va Vt w2 (hW.below hF2 hw5) (by omega) (hG.below hF2) (few_little hfew)).mono ?_
  rintro e w3 ⟨rfl, hB3⟩
  refine ⟨_, rfl, ?_⟩
  have hF3 := hF2.trans (hB3.mono hz2)
  have hz3 := hF3.size
  have r3 := r2.below hB3
  have hps := print_size G
  try simp +contextual (maxSteps := 2000000) (disch := first | omega | (simp only [SZ]; first | done | omega) | (simp only [TS] at *; omega)) only [RZ, ovw, oneC, reduceAdd, reduceMul, reduceSub, reduceEqDiff, reduceLT, ↓reduceIte, Int.reduceToNat, reduceLeDiff]
  refine (lines_any (toBA (printG G)) w3 (hS.below hF3 hw5) (by omega)).mono ?_
  rintro e w4 ⟨rfl, hw4⟩
  refine ⟨_, rfl, ?_⟩
  by_cases hp : printG G = []
  · have hcnt : Lib.countB (trimB (toBA (printG G))) nlB = 0 := by rw [hp]; rfl
    have hB4 : Below w3.heap.size w3 w4 := by rw [hw4]; exact below_alloc w3 _
    clear hw4
    rw [hcnt]
    have hF4 := hF3.trans (hB4.mono hz3)
    try simp +contextual (maxSteps := 2000000) (disch := first | omega | (simp only [SZ]; first | done | omega) | (simp only [TS] at *; omega)) only [RZ, ovw, oneC, reduceAdd, reduceMul, reduceSub, reduceEqDiff, reduceLT, ↓reduceIte, Int.reduceToNat, reduceLeDiff]
    refine hK _ _ ?_
    clear hK hX K
    refine W_piece fun K hK hX => ?_
    refine W_piece fun K2 hK2 hX2 => ?_
    simp +contextual (maxSteps := 2000000) (disch := first | omega | (simp only [SZ]; first | done | omega) | (simp only [TS] at *; omega)) only [RZ, ovw, oneC, reduceAdd, reduceMul, reduceSub, reduceEqDiff, reduceLT, ↓reduceIte, Int.reduceToNat, reduceLeDiff]
    refine hK2 _ _ ?_
    clear hK2 hX2 K2
    refine W_if_t rfl ?_
    refine W_piece fun K2 hK2 hX2 => ?_
    simp +contextual (maxSteps := 2000000) (disch := first | omega | (simp only [SZ]; first | done | omega) | (simp only [TS] at *; omega)) only [RZ, ovw, oneC, reduceAdd, reduceMul, reduceSub, reduceEqDiff, reduceLT, ↓reduceIte, Int.reduceToNat, reduceLeDiff]
    refine hend w4 hF4 fun wz hFz => ?_
    refine ⟨_, rfl, ?_⟩
    try simp +contextual (maxSteps := 2000000) (disch := first | omega | (simp only [SZ]; first | done | omega) | (simp only [TS] at *; omega)) only [RZ, ovw, oneC, reduceAdd, reduceMul, reduceSub, reduceEqDiff, reduceLT, ↓reduceIte, Int.reduceToNat, reduceLeDiff]
    refine hK2 _ _ ?_
    clear hK2 hX2 K2
    rw [W_ret]
    refine hX _ _ _ (fun h => by cases h) ?_
    simp +contextual (maxSteps := 2000000) (disch := first | omega | (simp only [SZ]; first | done | omega) | (simp only [TS] at *; omega)) only [RZ, ovw, oneC, reduceAdd, reduceMul, reduceSub, reduceEqDiff, reduceLT, ↓reduceIte, Int.reduceToNat, reduceLeDiff]
    exact hFz
  obtain ⟨V, hV, hpr, hnm, hf, hwk, hz, hnd, hl, hV1⟩ := printed hp
  have hb : bs (toBA (printG G)) = gameY (bs G.name) V ++ [10] := by rw [bs_toBA (printG_lt G), hpr, gameX_Y]
  obtain ⟨hcnt, hspl⟩ := rows_split hnm hf hwk (s := trimB (toBA (printG G))) (trim_nl hb)
  rw [hcnt] at hw4 ⊢
  rw [hspl] at hw4
  have hB4 : Below w3.heap.size w3 w4 := by rw [hw4]; exact below_alloc w3 _
  have q4 : Row w4 w3.heap.size 9 ((rowsB (bs G.name) V).map Value.string) := by rw [hw4]; exact Row.new w3 _ _
  clear hw4
  have hF4 := hF3.trans (hB4.mono hz3)
  have hz4 := hF4.size
  have r4 := r3.below hB4
  have hVl : V.length ≤ 32768 := by
    have h1 := lines_len V
    have h2 := hl
    unfold gameX at h2
    simp only [List.length_append] at h2
    omega
  try simp +contextual (maxSteps := 2000000) (disch := first | omega | (simp only [SZ]; first | done | omega) | (simp only [TS] at *; omega)) only [RZ, ovw, oneC, reduceAdd, reduceMul, reduceSub, reduceEqDiff, reduceLT, ↓reduceIte, Int.reduceToNat, reduceLeDiff]
  refine hK _ _ ?_
  clear hK hX K
  refine W_piece fun K hK hX => ?_
  refine W_piece fun K2 hK2 hX2 => ?_
  simp +contextual (maxSteps := 2000000) (disch := first | omega | (simp only [SZ]; first | done | omega) | (simp only [TS] at *; omega)) only [RZ, ovw, oneC, reduceAdd, reduceMul, reduceSub, reduceEqDiff, reduceLT, ↓reduceIte, Int.reduceToNat, reduceLeDiff]
  refine hK2 _ _ ?_
  clear hK2 hX2 K2
  by_cases hV2 : V.length < 2
  · refine W_if_t (by rw [show decide ((V.length : Int) + 1 + 1 < 4) = true from decide_eq_true (by omega)]; rfl) ?_
    refine W_piece fun K2 hK2 hX2 => ?_
    simp +contextual (maxSteps := 2000000) (disch := first | omega | (simp only [SZ]; first | done | omega) | (simp only [TS] at *; omega)) only [RZ, ovw, oneC, reduceAdd, reduceMul, reduceSub, reduceEqDiff, reduceLT, ↓reduceIte, Int.reduceToNat, reduceLeDiff]
    refine hend w4 hF4 fun wz hFz => ?_
    refine ⟨_, rfl, ?_⟩
    try simp +contextual (maxSteps := 2000000) (disch := first | omega | (simp only [SZ]; first | done | omega) | (simp only [TS] at *; omega)) only [RZ, ovw, oneC, reduceAdd, reduceMul, reduceSub, reduceEqDiff, reduceLT, ↓reduceIte, Int.reduceToNat, reduceLeDiff]
    refine hK2 _ _ ?_
    clear hK2 hX2 K2
    rw [W_ret]
    refine hX _ _ _ (fun h => by cases h) ?_
    simp +contextual (maxSteps := 2000000) (disch := first | omega | (simp only [SZ]; first | done | omega) | (simp only [TS] at *; omega)) only [RZ, ovw, oneC, reduceAdd, reduceMul, reduceSub, reduceEqDiff, reduceLT, ↓reduceIte, Int.reduceToNat, reduceLeDiff]
    exact hFz
  refine W_if_f (by rw [show decide ((V.length : Int) + 1 + 1 < 4) = false from decide_eq_false (by omega)]; rfl) ?_
  rw [W_skip]
  refine hK _ _ ?_
  clear hK hX K
  obtain ⟨k, hk1, hk2⟩ : ∃ k : Nat, n % ((V.length : Int) + 1 + 1 - 3) = k ∧ k + 1 < V.length := by
    have h1 := Int.emod_nonneg n (show (V.length : Int) + 1 + 1 - 3 ≠ 0 by omega)
    have h2 := Int.emod_lt_of_pos n (show 0 < (V.length : Int) + 1 + 1 - 3 by omega)
    exact ⟨(n % ((V.length : Int) + 1 + 1 - 3)).toNat, by omega, by omega⟩
  refine W_piece fun K hK hX => ?_
  simp +contextual (maxSteps := 2000000) (disch := first | omega | (simp only [SZ]; first | done | omega) | (simp only [TS] at *; omega)) only [RZ, ovw, oneC, reduceAdd, reduceMul, reduceSub, reduceEqDiff, reduceLT, ↓reduceIte, Int.reduceToNat, reduceLeDiff,  hk1]
  refine hK _ _ ?_
  clear hK hX K
  rw [show (1 : Int) + (k : Int) = ((k + 1 : Nat) : Int) by omega]
  obtain ⟨A, x, y, B, rfl, rfl⟩ : ∃ A x y B, V = A ++ x :: y :: B ∧ A.length = k := by
    refine ⟨V.take k, V[k], V[k + 1], V.drop (k + 2), ?_, by rw [List.length_take]; omega⟩
    rw [← List.drop_eq_getElem_cons, ← List.drop_eq_getElem_cons, List.take_append_drop]
  have hx : ((rowsB (bs G.name) (A ++ x :: y :: B)).map Value.string)[A.length + 1]? = some (.string (toBA (lineC x))) := by
    unfold rowsB rowsG
    simp
  have hy : ((rowsB (bs G.name) (A ++ x :: y :: B)).map Value.string)[A.length + 1 + 1]? = some (.string (toBA (lineC y))) := by
    unfold rowsB rowsG
    simp [List.getElem?_append_right]
  have hlen : (A ++ x :: y :: B).length = A.length + 2 + B.length := by simp; omega
  generalize hm : (A ++ x :: y :: B).length = m at *
  generalize hj : A.length + 1 = j at *
  have hjm : j + 1 ≤ m := by omega
  have hjn : ((j : Int) + 1).toNat = j + 1 := by omega
  have hfx := List.all_eq_true.1 hf x (by simp)
  have hfy := List.all_eq_true.1 hf y (by simp)
  have hwx := List.all_eq_true.1 hwk x (by simp)
  have hwy := List.all_eq_true.1 hwk y (by simp)
  obtain ⟨ux, Rx, fx, bx⟩ := line_fields hfx hwx
  obtain ⟨uy, Ry, fy, by'⟩ := line_fields hfy hwy
  have ax : ∀ c ∈ bs (toBA (lineC x)), c < 128 := by
    rw [bs_toBA (fun c hc => by have := (lineC_lt hfx hwx c hc).1; omega)]
    exact fun c hc => (lineC_lt hfx hwx c hc).1
  have ay : ∀ c ∈ bs (toBA (lineC y)), c < 128 := by
    rw [bs_toBA (fun c hc => by have := (lineC_lt hfy hwy c hc).1; omega)]
    exact fun c hc => (lineC_lt hfy hwy c hc).1
  have hlt : ∀ z ∈ A ++ x :: y :: B, (lineG z).length ≤ 32768 := fun z hz => by
    have h1 : (lineG z).length ≤ ((A ++ x :: y :: B).flatMap lineG).length := by
      exact line_le hz
    have h2 := hl
    unfold gameX at h2
    simp only [List.length_append] at h2 h1
    omega
  have sx : (toBA (lineC x)).size ≤ 1000000 := by
    have := hlt x (by simp)
    rw [lineG_C, List.length_append] at this
    rw [toBA_size]
    omega
  have sy : (toBA (lineC y)).size ≤ 1000000 := by
    have := hlt y (by simp)
    rw [lineG_C, List.length_append] at this
    rw [toBA_size]
    omega
  refine W_pieceP (fun _ _ _ h => h) fun K hK hX hP => ?_
  rw [W_draw]
  have hJ0 : Below w4.heap.size w4 w4.drew := below_drew (Below.refl _ _)
  refine Raw_ord (fun w' => Below w4.heap.size w4 w') 13 rfl MX ?_
  refine Ord_reads (τ := ?ta) [0, 1, 2, 3, 5, 6, 7, 8, 9] 4 rfl (by kernel_rfl) (by kernel_rfl) hP hJ0 (fun w7 h7 => ?_) ?_; rotate_left
  · have dx := (q4.below h7).cell hx
    have dy := (q4.below h7).cell hy
    simp only [opsL_cons, opsL_nil, List.getElem?_toArray, List.getElem?_cons_zero, List.getElem?_cons_succ, optL_some]
    simp +contextual (maxSteps := 2000000) (disch := first | omega | (simp only [SZ]; first | done | omega) | (simp only [TS] at *; omega)) only [RZ, ovw, oneC, reduceAdd, reduceMul, reduceSub, reduceEqDiff, reduceLT, ↓reduceIte, Int.reduceToNat, reduceLeDiff,  dx, dy, hjn]
    exact rfl
  refine Ord_one 4 (by kernel_rfl) rfl ?_
  simp +contextual (maxSteps := 2000000) (disch := first | omega | (simp only [SZ]; first | done | omega) | (simp only [TS] at *; omega)) only [RZ, ovw, oneC, reduceAdd, reduceMul, reduceSub, reduceEqDiff, reduceLT, ↓reduceIte, Int.reduceToNat, reduceLeDiff]
  refine (item_any (toBA (lineC x)) ux Rx w4.drew (hS.below (hF4.trans (hJ0.mono hz4)) hw5) sx ax fx).mono ?_
  rintro e u1 ⟨rfl, hC1⟩
  refine ⟨_, rfl, ?_⟩
  have hJ1 := hJ0.trans hC1
  have hy1 := hJ1.size
  refine ⟨hJ1, ?_⟩
  refine Ord_one 10 (by kernel_rfl) rfl ?_
  simp +contextual (maxSteps := 2000000) (disch := first | omega | (simp only [SZ]; first | done | omega) | (simp only [TS] at *; omega)) only [RZ, ovw, oneC, reduceAdd, reduceMul, reduceSub, reduceEqDiff, reduceLT, ↓reduceIte, Int.reduceToNat, reduceLeDiff]
  refine (item_any (toBA (lineC y)) uy Ry u1 (hS.below (hF4.trans (hJ1.mono hz4)) hw5) sy ay fy).mono ?_
  rintro e u2 ⟨rfl, hC2⟩
  refine ⟨_, rfl, ?_⟩
  have hJ2 := hJ1.trans (hC2.mono hy1)
  refine ⟨hJ2, ?_⟩
  refine Ord_chainS _ [11, 12] _ _ _ (by kernel_rfl) ?_
  simp only [opsL_cons, opsL_nil, List.getElem?_toArray, List.getElem?_cons_zero, List.getElem?_cons_succ, optL_some]
  simp +contextual (maxSteps := 2000000) (disch := first | omega | (simp only [SZ]; first | done | omega) | (simp only [TS] at *; omega)) only [RZ, ovw, oneC, reduceAdd, reduceMul, reduceSub, reduceEqDiff, reduceLT, ↓reduceIte, Int.reduceToNat, reduceLeDiff,  EC_op, EC_opg, EC_nil, hJ2]
  refine hK _ _ ?_
  clear hK hX hP K
  have hF5 := hF4.trans (hJ2.mono hz4)
  have hz5 := hF5.size
  have q5 := q4.below hJ2
  have r5 := r4.below hJ2
  clear q4 r4
  generalize hsa : (⟨ux.toArray⟩ : ByteArray) = a at *
  generalize hsb : (⟨uy.toArray⟩ : ByteArray) = b at *
  have hab : (a = b) = (firstW x = firstW y) := by
    rw [← bx, ← by']
    exact propext ⟨fun h => by rw [h], fun h => bs_inj h⟩
  have haw : ∀ t : ByteArray, (a = t) = (firstW x = bs t) := fun t => by
    rw [← bx]
    exact propext ⟨fun h => by rw [h], fun h => bs_inj h⟩
  refine W_piece fun K hK hX => ?_
  refine W_piece fun K2 hK2 hX2 => ?_
  simp +contextual (maxSteps := 2000000) (disch := first | omega | (simp only [SZ]; first | done | omega) | (simp only [TS] at *; omega)) only [RZ, ovw, oneC, reduceAdd, reduceMul, reduceSub, reduceEqDiff, reduceLT, ↓reduceIte, Int.reduceToNat, reduceLeDiff]
  refine hK2 _ _ ?_
  clear hK2 hX2 K2
  by_cases hw : firstW x = firstW y
  · have e1 : decide (a = b) = true := decide_eq_true (hab.mpr hw)
    refine W_if_t (by rw [e1]; rfl) ?_
    refine W_piece fun K2 hK2 hX2 => ?_
    rcases same_first hp hV.symm hw with h1 | h1
    · have e2 : (a = ⟨#[97, 100, 100, 111, 110]⟩) = True := (haw _).trans (eq_true h1)
      simp +contextual (maxSteps := 2000000) (disch := first | omega | (simp only [SZ]; first | done | omega) | (simp only [TS] at *; omega)) only [RZ, ovw, oneC, reduceAdd, reduceMul, reduceSub, reduceEqDiff, reduceLT, ↓reduceIte, Int.reduceToNat, reduceLeDiff,  e2]
      refine hend u2 hF5 fun wz hFz => ?_
      refine ⟨_, rfl, ?_⟩
      try simp +contextual (maxSteps := 2000000) (disch := first | omega | (simp only [SZ]; first | done | omega) | (simp only [TS] at *; omega)) only [RZ, ovw, oneC, reduceAdd, reduceMul, reduceSub, reduceEqDiff, reduceLT, ↓reduceIte, Int.reduceToNat, reduceLeDiff]
      refine hK2 _ _ ?_
      clear hK2 hX2 K2
      rw [W_ret]
      refine hX _ _ _ (fun h => by cases h) ?_
      simp +contextual (maxSteps := 2000000) (disch := first | omega | (simp only [SZ]; first | done | omega) | (simp only [TS] at *; omega)) only [RZ, ovw, oneC, reduceAdd, reduceMul, reduceSub, reduceEqDiff, reduceLT, ↓reduceIte, Int.reduceToNat, reduceLeDiff]
      exact hFz
    · have e2 : (a = ⟨#[97, 100, 100, 111, 110]⟩) = False := (haw _).trans (eq_false (by rw [h1]; decide +kernel))
      have e3 : (a = ⟨#[116, 105, 101, 114]⟩) = True := (haw _).trans (eq_true h1)
      simp +contextual (maxSteps := 2000000) (disch := first | omega | (simp only [SZ]; first | done | omega) | (simp only [TS] at *; omega)) only [RZ, ovw, oneC, reduceAdd, reduceMul, reduceSub, reduceEqDiff, reduceLT, ↓reduceIte, Int.reduceToNat, reduceLeDiff,  e2, e3]
      refine hend u2 hF5 fun wz hFz => ?_
      refine ⟨_, rfl, ?_⟩
      try simp +contextual (maxSteps := 2000000) (disch := first | omega | (simp only [SZ]; first | done | omega) | (simp only [TS] at *; omega)) only [RZ, ovw, oneC, reduceAdd, reduceMul, reduceSub, reduceEqDiff, reduceLT, ↓reduceIte, Int.reduceToNat, reduceLeDiff]
      refine hK2 _ _ ?_
      clear hK2 hX2 K2
      rw [W_ret]
      refine hX _ _ _ (fun h => by cases h) ?_
      simp +contextual (maxSteps := 2000000) (disch := first | omega | (simp only [SZ]; first | done | omega) | (simp only [TS] at *; omega)) only [RZ, ovw, oneC, reduceAdd, reduceMul, reduceSub, reduceEqDiff, reduceLT, ↓reduceIte, Int.reduceToNat, reduceLeDiff]
      exact hFz
  have e1 : decide (a = b) = false := decide_eq_false fun h => hw (hab.mp h)
  refine W_if_f (by rw [e1]; rfl) ?_
  rw [W_skip]
  refine hK _ _ ?_
  clear hK hX K
  -- the exchange
  refine W_pieceP (fun _ _ _ h => h) fun K hK hX hP => ?_
  rw [W_draw]
  have q6 : Row u2.drew w3.heap.size 9 _ := q5
  have hF6 : Below w.heap.size w u2.drew := below_drew hF5
  have r6 : Row u2.drew w.heap.size 26 _ := r5
  have hz6 := hF6.size
  refine Raw_ordX [0, 1, 5, 6, 7, 8, 9, 10, 11, 12, 13] (fun w' => Row w' w3.heap.size 9 ((rowsB (bs G.name) (A ++ x :: y :: B)).map Value.string)) 18 rfl MX ?_
  generalize u2.drew = u3 at *
  refine OrdX_readsU (τ := ?tc) [2, 3, 4] 15 rfl (by kernel_rfl) (by kernel_rfl) (by kernel_rfl) hP (fun w' => ?_) ?_; rotate_left
  · simp only [opsL_cons, opsL_nil, List.getElem?_toArray, List.getElem?_cons_zero, List.getElem?_cons_succ, optL_some]
    simp +contextual (maxSteps := 2000000) (disch := first | omega | (simp only [SZ]; first | done | omega) | (simp only [TS] at *; omega)) only [RZ, ovw, oneC, reduceAdd, reduceMul, reduceSub, reduceEqDiff, reduceLT, ↓reduceIte, Int.reduceToNat, reduceLeDiff]
    exact rfl
  refine OrdX_reads (τ := ?tb) [0, 1, 5, 6, 7, 8, 9, 10, 11, 12, 13] 4 rfl (by kernel_rfl) (by kernel_rfl) hP q6 (fun w8 h8 => ?_) ?_; rotate_left
  · have dx := h8.cell hx
    have dy := h8.cell hy
    simp only [opsL_cons, opsL_nil, List.getElem?_toArray, List.getElem?_cons_zero, List.getElem?_cons_succ, optL_some]
    simp +contextual (maxSteps := 2000000) (disch := first | omega | (simp only [SZ]; first | done | omega) | (simp only [TS] at *; omega)) only [RZ, ovw, oneC, reduceAdd, reduceMul, reduceSub, reduceEqDiff, reduceLT, ↓reduceIte, Int.reduceToNat, reduceLeDiff,  dx, dy, hjn]
    exact rfl
  refine OrdX_chain [14, 15, 16, 17] _ _ _ (by kernel_rfl) (by kernel_rfl) ?_
  simp only [opsL_cons, opsL_nil, List.getElem?_toArray, List.getElem?_cons_zero, List.getElem?_cons_succ, optL_some]
  have dx := q6.cell hx
  have dy := q6.cell hy
  have zx := q6.frozen j
  have hlt3 := r3.lt
  have hbb : w.heap.size ≤ w3.heap.size := by omega
  have q7 := q6.set_ (i := j) (List.getElem?_eq_some_iff.1 hx).1 (.string (toBA (lineC y)))
  have hF7 : Below w.heap.size w (u3.setCell ⟨w3.heap.size, j, none⟩ (.string (toBA (lineC y)))) := hF6.setCell hbb _
  have r7 := r6.far (p := ⟨w3.heap.size, j, none⟩) (by show w.heap.size ≠ w3.heap.size; omega) (.string (toBA (lineC y)))
  have dy7 := q7.cell (i := j + 1) (v := .string (toBA (lineC y))) (by rw [List.getElem?_set_ne (by omega)]; exact hy)
  have zy7 := q7.frozen (j + 1)
  have q8 := q7.set_ (i := j + 1) (by rw [List.length_set]; exact (List.getElem?_eq_some_iff.1 hy).1) (.string (toBA (lineC x)))
  have hF8 := hF7.setCell (p := ⟨w3.heap.size, j + 1, none⟩) hbb (.string (toBA (lineC x)))
  have r8 := r7.far (p := ⟨w3.heap.size, j + 1, none⟩) (by show w.heap.size ≠ w3.heap.size; omega) (.string (toBA (lineC x)))
  generalize hu4 : u3.setCell ⟨w3.heap.size, j, none⟩ (.string (toBA (lineC y))) = u4 at *
  generalize hu5 : u4.setCell ⟨w3.heap.size, j + 1, none⟩ (.string (toBA (lineC x))) = u5 at *
  simp +contextual (maxSteps := 2000000) (disch := first | omega | (simp only [SZ]; first | done | omega) | (simp only [TS] at *; omega)) only [RZ, ovw, oneC, reduceAdd, reduceMul, reduceSub, reduceEqDiff, reduceLT, ↓reduceIte, Int.reduceToNat, reduceLeDiff,  dx, dy, zx, dy7, zy7, hjn, hu4, hu5]
  refine hK _ _ ?_
  clear hK hX hP K
  rw [← hj, rows_swap] at q8
  have hf' : (A ++ y :: x :: B).all It.fine = true := by
    simp only [List.all_append, List.all_cons, Bool.and_eq_true] at hf ⊢
    exact ⟨hf.1, hf.2.2.1, hf.2.1, hf.2.2.2⟩
  have hw' : (A ++ y :: x :: B).all It.wok = true := by
    simp only [List.all_append, List.all_cons, Bool.and_eq_true] at hwk ⊢
    exact ⟨hwk.1, hwk.2.2.1, hwk.2.1, hwk.2.2.2⟩
  have hjr := join_rows hnm hf' hw'
  have hlaw := orders_law hp hV.symm hw (s := toBA (gameY (bs G.name) (A ++ y :: x :: B))) (bs_toBA (fun c hc => joinS_lt nlB _ c (by rw [show bs nlB = [10] from rfl, hjr]; exact hc)))
  have hml : (rowsB (bs G.name) (A ++ y :: x :: B)).length = m + 1 + 1 := by
    rw [← hm]
    unfold rowsB rowsG
    simp
    omega
  generalize hLL : rowsB (bs G.name) (A ++ y :: x :: B) = L at *
  generalize hgY : gameY (bs G.name) (A ++ y :: x :: B) = Y at *
  have hPar : Arr u5 (some ⟨w3.heap.size, 0, none⟩) 1 (L.map fun s => [Value.string s]) := by
    refine arr_row (T := 9) (Vs := L.map fun s => [Value.string s]) ?_ (by simp)
    have e : ∀ Q : List ByteArray, (Q.map fun s => [Value.string s]).flatten = Q.map Value.string := fun Q => by
      induction Q with
      | nil => rfl
      | cons s Q ih => rw [List.map_cons, List.flatten_cons, ih]; rfl
    rw [e]
    exact q8
  have hJn := sjoin_any L nlB (some ⟨w3.heap.size, 0, none⟩) (m + 1 + 1) u5 hPar (by omega) (by omega) (by decide) (by
    rw [show bs nlB = [10] from rfl, hjr]
    have := hlaw.1
    rw [toBA_size] at this
    omega)
  rw [hml, show bs nlB = [10] from rfl, hjr] at hJn
  have hz8 := hF8.size
  have hYs := hlaw.1
  generalize toBA Y = YY at *
  clear q8 hPar q7 q6 q5 hx hy dx dy dy7 r6 r7 zx zy7 hJ0 hJ1 hJ2
  refine W_piece fun K hK hX => ?_
  simp +contextual (maxSteps := 2000000) (disch := first | omega | (simp only [SZ]; first | done | omega) | (simp only [TS] at *; omega)) only [RZ, ovw, oneC, reduceAdd, reduceMul, reduceSub, reduceEqDiff, reduceLT, ↓reduceIte, Int.reduceToNat, reduceLeDiff]
  refine hJn.mono ?_
  rintro e u6 ⟨rfl, hB6⟩
  refine ⟨_, rfl, ?_⟩
  have hF9 := hF8.trans (hB6.mono hz8)
  have hz9 := hF9.size
  have r9 := r8.below hB6
  try simp +contextual (maxSteps := 2000000) (disch := first | omega | (simp only [SZ]; first | done | omega) | (simp only [TS] at *; omega)) only [RZ, ovw, oneC, reduceAdd, reduceMul, reduceSub, reduceEqDiff, reduceLT, ↓reduceIte, Int.reduceToNat, reduceLeDiff]
  refine (parse_ex (q := G) (er := 0) (ln := 0) (by omega) (hW.below hF9 hw5) (by omega) hlaw.2).mono ?_
  rintro e u7 ⟨hB7, Va4, Vt4, rfl, hG4⟩
  refine ⟨_, rfl, ?_⟩
  have rA := r9.below hB7
  have hFA := hF9.trans (hB7.mono hz9)
  have hzA := hFA.size
  obtain ⟨⟨Aa4, ca4, Vs4, rfl, _⟩, At4, ct4, rfl, _⟩ := id hG4
  simp only [gmV]
  simp +contextual (maxSteps := 2000000) (disch := first | omega | (simp only [SZ]; first | done | omega) | (simp only [TS] at *; omega)) only [RZ, ovw, oneC, reduceAdd, reduceMul, reduceSub, reduceEqDiff, reduceLT, ↓reduceIte, Int.reduceToNat, reduceLeDiff]
  refine hK _ _ ?_
  clear hK hX K
  refine W_gen fun u8 hu8 => ?_
  have hB8 : Below u7.heap.size u7 u8 := by rw [hu8]; exact below_alloc u7 _
  have qB : Row u8 u7.heap.size 26 (gmV G (.slice Aa4 G.addons.length ca4) (.slice At4 G.tiers.length ct4)) := by rw [hu8]; exact Row.new u7 _ _
  clear hu8
  have rB := rA.below hB8
  have hFB := hFA.trans (hB8.mono hzA)
  have hzB := hFB.size
  have lA := load_game rB
  have lB := load_game qB
  refine W_piece fun K hK hX => ?_
  simp +contextual (maxSteps := 2000000) (disch := first | omega | (simp only [SZ]; first | done | omega) | (simp only [TS] at *; omega)) only [RZ, ovw, oneC, reduceAdd, reduceMul, reduceSub, reduceEqDiff, reduceLT, ↓reduceIte, Int.reduceToNat, reduceLeDiff,  lA, lB]
  refine (same_any G Va Vt (.slice Aa4 G.addons.length ca4) (.slice At4 G.tiers.length ct4) u8 (hG.below hFB) (hG4.below hB8) (few_little hfew)).mono ?_
  rintro e u9 ⟨rfl, hB9⟩
  refine ⟨_, rfl, ?_⟩
  have hFC := hFB.trans (hB9.mono hzB)
  try simp +contextual (maxSteps := 2000000) (disch := first | omega | (simp only [SZ]; first | done | omega) | (simp only [TS] at *; omega)) only [RZ, ovw, oneC, reduceAdd, reduceMul, reduceSub, reduceEqDiff, reduceLT, ↓reduceIte, Int.reduceToNat, reduceLeDiff]
  refine hend u9 hFC fun wz hFz => ?_
  refine ⟨_, rfl, ?_⟩
  try simp +contextual (maxSteps := 2000000) (disch := first | omega | (simp only [SZ]; first | done | omega) | (simp only [TS] at *; omega)) only [RZ, ovw, oneC, reduceAdd, reduceMul, reduceSub, reduceEqDiff, reduceLT, ↓reduceIte, Int.reduceToNat, reduceLeDiff]
  refine hK _ _ ?_
  clear hK hX K
  simp +contextual (maxSteps := 2000000) (disch := first | omega | (simp only [SZ]; first | done | omega) | (simp only [TS] at *; omega)) only [RZ, ovw, oneC, reduceAdd, reduceMul, reduceSub, reduceEqDiff, reduceLT, ↓reduceIte, Int.reduceToNat, reduceLeDiff]
  exact hFz
end Go.Proofs.YtbdkggnajipdhaaGreatDoor
/- Arguments of chapter 11: a game. -/
namespace Go.Proofs.YtbdkggnajipdhaaGreatDoor
open Go.ChangeShapes Go.WideShapes Go.ChangeAt Go.RowKit Go.Joins Go.Deep
set_option maxRecDepth 100000
theorem list_of {α : Type} {P : Nat → α → Prop} : ∀ n, (∀ i, i < n → ∃ x, P i x) → ∃ L : List α, L.length = n ∧ ∀ i x, L[i]? = some x → P i x
  | 0, _ => ⟨[], rfl, fun i x h => by simp at h⟩
  | n + 1, h => by
    obtain ⟨L, h1, h2⟩ := list_of n fun i hi => h i (by omega)
    obtain ⟨x, hx⟩ := h n (by omega)
    refine ⟨L ++ [x], by simp [h1], fun i y hy => ?_⟩
    by_cases hi : i < n
    · rw [List.getElem?_append_left (by omega)] at hy; exact h2 i y hy
    · rw [List.getElem?_append_right (by omega)] at hy
      have : i - L.length = 0 := by have := (List.getElem?_eq_some_iff.1 hy).1; simp at this; omega
      rw [this] at hy
      simp only [List.getElem?_cons_zero, Option.some.injEq] at hy
      subst hy
      have : i = n := by omega
      subst this; exact hx
theorem arr_of {α : Type} {enc : α → List Value} {sz n : Nat} {W : World} {a : Addr} (Q : α → Prop) (hne : ∀ x, ∃ v, (enc x)[0]? = some v) (h : ∀ i, i < n → ∃ x : α, Q x ∧ ∀ j v, (enc x)[j]? = some v → W.cell? (a.add (i * sz + j)) = some v) :
    ∃ L : List α, L.length = n ∧ Arr W (some a) sz (L.map enc) ∧ ∀ x ∈ L, Q x := by
  obtain ⟨L, h1, h2⟩ := list_of n h
  refine ⟨L, h1, fun hpos => ?_, fun x hx => by obtain ⟨i, hi⟩ := List.mem_iff_getElem?.1 hx; exact (h2 i x hi).1⟩
  rw [List.length_map] at hpos
  obtain ⟨b, o, s⟩ := a
  obtain ⟨x, hx⟩ : ∃ x, L[0]? = some x := ⟨_, List.getElem?_eq_getElem hpos⟩
  obtain ⟨v, hv⟩ := hne x
  have hc := (h2 0 x hx).2 0 v hv
  rw [Nat.zero_mul, Nat.add_zero] at hc
  cases s with
  | some s =>
    have e : Addr.add ⟨b, o, some s⟩ 0 = ⟨b, o, some s⟩ := if_pos rfl
    rw [e] at hc
    simp only [World.cell?] at hc
    split at hc <;> simp at hc
  | none =>
    rw [addr_add, Nat.add_zero] at hc
    refine ⟨b, o, rfl, ?_, fun i l hl j u hu => ?_⟩
    · simp only [World.cell?] at hc
      cases hb : W.heap[b]? with
      | none => rw [hb] at hc; cases hc
      | some ob => exact (Array.getElem?_eq_some_iff.1 hb).1
    · rw [List.getElem?_map] at hl
      cases hy : L[i]? with
      | none => rw [hy] at hl; cases hl
      | some y =>
        rw [hy] at hl
        simp only [Option.map_some, Option.some.injEq] at hl
        subst hl
        have := (h2 i y hy).2 j u hu
        rw [addr_add] at this
        rw [Nat.add_assoc]; exact this
section
variable {H : Type} {enc : TypeId × Value → H} {P : Program} {w : World} {base : Nat} {spare : Nat → Bool} {held : Bool}
/-- A struct of many fields, one cell each. -/
theorem open_aggN {r : Reach} {b0 : Nat} {t : TypeId} {fs : Array Field} {v : Value} {d : DataW H} {p : List MemPlace} (hs : P.underlying t = some (.struct fs)) (hone : oneCellFields P fs = true) (hC : P.cellsOf t = fs.size)
    (hv : Value.okWide P w r b0 t v) (h : DataW.Trod enc P w base spare held t v d p) :
    ∃ (cs : List Value) (n : Nat), v = .agg cs.toArray ∧ cs.length = fs.size ∧ ∀ (j : Nat) (f : Field), fs[j]? = some f → ∃ (c : Value) (y : DataW H × List MemPlace), cs[j]? = some c ∧ DataW.trod enc P w base spare held n f.type [c] = some y := by
  obtain ⟨cs, rfl, hsz⟩ := okWide_struct hs hv
  obtain ⟨l⟩ := cs
  obtain ⟨fuel, hf⟩ := h
  obtain ⟨xs, n, _, hx, _, hlen, hg⟩ := DataW.trod_struct hs hf
  have hl : l.length = fs.size := hsz.trans hC
  refine ⟨l, n, rfl, hl, fun j f hj => ?_⟩
  obtain ⟨ho, hk⟩ := hone_of hone j f hj
  have hjl : j < fs.size := (Array.getElem?_eq_some_iff.1 hj).1
  have h1 := hg j f hj
  simp only [Value.cells] at h1
  rw [ho, hk] at h1
  have hone' : (l.drop j).take 1 = [l[j]'(by omega)] := by
    rw [List.drop_eq_getElem_cons (by omega)]
    rfl
  rw [hone'] at h1
  refine ⟨l[j]'(by omega), xs[j]'(by omega), List.getElem?_eq_getElem (by omega), h1.trans (List.getElem?_eq_getElem (by omega))⟩
end
section
variable {H : Type} {enc : TypeId × Value → H} {W : World} {base n : Nat} {sp : Nat → Bool} {held : Bool}
theorem open_nums {cs : List Value} {y : DataW H × List MemPlace} (h : DataW.trod enc Tryz.prog W base sp held n 43 cs = some y) : ∃ (v : Value) (L : List Int), cs = [v] ∧ IntsR W v L := by
  have hC : Tryz.prog.cellsOf 3 = 1 := by kernel_rfl
  rcases open_slice Tryz.underlying43 h with ⟨rfl, _⟩ | ⟨a, len, cap, m, k, D, Pl, rfl, _, hl, hc, hm, _, hi⟩
  · exact ⟨_, [], rfl, none, 0, rfl, fun h => by simp at h⟩
  · rw [hC] at hi
    obtain ⟨L, h1, h2, _⟩ := arr_of (enc := fun x : Int => [Value.int .i64 x]) (sz := 1) (n := len) (W := W) (a := a) (fun _ => True) (fun x => ⟨_, rfl⟩) fun i him => by
      obtain ⟨cs', hcs, ht⟩ := hi i (by rw [hm]; split <;> omega)
      obtain ⟨x, rfl, _, hwf⟩ := DataW.trod_int Tryz.underlying3 ht
      obtain ⟨_, _, hat⟩ := World.cells?_some hcs
      refine ⟨x, trivial, fun j v hv => ?_⟩
      match j, hv with
      | 0, hv => exact (hat 0 (by omega)).trans hv
      | j + 1, hv => simp at hv
    exact ⟨_, L, rfl, some a, cap, by rw [h1], h2⟩
def encA (p : Ad × Value × Value) : List Value := [.string p.1.name, .int .i64 p.1.kind, .int .i64 p.1.price, p.2.1, .int .i64 p.1.digits, p.2.2]
theorem open_addons {cs : List Value} {y : DataW H × List MemPlace} (h : DataW.trod enc Tryz.prog W base sp held n 23 cs = some y) :
    ∃ (A : Option Addr) (c : Nat) (Vs : List (List Value)) (L : List Ad), cs = [.slice A L.length c] ∧ Arr W A 6 Vs ∧ AdsC (IntsR W) Vs L := by
  rcases open_slice_fields Tryz.underlying23 Tryz.underlying45 (by kernel_rfl) (by kernel_rfl) h with ⟨rfl, _⟩ | ⟨a, len, cap, m, D, Pl, rfl, _, hl, hc, hm, _, hi⟩
  · exact ⟨none, 0, [], [], rfl, fun h => absurd h (Nat.lt_irrefl _), rfl, fun i cs x h => by simp at h⟩
  · obtain ⟨P, h1, h2, h3⟩ := arr_of (enc := encA) (sz := 6) (n := len) (W := W) (a := a) (fun p => IntsR W p.2.1 p.1.factors ∧ IntsR W p.2.2 p.1.serials) (fun x => ⟨_, rfl⟩) fun i him => by
      obtain ⟨ys, k, _, _, _, hf⟩ := hi i (by rw [hm]; split <;> omega)
      obtain ⟨v0, y0, c0, _, t0⟩ := hf 0 _ rfl
      obtain ⟨v1, y1, c1, _, t1⟩ := hf 1 _ rfl
      obtain ⟨v2, y2, c2, _, t2⟩ := hf 2 _ rfl
      obtain ⟨v3, y3, c3, _, t3⟩ := hf 3 _ rfl
      obtain ⟨v4, y4, c4, _, t4⟩ := hf 4 _ rfl
      obtain ⟨v5, y5, c5, _, t5⟩ := hf 5 _ rfl
      obtain ⟨a0, e0, _⟩ := DataW.trod_string Tryz.underlying9 t0
      obtain ⟨a1, e1, _⟩ := DataW.trod_int Tryz.underlying3 t1
      obtain ⟨a2, e2, _⟩ := DataW.trod_int Tryz.underlying3 t2
      obtain ⟨vf, Lf, e3, hF⟩ := open_nums t3
      obtain ⟨a4, e4, _⟩ := DataW.trod_int Tryz.underlying3 t4
      obtain ⟨vs, Ls, e5, hS⟩ := open_nums t5
      simp only [List.cons.injEq, and_true] at e0 e1 e2 e3 e4 e5
      subst e0 e1 e2 e3 e4 e5
      refine ⟨(⟨a0, a1, a2, Lf, a4, Ls⟩, v3, v5), ⟨hF, hS⟩, fun j v hv => ?_⟩
      match j, hv with
      | 0, hv => injection hv with hv; subst hv; exact c0
      | 1, hv => injection hv with hv; subst hv; exact c1
      | 2, hv => injection hv with hv; subst hv; exact c2
      | 3, hv => injection hv with hv; subst hv; exact c3
      | 4, hv => injection hv with hv; subst hv; exact c4
      | 5, hv => injection hv with hv; subst hv; exact c5
      | j + 6, hv => simp [encA] at hv
    refine ⟨some a, cap, P.map encA, P.map (·.1), by rw [List.length_map, h1], h2, by rw [List.length_map, List.length_map], fun i cs x hcs hx => ?_⟩
    rw [List.getElem?_map] at hcs hx
    cases hp : P[i]? with
    | none => rw [hp] at hcs; cases hcs
    | some p =>
      rw [hp] at hcs hx
      simp only [Option.map_some, Option.some.injEq] at hcs hx
      subst hcs hx
      exact ⟨p.2.1, p.2.2, rfl, h3 p (List.mem_of_getElem? hp)⟩
theorem open_tiers {cs : List Value} {y : DataW H × List MemPlace} (h : DataW.trod enc Tryz.prog W base sp held n 24 cs = some y) :
    ∃ (A : Option Addr) (c : Nat) (L : List Ti), cs = [.slice A L.length c] ∧ Arr W A 6 (L.map encTi) := by
  rcases open_slice_fields Tryz.underlying24 Tryz.underlying41 (by kernel_rfl) (by kernel_rfl) h with ⟨rfl, _⟩ | ⟨a, len, cap, m, D, Pl, rfl, _, hl, hc, hm, _, hi⟩
  · exact ⟨none, 0, [], rfl, fun h => by simp at h⟩
  · obtain ⟨L, h1, h2, _⟩ := arr_of (enc := encTi) (sz := 6) (n := len) (W := W) (a := a) (fun _ => True) (fun x => ⟨_, rfl⟩) fun i him => by
      obtain ⟨ys, k, _, _, _, hf⟩ := hi i (by rw [hm]; split <;> omega)
      obtain ⟨v0, y0, c0, _, t0⟩ := hf 0 _ rfl
      obtain ⟨v1, y1, c1, _, t1⟩ := hf 1 _ rfl
      obtain ⟨v2, y2, c2, _, t2⟩ := hf 2 _ rfl
      obtain ⟨v3, y3, c3, _, t3⟩ := hf 3 _ rfl
      obtain ⟨v4, y4, c4, _, t4⟩ := hf 4 _ rfl
      obtain ⟨v5, y5, c5, _, t5⟩ := hf 5 _ rfl
      obtain ⟨a0, e0, _⟩ := DataW.trod_int Tryz.underlying3 t0
      obtain ⟨a1, e1, _⟩ := DataW.trod_int Tryz.underlying3 t1
      obtain ⟨a2, e2, _⟩ := DataW.trod_int Tryz.underlying3 t2
      obtain ⟨a3, e3, _⟩ := DataW.trod_int Tryz.underlying3 t3
      obtain ⟨a4, e4, _⟩ := DataW.trod_int Tryz.underlying3 t4
      obtain ⟨a5, e5, _⟩ := DataW.trod_int Tryz.underlying3 t5
      simp only [List.cons.injEq, and_true] at e0 e1 e2 e3 e4 e5
      subst e0 e1 e2 e3 e4 e5
      refine ⟨⟨a0, a1, a2, a3, a4, a5⟩, trivial, fun j v hv => ?_⟩
      match j, hv with
      | 0, hv => injection hv with hv; subst hv; exact c0
      | 1, hv => injection hv with hv; subst hv; exact c1
      | 2, hv => injection hv with hv; subst hv; exact c2
      | 3, hv => injection hv with hv; subst hv; exact c3
      | 4, hv => injection hv with hv; subst hv; exact c4
      | 5, hv => injection hv with hv; subst hv; exact c5
      | j + 6, hv => simp [encTi] at hv
    exact ⟨some a, cap, L, by rw [h1], h2⟩
theorem open_game {r : Reach} {b0 : Nat} {v : Value} {d : DataW H} {p : List MemPlace} (hv : Value.okWide Tryz.prog W r b0 26 v) (h : DataW.Trod enc Tryz.prog W base sp held 26 v d p) :
    ∃ (G : Gm) (Va Vt : Value), v = .agg (gmV G Va Vt).toArray ∧ GmIn W Va Vt G := by
  obtain ⟨cs, k, rfl, hl, hf⟩ := open_aggN Tryz.underlying26 (by kernel_rfl) (by kernel_rfl) hv h
  match cs, hl with
  | [c0, c1, c2, c3, c4, c5, c6, c7, c8, c9, c10, c11, c12, c13, c14, c15, c16, c17, c18, c19, c20, c21], _ =>
    obtain ⟨x0, y0, g0, t0⟩ := hf 0 _ rfl
    simp only [List.getElem?_cons_succ, List.getElem?_cons_zero, Option.some.injEq] at g0
    subst g0
    obtain ⟨x1, y1, g1, t1⟩ := hf 1 _ rfl
    simp only [List.getElem?_cons_succ, List.getElem?_cons_zero, Option.some.injEq] at g1
    subst g1
    obtain ⟨x2, y2, g2, t2⟩ := hf 2 _ rfl
    simp only [List.getElem?_cons_succ, List.getElem?_cons_zero, Option.some.injEq] at g2
    subst g2
    obtain ⟨x3, y3, g3, t3⟩ := hf 3 _ rfl
    simp only [List.getElem?_cons_succ, List.getElem?_cons_zero, Option.some.injEq] at g3
    subst g3
    obtain ⟨x4, y4, g4, t4⟩ := hf 4 _ rfl
    simp only [List.getElem?_cons_succ, List.getElem?_cons_zero, Option.some.injEq] at g4
    subst g4
    obtain ⟨x5, y5, g5, t5⟩ := hf 5 _ rfl
    simp only [List.getElem?_cons_succ, List.getElem?_cons_zero, Option.some.injEq] at g5
    subst g5
    obtain ⟨x6, y6, g6, t6⟩ := hf 6 _ rfl
    simp only [List.getElem?_cons_succ, List.getElem?_cons_zero, Option.some.injEq] at g6
    subst g6
    obtain ⟨x7, y7, g7, t7⟩ := hf 7 _ rfl
    simp only [List.getElem?_cons_succ, List.getElem?_cons_zero, Option.some.injEq] at g7
    subst g7
    obtain ⟨x8, y8, g8, t8⟩ := hf 8 _ rfl
    simp only [List.getElem?_cons_succ, List.getElem?_cons_zero, Option.some.injEq] at g8
    subst g8
    obtain ⟨x9, y9, g9, t9⟩ := hf 9 _ rfl
    simp only [List.getElem?_cons_succ, List.getElem?_cons_zero, Option.some.injEq] at g9
    subst g9
    obtain ⟨x10, y10, g10, t10⟩ := hf 10 _ rfl
    simp only [List.getElem?_cons_succ, List.getElem?_cons_zero, Option.some.injEq] at g10
    subst g10
    obtain ⟨x11, y11, g11, t11⟩ := hf 11 _ rfl
    simp only [List.getElem?_cons_succ, List.getElem?_cons_zero, Option.some.injEq] at g11
    subst g11
    obtain ⟨x12, y12, g12, t12⟩ := hf 12 _ rfl
    simp only [List.getElem?_cons_succ, List.getElem?_cons_zero, Option.some.injEq] at g12
    subst g12
    obtain ⟨x13, y13, g13, t13⟩ := hf 13 _ rfl
    simp only [List.getElem?_cons_succ, List.getElem?_cons_zero, Option.some.injEq] at g13
    subst g13
    obtain ⟨x14, y14, g14, t14⟩ := hf 14 _ rfl
    simp only [List.getElem?_cons_succ, List.getElem?_cons_zero, Option.some.injEq] at g14
    subst g14
    obtain ⟨x15, y15, g15, t15⟩ := hf 15 _ rfl
    simp only [List.getElem?_cons_succ, List.getElem?_cons_zero, Option.some.injEq] at g15
    subst g15
    obtain ⟨x16, y16, g16, t16⟩ := hf 16 _ rfl
    simp only [List.getElem?_cons_succ, List.getElem?_cons_zero, Option.some.injEq] at g16
    subst g16
    obtain ⟨x17, y17, g17, t17⟩ := hf 17 _ rfl
    simp only [List.getElem?_cons_succ, List.getElem?_cons_zero, Option.some.injEq] at g17
    subst g17
    obtain ⟨x18, y18, g18, t18⟩ := hf 18 _ rfl
    simp only [List.getElem?_cons_succ, List.getElem?_cons_zero, Option.some.injEq] at g18
    subst g18
    obtain ⟨x19, y19, g19, t19⟩ := hf 19 _ rfl
    simp only [List.getElem?_cons_succ, List.getElem?_cons_zero, Option.some.injEq] at g19
    subst g19
    obtain ⟨x20, y20, g20, t20⟩ := hf 20 _ rfl
    simp only [List.getElem?_cons_succ, List.getElem?_cons_zero, Option.some.injEq] at g20
    subst g20
    obtain ⟨x21, y21, g21, t21⟩ := hf 21 _ rfl
    simp only [List.getElem?_cons_succ, List.getElem?_cons_zero, Option.some.injEq] at g21
    subst g21
    obtain ⟨a0, e0, _⟩ := DataW.trod_string Tryz.underlying9 t0
    obtain ⟨a1, e1, _⟩ := DataW.trod_int Tryz.underlying3 t1
    obtain ⟨a2, e2, _⟩ := DataW.trod_int Tryz.underlying3 t2
    obtain ⟨a3, e3, _⟩ := DataW.trod_int Tryz.underlying3 t3
    obtain ⟨a4, e4, _⟩ := DataW.trod_int Tryz.underlying3 t4
    obtain ⟨a5, e5, _⟩ := DataW.trod_int Tryz.underlying3 t5
    obtain ⟨a6, e6, _⟩ := DataW.trod_int Tryz.underlying3 t6
    obtain ⟨a7, e7, _⟩ := DataW.trod_int Tryz.underlying3 t7
    obtain ⟨a8, e8, _⟩ := DataW.trod_int Tryz.underlying3 t8
    obtain ⟨a9, e9, _⟩ := DataW.trod_int Tryz.underlying3 t9
    obtain ⟨a10, e10, _⟩ := DataW.trod_int Tryz.underlying3 t10
    obtain ⟨a11, e11, _⟩ := DataW.trod_int Tryz.underlying3 t11
    obtain ⟨a12, e12, _⟩ := DataW.trod_int Tryz.underlying3 t12
    obtain ⟨a13, e13, _⟩ := DataW.trod_int Tryz.underlying3 t13
    obtain ⟨a14, e14, _⟩ := DataW.trod_int Tryz.underlying3 t14
    obtain ⟨a15, e15, _⟩ := DataW.trod_int Tryz.underlying3 t15
    obtain ⟨a16, e16, _⟩ := DataW.trod_int Tryz.underlying3 t16
    obtain ⟨a17, e17, _⟩ := DataW.trod_int Tryz.underlying3 t17
    obtain ⟨a18, e18, _⟩ := DataW.trod_int Tryz.underlying3 t18
    obtain ⟨a19, e19, _⟩ := DataW.trod_int Tryz.underlying3 t19
    obtain ⟨Aa, ca, Vs, L, e20, hA, hads⟩ := open_addons t20
    obtain ⟨At, ct, M, e21, hT⟩ := open_tiers t21
    simp only [List.cons.injEq, and_true] at e0 e1 e2 e3 e4 e5 e6 e7 e8 e9 e10 e11 e12 e13 e14 e15 e16 e17 e18 e19 e20 e21
    subst e0 e1 e2 e3 e4 e5 e6 e7 e8 e9 e10 e11 e12 e13 e14 e15 e16 e17 e18 e19 e20 e21
    exact ⟨⟨a0, fun i => ([a1, a2, a3, a4, a5, a6, a7, a8, a9, a10, a11, a12, a13, a14, a15, a16, a17, a18, a19] : List Int).getD i 0, L, M⟩, _, _, rfl, ⟨Aa, ca, Vs, rfl, hA, hads⟩, At, ct, rfl, hT⟩
end
end Go.Proofs.YtbdkggnajipdhaaGreatDoor
