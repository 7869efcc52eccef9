/- Texts laid one behind the other: RtT, RtU, Bld, JnR, JnA, JnB, OtA, OtW. Each says at its head what it proves. -/
import Derived.Test.YtbdkggnajipdhaaGreatDoorRtOrZ14
import Derived.Lib.AppendIntMem
import Derived.Lib.MakeNoZero
import Derived.Laws.IdiomCopy
import Derived.Lib.Split
import Derived.Lib.Fields
import Derived.Lib.Strings
set_option linter.unusedSimpArgs false
/- Plain: chapter 11, a printed game is read back. No program in sight. -/
namespace Go.Proofs.YtbdkggnajipdhaaGreatDoor
def seeL (V : List It) (seen : List (List Nat)) : List (List Nat) := V.foldl It.see seen
theorem see_mem : ∀ (V : List It) (seen : List (List Nat)) (k : List Nat), k ∈ seeL V seen ↔ k ∈ V.filterMap It.key ∨ k ∈ seen
  | [], seen, k => by simp [seeL]
  | i :: V, seen, k => by
    have ih := see_mem V (It.see seen i) k
    unfold seeL at ih ⊢
    rw [List.foldl_cons, ih]
    cases hk : i.key with
    | none => simp [List.filterMap_cons, hk, It.see]
    | some q =>
      simp only [List.filterMap_cons, hk, It.see, List.mem_cons]
      exact ⟨fun h => h.elim (fun h => .inl (.inr h)) (fun h => h.elim (fun h => .inl (.inl h)) .inr), fun h => h.elim (fun h => h.elim (fun h => .inr (.inl h)) .inl) (fun h => .inr (.inr h))⟩
theorem itemsS_len : ∀ V : List It, V.length ≤ (itemsS V).length
  | [] => Nat.le_refl _
  | i :: V => by
    have := itemsS_len V
    unfold itemsS at this ⊢
    rw [List.flatMap_cons, List.length_append, List.length_append, List.length_cons]
    simp only [List.length_cons, List.length_nil]
    omega
/-- Items with different keys are read one behind the other. -/
theorem gitems_read {M : List (Int × List Nat)} (hM : M ≠ []) (hk : ∀ x ∈ M.head?, x.1 ≠ 1) : ∀ (V : List It) (L : List Tk) (f : Nat) (g : Gm) (seen : List (List Nat)), V.all It.fine = true → V.all It.wok = true → (∀ i ∈ V, ∀ d t, i = .days d t → d ≠ 0) →
    (V.filterMap It.key).Nodup → (∀ k ∈ V.filterMap It.key, k ∉ seen) → L.map Kt = inK (itemsS V) ++ M → V.length < f → ∃ L', gitemsT f L g seen = .ok ((V.foldl It.eff g, seeL V seen), L') ∧ L'.map Kt = M
  | [], L, f + 1, g, seen, _, _, _, _, _, h, _ => by
    have h : L.map Kt = M := h
    obtain ⟨x, M', rfl⟩ : ∃ x M', M = x :: M' := by cases M with | nil => exact absurd rfl hM | cons x M' => exact ⟨x, M', rfl⟩
    refine ⟨L, ?_, h⟩
    unfold gitemsT
    rw [if_neg]
    · rfl
    · cases L with
      | nil => cases h
      | cons t r =>
        rw [List.map_cons, List.cons.injEq] at h
        intro e
        have hx := hk x (by simp)
        rw [← h.1] at hx
        exact hx e
  | i :: V, L, f + 1, g, seen, hf, hw, hz, hn, hs, h, hl => by
    rw [List.all_cons, Bool.and_eq_true] at hf hw
    have h' : L.map Kt = inK i.toks ++ ((3, asc ";") :: (inK (itemsS V) ++ M)) := by
      rw [h]; simp [itemsS, inK, List.map_append]
    have hk1 : ∀ k, i.key = some k → k ∉ seen := fun k e => hs k (by rw [List.filterMap_cons, e]; simp)
    obtain ⟨L1, e1, h1⟩ := item_read hf.1 hw.1 (hz i (by simp)) (by simp) (by simp) h' (g := g) hk1
    obtain ⟨e2, h2⟩ := st_is h1 (by intro e; exact hM (List.append_eq_nil_iff.1 e).2)
    have hn' : (V.filterMap It.key).Nodup := by
      rw [List.filterMap_cons] at hn
      cases e : i.key with
      | none => rw [e] at hn; exact hn
      | some q => rw [e] at hn; exact (List.nodup_cons.1 hn).2
    obtain ⟨L', e3, h3⟩ := gitems_read hM hk V (nxT L1) f (i.eff g) (It.see seen i) hf.2 hw.2 (fun j hj => hz j (by simp [hj])) hn' (fun k hkm => by
      have hks := hs k (by
        rw [List.filterMap_cons]
        cases i.key with
        | none => exact hkm
        | some q => exact List.mem_cons_of_mem _ hkm)
      unfold It.see
      cases e : i.key with
      | none => exact hks
      | some q =>
        rw [List.filterMap_cons, e] at hn
        intro hc
        rcases List.mem_cons.1 hc with rfl | hc
        · exact (List.nodup_cons.1 hn).1 hkm
        · exact hks hc) h2 (by rw [List.length_cons] at hl; omega)
    refine ⟨L', ?_, h3⟩
    have hkind : (hdT L).kind = 1 := by
      have : ∃ w R, inK i.toks ++ ((3, asc ";") :: (inK (itemsS V) ++ M)) = (1, w) :: R ∧ R ≠ [] := by
        cases i with
        | two w a b => exact ⟨_, _, rfl, by simp⟩
        | num w n => exact ⟨_, _, rfl, by simp⟩
        | days d t => exact ⟨_, _, rfl, by simp⟩
        | addon a =>
          by_cases ha : a.kind = 1
          · simp only [It.toks, if_pos ha]; exact ⟨_, _, rfl, by simp⟩
          · simp only [It.toks, if_neg ha]; exact ⟨_, _, rfl, by simp⟩
        | tier t => exact ⟨_, _, rfl, by simp⟩
      obtain ⟨w, R, eR, hR⟩ := this
      rw [eR] at h'
      exact (st_next h' hR).1
    unfold gitemsT
    rw [if_pos hkind, bindT_ok e1, thenT_some e2]
    dsimp only
    rw [e3]
    rfl
theorem closeT_ok {g : Gm} {seen : List (List Nat)} {L : List Tk} (h : L.map Kt = [(3, asc "}"), (0, [])]) : closeT ((g, seen), L) = .ok (if asc "system" ∈ seen then g else { g with n := putN g.n 8 (g.n 2) }) := by
  obtain ⟨e, h2⟩ := st_is (k := 3) (w := asc "}") h (by simp)
  unfold closeT
  rw [thenT_some e]
  have : (hdT (nxT L)).kind = 0 := by
    match hL : nxT L, h2 with
    | [], h2 => cases h2
    | [t], h2 =>
      rw [List.map_cons, List.map_nil, List.cons.injEq] at h2
      exact congrArg Prod.fst h2.1
    | _ :: _ :: _, h2 => simp at h2
  rw [if_pos this]
/-- A text of items, as it is printed, is read. -/
theorem game_read {s nm : ByteArray} {V : List It} (hs : bs s = gameX (bs nm) V) (hsz : s.size ≤ 32768) (hn : wordL (bs nm) = true) (hf : V.all It.fine = true) (hw : V.all It.wok = true) (hz : ∀ i ∈ V, ∀ d t, i = .days d t → d ≠ 0) (hnd : (V.filterMap It.key).Nodup) :
    parseG s = ((if asc "system" ∈ V.filterMap It.key then V.foldl It.eff (gm0 nm) else { V.foldl It.eff (gm0 nm) with n := putN (V.foldl It.eff (gm0 nm)).n 8 ((V.foldl It.eff (gm0 nm)).n 2) }), 0, 0) := by
  obtain ⟨L, e, hL⟩ := scan_Lx hsz (by rw [hs]; exact game_Lx hn hf hw)
  have h' : L.map Kt = (1, asc "game") :: (1, bs nm) :: (3, asc "{") :: (inK (itemsS V) ++ [(3, asc "}"), (0, [])]) := by
    rw [hL]; simp [gameS, inK, List.map_append]
  obtain ⟨e1, h1⟩ := st_is h' (by simp)
  obtain ⟨n1, n2, n3⟩ := st_next h1 (by simp)
  obtain ⟨e3, h3⟩ := st_is n3 (by simp)
  obtain ⟨L', e4, h4⟩ := gitems_read (M := [(3, asc "}"), (0, [])]) (by simp) (by simp) V (nxT (nxT (nxT L))) (nxT (nxT (nxT L))).length (gm0 nm) [] hf hw hz hnd (fun k _ h => by cases h) h3 (by
    have := itemsS_len V
    rw [st_len h3, List.length_append]
    unfold inK
    rw [List.length_map]
    simp only [List.length_cons, List.length_nil]
    omega)
  have hnm : (hdT (nxT L)).text = nm := bs_inj n2
  have hg : gameT L = .ok (if asc "system" ∈ seeL V [] then V.foldl It.eff (gm0 nm) else { V.foldl It.eff (gm0 nm) with n := putN (V.foldl It.eff (gm0 nm)).n 8 ((V.foldl It.eff (gm0 nm)).n 2) }) := by
    unfold gameT
    rw [thenT_some e1, if_neg (fun h => h n1), thenT_some e3, hnm, bindT_ok e4, closeT_ok h4]
  unfold parseG
  rw [e, if_neg (by show (0 : Int) ≠ 3; decide), if_neg (fun h => h rfl), hg]
  have : asc "system" ∈ seeL V [] ↔ asc "system" ∈ V.filterMap It.key := by rw [see_mem]; simp
  by_cases hm : asc "system" ∈ V.filterMap It.key
  · rw [if_pos hm, if_pos (this.2 hm)]
  · rw [if_neg hm, if_neg (fun h => hm (this.1 h))]
/-! What is printed of a game. -/
theorem optI_keys (w : List Nat) (n std : Int) : (optI w n std).filterMap It.key = if n = std then [] else [w] := by
  unfold optI; by_cases h : n = std <;> simp [h, It.key]
theorem optI_wok {w : List Nat} (h : (simpleI w).isSome = true) (n std : Int) : (optI w n std).all It.wok = true := by
  unfold optI; by_cases e : n = std <;> simp [e, It.wok, h]
theorem optI_eff {w : List Nat} {i : Nat} (h : simpleI w = some i) (n std : Int) (g : Gm) (hg : g.n i = std) : (optI w n std).foldl It.eff g = { g with n := putN g.n i n } := by
  unfold optI
  by_cases e : n = std
  · rw [if_pos e, List.foldl_nil]
    have : putN g.n i n = g.n := by
      funext j
      unfold putN
      by_cases hj : j = i
      · rw [if_pos hj, hj, hg, e]
      · rw [if_neg hj]
    rw [this]
  · rw [if_neg e, List.foldl_cons, List.foldl_nil]
    simp only [It.eff, h]
/-- Keys in their order. -/
def keysK : List (List Nat) := [asc "choose", asc "bonus", asc "extra", asc "price", asc "draws", asc "system", asc "days", asc "close", asc "cancel", asc "expiry", asc "pool", asc "reserve", asc "round", asc "cap", asc "rolls"]
theorem keysK_nodup : keysK.Nodup := by decide +kernel
theorem optK_sub (w : List Nat) (n std : Int) : List.Sublist ((optI w n std).filterMap It.key) [w] := by
  rw [optI_keys]; by_cases h : n = std <;> simp [h]
theorem choose_key (n : Nat → Int) : It.key (.two (if n 0 = 1 then asc "choose" else asc "digits") (n 2) (n 3)) = some (asc "choose") := by
  by_cases h : n 0 = 1
  · rw [if_pos h]; exact congrArg some (if_neg (by decide +kernel))
  · rw [if_neg h]; exact congrArg some (if_neg (by decide +kernel))
theorem bonus_sub (n : Nat → Int) : List.Sublist ((bonusI n).filterMap It.key) [asc "bonus"] := by
  unfold bonusI; by_cases h : n 4 ≠ 0 ∨ n 5 ≠ 0
  · rw [if_pos h]; simp [It.key]
  · rw [if_neg h]; simp
theorem days_sub (n : Nat → Int) : List.Sublist ((daysI n).filterMap It.key) [asc "days"] := by
  unfold daysI; by_cases h : n 9 = 0 <;> simp [h, It.key]
theorem map_keys {α : Type} (f : α → It) (hf : ∀ a, (f a).key = none) (l : List α) : (l.map f).filterMap It.key = [] := by
  rw [List.filterMap_map, List.filterMap_eq_nil_iff]
  intro a _
  exact hf a
theorem keys_sub (G : Gm) : List.Sublist ((itemsG G).filterMap It.key) keysK := by
  unfold itemsG optsI
  rw [headI_is]
  simp only [List.filterMap_append, List.filterMap_cons, List.filterMap_nil, choose_key, map_keys It.addon (fun _ => rfl), map_keys It.tier (fun _ => rfl), List.append_nil]
  have e : keysK = [asc "choose"] ++ [asc "bonus"] ++ ([asc "extra"] ++ [asc "price"] ++ [asc "draws"] ++ [asc "system"]) ++ [asc "days"] ++ ([asc "close"] ++ [asc "cancel"] ++ [asc "expiry"] ++ [asc "pool"] ++ [asc "reserve"] ++ [asc "round"] ++ [asc "cap"] ++ [asc "rolls"]) := rfl
  rw [e]
  have A := fun {a b c d : List (List Nat)} (h1 : List.Sublist a b) (h2 : List.Sublist c d) => List.Sublist.append h1 h2
  exact A (A (A (A (List.Sublist.refl _) (bonus_sub _)) (A (A (A (optK_sub _ _ _) (optK_sub _ _ _)) (optK_sub _ _ _)) (optK_sub _ _ _))) (days_sub _)) (A (A (A (A (A (A (A (optK_sub _ _ _) (optK_sub _ _ _)) (optK_sub _ _ _)) (optK_sub _ _ _)) (optK_sub _ _ _)) (optK_sub _ _ _)) (optK_sub _ _ _)) (optK_sub _ _ _))
theorem keys_nodup (G : Gm) : ((itemsG G).filterMap It.key).Nodup := (keys_sub G).nodup keysK_nodup
theorem items_wok (G : Gm) : (itemsG G).all It.wok = true := by
  unfold itemsG optsI daysI
  rw [headI_is]
  unfold bonusI
  simp only [List.all_append, Bool.and_eq_true]
  have hw : ∀ w ∈ simpleW, (simpleI w).isSome = true := by
    have : simpleW.all (fun w => (simpleI w).isSome) = true := by decide +kernel
    exact List.all_eq_true.1 this
  have hm : ∀ (w : List Nat) (n std : Int), w ∈ simpleW → (optI w n std).all It.wok = true := fun w n std h => optI_wok (hw w h) n std
  refine ⟨⟨⟨⟨⟨⟨?_, ?_⟩, ⟨⟨hm _ _ _ (by decide +kernel), hm _ _ _ (by decide +kernel)⟩, hm _ _ _ (by decide +kernel)⟩, hm _ _ _ (by decide +kernel)⟩, ?_⟩, ⟨⟨⟨⟨⟨⟨hm _ _ _ (by decide +kernel), hm _ _ _ (by decide +kernel)⟩, hm _ _ _ (by decide +kernel)⟩, hm _ _ _ (by decide +kernel)⟩, hm _ _ _ (by decide +kernel)⟩, hm _ _ _ (by decide +kernel)⟩, hm _ _ _ (by decide +kernel)⟩, hm _ _ _ (by decide +kernel)⟩, ?_⟩, ?_⟩
  · simp only [List.all_cons, List.all_nil, Bool.and_true, It.wok]
    by_cases h : G.n 0 = 1 <;> simp [h]
  · by_cases h : G.n 4 ≠ 0 ∨ G.n 5 ≠ 0
    · rw [if_pos h]; simp [It.wok]
    · rw [if_neg h]; rfl
  · by_cases h : G.n 9 = 0
    · rw [if_pos h]; rfl
    · rw [if_neg h]; simp [It.wok]
  · rw [List.all_map]; simp [It.wok]
  · rw [List.all_map]; simp [It.wok]
theorem items_days (G : Gm) (h0 : 0 ≤ G.n 9) : ∀ i ∈ itemsG G, ∀ d t, i = .days d t → d ≠ 0 := by
  intro i hi d t e
  subst e
  unfold itemsG optsI at hi
  rw [headI_is] at hi
  have ho : ∀ (w : List Nat) (n std : Int), It.days d t ∉ optI w n std := fun w n std h => by
    unfold optI at h; by_cases e : n = std <;> simp [e] at h
  have hb : It.days d t ∉ bonusI G.n := fun h => by
    unfold bonusI at h; by_cases e : G.n 4 ≠ 0 ∨ G.n 5 ≠ 0
    · rw [if_pos e] at h; simp at h
    · rw [if_neg e] at h; simp at h
  simp only [List.mem_append, ho, hb, or_false, false_or, List.mem_singleton, List.mem_map] at hi
  rcases hi with ((hi | hi) | ⟨_, _, hi⟩) | ⟨_, _, hi⟩
  · cases hi
  · unfold daysI at hi
    by_cases e : G.n 9 = 0
    · rw [if_pos e] at hi; cases hi
    · rw [if_neg e, List.mem_singleton] at hi
      injection hi with h1 h2
      omega
  · cases hi
  · cases hi
theorem sys_opt (w : List Nat) (n std : Int) (hw : asc "system" ≠ w) : asc "system" ∉ (optI w n std).filterMap It.key := by
  rw [optI_keys]
  by_cases h : n = std
  · rw [if_pos h]; simp
  · rw [if_neg h, List.mem_singleton]; exact hw
theorem sys_mem (G : Gm) : asc "system" ∈ (itemsG G).filterMap It.key ↔ G.n 8 ≠ G.n 2 := by
  unfold itemsG optsI
  rw [headI_is]
  simp only [List.filterMap_append, List.filterMap_cons, List.filterMap_nil, choose_key, map_keys It.addon (fun _ => rfl), map_keys It.tier (fun _ => rfl), List.append_nil, List.mem_append]
  have hb : asc "system" ∉ (bonusI G.n).filterMap It.key := fun h => absurd ((bonus_sub G.n).subset h) (by decide +kernel)
  have hd : asc "system" ∉ (daysI G.n).filterMap It.key := fun h => absurd ((days_sub G.n).subset h) (by decide +kernel)
  have hc : asc "system" ∉ [asc "choose"] := by decide +kernel
  have hs : asc "system" ∈ (optI (asc "system") (G.n 8) (G.n 2)).filterMap It.key ↔ G.n 8 ≠ G.n 2 := by
    rw [optI_keys]
    by_cases h : G.n 8 = G.n 2
    · rw [if_pos h]; simp [h]
    · rw [if_neg h]; simp [h]
  simp only [sys_opt _ _ _ (show asc "system" ≠ asc "extra" by decide +kernel), sys_opt _ _ _ (show asc "system" ≠ asc "price" by decide +kernel), sys_opt _ _ _ (show asc "system" ≠ asc "draws" by decide +kernel), sys_opt _ _ _ (show asc "system" ≠ asc "close" by decide +kernel),
    sys_opt _ _ _ (show asc "system" ≠ asc "cancel" by decide +kernel), sys_opt _ _ _ (show asc "system" ≠ asc "expiry" by decide +kernel), sys_opt _ _ _ (show asc "system" ≠ asc "pool" by decide +kernel), sys_opt _ _ _ (show asc "system" ≠ asc "reserve" by decide +kernel),
    sys_opt _ _ _ (show asc "system" ≠ asc "round" by decide +kernel), sys_opt _ _ _ (show asc "system" ≠ asc "cap" by decide +kernel), sys_opt _ _ _ (show asc "system" ≠ asc "rolls" by decide +kernel), hb, hd, hc, hs, false_or, or_false]
theorem bonus_eff (n : Nat → Int) (g : Gm) (h4 : g.n 4 = 0) (h5 : g.n 5 = 0) : (bonusI n).foldl It.eff g = { g with n := putN (putN g.n 4 (n 4)) 5 (n 5) } := by
  unfold bonusI
  by_cases h : n 4 ≠ 0 ∨ n 5 ≠ 0
  · rw [if_pos h, List.foldl_cons, List.foldl_nil]
    simp only [It.eff, ↓reduceIte]
  · rw [if_neg h, List.foldl_nil]
    have e4 : n 4 = 0 := Classical.byContradiction fun e => h (.inl e)
    have e5 : n 5 = 0 := Classical.byContradiction fun e => h (.inr e)
    have : putN (putN g.n 4 (n 4)) 5 (n 5) = g.n := by
      funext j
      unfold putN
      by_cases h5' : j = 5
      · rw [if_pos h5', h5', h5, e5]
      · rw [if_neg h5']
        by_cases h4' : j = 4
        · rw [if_pos h4', h4', h4, e4]
        · rw [if_neg h4']
    rw [this]
theorem days_eff (n : Nat → Int) (g : Gm) (h9 : g.n 9 = 0) (h10 : g.n 10 = 0) (hc : daysC n = true) : (daysI n).foldl It.eff g = { g with n := putN (putN g.n 9 (n 9)) 10 (n 10) } := by
  unfold daysC at hc
  simp only [Bool.and_eq_true, decide_eq_true_eq] at hc
  unfold daysI
  by_cases h : n 9 = 0
  · rw [if_pos h, List.foldl_nil]
    have e10 : n 10 = 0 := by simpa [h] using hc.2
    have : putN (putN g.n 9 (n 9)) 10 (n 10) = g.n := by
      funext j
      unfold putN
      by_cases h5' : j = 10
      · rw [if_pos h5', h5', h10, e10]
      · rw [if_neg h5']
        by_cases h4' : j = 9
        · rw [if_pos h4', h4', h9, h]
        · rw [if_neg h4']
    rw [this]
  · rw [if_neg h, List.foldl_cons, List.foldl_nil]
    simp only [It.eff]
    rw [show ((n 9).toNat : Int) = n 9 by omega]
theorem addons_eff : ∀ (l : List Ad) (g : Gm), (l.map It.addon).foldl It.eff g = { g with addons := g.addons ++ l }
  | [], g => by simp
  | a :: l, g => by
    rw [List.map_cons, List.foldl_cons, addons_eff l]
    simp only [It.eff, List.append_assoc, List.singleton_append]
theorem tiers_eff : ∀ (l : List Ti) (g : Gm), (l.map It.tier).foldl It.eff g = { g with tiers := g.tiers ++ l }
  | [], g => by simp
  | a :: l, g => by
    rw [List.map_cons, List.foldl_cons, tiers_eff l]
    simp only [It.eff, List.append_assoc, List.singleton_append]
set_option maxHeartbeats 2000000 in
/-- A printed game is read back. -/
theorem game_back {G : Gm} (hf : fineG G = true) {s : ByteArray} (hs : bs s = textG G) (hsz : s.size ≤ 32768) : (gmC (parseG s).1, (parseG s).2) = (gmC G, 0, 0) := by
  have hfine := hf
  unfold fineG at hf
  simp only [Bool.and_eq_true, Bool.or_eq_true, decide_eq_true_eq] at hf
  obtain ⟨⟨⟨hn, hk⟩, hd⟩, hi⟩ := hf
  have h09 : 0 ≤ G.n 9 := by
    unfold daysC at hd
    simp only [Bool.and_eq_true, decide_eq_true_eq] at hd
    omega
  rw [game_read (nm := G.name) (V := itemsG G) hs hsz hn hi (items_wok G) (items_days G h09) (keys_nodup G)]
  have hkk : (if (if G.n 0 = 1 then asc "choose" else asc "digits") = asc "digits" then (2 : Int) else 1) = G.n 0 := by
    rcases hk with h | h
    · rw [if_pos h, if_neg (by decide +kernel), h]
    · have h1 : ¬ G.n 0 = 1 := by omega
      rw [if_neg h1, if_pos rfl, h]
  have hF : ∃ N : Nat → Int, (itemsG G).foldl It.eff (gm0 G.name) = ⟨G.name, N, G.addons, G.tiers⟩ ∧ (∀ i, i < 19 → i ≠ 8 → N i = G.n i) ∧ (G.n 8 ≠ G.n 2 → N 8 = G.n 8) := by
    unfold itemsG optsI
    rw [headI_is]
    simp only [List.foldl_append, List.foldl_cons, List.foldl_nil]
    have e1 : It.eff (gm0 G.name) (.two (if G.n 0 = 1 then asc "choose" else asc "digits") (G.n 2) (G.n 3)) = ⟨G.name, putN (putN (putN (gm0 G.name).n 0 (G.n 0)) 2 (G.n 2)) 3 (G.n 3), [], []⟩ := by
      have hb : (if G.n 0 = 1 then asc "choose" else asc "digits") ≠ asc "bonus" := by
        by_cases h : G.n 0 = 1
        · rw [if_pos h]; decide +kernel
        · rw [if_neg h]; decide +kernel
      refine (if_neg hb).trans ?_
      rw [hkk]
      rfl
    rw [e1, bonus_eff _ _ (by simp [putN, gm0]) (by simp [putN, gm0])]
    rw [optI_eff (w := asc "extra") (i := 6) (by decide +kernel) _ _ _ (by simp [putN, gm0]), optI_eff (w := asc "price") (i := 1) (by decide +kernel) _ _ _ (by simp [putN, gm0]), optI_eff (w := asc "draws") (i := 7) (by decide +kernel) _ _ _ (by simp [putN, gm0])]
    have e8 : ∀ g : Gm, ∃ v, (optI (asc "system") (G.n 8) (G.n 2)).foldl It.eff g = { g with n := putN g.n 8 v } ∧ (G.n 8 ≠ G.n 2 → v = G.n 8) := fun g => by
      unfold optI
      by_cases h : G.n 8 = G.n 2
      · refine ⟨g.n 8, ?_, fun e => absurd h e⟩
        rw [if_pos h, List.foldl_nil]
        have : putN g.n 8 (g.n 8) = g.n := by
          funext j
          unfold putN
          by_cases hj : j = 8
          · rw [if_pos hj, hj]
          · rw [if_neg hj]
        rw [this]
      · refine ⟨G.n 8, ?_, fun _ => rfl⟩
        rw [if_neg h, List.foldl_cons, List.foldl_nil]
        have : simpleI (asc "system") = some 8 := by decide +kernel
        simp only [It.eff, this]
    obtain ⟨v, ev, hv⟩ := e8 { name := G.name, n := putN (putN (putN (putN (putN (putN (putN (putN (gm0 G.name).n 0 (G.n 0)) 2 (G.n 2)) 3 (G.n 3)) 4 (G.n 4)) 5 (G.n 5)) 6 (G.n 6)) 1 (G.n 1)) 7 (G.n 7), addons := [], tiers := [] }
    rw [ev, days_eff _ _ (by simp [putN, gm0]) (by simp [putN, gm0]) hd]
    rw [optI_eff (w := asc "close") (i := 11) (by decide +kernel) _ _ _ (by simp [putN, gm0]), optI_eff (w := asc "cancel") (i := 12) (by decide +kernel) _ _ _ (by simp [putN, gm0]), optI_eff (w := asc "expiry") (i := 13) (by decide +kernel) _ _ _ (by simp [putN, gm0]), optI_eff (w := asc "pool") (i := 14) (by decide +kernel) _ _ _ (by simp [putN, gm0]),
      optI_eff (w := asc "reserve") (i := 15) (by decide +kernel) _ _ _ (by simp [putN, gm0]), optI_eff (w := asc "round") (i := 16) (by decide +kernel) _ _ _ (by simp [putN, gm0]), optI_eff (w := asc "cap") (i := 17) (by decide +kernel) _ _ _ (by simp [putN, gm0]), optI_eff (w := asc "rolls") (i := 18) (by decide +kernel) _ _ _ (by simp [putN, gm0])]
    rw [addons_eff, tiers_eff]
    simp only [List.nil_append]
    refine ⟨_, rfl, fun i hi h8 => ?_, fun h => ?_⟩
    · have : i = 0 ∨ i = 1 ∨ i = 2 ∨ i = 3 ∨ i = 4 ∨ i = 5 ∨ i = 6 ∨ i = 7 ∨ i = 9 ∨ i = 10 ∨ i = 11 ∨ i = 12 ∨ i = 13 ∨ i = 14 ∨ i = 15 ∨ i = 16 ∨ i = 17 ∨ i = 18 := by omega
      rcases this with rfl | rfl | rfl | rfl | rfl | rfl | rfl | rfl | rfl | rfl | rfl | rfl | rfl | rfl | rfl | rfl | rfl | rfl <;> simp [putN]
    · rw [← hv h]; simp [putN]
  obtain ⟨N, eF, hN, h8⟩ := hF
  rw [eF]
  have hs2 := sys_mem G
  have hcut : ∀ N' : Nat → Int, (∀ i, i < 19 → N' i = G.n i) → gmC ⟨G.name, N', G.addons, G.tiers⟩ = gmC G := fun N' h => by
    unfold gmC
    simp only [Prod.mk.injEq, true_and, and_true]
    exact List.map_congr_left fun i hi => h i (List.mem_range.1 hi)
  by_cases h : G.n 8 = G.n 2
  · rw [if_neg (fun e => hs2.1 e h)]
    simp only [Prod.mk.injEq, and_true]
    refine hcut _ fun i hi => ?_
    unfold putN
    by_cases hi8 : i = 8
    · rw [if_pos hi8, hi8, h]; exact hN 2 (by decide) (by decide)
    · rw [if_neg hi8]; exact hN i hi hi8
  · rw [if_pos (hs2.2 h)]
    simp only [Prod.mk.injEq, and_true]
    refine hcut _ fun i hi => ?_
    by_cases hi8 : i = 8
    · rw [hi8]; exact h8 h
    · exact hN i hi hi8
end Go.Proofs.YtbdkggnajipdhaaGreatDoor
/- Plain: chapter 11, a printed text's bytes and length. No program in sight. -/
namespace Go.Proofs.YtbdkggnajipdhaaGreatDoor
theorem good_lt {k : Nat} {t : List Nat} (h : good k t) : ∀ c ∈ t, c < 256 := by
  intro c hc
  rcases h with ⟨_, _, h⟩ | ⟨_, _, h⟩ | ⟨_, d, rfl, h⟩
  · have := h c hc
    unfold wordB letterB digitB at this
    simp only [Bool.or_eq_true, Bool.and_eq_true, decide_eq_true_eq, beq_iff_eq] at this
    omega
  · have := h c hc
    unfold digitB at this
    simp only [Bool.and_eq_true, decide_eq_true_eq] at this
    omega
  · rw [List.mem_singleton] at hc
    subst hc
    unfold markB at h
    simp only [Bool.or_eq_true, beq_iff_eq] at h
    omega
theorem lineG_lt {i : It} (hf : i.fine = true) (hw : i.wok = true) : ∀ c ∈ lineG i, c < 256 := by
  obtain ⟨h1, h2⟩ := item_words hf hw
  intro c hc
  unfold lineG at hc
  rw [← h1] at hc
  rcases List.mem_cons.1 hc with rfl | hc
  · decide
  · rcases List.mem_append.1 hc with hc | hc
    · obtain ⟨w, hwm, hc⟩ := List.mem_flatMap.1 hc
      obtain ⟨x, hx, rfl⟩ := List.mem_map.1 hwm
      rcases List.mem_cons.1 hc with rfl | hc
      · decide
      · exact good_lt (h2 x hx) c hc
    · have : ∀ c ∈ asc ";\n", c < 256 := by decide +kernel
      exact this c hc
theorem textG_lt {G : Gm} (h : fineG G = true) : ∀ c ∈ textG G, c < 256 := by
  unfold fineG at h
  simp only [Bool.and_eq_true] at h
  have hi := h.2
  have hw := items_wok G
  rw [List.all_eq_true] at hi hw
  intro c hc
  unfold textG at hc
  simp only [List.mem_append, List.mem_cons] at hc
  have a1 : ∀ c ∈ asc "game", c < 256 := by decide +kernel
  have a2 : ∀ c ∈ asc " {\n", c < 256 := by decide +kernel
  have a3 : ∀ c ∈ asc "}\n", c < 256 := by decide +kernel
  rcases hc with (((hc | hc | hc) | hc) | hc) | hc
  · exact a1 c hc
  · omega
  · exact bs_lt _ c hc
  · exact a2 c hc
  · obtain ⟨i, him, hc⟩ := List.mem_flatMap.1 hc
    exact lineG_lt (hi i him) (hw i him) c hc
  · exact a3 c hc
theorem printG_lt (G : Gm) : ∀ c ∈ printG G, c < 256 := by
  rw [printG_is]
  by_cases h : fineG G = true ∧ (textG G).length ≤ 32768
  · rw [if_pos h]; exact textG_lt h.1
  · rw [if_neg h]; intro c hc; cases hc
theorem print_size (G : Gm) : (toBA (printG G)).size ≤ 32768 := by
  rw [← bs_len, bs_toBA (printG_lt G), printG_is]
  by_cases h : fineG G = true ∧ (textG G).length ≤ 32768
  · rw [if_pos h]; exact h.2
  · rw [if_neg h]; exact Nat.zero_le _
theorem print_back {G : Gm} (hne : printG G ≠ []) : (gmC (parseG (toBA (printG G))).1, (parseG (toBA (printG G))).2) = (gmC G, 0, 0) := by
  have hs := print_size G
  have hb := bs_toBA (printG_lt G)
  have hp := printG_is G
  by_cases h : fineG G = true ∧ (textG G).length ≤ 32768
  · rw [if_pos h] at hp
    exact game_back h.1 (by rw [hb, hp]) hs
  · rw [if_neg h] at hp
    exact absurd hp hne
end Go.Proofs.YtbdkggnajipdhaaGreatDoor
/- strings.Builder in short: what is written so far, as numbers. -/
namespace Go.Proofs.YtbdkggnajipdhaaGreatDoor
open Go.RowKit
set_option maxRecDepth 100000
def BldIn (b : Nat) (w : World) (X : List Nat) : Prop := Lib.IsBuilder 67 5 b b (byV X) w ∧ (∀ n ∈ X, n < 256)
theorem BldIn.fresh (w : World) : BldIn w.heap.size (w.alloc (.cells #[.pointer none, .slice none 0 0] 67)) [] := ⟨Lib.fresh_isBuilder _ _ _, fun n h => by cases h⟩
theorem BldIn.below {b : Nat} {w w' : World} {X : List Nat} (h : BldIn b w X) (hb : Below w.heap.size w w') : BldIn b w' X := ⟨isB_below h.1 hb, h.2⟩
theorem BldIn.drew {b : Nat} {w : World} {X : List Nat} (h : BldIn b w X) : BldIn b w.drew X := h
theorem BldIn.lt {b : Nat} {w : World} {X : List Nat} (h : BldIn b w X) : b < w.heap.size := by
  rcases h.1 with ⟨_, v, hb, _⟩ | ⟨_, v, hb, _⟩ <;> exact (Array.getElem?_eq_some_iff.1 hb).1
theorem BldIn.write {b : Nat} {w : World} {X : List Nat} (h : BldIn b w X) (s : ByteArray) (hl : X.length + s.size ≤ 1000000000) :
    Calls Tryz.prog 30 #[.pointer (some ⟨b, 0, none⟩), .string s] w fun e w' => e = .returned (.tuple #[.int .i64 s.size, .nilIface]) ∧ BldIn b w' (X ++ bs s) ∧ Below b w w' ∧ Keeps b w w' := by
  refine (writeString_any b b (byV X) s w h.1 (by rw [byV_len]; exact hl) (Nat.le_of_lt h.lt)).mono ?_
  rintro e w' ⟨h1, h2, h3, h4⟩
  refine ⟨h1, ⟨by rw [byV_app, ← strCells_bs]; exact h2, fun n hn => ?_⟩, h3, h4⟩
  rcases List.mem_append.1 hn with hn | hn
  · exact h.2 n hn
  · exact bs_lt s n hn
theorem BldIn.str {b : Nat} {w : World} {X : List Nat} (h : BldIn b w X) :
    Calls Tryz.prog 39 #[.pointer (some ⟨b, 0, none⟩)] w fun e w' => e = .returned (.string (toBA X)) ∧ Below b w w' := by
  have e1 : byV X = Lib.byteCells (toBA X).data.toList := by
    have h1 : Lib.strCells (toBA X) = byV X := by rw [strCells_bs, bs_toBA h.2]
    rw [← h1]
    rfl
  have h1 := h.1
  rw [e1] at h1
  refine (Tryz.Builder_String_any b b _ w h1 (Nat.le_of_lt h.lt)).mono ?_
  rintro e w' ⟨he, hb⟩
  exact ⟨he, hb⟩
end Go.Proofs.YtbdkggnajipdhaaGreatDoor
/- The engine's rules for strings.Join: cap, copy of nothing, slices of slices. No function of the program in sight. -/
namespace Go.Proofs.YtbdkggnajipdhaaGreatDoor
open Go.RowKit
set_option maxRecDepth 100000
section
variable {P : Program} {T e : TypeId} {w : World} {ty sz : Nat}
def vCap (P : Program) (T : TypeId) (ty : TypeId) (u : Value) (w : World) : Result Next := (do pure (.value (← Builtin.cap_ #[T] ty #[u])) : Sem Next).run P w
theorem r_cap (T : TypeId) (x : Operand) (σ : Sl) : run1 P (.call ⟨.builtin .cap, #[x], #[T]⟩) ty σ w = vCap P T ty (ev σ x) w := by simp [run1, execOp, resolve, invoke, builtin, vCap]
theorem vCap_slc (hd : P.underlying T = some (.slice e)) {a : Option Addr} {n c : Nat} : vCap P T ty (.slice a n c) w = .ok (.value (.int .i64 c)) w := by
  simp [vCap, Builtin.cap_, Sem.run_bind, run_underlying hd w, goInt]
def vCopy (P : Program) (T T2 ty : TypeId) (d s : Value) (w : World) : Result Next := (do pure (.value (← Builtin.copy_ #[T, T2] ty #[d, s])) : Sem Next).run P w
theorem r_copy (T2 : TypeId) (x y : Operand) (σ : Sl) : run1 P (.call ⟨.builtin .copy, #[x, y], #[T, T2]⟩) ty σ w = vCopy P T T2 ty (ev σ x) (ev σ y) w := by simp [run1, execOp, resolve, invoke, builtin, vCopy]
theorem vCopy_none {T2 : TypeId} {d a : Option Addr} {dLen dCap sLen sCap : Nat} (hd : P.underlying T = some (.slice e)) (hs : (P.info? e).map (·.size) = some 1) (hn : Nat.min sLen dLen = 0) :
    vCopy P T T2 ty (.slice d dLen dCap) (.slice a sLen sCap) w = .ok (.value (.int .i64 0)) w := by
  have := run_copy_none w T T2 ty e d a dLen dCap sLen sCap hd hs hn
  simp [vCopy, Sem.run_bind, this, goInt]
theorem bound_in {k : IntKind} {i : Int} {y : Nat} {code : BoundsCode} (h : 0 ≤ i) (h' : i ≤ y) : (Instr.sliceBound (.int k i) y code).run P w = .ok i.toNat w := by
  simp [Instr.sliceBound, asIntOf, h, h']
theorem vSlice_to {a : Option Addr} {n c : Nat} {k : IntKind} {h : Int} (hd : P.underlying T = some (.slice e)) (hs : (P.info? e).map (·.size) = some sz) (h0 : 0 ≤ h) (h1 : h ≤ c) :
    vSlice P T (.slice a n c) none (some (.int k h)) none w = .ok (.value (.slice (if c = 0 then a else a.map (·.add (0 * sz))) h.toNat c)) w := by
  obtain ⟨i, hq, hz⟩ := Option.map_eq_some_iff.1 hs
  simp [vSlice, Instr.sliceAt, Instr.slice, run_underlying hd, Instr.sliceBounds, bound_in h0 h1, sizeOf, typeInfo, hq, hz]
theorem vSlice_from {a : Option Addr} {n c : Nat} {k : IntKind} {l : Int} (hd : P.underlying T = some (.slice e)) (hs : (P.info? e).map (·.size) = some sz) (h0 : 0 ≤ l) (h1 : l ≤ n) :
    vSlice P T (.slice a n c) (some (.int k l)) none none w = .ok (.value (.slice (if c = l.toNat then a else a.map (·.add (l.toNat * sz))) (n - l.toNat) (c - l.toNat))) w := by
  obtain ⟨i, hq, hz⟩ := Option.map_eq_some_iff.1 hs
  simp [vSlice, Instr.sliceAt, Instr.slice, run_underlying hd, Instr.sliceBounds, bound_in h0 h1, sizeOf, typeInfo, hq, hz]
end
end Go.Proofs.YtbdkggnajipdhaaGreatDoor
/- Walks: strings.Builder's grow and Grow at a builder that has not been written; strings.Join. -/
namespace Go.Proofs.YtbdkggnajipdhaaGreatDoor
open Nat (reduceAdd reduceMul reduceSub reduceEqDiff reduceLT reduceLeDiff)
open Go.RowKit
set_option maxRecDepth 100000
/-- A builder without a byte, with room. -/
theorem grow_any (b : Nat) (n : Nat) (w : World) (hbk : w.heap[b]? = some (.cells #[.pointer (some ⟨b, 0, none⟩), .slice none 0 0] 67 (0, 0))) (hn : n ≤ 1000000000) : Calls Tryz.prog 90 #[.pointer (some ⟨b, 0, none⟩), .int .i64 n] w fun e w' => (∃ v, e = .returned v) ∧ BldIn b w' [] ∧ Below b w w' := by
  refine calls_W (l := [_, _]) Tryz.func90 rfl _ Tryz.ntmps90 (by simp) ?_
  have h : Row w b 67 [.pointer (some ⟨b, 0, none⟩), .slice none 0 0] := ⟨_, hbk, [], by simp⟩
  have c1 := h.cell (i := 1) rfl
  have hcp : ∀ {ty : TypeId} {w : World} {a : Option Addr} {n c : Nat}, vCap Tryz.prog 65 ty (.slice a n c) w = .ok (.value (.int .i64 c)) w := fun {_ _ _ _ _} => vCap_slc Tryz.underlying65
  have hln : ∀ {w : World} {k n c : Nat}, vSlice Tryz.prog 65 (.slice (some ⟨k, 0, none⟩) n c) none (some (.int .i64 ((0 : Nat) : Int))) none w = .ok (.value (.slice (some ⟨k, 0, none⟩) 0 c)) w := fun {w k n c} => by
    rw [vSlice_to Tryz.underlying65 (sz := 1) (by kernel_rfl) (by omega) (by omega)]
    split <;> rfl
  have hcy : ∀ {ty : TypeId} {w : World} {d a : Option Addr} {m c c2 : Nat}, vCopy Tryz.prog 65 65 ty (.slice d m c) (.slice a 0 c2) w = .ok (.value (.int .i64 0)) w := fun {_ _ _ _ _ _ _} => vCopy_none Tryz.underlying65 (by kernel_rfl) (Nat.zero_min _)
  simp +contextual (maxSteps := 2000000) (disch := first | omega | (simp only [SZ]; first | done | omega) | (simp only [TS] at *; omega)) only [RZ, ovw, oneC, reduceAdd, reduceMul, reduceSub, reduceEqDiff, reduceLT, ↓reduceIte, Int.reduceToNat, reduceLeDiff]
  refine Raw_ord (fun w' => w'.cell? ⟨b, 1, none⟩ = some (.slice none 0 0)) 16 rfl MX ?_
  refine Ord_reads (τ := ?ta) [0, 1, 2, 3, 4, 5, 6, 7, 9, 10, 11, 12, 13] 3 rfl (by kernel_rfl) (by kernel_rfl) (fun _ _ _ h => h) c1 ?va ?_
  case va =>
    intro w7 h7
    simp only [opsL_cons, opsL_nil, List.getElem?_toArray, List.getElem?_cons_zero, List.getElem?_cons_succ, optL_some]
    simp +contextual (maxSteps := 2000000) (disch := first | omega | (simp only [SZ]; first | done | omega) | (simp only [TS] at *; omega)) only [RZ, ovw, oneC, reduceAdd, reduceMul, reduceSub, reduceEqDiff, reduceLT, ↓reduceIte, Int.reduceToNat, reduceLeDiff,  h7, r_cap, hcp]
    exact rfl
  obtain ⟨cs, hrun, hle, hmax⟩ := Lib.run_makeNoZero (P := Tryz.prog) w.drew #[3] 65 5 Tryz.underlying65 n (by omega)
  have cl : vCall Tryz.prog 126 #[.int .i64 n] w.drew = .ok (.value (.slice (some ⟨w.drew.heap.size, 0, none⟩) n cs.size)) (w.drew.drew.drew.alloc (.cells cs 5)) := by
    unfold vCall
    rw [run_callFunc_extern Tryz.func126 (by kernel_rfl) (by kernel_rfl) (by kernel_rfl) (e := Extern.BytealgMakeNoZero.makeNoZero #[3] #[65]) (by kernel_rfl), hrun]
    rfl
  rw [vCall_at] at cl
  refine Ord_one 8 (by kernel_rfl) rfl ?_
  have ea : ((2 : Int) * ((0 : Nat) : Int) + (n : Int)) = n := by simp
  have hbl := h.lt
  have rD : Row w.drew b 67 _ := h.kept (X := []) (Kept.refl [] w).drew (by simp)
  have rA : Row (w.drew.drew.drew.alloc (.cells cs 5)) b 67 [.pointer (some ⟨b, 0, none⟩), .slice none 0 0] := ((h.kept (X := []) ((Kept.refl [] w).drew.drew.drew) (by simp))).alloc _
  have eh : w.drew.drew.drew.heap.size = w.heap.size := rfl
  have ed : w.drew.heap.size = w.heap.size := rfl
  have ca := rA.cell (i := 1) rfl
  have cz := rA.frozen 1
  simp +contextual (maxSteps := 2000000) (disch := first | omega | (simp only [SZ]; first | done | omega) | (simp only [TS] at *; omega)) only [RZ, ovw, oneC, reduceAdd, reduceMul, reduceSub, reduceEqDiff, reduceLT, ↓reduceIte, Int.reduceToNat, reduceLeDiff,  ea, cl]
  refine ⟨c1, ?_⟩
  refine Ord_chainS _ [14, 15] _ _ _ (by kernel_rfl) ?_
  simp only [opsL_cons, opsL_nil, List.getElem?_toArray, List.getElem?_cons_zero, List.getElem?_cons_succ, optL_some]
  have ca : (w.alloc (.cells cs 5)).cell? ⟨b, 1, none⟩ = _ := ca
  have cz : (w.alloc (.cells cs 5)).frozen? ⟨b, 1, none⟩ = _ := cz
  simp +contextual (maxSteps := 2000000) (disch := first | omega | (simp only [SZ]; first | done | omega) | (simp only [TS] at *; omega)) only [RZ, ovw, oneC, reduceAdd, reduceMul, reduceSub, reduceEqDiff, reduceLT, ↓reduceIte, Int.reduceToNat, reduceLeDiff,  EC_op, EC_nil, hln, c1, ca, cz, r_copy, hcy]
  have hbl := h.lt
  have hb1 : (w.setCell ⟨b, 1, none⟩ (.slice (some ⟨w.heap.size, 0, none⟩) 0 cs.size)).heap[b]? = some (.cells #[.pointer (some ⟨b, 0, none⟩), .slice (some ⟨w.heap.size, 0, none⟩) 0 cs.size] 67 (0, 0)) := by
    simp [World.setCell, Array.getElem?_modify, hbk]
  have hz : (w.setCell ⟨b, 1, none⟩ (.slice (some ⟨w.heap.size, 0, none⟩) 0 cs.size)).heap.size = w.heap.size := World.size_setCell _ _ _
  have kB : Below b w ((w.setCell ⟨b, 1, none⟩ (.slice (some ⟨w.heap.size, 0, none⟩) 0 cs.size)).alloc (.cells cs 5)) := ((Below.refl b w).setCell (p := ⟨b, 1, none⟩) (Nat.le_refl _) _).trans ((below_alloc _ _).mono (by omega))
  generalize hw1 : w.setCell ⟨b, 1, none⟩ (.slice (some ⟨w.heap.size, 0, none⟩) 0 cs.size) = w1 at *
  have hb2 : (w1.alloc (.cells cs 5)).heap[b]? = _ := (Lib.alloc_old w1 _ b (by omega)).trans hb1
  have hown : (w1.alloc (.cells cs 5)).ownsRow b 5 1 (.slice (some ⟨w.heap.size, 0, none⟩) 0 cs.size) 0 [] :=
    ⟨rfl, .inr ⟨w.heap.size, cs.size, cs, rfl, Nat.le_of_lt hbl, by rw [← hz]; exact heap_alloc_new w1 _, Nat.zero_le _, hmax (by unfold maxLen; omega), (Nat.mul_one _).symm, rfl⟩⟩
  refine ⟨⟨_, rfl⟩, ⟨.inr ⟨Nat.le_refl _, _, hb2, hown, by simp [Value.ownBlock]; omega⟩, fun n h => by cases h⟩, ?_⟩
  exact ⟨kB.os, kB.tape, kB.output, kB.size, kB.block⟩
theorem copyCheck_fresh (b : Nat) (w : World) (hbk : w.heap[b]? = some (.cells #[.pointer none, .slice none 0 0] 67 (0, 0))) :
    Calls Tryz.prog 71 #[.pointer (some ⟨b, 0, none⟩)] w fun e w' => e = .returned (.tuple #[]) ∧ w' = w.setCell ⟨b, 0, none⟩ (.pointer (some ⟨b, 0, none⟩)) := by
  refine calls_W (l := [_]) Tryz.func71 rfl _ Tryz.ntmps71 (by simp) ?_
  obtain ⟨j, hj, hjs⟩ := Option.map_eq_some_iff.1 (show (Tryz.prog.info? 67).map (·.size) = some 2 by kernel_rfl)
  have ne : ∀ (x y : Operand) (w : World), vBin Tryz.prog .neq 64 x y (.pointer (some ⟨b, 0, none⟩)) (.pointer (some ⟨b, 0, none⟩)) w = .ok (.value (.bool false)) w := fun x y w => by
    simp only [vBin, eqGuard]
    simp [Lib.run_neq_ptr_same w _ Tryz.underlying64 hj]
  have h : Row w b 67 [.pointer none, .slice none 0 0] := ⟨_, hbk, [], by simp⟩
  have hsh : w.shape? b = some (67, 2) := by simp [World.shape?, hbk]
  have c0 := h.cell (i := 0) rfl
  have z0 := h.frozen 0
  have cs : (w.setCell ⟨b, 0, none⟩ (.pointer (some ⟨b, 0, none⟩))).cell? ⟨b, 0, none⟩ = some (.pointer (some ⟨b, 0, none⟩)) := by rw [cS_same, c0]; rfl
  have cv1 : vConvert Tryz.prog 64 125 (.pointer (some ⟨b, 0, none⟩)) w = .ok (.value (.pointer (some ⟨b, 0, none⟩))) w := by
    simp [vConvert, Lib.run_to_unsafe w ⟨b, 0, none⟩ Tryz.underlying64 Tryz.underlying125 hj (by rw [hjs]; decide) hsh (Nat.zero_lt_succ 1)]
  have cv2 : vConvert Tryz.prog 125 64 (.pointer (some ⟨b, 0, none⟩)) w = .ok (.value (.pointer (some ⟨b, 0, none⟩))) w := by
    simp [vConvert, Lib.run_from_unsafe w ⟨b, 0, none⟩ Tryz.underlying125 Tryz.underlying64 hj hsh (by kernel_rfl)]
  have cl : vCall Tryz.prog 119 #[.pointer (some ⟨b, 0, none⟩)] w = .ok (.value (.pointer (some ⟨b, 0, none⟩))) w := by
    unfold vCall
    rw [run_callFunc_extern Tryz.func119 (by kernel_rfl) (by kernel_rfl) (by kernel_rfl) (e := Extern.AbiNoEscape.same) (by kernel_rfl), Lib.run_noEscape]
    rfl
  rw [vCall_at] at cl
  simp +contextual (maxSteps := 2000000) (disch := first | omega | (simp only [SZ]; first | done | omega) | (simp only [TS] at *; omega)) only [RZ, ovw, oneC, reduceAdd, reduceMul, reduceSub, reduceEqDiff, reduceLT, ↓reduceIte, Int.reduceToNat, reduceLeDiff,  c0]
  refine W_if_t rfl ?_
  simp +contextual (maxSteps := 2000000) (disch := first | omega | (simp only [SZ]; first | done | omega) | (simp only [TS] at *; omega)) only [RZ, ovw, oneC, reduceAdd, reduceMul, reduceSub, reduceEqDiff, reduceLT, ↓reduceIte, Int.reduceToNat, reduceLeDiff,  c0, z0, cv1, cv2, cl, cs, ne]
theorem Grow_any (b n : Nat) (w : World) (hbk : w.heap[b]? = some (.cells #[.pointer none, .slice none 0 0] 67 (0, 0))) (hn : n ≤ 1000000000) : Calls Tryz.prog 49 #[.pointer (some ⟨b, 0, none⟩), .int .i64 n] w fun e w' => (∃ v, e = .returned v) ∧ BldIn b w' [] ∧ Below b w w' := by
  refine calls_W (l := [_, _]) Tryz.func49 rfl _ Tryz.ntmps49 (by simp) ?_
  have hcp : ∀ {ty : TypeId} {w : World} {a : Option Addr} {n c : Nat}, vCap Tryz.prog 65 ty (.slice a n c) w = .ok (.value (.int .i64 c)) w := fun {_ _ _ _ _} => vCap_slc Tryz.underlying65
  simp +contextual (maxSteps := 2000000) (disch := first | omega | (simp only [SZ]; first | done | omega) | (simp only [TS] at *; omega)) only [RZ, ovw, oneC, reduceAdd, reduceMul, reduceSub, reduceEqDiff, reduceLT, ↓reduceIte, Int.reduceToNat, reduceLeDiff]
  refine (copyCheck_fresh b w hbk).mono ?_
  rintro e w1 ⟨rfl, hw1⟩
  refine ⟨_, rfl, ?_⟩
  have hb1 : w1.heap[b]? = some (.cells #[.pointer (some ⟨b, 0, none⟩), .slice none 0 0] 67 (0, 0)) := by
    rw [hw1]; simp [World.setCell, Array.getElem?_modify, hbk]
  have k1 : Below b w w1 := by rw [hw1]; exact (Below.refl b w).setCell (p := ⟨b, 0, none⟩) (Nat.le_refl _) _
  clear hw1
  have h1 : Row w1 b 67 [.pointer (some ⟨b, 0, none⟩), .slice none 0 0] := ⟨_, hb1, [], by simp⟩
  have e0 : decide ((n : Int) < 0) = false := decide_eq_false (by omega)
  have c1 : w1.drew.cell? _ = _ := h1.cell (i := 1) rfl
  have hbd : w1.drew.heap[b]? = _ := hb1
  have kd : Below b w w1.drew := ⟨k1.os, k1.tape, k1.output, k1.size, k1.block⟩
  try simp +contextual (maxSteps := 2000000) (disch := first | omega | (simp only [SZ]; first | done | omega) | (simp only [TS] at *; omega)) only [RZ, ovw, oneC, reduceAdd, reduceMul, reduceSub, reduceEqDiff, reduceLT, ↓reduceIte, Int.reduceToNat, reduceLeDiff,  e0]
  refine W_if_f rfl ?_
  simp +contextual (maxSteps := 2000000) (disch := first | omega | (simp only [SZ]; first | done | omega) | (simp only [TS] at *; omega)) only [RZ, ovw, oneC, reduceAdd, reduceMul, reduceSub, reduceEqDiff, reduceLT, ↓reduceIte, Int.reduceToNat, reduceLeDiff]
  refine Raw_still MX (by kernel_rfl) ?_
  generalize w1.drew = w2 at *
  simp +contextual (maxSteps := 2000000) (disch := first | omega | (simp only [SZ]; first | done | omega) | (simp only [TS] at *; omega)) only [RZ, ovw, oneC, reduceAdd, reduceMul, reduceSub, reduceEqDiff, reduceLT, ↓reduceIte, Int.reduceToNat, reduceLeDiff,  c1, r_cap, hcp]
  by_cases hn0 : 0 < n
  · have e1 : decide (((0 : Nat) : Int) - ((0 : Nat) : Int) < (n : Int)) = true := decide_eq_true (by simp; omega)
    refine W_if_t (by simp +contextual (maxSteps := 2000000) (disch := first | omega | (simp only [SZ]; first | done | omega) | (simp only [TS] at *; omega)) only [RZ, ovw, oneC, reduceAdd, reduceMul, reduceSub, reduceEqDiff, reduceLT, ↓reduceIte, Int.reduceToNat, reduceLeDiff,  e1]) ?_
    simp +contextual (maxSteps := 2000000) (disch := first | omega | (simp only [SZ]; first | done | omega) | (simp only [TS] at *; omega)) only [RZ, ovw, oneC, reduceAdd, reduceMul, reduceSub, reduceEqDiff, reduceLT, ↓reduceIte, Int.reduceToNat, reduceLeDiff]
    refine (grow_any b n w2 hbd hn).mono ?_
    rintro e w3 ⟨⟨v, rfl⟩, h3, k3⟩
    refine ⟨_, rfl, ?_⟩
    try simp +contextual (maxSteps := 2000000) (disch := first | omega | (simp only [SZ]; first | done | omega) | (simp only [TS] at *; omega)) only [RZ, ovw, oneC, reduceAdd, reduceMul, reduceSub, reduceEqDiff, reduceLT, ↓reduceIte, Int.reduceToNat, reduceLeDiff]
    exact ⟨⟨_, rfl⟩, h3, kd.trans k3⟩
  · have e1 : decide (((0 : Nat) : Int) - ((0 : Nat) : Int) < (n : Int)) = false := decide_eq_false (by simp; omega)
    refine W_if_f (by simp +contextual (maxSteps := 2000000) (disch := first | omega | (simp only [SZ]; first | done | omega) | (simp only [TS] at *; omega)) only [RZ, ovw, oneC, reduceAdd, reduceMul, reduceSub, reduceEqDiff, reduceLT, ↓reduceIte, Int.reduceToNat, reduceLeDiff,  e1]) ?_
    simp +contextual (maxSteps := 2000000) (disch := first | omega | (simp only [SZ]; first | done | omega) | (simp only [TS] at *; omega)) only [RZ, ovw, oneC, reduceAdd, reduceMul, reduceSub, reduceEqDiff, reduceLT, ↓reduceIte, Int.reduceToNat, reduceLeDiff]
    exact ⟨⟨_, rfl⟩, ⟨.inr ⟨Nat.le_refl _, .slice none 0 0, hbd, World.ownsRow_nil _ _ _ _, by simp [Value.ownBlock]⟩, fun n h => by cases h⟩, kd⟩
end Go.Proofs.YtbdkggnajipdhaaGreatDoor
/- Walk: strings.Join. -/
namespace Go.Proofs.YtbdkggnajipdhaaGreatDoor
open Nat (reduceAdd reduceMul reduceSub reduceEqDiff reduceLT reduceLeDiff)
open Go.RowKit
set_option maxRecDepth 100000
/-- Texts with a separator between them. -/
def joinS (sep : List Nat) : List ByteArray → List Nat
  | [] => []
  | x :: r => bs x ++ r.flatMap fun y => sep ++ bs y
def sizeS : List ByteArray → Nat
  | [] => 0
  | x :: r => x.size + sizeS r
theorem flatS_len (sep : List Nat) : ∀ r : List ByteArray, (r.flatMap fun y => sep ++ bs y).length = sep.length * r.length + sizeS r
  | [] => rfl
  | y :: r => by
    rw [List.flatMap_cons, List.length_append, List.length_append, flatS_len sep r, bs_len, sizeS, List.length_cons, Nat.mul_succ]
    omega
theorem joinS_len (sep : List Nat) (L : List ByteArray) : (joinS sep L).length = sep.length * (L.length - 1) + sizeS L := by
  cases L with
  | nil => rfl
  | cons x r =>
    rw [joinS, List.length_append, flatS_len, bs_len, sizeS, List.length_cons, Nat.add_sub_cancel]
    omega
theorem sizeS_take : ∀ (L : List ByteArray) (k : Nat) (x : ByteArray), L[k]? = some x → sizeS (L.take (k + 1)) = sizeS (L.take k) + x.size
  | [], k, x, h => by simp at h
  | y :: L, 0, x, h => by
    simp only [List.getElem?_cons_zero, Option.some.injEq] at h
    subst h
    simp [sizeS]
  | y :: L, k + 1, x, h => by
    rw [List.getElem?_cons_succ] at h
    rw [List.take_succ_cons, List.take_succ_cons, sizeS, sizeS, sizeS_take L k x h]
    omega
theorem sizeS_le : ∀ (L : List ByteArray) (k : Nat), sizeS (L.take k) ≤ sizeS L
  | [], k => by simp [sizeS]
  | y :: L, 0 => Nat.zero_le _
  | y :: L, k + 1 => by
    rw [List.take_succ_cons, sizeS, sizeS]
    have := sizeS_le L k
    omega
theorem joinS_take (sep : List Nat) (L : List ByteArray) {k : Nat} {x : ByteArray} (h : L[k + 1]? = some x) : joinS sep (L.take (k + 2)) = joinS sep (L.take (k + 1)) ++ sep ++ bs x := by
  cases L with
  | nil => simp at h
  | cons y r =>
    rw [List.getElem?_cons_succ] at h
    rw [List.take_succ_cons, List.take_succ_cons, joinS, joinS, List.take_add_one, h]
    simp
theorem joinS_lt (sep : ByteArray) : ∀ L : List ByteArray, ∀ c ∈ joinS (bs sep) L, c < 256
  | [], c, h => by cases h
  | x :: r, c, h => by
    rcases List.mem_append.1 h with h | h
    · exact bs_lt x c h
    · obtain ⟨y, _, h⟩ := List.mem_flatMap.1 h
      rcases List.mem_append.1 h with h | h
      · exact bs_lt sep c h
      · exact bs_lt y c h
theorem joinS_one (sep : List Nat) {L : List ByteArray} {x : ByteArray} (h : L.length = 1) (h0 : L[0]? = some x) : toBA (joinS sep L) = x := by
  match L, h, h0 with
  | [y], _, h0 =>
    simp only [List.getElem?_cons_zero, Option.some.injEq] at h0
    subst h0
    show toBA (bs y ++ []) = y
    rw [List.append_nil]
    exact bs_inj (bs_toBA (bs_lt y))
set_option maxHeartbeats 1000000 in
theorem sjoin_any (L : List ByteArray) (sep : ByteArray) (A : Option Addr) (c : Nat) (w : World) (hA : Arr w A 1 (L.map fun s => [Value.string s])) (hc : L.length ≤ c) (hN : L.length ≤ 1000000) (hs : sep.size ≤ 1000) (hl : (joinS (bs sep) L).length ≤ 1000000000) :
    Calls Tryz.prog 17 #[.slice A L.length c, .string sep] w fun e w' => e = .returned (.string (toBA (joinS (bs sep) L))) ∧ Below w.heap.size w w' := by
  refine calls_W (l := [_, _]) Tryz.func17 rfl _ Tryz.ntmps17 (by simp) ?_
  refine W_piece fun K hK hX => ?_
  simp +contextual (maxSteps := 2000000) (disch := first | omega | (simp only [SZ]; first | done | omega) | (simp only [TS] at *; omega)) only [RZ, ovw, oneC, reduceAdd, reduceMul, reduceSub, reduceEqDiff, reduceLT, ↓reduceIte, Int.reduceToNat, reduceLeDiff]
  refine hK _ _ ?_
  clear hK hX K
  refine W_pieceP (fun _ _ _ h => h) fun K hK hX hP => ?_
  refine W_piece fun K2 hK2 hX2 => ?_
  simp +contextual (maxSteps := 2000000) (disch := first | omega | (simp only [SZ]; first | done | omega) | (simp only [TS] at *; omega)) only [RZ, ovw, oneC, reduceAdd, reduceMul, reduceSub, reduceEqDiff, reduceLT, ↓reduceIte, Int.reduceToNat, reduceLeDiff]
  refine hK2 _ _ ?_
  clear hK2 hX2 K2
  rw [W_block]
  by_cases h0 : L.length = 0
  · have hn : L = [] := List.length_eq_zero_iff.1 h0
    subst hn
    simp +contextual (maxSteps := 2000000) (disch := first | omega | (simp only [SZ]; first | done | omega) | (simp only [TS] at *; omega)) only [RZ, ovw, oneC, reduceAdd, reduceMul, reduceSub, reduceEqDiff, reduceLT, ↓reduceIte, Int.reduceToNat, reduceLeDiff]
    refine W_if_t rfl ?_
    refine W_piece fun K2 hK2 hX2 => ?_
    simp +contextual (maxSteps := 2000000) (disch := first | omega | (simp only [SZ]; first | done | omega) | (simp only [TS] at *; omega)) only [RZ, ovw, oneC, reduceAdd, reduceMul, reduceSub, reduceEqDiff, reduceLT, ↓reduceIte, Int.reduceToNat, reduceLeDiff]
    refine hK2 _ _ ?_
    clear hK2 hX2 K2
    rw [W_ret]
    refine hX _ _ _ (fun h => by cases h) ?_
    simp +contextual (maxSteps := 2000000) (disch := first | omega | (simp only [SZ]; first | done | omega) | (simp only [TS] at *; omega)) only [RZ, ovw, oneC, reduceAdd, reduceMul, reduceSub, reduceEqDiff, reduceLT, ↓reduceIte, Int.reduceToNat, reduceLeDiff]
    exact ⟨rfl, Below.refl _ _⟩
  have e0 : ((L.length : Int) = 0) = False := eq_false (by omega)
  refine W_piece fun K2 hK2 hX2 => ?_
  simp +contextual (maxSteps := 2000000) (disch := first | omega | (simp only [SZ]; first | done | omega) | (simp only [TS] at *; omega)) only [RZ, ovw, oneC, reduceAdd, reduceMul, reduceSub, reduceEqDiff, reduceLT, ↓reduceIte, Int.reduceToNat, reduceLeDiff,  e0]
  refine hK2 _ _ ?_
  clear hK2 hX2 K2
  refine W_if_f rfl ?_
  obtain ⟨x0, hx0⟩ : ∃ x, L[0]? = some x := ⟨_, List.getElem?_eq_getElem (by omega)⟩
  obtain ⟨bA, o, rfl, hbA, _⟩ := hA.at_ hx0
  have hcell : ∀ (k : Nat) (x : ByteArray), L[k]? = some x → w.cell? ⟨bA, o + k, none⟩ = some (.string x) := fun k x hx => by
    obtain ⟨b', o', e', _, hc'⟩ := hA.at_ hx
    injection e' with e'
    injection e' with e' e''
    subst e' e''
    have := hc' 0 _ rfl
    rw [Nat.mul_one, Nat.add_zero] at this
    exact this
  by_cases h1 : L.length = 1
  · have e1 : ((L.length : Int) = 1) = True := eq_true (by omega)
    have l0 := hcell 0 x0 hx0
    rw [Nat.add_zero] at l0
    refine W_piece fun K2 hK2 hX2 => ?_
    simp +contextual (maxSteps := 2000000) (disch := first | omega | (simp only [SZ]; first | done | omega) | (simp only [TS] at *; omega)) only [RZ, ovw, oneC, reduceAdd, reduceMul, reduceSub, reduceEqDiff, reduceLT, ↓reduceIte, Int.reduceToNat, reduceLeDiff,  e1]
    refine hK2 _ _ ?_
    clear hK2 hX2 K2
    refine W_if_t rfl ?_
    refine W_piece fun K2 hK2 hX2 => ?_
    simp +contextual (maxSteps := 2000000) (disch := first | omega | (simp only [SZ]; first | done | omega) | (simp only [TS] at *; omega)) only [RZ, ovw, oneC, reduceAdd, reduceMul, reduceSub, reduceEqDiff, reduceLT, ↓reduceIte, Int.reduceToNat, reduceLeDiff,  l0]
    refine hK2 _ _ ?_
    clear hK2 hX2 K2
    rw [W_ret]
    refine hX _ _ _ (fun h => by cases h) ?_
    have hj := joinS_one (bs sep) h1 hx0
    rw [hj]
    simp +contextual (maxSteps := 2000000) (disch := first | omega | (simp only [SZ]; first | done | omega) | (simp only [TS] at *; omega)) only [RZ, ovw, oneC, reduceAdd, reduceMul, reduceSub, reduceEqDiff, reduceLT, ↓reduceIte, Int.reduceToNat, reduceLeDiff]
    exact Below.refl _ _
  have e1 : ((L.length : Int) = 1) = False := eq_false (by omega)
  refine W_piece fun K2 hK2 hX2 => ?_
  simp +contextual (maxSteps := 2000000) (disch := first | omega | (simp only [SZ]; first | done | omega) | (simp only [TS] at *; omega)) only [RZ, ovw, oneC, reduceAdd, reduceMul, reduceSub, reduceEqDiff, reduceLT, ↓reduceIte, Int.reduceToNat, reduceLeDiff,  e1]
  refine hK2 _ _ ?_
  clear hK2 hX2 K2
  refine W_if_f rfl ?_
  rw [W_skip]
  refine hK _ _ ?_
  clear hK hX hP K
  -- the length
  obtain ⟨m, hm⟩ : ∃ m : Nat, L.length = m + 1 := ⟨L.length - 1, by omega⟩
  have hjl := joinS_len (bs sep) L
  rw [bs_len, hm, Nat.add_sub_cancel] at hjl
  refine W_piece fun K hK hX => ?_
  simp +contextual (maxSteps := 2000000) (disch := first | omega | (simp only [SZ]; first | done | omega) | (simp only [TS] at *; omega)) only [RZ, ovw, oneC, reduceAdd, reduceMul, reduceSub, reduceEqDiff, reduceLT, ↓reduceIte, Int.reduceToNat, reduceLeDiff]
  refine hK _ _ ?_
  clear hK hX K
  have hcm : ((L.length : Int) - 1) = (m : Int) := by omega
  have hq : (sep.size : Int) < 9223372036854775807 / (m : Int) := by
    have h2 : sep.size < 9223372036854775807 / m := by
      have : sep.size + 1 ≤ 9223372036854775807 / m := by
        rw [Nat.le_div_iff_mul_le (by omega)]
        have : (sep.size + 1) * m ≤ 1001 * 1000000 := Nat.mul_le_mul (by omega) (by omega)
        omega
      omega
    have e : (9223372036854775807 : Int) / (m : Int) = ((9223372036854775807 / m : Nat) : Int) := IntWalk.up_div (x := 9223372036854775807) rfl rfl
    rw [e]
    generalize 9223372036854775807 / m = q at *
    omega
  have hmul : sep.size * m ≤ 1000 * 1000000 := Nat.mul_le_mul (by omega) (by omega)
  refine W_cutS (fun σ w2 => w2 = w ∧ σ 0 = .slice (some ⟨bA, o, none⟩) L.length c ∧ σ 1 = .string sep ∧ σ 5 = .int .i64 ((sep.size * m : Nat) : Int)) ?_ ?_
  rotate_left
  · by_cases hs0 : 0 < sep.size
    · have e2 : decide ((0 : Int) < (sep.size : Int)) = true := decide_eq_true (by omega)
      refine W_piece fun K2 hK2 hX2 => ?_
      simp +contextual (maxSteps := 2000000) (disch := first | omega | (simp only [SZ]; first | done | omega) | (simp only [TS] at *; omega)) only [RZ, ovw, oneC, reduceAdd, reduceMul, reduceSub, reduceEqDiff, reduceLT, ↓reduceIte, Int.reduceToNat, reduceLeDiff]
      refine hK2 _ _ ?_
      clear hK2 hX2 K2
      refine W_if_t (by simp +contextual (maxSteps := 2000000) (disch := first | omega | (simp only [SZ]; first | done | omega) | (simp only [TS] at *; omega)) only [RZ, ovw, oneC, reduceAdd, reduceMul, reduceSub, reduceEqDiff, reduceLT, ↓reduceIte, Int.reduceToNat, reduceLeDiff,  e2]) ?_
      refine W_piece fun K2 hK2 hX2 => ?_
      refine W_piece fun K3 hK3 hX3 => ?_
      simp +contextual (maxSteps := 2000000) (disch := first | omega | (simp only [SZ]; first | done | omega) | (simp only [TS] at *; omega)) only [RZ, ovw, oneC, reduceAdd, reduceMul, reduceSub, reduceEqDiff, reduceLT, ↓reduceIte, Int.reduceToNat, reduceLeDiff,  hcm]
      refine hK3 _ _ ?_
      clear hK3 hX3 K3
      have e3 : decide ((9223372036854775807 : Int) / (m : Int) ≤ (sep.size : Int)) = false := decide_eq_false (by generalize (9223372036854775807 : Int) / (m : Int) = q at *; omega)
      refine W_if_f (by simp +contextual (maxSteps := 2000000) (disch := first | omega | (simp only [SZ]; first | done | omega) | (simp only [TS] at *; omega)) only [RZ, ovw, oneC, reduceAdd, reduceMul, reduceSub, reduceEqDiff, reduceLT, ↓reduceIte, Int.reduceToNat, reduceLeDiff,  e3]) ?_
      rw [W_skip]
      refine hK2 _ _ ?_
      clear hK2 hX2 K2
      have hp : (sep.size : Int) * (m : Int) = ((sep.size * m : Nat) : Int) := (Int.natCast_mul _ _).symm
      have hp0 : 0 ≤ (sep.size : Int) * (m : Int) := by rw [hp]; omega
      have hp1 : (sep.size : Int) * (m : Int) ≤ 1000000000 := by rw [hp]; omega
      simp +contextual (maxSteps := 2000000) (disch := first | omega | (simp only [SZ]; first | done | omega) | (simp only [TS] at *; omega)) only [RZ, ovw, oneC, reduceAdd, reduceMul, reduceSub, reduceEqDiff, reduceLT, ↓reduceIte, Int.reduceToNat, reduceLeDiff,  hcm]
      rw [← hp]
      congr 1
      omega
    · have e2 : decide ((0 : Int) < (sep.size : Int)) = false := decide_eq_false (by omega)
      refine W_piece fun K2 hK2 hX2 => ?_
      simp +contextual (maxSteps := 2000000) (disch := first | omega | (simp only [SZ]; first | done | omega) | (simp only [TS] at *; omega)) only [RZ, ovw, oneC, reduceAdd, reduceMul, reduceSub, reduceEqDiff, reduceLT, ↓reduceIte, Int.reduceToNat, reduceLeDiff]
      refine hK2 _ _ ?_
      clear hK2 hX2 K2
      refine W_if_f (by simp +contextual (maxSteps := 2000000) (disch := first | omega | (simp only [SZ]; first | done | omega) | (simp only [TS] at *; omega)) only [RZ, ovw, oneC, reduceAdd, reduceMul, reduceSub, reduceEqDiff, reduceLT, ↓reduceIte, Int.reduceToNat, reduceLeDiff,  e2]) ?_
      simp +contextual (maxSteps := 2000000) (disch := first | omega | (simp only [SZ]; first | done | omega) | (simp only [TS] at *; omega)) only [RZ, ovw, oneC, reduceAdd, reduceMul, reduceSub, reduceEqDiff, reduceLT, ↓reduceIte, Int.reduceToNat, reduceLeDiff]
      rw [show sep.size = 0 by omega, Nat.zero_mul]
      rfl
  clear hq hjl
  have hjl := joinS_len (bs sep) L
  rw [bs_len, hm, Nat.add_sub_cancel] at hjl
  rintro σ w2 ⟨rfl, f0, f1, f5⟩
  -- the sum of the lengths
  refine W_cutS (fun σ w3 => w3 = w2 ∧ σ 0 = .slice (some ⟨bA, o, none⟩) L.length c ∧ σ 1 = .string sep ∧ σ 5 = .int .i64 ((sep.size * m + sizeS L : Nat) : Int)) ?_ ?_
  rotate_left
  · refine W_piece fun K2 hK2 hX2 => ?_
    simp +contextual (maxSteps := 2000000) (disch := first | omega | (simp only [SZ]; first | done | omega) | (simp only [TS] at *; omega)) only [RZ, ovw, oneC, reduceAdd, reduceMul, reduceSub, reduceEqDiff, reduceLT, ↓reduceIte, Int.reduceToNat, reduceLeDiff,  f0]
    refine hK2 _ _ ?_
    clear hK2 hX2 K2
    simp +contextual (maxSteps := 2000000) (disch := first | omega | (simp only [SZ]; first | done | omega) | (simp only [TS] at *; omega)) only [RZ, ovw, oneC, reduceAdd, reduceMul, reduceSub, reduceEqDiff, reduceLT, ↓reduceIte, Int.reduceToNat, reduceLeDiff]
    refine Raw_loop (fun σ w3 => w3 = w2 ∧ ∃ k : Nat, k ≤ L.length ∧ σ 0 = .slice (some ⟨bA, o, none⟩) L.length c ∧ σ 1 = .string sep ∧ σ 5 = .int .i64 ((sep.size * m + sizeS (L.take k) : Nat) : Int) ∧ σ 39 = .slice (some ⟨bA, o, none⟩) L.length c ∧ σ 40 = .int .i64 L.length ∧ σ 41 = .int .i64 k) (fun σ _ => L.length - (intOf (σ 41)).toNat) ?_ ?_
    · simp +contextual (maxSteps := 2000000) (disch := first | omega | (simp only [SZ]; first | done | omega) | (simp only [TS] at *; omega)) only [RZ, ovw, oneC, reduceAdd, reduceMul, reduceSub, reduceEqDiff, reduceLT, ↓reduceIte, Int.reduceToNat, reduceLeDiff,  f0, f1, f5]
      exact ⟨0, Nat.zero_le _, rfl, rfl⟩
    rintro σ w3 ⟨rfl, k, hk, f0, f1, f5, f39, f40, f41⟩ K hK
    have hle := sizeS_le L k
    generalize hmm : sep.size * m = M at *
    by_cases hkl : k < L.length
    · have e2 : ((k : Int) < (L.length : Int)) = True := eq_true (by omega)
      obtain ⟨x, hx⟩ : ∃ x, L[k]? = some x := ⟨_, List.getElem?_eq_getElem hkl⟩
      have hst := sizeS_take L k x hx
      have hle2 := sizeS_le L (k + 1)
      have lk := hcell k x hx
      have e3 : ((9223372036854775807 : Int) - ((M + sizeS (L.take k) : Nat) : Int) < (x.size : Int)) = False := eq_false (by omega)
      simp +contextual (maxSteps := 2000000) (disch := first | omega | (simp only [SZ]; first | done | omega) | (simp only [TS] at *; omega)) only [RZ, ovw, oneC, reduceAdd, reduceMul, reduceSub, reduceEqDiff, reduceLT, ↓reduceIte, Int.reduceToNat, reduceLeDiff,  f39, f40, f41, e2]
      refine W_if_t rfl ?_
      rw [W_skip]
      simp +contextual (maxSteps := 2000000) (disch := first | omega | (simp only [SZ]; first | done | omega) | (simp only [TS] at *; omega)) only [RZ, ovw, oneC, reduceAdd, reduceMul, reduceSub, reduceEqDiff, reduceLT, ↓reduceIte, Int.reduceToNat, reduceLeDiff,  f0, f1, f5, f39, f41, lk, e3]
      refine W_if_f rfl ?_
      simp +contextual (maxSteps := 2000000) (disch := first | omega | (simp only [SZ]; first | done | omega) | (simp only [TS] at *; omega)) only [RZ, ovw, oneC, reduceAdd, reduceMul, reduceSub, reduceEqDiff, reduceLT, ↓reduceIte, Int.reduceToNat, reduceLeDiff,  f5, f41]
      refine hK _ _ ⟨rfl, k + 1, by omega, ?_⟩ ?_
      · simp +contextual (maxSteps := 2000000) (disch := first | omega | (simp only [SZ]; first | done | omega) | (simp only [TS] at *; omega)) only [RZ, ovw, oneC, reduceAdd, reduceMul, reduceSub, reduceEqDiff, reduceLT, ↓reduceIte, Int.reduceToNat, reduceLeDiff,  f0, f1, f39, f40]
        rw [hst]
        congr 1
        omega
      · simp +contextual (maxSteps := 2000000) (disch := first | omega | (simp only [SZ]; first | done | omega) | (simp only [TS] at *; omega)) only [RZ, ovw, oneC, reduceAdd, reduceMul, reduceSub, reduceEqDiff, reduceLT, ↓reduceIte, Int.reduceToNat, reduceLeDiff,  intOf, f41]
        omega
    · have e2 : ((k : Int) < (L.length : Int)) = False := eq_false (by omega)
      have hkk : L.take k = L := List.take_of_length_le (by omega)
      rw [hkk] at f5
      simp +contextual (maxSteps := 2000000) (disch := first | omega | (simp only [SZ]; first | done | omega) | (simp only [TS] at *; omega)) only [RZ, ovw, oneC, reduceAdd, reduceMul, reduceSub, reduceEqDiff, reduceLT, ↓reduceIte, Int.reduceToNat, reduceLeDiff,  f39, f40, f41, e2]
      refine W_if_f rfl ?_
      simp +contextual (maxSteps := 2000000) (disch := first | omega | (simp only [SZ]; first | done | omega) | (simp only [TS] at *; omega)) only [RZ, ovw, oneC, reduceAdd, reduceMul, reduceSub, reduceEqDiff, reduceLT, ↓reduceIte, Int.reduceToNat, reduceLeDiff,  f0, f1, f5]
  clear f0 f1 f5 σ
  rintro σ w2 ⟨rfl, f0, f1, f5⟩
  have hbl : bA < w2.heap.size := hbA
  have hszn : sep.size * m + sizeS L ≤ 1000000000 := by omega
  generalize hnn : sep.size * m + sizeS L = n at *
  refine W_piece fun K hK hX => ?_
  simp +contextual (maxSteps := 2000000) (disch := first | omega | (simp only [SZ]; first | done | omega) | (simp only [TS] at *; omega)) only [RZ, ovw, oneC, reduceAdd, reduceMul, reduceSub, reduceEqDiff, reduceLT, ↓reduceIte, Int.reduceToNat, reduceLeDiff,  f0, f1, f5]
  have hbk := heap_alloc_new w2 (.cells #[.pointer none, .slice none 0 0] 67)
  have hB3 := below_alloc w2 (.cells #[.pointer none, .slice none 0 0] 67)
  refine hK _ _ ?_
  clear hK hX K
  generalize w2.alloc (.cells #[.pointer none, .slice none 0 0] 67) = w3 at *
  refine W_piece fun K hK hX => ?_
  simp +contextual (maxSteps := 2000000) (disch := first | omega | (simp only [SZ]; first | done | omega) | (simp only [TS] at *; omega)) only [RZ, ovw, oneC, reduceAdd, reduceMul, reduceSub, reduceEqDiff, reduceLT, ↓reduceIte, Int.reduceToNat, reduceLeDiff,  f5]
  refine (Grow_any w2.heap.size n w3 hbk hszn).mono ?_
  rintro e w4 ⟨⟨v, rfl⟩, h4, hB4⟩
  refine ⟨_, rfl, ?_⟩
  have hF4 := hB3.trans hB4
  try simp +contextual (maxSteps := 2000000) (disch := first | omega | (simp only [SZ]; first | done | omega) | (simp only [TS] at *; omega)) only [RZ, ovw, oneC, reduceAdd, reduceMul, reduceSub, reduceEqDiff, reduceLT, ↓reduceIte, Int.reduceToNat, reduceLeDiff]
  refine hK _ _ ?_
  clear hK hX K hbk
  have lcell : ∀ (w' : World), Below w2.heap.size w2 w' → ∀ (k : Nat) (x : ByteArray), L[k]? = some x → w'.cell? ⟨bA, o + k, none⟩ = some (.string x) := fun w' hB k x hx => ((bcell hB).1 _ _ hbl).trans (hcell k x hx)
  have l0 := lcell w4 hF4 0 x0 hx0
  rw [Nat.add_zero] at l0
  have htk : ∀ k, (joinS (bs sep) (L.take k)).length ≤ 1000000000 := fun k => by
    rw [joinS_len, bs_len]
    have h1 := sizeS_le L k
    have h2 : sep.size * ((L.take k).length - 1) ≤ sep.size * m := Nat.mul_le_mul_left _ (by rw [List.length_take]; omega)
    omega
  refine W_piece fun K hK hX => ?_
  simp +contextual (maxSteps := 2000000) (disch := first | omega | (simp only [SZ]; first | done | omega) | (simp only [TS] at *; omega)) only [RZ, ovw, oneC, reduceAdd, reduceMul, reduceSub, reduceEqDiff, reduceLT, ↓reduceIte, Int.reduceToNat, reduceLeDiff,  f0, l0]
  have hx0l := htk 1
  have ht1 : joinS (bs sep) (L.take 1) = bs x0 := by
    rw [List.take_add_one, hx0]
    simp [joinS]
  rw [ht1, bs_len] at hx0l
  refine (h4.write x0 (by rw [List.length_nil]; omega)).mono ?_
  rintro e w5 ⟨rfl, h5, hB5, _⟩
  refine ⟨_, rfl, ?_⟩
  rw [List.nil_append, ← ht1] at h5
  have hF5 := hF4.trans hB5
  try simp +contextual (maxSteps := 2000000) (disch := first | omega | (simp only [SZ]; first | done | omega) | (simp only [TS] at *; omega)) only [RZ, ovw, oneC, reduceAdd, reduceMul, reduceSub, reduceEqDiff, reduceLT, ↓reduceIte, Int.reduceToNat, reduceLeDiff]
  refine hK _ _ ?_
  clear hK hX K
  have hsl : vSlice Tryz.prog 35 (.slice (some ⟨bA, o, none⟩) L.length c) (some (.int .i64 1)) none none w5 = .ok (.value (.slice (some ⟨bA, o + 1, none⟩) m (c - 1))) w5 := by
    rw [vSlice_from Tryz.underlying35 (sz := 1) (by kernel_rfl) (by omega) (by omega)]
    rw [if_neg (by simp; omega), hm]
    rfl
  refine W_cutS (fun σ w6 => Below w2.heap.size w2 w6 ∧ BldIn w2.heap.size w6 (joinS (bs sep) L) ∧ σ 8 = .pointer (some ⟨w2.heap.size, 0, none⟩)) ?_ ?_
  rotate_left
  · refine W_piece fun K2 hK2 hX2 => ?_
    simp +contextual (maxSteps := 2000000) (disch := first | omega | (simp only [SZ]; first | done | omega) | (simp only [TS] at *; omega)) only [RZ, ovw, oneC, reduceAdd, reduceMul, reduceSub, reduceEqDiff, reduceLT, ↓reduceIte, Int.reduceToNat, reduceLeDiff,  f0, hsl]
    refine hK2 _ _ ?_
    clear hK2 hX2 K2
    simp +contextual (maxSteps := 2000000) (disch := first | omega | (simp only [SZ]; first | done | omega) | (simp only [TS] at *; omega)) only [RZ, ovw, oneC, reduceAdd, reduceMul, reduceSub, reduceEqDiff, reduceLT, ↓reduceIte, Int.reduceToNat, reduceLeDiff]
    refine Raw_loop (fun σ w6 => Below w2.heap.size w2 w6 ∧ ∃ k : Nat, k ≤ m ∧ BldIn w2.heap.size w6 (joinS (bs sep) (L.take (k + 1))) ∧ σ 1 = .string sep ∧ σ 8 = .pointer (some ⟨w2.heap.size, 0, none⟩) ∧ σ 63 = .slice (some ⟨bA, o + 1, none⟩) m (c - 1) ∧ σ 64 = .int .i64 m ∧ σ 65 = .int .i64 k) (fun σ _ => m - (intOf (σ 65)).toNat) ?_ ?_
    · simp +contextual (maxSteps := 2000000) (disch := first | omega | (simp only [SZ]; first | done | omega) | (simp only [TS] at *; omega)) only [RZ, ovw, oneC, reduceAdd, reduceMul, reduceSub, reduceEqDiff, reduceLT, ↓reduceIte, Int.reduceToNat, reduceLeDiff,  f1]
      exact ⟨hF5, 0, Nat.zero_le _, h5, rfl⟩
    rintro σ w6 ⟨hF6, k, hk, h6, f1, f8, f63, f64, f65⟩ K hK
    by_cases hkm : k < m
    · have e2 : ((k : Int) < (m : Int)) = True := eq_true (by omega)
      obtain ⟨x, hx⟩ : ∃ x, L[k + 1]? = some x := ⟨_, List.getElem?_eq_getElem (by omega)⟩
      have lk := lcell w6 hF6 (k + 1) x hx
      rw [show o + (k + 1) = o + 1 + k by omega] at lk
      have hjt := joinS_take (bs sep) L hx
      have hl2 := htk (k + 2)
      rw [hjt, List.length_append, List.length_append, bs_len, bs_len] at hl2
      simp +contextual (maxSteps := 2000000) (disch := first | omega | (simp only [SZ]; first | done | omega) | (simp only [TS] at *; omega)) only [RZ, ovw, oneC, reduceAdd, reduceMul, reduceSub, reduceEqDiff, reduceLT, ↓reduceIte, Int.reduceToNat, reduceLeDiff,  f63, f64, f65, e2]
      refine W_if_t rfl ?_
      rw [W_skip]
      simp +contextual (maxSteps := 2000000) (disch := first | omega | (simp only [SZ]; first | done | omega) | (simp only [TS] at *; omega)) only [RZ, ovw, oneC, reduceAdd, reduceMul, reduceSub, reduceEqDiff, reduceLT, ↓reduceIte, Int.reduceToNat, reduceLeDiff,  f1, f8, f63, f65, lk]
      refine (h6.write sep (by omega)).mono ?_
      rintro e w7 ⟨rfl, h7, hB7, _⟩
      refine ⟨_, rfl, ?_⟩
      try simp +contextual (maxSteps := 2000000) (disch := first | omega | (simp only [SZ]; first | done | omega) | (simp only [TS] at *; omega)) only [RZ, ovw, oneC, reduceAdd, reduceMul, reduceSub, reduceEqDiff, reduceLT, ↓reduceIte, Int.reduceToNat, reduceLeDiff,  f8]
      refine (h7.write x (by rw [List.length_append, bs_len]; omega)).mono ?_
      rintro e w8 ⟨rfl, h8, hB8, _⟩
      refine ⟨_, rfl, ?_⟩
      rw [← hjt] at h8
      try simp +contextual (maxSteps := 2000000) (disch := first | omega | (simp only [SZ]; first | done | omega) | (simp only [TS] at *; omega)) only [RZ, ovw, oneC, reduceAdd, reduceMul, reduceSub, reduceEqDiff, reduceLT, ↓reduceIte, Int.reduceToNat, reduceLeDiff,  f65]
      refine hK _ _ ⟨(hF6.trans hB7).trans hB8, k + 1, by omega, h8, ?_⟩ ?_
      · simp +contextual (maxSteps := 2000000) (disch := first | omega | (simp only [SZ]; first | done | omega) | (simp only [TS] at *; omega)) only [RZ, ovw, oneC, reduceAdd, reduceMul, reduceSub, reduceEqDiff, reduceLT, ↓reduceIte, Int.reduceToNat, reduceLeDiff,  f1, f8, f63, f64, f65]
      · simp +contextual (maxSteps := 2000000) (disch := first | omega | (simp only [SZ]; first | done | omega) | (simp only [TS] at *; omega)) only [RZ, ovw, oneC, reduceAdd, reduceMul, reduceSub, reduceEqDiff, reduceLT, ↓reduceIte, Int.reduceToNat, reduceLeDiff,  intOf, f65]
        omega
    · have e2 : ((k : Int) < (m : Int)) = False := eq_false (by omega)
      have hkk : L.take (k + 1) = L := List.take_of_length_le (by omega)
      rw [hkk] at h6
      simp +contextual (maxSteps := 2000000) (disch := first | omega | (simp only [SZ]; first | done | omega) | (simp only [TS] at *; omega)) only [RZ, ovw, oneC, reduceAdd, reduceMul, reduceSub, reduceEqDiff, reduceLT, ↓reduceIte, Int.reduceToNat, reduceLeDiff,  f63, f64, f65, e2]
      refine W_if_f rfl ?_
      simp +contextual (maxSteps := 2000000) (disch := first | omega | (simp only [SZ]; first | done | omega) | (simp only [TS] at *; omega)) only [RZ, ovw, oneC, reduceAdd, reduceMul, reduceSub, reduceEqDiff, reduceLT, ↓reduceIte, Int.reduceToNat, reduceLeDiff,  f8]
      exact ⟨hF6, h6⟩
  clear f0 f1 f5 σ
  rintro σ w6 ⟨hF6, h6, f8⟩
  simp +contextual (maxSteps := 2000000) (disch := first | omega | (simp only [SZ]; first | done | omega) | (simp only [TS] at *; omega)) only [RZ, ovw, oneC, reduceAdd, reduceMul, reduceSub, reduceEqDiff, reduceLT, ↓reduceIte, Int.reduceToNat, reduceLeDiff,  f8]
  refine h6.str.mono ?_
  rintro e w7 ⟨rfl, hB7⟩
  refine ⟨_, rfl, ?_⟩
  try simp +contextual (maxSteps := 2000000) (disch := first | omega | (simp only [SZ]; first | done | omega) | (simp only [TS] at *; omega)) only [RZ, ovw, oneC, reduceAdd, reduceMul, reduceSub, reduceEqDiff, reduceLT, ↓reduceIte, Int.reduceToNat, reduceLeDiff]
  exact hF6.trans hB7
end Go.Proofs.YtbdkggnajipdhaaGreatDoor
/- Plain: chapter 11, a printed text's lines and their first words. No program in sight. -/
namespace Go.Proofs.YtbdkggnajipdhaaGreatDoor
def nlB : ByteArray := ⟨#[10]⟩
theorem index_none1 : ∀ l : List UInt8, (10 : UInt8) ∉ l → Lib.index l [10] = -1
  | [], _ => rfl
  | b :: l, h => by
    have hb : b ≠ 10 := fun e => h (by simp [e])
    have hl : (10 : UInt8) ∉ l := fun e => h (List.mem_cons_of_mem _ e)
    have hp : ([10] : List UInt8).isPrefixOf (b :: l) = false := by
      simp [List.isPrefixOf, Ne.symm hb]
    unfold Lib.index
    rw [hp, index_none1 l hl]
    rfl
theorem index_at1 (r : List UInt8) : ∀ l : List UInt8, (10 : UInt8) ∉ l → Lib.index (l ++ 10 :: r) [10] = l.length
  | [], _ => by
    rw [List.nil_append]
    unfold Lib.index
    rw [if_pos (by simp [List.isPrefixOf])]
    rfl
  | b :: l, h => by
    have hb : b ≠ 10 := fun e => h (by simp [e])
    have hl : (10 : UInt8) ∉ l := fun e => h (List.mem_cons_of_mem _ e)
    have hp : ([10] : List UInt8).isPrefixOf (b :: (l ++ 10 :: r)) = false := by
      simp [List.isPrefixOf, Ne.symm hb]
    rw [List.cons_append]
    unfold Lib.index
    rw [hp, index_at1 r l hl, if_neg (by simp), if_neg (by simp only [beq_iff_eq]; omega), List.length_cons]
    omega
theorem mem_u8 {l : List UInt8} (h : 10 ∉ l.map UInt8.toNat) : (10 : UInt8) ∉ l := fun e => h (List.mem_map.2 ⟨10, e, rfl⟩)
theorem idx_none {s : ByteArray} (h : 10 ∉ bs s) : Lib.indexB s nlB = -1 := index_none1 _ (mem_u8 h)
theorem idx_at {s : ByteArray} {l r : List Nat} (h : bs s = l ++ 10 :: r) (hl : 10 ∉ l) : Lib.indexB s nlB = l.length := by
  obtain ⟨l', r', e, e1, e2⟩ := List.map_eq_append_iff.1 h
  obtain ⟨c, r'', rfl, e3, _⟩ := List.map_eq_cons_iff.1 e2
  have hc : c = 10 := UInt8.toNat_inj.1 e3
  subst hc
  subst e1
  show Lib.index s.data.toList [10] = _
  rw [e, index_at1 _ _ (mem_u8 hl), List.length_map]
theorem split_join : ∀ (L : List ByteArray) (x s : ByteArray), (∀ y ∈ x :: L, 10 ∉ bs y) → bs s = joinS [10] (x :: L) → Lib.countB s nlB = L.length ∧ Lib.splitB nlB 0 L.length s = x :: L
  | [], x, s, h, e => by
    have e' : bs s = bs x := by rw [e, joinS, List.flatMap_nil, List.append_nil]
    have hx := idx_none (s := s) (by rw [e']; exact h x (by simp))
    exact ⟨Lib.countB_miss _ _ hx, by rw [Lib.splitB_miss _ _ _ _ hx, bs_inj e']⟩
  | y :: L, x, s, h, e => by
    have e' : bs s = bs x ++ 10 :: joinS [10] (y :: L) := by rw [e]; simp [joinS]
    have hi := idx_at e' (h x (by simp))
    have hlen : (bs s).length = (bs x).length + 1 + (joinS [10] (y :: L)).length := by rw [e', List.length_append, List.length_cons]; omega
    rw [bs_len] at hlen
    have hr : bs (s.extract ((bs x).length + 1) s.size) = joinS [10] (y :: L) := by
      rw [bs_extract, e', List.drop_append, List.drop_eq_nil_of_le (by omega), List.nil_append, show (bs x).length + 1 - (bs x).length = 1 by omega, List.drop_succ_cons, List.drop_zero, List.take_of_length_le (by omega)]
    have hf : s.extract 0 (bs x).length = x := by
      refine bs_inj ?_
      rw [bs_extract, e', List.drop_zero, Nat.sub_zero, List.take_left]
    obtain ⟨h1, h2⟩ := split_join L y _ (fun z hz => h z (List.mem_cons_of_mem _ hz)) hr
    refine ⟨?_, ?_⟩
    · rw [Lib.countB_hit _ _ _ (by decide) hi]
      show 1 + Lib.countB (s.extract ((bs x).length + 1) s.size) nlB = _
      rw [h1, List.length_cons]; omega
    · rw [List.length_cons, Lib.splitB_hit _ _ _ _ _ hi]
      show s.extract 0 ((bs x).length + 0) :: Lib.splitB nlB 0 L.length (s.extract ((bs x).length + 1) s.size) = _
      rw [h2, Nat.add_zero, hf]
theorem trim_nl {s : ByteArray} {l : List Nat} (h : bs s = l ++ [10]) : bs ⟨(Lib.trimSuffix s.data.toList nlB.data.toList).toArray⟩ = l := by
  obtain ⟨l', r', e, e1, e2⟩ := List.map_eq_append_iff.1 h
  obtain ⟨c, r'', rfl, e3, e4⟩ := List.map_eq_cons_iff.1 e2
  obtain rfl := List.map_eq_nil_iff.1 e4
  have hc : c = 10 := UInt8.toNat_inj.1 e3
  subst hc
  show ((Lib.trimSuffix s.data.toList [10]).toArray.toList).map UInt8.toNat = l
  rw [e]
  unfold Lib.trimSuffix Lib.hasSuffix
  rw [if_pos (by rw [List.isSuffixOf_iff_suffix]; exact List.suffix_append _ _)]
  simp [e1]
theorem sp_word {c : Nat} (h : wordB c = true) (u : UInt8) (hu : u.toNat = c) : Lib.isSp u = false := by
  unfold wordB letterB digitB at h
  simp only [Bool.or_eq_true, Bool.and_eq_true, decide_eq_true_eq, beq_iff_eq] at h
  unfold Lib.isSp
  have : ∀ k : UInt8, k.toNat < 45 → (u == k) = false := fun k hk => by
    rw [beq_eq_false_iff_ne]
    rintro rfl
    omega
  simp [this 9 (by decide), this 10 (by decide), this 11 (by decide), this 12 (by decide), this 13 (by decide), this 32 (by decide)]
theorem fields_go : ∀ (w : List UInt8) (cur r : List UInt8), cur ++ w ≠ [] → (∀ c ∈ w, Lib.isSp c = false) → Lib.fieldsGo cur (w ++ 32 :: r) = (cur ++ w) :: Lib.fieldsGo [] r
  | [], cur, r, hne, _ => by
    rw [List.append_nil] at hne
    rw [List.nil_append, Lib.fieldsGo_end _ _ _ (by decide) hne, List.append_nil]
  | c :: w, cur, r, hne, h => by
    rw [List.cons_append, Lib.fieldsGo_more _ _ _ (h c (by simp)), fields_go w (cur ++ [c]) r (by simp) (fun d hd => h d (by simp [hd]))]
    simp
/-- The first word of a line. -/
theorem fields_first {s : ByteArray} {w r : List Nat} (h : bs s = 32 :: 32 :: (w ++ 32 :: r)) (hne : w ≠ []) (hw : ∀ c ∈ w, wordB c = true) : ∃ x R, Lib.fields s.data.toList = x :: R ∧ bs ⟨x.toArray⟩ = w := by
  obtain ⟨a, l1, e1, ha, h⟩ := List.map_eq_cons_iff.1 h
  obtain ⟨b, l2, rfl, hb, h⟩ := List.map_eq_cons_iff.1 h
  obtain ⟨x, l3, rfl, hx, h⟩ := List.map_eq_append_iff.1 h
  obtain ⟨c, R, rfl, hc, _⟩ := List.map_eq_cons_iff.1 h
  obtain rfl : a = 32 := UInt8.toNat_inj.1 ha
  obtain rfl : b = 32 := UInt8.toNat_inj.1 hb
  obtain rfl : c = 32 := UInt8.toNat_inj.1 hc
  refine ⟨x, Lib.fieldsGo [] R, ?_, hx⟩
  rw [e1]
  unfold Lib.fields
  rw [Lib.fieldsGo_sp _ _ (by decide), Lib.fieldsGo_sp _ _ (by decide), fields_go x [] R (by intro e; rw [List.nil_append] at e; subst e; exact hne hx.symm) (fun u hu => sp_word (hw u.toNat (by rw [← hx]; exact List.mem_map.2 ⟨u, hu, rfl⟩)) u rfl)]
  rfl
/-! The lines of a printed game. -/
def headC (n : List Nat) : List Nat := asc "game" ++ (32 :: n) ++ asc " {"
def lineC (i : It) : List Nat := 32 :: (i.words.flatMap (32 :: ·) ++ [59])
theorem lineG_C (i : It) : lineG i = lineC i ++ [10] := by
  unfold lineG lineC
  rw [show asc ";\n" = [59] ++ [10] by decide +kernel]
  simp
def rowsG (n : List Nat) (V : List It) : List (List Nat) := headC n :: (V.map lineC ++ [asc "}"])
def rowsB (n : List Nat) (V : List It) : List ByteArray := (rowsG n V).map toBA
theorem good_lt7 {k : Nat} {t : List Nat} (h : good k t) : ∀ c ∈ t, c < 128 ∧ c ≠ 10 := by
  intro c hc
  rcases h with ⟨_, _, h⟩ | ⟨_, _, h⟩ | ⟨_, d, rfl, h⟩
  · have := h c hc
    unfold wordB letterB digitB at this
    simp only [Bool.or_eq_true, Bool.and_eq_true, decide_eq_true_eq, beq_iff_eq] at this
    omega
  · have := h c hc
    unfold digitB at this
    simp only [Bool.and_eq_true, decide_eq_true_eq] at this
    omega
  · rw [List.mem_singleton] at hc
    subst hc
    unfold markB at h
    simp only [Bool.or_eq_true, beq_iff_eq] at h
    omega
theorem lineC_lt {i : It} (hf : i.fine = true) (hw : i.wok = true) : ∀ c ∈ lineC i, c < 128 ∧ c ≠ 10 := by
  obtain ⟨h1, h2⟩ := item_words hf hw
  intro c hc
  unfold lineC at hc
  rw [← h1] at hc
  rcases List.mem_cons.1 hc with rfl | hc
  · decide
  · rcases List.mem_append.1 hc with hc | hc
    · obtain ⟨w, hwm, hc⟩ := List.mem_flatMap.1 hc
      obtain ⟨x, hx, rfl⟩ := List.mem_map.1 hwm
      rcases List.mem_cons.1 hc with rfl | hc
      · decide
      · exact good_lt7 (h2 x hx) c hc
    · rw [List.mem_singleton.1 hc]; decide
theorem rows_lt {n : List Nat} (hn : wordL n = true) {V : List It} (hf : V.all It.fine = true) (hw : V.all It.wok = true) : ∀ x ∈ rowsG n V, ∀ c ∈ x, c < 128 ∧ c ≠ 10 := by
  intro x hx c hc
  rcases List.mem_cons.1 hx with rfl | hx
  · unfold headC at hc
    rcases List.mem_append.1 hc with hc | hc
    · rcases List.mem_append.1 hc with hc | hc
      · have : ∀ c ∈ asc "game", c < 128 ∧ c ≠ 10 := by decide +kernel
        exact this c hc
      · rcases List.mem_cons.1 hc with rfl | hc
        · decide
        · exact good_lt7 (good_word hn) c hc
    · have : ∀ c ∈ asc " {", c < 128 ∧ c ≠ 10 := by decide +kernel
      exact this c hc
  · rcases List.mem_append.1 hx with hx | hx
    · obtain ⟨i, hi, rfl⟩ := List.mem_map.1 hx
      exact lineC_lt (List.all_eq_true.1 hf i hi) (List.all_eq_true.1 hw i hi) c hc
    · rw [List.mem_singleton.1 hx] at hc
      have : ∀ c ∈ asc "}", c < 128 ∧ c ≠ 10 := by decide +kernel
      exact this c hc
theorem join_map : ∀ (L : List (List Nat)), (∀ x ∈ L, ∀ c ∈ x, c < 128 ∧ c ≠ 10) → ∀ sep : List Nat, ((L.map toBA).flatMap fun y => sep ++ bs y) = L.flatMap fun y => sep ++ y
  | [], _, _ => rfl
  | x :: L, h, sep => by
    rw [List.map_cons, List.flatMap_cons, List.flatMap_cons, join_map L (fun y hy => h y (by simp [hy])), bs_toBA (fun c hc => by have := (h x (by simp) c hc).1; omega)]
theorem flat_lines : ∀ V : List It, (V.map lineC).flatMap (fun y => [10] ++ y) ++ [10] = [10] ++ V.flatMap lineG
  | [] => rfl
  | i :: V => by
    rw [List.map_cons, List.flatMap_cons, List.flatMap_cons, lineG_C, List.append_assoc, flat_lines V]
    simp
def gameY (n : List Nat) (V : List It) : List Nat := headC n ++ [10] ++ V.flatMap lineG ++ asc "}"
theorem gameX_Y (n : List Nat) (V : List It) : gameX n V = gameY n V ++ [10] := by
  unfold gameX gameY headC
  rw [show asc " {\n" = asc " {" ++ [10] by decide +kernel, show asc "}\n" = asc "}" ++ [10] by decide +kernel]
  simp only [List.append_assoc]
theorem join_rows {n : List Nat} (hn : wordL n = true) {V : List It} (hf : V.all It.fine = true) (hw : V.all It.wok = true) : joinS [10] (rowsB n V) = gameY n V := by
  have hr := rows_lt hn hf hw
  unfold rowsB rowsG gameY
  rw [List.map_cons, joinS, bs_toBA (fun c hc => by have := (hr _ (by unfold rowsG; simp) c hc).1; omega), join_map _ (fun x hx => hr x (by unfold rowsG; exact List.mem_cons_of_mem _ hx)), List.flatMap_append, List.flatMap_cons, List.flatMap_nil, List.append_nil,
    ← List.append_assoc, ← List.append_assoc, List.append_assoc (headC n), flat_lines V]
  simp only [List.append_assoc]
theorem rows_bs {n : List Nat} (hn : wordL n = true) {V : List It} (hf : V.all It.fine = true) (hw : V.all It.wok = true) : ∀ y ∈ rowsB n V, 10 ∉ bs y ∧ ∀ c ∈ bs y, c < 128 := by
  intro y hy
  obtain ⟨x, hx, rfl⟩ := List.mem_map.1 hy
  have hr := rows_lt hn hf hw x hx
  rw [bs_toBA (fun c hc => by have := (hr c hc).1; omega)]
  exact ⟨fun h => (hr 10 h).2 rfl, fun c hc => (hr c hc).1⟩
/-- A printed game's text without its last line feed, split at line feeds. -/
theorem rows_split {n : List Nat} (hn : wordL n = true) {V : List It} (hf : V.all It.fine = true) (hw : V.all It.wok = true) {s : ByteArray} (hs : bs s = gameY n V) : Lib.countB s nlB = V.length + 1 ∧ Lib.splitB nlB 0 (V.length + 1) s = rowsB n V := by
  have h := split_join ((V.map lineC ++ [asc "}"]).map toBA) (toBA (headC n)) s (fun y hy => (rows_bs hn hf hw y hy).1) (hs.trans (join_rows hn hf hw).symm)
  have e : ((V.map lineC ++ [asc "}"]).map toBA).length = V.length + 1 := by simp
  rw [e] at h
  exact h
/-- The first word of an item. -/
def firstW : It → List Nat
  | .two w _ _ => w
  | .num w _ => w
  | .days _ _ => asc "days"
  | .addon _ => asc "addon"
  | .tier _ => asc "tier"
theorem line_first (i : It) : ∃ r, lineC i = 32 :: 32 :: (firstW i ++ 32 :: r) := by
  have key : ∀ (w : List Nat) (x : List Nat) (R : List (List Nat)), 32 :: ((w :: x :: R).flatMap (32 :: ·) ++ [59]) = 32 :: 32 :: (w ++ 32 :: (x ++ R.flatMap (32 :: ·) ++ [59])) := fun w x R => by simp
  have key2 : ∀ i : It, (∃ x R, i.words = firstW i :: x :: R) → ∃ r, lineC i = 32 :: 32 :: (firstW i ++ 32 :: r) := fun i ⟨x, R, e⟩ => by
    unfold lineC
    rw [e]
    exact ⟨_, key _ _ _⟩
  refine key2 i ?_
  cases i with
  | two w a b => exact ⟨fmtI a, [asc "of", fmtI b], rfl⟩
  | num w n => exact ⟨fmtI n, [], rfl⟩
  | days d t =>
    show ∃ x R, [asc "days"] ++ dayL d ++ [asc "at", fmtI (t / 60), asc ":", fmtI (t % 60)] = asc "days" :: x :: R
    cases dayL d with
    | nil => exact ⟨_, _, rfl⟩
    | cons x r => exact ⟨x, r ++ [asc "at", fmtI (t / 60), asc ":", fmtI (t % 60)], rfl⟩
  | addon a =>
    unfold It.words firstW
    by_cases h : a.kind = 1
    · simp only [if_pos h]; exact ⟨_, _, rfl⟩
    · simp only [if_neg h]; exact ⟨_, _, rfl⟩
  | tier t =>
    show ∃ x R, [asc "tier"] ++ modeW t ++ [kindW t.kind, fmtI t.value] = asc "tier" :: x :: R
    cases modeW t with
    | nil => exact ⟨_, _, rfl⟩
    | cons x r => exact ⟨x, r ++ [kindW t.kind, fmtI t.value], rfl⟩
theorem first_word {i : It} (hw : i.wok = true) : firstW i ≠ [] ∧ ∀ c ∈ firstW i, wordB c = true := by
  have key : ∀ w : List Nat, wordL w = true → w ≠ [] ∧ ∀ c ∈ w, wordB c = true := fun w h => by
    unfold wordL at h
    rw [Bool.and_eq_true] at h
    refine ⟨?_, fun c hc => List.all_eq_true.1 h.2 c hc⟩
    rintro rfl
    cases h.1
  cases i with
  | two w a b =>
    have : w = asc "choose" ∨ w = asc "digits" ∨ w = asc "bonus" := by simpa [It.wok, or_assoc] using hw
    refine key w ?_
    rcases this with rfl | rfl | rfl <;> decide +kernel
  | num w n => exact key w (List.all_eq_true.1 simpleW_word w (simple_mem hw))
  | days d t => exact key (asc "days") (by decide +kernel)
  | addon a => exact key (asc "addon") (by decide +kernel)
  | tier t => exact key (asc "tier") (by decide +kernel)
theorem line_fields {i : It} (hf : i.fine = true) (hw : i.wok = true) : ∃ x R, Lib.fields (toBA (lineC i)).data.toList = x :: R ∧ bs ⟨x.toArray⟩ = firstW i := by
  obtain ⟨r, e⟩ := line_first i
  exact fields_first (r := r) (by rw [bs_toBA (fun c hc => by have := (lineC_lt hf hw c hc).1; omega), e]) (first_word hw).1 (first_word hw).2
end Go.Proofs.YtbdkggnajipdhaaGreatDoor
/- Walk: lotterylaw11.lines and item. -/
namespace Go.Proofs.YtbdkggnajipdhaaGreatDoor
open Nat (reduceAdd reduceMul reduceSub reduceEqDiff reduceLT reduceLeDiff)
open Go.RowKit
set_option maxRecDepth 100000
def trimB (s : ByteArray) : ByteArray := ⟨(Lib.trimSuffix s.data.toList nlB.data.toList).toArray⟩
theorem trimB_size (s : ByteArray) : (trimB s).size ≤ s.size := by
  unfold trimB Lib.trimSuffix
  split
  · show (List.take _ _).toArray.size ≤ s.data.size
    simp
  · exact Nat.le_refl _
theorem lines_any (s : ByteArray) (w : World) (hS : LaidS w) (hs : s.size ≤ 1000000) : Calls Tryz.prog 15 #[.string s] w fun e w' =>
    e = .returned (.slice (some ⟨w.heap.size, 0, none⟩) (Lib.countB (trimB s) nlB + 1) (Lib.countB (trimB s) nlB + 1)) ∧ w' = w.alloc (.cells ((Lib.splitB nlB 0 (Lib.countB (trimB s) nlB) (trimB s)).map Value.string).toArray 9) := by
  obtain ⟨m, hm⟩ := hS.max
  refine calls_W (l := [_]) Tryz.func15 rfl _ Tryz.ntmps15 (by simp) ?_
  simp +contextual (maxSteps := 2000000) (disch := first | omega | (simp only [SZ]; first | done | omega) | (simp only [TS] at *; omega)) only [RZ, ovw, oneC, reduceAdd, reduceMul, reduceSub, reduceEqDiff, reduceLT, ↓reduceIte, Int.reduceToNat, reduceLeDiff]
  refine (Tryz.strings_TrimSuffix s nlB w (by omega)).mono ?_
  rintro e w1 ⟨rfl, hw1⟩
  rw [hw1]
  clear hw1 w1
  refine ⟨_, rfl, ?_⟩
  have hz := trimB_size s
  refine (Tryz.strings_Split (trimB s) nlB m w (by omega) hm (by decide)).mono ?_
  rintro e w1 ⟨rfl, rfl⟩
  refine ⟨_, rfl, ?_⟩
  try simp +contextual (maxSteps := 2000000) (disch := first | omega | (simp only [SZ]; first | done | omega) | (simp only [TS] at *; omega)) only [RZ, ovw, oneC, reduceAdd, reduceMul, reduceSub, reduceEqDiff, reduceLT, ↓reduceIte, Int.reduceToNat, reduceLeDiff]
theorem item_any (s : ByteArray) (x : List UInt8) (R : List (List UInt8)) (w : World) (hS : LaidS w) (hs : s.size ≤ 1000000) (ha : ∀ c ∈ bs s, c < 128) (hF : Lib.fields s.data.toList = x :: R) : Calls Tryz.prog 16 #[.string s] w fun e w' =>
    e = .returned (.string ⟨x.toArray⟩) ∧ Below w.heap.size w w' := by
  refine calls_W (l := [_]) Tryz.func16 rfl _ Tryz.ntmps16 (by simp) ?_
  simp +contextual (maxSteps := 2000000) (disch := first | omega | (simp only [SZ]; first | done | omega) | (simp only [TS] at *; omega)) only [RZ, ovw, oneC, reduceAdd, reduceMul, reduceSub, reduceEqDiff, reduceLT, ↓reduceIte, Int.reduceToNat, reduceLeDiff]
  refine (Tryz.strings_Fields s w (by omega) (fun j b h => ha b.toNat (List.mem_map.2 ⟨b, List.mem_of_getElem? h, rfl⟩)) hS.spc).mono ?_
  rw [hF]
  rintro e w1 ⟨rfl, rfl⟩
  refine ⟨_, rfl, ?_⟩
  have hR : ((R.length : Int) + 1 = 0) = False := eq_false (by omega)
  have b0 := below_alloc w (.cells ((x :: R).map fun l => Value.string ⟨l.toArray⟩).toArray 9)
  have r0 := Row.new w 9 ((x :: R).map fun l => Value.string ⟨l.toArray⟩)
  have c0 := r0.cell (i := 0) (v := .string ⟨x.toArray⟩) rfl
  generalize w.alloc (.cells ((x :: R).map fun l => Value.string ⟨l.toArray⟩).toArray 9) = w1 at *
  simp +contextual (maxSteps := 2000000) (disch := first | omega | (simp only [SZ]; first | done | omega) | (simp only [TS] at *; omega)) only [RZ, ovw, oneC, reduceAdd, reduceMul, reduceSub, reduceEqDiff, reduceLT, ↓reduceIte, Int.reduceToNat, reduceLeDiff,  hR]
  refine W_if_f rfl ?_
  simp +contextual (maxSteps := 2000000) (disch := first | omega | (simp only [SZ]; first | done | omega) | (simp only [TS] at *; omega)) only [RZ, ovw, oneC, reduceAdd, reduceMul, reduceSub, reduceEqDiff, reduceLT, ↓reduceIte, Int.reduceToNat, reduceLeDiff,  c0]
  exact b0
end Go.Proofs.YtbdkggnajipdhaaGreatDoor
