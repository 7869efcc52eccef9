/- Texts laid one behind the other: RtT, RtU, RtV, RwH, Row, GmArgs, Laid. Each says at its head what it proves. -/
import Derived.Test.YtbdkggnajipdhaaGreatDoorRtStZ16
import Derived.ProofKit
import Derived.Lib.SmallJoins
import Derived.Deep.Slices
import Derived.Deep.Fields
import Derived.ChangeMaps5
import Derived.LaidMore
import Derived.OpenShut
import Derived.Stop.Joined
import Derived.Lib.LaidTab
import Derived.MakeChecks
set_option linter.unusedSimpArgs false
/- Plain: chapter 11, a printed game is read back. No program in sight. -/
namespace Go.Proofs.YtbdkggnajipdhaaGreatDoor
def seeL (V : List It) (seen : List (List Nat)) : List (List Nat) := V.foldl It.see seen
theorem see_mem : ∀ (V : List It) (seen : List (List Nat)) (k : List Nat), k ∈ seeL V seen ↔ k ∈ V.filterMap It.key ∨ k ∈ seen
  | [], seen, k => by simp [seeL]
  | i :: V, seen, k => by
    have ih := see_mem V (It.see seen i) k
    unfold seeL at ih ⊢
    rw [List.foldl_cons, ih]
    cases hk : i.key with
    | none => simp [List.filterMap_cons, hk, It.see]
    | some q =>
      simp only [List.filterMap_cons, hk, It.see, List.mem_cons]
      exact ⟨fun h => h.elim (fun h => .inl (.inr h)) (fun h => h.elim (fun h => .inl (.inl h)) .inr), fun h => h.elim (fun h => h.elim (fun h => .inr (.inl h)) .inl) (fun h => .inr (.inr h))⟩
theorem itemsS_len : ∀ V : List It, V.length ≤ (itemsS V).length
  | [] => Nat.le_refl _
  | i :: V => by
    have := itemsS_len V
    unfold itemsS at this ⊢
    rw [List.flatMap_cons, List.length_append, List.length_append, List.length_cons]
    simp only [List.length_cons, List.length_nil]
    omega
/-- Items with different keys are read one behind the other. -/
theorem gitems_read {M : List (Int × List Nat)} (hM : M ≠ []) (hk : ∀ x ∈ M.head?, x.1 ≠ 1) : ∀ (V : List It) (L : List Tk) (f : Nat) (g : Gm) (seen : List (List Nat)), V.all It.fine = true → V.all It.wok = true → (∀ i ∈ V, ∀ d t, i = .days d t → d ≠ 0) →
    (V.filterMap It.key).Nodup → (∀ k ∈ V.filterMap It.key, k ∉ seen) → L.map Kt = inK (itemsS V) ++ M → V.length < f → ∃ L', gitemsT f L g seen = .ok ((V.foldl It.eff g, seeL V seen), L') ∧ L'.map Kt = M
  | [], L, f + 1, g, seen, _, _, _, _, _, h, _ => by
    have h : L.map Kt = M := h
    obtain ⟨x, M', rfl⟩ : ∃ x M', M = x :: M' := by cases M with | nil => exact absurd rfl hM | cons x M' => exact ⟨x, M', rfl⟩
    refine ⟨L, ?_, h⟩
    unfold gitemsT
    rw [if_neg]
    · rfl
    · cases L with
      | nil => cases h
      | cons t r =>
        rw [List.map_cons, List.cons.injEq] at h
        intro e
        have hx := hk x (by simp)
        rw [← h.1] at hx
        exact hx e
  | i :: V, L, f + 1, g, seen, hf, hw, hz, hn, hs, h, hl => by
    rw [List.all_cons, Bool.and_eq_true] at hf hw
    have h' : L.map Kt = inK i.toks ++ ((3, asc ";") :: (inK (itemsS V) ++ M)) := by
      rw [h]; simp [itemsS, inK, List.map_append]
    have hk1 : ∀ k, i.key = some k → k ∉ seen := fun k e => hs k (by rw [List.filterMap_cons, e]; simp)
    obtain ⟨L1, e1, h1⟩ := item_read hf.1 hw.1 (hz i (by simp)) (by simp) (by simp) h' (g := g) hk1
    obtain ⟨e2, h2⟩ := st_is h1 (by intro e; exact hM (List.append_eq_nil_iff.1 e).2)
    have hn' : (V.filterMap It.key).Nodup := by
      rw [List.filterMap_cons] at hn
      cases e : i.key with
      | none => rw [e] at hn; exact hn
      | some q => rw [e] at hn; exact (List.nodup_cons.1 hn).2
    obtain ⟨L', e3, h3⟩ := gitems_read hM hk V (nxT L1) f (i.eff g) (It.see seen i) hf.2 hw.2 (fun j hj => hz j (by simp [hj])) hn' (fun k hkm => by
      have hks := hs k (by
        rw [List.filterMap_cons]
        cases i.key with
        | none => exact hkm
        | some q => exact List.mem_cons_of_mem _ hkm)
      unfold It.see
      cases e : i.key with
      | none => exact hks
      | some q =>
        rw [List.filterMap_cons, e] at hn
        intro hc
        rcases List.mem_cons.1 hc with rfl | hc
        · exact (List.nodup_cons.1 hn).1 hkm
        · exact hks hc) h2 (by rw [List.length_cons] at hl; omega)
    refine ⟨L', ?_, h3⟩
    have hkind : (hdT L).kind = 1 := by
      have : ∃ w R, inK i.toks ++ ((3, asc ";") :: (inK (itemsS V) ++ M)) = (1, w) :: R ∧ R ≠ [] := by
        cases i with
        | two w a b => exact ⟨_, _, rfl, by simp⟩
        | num w n => exact ⟨_, _, rfl, by simp⟩
        | days d t => exact ⟨_, _, rfl, by simp⟩
        | addon a =>
          by_cases ha : a.kind = 1
          · simp only [It.toks, if_pos ha]; exact ⟨_, _, rfl, by simp⟩
          · simp only [It.toks, if_neg ha]; exact ⟨_, _, rfl, by simp⟩
        | tier t => exact ⟨_, _, rfl, by simp⟩
      obtain ⟨w, R, eR, hR⟩ := this
      rw [eR] at h'
      exact (st_next h' hR).1
    unfold gitemsT
    rw [if_pos hkind, bindT_ok e1, thenT_some e2]
    dsimp only
    rw [e3]
    rfl
theorem closeT_ok {g : Gm} {seen : List (List Nat)} {L : List Tk} (h : L.map Kt = [(3, asc "}"), (0, [])]) : closeT ((g, seen), L) = .ok (if asc "system" ∈ seen then g else { g with n := putN g.n 8 (g.n 2) }) := by
  obtain ⟨e, h2⟩ := st_is (k := 3) (w := asc "}") h (by simp)
  unfold closeT
  rw [thenT_some e]
  have : (hdT (nxT L)).kind = 0 := by
    match hL : nxT L, h2 with
    | [], h2 => cases h2
    | [t], h2 =>
      rw [List.map_cons, List.map_nil, List.cons.injEq] at h2
      exact congrArg Prod.fst h2.1
    | _ :: _ :: _, h2 => simp at h2
  rw [if_pos this]
/-- A text of items, as it is printed, is read. -/
theorem game_read {s nm : ByteArray} {V : List It} (hs : bs s = gameX (bs nm) V) (hsz : s.size ≤ 32768) (hn : wordL (bs nm) = true) (hf : V.all It.fine = true) (hw : V.all It.wok = true) (hz : ∀ i ∈ V, ∀ d t, i = .days d t → d ≠ 0) (hnd : (V.filterMap It.key).Nodup) :
    parseG s = ((if asc "system" ∈ V.filterMap It.key then V.foldl It.eff (gm0 nm) else { V.foldl It.eff (gm0 nm) with n := putN (V.foldl It.eff (gm0 nm)).n 8 ((V.foldl It.eff (gm0 nm)).n 2) }), 0, 0) := by
  obtain ⟨L, e, hL⟩ := scan_Lx hsz (by rw [hs]; exact game_Lx hn hf hw)
  have h' : L.map Kt = (1, asc "game") :: (1, bs nm) :: (3, asc "{") :: (inK (itemsS V) ++ [(3, asc "}"), (0, [])]) := by
    rw [hL]; simp [gameS, inK, List.map_append]
  obtain ⟨e1, h1⟩ := st_is h' (by simp)
  obtain ⟨n1, n2, n3⟩ := st_next h1 (by simp)
  obtain ⟨e3, h3⟩ := st_is n3 (by simp)
  obtain ⟨L', e4, h4⟩ := gitems_read (M := [(3, asc "}"), (0, [])]) (by simp) (by simp) V (nxT (nxT (nxT L))) (nxT (nxT (nxT L))).length (gm0 nm) [] hf hw hz hnd (fun k _ h => by cases h) h3 (by
    have := itemsS_len V
    rw [st_len h3, List.length_append]
    unfold inK
    rw [List.length_map]
    simp only [List.length_cons, List.length_nil]
    omega)
  have hnm : (hdT (nxT L)).text = nm := bs_inj n2
  have hg : gameT L = .ok (if asc "system" ∈ seeL V [] then V.foldl It.eff (gm0 nm) else { V.foldl It.eff (gm0 nm) with n := putN (V.foldl It.eff (gm0 nm)).n 8 ((V.foldl It.eff (gm0 nm)).n 2) }) := by
    unfold gameT
    rw [thenT_some e1, if_neg (fun h => h n1), thenT_some e3, hnm, bindT_ok e4, closeT_ok h4]
  unfold parseG
  rw [e, if_neg (by show (0 : Int) ≠ 3; decide), if_neg (fun h => h rfl), hg]
  have : asc "system" ∈ seeL V [] ↔ asc "system" ∈ V.filterMap It.key := by rw [see_mem]; simp
  by_cases hm : asc "system" ∈ V.filterMap It.key
  · rw [if_pos hm, if_pos (this.2 hm)]
  · rw [if_neg hm, if_neg (fun h => hm (this.1 h))]
/-! What is printed of a game. -/
theorem optI_keys (w : List Nat) (n std : Int) : (optI w n std).filterMap It.key = if n = std then [] else [w] := by
  unfold optI; by_cases h : n = std <;> simp [h, It.key]
theorem optI_wok {w : List Nat} (h : (simpleI w).isSome = true) (n std : Int) : (optI w n std).all It.wok = true := by
  unfold optI; by_cases e : n = std <;> simp [e, It.wok, h]
theorem optI_eff {w : List Nat} {i : Nat} (h : simpleI w = some i) (n std : Int) (g : Gm) (hg : g.n i = std) : (optI w n std).foldl It.eff g = { g with n := putN g.n i n } := by
  unfold optI
  by_cases e : n = std
  · rw [if_pos e, List.foldl_nil]
    have : putN g.n i n = g.n := by
      funext j
      unfold putN
      by_cases hj : j = i
      · rw [if_pos hj, hj, hg, e]
      · rw [if_neg hj]
    rw [this]
  · rw [if_neg e, List.foldl_cons, List.foldl_nil]
    simp only [It.eff, h]
/-- Keys in their order. -/
def keysK : List (List Nat) := [asc "choose", asc "bonus", asc "extra", asc "price", asc "draws", asc "system", asc "days", asc "close", asc "cancel", asc "expiry", asc "pool", asc "reserve", asc "round", asc "cap", asc "rolls"]
theorem keysK_nodup : keysK.Nodup := by decide +kernel
theorem optK_sub (w : List Nat) (n std : Int) : List.Sublist ((optI w n std).filterMap It.key) [w] := by
  rw [optI_keys]; by_cases h : n = std <;> simp [h]
theorem choose_key (n : Nat → Int) : It.key (.two (if n 0 = 1 then asc "choose" else asc "digits") (n 2) (n 3)) = some (asc "choose") := by
  by_cases h : n 0 = 1
  · rw [if_pos h]; exact congrArg some (if_neg (by decide +kernel))
  · rw [if_neg h]; exact congrArg some (if_neg (by decide +kernel))
theorem bonus_sub (n : Nat → Int) : List.Sublist ((bonusI n).filterMap It.key) [asc "bonus"] := by
  unfold bonusI; by_cases h : n 4 ≠ 0 ∨ n 5 ≠ 0
  · rw [if_pos h]; simp [It.key]
  · rw [if_neg h]; simp
theorem days_sub (n : Nat → Int) : List.Sublist ((daysI n).filterMap It.key) [asc "days"] := by
  unfold daysI; by_cases h : n 9 = 0 <;> simp [h, It.key]
theorem map_keys {α : Type} (f : α → It) (hf : ∀ a, (f a).key = none) (l : List α) : (l.map f).filterMap It.key = [] := by
  rw [List.filterMap_map, List.filterMap_eq_nil_iff]
  intro a _
  exact hf a
theorem keys_sub (G : Gm) : List.Sublist ((itemsG G).filterMap It.key) keysK := by
  unfold itemsG optsI
  rw [headI_is]
  simp only [List.filterMap_append, List.filterMap_cons, List.filterMap_nil, choose_key, map_keys It.addon (fun _ => rfl), map_keys It.tier (fun _ => rfl), List.append_nil]
  have e : keysK = [asc "choose"] ++ [asc "bonus"] ++ ([asc "extra"] ++ [asc "price"] ++ [asc "draws"] ++ [asc "system"]) ++ [asc "days"] ++ ([asc "close"] ++ [asc "cancel"] ++ [asc "expiry"] ++ [asc "pool"] ++ [asc "reserve"] ++ [asc "round"] ++ [asc "cap"] ++ [asc "rolls"]) := rfl
  rw [e]
  have A := fun {a b c d : List (List Nat)} (h1 : List.Sublist a b) (h2 : List.Sublist c d) => List.Sublist.append h1 h2
  exact A (A (A (A (List.Sublist.refl _) (bonus_sub _)) (A (A (A (optK_sub _ _ _) (optK_sub _ _ _)) (optK_sub _ _ _)) (optK_sub _ _ _))) (days_sub _)) (A (A (A (A (A (A (A (optK_sub _ _ _) (optK_sub _ _ _)) (optK_sub _ _ _)) (optK_sub _ _ _)) (optK_sub _ _ _)) (optK_sub _ _ _)) (optK_sub _ _ _)) (optK_sub _ _ _))
theorem keys_nodup (G : Gm) : ((itemsG G).filterMap It.key).Nodup := (keys_sub G).nodup keysK_nodup
theorem items_wok (G : Gm) : (itemsG G).all It.wok = true := by
  unfold itemsG optsI daysI
  rw [headI_is]
  unfold bonusI
  simp only [List.all_append, Bool.and_eq_true]
  have hw : ∀ w ∈ simpleW, (simpleI w).isSome = true := by
    have : simpleW.all (fun w => (simpleI w).isSome) = true := by decide +kernel
    exact List.all_eq_true.1 this
  have hm : ∀ (w : List Nat) (n std : Int), w ∈ simpleW → (optI w n std).all It.wok = true := fun w n std h => optI_wok (hw w h) n std
  refine ⟨⟨⟨⟨⟨⟨?_, ?_⟩, ⟨⟨hm _ _ _ (by decide +kernel), hm _ _ _ (by decide +kernel)⟩, hm _ _ _ (by decide +kernel)⟩, hm _ _ _ (by decide +kernel)⟩, ?_⟩, ⟨⟨⟨⟨⟨⟨hm _ _ _ (by decide +kernel), hm _ _ _ (by decide +kernel)⟩, hm _ _ _ (by decide +kernel)⟩, hm _ _ _ (by decide +kernel)⟩, hm _ _ _ (by decide +kernel)⟩, hm _ _ _ (by decide +kernel)⟩, hm _ _ _ (by decide +kernel)⟩, hm _ _ _ (by decide +kernel)⟩, ?_⟩, ?_⟩
  · simp only [List.all_cons, List.all_nil, Bool.and_true, It.wok]
    by_cases h : G.n 0 = 1 <;> simp [h]
  · by_cases h : G.n 4 ≠ 0 ∨ G.n 5 ≠ 0
    · rw [if_pos h]; simp [It.wok]
    · rw [if_neg h]; rfl
  · by_cases h : G.n 9 = 0
    · rw [if_pos h]; rfl
    · rw [if_neg h]; simp [It.wok]
  · rw [List.all_map]; simp [It.wok]
  · rw [List.all_map]; simp [It.wok]
theorem items_days (G : Gm) (h0 : 0 ≤ G.n 9) : ∀ i ∈ itemsG G, ∀ d t, i = .days d t → d ≠ 0 := by
  intro i hi d t e
  subst e
  unfold itemsG optsI at hi
  rw [headI_is] at hi
  have ho : ∀ (w : List Nat) (n std : Int), It.days d t ∉ optI w n std := fun w n std h => by
    unfold optI at h; by_cases e : n = std <;> simp [e] at h
  have hb : It.days d t ∉ bonusI G.n := fun h => by
    unfold bonusI at h; by_cases e : G.n 4 ≠ 0 ∨ G.n 5 ≠ 0
    · rw [if_pos e] at h; simp at h
    · rw [if_neg e] at h; simp at h
  simp only [List.mem_append, ho, hb, or_false, false_or, List.mem_singleton, List.mem_map] at hi
  rcases hi with ((hi | hi) | ⟨_, _, hi⟩) | ⟨_, _, hi⟩
  · cases hi
  · unfold daysI at hi
    by_cases e : G.n 9 = 0
    · rw [if_pos e] at hi; cases hi
    · rw [if_neg e, List.mem_singleton] at hi
      injection hi with h1 h2
      omega
  · cases hi
  · cases hi
theorem sys_opt (w : List Nat) (n std : Int) (hw : asc "system" ≠ w) : asc "system" ∉ (optI w n std).filterMap It.key := by
  rw [optI_keys]
  by_cases h : n = std
  · rw [if_pos h]; simp
  · rw [if_neg h, List.mem_singleton]; exact hw
theorem sys_mem (G : Gm) : asc "system" ∈ (itemsG G).filterMap It.key ↔ G.n 8 ≠ G.n 2 := by
  unfold itemsG optsI
  rw [headI_is]
  simp only [List.filterMap_append, List.filterMap_cons, List.filterMap_nil, choose_key, map_keys It.addon (fun _ => rfl), map_keys It.tier (fun _ => rfl), List.append_nil, List.mem_append]
  have hb : asc "system" ∉ (bonusI G.n).filterMap It.key := fun h => absurd ((bonus_sub G.n).subset h) (by decide +kernel)
  have hd : asc "system" ∉ (daysI G.n).filterMap It.key := fun h => absurd ((days_sub G.n).subset h) (by decide +kernel)
  have hc : asc "system" ∉ [asc "choose"] := by decide +kernel
  have hs : asc "system" ∈ (optI (asc "system") (G.n 8) (G.n 2)).filterMap It.key ↔ G.n 8 ≠ G.n 2 := by
    rw [optI_keys]
    by_cases h : G.n 8 = G.n 2
    · rw [if_pos h]; simp [h]
    · rw [if_neg h]; simp [h]
  simp only [sys_opt _ _ _ (show asc "system" ≠ asc "extra" by decide +kernel), sys_opt _ _ _ (show asc "system" ≠ asc "price" by decide +kernel), sys_opt _ _ _ (show asc "system" ≠ asc "draws" by decide +kernel), sys_opt _ _ _ (show asc "system" ≠ asc "close" by decide +kernel),
    sys_opt _ _ _ (show asc "system" ≠ asc "cancel" by decide +kernel), sys_opt _ _ _ (show asc "system" ≠ asc "expiry" by decide +kernel), sys_opt _ _ _ (show asc "system" ≠ asc "pool" by decide +kernel), sys_opt _ _ _ (show asc "system" ≠ asc "reserve" by decide +kernel),
    sys_opt _ _ _ (show asc "system" ≠ asc "round" by decide +kernel), sys_opt _ _ _ (show asc "system" ≠ asc "cap" by decide +kernel), sys_opt _ _ _ (show asc "system" ≠ asc "rolls" by decide +kernel), hb, hd, hc, hs, false_or, or_false]
theorem bonus_eff (n : Nat → Int) (g : Gm) (h4 : g.n 4 = 0) (h5 : g.n 5 = 0) : (bonusI n).foldl It.eff g = { g with n := putN (putN g.n 4 (n 4)) 5 (n 5) } := by
  unfold bonusI
  by_cases h : n 4 ≠ 0 ∨ n 5 ≠ 0
  · rw [if_pos h, List.foldl_cons, List.foldl_nil]
    simp only [It.eff, ↓reduceIte]
  · rw [if_neg h, List.foldl_nil]
    have e4 : n 4 = 0 := Classical.byContradiction fun e => h (.inl e)
    have e5 : n 5 = 0 := Classical.byContradiction fun e => h (.inr e)
    have : putN (putN g.n 4 (n 4)) 5 (n 5) = g.n := by
      funext j
      unfold putN
      by_cases h5' : j = 5
      · rw [if_pos h5', h5', h5, e5]
      · rw [if_neg h5']
        by_cases h4' : j = 4
        · rw [if_pos h4', h4', h4, e4]
        · rw [if_neg h4']
    rw [this]
theorem days_eff (n : Nat → Int) (g : Gm) (h9 : g.n 9 = 0) (h10 : g.n 10 = 0) (hc : daysC n = true) : (daysI n).foldl It.eff g = { g with n := putN (putN g.n 9 (n 9)) 10 (n 10) } := by
  unfold daysC at hc
  simp only [Bool.and_eq_true, decide_eq_true_eq] at hc
  unfold daysI
  by_cases h : n 9 = 0
  · rw [if_pos h, List.foldl_nil]
    have e10 : n 10 = 0 := by simpa [h] using hc.2
    have : putN (putN g.n 9 (n 9)) 10 (n 10) = g.n := by
      funext j
      unfold putN
      by_cases h5' : j = 10
      · rw [if_pos h5', h5', h10, e10]
      · rw [if_neg h5']
        by_cases h4' : j = 9
        · rw [if_pos h4', h4', h9, h]
        · rw [if_neg h4']
    rw [this]
  · rw [if_neg h, List.foldl_cons, List.foldl_nil]
    simp only [It.eff]
    rw [show ((n 9).toNat : Int) = n 9 by omega]
theorem addons_eff : ∀ (l : List Ad) (g : Gm), (l.map It.addon).foldl It.eff g = { g with addons := g.addons ++ l }
  | [], g => by simp
  | a :: l, g => by
    rw [List.map_cons, List.foldl_cons, addons_eff l]
    simp only [It.eff, List.append_assoc, List.singleton_append]
theorem tiers_eff : ∀ (l : List Ti) (g : Gm), (l.map It.tier).foldl It.eff g = { g with tiers := g.tiers ++ l }
  | [], g => by simp
  | a :: l, g => by
    rw [List.map_cons, List.foldl_cons, tiers_eff l]
    simp only [It.eff, List.append_assoc, List.singleton_append]
set_option maxHeartbeats 2000000 in
/-- A printed game is read back. -/
theorem game_back {G : Gm} (hf : fineG G = true) {s : ByteArray} (hs : bs s = textG G) (hsz : s.size ≤ 32768) : (gmC (parseG s).1, (parseG s).2) = (gmC G, 0, 0) := by
  have hfine := hf
  unfold fineG at hf
  simp only [Bool.and_eq_true, Bool.or_eq_true, decide_eq_true_eq] at hf
  obtain ⟨⟨⟨hn, hk⟩, hd⟩, hi⟩ := hf
  have h09 : 0 ≤ G.n 9 := by
    unfold daysC at hd
    simp only [Bool.and_eq_true, decide_eq_true_eq] at hd
    omega
  rw [game_read (nm := G.name) (V := itemsG G) hs hsz hn hi (items_wok G) (items_days G h09) (keys_nodup G)]
  have hkk : (if (if G.n 0 = 1 then asc "choose" else asc "digits") = asc "digits" then (2 : Int) else 1) = G.n 0 := by
    rcases hk with h | h
    · rw [if_pos h, if_neg (by decide +kernel), h]
    · have h1 : ¬ G.n 0 = 1 := by omega
      rw [if_neg h1, if_pos rfl, h]
  have hF : ∃ N : Nat → Int, (itemsG G).foldl It.eff (gm0 G.name) = ⟨G.name, N, G.addons, G.tiers⟩ ∧ (∀ i, i < 19 → i ≠ 8 → N i = G.n i) ∧ (G.n 8 ≠ G.n 2 → N 8 = G.n 8) := by
    unfold itemsG optsI
    rw [headI_is]
    simp only [List.foldl_append, List.foldl_cons, List.foldl_nil]
    have e1 : It.eff (gm0 G.name) (.two (if G.n 0 = 1 then asc "choose" else asc "digits") (G.n 2) (G.n 3)) = ⟨G.name, putN (putN (putN (gm0 G.name).n 0 (G.n 0)) 2 (G.n 2)) 3 (G.n 3), [], []⟩ := by
      have hb : (if G.n 0 = 1 then asc "choose" else asc "digits") ≠ asc "bonus" := by
        by_cases h : G.n 0 = 1
        · rw [if_pos h]; decide +kernel
        · rw [if_neg h]; decide +kernel
      refine (if_neg hb).trans ?_
      rw [hkk]
      rfl
    rw [e1, bonus_eff _ _ (by simp [putN, gm0]) (by simp [putN, gm0])]
    rw [optI_eff (w := asc "extra") (i := 6) (by decide +kernel) _ _ _ (by simp [putN, gm0]), optI_eff (w := asc "price") (i := 1) (by decide +kernel) _ _ _ (by simp [putN, gm0]), optI_eff (w := asc "draws") (i := 7) (by decide +kernel) _ _ _ (by simp [putN, gm0])]
    have e8 : ∀ g : Gm, ∃ v, (optI (asc "system") (G.n 8) (G.n 2)).foldl It.eff g = { g with n := putN g.n 8 v } ∧ (G.n 8 ≠ G.n 2 → v = G.n 8) := fun g => by
      unfold optI
      by_cases h : G.n 8 = G.n 2
      · refine ⟨g.n 8, ?_, fun e => absurd h e⟩
        rw [if_pos h, List.foldl_nil]
        have : putN g.n 8 (g.n 8) = g.n := by
          funext j
          unfold putN
          by_cases hj : j = 8
          · rw [if_pos hj, hj]
          · rw [if_neg hj]
        rw [this]
      · refine ⟨G.n 8, ?_, fun _ => rfl⟩
        rw [if_neg h, List.foldl_cons, List.foldl_nil]
        have : simpleI (asc "system") = some 8 := by decide +kernel
        simp only [It.eff, this]
    obtain ⟨v, ev, hv⟩ := e8 { name := G.name, n := putN (putN (putN (putN (putN (putN (putN (putN (gm0 G.name).n 0 (G.n 0)) 2 (G.n 2)) 3 (G.n 3)) 4 (G.n 4)) 5 (G.n 5)) 6 (G.n 6)) 1 (G.n 1)) 7 (G.n 7), addons := [], tiers := [] }
    rw [ev, days_eff _ _ (by simp [putN, gm0]) (by simp [putN, gm0]) hd]
    rw [optI_eff (w := asc "close") (i := 11) (by decide +kernel) _ _ _ (by simp [putN, gm0]), optI_eff (w := asc "cancel") (i := 12) (by decide +kernel) _ _ _ (by simp [putN, gm0]), optI_eff (w := asc "expiry") (i := 13) (by decide +kernel) _ _ _ (by simp [putN, gm0]), optI_eff (w := asc "pool") (i := 14) (by decide +kernel) _ _ _ (by simp [putN, gm0]),
      optI_eff (w := asc "reserve") (i := 15) (by decide +kernel) _ _ _ (by simp [putN, gm0]), optI_eff (w := asc "round") (i := 16) (by decide +kernel) _ _ _ (by simp [putN, gm0]), optI_eff (w := asc "cap") (i := 17) (by decide +kernel) _ _ _ (by simp [putN, gm0]), optI_eff (w := asc "rolls") (i := 18) (by decide +kernel) _ _ _ (by simp [putN, gm0])]
    rw [addons_eff, tiers_eff]
    simp only [List.nil_append]
    refine ⟨_, rfl, fun i hi h8 => ?_, fun h => ?_⟩
    · have : i = 0 ∨ i = 1 ∨ i = 2 ∨ i = 3 ∨ i = 4 ∨ i = 5 ∨ i = 6 ∨ i = 7 ∨ i = 9 ∨ i = 10 ∨ i = 11 ∨ i = 12 ∨ i = 13 ∨ i = 14 ∨ i = 15 ∨ i = 16 ∨ i = 17 ∨ i = 18 := by omega
      rcases this with rfl | rfl | rfl | rfl | rfl | rfl | rfl | rfl | rfl | rfl | rfl | rfl | rfl | rfl | rfl | rfl | rfl | rfl <;> simp [putN]
    · rw [← hv h]; simp [putN]
  obtain ⟨N, eF, hN, h8⟩ := hF
  rw [eF]
  have hs2 := sys_mem G
  have hcut : ∀ N' : Nat → Int, (∀ i, i < 19 → N' i = G.n i) → gmC ⟨G.name, N', G.addons, G.tiers⟩ = gmC G := fun N' h => by
    unfold gmC
    simp only [Prod.mk.injEq, true_and, and_true]
    exact List.map_congr_left fun i hi => h i (List.mem_range.1 hi)
  by_cases h : G.n 8 = G.n 2
  · rw [if_neg (fun e => hs2.1 e h)]
    simp only [Prod.mk.injEq, and_true]
    refine hcut _ fun i hi => ?_
    unfold putN
    by_cases hi8 : i = 8
    · rw [if_pos hi8, hi8, h]; exact hN 2 (by decide) (by decide)
    · rw [if_neg hi8]; exact hN i hi hi8
  · rw [if_pos (hs2.2 h)]
    simp only [Prod.mk.injEq, and_true]
    refine hcut _ fun i hi => ?_
    by_cases hi8 : i = 8
    · rw [hi8]; exact h8 h
    · exact hN i hi hi8
end Go.Proofs.YtbdkggnajipdhaaGreatDoor
/- Plain: chapter 11, a printed text's bytes and length. No program in sight. -/
namespace Go.Proofs.YtbdkggnajipdhaaGreatDoor
theorem good_lt {k : Nat} {t : List Nat} (h : good k t) : ∀ c ∈ t, c < 256 := by
  intro c hc
  rcases h with ⟨_, _, h⟩ | ⟨_, _, h⟩ | ⟨_, d, rfl, h⟩
  · have := h c hc
    unfold wordB letterB digitB at this
    simp only [Bool.or_eq_true, Bool.and_eq_true, decide_eq_true_eq, beq_iff_eq] at this
    omega
  · have := h c hc
    unfold digitB at this
    simp only [Bool.and_eq_true, decide_eq_true_eq] at this
    omega
  · rw [List.mem_singleton] at hc
    subst hc
    unfold markB at h
    simp only [Bool.or_eq_true, beq_iff_eq] at h
    omega
theorem lineG_lt {i : It} (hf : i.fine = true) (hw : i.wok = true) : ∀ c ∈ lineG i, c < 256 := by
  obtain ⟨h1, h2⟩ := item_words hf hw
  intro c hc
  unfold lineG at hc
  rw [← h1] at hc
  rcases List.mem_cons.1 hc with rfl | hc
  · decide
  · rcases List.mem_append.1 hc with hc | hc
    · obtain ⟨w, hwm, hc⟩ := List.mem_flatMap.1 hc
      obtain ⟨x, hx, rfl⟩ := List.mem_map.1 hwm
      rcases List.mem_cons.1 hc with rfl | hc
      · decide
      · exact good_lt (h2 x hx) c hc
    · have : ∀ c ∈ asc ";\n", c < 256 := by decide +kernel
      exact this c hc
theorem textG_lt {G : Gm} (h : fineG G = true) : ∀ c ∈ textG G, c < 256 := by
  unfold fineG at h
  simp only [Bool.and_eq_true] at h
  have hi := h.2
  have hw := items_wok G
  rw [List.all_eq_true] at hi hw
  intro c hc
  unfold textG at hc
  simp only [List.mem_append, List.mem_cons] at hc
  have a1 : ∀ c ∈ asc "game", c < 256 := by decide +kernel
  have a2 : ∀ c ∈ asc " {\n", c < 256 := by decide +kernel
  have a3 : ∀ c ∈ asc "}\n", c < 256 := by decide +kernel
  rcases hc with (((hc | hc | hc) | hc) | hc) | hc
  · exact a1 c hc
  · omega
  · exact bs_lt _ c hc
  · exact a2 c hc
  · obtain ⟨i, him, hc⟩ := List.mem_flatMap.1 hc
    exact lineG_lt (hi i him) (hw i him) c hc
  · exact a3 c hc
theorem printG_lt (G : Gm) : ∀ c ∈ printG G, c < 256 := by
  rw [printG_is]
  by_cases h : fineG G = true ∧ (textG G).length ≤ 32768
  · rw [if_pos h]; exact textG_lt h.1
  · rw [if_neg h]; intro c hc; cases hc
theorem print_size (G : Gm) : (toBA (printG G)).size ≤ 32768 := by
  rw [← bs_len, bs_toBA (printG_lt G), printG_is]
  by_cases h : fineG G = true ∧ (textG G).length ≤ 32768
  · rw [if_pos h]; exact h.2
  · rw [if_neg h]; exact Nat.zero_le _
theorem print_back {G : Gm} (hne : printG G ≠ []) : (gmC (parseG (toBA (printG G))).1, (parseG (toBA (printG G))).2) = (gmC G, 0, 0) := by
  have hs := print_size G
  have hb := bs_toBA (printG_lt G)
  have hp := printG_is G
  by_cases h : fineG G = true ∧ (textG G).length ≤ 32768
  · rw [if_pos h] at hp
    exact game_back h.1 (by rw [hb, hp]) hs
  · rw [if_neg h] at hp
    exact absurd hp hne
theorem print_none {G : Gm} : toBA (printG G) = ⟨#[]⟩ ↔ printG G = [] := by
  constructor
  · intro h
    have := congrArg bs h
    rw [bs_toBA (printG_lt G)] at this
    exact this
  · intro h
    rw [h]; rfl
end Go.Proofs.YtbdkggnajipdhaaGreatDoor
/- Plain: chapter 11, what was read is small. No program in sight. -/
namespace Go.Proofs.YtbdkggnajipdhaaGreatDoor
theorem nx_suf (L : List Tk) : nxT L <:+ L := by
  match L with
  | [] => exact List.suffix_refl _
  | [_] => exact List.suffix_refl _
  | a :: b :: r => exact List.suffix_cons a (b :: r)
theorem num_suf {L : List Tk} {x : Int × List Tk} (h : numT L = some x) : x.2 <:+ L := by rw [(num_some (x := x.1) (L' := x.2) h).2.2.2]; exact nx_suf L
theorem is_suf {k : Int} {w : List Nat} {L L' : List Tk} (h : isT k w L = some L') : L' <:+ L := by rw [(is_some h).2.2]; exact nx_suf L
theorem nums_suf : ∀ (f : Nat) (L : List Tk), (numsT f L).2 <:+ L ∧ (numsT f L).1.length ≤ f
  | 0, L => ⟨List.suffix_refl _, Nat.le_refl _⟩
  | f + 1, L => by
    unfold numsT
    cases h : numT L with
    | none => exact ⟨List.suffix_refl _, Nat.zero_le _⟩
    | some a => exact ⟨(nums_suf f a.2).1.trans (num_suf h), by simp only [List.length_cons]; have := (nums_suf f a.2).2; omega⟩
theorem pair_suf {L L' : List Tk} {x : Int × Int} (h : pairT L = .ok (x, L')) : L' <:+ L := by
  unfold pairT at h
  obtain ⟨y, h1, h⟩ := then_ok h
  obtain ⟨L2, h2, h⟩ := then_ok h
  obtain ⟨z, h3, h⟩ := then_ok h
  injection h with h
  injection h with _ h
  subst h
  exact ((num_suf h3).trans (is_suf h2)).trans (num_suf h1)
theorem less_suf {m : Int} {L : List Tk} {x : Int × List Tk} (h : lessT m L = some x) : x.2 <:+ L := by
  unfold lessT at h
  cases hn : numT L with
  | none => rw [hn] at h; cases h
  | some y =>
    rw [hn] at h
    dsimp only at h
    split at h
    · injection h with h; subst h; exact num_suf hn
    · cases h
theorem days_suf : ∀ (f : Nat) (L : List Tk) (d : Nat) (x : Nat × List Tk), daysT f L d = .ok x → x.2 <:+ L
  | 0, L, d, x, h => by cases h
  | f + 1, L, d, x, h => by
    unfold daysT at h
    split at h
    · injection h with h; subst h; exact nx_suf L
    · split at h
      · cases h
      · cases hd : dayI (bs (hdT L).text) with
        | none => rw [hd] at h; cases h
        | some i =>
          rw [hd] at h
          dsimp only at h
          split at h
          · cases h
          · exact (days_suf f _ _ x h).trans (nx_suf L)
theorem day_suf {L L' : List Tk} {x : Int × Int} (h : dayT L = .ok (x, L')) : L' <:+ L := by
  unfold dayT at h
  obtain ⟨d, h0, h⟩ := bind_ok h
  obtain ⟨y, h1, h⟩ := then_ok h
  obtain ⟨L2, h2, h⟩ := then_ok h
  obtain ⟨z, h3, h⟩ := then_ok h
  injection h with h
  injection h with _ h
  subst h
  exact (((less_suf h3).trans (is_suf h2)).trans (less_suf h1)).trans (days_suf _ _ _ _ h0)
theorem hit_suf {w : List Nat} {L : List Tk} {x : Int × List Tk} (h : hitT w L = .ok x) : x.2 <:+ L := by
  unfold hitT at h
  cases hq : isT 1 w L with
  | none => rw [hq] at h; injection h with h; subst h; exact List.suffix_refl _
  | some L1 =>
    rw [hq] at h
    obtain ⟨y, h1, h⟩ := then_ok h
    injection h with h
    subst h
    exact (num_suf h1).trans (is_suf hq)
theorem mode_suf {L : List Tk} {x : (Int × Int × Int × Int) × List Tk} (h : modeT L = .ok x) : x.2 <:+ L := by
  unfold modeT at h
  cases h1 : isT 1 (asc "exact") L with
  | some L1 => rw [h1] at h; injection h with h; subst h; exact is_suf h1
  | none =>
  rw [h1] at h
  cases h2 : isT 1 (asc "box") L with
  | some L1 => rw [h2] at h; injection h with h; subst h; exact is_suf h2
  | none =>
  rw [h2] at h
  cases h3 : isT 1 (asc "front") L with
  | some L1 =>
    rw [h3] at h
    obtain ⟨y, e1, h⟩ := then_ok h
    injection h with h; subst h
    exact (num_suf e1).trans (is_suf h3)
  | none =>
  rw [h3] at h
  cases h4 : isT 1 (asc "back") L with
  | some L1 =>
    rw [h4] at h
    obtain ⟨y, e1, h⟩ := then_ok h
    injection h with h; subst h
    exact (num_suf e1).trans (is_suf h4)
  | none =>
  rw [h4] at h
  obtain ⟨y1, e1, h⟩ := bind_ok h
  obtain ⟨y2, e2, h⟩ := bind_ok h
  obtain ⟨y3, e3, h⟩ := bind_ok h
  injection h with h; subst h
  exact ((hit_suf e3).trans (hit_suf e2)).trans (hit_suf e1)
theorem tier_suf {L : List Tk} {x : Ti × List Tk} (h : tierT L = .ok x) : x.2 <:+ L := by
  unfold tierT at h
  obtain ⟨m, e1, h⟩ := bind_ok h
  have s1 := mode_suf e1
  split at h
  · cases h
  · cases hp : prizeK (bs (hdT m.2).text) with
    | none => rw [hp] at h; cases h
    | some k =>
      rw [hp] at h
      obtain ⟨v, e2, h⟩ := then_ok h
      injection h with h; subst h
      exact ((num_suf e2).trans (nx_suf m.2)).trans s1
theorem hd_size {M : Nat} {L : List Tk} (h : ∀ t ∈ L, t.text.size ≤ M) : (hdT L).text.size ≤ M := by
  cases L with
  | nil => exact Nat.zero_le _
  | cons t r => exact h t (by simp)
theorem suf_all {P : Tk → Prop} {L L' : List Tk} (h : L' <:+ L) (hp : ∀ t ∈ L, P t) : ∀ t ∈ L', P t := fun t ht => hp t (h.mem ht)
theorem addon_suf {L : List Tk} {x : Ad × List Tk} (h : addonT L = .ok x) : x.2 <:+ L ∧ x.1.name = (hdT L).text ∧ x.1.factors.length ≤ L.length ∧ x.1.serials.length ≤ L.length := by
  unfold addonT at h
  have n1 := nx_suf L
  have n2 := nx_suf (nxT L)
  split at h
  · cases h
  · split at h
    · cases h
    · split at h
      · obtain ⟨v, e2, h⟩ := then_ok h
        injection h with h; subst h
        have s := (num_suf e2).trans (n2.trans n1)
        have s2 := nums_suf v.2.length v.2
        exact ⟨s2.1.trans s, rfl, Nat.le_trans s2.2 s.length_le, Nat.zero_le _⟩
      · split at h
        · obtain ⟨v, e2, h⟩ := then_ok h
          obtain ⟨u, e3, h⟩ := then_ok h
          injection h with h; subst h
          have s := (num_suf e3).trans ((num_suf e2).trans (n2.trans n1))
          have s2 := nums_suf u.2.length u.2
          exact ⟨s2.1.trans s, rfl, Nat.zero_le _, Nat.le_trans s2.2 s.length_le⟩
        · cases h
/-- A game that is at most as large as K, M and N say. -/
def Fit (M N K : Nat) (G : Gm) : Prop := G.name.size ≤ M ∧ G.addons.length ≤ K ∧ G.tiers.length ≤ K ∧ ∀ a ∈ G.addons, a.name.size ≤ M ∧ a.factors.length ≤ N ∧ a.serials.length ≤ N
theorem item_fit {M N K : Nat} {L : List Tk} {G : Gm} {seen : List (List Nat)} {x : (Gm × List (List Nat)) × List Tk} (hM : ∀ t ∈ L, t.text.size ≤ M) (hN : L.length ≤ N) (hG : Fit M N K G) (h : itemG L G seen = .ok x) : x.2 <:+ L ∧ Fit M N (K + 1) x.1.1 := by
  have hG1 : ∀ n, Fit M N (K + 1) { G with n := n } := fun n => ⟨hG.1, Nat.le_succ_of_le hG.2.1, Nat.le_succ_of_le hG.2.2.1, hG.2.2.2⟩
  have n1 := nx_suf L
  unfold itemG at h
  split at h
  · cases h
  split at h
  · split at h
    · cases h
    · obtain ⟨y, e, h⟩ := bind_ok h
      injection h with h; subst h
      exact ⟨(pair_suf e).trans n1, hG1 _⟩
  split at h
  · split at h
    · cases h
    · obtain ⟨y, e, h⟩ := bind_ok h
      injection h with h; subst h
      exact ⟨(pair_suf e).trans n1, hG1 _⟩
  split at h
  · split at h
    · cases h
    · obtain ⟨y, e, h⟩ := bind_ok h
      injection h with h; subst h
      exact ⟨(day_suf e).trans n1, hG1 _⟩
  split at h
  · obtain ⟨y, e, h⟩ := bind_ok h
    injection h with h; subst h
    obtain ⟨s1, s2, s3, s4⟩ := addon_suf e
    have hl := n1.length_le
    refine ⟨s1.trans n1, hG.1, by simp only [List.length_append, List.length_singleton]; have := hG.2.1; omega, Nat.le_succ_of_le hG.2.2.1, fun a ha => ?_⟩
    rcases List.mem_append.1 ha with ha | ha
    · exact hG.2.2.2 a ha
    · rw [List.mem_singleton.1 ha, s2]
      exact ⟨hd_size (suf_all n1 hM), by omega, by omega⟩
  split at h
  · obtain ⟨y, e, h⟩ := bind_ok h
    injection h with h; subst h
    exact ⟨(tier_suf e).trans n1, hG.1, Nat.le_succ_of_le hG.2.1, by simp only [List.length_append, List.length_singleton]; have := hG.2.2.1; omega, hG.2.2.2⟩
  · cases hs : simpleI (bs (hdT L).text) with
    | none => rw [hs] at h; cases h
    | some i =>
      rw [hs] at h
      dsimp only at h
      split at h
      · cases h
      · obtain ⟨y, e, h⟩ := then_ok h
        injection h with h; subst h
        exact ⟨(num_suf e).trans n1, hG1 _⟩
theorem gitems_fit {M N : Nat} : ∀ (f K : Nat) (L : List Tk) (G : Gm) (seen : List (List Nat)) (x : (Gm × List (List Nat)) × List Tk), (∀ t ∈ L, t.text.size ≤ M) → L.length ≤ N → Fit M N K G → gitemsT f L G seen = .ok x → Fit M N (K + f) x.1.1
  | 0, K, L, G, seen, x, _, _, _, h => by cases h
  | f + 1, K, L, G, seen, x, hM, hN, hG, h => by
    unfold gitemsT at h
    split at h
    · obtain ⟨y, e1, h⟩ := bind_ok h
      obtain ⟨L2, e2, h⟩ := then_ok h
      obtain ⟨s1, g1⟩ := item_fit hM hN hG e1
      have s2 := (is_suf e2).trans s1
      have := gitems_fit f (K + 1) L2 _ _ x (suf_all s2 hM) (Nat.le_trans s2.length_le hN) g1 h
      rw [show K + (f + 1) = K + 1 + f by omega]
      exact this
    · injection h with h
      subst h
      exact ⟨hG.1, Nat.le_trans hG.2.1 (by omega), Nat.le_trans hG.2.2.1 (by omega), hG.2.2.2⟩
theorem game_fit {M N : Nat} {L : List Tk} {G : Gm} (hM : ∀ t ∈ L, t.text.size ≤ M) (hN : L.length ≤ N) (h : gameT L = .ok G) : Fit M N N G := by
  unfold gameT at h
  obtain ⟨L1, e1, h⟩ := then_ok h
  split at h
  · cases h
  obtain ⟨L3, e3, h⟩ := then_ok h
  obtain ⟨y, e4, h⟩ := bind_ok h
  have s1 := is_suf e1
  have s3 := ((is_suf e3).trans (nx_suf L1)).trans s1
  have := gitems_fit L3.length 0 L3 (gm0 (hdT L1).text) [] y (suf_all s3 hM) (Nat.le_trans s3.length_le hN) ⟨hd_size (suf_all s1 hM), Nat.le_refl _, Nat.le_refl _, fun a ha => by cases ha⟩ e4
  rw [Nat.zero_add] at this
  have hl := Nat.le_trans s3.length_le hN
  unfold closeT at h
  obtain ⟨L5, e5, h⟩ := then_ok h
  split at h
  · injection h with h
    have hy : Fit M N N y.1.1 := ⟨this.1, Nat.le_trans this.2.1 hl, Nat.le_trans this.2.2.1 hl, this.2.2.2⟩
    rw [← h]
    split
    · exact hy
    · exact hy
  · cases h
theorem parse_little (s : ByteArray) : (parseG s).1.little := by
  unfold parseG
  split
  · exact ⟨Nat.zero_le _, Nat.zero_le _, Nat.zero_le _, fun a ha => by cases ha⟩
  split
  · exact ⟨Nat.zero_le _, Nat.zero_le _, Nat.zero_le _, fun a ha => by cases ha⟩
  · rename_i h3 h0
    obtain ⟨hT, _⟩ := scan_tokOk (s := s) (Classical.byContradiction fun h => h0 h)
    cases hg : gameT (scanE s).2.2 with
    | ok G => exact game_fit hT.szs hT.big hg
    | error e => exact ⟨Nat.zero_le _, Nat.zero_le _, Nat.zero_le _, fun a ha => by cases ha⟩
end Go.Proofs.YtbdkggnajipdhaaGreatDoor
/- Walk: the law RuletextSettles. -/
namespace Go.Proofs.YtbdkggnajipdhaaGreatDoor
open Nat (reduceAdd reduceMul reduceSub reduceEqDiff reduceLT reduceLeDiff)
open Go.RowKit
set_option maxRecDepth 100000
set_option maxHeartbeats 4000000 in
theorem ruletextSettles_any (s : ByteArray) (w : World) (hW : Laid w) : Calls Tryz.prog 5 #[.string s] w fun e w' => e = .returned (.bool true) ∧ Below w.heap.size w w' := by
  refine calls_W (l := [_]) Tryz.func5 rfl _ Tryz.ntmps5 (by simp) ?_
  have hw5 := hW.size
  refine W_piece fun K hK hX => ?_
  simp +contextual (maxSteps := 2000000) (disch := first | omega | (simp only [SZ]; first | done | omega) | (simp only [TS] at *; omega)) only [RZ, ovw, oneC, reduceAdd, reduceMul, reduceSub, reduceEqDiff, reduceLT, ↓reduceIte, Int.reduceToNat, reduceLeDiff]
  refine hK _ _ ?_
  clear hK hX K
  refine W_piece fun K hK hX => ?_
  refine W_piece fun K2 hK2 hX2 => ?_
  simp +contextual (maxSteps := 2000000) (disch := first | omega | (simp only [SZ]; first | done | omega) | (simp only [TS] at *; omega)) only [RZ, ovw, oneC, reduceAdd, reduceMul, reduceSub, reduceEqDiff, reduceLT, ↓reduceIte, Int.reduceToNat, reduceLeDiff]
  refine hK2 _ _ ?_
  clear hK2 hX2 K2
  by_cases hsz : 40000 < s.size
  · refine W_if_t (by rw [show decide ((40000 : Int) < (s.size : Int)) = true from decide_eq_true (by omega)]; rfl) ?_
    refine W_piece fun K2 hK2 hX2 => ?_
    simp +contextual (maxSteps := 2000000) (disch := first | omega | (simp only [SZ]; first | done | omega) | (simp only [TS] at *; omega)) only [RZ, ovw, oneC, reduceAdd, reduceMul, reduceSub, reduceEqDiff, reduceLT, ↓reduceIte, Int.reduceToNat, reduceLeDiff]
    refine (awake_any w hW hw5).mono ?_
    rintro e w1 ⟨rfl, hB1⟩
    refine ⟨_, rfl, ?_⟩
    try simp +contextual (maxSteps := 2000000) (disch := first | omega | (simp only [SZ]; first | done | omega) | (simp only [TS] at *; omega)) only [RZ, ovw, oneC, reduceAdd, reduceMul, reduceSub, reduceEqDiff, reduceLT, ↓reduceIte, Int.reduceToNat, reduceLeDiff]
    refine hK2 _ _ ?_
    clear hK2 hX2 K2
    rw [W_ret]
    refine hX _ _ _ (fun h => by cases h) ?_
    simp +contextual (maxSteps := 2000000) (disch := first | omega | (simp only [SZ]; first | done | omega) | (simp only [TS] at *; omega)) only [RZ, ovw, oneC, reduceAdd, reduceMul, reduceSub, reduceEqDiff, reduceLT, ↓reduceIte, Int.reduceToNat, reduceLeDiff]
    exact hB1
  refine W_if_f (by rw [show decide ((40000 : Int) < (s.size : Int)) = false from decide_eq_false (by omega)]; rfl) ?_
  rw [W_skip]
  refine hK _ _ ?_
  clear hK hX K
  refine W_piece fun K hK hX => ?_
  simp +contextual (maxSteps := 2000000) (disch := first | omega | (simp only [SZ]; first | done | omega) | (simp only [TS] at *; omega)) only [RZ, ovw, oneC, reduceAdd, reduceMul, reduceSub, reduceEqDiff, reduceLT, ↓reduceIte, Int.reduceToNat, reduceLeDiff]
  have hlit := parse_little s
  refine (parse_any s w (by omega) hW hw5).mono ?_
  rintro e w1 ⟨hB1, Va1, Vt1, rfl, hG1⟩
  refine ⟨_, rfl, ?_⟩
  generalize hPG : parseG s = PG at *
  obtain ⟨G, er, ln⟩ := PG
  dsimp only at hG1 hlit ⊢
  have hz1 := hB1.size
  obtain ⟨⟨Aa1, ca1, Vs1, rfl, _⟩, At1, ct1, rfl, _⟩ := id hG1
  simp only [gmV]
  simp +contextual (maxSteps := 2000000) (disch := first | omega | (simp only [SZ]; first | done | omega) | (simp only [TS] at *; omega)) only [RZ, ovw, oneC, reduceAdd, reduceMul, reduceSub, reduceEqDiff, reduceLT, ↓reduceIte, Int.reduceToNat, reduceLeDiff]
  refine hK _ _ ?_
  clear hK hX K
  refine W_gen fun w2 hw2 => ?_
  have hB2 : Below w1.heap.size w1 w2 := by rw [hw2]; exact below_alloc w1 _
  have q2 : Row w2 w1.heap.size 26 (gmV G (.slice Aa1 G.addons.length ca1) (.slice At1 G.tiers.length ct1)) := by rw [hw2]; exact Row.new w1 _ _
  clear hw2
  have hF2 := hB1.trans (hB2.mono hz1)
  have hz2 := hF2.size
  have hGa := hG1.below hB2
  have hend : ∀ (w7 : World) {R : Ending → World → Prop}, Below w.heap.size w w7 → (∀ w8, Below w.heap.size w w8 → R (.returned (.bool true)) w8) → Calls Tryz.prog 8 #[] w7 R := fun w7 R hF hR => by
    have := hF.size
    refine (awake_any w7 (hW.below hF hw5) (by omega)).mono ?_
    rintro e w8 ⟨rfl, hB8⟩
    exact hR w8 (hF.trans (hB8.mono this))
  by_cases her : er = 0
  rotate_left
  · have e1 : (er = 0) = False := eq_false her
    refine W_piece fun K hK hX => ?_
    refine W_piece fun K2 hK2 hX2 => ?_
    simp +contextual (maxSteps := 2000000) (disch := first | omega | (simp only [SZ]; first | done | omega) | (simp only [TS] at *; omega)) only [RZ, ovw, oneC, reduceAdd, reduceMul, reduceSub, reduceEqDiff, reduceLT, ↓reduceIte, Int.reduceToNat, reduceLeDiff,  e1]
    refine hK2 _ _ ?_
    clear hK2 hX2 K2
    refine W_if_t rfl ?_
    refine W_piece fun K2 hK2 hX2 => ?_
    simp +contextual (maxSteps := 2000000) (disch := first | omega | (simp only [SZ]; first | done | omega) | (simp only [TS] at *; omega)) only [RZ, ovw, oneC, reduceAdd, reduceMul, reduceSub, reduceEqDiff, reduceLT, ↓reduceIte, Int.reduceToNat, reduceLeDiff]
    refine hend w2 hF2 fun w3 hF3 => ?_
    refine ⟨_, rfl, ?_⟩
    try simp +contextual (maxSteps := 2000000) (disch := first | omega | (simp only [SZ]; first | done | omega) | (simp only [TS] at *; omega)) only [RZ, ovw, oneC, reduceAdd, reduceMul, reduceSub, reduceEqDiff, reduceLT, ↓reduceIte, Int.reduceToNat, reduceLeDiff]
    refine hK2 _ _ ?_
    clear hK2 hX2 K2
    rw [W_ret]
    refine hX _ _ _ (fun h => by cases h) ?_
    simp +contextual (maxSteps := 2000000) (disch := first | omega | (simp only [SZ]; first | done | omega) | (simp only [TS] at *; omega)) only [RZ, ovw, oneC, reduceAdd, reduceMul, reduceSub, reduceEqDiff, reduceLT, ↓reduceIte, Int.reduceToNat, reduceLeDiff]
    exact hF3
  subst her
  refine W_piece fun K hK hX => ?_
  refine W_piece fun K2 hK2 hX2 => ?_
  simp +contextual (maxSteps := 2000000) (disch := first | omega | (simp only [SZ]; first | done | omega) | (simp only [TS] at *; omega)) only [RZ, ovw, oneC, reduceAdd, reduceMul, reduceSub, reduceEqDiff, reduceLT, ↓reduceIte, Int.reduceToNat, reduceLeDiff]
  refine hK2 _ _ ?_
  clear hK2 hX2 K2
  refine W_if_f rfl ?_
  rw [W_skip]
  refine hK _ _ ?_
  clear hK hX K
  have l2 := load_game q2
  refine W_piece fun K hK hX => ?_
  simp +contextual (maxSteps := 2000000) (disch := first | omega | (simp only [SZ]; first | done | omega) | (simp only [TS] at *; omega)) only [RZ, ovw, oneC, reduceAdd, reduceMul, reduceSub, reduceEqDiff, reduceLT, ↓reduceIte, Int.reduceToNat, reduceLeDiff,  l2]
  refine (print_any G _ _ w2 (hW.below hF2 hw5) (by omega) hGa hlit).mono ?_
  rintro e w3 ⟨rfl, hB3⟩
  refine ⟨_, rfl, ?_⟩
  try simp +contextual (maxSteps := 2000000) (disch := first | omega | (simp only [SZ]; first | done | omega) | (simp only [TS] at *; omega)) only [RZ, ovw, oneC, reduceAdd, reduceMul, reduceSub, reduceEqDiff, reduceLT, ↓reduceIte, Int.reduceToNat, reduceLeDiff,  l2]
  refine hK _ _ ?_
  clear hK hX K l2
  have hF3 := hF2.trans (hB3.mono hz2)
  have hz3 := hF3.size
  have q3 := q2.below hB3
  have hGb := hGa.below hB3
  have l3 := load_game q3
  by_cases hp : printG G = []
  · have e1 : (toBA (printG G) = (⟨#[]⟩ : ByteArray)) = True := eq_true (print_none.2 hp)
    refine W_piece fun K hK hX => ?_
    refine W_piece fun K2 hK2 hX2 => ?_
    simp +contextual (maxSteps := 2000000) (disch := first | omega | (simp only [SZ]; first | done | omega) | (simp only [TS] at *; omega)) only [RZ, ovw, oneC, reduceAdd, reduceMul, reduceSub, reduceEqDiff, reduceLT, ↓reduceIte, Int.reduceToNat, reduceLeDiff,  e1]
    refine hK2 _ _ ?_
    clear hK2 hX2 K2
    refine W_if_t rfl ?_
    have z1 : w3.cell? ⟨w1.heap.size, 1, none⟩ = some (.int .i64 (G.n 0)) := q3.cell (i := 1) rfl
    refine W_piece fun K2 hK2 hX2 => ?_
    by_cases hk0 : G.n 0 = 0
    · have e2 : (G.n 0 = 0) = True := eq_true hk0
      simp +contextual (maxSteps := 2000000) (disch := first | omega | (simp only [SZ]; first | done | omega) | (simp only [TS] at *; omega)) only [RZ, ovw, oneC, reduceAdd, reduceMul, reduceSub, reduceEqDiff, reduceLT, ↓reduceIte, Int.reduceToNat, reduceLeDiff,  z1, l3, e2]
      refine hend w3 hF3 fun w4 hF4 => ?_
      refine ⟨_, rfl, ?_⟩
      try simp +contextual (maxSteps := 2000000) (disch := first | omega | (simp only [SZ]; first | done | omega) | (simp only [TS] at *; omega)) only [RZ, ovw, oneC, reduceAdd, reduceMul, reduceSub, reduceEqDiff, reduceLT, ↓reduceIte, Int.reduceToNat, reduceLeDiff]
      refine hK2 _ _ ?_
      clear hK2 hX2 K2
      rw [W_ret]
      refine hX _ _ _ (fun h => by cases h) ?_
      simp +contextual (maxSteps := 2000000) (disch := first | omega | (simp only [SZ]; first | done | omega) | (simp only [TS] at *; omega)) only [RZ, ovw, oneC, reduceAdd, reduceMul, reduceSub, reduceEqDiff, reduceLT, ↓reduceIte, Int.reduceToNat, reduceLeDiff]
      exact hF4
    · have e2 : (G.n 0 = 0) = False := eq_false hk0
      simp +contextual (maxSteps := 2000000) (disch := first | omega | (simp only [SZ]; first | done | omega) | (simp only [TS] at *; omega)) only [RZ, ovw, oneC, reduceAdd, reduceMul, reduceSub, reduceEqDiff, reduceLT, ↓reduceIte, Int.reduceToNat, reduceLeDiff,  z1, l3, e2]
      refine (rprint_any G _ _ w3 hGb hlit).mono ?_
      rintro e w4 ⟨rfl, hB4⟩
      refine ⟨_, rfl, ?_⟩
      have hF4 := hF3.trans (hB4.mono hz3)
      try simp +contextual (maxSteps := 2000000) (disch := first | omega | (simp only [SZ]; first | done | omega) | (simp only [TS] at *; omega)) only [RZ, ovw, oneC, reduceAdd, reduceMul, reduceSub, reduceEqDiff, reduceLT, ↓reduceIte, Int.reduceToNat, reduceLeDiff,  e1]
      refine hend w4 hF4 fun w5 hF5 => ?_
      refine ⟨_, rfl, ?_⟩
      try simp +contextual (maxSteps := 2000000) (disch := first | omega | (simp only [SZ]; first | done | omega) | (simp only [TS] at *; omega)) only [RZ, ovw, oneC, reduceAdd, reduceMul, reduceSub, reduceEqDiff, reduceLT, ↓reduceIte, Int.reduceToNat, reduceLeDiff]
      refine hK2 _ _ ?_
      clear hK2 hX2 K2
      rw [W_ret]
      refine hX _ _ _ (fun h => by cases h) ?_
      simp +contextual (maxSteps := 2000000) (disch := first | omega | (simp only [SZ]; first | done | omega) | (simp only [TS] at *; omega)) only [RZ, ovw, oneC, reduceAdd, reduceMul, reduceSub, reduceEqDiff, reduceLT, ↓reduceIte, Int.reduceToNat, reduceLeDiff]
      exact hF5
  · have e1 : (toBA (printG G) = (⟨#[]⟩ : ByteArray)) = False := eq_false (fun h => hp (print_none.1 h))
    refine W_piece fun K hK hX => ?_
    refine W_piece fun K2 hK2 hX2 => ?_
    simp +contextual (maxSteps := 2000000) (disch := first | omega | (simp only [SZ]; first | done | omega) | (simp only [TS] at *; omega)) only [RZ, ovw, oneC, reduceAdd, reduceMul, reduceSub, reduceEqDiff, reduceLT, ↓reduceIte, Int.reduceToNat, reduceLeDiff,  e1]
    refine hK2 _ _ ?_
    clear hK2 hX2 K2
    refine W_if_f rfl ?_
    rw [W_skip]
    refine hK _ _ ?_
    clear hK hX K
    have hps := print_size G
    refine W_piece fun K hK hX => ?_
    simp +contextual (maxSteps := 2000000) (disch := first | omega | (simp only [SZ]; first | done | omega) | (simp only [TS] at *; omega)) only [RZ, ovw, oneC, reduceAdd, reduceMul, reduceSub, reduceEqDiff, reduceLT, ↓reduceIte, Int.reduceToNat, reduceLeDiff]
    refine (parse_ex (q := G) (er := 0) (ln := 0) (by omega) (hW.below hF3 hw5) (by omega) (print_back hp)).mono ?_
    rintro e w4 ⟨hB4, Va4, Vt4, rfl, hG4⟩
    refine ⟨_, rfl, ?_⟩
    have q4 := q3.below hB4
    have hF4 := hF3.trans (hB4.mono hz3)
    have hz4 := hF4.size
    obtain ⟨⟨Aa4, ca4, Vs4, rfl, _⟩, At4, ct4, rfl, _⟩ := id hG4
    simp only [gmV]
    simp +contextual (maxSteps := 2000000) (disch := first | omega | (simp only [SZ]; first | done | omega) | (simp only [TS] at *; omega)) only [RZ, ovw, oneC, reduceAdd, reduceMul, reduceSub, reduceEqDiff, reduceLT, ↓reduceIte, Int.reduceToNat, reduceLeDiff]
    refine hK _ _ ?_
    clear hK hX K
    refine W_gen fun w5 hw5' => ?_
    have hB5 : Below w4.heap.size w4 w5 := by rw [hw5']; exact below_alloc w4 _
    have p5 : Row w5 w4.heap.size 26 (gmV G (.slice Aa4 G.addons.length ca4) (.slice At4 G.tiers.length ct4)) := by rw [hw5']; exact Row.new w4 _ _
    clear hw5'
    have q5 := q4.below hB5
    have hF5 := hF4.trans (hB5.mono hz4)
    have hz5 := hF5.size
    have lA := load_game q5
    have lB := load_game p5
    have hGc := (hGb.below hB4).below hB5
    have hGd := hG4.below hB5
    refine W_piece fun K hK hX => ?_
    simp +contextual (maxSteps := 2000000) (disch := first | omega | (simp only [SZ]; first | done | omega) | (simp only [TS] at *; omega)) only [RZ, ovw, oneC, reduceAdd, reduceMul, reduceSub, reduceEqDiff, reduceLT, ↓reduceIte, Int.reduceToNat, reduceLeDiff,  lA, lB]
    refine (same_any G _ _ _ _ w5 hGc hGd hlit).mono ?_
    rintro e w6 ⟨rfl, hB6⟩
    refine ⟨_, rfl, ?_⟩
    have hF6 := hF5.trans (hB6.mono hz5)
    have hz6 := hF6.size
    have p6 := p5.below hB6
    have d0 : w6.cell? ⟨w4.heap.size, 0, none⟩ = _ := p6.cell (i := 0) rfl
    have d1 : w6.cell? ⟨w4.heap.size, 1, none⟩ = _ := p6.cell (i := 1) rfl
    have d2 : w6.cell? ⟨w4.heap.size, 2, none⟩ = _ := p6.cell (i := 2) rfl
    have d3 : w6.cell? ⟨w4.heap.size, 3, none⟩ = _ := p6.cell (i := 3) rfl
    have d4 : w6.cell? ⟨w4.heap.size, 4, none⟩ = _ := p6.cell (i := 4) rfl
    have d5 : w6.cell? ⟨w4.heap.size, 5, none⟩ = _ := p6.cell (i := 5) rfl
    have d6 : w6.cell? ⟨w4.heap.size, 6, none⟩ = _ := p6.cell (i := 6) rfl
    have d7 : w6.cell? ⟨w4.heap.size, 7, none⟩ = _ := p6.cell (i := 7) rfl
    have d8 : w6.cell? ⟨w4.heap.size, 8, none⟩ = _ := p6.cell (i := 8) rfl
    have d9 : w6.cell? ⟨w4.heap.size, 9, none⟩ = _ := p6.cell (i := 9) rfl
    have d10 : w6.cell? ⟨w4.heap.size, 10, none⟩ = _ := p6.cell (i := 10) rfl
    have d11 : w6.cell? ⟨w4.heap.size, 11, none⟩ = _ := p6.cell (i := 11) rfl
    have d12 : w6.cell? ⟨w4.heap.size, 12, none⟩ = _ := p6.cell (i := 12) rfl
    have d13 : w6.cell? ⟨w4.heap.size, 13, none⟩ = _ := p6.cell (i := 13) rfl
    have d14 : w6.cell? ⟨w4.heap.size, 14, none⟩ = _ := p6.cell (i := 14) rfl
    have d15 : w6.cell? ⟨w4.heap.size, 15, none⟩ = _ := p6.cell (i := 15) rfl
    have d16 : w6.cell? ⟨w4.heap.size, 16, none⟩ = _ := p6.cell (i := 16) rfl
    have d17 : w6.cell? ⟨w4.heap.size, 17, none⟩ = _ := p6.cell (i := 17) rfl
    have d18 : w6.cell? ⟨w4.heap.size, 18, none⟩ = _ := p6.cell (i := 18) rfl
    have d19 : w6.cell? ⟨w4.heap.size, 19, none⟩ = _ := p6.cell (i := 19) rfl
    have d20 : w6.cell? ⟨w4.heap.size, 20, none⟩ = _ := p6.cell (i := 20) rfl
    have d21 : w6.cell? ⟨w4.heap.size, 21, none⟩ = _ := p6.cell (i := 21) rfl
    try simp +contextual (maxSteps := 2000000) (disch := first | omega | (simp only [SZ]; first | done | omega) | (simp only [TS] at *; omega)) only [RZ, ovw, oneC, reduceAdd, reduceMul, reduceSub, reduceEqDiff, reduceLT, ↓reduceIte, Int.reduceToNat, reduceLeDiff,  d0, d1, d2, d3, d4, d5, d6, d7, d8, d9, d10, d11, d12, d13, d14, d15, d16, d17, d18, d19, d20, d21]
    have hPr := print_any G _ _ w6 (hW.below hF6 hw5) (by omega) (hGd.below hB6) hlit
    simp only [gmV] at hPr
    refine hPr.mono ?_
    rintro e w7 ⟨rfl, hB7⟩
    refine ⟨_, rfl, ?_⟩
    have hF7 := hF6.trans (hB7.mono hz6)
    try simp +contextual (maxSteps := 2000000) (disch := first | omega | (simp only [SZ]; first | done | omega) | (simp only [TS] at *; omega)) only [RZ, ovw, oneC, reduceAdd, reduceMul, reduceSub, reduceEqDiff, reduceLT, ↓reduceIte, Int.reduceToNat, reduceLeDiff]
    refine hend w7 hF7 fun w8 hF8 => ?_
    refine ⟨_, rfl, ?_⟩
    try simp +contextual (maxSteps := 2000000) (disch := first | omega | (simp only [SZ]; first | done | omega) | (simp only [TS] at *; omega)) only [RZ, ovw, oneC, reduceAdd, reduceMul, reduceSub, reduceEqDiff, reduceLT, ↓reduceIte, Int.reduceToNat, reduceLeDiff]
    refine hK _ _ ?_
    clear hK hX K
    simp +contextual (maxSteps := 2000000) (disch := first | omega | (simp only [SZ]; first | done | omega) | (simp only [TS] at *; omega)) only [RZ, ovw, oneC, reduceAdd, reduceMul, reduceSub, reduceEqDiff, reduceLT, ↓reduceIte, Int.reduceToNat, reduceLeDiff]
    exact hF8
end Go.Proofs.YtbdkggnajipdhaaGreatDoor
/- From a contract to a row: the arguments are opened; behind the call they read as before, for nothing below has turned. -/
namespace Go.Proofs.YtbdkggnajipdhaaGreatDoor
open Go.ChangeShapes Go.WideShapes Go.ChangeAt Go.RowKit Go.Joins Go.Deep
theorem ownNone : ownKnob Tryz.prog.godebug = none := by kernel_rfl
theorem laidAll : laidOutB Tryz.prog = true := by kernel_rfl
section
variable {H : Type} {enc : TypeId × Value → H} {P : Program} {W W' : World} {sp : Nat → Bool}
theorem trodAll_stay (hl : laidOutB P = true) : ∀ (ts : List TypeId) (vs : List Value) (ds : List (DataW H)) (ps : List MemPlace), (∀ t ∈ ts, P.readableRec t = true ∧ t < P.types.size) →
    DataW.TrodAll enc P W 0 (fun _ => true) true ts vs ds ps → (∀ p ∈ ps, W.sameAt W' p) → (∀ p ∈ ps, sp p.block = true) → DataW.TrodAll enc P W' 0 sp true ts vs ds ps
  | [], [], [], ps, _, h, _, _ => h
  | t :: ts, v :: vs, d :: ds, ps, ht, ⟨p, q, h1, h2, e⟩, hs, hp =>
    ⟨p, q, WideElems.Trod_stays hl (ht t (by simp)).1 (ht t (by simp)).2 h1 (fun x hx => hs x (by rw [e]; simp [hx])) (fun x hx => hp x (by rw [e]; simp [hx])),
      trodAll_stay hl ts vs ds q (fun t' h' => ht t' (by simp [h'])) h2 (fun x hx => hs x (by rw [e]; simp [hx])) (fun x hx => hp x (by rw [e]; simp [hx])), e⟩
  | [], _ :: _, _, _, _, h, _, _ => h.elim
  | [], [], _ :: _, _, _, h, _, _ => h.elim
  | _ :: _, [], _, _, _, h, _, _ => h.elim
  | _ :: _, _ :: _, [], _, _, h, _, _ => h.elim
/-- The closing of a law's row: true is returned, and nothing that was there has turned. -/
theorem row_close {f : Func} {s : ChangeSpec} {fid : FuncId} {args : Array Value} {ds gs : List (DataW H)} {before : List MemPlace} {tb : TypeId} (hl : laidOutB P = true)
    (hts : f.params.toList.all (fun t => P.readableRec t && decide (t < P.types.size)) = true) (hvars : s.vars = []) (hres : f.resultTypes = #[tb]) (hb : P.underlying tb = some .bool)
    (hW : DataW.Whole enc P f.params.toList s.vars false W args.toList ds gs before)
    (h1 : (s.fn H ds).results = [.lit (.bool true)]) (h2 : (s.fn H ds).args = ds) (h3 : (s.fn H ds).vars = [])
    (walk : Calls P fid args W fun e W' => e = .returned (.bool true) ∧ Below W.heap.size W W') :
    Calls P fid args W fun e W' => ∃ v, e = .returned v ∧ s.post enc P f false true false false W args v W' := by
  have ht : ∀ t ∈ f.params.toList, P.readableRec t = true ∧ t < P.types.size := fun t h => by simpa using List.all_eq_true.1 hts t h
  refine walk.mono fun e W' ⟨he, hg⟩ => ⟨_, he, ?_⟩
  have hW' := hW
  obtain ⟨p, q, hA, hV, e, hfz, hnd⟩ := hW
  rw [hvars] at hV
  obtain ⟨rfl, rfl⟩ := trodVars_none hV
  have hlt := hW'.lt
  rw [List.append_nil] at e
  subst e
  have hnil : ds ++ ([] : List (DataW H)) = ds := List.append_nil ds
  have res : ∀ (b : Nat) (sp : Nat → Bool) (hd : Bool), DataW.TrodAll enc P W' b sp hd f.resultTypes.toList ((Value.bool true).resultList f.resultTypes.size) (s.fn H (ds ++ [])).results [] := fun b sp hd => by
    rw [hnil, h1, hres]; exact trodAll_mk1 (shut_bool hb _)
  have arg : ∀ sp : Nat → Bool, (∀ x ∈ before, sp x.block = true) → DataW.TrodAll enc P W' 0 sp true f.params.toList args.toList (s.fn H (ds ++ [])).args before := fun sp hsp => by
    rw [hnil, h2]; exact trodAll_stay hl _ _ _ _ ht hA (fun x hx => hg.same (hlt x hx)) hsp
  have vars : ∀ sp : Nat → Bool, DataW.TrodVars enc P W' sp s.vars (s.fn H (ds ++ [])).vars [] := fun sp => by
    rw [hnil, h3, hvars]; rfl
  have old : ∀ x ∈ before, (fun b => decide (b < W.heap.size)) x.block = true := fun x hx => by simpa using hlt x hx
  exact ⟨ds, [], before, [], before, [], hW', res _ _ _, arg _ old, vars _, hg.frame _, fun h => by cases h⟩
end
end Go.Proofs.YtbdkggnajipdhaaGreatDoor
/- Arguments of chapter 11: a game. -/
namespace Go.Proofs.YtbdkggnajipdhaaGreatDoor
open Go.ChangeShapes Go.WideShapes Go.ChangeAt Go.RowKit Go.Joins Go.Deep
set_option maxRecDepth 100000
end Go.Proofs.YtbdkggnajipdhaaGreatDoor
/- What the row says of the listed variables, as the walks ask it; the witness's world. -/
namespace Go.Proofs.YtbdkggnajipdhaaGreatDoor
open Go.ChangeShapes Go.WideShapes Go.ChangeAt Go.WideMaps Go.WideElems Go.RowKit Go.Joins Go.Deep
set_option maxRecDepth 100000
def laidL : List (String × DataW Unit) := Rows.ruletextPrintsRow.laid
theorem days_data : (Rows.laid_lottery_ruletext_dayNames : DataW Unit) = .agg (dayW.map fun d => .lit (.string (d.map UInt8.ofNat))) := by kernel_rfl
theorem days_cells {W : World} {fuel : Nat} {cs : List Value} {p : List MemPlace} (h : DataW.trod (fun _ => ()) Tryz.prog W 0 (fun _ => true) false fuel 102 cs = some (Rows.laid_lottery_ruletext_dayNames, p)) :
    ∀ (i : Nat) (v : Value), dayC[i]? = some v → cs[i]? = some v := by
  rw [days_data] at h
  obtain ⟨xs, m, rfl, hx, hlen, hn, hel⟩ := DataW.trod_array Tryz.underlying102 h
  have hC : Tryz.prog.cellsOf 9 = 1 := by kernel_rfl
  rw [hC] at hel
  simp only [Prod.mk.injEq, DataW.agg.injEq] at hx
  intro i v hv
  unfold dayC at hv
  rw [List.getElem?_map] at hv
  obtain ⟨d, hd, rfl⟩ := Option.map_eq_some_iff.1 hv
  have hi : i < 7 := (List.getElem?_eq_some_iff.1 hd).1
  have h1 := hel i hi
  have h2 : (xs.map (·.1))[i]? = some (.lit (.string (d.map UInt8.ofNat))) := by rw [← hx.1, List.getElem?_map, hd]; rfl
  rw [List.getElem?_map] at h2
  obtain ⟨x, hxi, hx2⟩ := Option.map_eq_some_iff.1 h2
  rw [hxi] at h1
  obtain ⟨s1, e1, d1, _⟩ := DataW.trod_string Tryz.underlying9 h1
  subst d1
  simp only [DataW.lit.injEq, Lit.string.injEq] at hx2
  have t1 : s1 = toBA d := by
    apply ByteArray.ext; apply Array.ext'; rw [hx2]; rfl
  subst t1
  have := congrArg (·[0]?) e1
  simp only [List.getElem?_cons_zero] at this
  rw [List.getElem?_take_of_lt (by decide), List.getElem?_drop] at this
  simpa using this
theorem laid_of {W : World} (h : laidMetH Tryz.prog laidL W) : Laid W := by
  rw [MakeChecks.laidMetH_plain _ _ _ (by kernel_rfl)] at h
  obtain ⟨ps, hv, _⟩ := h
  obtain ⟨g0, t0, cs0, f0, p0, q0, hg0, ht0, hv0, hd0, hr0, _⟩ := hv
  obtain ⟨g1, t1, cs1, f1, p1, q1, hg1, ht1, hv1, hd1, hr1, _⟩ := hr0
  obtain ⟨g2, t2, cs2, f2, p2, q2, hg2, ht2, hv2, hd2, hr2, _⟩ := hr1
  obtain ⟨g3, t3, cs3, f3, p3, q3, hg3, ht3, hv3, hd3, hr3, _⟩ := hr2
  obtain rfl := Option.some.inj ((show Tryz.prog.globalNamed "math/bits.deBruijn64tab" = some 8 by kernel_rfl).symm.trans hg1)
  obtain rfl := Option.some.inj ((show Tryz.prog.globalNamed "internal/strconv.uint64pow10" = some 6 by kernel_rfl).symm.trans hg2)
  obtain rfl := Option.some.inj ((show Tryz.prog.globalNamed "lottery/ruletext.dayNames" = some 0 by kernel_rfl).symm.trans hg3)
  obtain rfl := Option.some.inj ((show (Tryz.prog.globals[6]?).map (·.type) = some 167 by kernel_rfl).symm.trans ht2)
  obtain rfl := Option.some.inj ((show (Tryz.prog.globals[0]?).map (·.type) = some 102 by kernel_rfl).symm.trans ht3)
  refine ⟨?_, fun i v hi => ?_, ?_⟩
  · have : W.heap[8]?.isSome = true := by
      unfold World.var? at hv1
      rw [hg1] at hv1
      simp only [Option.bind_some] at hv1
      cases hh : W.heap[8]? with
      | none => rw [hh] at hv1; simp at hv1
      | some o => rfl
    obtain ⟨o, ho⟩ := Option.isSome_iff_exists.1 this
    exact (Array.getElem?_eq_some_iff.1 ho).1
  · rw [World.var?_cell hg3 hv3 i]
    have := days_cells hd3 i v hi
    simpa using this
  · have hc := Lib.cells_of_tab (k := .u64) (zs := Lib.pow10Tab) Tryz.underlying167 Tryz.underlying128 (by kernel_rfl) (by kernel_rfl) (show DataW.trod _ _ _ _ _ _ _ _ _ = some (Lib.tabData .u64 Lib.pow10Tab, p2) from hd2)
    unfold Lib.TabIs
    rw [hv2, ← hc]
/-- The door's own heap meets the condition. -/
theorem door_met (os : Os) (args : Array Value) : laidMetH Tryz.prog laidL ((World.doorLaid Tryz.prog 4000 os).forCall (fun _ _ => 0) ⟨#[], args, []⟩).memory :=
  laidMetH_of_parts3 (fuel := 8) (laidMet_of_run' 8 (by kernel_rfl) (by kernel_rfl)) (by kernel_rfl) (by kernel_rfl)
end Go.Proofs.YtbdkggnajipdhaaGreatDoor
