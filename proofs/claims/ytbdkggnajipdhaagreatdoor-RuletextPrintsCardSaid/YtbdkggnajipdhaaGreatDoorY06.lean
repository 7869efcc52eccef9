/- Texts laid one behind the other: DkT, DkU, RtP, LexA, LexB, Shelf, LexC. Each says at its head what it proves. -/
import Derived.Test.YtbdkggnajipdhaaGreatDoorY05
import Derived.Lib.ItoaLen
import Derived.Shelf.Strings.Builder1
import Derived.Shelf.Strconv.Itoa0
import Derived.Shelf.Strconv.Itoa1
import Derived.Shelf.LaysM
import Derived.Shelf.Strconv.Itoa2
import Derived.Shelf.Strconv.Itoa3
import Derived.Shelf.Strings.Search1
import Derived.Shelf.Strings.Search2
import Derived.Shelf.Strings.Search3
import Derived.Shelf.Strings.Count
import Derived.Shelf.Strings.Shaped
import Derived.Shelf.Strings.LastIndex
import Derived.Shelf.Unicode.Latin
import Derived.Shelf.Unicode.DecodeSlow
import Derived.Shelf.Unicode.Is16White
import Derived.Shelf.Unicode.IsSpaceAny
import Derived.Shelf.Unicode.Is16Any
import Derived.Shelf.Unicode.Is32Any
import Derived.Shelf.Unicode.ExclAny
import Derived.Test.YtbdkggnajipdhaaGreatDoorProg
set_option linter.unusedSimpArgs false
/- Plain: chapter 41, what is printed is read again as the plan. No program in sight. -/
namespace Go.Proofs.YtbdkggnajipdhaaGreatDoor
theorem lexR_tok {k : Nat} {t : List Nat} (h : good k t) (r : List Nat) (hr : ∀ c r', r = c :: r' → wordB c = false ∧ digitB c = false) (at_ : Nat) : lexR at_ (t ++ r) = consR (k, at_, t.length) (lexR (at_ + t.length) r) := by
  obtain ⟨hp, hne⟩ := good_piece h r hr
  have hk := (good_kind h).1
  cases t with
  | nil => exact absurd rfl hne
  | cons c t =>
    rw [List.cons_append] at hp ⊢
    rw [lexR_cons, hp, if_neg (by simp), if_neg hk]
    simp only
    rw [show (c :: (t ++ r)).drop (c :: t).length = r from by simp]
/-- A text and what stands in it: kinds and words. -/
def Lx (l : List Nat) (S : List (Nat × List Nat)) : Prop :=
  ∀ at_, ∃ T, lexR at_ l = .ok T ∧ (∀ t ∈ T, at_ ≤ t.2.1) ∧ T.map (fun t => (t.1, (l.drop (t.2.1 - at_)).take t.2.2)) = S
theorem Lx_nil : Lx [] [] := fun _ => ⟨[], rfl, fun t h => (by simp at h), rfl⟩
theorem Lx_blank {b : Nat} {r : List Nat} {S : List (Nat × List Nat)} (hb : blankB b = true) (h : Lx r S) : Lx (b :: r) S := fun at_ => by
  obtain ⟨T, h1, h2, h3⟩ := h (at_ + 1)
  refine ⟨T, by rw [blank_one hb, h1], fun t ht => by have := h2 t ht; omega, ?_⟩
  rw [← h3]
  refine List.map_congr_left fun t ht => ?_
  have := h2 t ht
  rw [show t.2.1 - at_ = (t.2.1 - (at_ + 1)) + 1 by omega, List.drop_succ_cons]
theorem Lx_tok {k : Nat} {t r : List Nat} {S : List (Nat × List Nat)} (hg : good k t) (hr : ∀ c r', r = c :: r' → wordB c = false ∧ digitB c = false) (h : Lx r S) : Lx (t ++ r) ((k, t) :: S) := fun at_ => by
  obtain ⟨T, h1, h2, h3⟩ := h (at_ + t.length)
  refine ⟨(k, at_, t.length) :: T, by rw [lexR_tok hg r hr, h1]; rfl, fun x hx => ?_, ?_⟩
  · rcases List.mem_cons.1 hx with rfl | hx
    · exact Nat.le_refl _
    · have := h2 x hx; omega
  · rw [List.map_cons]
    congr 1
    · simp
    · rw [← h3]
      refine List.map_congr_left fun x hx => ?_
      have := h2 x hx
      rw [show x.2.1 - at_ = t.length + (x.2.1 - (at_ + t.length)) by omega, List.drop_append, List.drop_eq_nil_of_le (by omega), List.nil_append, Nat.add_sub_cancel_left]
def Kt (t : Tk) : Int × List Nat := (t.kind, bs t.text)
/-- A whole text's tokens. -/
theorem scan_Lx {s : ByteArray} {S : List (Nat × List Nat)} (hs : s.size ≤ 32768) (h : Lx (bs s) S) :
    ∃ L, scanE s = (0, 0, L) ∧ L.map Kt = S.map (fun x => ((x.1 : Int), x.2)) ++ [(0, [])] := by
  obtain ⟨T, h1, _, h3⟩ := h 0
  refine ⟨T.map (tokOf s) ++ [endTok s], by unfold scanE; rw [if_neg (by omega), h1], ?_⟩
  rw [List.map_append, ← h3, List.map_map, List.map_map]
  congr 1
  refine List.map_congr_left fun t _ => ?_
  show ((t.1 : Int), bs (s.extract t.2.1 (t.2.1 + t.2.2))) = _
  rw [bs_extract, Nat.add_sub_cancel_left]
  rfl
/-! The tokens of a printed plan. -/
theorem dec_len {u : Nat} (h : u < 1000000000000000000) : (dec u).length ≤ 18 := by
  have key : ∀ (k u : Nat), u < 10 ^ (k + 1) → (dec u).length ≤ k + 1 := by
    intro k
    induction k with
    | zero => intro u h; rw [dec_lt (by simpa using h)]; simp
    | succ k ih =>
      intro u h
      by_cases h1 : u < 10
      · rw [dec_lt h1]; simp
      · rw [dec_ge h1, List.length_append]
        have := ih (u / 10) (by rw [Nat.pow_succ] at h; omega)
        simp only [List.length_cons, List.length_nil]
        omega
  exact key 17 u h
theorem good_dec {u : Nat} (h : u < 1000000000000000000) : good 2 (dec u) := by
  refine Or.inr (Or.inl ⟨rfl, ?_, fun c hc => by have := dec_all u c hc; unfold digitB; simp [this]⟩)
  have hl := dec_len h
  by_cases h1 : u < 10
  · rw [dec_lt h1]
    exact ⟨_, [], rfl, by simp [badN]⟩
  · obtain ⟨c, r, h2, h3⟩ := dec_head u (by omega)
    refine ⟨c, r, h2, ?_⟩
    unfold badN
    simp only [Bool.or_eq_false_iff, decide_eq_false_iff_not, Bool.and_eq_false_iff, beq_eq_false_iff_ne]
    exact ⟨by omega, Or.inr h3⟩
theorem good_name {s : ByteArray} (h : nameB s = true) : good 1 (bs s) := by
  simp only [nameB, Bool.and_eq_true, decide_eq_true_eq, List.all_eq_true, List.mem_range] at h
  obtain ⟨⟨h1, _⟩, h2⟩ := h
  refine Or.inl ⟨rfl, ?_, fun c hc => ?_⟩
  · have h0 := h2 0 (by omega)
    have hb := bs_get (s := s) (i := 0) (by omega)
    cases hl : bs s with
    | nil => rw [hl] at hb; cases hb
    | cons c r =>
      rw [hl, List.getElem?_cons_zero] at hb
      injection hb with hb
      refine ⟨c, r, rfl, ?_⟩
      subst hb
      simp only [nmAt, nmLow, Bool.or_eq_true, Bool.and_eq_true, decide_eq_true_eq] at h0
      unfold letterB
      simp only [Bool.and_eq_true, decide_eq_true_eq]
      omega
  · obtain ⟨j, hj⟩ := List.mem_iff_getElem?.1 hc
    have hjl : j < s.size := by have := (List.getElem?_eq_some_iff.1 hj).1; rwa [bs_len] at this
    have hb := bs_get hjl
    rw [hb] at hj
    injection hj with hj
    subst hj
    have h0 := h2 j hjl
    simp only [nmAt, nmLow, nmMore, Bool.or_eq_true, Bool.and_eq_true, decide_eq_true_eq] at h0
    unfold wordB letterB digitB
    simp only [Bool.or_eq_true, Bool.and_eq_true, decide_eq_true_eq, beq_iff_eq]
    omega
/-- What follows a word begins with none of its bytes. -/
theorem sepC {b : Nat} {l : List Nat} (h : wordB b = false ∧ digitB b = false) : ∀ c r', b :: l = c :: r' → wordB c = false ∧ digitB c = false := fun c r' e => by injection e with e1 _; rw [← e1]; exact h
theorem sep32 {l : List Nat} : ∀ c r', 32 :: l = c :: r' → wordB c = false ∧ digitB c = false := sepC (by decide)
theorem sep10 {l : List Nat} : ∀ c r', 10 :: l = c :: r' → wordB c = false ∧ digitB c = false := sepC (by decide)
theorem sep59 {l : List Nat} : ∀ c r', asc ";" ++ l = c :: r' → wordB c = false ∧ digitB c = false := sepC (by decide)
theorem gw {w : List Nat} (h : w ≠ [] ∧ w.all letterB = true) : good 1 w := by
  obtain ⟨h1, h2⟩ := h
  rw [List.all_eq_true] at h2
  cases w with
  | nil => exact absurd rfl h1
  | cons c r => exact Or.inl ⟨rfl, ⟨c, r, rfl, h2 c (by simp)⟩, fun d hd => by unfold wordB; rw [h2 d hd]; rfl⟩
theorem gm {c : Nat} (h : markB c = true) : good 3 [c] := Or.inr (Or.inr ⟨rfl, c, rfl, h⟩)
def lvlS (v : Lvl) : List (Nat × List Nat) := [(1, asc "prize"), (2, dec v.prize.toNat), (1, asc "count"), (2, dec v.count.toNat), (1, asc "pack"), (2, dec v.pack.toNat), (3, asc ";")]
def headS (p : Pl) : List (Nat × List Nat) := [(1, asc "deck"), (1, bs p.name), (3, asc "{"), (1, asc "price"), (2, dec p.price.toNat), (3, asc ";"), (1, asc "packs"), (2, dec p.packs.toNat), (1, asc "of"), (2, dec p.size.toNat), (3, asc ";")]
def planS (p : Pl) : List (Nat × List Nat) := headS p ++ (p.levels.flatMap lvlS ++ [(3, asc "}")])
theorem fit_nat {n : Int} (h : fitB n = true) : 0 ≤ n ∧ n.toNat < 1000000000000000000 := by
  unfold fitB at h
  simp only [Bool.and_eq_true, decide_eq_true_eq] at h
  omega
theorem fmt_dec {n : Int} (h : fitB n = true) : fmtI n = dec n.toNat := fmtI_nonneg (fit_nat h).1
theorem lvl_text {v : Lvl} (h : v.fits = true) (r : List Nat) : lvlT v ++ r =
    asc "prize" ++ (32 :: (dec v.prize.toNat ++ (32 :: (asc "count" ++ (32 :: (dec v.count.toNat ++ (32 :: (asc "pack" ++ (32 :: (dec v.pack.toNat ++ (asc ";" ++ (10 :: r)))))))))))) := by
  unfold Lvl.fits at h
  simp only [Bool.and_eq_true] at h
  unfold lvlT
  rw [fmt_dec h.1.1, fmt_dec h.1.2, fmt_dec h.2, show asc "prize " = asc "prize" ++ [32] by kernel_rfl, show asc " count " = 32 :: (asc "count" ++ [32]) by kernel_rfl, show asc " pack " = 32 :: (asc "pack" ++ [32]) by kernel_rfl, show asc ";\n" = asc ";" ++ [10] by kernel_rfl]
  simp only [List.append_assoc, List.cons_append, List.nil_append]
theorem lvl_Lx {v : Lvl} (h : v.fits = true) {r : List Nat} {S : List (Nat × List Nat)} (hr : Lx r S) : Lx (lvlT v ++ r) (lvlS v ++ S) := by
  rw [lvl_text h]
  unfold Lvl.fits at h
  simp only [Bool.and_eq_true] at h
  have b32 : blankB 32 = true := by decide
  exact Lx_tok (gw (by decide +kernel)) sep32 (Lx_blank b32 (Lx_tok (good_dec (fit_nat h.1.1).2) sep32 (Lx_blank b32 (Lx_tok (gw (by decide +kernel)) sep32 (Lx_blank b32 (Lx_tok (good_dec (fit_nat h.1.2).2) sep32 (Lx_blank b32
    (Lx_tok (gw (by decide +kernel)) sep32 (Lx_blank b32 (Lx_tok (good_dec (fit_nat h.2).2) sep59 (Lx_tok (gm (by decide)) sep10 (Lx_blank (by decide) hr))))))))))))
theorem lvls_Lx : ∀ (V : List Lvl), V.all Lvl.fits = true → ∀ {r : List Nat} {S : List (Nat × List Nat)}, Lx r S → Lx (V.flatMap lvlT ++ r) (V.flatMap lvlS ++ S)
  | [], _, _, _, h => h
  | v :: V, hV, r, S, h => by
    rw [List.all_cons, Bool.and_eq_true] at hV
    rw [List.flatMap_cons, List.flatMap_cons, List.append_assoc, List.append_assoc]
    exact lvl_Lx hV.1 (lvls_Lx V hV.2 h)
theorem head_text {p : Pl} (h : (fitB p.price && fitB p.packs && fitB p.size) = true) (r : List Nat) : headT p ++ r =
    asc "deck" ++ (32 :: (bs p.name ++ (32 :: (asc "{" ++ (10 :: (asc "price" ++ (32 :: (dec p.price.toNat ++ (asc ";" ++ (10 :: (asc "packs" ++ (32 :: (dec p.packs.toNat ++ (32 :: (asc "of" ++ (32 :: (dec p.size.toNat ++ (asc ";" ++ (10 :: r))))))))))))))))))) := by
  simp only [Bool.and_eq_true] at h
  unfold headT
  rw [fmt_dec h.1.1, fmt_dec h.1.2, fmt_dec h.2, show asc "deck " = asc "deck" ++ [32] by kernel_rfl, show asc " {\n" = 32 :: (asc "{" ++ [10]) by kernel_rfl, show asc "price " = asc "price" ++ [32] by kernel_rfl, show asc "packs " = asc "packs" ++ [32] by kernel_rfl,
    show asc " of " = 32 :: (asc "of" ++ [32]) by kernel_rfl, show asc ";\n" = asc ";" ++ [10] by kernel_rfl]
  simp only [List.append_assoc, List.cons_append, List.nil_append]
theorem plan_Lx {p : Pl} (hn : nameB p.name = true) (h : (fitB p.price && fitB p.packs && fitB p.size) = true) (hV : p.levels.all Lvl.fits = true) : Lx (headT p ++ p.levels.flatMap lvlT ++ asc "}\n") (planS p) := by
  rw [List.append_assoc, head_text h, show asc "}\n" = asc "}" ++ [10] by kernel_rfl]
  simp only [Bool.and_eq_true] at h
  have b32 : blankB 32 = true := by decide
  have b10 : blankB 10 = true := by decide
  have he : Lx (asc "}" ++ [10]) [(3, asc "}")] := Lx_tok (gm (by decide)) sep10 (Lx_blank b10 Lx_nil)
  have hl := lvls_Lx p.levels hV he
  exact Lx_tok (gw (by decide +kernel)) sep32 (Lx_blank b32 (Lx_tok (good_name hn) sep32 (Lx_blank b32 (Lx_tok (gm (by decide)) sep10 (Lx_blank b10 (Lx_tok (gw (by decide +kernel)) sep32 (Lx_blank b32 (Lx_tok (good_dec (fit_nat h.1.1).2) sep59
    (Lx_tok (gm (by decide)) sep10 (Lx_blank b10 (Lx_tok (gw (by decide +kernel)) sep32 (Lx_blank b32 (Lx_tok (good_dec (fit_nat h.1.2).2) sep32 (Lx_blank b32 (Lx_tok (gw (by decide +kernel)) sep32 (Lx_blank b32 (Lx_tok (good_dec (fit_nat h.2).2) sep59
      (Lx_tok (gm (by decide)) sep10 (Lx_blank b10 hl)))))))))))))))))))
end Go.Proofs.YtbdkggnajipdhaaGreatDoor
/- Plain: chapter 41, a printed plan is read again as the plan; the tokens' numbers are numbers. No program in sight. -/
namespace Go.Proofs.YtbdkggnajipdhaaGreatDoor
theorem valD_bd : ∀ (l : List Nat) (a : Nat), (∀ c ∈ l, digitB c = true) → valD a l < (a + 1) * 10 ^ l.length
  | [], a, _ => by simp [valD]
  | c :: r, a, h => by
    have hc := h c (by simp)
    unfold digitB at hc
    simp only [Bool.and_eq_true, decide_eq_true_eq] at hc
    have ih := valD_bd r (a * 10 + (c - 48)) fun d hd => h d (by simp [hd])
    have e : valD a (c :: r) = valD (a * 10 + (c - 48)) r := rfl
    rw [e, List.length_cons, Nat.pow_succ]
    refine Nat.lt_of_lt_of_le ih ?_
    rw [Nat.mul_comm (10 ^ r.length) 10, ← Nat.mul_assoc]
    exact Nat.mul_le_mul_right _ (by omega)
theorem num_good {t : List Nat} (h : good 2 t) : (numE t).2 = 0 := by
  rcases h with ⟨h, _⟩ | ⟨_, ⟨c, r, rfl, hb⟩, hall⟩ | ⟨h, _⟩
  · cases h
  · have hc := hall c (by simp)
    unfold digitB at hc
    simp only [Bool.and_eq_true, decide_eq_true_eq] at hc
    unfold badN at hb
    simp only [Bool.or_eq_false_iff, decide_eq_false_iff_not, Bool.and_eq_false_iff, beq_eq_false_iff_ne] at hb
    have hn : negB (c :: r) = false := by
      unfold negB
      split
      · rename_i e; injection e with e _; omega
      · rfl
    have hm : magL (c :: r) = c :: r := by unfold magL; rw [hn]; rfl
    have hd : decOK (c :: r) = true := by
      show ((c != 48 || r.isEmpty) && (c :: r).all digitB) = true
      rw [List.all_eq_true.2 hall, Bool.and_true]
      rcases hb.2 with h1 | h1
      · cases r with
        | nil => simp
        | cons d r => simp at h1
      · simp [h1]
    have hv : valD 0 (c :: r) < 1000000000000000000 := by
      have h1 := valD_bd (c :: r) 0 hall
      have h2 : 10 ^ (c :: r).length ≤ 10 ^ 18 := Nat.pow_le_pow_right (by decide) (by omega)
      have h3 : (10 : Nat) ^ 18 = 1000000000000000000 := by decide
      omega
    unfold numE
    rw [hm, hn, hd, if_neg (by simp), if_neg (by simp), if_neg (by omega)]
  · cases h
theorem NumOk_scan (s : ByteArray) : NumOk (scanE s).2.2 := by
  unfold scanE
  split
  · intro t h; cases h
  · cases hT : lexR 0 (bs s) with
    | error e => intro t h; cases h
    | ok T =>
      intro t ht hk
      rcases List.mem_append.1 ht with ht | ht
      · obtain ⟨x, hx, rfl⟩ := List.mem_map.1 ht
        obtain ⟨_, _, _, hg⟩ := lexR_good _ _ _ _ (Nat.le_refl _) hT x hx
        have hk' : (x.1 : Int) = 2 := hk
        have hk2 : x.1 = 2 := by omega
        rw [hk2] at hg
        have : bs (tokOf s x).text = ((bs s).drop (x.2.1 - 0)).take x.2.2 := by
          show bs (s.extract x.2.1 (x.2.1 + x.2.2)) = _
          rw [bs_extract, Nat.add_sub_cancel_left, Nat.sub_zero]
        rw [this]
        exact num_good hg
      · simp only [List.mem_singleton] at ht
        subst ht
        cases hk
theorem parse_ref (s : ByteArray) : rparseP s = parseP s := parse_same s (NumOk_scan s)
/-! Reading what was printed. -/
theorem st_next {L : List Tk} {k : Int} {w : List Nat} {M : List (Int × List Nat)} (h : L.map Kt = (k, w) :: M) (hM : M ≠ []) : (hdT L).kind = k ∧ bs (hdT L).text = w ∧ (nxT L).map Kt = M := by
  match L, h with
  | [], h => cases h
  | [t], h =>
    simp only [List.map_cons, List.map_nil, List.cons.injEq] at h
    exact absurd h.2.symm hM
  | t :: u :: r, h =>
    simp only [List.map_cons, List.cons.injEq, Kt, Prod.mk.injEq] at h
    exact ⟨h.1.1, h.1.2, by rw [← h.2]; rfl⟩
theorem st_is {L : List Tk} {k : Int} {w : List Nat} {M : List (Int × List Nat)} (h : L.map Kt = (k, w) :: M) (hM : M ≠ []) : isT k w L = some (nxT L) ∧ (nxT L).map Kt = M :=
  ⟨isT_yes (st_next h hM).1 (st_next h hM).2.1, (st_next h hM).2.2⟩
theorem st_num {L : List Tk} {n : Int} {M : List (Int × List Nat)} (hn : fitB n = true) (h : L.map Kt = (2, dec n.toNat) :: M) (hM : M ≠ []) : numT L = some (n, nxT L) ∧ (nxT L).map Kt = M := by
  obtain ⟨h1, h2, h3⟩ := st_next h hM
  have e : numE (dec n.toNat) = (n, 0) := by
    rw [← fmt_dec hn]
    have := fit_nat hn
    exact numE_fmt (by omega) (by omega)
  refine ⟨?_, h3⟩
  unfold numT
  rw [h1, h2, e, if_pos ⟨rfl, rfl⟩]
def inK (S : List (Nat × List Nat)) : List (Int × List Nat) := S.map fun x => ((x.1 : Int), x.2)
theorem level_read {v : Lvl} (hv : v.fits = true) {L : List Tk} {M : List (Int × List Nat)} (hM : M ≠ [])
    (h : L.map Kt = (2, dec v.prize.toNat) :: (1, asc "count") :: (2, dec v.count.toNat) :: (1, asc "pack") :: (2, dec v.pack.toNat) :: M) : ∃ L', levelT L = .ok (v, L') ∧ L'.map Kt = M := by
  unfold Lvl.fits at hv
  simp only [Bool.and_eq_true] at hv
  obtain ⟨e1, h1⟩ := st_num hv.1.1 h (by simp)
  obtain ⟨e2, h2⟩ := st_is h1 (by simp)
  obtain ⟨e3, h3⟩ := st_num hv.1.2 h2 (by simp)
  obtain ⟨e4, h4⟩ := st_is h3 (by simp)
  obtain ⟨e5, h5⟩ := st_num hv.2 h4 hM
  refine ⟨_, ?_, h5⟩
  unfold levelT
  rw [e1]
  dsimp only [thenT]
  rw [e2]
  dsimp only
  rw [e3]
  dsimp only
  rw [e4]
  dsimp only
  rw [e5]
theorem ne_price : asc "prize" ≠ asc "price" := by decide +kernel
theorem ne_packs : asc "prize" ≠ asc "packs" := by decide +kernel
theorem ne_pp : asc "packs" ≠ asc "price" := by decide +kernel
theorem not_end {L : List Tk} {w : List Nat} {M : List (Int × List Nat)} (h : L.map Kt = (1, w) :: M) (hM : M ≠ []) : isT 3 (asc "}") L = none :=
  isT_no fun e => absurd ((st_next h hM).1.symm.trans e.1) (by decide)
theorem items_read : ∀ (V : List Lvl) (f : Nat) (L : List Tk) (p : Pl) (pr pa : Bool), V.all Lvl.fits = true → V.length < f → L.map Kt = inK (V.flatMap lvlS) ++ [(3, asc "}"), (0, [])] →
    itemsT f L p pr pa = .ok { p with levels := p.levels ++ V }
  | _, 0, _, _, _, _, _, h, _ => absurd h (Nat.not_lt_zero _)
  | [], f + 1, L, p, pr, pa, _, _, h => by
    obtain ⟨e1, h1⟩ := st_is (k := 3) (w := asc "}") (M := [(0, [])]) h (by simp)
    rw [itemsT, e1]
    dsimp only
    have hk : (hdT (nxT L)).kind = 0 := by
      cases hn : nxT L with
      | nil => rfl
      | cons t r => rw [hn] at h1; simp only [List.map_cons, List.cons.injEq, Kt, Prod.mk.injEq] at h1; exact h1.1.1
    rw [if_pos hk, List.append_nil]
  | v :: V, f + 1, L, p, pr, pa, hV, hf, h => by
    rw [List.all_cons, Bool.and_eq_true] at hV
    have hL : L.map Kt = (1, asc "prize") :: (2, dec v.prize.toNat) :: (1, asc "count") :: (2, dec v.count.toNat) :: (1, asc "pack") :: (2, dec v.pack.toNat) :: (3, asc ";") :: (inK (V.flatMap lvlS) ++ [(3, asc "}"), (0, [])]) := h
    obtain ⟨k1, w1, h1⟩ := st_next hL (by simp)
    obtain ⟨L2, e2, h2⟩ := level_read hV.1 (by simp) h1
    obtain ⟨e3, h3⟩ := st_is h2 (by simp)
    rw [itemsT, not_end hL (by simp)]
    have eI : itemT L p pr pa = .ok (({ p with levels := p.levels ++ [v] }, pr, pa), nxT L2) := by
      unfold itemT
      rw [if_neg (fun e => e k1), w1, if_neg ne_price, if_neg ne_packs, if_pos rfl, e2]
      dsimp only
      rw [e3]
      rfl
    rw [eI]
    dsimp only
    rw [items_read V f (nxT L2) _ pr pa hV.2 (by simpa using hf) h3]
    simp
theorem plan_read {p : Pl} (h : (fitB p.price && fitB p.packs && fitB p.size) = true) (hV : p.levels.all Lvl.fits = true) {L : List Tk} (hL : L.map Kt = inK (planS p) ++ [(0, [])]) :
    ∃ nm, bs nm = bs p.name ∧ planT L = .ok { p with name := nm } := by
  simp only [Bool.and_eq_true] at h
  have hlen : p.levels.length + 2 < L.length + 1 := by
    have e := congrArg List.length hL
    have hl : p.levels.length ≤ (p.levels.flatMap lvlS).length := by
      rw [List.length_flatMap]
      generalize p.levels = V
      induction V with
      | nil => simp
      | cons v V ih => simp only [List.map_cons, List.sum_cons, List.length_cons, lvlS, List.length_nil] at *; omega
    simp only [List.length_map, List.length_append, planS, headS, inK, List.length_cons, List.length_nil, List.map_append] at e
    omega
  have hL' : L.map Kt = (1, asc "deck") :: (1, bs p.name) :: (3, asc "{") :: (1, asc "price") :: (2, dec p.price.toNat) :: (3, asc ";") :: (1, asc "packs") :: (2, dec p.packs.toNat) :: (1, asc "of") :: (2, dec p.size.toNat) :: (3, asc ";") ::
      (inK (p.levels.flatMap lvlS) ++ [(3, asc "}"), (0, [])]) := by
    rw [hL]
    simp only [planS, headS, inK, List.map_append, List.map_cons, List.map_nil, List.cons_append, List.nil_append, List.append_assoc]
    rfl
  obtain ⟨e1, h1⟩ := st_is hL' (by simp)
  obtain ⟨k2, w2, h2⟩ := st_next h1 (by simp)
  obtain ⟨e3, h3⟩ := st_is h2 (by simp)
  obtain ⟨k4, w4, h4⟩ := st_next h3 (by simp)
  obtain ⟨e5, h5⟩ := st_num h.1.1 h4 (by simp)
  obtain ⟨e6, h6⟩ := st_is h5 (by simp)
  obtain ⟨k7, w7, h7⟩ := st_next h6 (by simp)
  obtain ⟨e8, h8⟩ := st_num h.1.2 h7 (by simp)
  obtain ⟨e9, h9⟩ := st_is h8 (by simp)
  obtain ⟨e10, h10⟩ := st_num h.2 h9 (by simp)
  obtain ⟨e11, h11⟩ := st_is h10 (by simp)
  refine ⟨(hdT (nxT L)).text, w2, ?_⟩
  unfold planT
  rw [e1]
  dsimp only [thenT]
  rw [if_neg (fun e => e k2), e3]
  dsimp only
  obtain ⟨m, hm⟩ : ∃ m, L.length + 1 = m + 2 := ⟨L.length - 1, by omega⟩
  rw [hm]
  rw [itemsT, not_end h3 (by simp)]
  have eI : ∀ q : Pl, itemT (nxT (nxT (nxT L))) q false false = .ok (({ q with price := p.price }, true, false), nxT (nxT (nxT (nxT (nxT (nxT L)))))) := fun q => by
    unfold itemT
    rw [if_neg (fun e => e k4), w4, if_pos rfl, if_neg Bool.false_ne_true, e5]
    dsimp only [thenT]
    rw [e6]
  rw [eI]
  dsimp only
  rw [itemsT, not_end h6 (by simp)]
  have eJ : ∀ q : Pl, itemT (nxT (nxT (nxT (nxT (nxT (nxT L)))))) q true false = .ok (({ q with packs := p.packs, size := p.size }, true, true), nxT (nxT (nxT (nxT (nxT (nxT (nxT (nxT (nxT (nxT (nxT L))))))))))) := fun q => by
    unfold itemT
    rw [if_neg (fun e => e k7), w7, if_neg ne_pp, if_pos rfl, if_neg Bool.false_ne_true, e8]
    dsimp only [thenT]
    rw [e9]
    dsimp only
    rw [e10]
    dsimp only
    rw [e11]
  rw [eJ]
  dsimp only
  rw [items_read p.levels m _ _ true true hV (by omega) h11]
  rfl
/-- THE ROUND TRIP: a plan that has a text is read from it again. -/
theorem round_trip {p : Pl} (hne : printP p ≠ []) {s : ByteArray} (hs : bs s = printP p) (hsz : s.size ≤ 32768) : parseP s = (p, 0, 0) := by
  unfold printP at hne hs
  split at hne
  · rename_i hc
    rw [if_pos hc] at hs
    simp only [Bool.and_eq_true] at hc
    obtain ⟨⟨hn, hf⟩, hV⟩ := hc
    have hf' : (fitB p.price && fitB p.packs && fitB p.size) = true := by simp only [Bool.and_eq_true]; exact hf
    obtain ⟨L, e, hL⟩ := scan_Lx hsz (by rw [hs]; exact plan_Lx hn hf' hV)
    obtain ⟨nm, h1, h2⟩ := plan_read hf' hV hL
    have h3 : nm = p.name := bs_inj h1
    unfold parseP
    rw [e, if_neg (by show (0 : Int) ≠ 3; decide), if_neg (fun h => h rfl), h2, h3]
  · exact absurd rfl hne
end Go.Proofs.YtbdkggnajipdhaaGreatDoor
/- Plain specification of chapter 11: games, their rules as text, reading tokens. No program in sight. -/
namespace Go.Proofs.YtbdkggnajipdhaaGreatDoor
structure Ad where
  name : ByteArray
  kind : Int
  price : Int
  factors : List Int
  digits : Int
  serials : List Int
structure Ti where
  main : Int
  bonus : Int
  extra : Int
  mode : Int
  kind : Int
  value : Int
/-- A game: its name, its 19 numbers in their order, add-ons, tiers. -/
structure Gm where
  name : ByteArray
  n : Nat → Int
  addons : List Ad
  tiers : List Ti
def putN (n : Nat → Int) (i : Nat) (v : Int) : Nat → Int := fun j => if j = i then v else n j
def noGm : Gm := ⟨ByteArray.empty, fun _ => 0, [], []⟩
/-! Reading. -/
def bindT {α β : Type} (x : Except (Int × List Tk) α) (f : α → Except (Int × List Tk) β) : Except (Int × List Tk) β := match x with
  | .ok a => f a
  | .error e => .error e
def lessT (m : Int) (L : List Tk) : Option (Int × List Tk) := match numT L with
  | some x => if x.1 ≤ m then some x else none
  | none => none
def numsT : Nat → List Tk → List Int × List Tk
  | 0, L => ([], L)
  | f + 1, L => match numT L with
    | none => ([], L)
    | some a => (a.1 :: (numsT f a.2).1, (numsT f a.2).2)
def simpleI (w : List Nat) : Option Nat :=
  if w = asc "extra" then some 6 else if w = asc "price" then some 1 else if w = asc "draws" then some 7 else if w = asc "system" then some 8 else if w = asc "close" then some 11
  else if w = asc "cancel" then some 12 else if w = asc "expiry" then some 13 else if w = asc "pool" then some 14 else if w = asc "reserve" then some 15 else if w = asc "round" then some 16
  else if w = asc "cap" then some 17 else if w = asc "rolls" then some 18 else none
def dayW : List (List Nat) := [asc "mon", asc "tue", asc "wed", asc "thu", asc "fri", asc "sat", asc "sun"]
def dayI (w : List Nat) : Option Nat := dayW.findIdx? fun d => decide (d = w)
def pairT (L : List Tk) : Except (Int × List Tk) ((Int × Int) × List Tk) :=
  thenT (numT L) L fun a => thenT (isT 1 (asc "of") a.2) a.2 fun L2 => thenT (numT L2) L2 fun b => .ok ((a.1, b.1), b.2)
def daysT : Nat → List Tk → Nat → Except (Int × List Tk) (Nat × List Tk)
  | 0, L, _ => .error (1, L)
  | f + 1, L, d =>
    if d ≠ 0 ∧ (hdT L).kind = 1 ∧ bs (hdT L).text = asc "at" then .ok (d, nxT L)
    else if (hdT L).kind ≠ 1 then .error (1, L)
    else match dayI (bs (hdT L).text) with
      | none => .error (1, L)
      | some i => if d / 2 ^ i % 2 = 1 then .error (1, L) else daysT f (nxT L) (d + 2 ^ i)
def dayT (L : List Tk) : Except (Int × List Tk) ((Int × Int) × List Tk) :=
  bindT (daysT L.length L 0) fun d => thenT (lessT 23 d.2) d.2 fun h => thenT (isT 3 (asc ":") h.2) h.2 fun L3 => thenT (lessT 59 L3) L3 fun m => .ok (((d.1 : Int), 60 * h.1 + m.1), m.2)
def addonT (L : List Tk) : Except (Int × List Tk) (Ad × List Tk) :=
  if (hdT L).kind ≠ 1 then .error (1, L)
  else if (hdT (nxT L)).kind ≠ 1 then .error (1, nxT L)
  else if bs (hdT (nxT L)).text = asc "factor" then
    thenT (numT (nxT (nxT L))) (nxT (nxT L)) fun a => .ok (⟨(hdT L).text, 1, a.1, (numsT a.2.length a.2).1, 0, []⟩, (numsT a.2.length a.2).2)
  else if bs (hdT (nxT L)).text = asc "serial" then
    thenT (numT (nxT (nxT L))) (nxT (nxT L)) fun a => thenT (numT a.2) a.2 fun b => .ok (⟨(hdT L).text, 2, a.1, [], b.1, (numsT b.2.length b.2).1⟩, (numsT b.2.length b.2).2)
  else .error (1, nxT L)
def hitT (w : List Nat) (L : List Tk) : Except (Int × List Tk) (Int × List Tk) := match isT 1 w L with
  | some L1 => thenT (numT L1) L1 fun a => .ok a
  | none => .ok (0, L)
/-- How a tier compares: its mode, and three numbers. -/
def modeT (L : List Tk) : Except (Int × List Tk) ((Int × Int × Int × Int) × List Tk) :=
  match isT 1 (asc "exact") L with
  | some L1 => .ok ((1, 0, 0, 0), L1)
  | none => match isT 1 (asc "box") L with
    | some L1 => .ok ((2, 0, 0, 0), L1)
    | none => match isT 1 (asc "front") L with
      | some L1 => thenT (numT L1) L1 fun a => .ok ((3, a.1, 0, 0), a.2)
      | none => match isT 1 (asc "back") L with
        | some L1 => thenT (numT L1) L1 fun a => .ok ((4, a.1, 0, 0), a.2)
        | none => bindT (hitT (asc "main") L) fun a => bindT (hitT (asc "bonus") a.2) fun b => bindT (hitT (asc "extra") b.2) fun c => .ok ((0, a.1, b.1, c.1), c.2)
def prizeK (w : List Nat) : Option Int := if w = asc "fixed" then some 1 else if w = asc "share" then some 2 else if w = asc "jackpot" then some 3 else none
def tierT (L : List Tk) : Except (Int × List Tk) (Ti × List Tk) :=
  bindT (modeT L) fun m =>
    if (hdT m.2).kind ≠ 1 then .error (1, m.2)
    else match prizeK (bs (hdT m.2).text) with
      | none => .error (1, m.2)
      | some k => thenT (numT (nxT m.2)) (nxT m.2) fun v => .ok (⟨m.1.2.1, m.1.2.2.1, m.1.2.2.2, m.1.1, k, v.1⟩, v.2)
/-- One item, without its semicolon: the game so far, the items that were there. -/
def itemG (L : List Tk) (g : Gm) (seen : List (List Nat)) : Except (Int × List Tk) ((Gm × List (List Nat)) × List Tk) :=
  if (hdT L).kind ≠ 1 then .error (1, L)
  else if bs (hdT L).text = asc "choose" ∨ bs (hdT L).text = asc "digits" then
    if asc "choose" ∈ seen then .error (6, L)
    else bindT (pairT (nxT L)) fun a => .ok (({ g with n := putN (putN (putN g.n 0 (if bs (hdT L).text = asc "digits" then 2 else 1)) 2 a.1.1) 3 a.1.2 }, asc "choose" :: seen), a.2)
  else if bs (hdT L).text = asc "bonus" then
    if asc "bonus" ∈ seen then .error (6, L)
    else bindT (pairT (nxT L)) fun a => .ok (({ g with n := putN (putN g.n 4 a.1.1) 5 a.1.2 }, asc "bonus" :: seen), a.2)
  else if bs (hdT L).text = asc "days" then
    if asc "days" ∈ seen then .error (6, L)
    else bindT (dayT (nxT L)) fun a => .ok (({ g with n := putN (putN g.n 9 a.1.1) 10 a.1.2 }, asc "days" :: seen), a.2)
  else if bs (hdT L).text = asc "addon" then bindT (addonT (nxT L)) fun a => .ok (({ g with addons := g.addons ++ [a.1] }, seen), a.2)
  else if bs (hdT L).text = asc "tier" then bindT (tierT (nxT L)) fun a => .ok (({ g with tiers := g.tiers ++ [a.1] }, seen), a.2)
  else match simpleI (bs (hdT L).text) with
    | none => .error (1, L)
    | some i => if bs (hdT L).text ∈ seen then .error (6, L)
      else thenT (numT (nxT L)) (nxT L) fun a => .ok (({ g with n := putN g.n i a.1 }, bs (hdT L).text :: seen), a.2)
def gitemsT : Nat → List Tk → Gm → List (List Nat) → Except (Int × List Tk) ((Gm × List (List Nat)) × List Tk)
  | 0, L, _, _ => .error (1, L)
  | f + 1, L, g, seen =>
    if (hdT L).kind = 1 then bindT (itemG L g seen) fun a => thenT (isT 3 (asc ";") a.2) a.2 fun L2 => gitemsT f L2 a.1.1 a.1.2
    else .ok ((g, seen), L)
def closeT (x : (Gm × List (List Nat)) × List Tk) : Except (Int × List Tk) Gm :=
  thenT (isT 3 (asc "}") x.2) x.2 fun L => if (hdT L).kind = 0 then .ok (if asc "system" ∈ x.1.2 then x.1.1 else { x.1.1 with n := putN x.1.1.n 8 (x.1.1.n 2) }) else .error (1, L)
def gm0 (s : ByteArray) : Gm := ⟨s, putN (putN (fun _ => 0) 7 1) 16 1, [], []⟩
def gameT (L : List Tk) : Except (Int × List Tk) Gm :=
  thenT (isT 1 (asc "game") L) L fun L1 =>
    if (hdT L1).kind ≠ 1 then .error (1, L1)
    else thenT (isT 3 (asc "{") (nxT L1)) (nxT L1) fun L3 => bindT (gitemsT L3.length L3 (gm0 (hdT L1).text) []) closeT
/-- A text's game, the error, its line. -/
def parseG (s : ByteArray) : Gm × Int × Int :=
  if (scanE s).1 = 3 then (noGm, 3, 0)
  else if (scanE s).1 ≠ 0 then (noGm, (scanE s).1, 1 + (((bs s).take (scanE s).2.1.toNat).count 10 : Nat))
  else match gameT (scanE s).2.2 with
    | .ok g => (g, 0, 0)
    | .error (e, L) => (noGm, e, (hdT L).line)
/-! Printing. -/
def wordL (l : List Nat) : Bool := (match l with | c :: _ => letterB c | [] => false) && l.all wordB
structure Pr where
  X : List Nat
  bad : Bool
def Pr.req (p : Pr) (c : Bool) : Pr := ⟨p.X, p.bad || !c⟩
def Pr.add (p : Pr) (l : List Nat) : Pr := ⟨p.X ++ l, p.bad⟩
def Pr.lim (p : Pr) : Pr := p.req (decide (p.X.length ≤ 32768))
def Pr.ws (p : Pr) (l : List (List Nat)) : Pr := (p.add (l.flatMap (32 :: ·))).lim
def Pr.nums : Pr → List Int → Pr
  | p, [] => p
  | p, n :: r => if (p.req (fitB n)).bad then p.req (fitB n) else ((p.req (fitB n)).ws [fmtI n]).nums r
def Pr.nm (p : Pr) (s : ByteArray) : Pr := if (p.req (wordL (bs s))).bad then p.req (wordL (bs s)) else (p.req (wordL (bs s))).ws [bs s]
def Pr.begin (p : Pr) (w : List Nat) : Pr := (p.add [32]).ws [w]
def Pr.fin (p : Pr) : Pr := (p.add (asc ";\n")).lim
def Pr.opt (p : Pr) (w : List Nat) (n std : Int) : Pr := if n = std then p else ((p.begin w).nums [n]).fin
def Pr.two (p : Pr) (w : List Nat) (a b : Int) : Pr := ((((p.begin w).nums [a]).ws [asc "of"]).nums [b]).fin
def Pr.head (p : Pr) (n : Nat → Int) : Pr :=
  if n 0 = 1 ∨ n 0 = 2 then
    let p1 := p.two (if n 0 = 1 then asc "choose" else asc "digits") (n 2) (n 3)
    let p2 := if n 4 ≠ 0 ∨ n 5 ≠ 0 then p1.two (asc "bonus") (n 4) (n 5) else p1
    (((p2.opt (asc "extra") (n 6) 0).opt (asc "price") (n 1) 0).opt (asc "draws") (n 7) 1).opt (asc "system") (n 8) (n 2)
  else ⟨p.X, true⟩
def dayL (d : Nat) : List (List Nat) := ((List.range 7).filter fun i => d / 2 ^ i % 2 == 1).map fun i => dayW.getD i []
def Pr.dayw (p : Pr) (d : Nat) : Pr := (dayL d).foldl (fun p w => p.ws [w]) p
def Pr.days (p : Pr) (n : Nat → Int) : Pr :=
  let p := p.req (decide (0 ≤ n 9) && decide (n 9 ≤ 127) && decide (0 ≤ n 10) && decide (n 10 ≤ 1439))
  if n 9 = 0 then p.req (decide (n 10 = 0))
  else if p.bad then p
  else ((((((p.begin (asc "days")).dayw (n 9).toNat).ws [asc "at"]).nums [n 10 / 60]).ws [asc ":"]).nums [n 10 % 60]).fin
def Pr.addon (p : Pr) (a : Ad) : Pr :=
  let p := (p.begin (asc "addon")).nm a.name
  (if a.kind = 1 then (((p.req (decide (a.digits = 0) && decide (a.serials.length = 0))).ws [asc "factor"]).nums [a.price]).nums a.factors
   else if a.kind = 2 then (((p.req (decide (a.factors.length = 0))).ws [asc "serial"]).nums [a.price, a.digits]).nums a.serials
   else ⟨p.X, true⟩).fin
def Pr.hits (p : Pr) (w : List Nat) (n : Int) : Pr := if n = 0 then p else (p.ws [w]).nums [n]
def Pr.mode (p : Pr) (t : Ti) : Pr :=
  if t.mode = 0 then ((p.hits (asc "main") t.main).hits (asc "bonus") t.bonus).hits (asc "extra") t.extra
  else if t.mode = 1 ∨ t.mode = 2 then (p.req (decide (t.main = 0) && decide (t.bonus = 0) && decide (t.extra = 0))).ws [if t.mode = 1 then asc "exact" else asc "box"]
  else if t.mode = 3 ∨ t.mode = 4 then ((p.req (decide (t.bonus = 0) && decide (t.extra = 0))).ws [if t.mode = 3 then asc "front" else asc "back"]).nums [t.main]
  else ⟨p.X, true⟩
def Pr.tier (p : Pr) (t : Ti) : Pr :=
  let p := (p.begin (asc "tier")).mode t
  ((if t.kind = 1 then p.ws [asc "fixed"] else if t.kind = 2 then p.ws [asc "share"] else if t.kind = 3 then p.ws [asc "jackpot"] else ⟨p.X, true⟩).nums [t.value]).fin
def Pr.all {α : Type} (f : Pr → α → Pr) : Pr → List α → Pr
  | p, [] => p
  | p, a :: r => if p.bad then p else Pr.all f (f p a) r
def Pr.opts (p : Pr) (n : Nat → Int) : Pr :=
  (((((((p.opt (asc "close") (n 11) 0).opt (asc "cancel") (n 12) 0).opt (asc "expiry") (n 13) 0).opt (asc "pool") (n 14) 0).opt (asc "reserve") (n 15) 0).opt (asc "round") (n 16) 1).opt (asc "cap") (n 17) 0).opt (asc "rolls") (n 18) 0
def Pr.game (g : Gm) : Pr :=
  let p := ((((⟨asc "game", false⟩ : Pr).nm g.name).add (asc " {\n")).head g.n).days g.n
  ((Pr.all Pr.tier (Pr.all Pr.addon (p.opts g.n) g.addons) g.tiers).add (asc "}\n")).lim
def printG (g : Gm) : List Nat := if (Pr.game g).bad then [] else (Pr.game g).X
/-! Examples. -/
def exG : ByteArray := toBA (asc "game d {\n  digits 3 of 10;\n  days wed sat at 20 : 30;\n  addon joker serial 100 2 300 5000;\n  tier exact fixed 50000;\n  tier front 2 fixed 500;\n}\n")
def exT : Gm := ⟨toBA (asc "d"), fun i => if i = 0 then 2 else if i = 2 then 3 else if i = 3 then 10 else if i = 7 then 1 else if i = 8 then 3 else if i = 9 then 36 else if i = 10 then 1230 else if i = 16 then 1 else 0,
  [⟨toBA (asc "joker"), 2, 100, [], 2, [300, 5000]⟩], [⟨0, 0, 0, 1, 1, 50000⟩, ⟨2, 0, 0, 3, 1, 500⟩]⟩
end Go.Proofs.YtbdkggnajipdhaaGreatDoor
/- Walks: kinds of bytes, span, piece. -/
namespace Go.Proofs.YtbdkggnajipdhaaGreatDoor
open Go.RowKit
set_option maxRecDepth 100000
def blankI (c : Int) : Bool := decide (c = 32) || decide (c = 9) || decide (c = 13) || decide (c = 10)
def letterI (c : Int) : Bool := decide (97 ≤ c) && decide (c ≤ 122)
def digitI (c : Int) : Bool := decide (48 ≤ c) && decide (c ≤ 57)
def wordI (c : Int) : Bool := letterI c || digitI c || decide (c = 45)
def remI (c : Int) : Bool := !decide (c = 10)
def markI (c : Int) : Bool := decide (c = 123) || decide (c = 125) || decide (c = 59) || decide (c = 58)
theorem isBlank_any (c : Int) (w : World) : Calls Tryz.prog 91 #[.int .i32 c] w fun e w' => e = .returned (.bool (blankI c)) ∧ w = w' := by
  refine calls_W (l := [_]) Tryz.func91 rfl _ Tryz.ntmps91 (by simp) ?_
  simp +contextual (maxSteps := 2000000) (disch := (first | omega | (simp only [SZ]; first | done | omega) | (simp only [TS] at *; omega))) only [RZ, ovw, oneC, Nat.reduceAdd, Nat.reduceMul, Nat.reduceSub, Nat.reduceEqDiff, Nat.reduceLT, ↓reduceIte, Int.reduceToNat, Nat.reduceLeDiff]
  exact rfl
theorem isDigit_any (c : Int) (w : World) : Calls Tryz.prog 96 #[.int .i32 c] w fun e w' => e = .returned (.bool (digitI c)) ∧ w = w' := by
  refine calls_W (l := [_]) Tryz.func96 rfl _ Tryz.ntmps96 (by simp) ?_
  simp +contextual (maxSteps := 2000000) (disch := (first | omega | (simp only [SZ]; first | done | omega) | (simp only [TS] at *; omega))) only [RZ, ovw, oneC, Nat.reduceAdd, Nat.reduceMul, Nat.reduceSub, Nat.reduceEqDiff, Nat.reduceLT, ↓reduceIte, Int.reduceToNat, Nat.reduceLeDiff]
  exact rfl
theorem isLetter_any (c : Int) (w : World) : Calls Tryz.prog 94 #[.int .i32 c] w fun e w' => e = .returned (.bool (letterI c)) ∧ w = w' := by
  refine calls_W (l := [_]) Tryz.func94 rfl _ Tryz.ntmps94 (by simp) ?_
  simp +contextual (maxSteps := 2000000) (disch := (first | omega | (simp only [SZ]; first | done | omega) | (simp only [TS] at *; omega))) only [RZ, ovw, oneC, Nat.reduceAdd, Nat.reduceMul, Nat.reduceSub, Nat.reduceEqDiff, Nat.reduceLT, ↓reduceIte, Int.reduceToNat, Nat.reduceLeDiff]
  exact rfl
theorem inRemark_any (c : Int) (w : World) : Calls Tryz.prog 93 #[.int .i32 c] w fun e w' => e = .returned (.bool (remI c)) ∧ w = w' := by
  refine calls_W (l := [_]) Tryz.func93 rfl _ Tryz.ntmps93 (by simp) ?_
  simp +contextual (maxSteps := 2000000) (disch := (first | omega | (simp only [SZ]; first | done | omega) | (simp only [TS] at *; omega))) only [RZ, ovw, oneC, Nat.reduceAdd, Nat.reduceMul, Nat.reduceSub, Nat.reduceEqDiff, Nat.reduceLT, ↓reduceIte, Int.reduceToNat, Nat.reduceLeDiff]
  exact rfl
theorem isMark_any (c : Int) (w : World) : Calls Tryz.prog 98 #[.int .i32 c] w fun e w' => e = .returned (.bool (markI c)) ∧ w = w' := by
  refine calls_W (l := [_]) Tryz.func98 rfl _ Tryz.ntmps98 (by simp) ?_
  simp +contextual (maxSteps := 2000000) (disch := (first | omega | (simp only [SZ]; first | done | omega) | (simp only [TS] at *; omega))) only [RZ, ovw, oneC, Nat.reduceAdd, Nat.reduceMul, Nat.reduceSub, Nat.reduceEqDiff, Nat.reduceLT, ↓reduceIte, Int.reduceToNat, Nat.reduceLeDiff]
  exact rfl
theorem inWord_any (c : Int) (w : World) : Calls Tryz.prog 95 #[.int .i32 c] w fun e w' => e = .returned (.bool (wordI c)) ∧ w = w' := by
  refine calls_W (l := [_]) Tryz.func95 rfl _ Tryz.ntmps95 (by simp) ?_
  simp +contextual (maxSteps := 2000000) (disch := (first | omega | (simp only [SZ]; first | done | omega) | (simp only [TS] at *; omega))) only [RZ, ovw, oneC, Nat.reduceAdd, Nat.reduceMul, Nat.reduceSub, Nat.reduceEqDiff, Nat.reduceLT, ↓reduceIte, Int.reduceToNat, Nat.reduceLeDiff]
  refine (isLetter_any c _).mono ?_
  rintro e w' ⟨rfl, rfl⟩
  refine ⟨_, rfl, ?_⟩
  simp +contextual (maxSteps := 2000000) (disch := (first | omega | (simp only [SZ]; first | done | omega) | (simp only [TS] at *; omega))) only [RZ, ovw, oneC, Nat.reduceAdd, Nat.reduceMul, Nat.reduceSub, Nat.reduceEqDiff, Nat.reduceLT, ↓reduceIte, Int.reduceToNat, Nat.reduceLeDiff]
  refine GB_call (fun _ => isDigit_any c _) ?_
  simp +contextual (maxSteps := 2000000) (disch := (first | omega | (simp only [SZ]; first | done | omega) | (simp only [TS] at *; omega))) only [RZ, ovw, oneC, Nat.reduceAdd, Nat.reduceMul, Nat.reduceSub, Nat.reduceEqDiff, Nat.reduceLT, ↓reduceIte, Int.reduceToNat, Nat.reduceLeDiff]
  exact rfl
theorem rblank_any (c : Int) (w : World) : Calls Tryz.prog 109 #[.int .u8 c] w fun e w' => e = .returned (.bool (blankI c)) ∧ w = w' := by
  refine calls_W (l := [_]) Tryz.func109 rfl _ Tryz.ntmps109 (by simp) ?_
  simp +contextual (maxSteps := 2000000) (disch := (first | omega | (simp only [SZ]; first | done | omega) | (simp only [TS] at *; omega))) only [RZ, ovw, oneC, Nat.reduceAdd, Nat.reduceMul, Nat.reduceSub, Nat.reduceEqDiff, Nat.reduceLT, ↓reduceIte, Int.reduceToNat, Nat.reduceLeDiff]
  exact rfl
theorem rdigit_any (c : Int) (w : World) : Calls Tryz.prog 112 #[.int .u8 c] w fun e w' => e = .returned (.bool (digitI c)) ∧ w = w' := by
  refine calls_W (l := [_]) Tryz.func112 rfl _ Tryz.ntmps112 (by simp) ?_
  simp +contextual (maxSteps := 2000000) (disch := (first | omega | (simp only [SZ]; first | done | omega) | (simp only [TS] at *; omega))) only [RZ, ovw, oneC, Nat.reduceAdd, Nat.reduceMul, Nat.reduceSub, Nat.reduceEqDiff, Nat.reduceLT, ↓reduceIte, Int.reduceToNat, Nat.reduceLeDiff]
  exact rfl
theorem rletter_any (c : Int) (w : World) : Calls Tryz.prog 111 #[.int .u8 c] w fun e w' => e = .returned (.bool (letterI c)) ∧ w = w' := by
  refine calls_W (l := [_]) Tryz.func111 rfl _ Tryz.ntmps111 (by simp) ?_
  simp +contextual (maxSteps := 2000000) (disch := (first | omega | (simp only [SZ]; first | done | omega) | (simp only [TS] at *; omega))) only [RZ, ovw, oneC, Nat.reduceAdd, Nat.reduceMul, Nat.reduceSub, Nat.reduceEqDiff, Nat.reduceLT, ↓reduceIte, Int.reduceToNat, Nat.reduceLeDiff]
  exact rfl
theorem rmark_any (c : Int) (w : World) : Calls Tryz.prog 110 #[.int .u8 c] w fun e w' => e = .returned (.bool (markI c)) ∧ w = w' := by
  refine calls_W (l := [_]) Tryz.func110 rfl _ Tryz.ntmps110 (by simp) ?_
  simp +contextual (maxSteps := 2000000) (disch := (first | omega | (simp only [SZ]; first | done | omega) | (simp only [TS] at *; omega))) only [RZ, ovw, oneC, Nat.reduceAdd, Nat.reduceMul, Nat.reduceSub, Nat.reduceEqDiff, Nat.reduceLT, ↓reduceIte, Int.reduceToNat, Nat.reduceLeDiff]
  exact rfl
theorem badNumber_any (s : ByteArray) (w : World) (hs : s.size ≤ 9223372036854775807) : Calls Tryz.prog 97 #[.string s] w fun e w' => e = .returned (.bool (badN s.size (bt s 0))) ∧ w = w' := by
  refine calls_W (l := [_]) Tryz.func97 rfl _ Tryz.ntmps97 (by simp) ?_
  simp +contextual (maxSteps := 2000000) (disch := (first | omega | (simp only [SZ]; first | done | omega) | (simp only [TS] at *; omega))) only [RZ, ovw, oneC, Nat.reduceAdd, Nat.reduceMul, Nat.reduceSub, Nat.reduceEqDiff, Nat.reduceLT, ↓reduceIte, Int.reduceToNat, Nat.reduceLeDiff]
  refine ret_bool ?_
  unfold badN
  rw [Bool.eq_iff_iff]
  simp only [Bool.or_eq_true, Bool.and_eq_true, decide_eq_true_eq, beq_iff_eq]
  omega
theorem blankIB (c : Nat) : blankI c = blankB c := by
  unfold blankI blankB; rw [Bool.eq_iff_iff]; simp only [Bool.or_eq_true, Bool.and_eq_true, decide_eq_true_eq, beq_iff_eq]; omega
theorem letterIB (c : Nat) : letterI c = letterB c := by
  unfold letterI letterB; rw [Bool.eq_iff_iff]; simp only [Bool.or_eq_true, Bool.and_eq_true, decide_eq_true_eq, beq_iff_eq]; omega
theorem digitIB (c : Nat) : digitI c = digitB c := by
  unfold digitI digitB; rw [Bool.eq_iff_iff]; simp only [Bool.or_eq_true, Bool.and_eq_true, decide_eq_true_eq, beq_iff_eq]; omega
theorem wordIB (c : Nat) : wordI c = wordB c := by
  have e : decide ((c : Int) = 45) = (c == 45) := by rw [Bool.eq_iff_iff]; simp only [decide_eq_true_eq, beq_iff_eq]; omega
  unfold wordI wordB; rw [letterIB, digitIB, e]
theorem remIB (c : Nat) : remI c = remB c := by
  unfold remI remB; rw [Bool.eq_iff_iff]; simp only [Bool.not_eq_true', decide_eq_false_iff_not, beq_eq_false_iff_ne, ne_eq]; omega
theorem markIB (c : Nat) : markI c = markB c := by
  unfold markI markB; rw [Bool.eq_iff_iff]; simp only [Bool.or_eq_true, Bool.and_eq_true, decide_eq_true_eq, beq_iff_eq]; omega
/-- A rune at a place: its bytes. -/
theorem get_bt {s : ByteArray} {i : Nat} (h : i < s.size) : (s.get! i).toNat = bt s i := by
  unfold bt
  have : s.get! i = s.data.toList.getD i 0 := by
    show s.data[i]! = _
    have h' : i < s.data.size := h
    rw [getElem!_pos s.data i h', List.getD_eq_getElem?_getD, List.getElem?_eq_getElem (by simpa using h')]
    simp
  rw [this]
theorem decode_lo {s : ByteArray} {i : Nat} (h : i < s.size) (hb : bt s i < 128) : Utf8.decode s i = (bt s i, 1) := by
  have e := get_bt h
  unfold Utf8.decode
  simp only [Nat.add_zero, e]
  rw [if_pos hb]
theorem decode_hi {s : ByteArray} {i : Nat} (h : i < s.size) (hb : 128 ≤ bt s i) : 128 ≤ (Utf8.decode s i).1 ∧ 1 ≤ (Utf8.decode s i).2 ∧ i + (Utf8.decode s i).2 ≤ s.size ∧ ∀ j, j < (Utf8.decode s i).2 → 128 ≤ bt s (i + j) := by
  have e := get_bt h
  have c : ∀ k, (decide (i + k < s.size) && (s.get! (i + k)).toNat / 64 == 2) = true → i + k < s.size ∧ 128 ≤ bt s (i + k) := by
    intro k hk
    rw [Bool.and_eq_true, decide_eq_true_eq, beq_iff_eq] at hk
    rw [get_bt hk.1] at hk
    exact ⟨hk.1, by omega⟩
  have one : ∀ j, j < 1 → 128 ≤ bt s (i + j) := by
    intro j hj
    obtain rfl : j = 0 := by omega
    exact hb
  unfold Utf8.decode Utf8.runeError
  simp only [Nat.add_zero, e]
  rw [if_neg (by omega)]
  split
  · rename_i h1
    rw [Bool.and_eq_true] at h1
    have c1 := c 1 h1.2
    split
    · refine ⟨by simp only; omega, by simp, by simp only; omega, fun j hj => ?_⟩
      simp only at hj
      match j, hj with
      | 0, _ => exact hb
      | 1, _ => exact c1.2
    · exact ⟨by simp, by simp, by simp only; omega, one⟩
  split
  · rename_i h1
    rw [Bool.and_eq_true, Bool.and_eq_true] at h1
    have c1 := c 1 h1.1.2
    have c2 := c 2 h1.2
    split
    · rename_i h2
      rw [Bool.and_eq_true, decide_eq_true_eq] at h2
      refine ⟨by simp only; omega, by simp, by simp only; omega, fun j hj => ?_⟩
      simp only at hj
      match j, hj with
      | 0, _ => exact hb
      | 1, _ => exact c1.2
      | 2, _ => exact c2.2
    · exact ⟨by simp, by simp, by simp only; omega, one⟩
  split
  · rename_i h1
    rw [Bool.and_eq_true, Bool.and_eq_true, Bool.and_eq_true] at h1
    have c1 := c 1 h1.1.1.2
    have c2 := c 2 h1.1.2
    have c3 := c 3 h1.2
    split
    · rename_i h2
      rw [Bool.and_eq_true, decide_eq_true_eq] at h2
      refine ⟨by simp only; omega, by simp, by simp only; omega, fun j hj => ?_⟩
      simp only at hj
      match j, hj with
      | 0, _ => exact hb
      | 1, _ => exact c1.2
      | 2, _ => exact c2.2
      | 3, _ => exact c3.2
    · exact ⟨by simp, by simp, by simp only; omega, one⟩
  exact ⟨by simp, by simp, by simp only; omega, one⟩
theorem decode_top (s : ByteArray) (i : Nat) : (Utf8.decode s i).1 ≤ 1114111 := by
  have hb := UInt8.toNat_lt (s.get! i)
  have hb' : (s.get! (i + 0)).toNat < 256 := by rw [Nat.add_zero]; exact hb
  unfold Utf8.decode Utf8.runeError
  simp only
  repeat' split
  all_goals first
    | (simp only; omega)
    | (rename_i h; simp only [Utf8.valid, Bool.and_eq_true, Bool.or_eq_true, decide_eq_true_eq] at h; simp only; omega)
def iterPos (w : World) (g : Nat) : Nat := match w.heap[g]? with
  | some (.stringIter _ p) => p
  | _ => 0
theorem span_any (s : ByteArray) (f : FuncId) (p : Int → Bool) (q : Nat → Bool) (hi : Bool) (w : World) (hs : s.size ≤ 9223372036854775807) (hb : bodyB Tryz.prog f = true)
    (hf : ∀ c w, Calls Tryz.prog f #[.int .i32 c] w fun e w' => e = .returned (.bool (p c)) ∧ w = w')
    (h1 : ∀ c : Nat, p c = q c) (h2 : ∀ c : Nat, 128 ≤ c → q c = hi) :
    Calls Tryz.prog 92 #[.string s, .func (.func f) #[] #[]] w fun e w' => e = .returned (.int .i64 (spn q (bs s))) ∧ Below w.heap.size w w' := by
  refine calls_W (l := [_, _]) Tryz.func92 rfl _ Tryz.ntmps92 (by simp) ?_
  simp +contextual (maxSteps := 2000000) (disch := (first | omega | (simp only [SZ]; first | done | omega) | (simp only [TS] at *; omega))) only [RZ, ovw, oneC, Nat.reduceAdd, Nat.reduceMul, Nat.reduceSub, Nat.reduceEqDiff, Nat.reduceLT, ↓reduceIte, Int.reduceToNat, Nat.reduceLeDiff]
  refine Raw_loop (fun σ w' => Below w.heap.size w w' ∧ w.heap.size < w'.heap.size ∧ σ 0 = .string s ∧ σ 1 = .func (.func f) #[] #[] ∧ σ 8 = .pointer (some ⟨w.heap.size, 0, none⟩) ∧ ∃ pos, pos ≤ s.size ∧ w'.heap[w.heap.size]? = some (.stringIter s pos) ∧ ∀ j, j < pos → q (bt s j) = true)
    (fun _ w' => s.size - iterPos w' w.heap.size) ?_ ?_
  · simp +contextual (maxSteps := 2000000) (disch := (first | omega | (simp only [SZ]; first | done | omega) | (simp only [TS] at *; omega))) only [RZ, ovw, oneC, Nat.reduceAdd, Nat.reduceMul, Nat.reduceSub, Nat.reduceEqDiff, Nat.reduceLT, ↓reduceIte, Int.reduceToNat, Nat.reduceLeDiff]
    exact ⟨below_alloc _ _, by simp, 0, Nat.zero_le _, heap_alloc_new _ _, fun j h => absurd h (Nat.not_lt_zero _)⟩
  rintro σ w' ⟨hB, hsz, e0, e1, e8, pos, hp, hit, hq⟩ K hK
  by_cases hps : pos < s.size
  · have hn := vNext_some (P := Tryz.prog) (ty := 0) hit hps
    have hdec : (Utf8.decode s pos).1 ≤ 1114111 ∧ 1 ≤ (Utf8.decode s pos).2 ∧ pos + (Utf8.decode s pos).2 ≤ s.size ∧ (p (Utf8.decode s pos).1 = q (bt s pos)) ∧ ∀ j, j < (Utf8.decode s pos).2 → q (bt s (pos + j)) = q (bt s pos) := by
      by_cases hlo : bt s pos < 128
      · rw [decode_lo hps hlo]
        refine ⟨by simp only; omega, Nat.le_refl _, hps, h1 _, fun j hj => ?_⟩
        obtain rfl : j = 0 := by simp only at hj; omega
        rfl
      · obtain ⟨d1, d2, d3, d4⟩ := decode_hi hps (by omega)
        refine ⟨decode_top s pos, d2, d3, ?_, fun j hj => ?_⟩
        · rw [h1, h2 _ d1, h2 _ (by omega)]
        · rw [h2 _ (d4 j hj), h2 _ (by omega)]
    obtain ⟨hd0, hd1, hd2, hd3, hd4⟩ := hdec
    generalize Utf8.decode s pos = cd at *
    have hb2 : Below w.heap.size w (setO w' w.heap.size (.stringIter s (pos + cd.2))) := setO_below hB (Nat.le_refl _) _
    have hi2 : (setO w' w.heap.size (.stringIter s (pos + cd.2))).heap[w.heap.size]? = some (.stringIter s (pos + cd.2)) := setO_at _ hsz
    have hs2 : w.heap.size < (setO w' w.heap.size (.stringIter s (pos + cd.2))).heap.size := by rw [setO_size]; exact hsz
    have hmu : iterPos w' w.heap.size = pos := by unfold iterPos; rw [hit]
    simp +contextual (maxSteps := 2000000) (disch := (first | omega | (simp only [SZ]; first | done | omega) | (simp only [TS] at *; omega))) only [RZ, ovw, oneC, Nat.reduceAdd, Nat.reduceMul, Nat.reduceSub, Nat.reduceEqDiff, Nat.reduceLT, ↓reduceIte, Int.reduceToNat, Nat.reduceLeDiff,  e0, e1, e8, hn]
    generalize setO w' w.heap.size (.stringIter s (pos + cd.2)) = w2 at *
    have hmu2 : iterPos w2 w.heap.size = pos + cd.2 := by unfold iterPos; rw [hi2]
    refine W_if_t rfl ?_
    simp +contextual (maxSteps := 2000000) (disch := (first | omega | (simp only [SZ]; first | done | omega) | (simp only [TS] at *; omega))) only [RZ, ovw, oneC, Nat.reduceAdd, Nat.reduceMul, Nat.reduceSub, Nat.reduceEqDiff, Nat.reduceLT, ↓reduceIte, Int.reduceToNat, Nat.reduceLeDiff,  e0, e1, e8, hb]
    refine (hf _ _).mono ?_
    rintro e w3 ⟨rfl, rfl⟩
    refine ⟨_, rfl, ?_⟩
    rw [hd3]
    simp +contextual (maxSteps := 2000000) (disch := (first | omega | (simp only [SZ]; first | done | omega) | (simp only [TS] at *; omega))) only [RZ, ovw, oneC, Nat.reduceAdd, Nat.reduceMul, Nat.reduceSub, Nat.reduceEqDiff, Nat.reduceLT, ↓reduceIte, Int.reduceToNat, Nat.reduceLeDiff,  e0, e1, e8]
    (refine W_if rfl (fun hc => ?_) (fun hc => ?_) <;> (try simp only [TS] at hc))
    · simp +contextual (maxSteps := 2000000) (disch := (first | omega | (simp only [SZ]; first | done | omega) | (simp only [TS] at *; omega))) only [RZ, ovw, oneC, Nat.reduceAdd, Nat.reduceMul, Nat.reduceSub, Nat.reduceEqDiff, Nat.reduceLT, ↓reduceIte, Int.reduceToNat, Nat.reduceLeDiff]
      refine ⟨?_, hb2⟩
      rw [show spn q (bs s) = pos from spn_is _ _ (fun j hj => ⟨_, bs_get (by omega), hq j hj⟩) (fun c hc' => by rw [bs_get hps] at hc'; injection hc' with hc'; rw [← hc']; exact hc)]
    · simp +contextual (maxSteps := 2000000) (disch := (first | omega | (simp only [SZ]; first | done | omega) | (simp only [TS] at *; omega))) only [RZ, ovw, oneC, Nat.reduceAdd, Nat.reduceMul, Nat.reduceSub, Nat.reduceEqDiff, Nat.reduceLT, ↓reduceIte, Int.reduceToNat, Nat.reduceLeDiff]
      refine hK _ _ ⟨hb2, hs2, e0, e1, e8, pos + cd.2, hd2, hi2, fun j hj => ?_⟩ ?_
      · by_cases hj2 : j < pos
        · exact hq j hj2
        · have := hd4 (j - pos) (by omega)
          rw [show pos + (j - pos) = j from by omega] at this
          rw [this]; exact hc
      · rw [hmu, hmu2]; omega
  · have hn := vNext_end (P := Tryz.prog) (ty := 0) hit hps
    simp +contextual (maxSteps := 2000000) (disch := (first | omega | (simp only [SZ]; first | done | omega) | (simp only [TS] at *; omega))) only [RZ, ovw, oneC, Nat.reduceAdd, Nat.reduceMul, Nat.reduceSub, Nat.reduceEqDiff, Nat.reduceLT, ↓reduceIte, Int.reduceToNat, Nat.reduceLeDiff,  e0, e1, e8, hn]
    refine W_if_f rfl ?_
    simp +contextual (maxSteps := 2000000) (disch := (first | omega | (simp only [SZ]; first | done | omega) | (simp only [TS] at *; omega))) only [RZ, ovw, oneC, Nat.reduceAdd, Nat.reduceMul, Nat.reduceSub, Nat.reduceEqDiff, Nat.reduceLT, ↓reduceIte, Int.reduceToNat, Nat.reduceLeDiff,  e0]
    refine ⟨?_, hB⟩
    rw [show spn q (bs s) = s.size from spn_is _ _ (fun j hj => ⟨_, bs_get (by omega), hq j (by omega)⟩) (fun c hc' => by rw [List.getElem?_eq_none (by rw [bs_len]; omega)] at hc'; cases hc')]
end Go.Proofs.YtbdkggnajipdhaaGreatDoor
/- Walks: piece. -/
namespace Go.Proofs.YtbdkggnajipdhaaGreatDoor
open Go.RowKit
set_option maxRecDepth 100000
theorem span_blank (s : ByteArray) (w : World) (hs : s.size ≤ 9223372036854775807) : Calls Tryz.prog 92 #[.string s, .func (.func 91) #[] #[]] w fun e w' => e = .returned (.int .i64 (spn blankB (bs s))) ∧ Below w.heap.size w w' :=
  span_any s _ blankI blankB false w hs (by kernel_rfl) (fun c w => isBlank_any c w) blankIB (fun c h => by unfold blankB; simp only [Bool.or_eq_false_iff, beq_eq_false_iff_ne]; omega)
theorem span_word (s : ByteArray) (w : World) (hs : s.size ≤ 9223372036854775807) : Calls Tryz.prog 92 #[.string s, .func (.func 95) #[] #[]] w fun e w' => e = .returned (.int .i64 (spn wordB (bs s))) ∧ Below w.heap.size w w' :=
  span_any s _ wordI wordB false w hs (by kernel_rfl) (fun c w => inWord_any c w) wordIB (fun c h => by unfold wordB letterB digitB; simp only [Bool.or_eq_false_iff, Bool.and_eq_false_iff, decide_eq_false_iff_not, beq_eq_false_iff_ne]; omega)
theorem span_digit (s : ByteArray) (w : World) (hs : s.size ≤ 9223372036854775807) : Calls Tryz.prog 92 #[.string s, .func (.func 96) #[] #[]] w fun e w' => e = .returned (.int .i64 (spn digitB (bs s))) ∧ Below w.heap.size w w' :=
  span_any s _ digitI digitB false w hs (by kernel_rfl) (fun c w => isDigit_any c w) digitIB (fun c h => by unfold digitB; simp only [Bool.and_eq_false_iff, decide_eq_false_iff_not]; omega)
theorem span_remark (s : ByteArray) (w : World) (hs : s.size ≤ 9223372036854775807) : Calls Tryz.prog 92 #[.string s, .func (.func 93) #[] #[]] w fun e w' => e = .returned (.int .i64 (spn remB (bs s))) ∧ Below w.heap.size w w' :=
  span_any s _ remI remB true w hs (by kernel_rfl) (fun c w => inRemark_any c w) remIB (fun c h => by unfold remB; simp only [Bool.not_eq_true', beq_eq_false_iff_ne]; omega)
theorem piece_any (s : ByteArray) (w : World) (hs : s.size ≤ 9223372036854775807) (h0 : 0 < s.size) :
    Calls Tryz.prog 50 #[.string s] w fun e w' => e = .returned (.tuple #[.int .i64 (piece (bs s)).1, .int .i64 (piece (bs s)).2]) ∧ Below w.heap.size w w' := by
  refine calls_W (l := [_]) Tryz.func50 rfl _ Tryz.ntmps50 (by simp) ?_
  have hlt := bt_lt s 0
  obtain ⟨r, hr⟩ : ∃ r, bs s = bt s 0 :: r := by
    have h1 := bs_get h0
    cases hb : bs s with
    | nil => rw [hb] at h1; simp at h1
    | cons c r => rw [hb] at h1; simp only [List.getElem?_cons_zero, Option.some.injEq] at h1; exact ⟨r, by rw [h1]⟩
  have hle := spn_le digitB (bs s)
  rw [bs_len] at hle
  generalize hc0 : bt s 0 = c0 at *
  have hP : piece (bs s) = if blankB c0 then (0, spn blankB (bs s)) else if c0 = 35 then (0, spn remB (bs s)) else if letterB c0 then (1, spn wordB (bs s)) else if digitB c0 then (if badN (spn digitB (bs s)) c0 then (2, 0) else (2, spn digitB (bs s))) else if markB c0 then (3, 1) else (0, 0) := by rw [hr, piece]
  rw [hP]
  simp +contextual (maxSteps := 2000000) (disch := (first | omega | (simp only [SZ]; first | done | omega) | (simp only [TS] at *; omega))) only [RZ, ovw, oneC, Nat.reduceAdd, Nat.reduceMul, Nat.reduceSub, Nat.reduceEqDiff, Nat.reduceLT, ↓reduceIte, Int.reduceToNat, Nat.reduceLeDiff,  hc0]
  refine (isBlank_any _ _).mono ?_
  rintro e w1 ⟨rfl, rfl⟩
  refine ⟨_, rfl, ?_⟩
  rw [blankIB]
  simp +contextual (maxSteps := 2000000) (disch := (first | omega | (simp only [SZ]; first | done | omega) | (simp only [TS] at *; omega))) only [RZ, ovw, oneC, Nat.reduceAdd, Nat.reduceMul, Nat.reduceSub, Nat.reduceEqDiff, Nat.reduceLT, ↓reduceIte, Int.reduceToNat, Nat.reduceLeDiff]
  (refine W_if rfl (fun hc => ?_) (fun hc => ?_) <;> (try simp only [TS] at hc))
  · rw [if_pos hc]
    simp +contextual (maxSteps := 2000000) (disch := (first | omega | (simp only [SZ]; first | done | omega) | (simp only [TS] at *; omega))) only [RZ, ovw, oneC, Nat.reduceAdd, Nat.reduceMul, Nat.reduceSub, Nat.reduceEqDiff, Nat.reduceLT, ↓reduceIte, Int.reduceToNat, Nat.reduceLeDiff]
    refine (span_blank s _ hs).mono ?_
    rintro e w2 ⟨rfl, hb⟩
    refine ⟨_, rfl, ?_⟩
    simp +contextual (maxSteps := 2000000) (disch := (first | omega | (simp only [SZ]; first | done | omega) | (simp only [TS] at *; omega))) only [RZ, ovw, oneC, Nat.reduceAdd, Nat.reduceMul, Nat.reduceSub, Nat.reduceEqDiff, Nat.reduceLT, ↓reduceIte, Int.reduceToNat, Nat.reduceLeDiff]
    exact ⟨rfl, hb⟩
  rw [if_neg (by rw [hc]; simp)]
  clear hc
  simp +contextual (maxSteps := 2000000) (disch := (first | omega | (simp only [SZ]; first | done | omega) | (simp only [TS] at *; omega))) only [RZ, ovw, oneC, Nat.reduceAdd, Nat.reduceMul, Nat.reduceSub, Nat.reduceEqDiff, Nat.reduceLT, ↓reduceIte, Int.reduceToNat, Nat.reduceLeDiff]
  (refine W_if rfl (fun hc => ?_) (fun hc => ?_) <;> (try simp only [TS] at hc))
  · rw [if_pos (by omega)]
    simp +contextual (maxSteps := 2000000) (disch := (first | omega | (simp only [SZ]; first | done | omega) | (simp only [TS] at *; omega))) only [RZ, ovw, oneC, Nat.reduceAdd, Nat.reduceMul, Nat.reduceSub, Nat.reduceEqDiff, Nat.reduceLT, ↓reduceIte, Int.reduceToNat, Nat.reduceLeDiff]
    refine (span_remark s _ hs).mono ?_
    rintro e w2 ⟨rfl, hb⟩
    refine ⟨_, rfl, ?_⟩
    simp +contextual (maxSteps := 2000000) (disch := (first | omega | (simp only [SZ]; first | done | omega) | (simp only [TS] at *; omega))) only [RZ, ovw, oneC, Nat.reduceAdd, Nat.reduceMul, Nat.reduceSub, Nat.reduceEqDiff, Nat.reduceLT, ↓reduceIte, Int.reduceToNat, Nat.reduceLeDiff]
    exact ⟨rfl, hb⟩
  rw [if_neg (by omega)]
  clear hc
  simp +contextual (maxSteps := 2000000) (disch := (first | omega | (simp only [SZ]; first | done | omega) | (simp only [TS] at *; omega))) only [RZ, ovw, oneC, Nat.reduceAdd, Nat.reduceMul, Nat.reduceSub, Nat.reduceEqDiff, Nat.reduceLT, ↓reduceIte, Int.reduceToNat, Nat.reduceLeDiff]
  refine (isLetter_any _ _).mono ?_
  rintro e w1 ⟨rfl, rfl⟩
  refine ⟨_, rfl, ?_⟩
  rw [letterIB]
  simp +contextual (maxSteps := 2000000) (disch := (first | omega | (simp only [SZ]; first | done | omega) | (simp only [TS] at *; omega))) only [RZ, ovw, oneC, Nat.reduceAdd, Nat.reduceMul, Nat.reduceSub, Nat.reduceEqDiff, Nat.reduceLT, ↓reduceIte, Int.reduceToNat, Nat.reduceLeDiff]
  (refine W_if rfl (fun hc => ?_) (fun hc => ?_) <;> (try simp only [TS] at hc))
  · rw [if_pos hc]
    simp +contextual (maxSteps := 2000000) (disch := (first | omega | (simp only [SZ]; first | done | omega) | (simp only [TS] at *; omega))) only [RZ, ovw, oneC, Nat.reduceAdd, Nat.reduceMul, Nat.reduceSub, Nat.reduceEqDiff, Nat.reduceLT, ↓reduceIte, Int.reduceToNat, Nat.reduceLeDiff]
    refine (span_word s _ hs).mono ?_
    rintro e w2 ⟨rfl, hb⟩
    refine ⟨_, rfl, ?_⟩
    simp +contextual (maxSteps := 2000000) (disch := (first | omega | (simp only [SZ]; first | done | omega) | (simp only [TS] at *; omega))) only [RZ, ovw, oneC, Nat.reduceAdd, Nat.reduceMul, Nat.reduceSub, Nat.reduceEqDiff, Nat.reduceLT, ↓reduceIte, Int.reduceToNat, Nat.reduceLeDiff]
    exact ⟨rfl, hb⟩
  rw [if_neg (by rw [hc]; simp)]
  clear hc
  simp +contextual (maxSteps := 2000000) (disch := (first | omega | (simp only [SZ]; first | done | omega) | (simp only [TS] at *; omega))) only [RZ, ovw, oneC, Nat.reduceAdd, Nat.reduceMul, Nat.reduceSub, Nat.reduceEqDiff, Nat.reduceLT, ↓reduceIte, Int.reduceToNat, Nat.reduceLeDiff]
  refine (isDigit_any _ _).mono ?_
  rintro e w1 ⟨rfl, rfl⟩
  refine ⟨_, rfl, ?_⟩
  rw [digitIB]
  simp +contextual (maxSteps := 2000000) (disch := (first | omega | (simp only [SZ]; first | done | omega) | (simp only [TS] at *; omega))) only [RZ, ovw, oneC, Nat.reduceAdd, Nat.reduceMul, Nat.reduceSub, Nat.reduceEqDiff, Nat.reduceLT, ↓reduceIte, Int.reduceToNat, Nat.reduceLeDiff]
  (refine W_if rfl (fun hc => ?_) (fun hc => ?_) <;> (try simp only [TS] at hc))
  · rw [if_pos hc]
    have hcd := hc
    clear hc
    simp +contextual (maxSteps := 2000000) (disch := (first | omega | (simp only [SZ]; first | done | omega) | (simp only [TS] at *; omega))) only [RZ, ovw, oneC, Nat.reduceAdd, Nat.reduceMul, Nat.reduceSub, Nat.reduceEqDiff, Nat.reduceLT, ↓reduceIte, Int.reduceToNat, Nat.reduceLeDiff]
    refine (span_digit s _ hs).mono ?_
    rintro e w2 ⟨rfl, hb⟩
    refine ⟨_, rfl, ?_⟩
    have hn1 : 1 ≤ spn digitB (bs s) := by rw [hr]; exact spn_pos hcd
    have hsz : (s.extract 0 (spn digitB (bs s))).size = spn digitB (bs s) := by rw [← bs_len, bs_extract, List.length_take, List.drop_zero, bs_len]; omega
    have hbt : bt (s.extract 0 (spn digitB (bs s))) 0 = c0 := by
      rw [bt_bs, bs_extract, List.drop_zero, hr, List.getD_eq_getElem?_getD, List.getElem?_take_of_lt (by rw [← hr]; omega)]; rfl
    simp +contextual (maxSteps := 2000000) (disch := (first | omega | (simp only [SZ]; first | done | omega) | (simp only [TS] at *; omega))) only [RZ, ovw, oneC, Nat.reduceAdd, Nat.reduceMul, Nat.reduceSub, Nat.reduceEqDiff, Nat.reduceLT, ↓reduceIte, Int.reduceToNat, Nat.reduceLeDiff]
    refine (badNumber_any _ _ (by rw [hsz]; omega)).mono ?_
    rintro e w3 ⟨rfl, rfl⟩
    refine ⟨_, rfl, ?_⟩
    rw [hsz, hbt]
    simp +contextual (maxSteps := 2000000) (disch := (first | omega | (simp only [SZ]; first | done | omega) | (simp only [TS] at *; omega))) only [RZ, ovw, oneC, Nat.reduceAdd, Nat.reduceMul, Nat.reduceSub, Nat.reduceEqDiff, Nat.reduceLT, ↓reduceIte, Int.reduceToNat, Nat.reduceLeDiff]
    (refine W_if rfl (fun hc => ?_) (fun hc => ?_) <;> (try simp only [TS] at hc))
    · rw [if_pos hc]
      simp +contextual (maxSteps := 2000000) (disch := (first | omega | (simp only [SZ]; first | done | omega) | (simp only [TS] at *; omega))) only [RZ, ovw, oneC, Nat.reduceAdd, Nat.reduceMul, Nat.reduceSub, Nat.reduceEqDiff, Nat.reduceLT, ↓reduceIte, Int.reduceToNat, Nat.reduceLeDiff]
      exact ⟨rfl, hb⟩
    · rw [if_neg (by rw [hc]; simp)]
      simp +contextual (maxSteps := 2000000) (disch := (first | omega | (simp only [SZ]; first | done | omega) | (simp only [TS] at *; omega))) only [RZ, ovw, oneC, Nat.reduceAdd, Nat.reduceMul, Nat.reduceSub, Nat.reduceEqDiff, Nat.reduceLT, ↓reduceIte, Int.reduceToNat, Nat.reduceLeDiff]
      exact ⟨rfl, hb⟩
  rw [if_neg (by rw [hc]; simp)]
  clear hc
  simp +contextual (maxSteps := 2000000) (disch := (first | omega | (simp only [SZ]; first | done | omega) | (simp only [TS] at *; omega))) only [RZ, ovw, oneC, Nat.reduceAdd, Nat.reduceMul, Nat.reduceSub, Nat.reduceEqDiff, Nat.reduceLT, ↓reduceIte, Int.reduceToNat, Nat.reduceLeDiff]
  refine (isMark_any _ _).mono ?_
  rintro e w1 ⟨rfl, rfl⟩
  refine ⟨_, rfl, ?_⟩
  rw [markIB]
  simp +contextual (maxSteps := 2000000) (disch := (first | omega | (simp only [SZ]; first | done | omega) | (simp only [TS] at *; omega))) only [RZ, ovw, oneC, Nat.reduceAdd, Nat.reduceMul, Nat.reduceSub, Nat.reduceEqDiff, Nat.reduceLT, ↓reduceIte, Int.reduceToNat, Nat.reduceLeDiff]
  (refine W_if rfl (fun hc => ?_) (fun hc => ?_) <;> (try simp only [TS] at hc))
  · rw [if_pos hc]
    simp +contextual (maxSteps := 2000000) (disch := (first | omega | (simp only [SZ]; first | done | omega) | (simp only [TS] at *; omega))) only [RZ, ovw, oneC, Nat.reduceAdd, Nat.reduceMul, Nat.reduceSub, Nat.reduceEqDiff, Nat.reduceLT, ↓reduceIte, Int.reduceToNat, Nat.reduceLeDiff]
    exact ⟨rfl, Below.refl _ _⟩
  rw [if_neg (by rw [hc]; simp)]
  simp +contextual (maxSteps := 2000000) (disch := (first | omega | (simp only [SZ]; first | done | omega) | (simp only [TS] at *; omega))) only [RZ, ovw, oneC, Nat.reduceAdd, Nat.reduceMul, Nat.reduceSub, Nat.reduceEqDiff, Nat.reduceLT, ↓reduceIte, Int.reduceToNat, Nat.reduceLeDiff]
  exact ⟨rfl, Below.refl _ _⟩
end Go.Proofs.YtbdkggnajipdhaaGreatDoor
/- Contracts of Go's library, laid by the kit's tools over this translation (wip/shelf.py keeps those that are used). -/
namespace Go.Proofs
open Go.Shelf
def Tryz.lays169_ren : Go.Shelf.Ren := ⟨fun | 169 => 39 | n => n, fun | 70 => 64 | 9 => 9 | 0 => 0 | 72 => 67 | 37 => 65 | 127 => 103 | 3 => 3 | 5 => 5 | n => n, fun | n => n⟩
theorem Tryz.lays169 : Go.Proofs.Lays.n169 Tryz.prog Tryz.lays169_ren := {
  mixed := by kernel_rfl
  f169 := Tryz.func39.trans (congrArg some (by kernel_rfl))
  t0 := Tryz.underlying0
  a0 := Tryz.isAgg0
  z0 := Tryz.sizeOf0
  v0 := Tryz.zeroValue0
  t3 := Tryz.underlying3
  a3 := Tryz.isAgg3
  z3 := Tryz.sizeOf3
  v3 := Tryz.zeroValue3
  t9 := Tryz.underlying9
  a9 := Tryz.isAgg9
  z9 := Tryz.sizeOf9
  v9 := Tryz.zeroValue9
  t37 := Tryz.underlying65
  a37 := Tryz.isAgg65
  z37 := Tryz.sizeOf65
  v37 := Tryz.zeroValue65
  t70 := Tryz.underlying64
  a70 := Tryz.isAgg64
  z70 := Tryz.sizeOf64
  v70 := Tryz.zeroValue64
  t72 := Tryz.underlying67
  a72 := Tryz.isAgg67
  z72 := Tryz.sizeOf67
  v72 := Tryz.zeroValue67
  t127 := Tryz.underlying103
  a127 := Tryz.isAgg103
  z127 := Tryz.sizeOf103
  v127 := Tryz.zeroValue103 }
theorem Tryz.Builder_Extra_169 : Builder.Extra Tryz.prog Tryz.lays169_ren := {
  sizeBuilder := by kernel_rfl
  liesBuilder := by kernel_rfl
  t5 := Tryz.underlying5
  a5 := Tryz.isAgg5
  z5 := Tryz.sizeOf5
  v5 := Tryz.zeroValue5
  infoByte := by kernel_rfl
  cellsByte := by kernel_rfl
  sizeByte := by kernel_rfl
  neB5 := by decide }
open Go.RowKit in
/-- (*strings.Builder).String: "String returns the accumulated string.": WHATEVER THE BUILDER HOLDS. (LAID: no walk: one application.) -/
theorem Tryz.Builder_String_any (B b : Nat) (l : List UInt8) (w : World) (h : Lib.IsBuilder 67 5 B b (Lib.byteCells l) w) (hBw : B ≤ w.heap.size) :
    Calls Tryz.prog 39 #[.pointer (some ⟨b, 0, none⟩)] w fun e w' => e = .returned (.string ⟨l.toArray⟩) ∧ Below B w w' := Any.Builder_String_any Tryz.lays169 Tryz.Builder_Extra_169 B b l w h hBw
def Tryz.laysM171_ren : Go.Shelf.Ren := ⟨fun | 171 => 137 | 243 => 144 | 246 => 147 | 283 => 148 | 284 => 149 | 285 => 150 | 286 => 151 | 129 => 153 | 317 => 152 | 318 => 154 | 319 => 155 | 320 => 156 | 337 => 157 | 338 => 158 | n => n, fun | 3 => 3 | 9 => 9 | 2 => 2 | 4 => 4 | 171 => 161 | 0 => 0 | 53 => 128 | 37 => 65 | 5 => 5 | 173 => 164 | 212 => 167 | 51 => 135 | 20 => 20 | 213 => 168 | 46 => 139 | 232 => 172 | 233 => 173 | n => n, fun | 17 => 6 | 18 => 7 | 19 => 8 | n => n⟩
theorem Tryz.laysM171 : Go.Proofs.LaysM.n171 Tryz.prog Tryz.laysM171_ren := {
  mixed := by kernel_rfl
  f129 := Tryz.func153.trans (congrArg some (by kernel_rfl))
  f171 := Tryz.func137.trans (congrArg some (by kernel_rfl))
  f243 := Tryz.func144.trans (congrArg some (by kernel_rfl))
  f246 := Tryz.func147.trans (congrArg some (by kernel_rfl))
  f283 := Tryz.func148.trans (congrArg some (by kernel_rfl))
  f284 := Tryz.func149.trans (congrArg some (by kernel_rfl))
  f285 := Tryz.func150.trans (congrArg some (by kernel_rfl))
  f286 := Tryz.func151.trans (congrArg some (by kernel_rfl))
  f317 := Tryz.func152.trans (congrArg some (by kernel_rfl))
  f318 := Tryz.func154.trans (congrArg some (by kernel_rfl))
  f319 := Tryz.func155.trans (congrArg some (by kernel_rfl))
  f320 := Tryz.func156.trans (congrArg some (by kernel_rfl))
  f337 := Tryz.func157.trans (congrArg some (by kernel_rfl))
  f338 := Tryz.func158.trans (congrArg some (by kernel_rfl))
  t0 := Tryz.underlying0
  a0 := Tryz.isAgg0
  z0 := Tryz.sizeOf0
  v0 := Tryz.zeroValue0
  t2 := Tryz.underlying2
  a2 := Tryz.isAgg2
  z2 := Tryz.sizeOf2
  v2 := Tryz.zeroValue2
  t3 := Tryz.underlying3
  a3 := Tryz.isAgg3
  z3 := Tryz.sizeOf3
  v3 := Tryz.zeroValue3
  t4 := Tryz.underlying4
  a4 := Tryz.isAgg4
  z4 := Tryz.sizeOf4
  v4 := Tryz.zeroValue4
  t5 := Tryz.underlying5
  a5 := Tryz.isAgg5
  z5 := Tryz.sizeOf5
  v5 := Tryz.zeroValue5
  t9 := Tryz.underlying9
  a9 := Tryz.isAgg9
  z9 := Tryz.sizeOf9
  v9 := Tryz.zeroValue9
  t20 := Tryz.underlying20
  a20 := Tryz.isAgg20
  z20 := Tryz.sizeOf20
  v20 := Tryz.zeroValue20
  t37 := Tryz.underlying65
  a37 := Tryz.isAgg65
  z37 := Tryz.sizeOf65
  v37 := Tryz.zeroValue65
  t46 := Tryz.underlying139
  a46 := Tryz.isAgg139
  z46 := Tryz.sizeOf139
  v46 := Tryz.zeroValue139
  t51 := Tryz.underlying135
  a51 := Tryz.isAgg135
  z51 := Tryz.sizeOf135
  v51 := Tryz.zeroValue135
  t53 := Tryz.underlying128
  a53 := Tryz.isAgg128
  z53 := Tryz.sizeOf128
  v53 := Tryz.zeroValue128
  t171 := Tryz.underlying161
  a171 := Tryz.isAgg161
  z171 := Tryz.sizeOf161
  v171 := Tryz.zeroValue161
  t173 := Tryz.underlying164
  a173 := Tryz.isAgg164
  z173 := Tryz.sizeOf164
  v173 := Tryz.zeroValue164
  t212 := Tryz.underlying167
  a212 := Tryz.isAgg167
  z212 := Tryz.sizeOf167
  v212 := Tryz.zeroValue167
  t213 := Tryz.underlying168
  a213 := Tryz.isAgg168
  z213 := Tryz.sizeOf168
  t232 := Tryz.underlying172
  a232 := Tryz.isAgg172
  z232 := Tryz.sizeOf172
  v232 := Tryz.zeroValue172
  t233 := Tryz.underlying173
  a233 := Tryz.isAgg173
  z233 := Tryz.sizeOf173
  v233 := Tryz.zeroValue173
  g17 := by kernel_rfl
  g18 := by kernel_rfl
  g19 := by kernel_rfl
  i0 := by kernel_rfl
  i2 := by kernel_rfl
  i3 := by kernel_rfl
  i4 := by kernel_rfl
  i5 := by kernel_rfl
  i9 := by kernel_rfl
  i20 := by kernel_rfl
  i37 := by kernel_rfl
  i46 := by kernel_rfl
  i51 := by kernel_rfl
  i53 := by kernel_rfl
  i171 := by kernel_rfl
  i173 := by kernel_rfl
  i212 := by kernel_rfl
  i232 := by kernel_rfl
  i233 := by kernel_rfl
  m17 := by kernel_rfl
  m18 := by kernel_rfl
  m19 := by kernel_rfl }
open Go.RowKit Go.Sort Go.Lib in
/-- strconv.Itoa: "Itoa is equivalent to FormatInt(int64(i), 10).": i's DECIMAL NUMERAL ('Lib.itoa': a '-' where i is negative, then the digits), FOR EVERY int. The world behind the call: the world before it, new blocks behind the heap (the library's 'var a [24]byte'), draws. (LAID: no walk: one application.) -/
theorem Tryz.strconv_Itoa (n : Int) (h0 : -9223372036854775808 ≤ n) (h1 : n ≤ 9223372036854775807) (w : World) (htab : Lib.TabIs Tryz.prog w "internal/strconv.uint64pow10" .u64 Lib.pow10Tab) :
    Calls Tryz.prog 137 #[.int .i64 n] w fun e w' => e = .returned (.string ⟨(Lib.itoa n).toArray⟩) ∧ ∃ k os, w' = grow (w.drewN k) os := Any.strconv_Itoa Tryz.laysM171 n h0 h1 w htab
def Tryz.lays138_ren : Go.Shelf.Ren := ⟨fun | 138 => 20 | 195 => 52 | 218 => 53 | 143 => 54 | 219 => 100 | 217 => 127 | 225 => 128 | 224 => 129 | 267 => 130 | 266 => 141 | 314 => 142 | n => n, fun | 9 => 9 | 3 => 3 | 4 => 4 | 5 => 5 | 0 => 0 | 46 => 139 | 146 => 153 | 51 => 135 | n => n, fun | 1 => 2 | n => n⟩
theorem Tryz.lays138 : Go.Proofs.Lays.n138 Tryz.prog Tryz.lays138_ren := {
  mixed := by kernel_rfl
  f138 := Tryz.func20.trans (congrArg some (by kernel_rfl))
  f143 := Tryz.func54.trans (congrArg some (by kernel_rfl))
  f195 := Tryz.func52.trans (congrArg some (by kernel_rfl))
  f217 := Tryz.func127.trans (congrArg some (by kernel_rfl))
  f218 := Tryz.func53.trans (congrArg some (by kernel_rfl))
  f219 := Tryz.func100.trans (congrArg some (by kernel_rfl))
  f224 := Tryz.func129.trans (congrArg some (by kernel_rfl))
  f225 := Tryz.func128.trans (congrArg some (by kernel_rfl))
  f266 := Tryz.func141.trans (congrArg some (by kernel_rfl))
  f267 := Tryz.func130.trans (congrArg some (by kernel_rfl))
  f314 := Tryz.func142.trans (congrArg some (by kernel_rfl))
  t0 := Tryz.underlying0
  a0 := Tryz.isAgg0
  z0 := Tryz.sizeOf0
  v0 := Tryz.zeroValue0
  t3 := Tryz.underlying3
  a3 := Tryz.isAgg3
  z3 := Tryz.sizeOf3
  v3 := Tryz.zeroValue3
  t4 := Tryz.underlying4
  a4 := Tryz.isAgg4
  z4 := Tryz.sizeOf4
  v4 := Tryz.zeroValue4
  t5 := Tryz.underlying5
  a5 := Tryz.isAgg5
  z5 := Tryz.sizeOf5
  v5 := Tryz.zeroValue5
  t9 := Tryz.underlying9
  a9 := Tryz.isAgg9
  z9 := Tryz.sizeOf9
  v9 := Tryz.zeroValue9
  t46 := Tryz.underlying139
  a46 := Tryz.isAgg139
  z46 := Tryz.sizeOf139
  v46 := Tryz.zeroValue139
  t51 := Tryz.underlying135
  a51 := Tryz.isAgg135
  z51 := Tryz.sizeOf135
  v51 := Tryz.zeroValue135
  t146 := Tryz.underlying153
  a146 := Tryz.isAgg153
  z146 := Tryz.sizeOf153
  v146 := Tryz.zeroValue153
  g1 := by kernel_rfl }
open Go.RowKit Go.Lib in
/-- strings.Count AT A substr OF ONE BYTE ('hp'): "Count counts the number of non-overlapping instances of substr in s.": IT RETURNS 'Lib.countByte s (that byte)'; the world is as it was. ✋ NO CONTRACT HERE YET at an empty substr (utf8.RuneCountInString) or at a longer one (a loop over strings.Index). (LAID: no walk: one application.) -/
theorem Tryz.strings_Count_one (s : ByteArray) (c : UInt8) (w : World) :
    Calls Tryz.prog 20 #[.string s, .string ⟨#[c]⟩] w fun e w' => e = .returned (.int .i64 (Lib.countByte s.data.toList c)) ∧ w' = w := Any.strings_Count_one Tryz.lays138 s c w
def Tryz.lays149_ren : Go.Shelf.Ren := ⟨fun | 149 => 51 | 222 => 99 | n => n, fun | 9 => 9 | 5 => 5 | 3 => 3 | 4 => 4 | n => n, fun | n => n⟩
theorem Tryz.lays149 : Go.Proofs.Lays.n149 Tryz.prog Tryz.lays149_ren := {
  mixed := by kernel_rfl
  f149 := Tryz.func51.trans (congrArg some (by kernel_rfl))
  f222 := Tryz.func99.trans (congrArg some (by kernel_rfl))
  t3 := Tryz.underlying3
  a3 := Tryz.isAgg3
  z3 := Tryz.sizeOf3
  v3 := Tryz.zeroValue3
  t4 := Tryz.underlying4
  a4 := Tryz.isAgg4
  z4 := Tryz.sizeOf4
  v4 := Tryz.zeroValue4
  t5 := Tryz.underlying5
  a5 := Tryz.isAgg5
  z5 := Tryz.sizeOf5
  v5 := Tryz.zeroValue5
  t9 := Tryz.underlying9
  a9 := Tryz.isAgg9
  z9 := Tryz.sizeOf9
  v9 := Tryz.zeroValue9 }
open Go.RowKit Go.Lib in
/-- strings.LastIndexByte: "LastIndexByte returns the index of the last instance of c in s, or -1 if c is not present in s." (LAID: no walk: one application.) -/
theorem Tryz.strings_LastIndexByte (s : ByteArray) (c : Int) (hs : s.size < 4611686018427387904) (w : World) :
    Calls Tryz.prog 51 #[.string s, .int .u8 c] w fun e w' => e = .returned (.int .i64 (Lib.lastIndexByte s c)) ∧ w' = w := Any.strings_LastIndexByte Tryz.lays149 s c hs w
end Go.Proofs
/- Walks: strings.Builder: copyCheck, WriteByte, WriteString. -/
namespace Go.Proofs.YtbdkggnajipdhaaGreatDoor
open Go.RowKit
set_option maxRecDepth 100000
/-- What is neither the builder's block nor a row of bytes stays. -/
def Keeps (b : Nat) (w w' : World) : Prop := ∀ (k : Nat) (o : Obj), k ≠ b → w.heap[k]? = some o → (∀ cs f, o ≠ .cells cs 5 f) → w'.heap[k]? = some o
theorem Keeps.refl (b : Nat) (w : World) : Keeps b w w := fun _ _ _ h _ => h
theorem Keeps.trans {b : Nat} {x y z : World} (h : Keeps b x y) (k : Keeps b y z) : Keeps b x z := fun i o hi ho hn => k i o hi (h i o hi ho hn) hn
theorem Keeps.setCell (b o : Nat) (v : Value) (w : World) : Keeps b w (w.setCell ⟨b, o, none⟩ v) := fun k _ hk ho _ => (Below.heap_setCell w ⟨b, o, none⟩ v k hk).trans ho
theorem Keeps.alloc (b : Nat) (w : World) (ob : Obj) : Keeps b w (w.alloc ob) := fun k _ _ ho _ => ((below_alloc w ob).block k (Array.getElem?_eq_some_iff.1 ho).1).trans ho
theorem Keeps.grown {b B n : Nat} {v : Value} {xs : List Value} {w w' : World} (ho : w.ownsRow B 5 1 v n xs) (hg : w.grownBy w' v.ownBlock) : Keeps b w w' := fun k o _ hk hn => by
  refine (hg.block k (Array.getElem?_eq_some_iff.1 hk).1 (fun e => ?_)).trans hk
  rcases ho.2 with ⟨rfl, _⟩ | ⟨g, cap, cur, rfl, _, hh, _⟩
  · cases e
  · simp only [Value.ownBlock, Option.some.injEq] at e
    subst e
    rw [hk] at hh
    injection hh with hh
    exact hn _ _ hh
theorem copyCheck_any (B b : Nat) (l : List Value) (w : World) (h : Lib.IsBuilder 67 5 B b l w) :
    Calls Tryz.prog 71 #[.pointer (some ⟨b, 0, none⟩)] w fun e w' => e = .returned (.tuple #[]) ∧ Lib.BuilderAt 67 5 B b (.pointer (some ⟨b, 0, none⟩)) l w' ∧ Below B w w' ∧ Keeps b w w' := by
  refine calls_W (l := [_]) Tryz.func71 rfl _ Tryz.ntmps71 (by simp) ?_
  obtain ⟨j, hj, hjs⟩ := Option.map_eq_some_iff.1 (show (Tryz.prog.info? 67).map (·.size) = some 2 by kernel_rfl)
  have ne : ∀ (x y : Operand) (w : World), vBin Tryz.prog .neq 64 x y (.pointer (some ⟨b, 0, none⟩)) (.pointer (some ⟨b, 0, none⟩)) w = .ok (.value (.bool false)) w := fun x y w => by
    simp only [vBin, eqGuard]
    simp [Lib.run_neq_ptr_same w _ Tryz.underlying64 hj]
  rcases h with h | h
  · have c0 := h.cell0
    have z0 := h.frozen0
    have cs : (w.setCell ⟨b, 0, none⟩ (.pointer (some ⟨b, 0, none⟩))).cell? ⟨b, 0, none⟩ = some (.pointer (some ⟨b, 0, none⟩)) := by rw [cS_same, c0]; rfl
    have cv1 : vConvert Tryz.prog 64 125 (.pointer (some ⟨b, 0, none⟩)) w = .ok (.value (.pointer (some ⟨b, 0, none⟩))) w := by
      simp [vConvert, Lib.run_to_unsafe w ⟨b, 0, none⟩ Tryz.underlying64 Tryz.underlying125 hj (by rw [hjs]; decide) h.shape (Nat.zero_lt_succ 1)]
    have cv2 : vConvert Tryz.prog 125 64 (.pointer (some ⟨b, 0, none⟩)) w = .ok (.value (.pointer (some ⟨b, 0, none⟩))) w := by
      simp [vConvert, Lib.run_from_unsafe w ⟨b, 0, none⟩ Tryz.underlying125 Tryz.underlying64 hj h.shape (by kernel_rfl)]
    have cl : vCall Tryz.prog 119 #[.pointer (some ⟨b, 0, none⟩)] w = .ok (.value (.pointer (some ⟨b, 0, none⟩))) w := by
      unfold vCall
      rw [run_callFunc_extern Tryz.func119 (by kernel_rfl) (by kernel_rfl) (by kernel_rfl) (e := Extern.AbiNoEscape.same) (by kernel_rfl), Lib.run_noEscape]
      rfl
    rw [vCall_at] at cl
    simp +contextual (maxSteps := 2000000) (disch := (first | omega | (simp only [SZ]; first | done | omega) | (simp only [TS] at *; omega))) only [RZ, ovw, oneC, Nat.reduceAdd, Nat.reduceMul, Nat.reduceSub, Nat.reduceEqDiff, Nat.reduceLT, ↓reduceIte, Int.reduceToNat, Nat.reduceLeDiff,  c0]
    refine W_if_t rfl ?_
    simp +contextual (maxSteps := 2000000) (disch := (first | omega | (simp only [SZ]; first | done | omega) | (simp only [TS] at *; omega))) only [RZ, ovw, oneC, Nat.reduceAdd, Nat.reduceMul, Nat.reduceSub, Nat.reduceEqDiff, Nat.reduceLT, ↓reduceIte, Int.reduceToNat, Nat.reduceLeDiff,  c0, z0, cv1, cv2, cl, cs, ne]
    exact ⟨h.used _, (Below.refl B w).setCell (p := ⟨b, 0, none⟩) h.1 _, Keeps.setCell _ _ _ _⟩
  · have c0 := h.cell0
    simp +contextual (maxSteps := 2000000) (disch := (first | omega | (simp only [SZ]; first | done | omega) | (simp only [TS] at *; omega))) only [RZ, ovw, oneC, Nat.reduceAdd, Nat.reduceMul, Nat.reduceSub, Nat.reduceEqDiff, Nat.reduceLT, ↓reduceIte, Int.reduceToNat, Nat.reduceLeDiff,  c0]
    refine W_if_f rfl ?_
    simp +contextual (maxSteps := 2000000) (disch := (first | omega | (simp only [SZ]; first | done | omega) | (simp only [TS] at *; omega))) only [RZ, ovw, oneC, Nat.reduceAdd, Nat.reduceMul, Nat.reduceSub, Nat.reduceEqDiff, Nat.reduceLT, ↓reduceIte, Int.reduceToNat, Nat.reduceLeDiff,  c0, ne]
    refine W_if_f rfl ?_
    simp +contextual (maxSteps := 2000000) (disch := (first | omega | (simp only [SZ]; first | done | omega) | (simp only [TS] at *; omega))) only [RZ, ovw, oneC, Nat.reduceAdd, Nat.reduceMul, Nat.reduceSub, Nat.reduceEqDiff, Nat.reduceLT, ↓reduceIte, Int.reduceToNat, Nat.reduceLeDiff]
    exact ⟨h, Below.refl B _, Keeps.refl _ _⟩
theorem writeByte_any (B b : Nat) (l : List Value) (c : Int) (w : World) (h : Lib.IsBuilder 67 5 B b l w) (hlen : l.length + 1 ≤ 1000000000) (hBw : B ≤ w.heap.size) :
    Calls Tryz.prog 120 #[.pointer (some ⟨b, 0, none⟩), .int .u8 c] w fun e w' => e = .returned .nilIface ∧ Lib.IsBuilder 67 5 B b (l ++ [.int .u8 c]) w' ∧ Below B w w' ∧ Keeps b w w' := by
  refine calls_W (l := [_, _]) Tryz.func120 rfl _ Tryz.ntmps120 (by simp) ?_
  simp +contextual (maxSteps := 2000000) (disch := (first | omega | (simp only [SZ]; first | done | omega) | (simp only [TS] at *; omega))) only [RZ, ovw, oneC, Nat.reduceAdd, Nat.reduceMul, Nat.reduceSub, Nat.reduceEqDiff, Nat.reduceLT, ↓reduceIte, Int.reduceToNat, Nat.reduceLeDiff]
  refine (copyCheck_any B b l w h).mono ?_
  rintro e w1 ⟨rfl, ⟨hB, v, hbk, hown, hne⟩, hb1, hkp⟩
  refine ⟨_, rfl, ?_⟩
  have hI : sliceI Tryz.prog 65 = some (5, 1, 1) := by kernel_rfl
  obtain ⟨A, n, cp, rfl, rfl⟩ : ∃ A n cp, v = .slice A n cp ∧ n = l.length := by
    rcases hown.2 with ⟨hv, h0⟩ | ⟨g, cap, cur, hv, _⟩
    · exact ⟨none, 0, 0, hv, h0.symm⟩
    · exact ⟨_, _, _, hv, rfl⟩
  have c1 : w1.cell? ⟨b, 1, none⟩ = some (.slice A l.length cp) := by rw [Lib.cell_of_heap hbk]; rfl
  have hsz := hb1.size
  obtain ⟨A', c', w2, he, hown2, hg2, _⟩ := vAppend_own (P := Tryz.prog) (T := 65) (ty := 65) (m := 1) (c := 1) (b := w1.heap.size) (o := 0) (news := [.int .u8 c]) hI (hown.alloc (.cells #[.int .u8 c] 5)) rfl
    (fun j u hu => by rw [Nat.zero_add, (new_block w1 #[.int .u8 c] 5).1 j]; simpa using hu) (fun u hu => by simp at hu; subst hu; rfl) (by omega) (by omega) (by rw [World.size_alloc]; omega)
  have hlt : b < w1.heap.size := by
    rcases Nat.lt_or_ge b w1.heap.size with h' | h'
    · exact h'
    · simp [Array.getElem?_eq_none h'] at hbk
  have hb2 : w2.heap[b]? = some (.cells #[.pointer (some ⟨b, 0, none⟩), .slice A l.length cp] 67 (0, 0)) := by
    rw [hg2.block b (by simp; omega) (fun e => hne e.symm), Lib.alloc_old w1 _ b hlt]
    exact hbk
  have d1 : w2.cell? ⟨b, 1, none⟩ = some (.slice A l.length cp) := by rw [Lib.cell_of_heap hb2]; rfl
  have f1 : w2.frozen? ⟨b, 1, none⟩ = false := Lib.frozen_of_heap hb2 1
  simp +contextual (maxSteps := 2000000) (disch := (first | omega | (simp only [SZ]; first | done | omega) | (simp only [TS] at *; omega))) only [RZ, ovw, oneC, Nat.reduceAdd, Nat.reduceMul, Nat.reduceSub, Nat.reduceEqDiff, Nat.reduceLT, ↓reduceIte, Int.reduceToNat, Nat.reduceLeDiff,  c1, he, d1, f1]
  exact ⟨.inr (Lib.BuilderAt.put (T := 67) (e := 5) hB hb2 (bs' := l ++ [.int .u8 c]) (by simpa using hown2) (by decide)),
    ((hb1.alloc (by omega) _).grown hg2 (by simp; omega) (fun k hk => (hown.lt k hk).1)).setCell (p := ⟨b, 1, none⟩) hB _,
    ((hkp.trans (Keeps.alloc _ _ _)).trans (Keeps.grown (hown.alloc _) hg2)).trans (Keeps.setCell _ _ _ _)⟩
theorem writeString_any (B b : Nat) (l : List Value) (s : ByteArray) (w : World) (h : Lib.IsBuilder 67 5 B b l w) (hlen : l.length + s.size ≤ 1000000000) (hBw : B ≤ w.heap.size) :
    Calls Tryz.prog 30 #[.pointer (some ⟨b, 0, none⟩), .string s] w fun e w' => e = .returned (.tuple #[.int .i64 s.size, .nilIface]) ∧ Lib.IsBuilder 67 5 B b (l ++ Lib.strCells s) w' ∧ Below B w w' ∧ Keeps b w w' := by
  refine calls_W (l := [_, _]) Tryz.func30 rfl _ Tryz.ntmps30 (by simp) ?_
  simp +contextual (maxSteps := 2000000) (disch := (first | omega | (simp only [SZ]; first | done | omega) | (simp only [TS] at *; omega))) only [RZ, ovw, oneC, Nat.reduceAdd, Nat.reduceMul, Nat.reduceSub, Nat.reduceEqDiff, Nat.reduceLT, ↓reduceIte, Int.reduceToNat, Nat.reduceLeDiff]
  refine (copyCheck_any B b l w h).mono ?_
  rintro e w1 ⟨rfl, ⟨hB, v, hbk, hown, hne⟩, hb1, hkp⟩
  refine ⟨_, rfl, ?_⟩
  obtain ⟨i0, hi, hz0, hz1, hz2⟩ := info_parts (show (Tryz.prog.info? 5).map (fun i => (i.zero, i.size, i.bytes)) = some (some (.int .u8 0), 1, 1) by kernel_rfl)
  obtain ⟨A, n, cp, rfl, rfl⟩ : ∃ A n cp, v = .slice A n cp ∧ n = l.length := by
    rcases hown.2 with ⟨hv, h0⟩ | ⟨g, cap, cur, hv, _⟩
    · exact ⟨none, 0, 0, hv, h0.symm⟩
    · exact ⟨_, _, _, hv, rfl⟩
  have c1 : w1.cell? ⟨b, 1, none⟩ = some (.slice A l.length cp) := by rw [Lib.cell_of_heap hbk]; rfl
  have hsz := hb1.size
  obtain ⟨v', w2, he0, hown2, hg2, _⟩ := Lib.run_append_own_string (P := Tryz.prog) (w := w1) B 65 9 65 5 i0 Tryz.underlying65 Tryz.underlying9 hi hz0 hz1 hz2 (.slice A l.length cp) l.length l hown s (by unfold maxLen; omega) (by omega) (by omega)
  have he : vAppend Tryz.prog 65 9 65 (.slice A l.length cp) (.string s) w1 = .ok (.value v') w2 := by simp [vAppend, he0]
  obtain ⟨A', n', c', rfl⟩ : ∃ A n cp, v' = .slice A n cp := by
    rcases hown2.2 with ⟨hv, _⟩ | ⟨g, cap, cur, hv, _⟩
    · exact ⟨_, _, _, hv⟩
    · exact ⟨_, _, _, hv⟩
  have hlt : b < w1.heap.size := by
    rcases Nat.lt_or_ge b w1.heap.size with h' | h'
    · exact h'
    · simp [Array.getElem?_eq_none h'] at hbk
  have hb2 : w2.heap[b]? = some (.cells #[.pointer (some ⟨b, 0, none⟩), .slice A l.length cp] 67 (0, 0)) := by
    rw [hg2.block b hlt (fun e => hne e.symm)]
    exact hbk
  have d1 : w2.cell? ⟨b, 1, none⟩ = some (.slice A l.length cp) := by rw [Lib.cell_of_heap hb2]; rfl
  have f1 : w2.frozen? ⟨b, 1, none⟩ = false := Lib.frozen_of_heap hb2 1
  simp +contextual (maxSteps := 2000000) (disch := (first | omega | (simp only [SZ]; first | done | omega) | (simp only [TS] at *; omega))) only [RZ, ovw, oneC, Nat.reduceAdd, Nat.reduceMul, Nat.reduceSub, Nat.reduceEqDiff, Nat.reduceLT, ↓reduceIte, Int.reduceToNat, Nat.reduceLeDiff,  c1, he, d1, f1]
  exact ⟨.inr (Lib.BuilderAt.put (T := 67) (e := 5) hB hb2 (bs' := l ++ Lib.strCells s) (by simpa [Lib.strCells_length] using hown2) (by decide)),
    (hb1.grown hg2 (by omega) (fun k hk => (hown.lt k hk).1)).setCell (p := ⟨b, 1, none⟩) hB _,
    (hkp.trans (Keeps.grown hown hg2)).trans (Keeps.setCell _ _ _ _)⟩
theorem isB_below {B b : Nat} {l : List Value} {w w' : World} (h : Lib.IsBuilder 67 5 B b l w) (hb : Below w.heap.size w w') : Lib.IsBuilder 67 5 B b l w' := by
  have key : ∀ p, Lib.BuilderAt 67 5 B b p l w → Lib.BuilderAt 67 5 B b p l w' := by
    rintro p ⟨hB, v, hbk, hown, hne⟩
    have hlt : b < w.heap.size := (Array.getElem?_eq_some_iff.1 hbk).1
    exact ⟨hB, v, (hb.block b hlt).trans hbk, owns_below hown hb, hne⟩
  exact h.elim (fun h => .inl (key _ h)) (fun h => .inr (key _ h))
end Go.Proofs.YtbdkggnajipdhaaGreatDoor
