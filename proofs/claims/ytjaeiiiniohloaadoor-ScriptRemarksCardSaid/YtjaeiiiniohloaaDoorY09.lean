/- Texts laid one behind the other: PrB, ScrD. Each says at its head what it proves. -/
import Derived.Test.YtjaeiiiniohloaaDoorY08
set_option linter.unusedSimpArgs false
/- Walks: script.Print. -/
namespace Go.Proofs.YtjaeiiiniohloaaDoor
open Go.RowKit
set_option maxRecDepth 100000
/-- Commands that lie in memory. -/
def CmsR (w : World) (v : Value) (L : List Cm) : Prop := ∃ (P : List (Cm × Value)) (A : Option Addr) (c : Nat), v = .slice A L.length c ∧ P.map (·.1) = L ∧ Arr w A 10 (P.map encP) ∧ ∀ p ∈ P, NumR w p.2 p.1.nums
theorem CmsR.below {w w' : World} {v : Value} {L : List Cm} (h : CmsR w v L) (hb : Below w.heap.size w w') : CmsR w' v L := by
  obtain ⟨P, A, c, rfl, hP, ha, hn⟩ := h
  exact ⟨P, A, c, rfl, hP, ha.below hb, fun p hp => (hn p hp).below hb⟩
theorem CmsIn.reads {base : Nat} {w : World} {v : Value} {L : List Cm} (h : CmsIn base w v L) : CmsR w v L := by
  obtain ⟨P, A, c, rfl, hP, ho, hn⟩ := h
  refine ⟨P, A, c, rfl, hP, fun hl => ?_, fun p hp => (hn p hp).reads⟩
  rw [List.length_map] at hl
  obtain ⟨g, rfl, _, hr, _⟩ := owns_row ho (by rw [← hP, List.length_map]; exact hl)
  exact hr.arr encP_len (by rw [List.length_map]; exact hl)
theorem CmsR.at_ {w : World} {v : Value} {L : List Cm} (h : CmsR w v L) {k : Nat} (hk : k < L.length) : ∃ (b o cp : Nat) (c : Cm) (u : Value), v = .slice (some ⟨b, o, none⟩) L.length cp ∧ b < w.heap.size ∧ L[k]? = some c ∧ NumR w u c.nums ∧ ∀ j x, (cmV c u)[j]? = some x → w.cell? ⟨b, o + k * 10 + j, none⟩ = some x := by
  obtain ⟨P, A, c, rfl, hP, ha, hn⟩ := h
  have hl : P.length = L.length := by rw [← hP, List.length_map]
  obtain ⟨p, hp⟩ : ∃ p, P[k]? = some p := ⟨_, List.getElem?_eq_getElem (by omega)⟩
  obtain ⟨b, o, rfl, hb, hc⟩ := ha.at_ hp
  exact ⟨b, o, c, p.1, p.2, rfl, hb, by rw [← hP, List.getElem?_map, hp]; rfl, hn p (List.mem_of_getElem? hp), hc⟩
/-- What is asked of the commands that are printed. -/
def Cm.mid (c : Cm) : Prop := c.ok ∧ c.name.size ≤ 1000000 ∧ c.text.size ≤ 1000000 ∧ c.nums.length ≤ 1000000
theorem Row.keeps {w w' : World} {g b : Nat} {T : TypeId} {cs : List Value} (h : Row w g T cs) (hT : T ≠ 5) (hg : g ≠ b) (hk : Keeps b w w') : Row w' g T cs := by
  obtain ⟨cur, hc, hr⟩ := h
  exact ⟨cur, hk g _ hg hc (fun cs f e => by injection e with _ e; exact hT e), hr⟩
theorem firstE_drop {L : List Cm} {k : Nat} {c : Cm} (h : L[k]? = some c) : firstE (L.drop k) = if chkE c ≠ 0 then chkE c else firstE (L.drop (k + 1)) := by
  obtain ⟨hk, rfl⟩ := List.getElem?_eq_some_iff.1 h
  rw [List.drop_eq_getElem_cons hk, firstE]
theorem cmName_len (c : Cm) (f : Fm) (h : f.fields.contains 110 = true → scNameB (bs c.name) = true) (hi : idleB f.fields c = true) : (bs c.name).length ≤ 24 := by
  cases hn : f.fields.contains 110 with
  | true =>
    have := h hn
    unfold scNameB at this
    simp only [Bool.and_eq_true, decide_eq_true_eq] at this
    exact this.1.2
  | false =>
    obtain ⟨_, _, _, h4, _⟩ := idle_parts hi
    rcases h4 with h4 | h4
    · rw [hn] at h4; cases h4
    · rw [h4]; decide
theorem sp_lt {l : List Nat} (h : ∀ d ∈ l, d < 256) : ∀ d ∈ 32 :: l, d < 256 := fun d hd => by
  rcases List.mem_cons.1 hd with rfl | hd
  · decide
  · exact h d hd
theorem fmtI_lt (n : Int) : ∀ d ∈ fmtI n, d < 256 := fun d hd => by have := fmtI_all n d hd; omega
theorem prF_lt (c : Cm) (x : Nat) : ∀ d ∈ prF c x, d < 256 := by
  unfold prF
  split
  · exact sp_lt (fmtI_lt _)
  split
  · exact sp_lt (fmtI_lt _)
  split
  · exact sp_lt (fmtI_lt _)
  split
  · exact sp_lt (bs_lt _)
  split
  · exact sp_lt (fun d hd => by have := quote_all (bs_lt c.text) d hd; omega)
  split
  · exact sp_lt (fun d hd => by have := hexT_all _ _ d hd; omega)
  split
  · exact sp_lt (fun d hd => by have := hexT_all _ _ d hd; omega)
  · intro d hd
    obtain ⟨n, _, hn⟩ := List.mem_flatMap.1 hd
    exact sp_lt (fmtI_lt n) d hn
set_option maxHeartbeats 2000000 in
theorem print_any (v : Value) (L : List Cm) (w : World) (hL : Laid w) (hv : CmsR w v L) (hm : ∀ c ∈ L, c.mid) (hl : L.length ≤ 1000000) :
    Calls Tryd.prog 15 #[v] w fun e w' => e = .returned (.tuple #[.string (toBA (printE L).1), .int .i64 (printE L).2]) ∧ Below w.heap.size w w' := by
  refine calls_W (l := [_]) Tryd.func15 rfl _ Tryd.ntmps15 (by simp) ?_
  have hsz := hL.size
  obtain ⟨A, cp, rfl⟩ : ∃ A cp, v = .slice A L.length cp := by obtain ⟨P, A, c, rfl, _⟩ := hv; exact ⟨A, c, rfl⟩
  generalize hR : printE L = R
  unfold printE at hR
  simp +contextual (maxSteps := 2000000) (disch := (first | omega | (simp only [SZ]; done) | (simp only [SZ]; omega) | (simp only [TS] at *; omega))) only [RZ, gval, gslot, fillL, ovw, numb, catL, ldN, agL, okC, oneC, init, Nat.reduceAdd, Nat.reduceMul, Nat.reduceSub, Nat.reduceEqDiff, Nat.reduceLT, ↓reduceIte, Int.reduceToNat, Int.reduceAdd, Int.reduceSub, Int.reduceMul, Int.reduceLT, Int.reduceLE, Int.reduceEq, Nat.reduceLeDiff]
  (refine W_if rfl (fun hc => ?_) (fun hc => ?_) <;> (try simp only [TS] at hc))
  · rw [if_pos (by omega)] at hR
    simp +contextual (maxSteps := 2000000) (disch := (first | omega | (simp only [SZ]; done) | (simp only [SZ]; omega) | (simp only [TS] at *; omega))) only [RZ, gval, gslot, fillL, ovw, numb, catL, ldN, agL, okC, oneC, init, Nat.reduceAdd, Nat.reduceMul, Nat.reduceSub, Nat.reduceEqDiff, Nat.reduceLT, ↓reduceIte, Int.reduceToNat, Int.reduceAdd, Int.reduceSub, Int.reduceMul, Int.reduceLT, Int.reduceLE, Int.reduceEq, Nat.reduceLeDiff]
    rw [← hR]
    exact ⟨rfl, Below.refl _ _⟩
  rw [if_neg (by omega)] at hR
  have hl5 : L.length ≤ 512 := by omega
  clear hc
  simp +contextual (maxSteps := 2000000) (disch := (first | omega | (simp only [SZ]; done) | (simp only [SZ]; omega) | (simp only [TS] at *; omega))) only [RZ, gval, gslot, fillL, ovw, numb, catL, ldN, agL, okC, oneC, init, Nat.reduceAdd, Nat.reduceMul, Nat.reduceSub, Nat.reduceEqDiff, Nat.reduceLT, ↓reduceIte, Int.reduceToNat, Int.reduceAdd, Int.reduceSub, Int.reduceMul, Int.reduceLT, Int.reduceLE, Int.reduceEq, Nat.reduceLeDiff]
  generalize hE : firstE L = E at hR
  refine Raw_loop (fun σ w2 => Below w.heap.size w w2 ∧ ∃ k : Nat, k ≤ L.length ∧ firstE (L.drop k) = E ∧ (∀ c ∈ L.take k, chkE c = 0) ∧ σ 0 = .slice A L.length cp ∧ σ 16 = .slice A L.length cp ∧ σ 17 = .int .i64 L.length ∧ σ 18 = .int .i64 k) (fun σ _ => L.length - (intOf (σ 18)).toNat) ?_ ?_
  · simp +contextual (maxSteps := 2000000) (disch := (first | omega | (simp only [SZ]; done) | (simp only [SZ]; omega) | (simp only [TS] at *; omega))) only [RZ, gval, gslot, fillL, ovw, numb, catL, ldN, agL, okC, oneC, init, Nat.reduceAdd, Nat.reduceMul, Nat.reduceSub, Nat.reduceEqDiff, Nat.reduceLT, ↓reduceIte, Int.reduceToNat, Int.reduceAdd, Int.reduceSub, Int.reduceMul, Int.reduceLT, Int.reduceLE, Int.reduceEq, Nat.reduceLeDiff]
    exact ⟨Below.refl _ _, 0, by omega, hE, fun c h => by simp at h, rfl⟩
  clear hE
  rintro σ w2 ⟨hB, k, hk, hE, hno, e0, e16, e17, e18⟩ K hK
  have hs2 := hB.size
  simp +contextual (maxSteps := 2000000) (disch := (first | omega | (simp only [SZ]; done) | (simp only [SZ]; omega) | (simp only [TS] at *; omega))) only [RZ, gval, gslot, fillL, ovw, numb, catL, ldN, agL, okC, oneC, init, Nat.reduceAdd, Nat.reduceMul, Nat.reduceSub, Nat.reduceEqDiff, Nat.reduceLT, ↓reduceIte, Int.reduceToNat, Int.reduceAdd, Int.reduceSub, Int.reduceMul, Int.reduceLT, Int.reduceLE, Int.reduceEq, Nat.reduceLeDiff,  e0, e16, e17, e18]
  (refine W_if rfl (fun hc => ?_) (fun hc => ?_) <;> (try simp only [TS] at hc))
  · have hkl : k < L.length := by omega
    clear hc
    obtain ⟨b, o, cp2, c, u, hvv, hbb, hLk, hN, hcell⟩ := (hv.below hB).at_ hkl
    injection hvv with hA _ hcp
    subst hA hcp
    obtain ⟨An, cn, rfl, hNa⟩ := hN
    obtain ⟨hok, m1, m2, m3⟩ := hm c (List.mem_of_getElem? hLk)
    rw [firstE_drop hLk] at hE
    have q0 := hcell 0 _ rfl
    have q1 := hcell 1 _ rfl
    have q2 := hcell 2 _ rfl
    have q3 := hcell 3 _ rfl
    have q4 := hcell 4 _ rfl
    have q5 := hcell 5 _ rfl
    have q6 := hcell 6 _ rfl
    have q7 := hcell 7 _ rfl
    have q8 := hcell 8 _ rfl
    have q9 := hcell 9 _ rfl
    rw [Nat.add_zero] at q0
    simp +contextual (maxSteps := 2000000) (disch := (first | omega | (simp only [SZ]; done) | (simp only [SZ]; omega) | (simp only [TS] at *; omega))) only [RZ, gval, gslot, fillL, ovw, numb, catL, ldN, agL, okC, oneC, init, Nat.reduceAdd, Nat.reduceMul, Nat.reduceSub, Nat.reduceEqDiff, Nat.reduceLT, ↓reduceIte, Int.reduceToNat, Int.reduceAdd, Int.reduceSub, Int.reduceMul, Int.reduceLT, Int.reduceLE, Int.reduceEq, Nat.reduceLeDiff,  e0, e16, e17, e18, q0, q1, q2, q3, q4, q5, q6, q7, q8, q9]
    generalize hw3 : w2.alloc _ = w3
    have hB3 : Below w.heap.size w w3 := by rw [← hw3]; exact hB.trans ((below_alloc _ _).mono hs2)
    clear hw3
    refine (check_any c An cn w3 (hL.below hB3 hsz) (by omega) (by omega) (by omega)).mono ?_
    rintro e w4 ⟨rfl, hb4⟩
    refine ⟨_, rfl, ?_⟩
    have hB4 := hB3.trans (hb4.mono hB3.size)
    simp +contextual (maxSteps := 2000000) (disch := (first | omega | (simp only [SZ]; done) | (simp only [SZ]; omega) | (simp only [TS] at *; omega))) only [RZ, gval, gslot, fillL, ovw, numb, catL, ldN, agL, okC, oneC, init, Nat.reduceAdd, Nat.reduceMul, Nat.reduceSub, Nat.reduceEqDiff, Nat.reduceLT, ↓reduceIte, Int.reduceToNat, Int.reduceAdd, Int.reduceSub, Int.reduceMul, Int.reduceLT, Int.reduceLE, Int.reduceEq, Nat.reduceLeDiff,  e0, e16, e17, e18]
    (refine W_if rfl (fun hc => ?_) (fun hc => ?_) <;> (try simp only [TS] at hc))
    · rw [if_pos hc] at hE
      subst hE
      rw [if_pos hc] at hR
      simp +contextual (maxSteps := 2000000) (disch := (first | omega | (simp only [SZ]; done) | (simp only [SZ]; omega) | (simp only [TS] at *; omega))) only [RZ, gval, gslot, fillL, ovw, numb, catL, ldN, agL, okC, oneC, init, Nat.reduceAdd, Nat.reduceMul, Nat.reduceSub, Nat.reduceEqDiff, Nat.reduceLT, ↓reduceIte, Int.reduceToNat, Int.reduceAdd, Int.reduceSub, Int.reduceMul, Int.reduceLT, Int.reduceLE, Int.reduceEq, Nat.reduceLeDiff,  e0, e16, e17, e18]
      rw [← hR]
      exact ⟨rfl, hB4⟩
    · rw [if_neg (by omega)] at hE
      simp +contextual (maxSteps := 2000000) (disch := (first | omega | (simp only [SZ]; done) | (simp only [SZ]; omega) | (simp only [TS] at *; omega))) only [RZ, gval, gslot, fillL, ovw, numb, catL, ldN, agL, okC, oneC, init, Nat.reduceAdd, Nat.reduceMul, Nat.reduceSub, Nat.reduceEqDiff, Nat.reduceLT, ↓reduceIte, Int.reduceToNat, Int.reduceAdd, Int.reduceSub, Int.reduceMul, Int.reduceLT, Int.reduceLE, Int.reduceEq, Nat.reduceLeDiff,  e0, e16, e17, e18]
      refine hK _ _ ⟨hB4, k + 1, by omega, hE, fun d hd => ?_, ?_⟩ ?_
      · rw [List.take_add_one, hLk] at hd
        rcases List.mem_append.1 hd with hd | hd
        · exact hno d hd
        · simp at hd; subst hd; omega
      · simp +contextual (maxSteps := 2000000) (disch := (first | omega | (simp only [SZ]; done) | (simp only [SZ]; omega) | (simp only [TS] at *; omega))) only [RZ, gval, gslot, fillL, ovw, numb, catL, ldN, agL, okC, oneC, init, Nat.reduceAdd, Nat.reduceMul, Nat.reduceSub, Nat.reduceEqDiff, Nat.reduceLT, ↓reduceIte, Int.reduceToNat, Int.reduceAdd, Int.reduceSub, Int.reduceMul, Int.reduceLT, Int.reduceLE, Int.reduceEq, Nat.reduceLeDiff,  e0, e16, e17, e18]
      · simp +contextual (maxSteps := 2000000) (disch := (first | omega | (simp only [SZ]; done) | (simp only [SZ]; omega) | (simp only [TS] at *; omega))) only [RZ, gval, gslot, fillL, ovw, numb, catL, ldN, agL, okC, oneC, init, Nat.reduceAdd, Nat.reduceMul, Nat.reduceSub, Nat.reduceEqDiff, Nat.reduceLT, ↓reduceIte, Int.reduceToNat, Int.reduceAdd, Int.reduceSub, Int.reduceMul, Int.reduceLT, Int.reduceLE, Int.reduceEq, Nat.reduceLeDiff,  intOf, e18]
        omega
  have hkl : k = L.length := by omega
  subst hkl
  rw [List.drop_length, firstE] at hE
  subst hE
  rw [if_neg (by simp)] at hR
  rw [List.take_length] at hno
  simp +contextual (maxSteps := 2000000) (disch := (first | omega | (simp only [SZ]; done) | (simp only [SZ]; omega) | (simp only [TS] at *; omega))) only [RZ, gval, gslot, fillL, ovw, numb, catL, ldN, agL, okC, oneC, init, Nat.reduceAdd, Nat.reduceMul, Nat.reduceSub, Nat.reduceEqDiff, Nat.reduceLT, ↓reduceIte, Int.reduceToNat, Int.reduceAdd, Int.reduceSub, Int.reduceMul, Int.reduceLT, Int.reduceLE, Int.reduceEq, Nat.reduceLeDiff,  e0, e16, e17, e18]
  clear hK hc e16 e17 e18
  generalize hw3 : w2.alloc _ = w3
  have hB3 : Below w.heap.size w w3 := by rw [← hw3]; exact hB.trans ((below_alloc _ _).mono hs2)
  have hb3 : Below w2.heap.size w2 w3 := by rw [← hw3]; exact below_alloc _ _
  have hs3 : w3.heap.size = w2.heap.size + 1 := by rw [← hw3]; simp
  have hD3 : BldIn w2.heap.size w3 [] := by rw [← hw3]; exact BldIn.fresh _
  clear hw3 hb3 hk
  have hBs : w.heap.size ≤ w2.heap.size := hs2
  clear hB hs2 e0
  generalize w2.heap.size = B0 at *
  have hX : ∀ k, k ≤ L.length → ((L.take k).flatMap prL).length ≤ 700000 * k := fun k hk => by
    have := flat_le prL 700000 (L.take k) (fun c hc => by
      have h1 := hno c (List.mem_of_mem_take hc)
      have h2 := hm c (List.mem_of_mem_take hc)
      have h3 := prL_len h2.1 h1
      obtain ⟨f, _, _, _, _, _, _, h4, h5⟩ := chk_parts h1
      omega)
    rw [List.length_take] at this
    omega
  refine Raw_loop (fun σ w4 => Below w.heap.size w w4 ∧ B0 < w4.heap.size ∧ ∃ k : Nat, k ≤ L.length ∧ BldIn B0 w4 ((L.take k).flatMap prL) ∧ σ 7 = .pointer (some ⟨B0, 0, none⟩) ∧ σ 28 = .slice A L.length cp ∧ σ 29 = .int .i64 L.length ∧ σ 30 = .int .i64 k) (fun σ _ => L.length - (intOf (σ 30)).toNat) ?_ ?_
  · simp +contextual (maxSteps := 2000000) (disch := (first | omega | (simp only [SZ]; done) | (simp only [SZ]; omega) | (simp only [TS] at *; omega))) only [RZ, gval, gslot, fillL, ovw, numb, catL, ldN, agL, okC, oneC, init, Nat.reduceAdd, Nat.reduceMul, Nat.reduceSub, Nat.reduceEqDiff, Nat.reduceLT, ↓reduceIte, Int.reduceToNat, Int.reduceAdd, Int.reduceSub, Int.reduceMul, Int.reduceLT, Int.reduceLE, Int.reduceEq, Nat.reduceLeDiff]
    exact ⟨hB3, by omega, 0, by omega, hD3, rfl⟩
  clear hD3 hB3 hs3
  rintro σ w4 ⟨hB4, hlt4, k, hk, hD4, e7, e28, e29, e30⟩ K hK
  have hs4 := hB4.size
  have hXk := hX k hk
  have hprs : k < L.length → ∀ c, L[k]? = some c → (L.take (k + 1)).flatMap prL = (L.take k).flatMap prL ++ prL c := fun h c hc => by
    rw [List.take_add_one, hc, Option.toList_some, List.flatMap_append, List.flatMap_cons, List.flatMap_nil, List.append_nil]
  have hend : k = L.length → (L.take k).flatMap prL = L.flatMap prL := fun h => by rw [h, List.take_length]
  generalize (L.take k).flatMap prL = X at *
  simp +contextual (maxSteps := 2000000) (disch := (first | omega | (simp only [SZ]; done) | (simp only [SZ]; omega) | (simp only [TS] at *; omega))) only [RZ, gval, gslot, fillL, ovw, numb, catL, ldN, agL, okC, oneC, init, Nat.reduceAdd, Nat.reduceMul, Nat.reduceSub, Nat.reduceEqDiff, Nat.reduceLT, ↓reduceIte, Int.reduceToNat, Int.reduceAdd, Int.reduceSub, Int.reduceMul, Int.reduceLT, Int.reduceLE, Int.reduceEq, Nat.reduceLeDiff,  e7, e28, e29, e30]
  (refine W_if rfl (fun hc => ?_) (fun hc => ?_) <;> (try simp only [TS] at hc))
  · have hkl : k < L.length := by omega
    clear hc hend
    obtain ⟨b, o, cp2, c, u, hvv, hbb, hLk, hN, hcell0⟩ := hv.at_ hkl
    injection hvv with hA _ hcp
    subst hA hcp
    obtain ⟨An, cn, rfl, hNa⟩ := hN
    have hcell := fun (j : Nat) (x : Value) (hx : (cmV c (.slice An c.nums.length cn))[j]? = some x) => ((bcell hB4).1 b (o + k * 10 + j) hbb).trans (hcell0 j x hx)
    obtain ⟨hok, m1, m2, m3⟩ := hm c (List.mem_of_getElem? hLk)
    have hchk := hno c (List.mem_of_getElem? hLk)
    have hprs := hprs hkl c hLk
    obtain ⟨f, hf, ha0, ha1, hidle, hnums, hname, htx, hnl⟩ := chk_parts hchk
    obtain ⟨hfm, hfk⟩ := fm_mem hf
    have hff := fm_facts f hfm
    have hfl := fm_flds f hfm
    have hfz := toBA_size f.fields
    have hfb := bs_toBA hfl
    have hwb := bs_toBA (fm_words f hfm)
    have hwz := toBA_size f.word
    have q0 := hcell 0 _ rfl
    have q1 := hcell 1 _ rfl
    have q2 := hcell 2 _ rfl
    have q3 := hcell 3 _ rfl
    have q4 := hcell 4 _ rfl
    have q5 := hcell 5 _ rfl
    have q6 := hcell 6 _ rfl
    have q7 := hcell 7 _ rfl
    have q8 := hcell 8 _ rfl
    have q9 := hcell 9 _ rfl
    rw [Nat.add_zero] at q0
    simp +contextual (maxSteps := 2000000) (disch := (first | omega | (simp only [SZ]; done) | (simp only [SZ]; omega) | (simp only [TS] at *; omega))) only [RZ, gval, gslot, fillL, ovw, numb, catL, ldN, agL, okC, oneC, init, Nat.reduceAdd, Nat.reduceMul, Nat.reduceSub, Nat.reduceEqDiff, Nat.reduceLT, ↓reduceIte, Int.reduceToNat, Int.reduceAdd, Int.reduceSub, Int.reduceMul, Int.reduceLT, Int.reduceLE, Int.reduceEq, Nat.reduceLeDiff,  e7, e28, e29, e30, q0, q1, q2, q3, q4, q5, q6, q7, q8, q9]
    generalize hw5 : w4.alloc _ = w5
    have hb5 : Below w4.heap.size w4 w5 := by rw [← hw5]; exact below_alloc _ _
    have hs5 : w5.heap.size = w4.heap.size + 1 := by rw [← hw5]; simp
    have hr5 : Row w5 w4.heap.size 25 (cmV c (.slice An c.nums.length cn)) := by rw [← hw5]; exact Row.new _ _ _
    have hB5 := hB4.trans (hb5.mono hs4)
    clear hw5 q0 q1 q2 q3 q4 q5 q6 q7 q8 q9 hcell
    refine (formOf_any c.kind w5 (hL.below hB5 hsz)).mono ?_
    rintro e w6 ⟨rfl, hb6⟩
    refine ⟨_, rfl, ?_⟩
    rw [hf]
    have hs6 := hb6.size
    have hr6 := hr5.below hb6
    have hB6 := hB5.trans (hb6.mono (by omega))
    unfold fmV encFm
    simp +contextual (maxSteps := 2000000) (disch := (first | omega | (simp only [SZ]; done) | (simp only [SZ]; omega) | (simp only [TS] at *; omega))) only [RZ, gval, gslot, fillL, ovw, numb, catL, ldN, agL, okC, oneC, init, Nat.reduceAdd, Nat.reduceMul, Nat.reduceSub, Nat.reduceEqDiff, Nat.reduceLT, ↓reduceIte, Int.reduceToNat, Int.reduceAdd, Int.reduceSub, Int.reduceMul, Int.reduceLT, Int.reduceLE, Int.reduceEq, Nat.reduceLeDiff]
    generalize hw7 : w6.alloc _ = w7
    have hb7 : Below w6.heap.size w6 w7 := by rw [← hw7]; exact below_alloc _ _
    have hs7 : w7.heap.size = w6.heap.size + 1 := by rw [← hw7]; simp
    have hF7 : Row w7 w6.heap.size 45 (encFm f) := by rw [← hw7]; exact Row.new _ _ _
    have hr7 := hr6.below hb7
    have hB7 := hB6.trans (hb7.mono (by omega))
    have hD7 : BldIn B0 w7 X := ((hD4.below hb5).below hb6).below hb7
    clear hw7
    have g1 := hr7.cell (i := 1) rfl
    have k1 := hF7.cell (i := 1) rfl
    have hfmt := fmtB_size hok.2.1
    have hz1 : (⟨#[32]⟩ : ByteArray).size = 1 := rfl
    refine Raw_rcS (fun w' => w'.cell? ⟨w4.heap.size, 1, none⟩ = some (.int .i64 c.at_) ∧ w'.cell? ⟨w6.heap.size, 1, none⟩ = some (.string (toBA f.word))) (τ := ?ta) [0, 1, 4, 5] [2, 3, 6, 7] MX rfl (by kernel_rfl) (by kernel_rfl) (by kernel_rfl) (fun _ _ _ h => h) ⟨g1, k1⟩ (fun w' hw' => ?_) ?_; rotate_left
    · simp only [opsL_cons, opsL_nil, List.getElem?_toArray, List.getElem?_cons_zero, List.getElem?_cons_succ, optL_some]
      simp +contextual (maxSteps := 2000000) (disch := (first | omega | (simp only [SZ]; done) | (simp only [SZ]; omega) | (simp only [TS] at *; omega))) only [RZ, gval, gslot, fillL, ovw, numb, catL, ldN, agL, okC, oneC, init, Nat.reduceAdd, Nat.reduceMul, Nat.reduceSub, Nat.reduceEqDiff, Nat.reduceLT, ↓reduceIte, Int.reduceToNat, Int.reduceAdd, Int.reduceSub, Int.reduceMul, Int.reduceLT, Int.reduceLE, Int.reduceEq, Nat.reduceLeDiff,  hw', e7, e28, e29, e30]
      exact rfl
    simp only [opsL_cons, opsL_nil, List.getElem?_toArray, List.getElem?_cons_zero, List.getElem?_cons_succ, optL_some]
    simp +contextual (maxSteps := 2000000) (disch := (first | omega | (simp only [SZ]; done) | (simp only [SZ]; omega) | (simp only [TS] at *; omega))) only [RZ, gval, gslot, fillL, ovw, numb, catL, ldN, agL, okC, oneC, init, Nat.reduceAdd, Nat.reduceMul, Nat.reduceSub, Nat.reduceEqDiff, Nat.reduceLT, ↓reduceIte, Int.reduceToNat, Int.reduceAdd, Int.reduceSub, Int.reduceMul, Int.reduceLT, Int.reduceLE, Int.reduceEq, Nat.reduceLeDiff,  EC_op, EC_nil, g1, k1, e7, e28, e29, e30]
    refine (format_any c.at_ w7.drew (hL.below hB7.drew hsz) hok.2.1).mono ?_
    rintro e w8 ⟨rfl, hb8⟩
    have hb8' : Below w7.heap.size w7 w8 := (Below.refl _ _).drew.trans hb8
    have hs8 := hb8'.size
    have hr8 := hr7.below hb8'
    have hF8 := hF7.below hb8'
    have hD8 := hD7.below hb8'
    have hB8 := hB7.trans (hb8'.mono (by omega))
    have g8 := hr8.cell (i := 1) rfl
    have k8 := hF8.cell (i := 1) rfl
    refine ⟨_, rfl, ⟨g8, k8⟩, ?_⟩
    have hsz2 : (fmtB c.at_ ++ (⟨#[32]⟩ : ByteArray)).size ≤ 22 := by rw [ByteArray.size_append]; omega
    have hsz3 : (fmtB c.at_ ++ (⟨#[32]⟩ : ByteArray) ++ toBA f.word).size ≤ 30 := by rw [ByteArray.size_append]; omega
    have hbs3 : bs (fmtB c.at_ ++ (⟨#[32]⟩ : ByteArray) ++ toBA f.word) = fmtI c.at_ ++ 32 :: f.word := by
      rw [bs_append, bs_append, hwb, bs_fmtB, List.append_assoc]; rfl
    simp +contextual (maxSteps := 2000000) (disch := (first | omega | (simp only [SZ]; done) | (simp only [SZ]; omega) | (simp only [TS] at *; omega))) only [RZ, gval, gslot, fillL, ovw, numb, catL, ldN, agL, okC, oneC, init, Nat.reduceAdd, Nat.reduceMul, Nat.reduceSub, Nat.reduceEqDiff, Nat.reduceLT, ↓reduceIte, Int.reduceToNat, Int.reduceAdd, Int.reduceSub, Int.reduceMul, Int.reduceLT, Int.reduceLE, Int.reduceEq, Nat.reduceLeDiff,  EC_op, EC_nil, g8, k8, e7, e28, e29, e30]
    refine (hD8.write (fmtB c.at_ ++ (⟨#[32]⟩ : ByteArray) ++ toBA f.word) (by omega)).mono ?_
    rintro e w9 ⟨rfl, hD9, hb9, hk9⟩
    have hr9 := hr8.keeps (by decide) (by omega) hk9
    have hF9 := hF8.keeps (by decide) (by omega) hk9
    have hB9 := hB8.trans (hb9.mono hBs)
    have hs9 := hb9.size
    rw [hbs3] at hD9
    have g9 := hr9.cell (i := 1) rfl
    have k9 := hF9.cell (i := 1) rfl
    have k92 := hF9.cell (i := 2) rfl
    refine ⟨_, rfl, ⟨g9, k9⟩, ?_⟩
    simp +contextual (maxSteps := 2000000) (disch := (first | omega | (simp only [SZ]; done) | (simp only [SZ]; omega) | (simp only [TS] at *; omega))) only [RZ, gval, gslot, fillL, ovw, numb, catL, ldN, agL, okC, oneC, init, Nat.reduceAdd, Nat.reduceMul, Nat.reduceSub, Nat.reduceEqDiff, Nat.reduceLT, ↓reduceIte, Int.reduceToNat, Int.reduceAdd, Int.reduceSub, Int.reduceMul, Int.reduceLT, Int.reduceLE, Int.reduceEq, Nat.reduceLeDiff,  EC_op, EC_nil, k92, e7, e28, e29, e30]
    generalize hY : X ++ (fmtI c.at_ ++ 32 :: f.word) = Y at *
    have hYl : Y.length ≤ X.length + 30 := by rw [← hY, List.length_append, ← hbs3, bs_len]; omega
    have hF9' : Row w9 w6.heap.size 45 [.int .i64 f.kind, .string (toBA f.word), .string (toBA f.fields), .int .i64 f.nums] := hF9
    clear hF9
    generalize toBA f.fields = fb at *
    have hpl : ∀ x, (prF c x).length ≤ 140000 := fun x => by
      have h1 := cmName_len c f hname hidle
      have := prF_len hok h1 x
      omega
    have htk : ∀ i, i ≤ f.fields.length → ((f.fields.take i).flatMap (prF c)).length ≤ 140000 * i := fun i hi => by
      have := flat_le (prF c) 140000 (f.fields.take i) (fun x _ => hpl x)
      rw [List.length_take] at this
      omega
    refine Raw_loop (fun σ w10 => Below w.heap.size w w10 ∧ w9.heap.size ≤ w10.heap.size ∧ Row w10 w4.heap.size 25 (cmV c (.slice An c.nums.length cn)) ∧ Row w10 w6.heap.size 45 [.int .i64 f.kind, .string (toBA f.word), .string fb, .int .i64 f.nums] ∧ ∃ i : Nat, i ≤ f.fields.length ∧ BldIn B0 w10 (Y ++ (f.fields.take i).flatMap (prF c)) ∧
        σ 7 = .pointer (some ⟨B0, 0, none⟩) ∧ σ 9 = .pointer (some ⟨w4.heap.size, 0, none⟩) ∧ σ 10 = .pointer (some ⟨w6.heap.size, 0, none⟩) ∧ σ 28 = .slice (some ⟨b, o, none⟩) L.length cp ∧ σ 29 = .int .i64 L.length ∧ σ 30 = .int .i64 k ∧ σ 50 = .int .i64 f.fields.length ∧ σ 51 = .int .i64 i) (fun σ _ => f.fields.length - (intOf (σ 51)).toNat) ?_ ?_
    · simp +contextual (maxSteps := 2000000) (disch := (first | omega | (simp only [SZ]; done) | (simp only [SZ]; omega) | (simp only [TS] at *; omega))) only [RZ, gval, gslot, fillL, ovw, numb, catL, ldN, agL, okC, oneC, init, Nat.reduceAdd, Nat.reduceMul, Nat.reduceSub, Nat.reduceEqDiff, Nat.reduceLT, ↓reduceIte, Int.reduceToNat, Int.reduceAdd, Int.reduceSub, Int.reduceMul, Int.reduceLT, Int.reduceLE, Int.reduceEq, Nat.reduceLeDiff,  e7, e28, e29, e30]
      exact ⟨hB9, by omega, hr9, hF9', 0, by omega, by simpa using hD9, by rw [hfz], rfl⟩
    clear hD9 hF9' hr9
    have e30' := e30
    rintro σ w10 ⟨hB10, hs10, hr10, hF10, i, hi, hD10, e7, e9, e10, e28, e29, e30, e50, e51⟩ K2 hK2
    have htl := htk i hi
    have hs10' := hB10.size
    simp +contextual (maxSteps := 2000000) (disch := (first | omega | (simp only [SZ]; done) | (simp only [SZ]; omega) | (simp only [TS] at *; omega))) only [RZ, gval, gslot, fillL, ovw, numb, catL, ldN, agL, okC, oneC, init, Nat.reduceAdd, Nat.reduceMul, Nat.reduceSub, Nat.reduceEqDiff, Nat.reduceLT, ↓reduceIte, Int.reduceToNat, Int.reduceAdd, Int.reduceSub, Int.reduceMul, Int.reduceLT, Int.reduceLE, Int.reduceEq, Nat.reduceLeDiff,  e7, e9, e10, e28, e29, e30, e50, e51]
    (refine W_if rfl (fun hc => ?_) (fun hc => ?_) <;> (try simp only [TS] at hc))
    · have hil : i < f.fields.length := by omega
      clear hc
      obtain ⟨x, hx⟩ : ∃ x, f.fields[i]? = some x := ⟨_, List.getElem?_eq_getElem hil⟩
      have hxl : x < 256 := hfl x (List.mem_of_getElem? hx)
      have hbx : bt fb i = x := by
        have := bs_get (s := fb) (i := i) (by omega)
        rw [hfb, hx] at this
        injection this with this
        exact this.symm
      have t10 := hr10.ten
      have k10 := hF10.cell (i := 2) rfl
      simp +contextual (maxSteps := 2000000) (disch := (first | omega | (simp only [SZ]; done) | (simp only [SZ]; omega) | (simp only [TS] at *; omega))) only [RZ, gval, gslot, fillL, ovw, numb, catL, ldN, agL, okC, oneC, init, Nat.reduceAdd, Nat.reduceMul, Nat.reduceSub, Nat.reduceEqDiff, Nat.reduceLT, ↓reduceIte, Int.reduceToNat, Int.reduceAdd, Int.reduceSub, Int.reduceMul, Int.reduceLT, Int.reduceLE, Int.reduceEq, Nat.reduceLeDiff,  e7, e9, e10, e28, e29, e30, e50, e51]
      refine Raw_tail 5 MX (by kernel_rfl) ?_
      dsimp only [List.take, List.drop]
      simp +contextual (maxSteps := 2000000) (disch := (first | omega | (simp only [SZ]; done) | (simp only [SZ]; omega) | (simp only [TS] at *; omega))) only [RZ, gval, gslot, fillL, ovw, numb, catL, ldN, agL, okC, oneC, init, Nat.reduceAdd, Nat.reduceMul, Nat.reduceSub, Nat.reduceEqDiff, Nat.reduceLT, ↓reduceIte, Int.reduceToNat, Int.reduceAdd, Int.reduceSub, Int.reduceMul, Int.reduceLT, Int.reduceLE, Int.reduceEq, Nat.reduceLeDiff,  t10, k10, hbx, e7, e9, e10, e28, e29, e30, e50, e51]
      have hNx : NumR w10.drew (.slice An c.nums.length cn) c.nums := ⟨An, cn, rfl, (hNa.below hB10).drew⟩
      refine (printField_any c (.slice An c.nums.length cn) x w10.drew (hL.below hB10.drew hsz) hok hNx hxl m1 m2 m3).mono ?_
      rintro e w11 ⟨rfl, hb11⟩
      have hb11' : Below w10.heap.size w10 w11 := (Below.refl _ _).drew.trans hb11
      have hs11 := hb11'.size
      have hB11 := hB10.trans (hb11'.mono hs10')
      refine ⟨_, rfl, ?_⟩
      have hpz := toBA_size (prF c x)
      have hpb := bs_toBA (l := prF c x) (prF_lt c x)
      have hplx := hpl x
      simp +contextual (maxSteps := 2000000) (disch := (first | omega | (simp only [SZ]; done) | (simp only [SZ]; omega) | (simp only [TS] at *; omega))) only [RZ, gval, gslot, fillL, ovw, numb, catL, ldN, agL, okC, oneC, init, Nat.reduceAdd, Nat.reduceMul, Nat.reduceSub, Nat.reduceEqDiff, Nat.reduceLT, ↓reduceIte, Int.reduceToNat, Int.reduceAdd, Int.reduceSub, Int.reduceMul, Int.reduceLT, Int.reduceLE, Int.reduceEq, Nat.reduceLeDiff,  e7, e9, e10, e28, e29, e30, e50, e51]
      refine ((hD10.below hb11').write (toBA (prF c x)) (by rw [List.length_append]; omega)).mono ?_
      rintro e w12 ⟨rfl, hD12, hb12, hk12⟩
      have hs12 := hb12.size
      refine ⟨_, rfl, ?_⟩
      simp +contextual (maxSteps := 2000000) (disch := (first | omega | (simp only [SZ]; done) | (simp only [SZ]; omega) | (simp only [TS] at *; omega))) only [RZ, gval, gslot, fillL, ovw, numb, catL, ldN, agL, okC, oneC, init, Nat.reduceAdd, Nat.reduceMul, Nat.reduceSub, Nat.reduceEqDiff, Nat.reduceLT, ↓reduceIte, Int.reduceToNat, Int.reduceAdd, Int.reduceSub, Int.reduceMul, Int.reduceLT, Int.reduceLE, Int.reduceEq, Nat.reduceLeDiff,  e7, e9, e10, e28, e29, e30, e50, e51]
      refine hK2 _ _ ⟨hB11.trans (hb12.mono hBs), by omega, (hr10.below hb11').keeps (by decide) (by omega) hk12, (hF10.below hb11').keeps (by decide) (by omega) hk12, i + 1, by omega, ?_, ?_⟩ ?_
      · rw [List.take_add_one, hx, Option.toList_some, List.flatMap_append, List.flatMap_cons, List.flatMap_nil, List.append_nil, ← List.append_assoc]
        rw [hpb] at hD12
        exact hD12
      · simp +contextual (maxSteps := 2000000) (disch := (first | omega | (simp only [SZ]; done) | (simp only [SZ]; omega) | (simp only [TS] at *; omega))) only [RZ, gval, gslot, fillL, ovw, numb, catL, ldN, agL, okC, oneC, init, Nat.reduceAdd, Nat.reduceMul, Nat.reduceSub, Nat.reduceEqDiff, Nat.reduceLT, ↓reduceIte, Int.reduceToNat, Int.reduceAdd, Int.reduceSub, Int.reduceMul, Int.reduceLT, Int.reduceLE, Int.reduceEq, Nat.reduceLeDiff,  e7, e9, e10, e28, e29, e30, e50, e51]
      · simp +contextual (maxSteps := 2000000) (disch := (first | omega | (simp only [SZ]; done) | (simp only [SZ]; omega) | (simp only [TS] at *; omega))) only [RZ, gval, gslot, fillL, ovw, numb, catL, ldN, agL, okC, oneC, init, Nat.reduceAdd, Nat.reduceMul, Nat.reduceSub, Nat.reduceEqDiff, Nat.reduceLT, ↓reduceIte, Int.reduceToNat, Int.reduceAdd, Int.reduceSub, Int.reduceMul, Int.reduceLT, Int.reduceLE, Int.reduceEq, Nat.reduceLeDiff,  intOf, e51]
        omega
    · have hie : i = f.fields.length := by omega
      subst hie
      rw [List.take_length] at hD10 htl
      simp +contextual (maxSteps := 2000000) (disch := (first | omega | (simp only [SZ]; done) | (simp only [SZ]; omega) | (simp only [TS] at *; omega))) only [RZ, gval, gslot, fillL, ovw, numb, catL, ldN, agL, okC, oneC, init, Nat.reduceAdd, Nat.reduceMul, Nat.reduceSub, Nat.reduceEqDiff, Nat.reduceLT, ↓reduceIte, Int.reduceToNat, Int.reduceAdd, Int.reduceSub, Int.reduceMul, Int.reduceLT, Int.reduceLE, Int.reduceEq, Nat.reduceLeDiff,  e7, e9, e10, e28, e29, e30, e50, e51]
      refine (hD10.byte 10 (by decide) (by rw [List.length_append]; omega)).mono ?_
      rintro e w11 ⟨rfl, hD11, hb11, _⟩
      have hs11 := hb11.size
      refine ⟨_, rfl, ?_⟩
      simp +contextual (maxSteps := 2000000) (disch := (first | omega | (simp only [SZ]; done) | (simp only [SZ]; omega) | (simp only [TS] at *; omega))) only [RZ, gval, gslot, fillL, ovw, numb, catL, ldN, agL, okC, oneC, init, Nat.reduceAdd, Nat.reduceMul, Nat.reduceSub, Nat.reduceEqDiff, Nat.reduceLT, ↓reduceIte, Int.reduceToNat, Int.reduceAdd, Int.reduceSub, Int.reduceMul, Int.reduceLT, Int.reduceLE, Int.reduceEq, Nat.reduceLeDiff,  e7, e9, e10, e28, e29, e30, e50, e51]
      refine hK _ _ ⟨hB10.trans (hb11.mono hBs), by omega, k + 1, by omega, ?_, ?_⟩ ?_
      · rw [hprs]
        have e : prL c = (fmtI c.at_ ++ 32 :: f.word) ++ f.fields.flatMap (prF c) ++ [10] := by unfold prL; rw [hf]
        rw [e, ← List.append_assoc, ← List.append_assoc, hY]
        exact hD11
      · simp +contextual (maxSteps := 2000000) (disch := (first | omega | (simp only [SZ]; done) | (simp only [SZ]; omega) | (simp only [TS] at *; omega))) only [RZ, gval, gslot, fillL, ovw, numb, catL, ldN, agL, okC, oneC, init, Nat.reduceAdd, Nat.reduceMul, Nat.reduceSub, Nat.reduceEqDiff, Nat.reduceLT, ↓reduceIte, Int.reduceToNat, Int.reduceAdd, Int.reduceSub, Int.reduceMul, Int.reduceLT, Int.reduceLE, Int.reduceEq, Nat.reduceLeDiff,  e7, e9, e10, e28, e29, e30, e50, e51]
      · simp +contextual (maxSteps := 2000000) (disch := (first | omega | (simp only [SZ]; done) | (simp only [SZ]; omega) | (simp only [TS] at *; omega))) only [RZ, gval, gslot, fillL, ovw, numb, catL, ldN, agL, okC, oneC, init, Nat.reduceAdd, Nat.reduceMul, Nat.reduceSub, Nat.reduceEqDiff, Nat.reduceLT, ↓reduceIte, Int.reduceToNat, Int.reduceAdd, Int.reduceSub, Int.reduceMul, Int.reduceLT, Int.reduceLE, Int.reduceEq, Nat.reduceLeDiff,  intOf, e30']
        omega
  · have hkl : k = L.length := by omega
    rw [hend hkl] at hD4
    simp +contextual (maxSteps := 2000000) (disch := (first | omega | (simp only [SZ]; done) | (simp only [SZ]; omega) | (simp only [TS] at *; omega))) only [RZ, gval, gslot, fillL, ovw, numb, catL, ldN, agL, okC, oneC, init, Nat.reduceAdd, Nat.reduceMul, Nat.reduceSub, Nat.reduceEqDiff, Nat.reduceLT, ↓reduceIte, Int.reduceToNat, Int.reduceAdd, Int.reduceSub, Int.reduceMul, Int.reduceLT, Int.reduceLE, Int.reduceEq, Nat.reduceLeDiff,  e7, e28, e29, e30]
    refine hD4.str.mono ?_
    rintro e w5 ⟨rfl, hb5⟩
    refine ⟨_, rfl, ?_⟩
    simp +contextual (maxSteps := 2000000) (disch := (first | omega | (simp only [SZ]; done) | (simp only [SZ]; omega) | (simp only [TS] at *; omega))) only [RZ, gval, gslot, fillL, ovw, numb, catL, ldN, agL, okC, oneC, init, Nat.reduceAdd, Nat.reduceMul, Nat.reduceSub, Nat.reduceEqDiff, Nat.reduceLT, ↓reduceIte, Int.reduceToNat, Int.reduceAdd, Int.reduceSub, Int.reduceMul, Int.reduceLT, Int.reduceLE, Int.reduceEq, Nat.reduceLeDiff]
    rw [← hR]
    exact ⟨rfl, hB4.trans (hb5.mono hBs)⟩
end Go.Proofs.YtjaeiiiniohloaaDoor
/- Walks: the reference's forms and uses (laid by program, alike from kind to kind). -/
namespace Go.Proofs.YtjaeiiiniohloaaDoor
open Go.RowKit
set_option maxRecDepth 100000
/-- The reference's words and fields, as values. -/
def rfV (k : Int) : Value := .tuple #[.string (toBA (rf k).1), .string (toBA (rf k).2)]
theorem rf_1 : rfV 1 = .tuple #[.string ⟨#[103, 97, 109, 101]⟩, .string ⟨#[65, 66, 84]⟩] := by kernel_rfl
theorem rf_2 : rfV 2 = .tuple #[.string ⟨#[114, 101, 116, 97, 105, 108, 101, 114]⟩, .string ⟨#[87, 53]⟩] := by kernel_rfl
theorem rf_3 : rfV 3 = .tuple #[.string ⟨#[112, 108, 97, 121, 101, 114]⟩, .string ⟨#[87, 65]⟩] := by kernel_rfl
theorem rf_4 : rfV 4 = .tuple #[.string ⟨#[108, 105, 109, 105, 116]⟩, .string ⟨#[87, 51]⟩] := by kernel_rfl
theorem rf_5 : rfV 5 = .tuple #[.string ⟨#[101, 120, 99, 108, 117, 100, 101]⟩, .string ⟨#[87, 65, 66]⟩] := by kernel_rfl
theorem rf_6 : rfV 6 = .tuple #[.string ⟨#[115, 101, 108, 108]⟩, .string ⟨#[87, 65, 66, 78, 84]⟩] := by kernel_rfl
theorem rf_7 : rfV 7 = .tuple #[.string ⟨#[99, 97, 110, 99, 101, 108]⟩, .string ⟨#[87, 84]⟩] := by kernel_rfl
theorem rf_8 : rfV 8 = .tuple #[.string ⟨#[99, 111, 109, 109, 105, 116]⟩, .string ⟨#[78, 65, 87, 75]⟩] := by kernel_rfl
theorem rf_9 : rfV 9 = .tuple #[.string ⟨#[114, 101, 118, 101, 97, 108]⟩, .string ⟨#[78, 65, 87, 75, 79]⟩] := by kernel_rfl
theorem rf_10 : rfV 10 = .tuple #[.string ⟨#[98, 97, 108, 108, 115]⟩, .string ⟨#[78, 65, 87, 76]⟩] := by kernel_rfl
theorem rf_11 : rfV 11 = .tuple #[.string ⟨#[97, 98, 111, 114, 116]⟩, .string ⟨#[78, 65]⟩] := by kernel_rfl
theorem rf_12 : rfV 12 = .tuple #[.string ⟨#[115, 101, 116, 116, 108, 101]⟩, .string ⟨#[78, 65]⟩] := by kernel_rfl
theorem rf_13 : rfV 13 = .tuple #[.string ⟨#[99, 108, 97, 105, 109]⟩, .string ⟨#[87, 84]⟩] := by kernel_rfl
theorem rf_14 : rfV 14 = .tuple #[.string ⟨#[101, 120, 112, 105, 114, 101]⟩, .string ⟨#[]⟩] := by kernel_rfl
theorem rf_15 : rfV 15 = .tuple #[.string ⟨#[112, 101, 114, 105, 111, 100]⟩, .string ⟨#[87]⟩] := by kernel_rfl
theorem rf_16 : rfV 16 = .tuple #[.string ⟨#[100, 101, 99, 107]⟩, .string ⟨#[75, 84]⟩] := by kernel_rfl
theorem rf_17 : rfV 17 = .tuple #[.string ⟨#[112, 97, 99, 107]⟩, .string ⟨#[78, 65, 87, 66]⟩] := by kernel_rfl
theorem rf_18 : rfV 18 = .tuple #[.string ⟨#[115, 99, 114, 97, 116, 99, 104]⟩, .string ⟨#[78, 87, 84]⟩] := by kernel_rfl
theorem rf_19 : rfV 19 = .tuple #[.string ⟨#[100, 101, 98, 116]⟩, .string ⟨#[87, 78, 65, 66]⟩] := by kernel_rfl
theorem rf_20 : rfV 20 = .tuple #[.string ⟨#[99, 104, 97, 110, 99, 101]⟩, .string ⟨#[78, 65, 75, 66]⟩] := by kernel_rfl
theorem rf_none {k : Int} (h : k < 1 ∨ 20 < k) : rfV k = .tuple #[.string ⟨#[]⟩, .string ⟨#[]⟩] := by
  have hm : ∀ f ∈ fmT, 1 ≤ f.kind ∧ f.kind ≤ 20 := by decide
  have e : fmOf k = none := fm_none fun i f hf => by
    have := hm f (List.mem_of_getElem? hf)
    omega
  unfold rfV rf
  rw [e]
  rfl
theorem other_any (k : Int) (w : World) (hk : ¬ (1 ≤ k ∧ k ≤ 10)) : Calls Tryd.prog 38 #[.int .i64 k] w fun e w' => e = .returned (rfV k) ∧ w = w' := by
  refine calls_W (l := [_]) Tryd.func38 rfl _ Tryd.ntmps38 (by simp) ?_
  simp +contextual (maxSteps := 2000000) (disch := (first | omega | (simp only [SZ]; done) | (simp only [SZ]; omega) | (simp only [TS] at *; omega))) only [RZ, gval, gslot, fillL, ovw, numb, catL, ldN, agL, okC, oneC, init, Nat.reduceAdd, Nat.reduceMul, Nat.reduceSub, Nat.reduceEqDiff, Nat.reduceLT, ↓reduceIte, Int.reduceToNat, Int.reduceAdd, Int.reduceSub, Int.reduceMul, Int.reduceLT, Int.reduceLE, Int.reduceEq, Nat.reduceLeDiff]
  (refine W_if rfl (fun hc => ?_) (fun hc => ?_) <;> (try simp only [TS] at hc))
  · subst hc
    simp +contextual (maxSteps := 2000000) (disch := (first | omega | (simp only [SZ]; done) | (simp only [SZ]; omega) | (simp only [TS] at *; omega))) only [RZ, gval, gslot, fillL, ovw, numb, catL, ldN, agL, okC, oneC, init, Nat.reduceAdd, Nat.reduceMul, Nat.reduceSub, Nat.reduceEqDiff, Nat.reduceLT, ↓reduceIte, Int.reduceToNat, Int.reduceAdd, Int.reduceSub, Int.reduceMul, Int.reduceLT, Int.reduceLE, Int.reduceEq, Nat.reduceLeDiff]
    exact congrArg Ending.returned rf_11.symm
  have h11 := hc
  clear hc
  simp +contextual (maxSteps := 2000000) (disch := (first | omega | (simp only [SZ]; done) | (simp only [SZ]; omega) | (simp only [TS] at *; omega))) only [RZ, gval, gslot, fillL, ovw, numb, catL, ldN, agL, okC, oneC, init, Nat.reduceAdd, Nat.reduceMul, Nat.reduceSub, Nat.reduceEqDiff, Nat.reduceLT, ↓reduceIte, Int.reduceToNat, Int.reduceAdd, Int.reduceSub, Int.reduceMul, Int.reduceLT, Int.reduceLE, Int.reduceEq, Nat.reduceLeDiff]
  (refine W_if rfl (fun hc => ?_) (fun hc => ?_) <;> (try simp only [TS] at hc))
  · subst hc
    simp +contextual (maxSteps := 2000000) (disch := (first | omega | (simp only [SZ]; done) | (simp only [SZ]; omega) | (simp only [TS] at *; omega))) only [RZ, gval, gslot, fillL, ovw, numb, catL, ldN, agL, okC, oneC, init, Nat.reduceAdd, Nat.reduceMul, Nat.reduceSub, Nat.reduceEqDiff, Nat.reduceLT, ↓reduceIte, Int.reduceToNat, Int.reduceAdd, Int.reduceSub, Int.reduceMul, Int.reduceLT, Int.reduceLE, Int.reduceEq, Nat.reduceLeDiff]
    exact congrArg Ending.returned rf_12.symm
  have h12 := hc
  clear hc
  simp +contextual (maxSteps := 2000000) (disch := (first | omega | (simp only [SZ]; done) | (simp only [SZ]; omega) | (simp only [TS] at *; omega))) only [RZ, gval, gslot, fillL, ovw, numb, catL, ldN, agL, okC, oneC, init, Nat.reduceAdd, Nat.reduceMul, Nat.reduceSub, Nat.reduceEqDiff, Nat.reduceLT, ↓reduceIte, Int.reduceToNat, Int.reduceAdd, Int.reduceSub, Int.reduceMul, Int.reduceLT, Int.reduceLE, Int.reduceEq, Nat.reduceLeDiff]
  (refine W_if rfl (fun hc => ?_) (fun hc => ?_) <;> (try simp only [TS] at hc))
  · subst hc
    simp +contextual (maxSteps := 2000000) (disch := (first | omega | (simp only [SZ]; done) | (simp only [SZ]; omega) | (simp only [TS] at *; omega))) only [RZ, gval, gslot, fillL, ovw, numb, catL, ldN, agL, okC, oneC, init, Nat.reduceAdd, Nat.reduceMul, Nat.reduceSub, Nat.reduceEqDiff, Nat.reduceLT, ↓reduceIte, Int.reduceToNat, Int.reduceAdd, Int.reduceSub, Int.reduceMul, Int.reduceLT, Int.reduceLE, Int.reduceEq, Nat.reduceLeDiff]
    exact congrArg Ending.returned rf_13.symm
  have h13 := hc
  clear hc
  simp +contextual (maxSteps := 2000000) (disch := (first | omega | (simp only [SZ]; done) | (simp only [SZ]; omega) | (simp only [TS] at *; omega))) only [RZ, gval, gslot, fillL, ovw, numb, catL, ldN, agL, okC, oneC, init, Nat.reduceAdd, Nat.reduceMul, Nat.reduceSub, Nat.reduceEqDiff, Nat.reduceLT, ↓reduceIte, Int.reduceToNat, Int.reduceAdd, Int.reduceSub, Int.reduceMul, Int.reduceLT, Int.reduceLE, Int.reduceEq, Nat.reduceLeDiff]
  (refine W_if rfl (fun hc => ?_) (fun hc => ?_) <;> (try simp only [TS] at hc))
  · subst hc
    simp +contextual (maxSteps := 2000000) (disch := (first | omega | (simp only [SZ]; done) | (simp only [SZ]; omega) | (simp only [TS] at *; omega))) only [RZ, gval, gslot, fillL, ovw, numb, catL, ldN, agL, okC, oneC, init, Nat.reduceAdd, Nat.reduceMul, Nat.reduceSub, Nat.reduceEqDiff, Nat.reduceLT, ↓reduceIte, Int.reduceToNat, Int.reduceAdd, Int.reduceSub, Int.reduceMul, Int.reduceLT, Int.reduceLE, Int.reduceEq, Nat.reduceLeDiff]
    exact congrArg Ending.returned rf_14.symm
  have h14 := hc
  clear hc
  simp +contextual (maxSteps := 2000000) (disch := (first | omega | (simp only [SZ]; done) | (simp only [SZ]; omega) | (simp only [TS] at *; omega))) only [RZ, gval, gslot, fillL, ovw, numb, catL, ldN, agL, okC, oneC, init, Nat.reduceAdd, Nat.reduceMul, Nat.reduceSub, Nat.reduceEqDiff, Nat.reduceLT, ↓reduceIte, Int.reduceToNat, Int.reduceAdd, Int.reduceSub, Int.reduceMul, Int.reduceLT, Int.reduceLE, Int.reduceEq, Nat.reduceLeDiff]
  (refine W_if rfl (fun hc => ?_) (fun hc => ?_) <;> (try simp only [TS] at hc))
  · subst hc
    simp +contextual (maxSteps := 2000000) (disch := (first | omega | (simp only [SZ]; done) | (simp only [SZ]; omega) | (simp only [TS] at *; omega))) only [RZ, gval, gslot, fillL, ovw, numb, catL, ldN, agL, okC, oneC, init, Nat.reduceAdd, Nat.reduceMul, Nat.reduceSub, Nat.reduceEqDiff, Nat.reduceLT, ↓reduceIte, Int.reduceToNat, Int.reduceAdd, Int.reduceSub, Int.reduceMul, Int.reduceLT, Int.reduceLE, Int.reduceEq, Nat.reduceLeDiff]
    exact congrArg Ending.returned rf_15.symm
  have h15 := hc
  clear hc
  simp +contextual (maxSteps := 2000000) (disch := (first | omega | (simp only [SZ]; done) | (simp only [SZ]; omega) | (simp only [TS] at *; omega))) only [RZ, gval, gslot, fillL, ovw, numb, catL, ldN, agL, okC, oneC, init, Nat.reduceAdd, Nat.reduceMul, Nat.reduceSub, Nat.reduceEqDiff, Nat.reduceLT, ↓reduceIte, Int.reduceToNat, Int.reduceAdd, Int.reduceSub, Int.reduceMul, Int.reduceLT, Int.reduceLE, Int.reduceEq, Nat.reduceLeDiff]
  (refine W_if rfl (fun hc => ?_) (fun hc => ?_) <;> (try simp only [TS] at hc))
  · subst hc
    simp +contextual (maxSteps := 2000000) (disch := (first | omega | (simp only [SZ]; done) | (simp only [SZ]; omega) | (simp only [TS] at *; omega))) only [RZ, gval, gslot, fillL, ovw, numb, catL, ldN, agL, okC, oneC, init, Nat.reduceAdd, Nat.reduceMul, Nat.reduceSub, Nat.reduceEqDiff, Nat.reduceLT, ↓reduceIte, Int.reduceToNat, Int.reduceAdd, Int.reduceSub, Int.reduceMul, Int.reduceLT, Int.reduceLE, Int.reduceEq, Nat.reduceLeDiff]
    exact congrArg Ending.returned rf_16.symm
  have h16 := hc
  clear hc
  simp +contextual (maxSteps := 2000000) (disch := (first | omega | (simp only [SZ]; done) | (simp only [SZ]; omega) | (simp only [TS] at *; omega))) only [RZ, gval, gslot, fillL, ovw, numb, catL, ldN, agL, okC, oneC, init, Nat.reduceAdd, Nat.reduceMul, Nat.reduceSub, Nat.reduceEqDiff, Nat.reduceLT, ↓reduceIte, Int.reduceToNat, Int.reduceAdd, Int.reduceSub, Int.reduceMul, Int.reduceLT, Int.reduceLE, Int.reduceEq, Nat.reduceLeDiff]
  (refine W_if rfl (fun hc => ?_) (fun hc => ?_) <;> (try simp only [TS] at hc))
  · subst hc
    simp +contextual (maxSteps := 2000000) (disch := (first | omega | (simp only [SZ]; done) | (simp only [SZ]; omega) | (simp only [TS] at *; omega))) only [RZ, gval, gslot, fillL, ovw, numb, catL, ldN, agL, okC, oneC, init, Nat.reduceAdd, Nat.reduceMul, Nat.reduceSub, Nat.reduceEqDiff, Nat.reduceLT, ↓reduceIte, Int.reduceToNat, Int.reduceAdd, Int.reduceSub, Int.reduceMul, Int.reduceLT, Int.reduceLE, Int.reduceEq, Nat.reduceLeDiff]
    exact congrArg Ending.returned rf_17.symm
  have h17 := hc
  clear hc
  simp +contextual (maxSteps := 2000000) (disch := (first | omega | (simp only [SZ]; done) | (simp only [SZ]; omega) | (simp only [TS] at *; omega))) only [RZ, gval, gslot, fillL, ovw, numb, catL, ldN, agL, okC, oneC, init, Nat.reduceAdd, Nat.reduceMul, Nat.reduceSub, Nat.reduceEqDiff, Nat.reduceLT, ↓reduceIte, Int.reduceToNat, Int.reduceAdd, Int.reduceSub, Int.reduceMul, Int.reduceLT, Int.reduceLE, Int.reduceEq, Nat.reduceLeDiff]
  (refine W_if rfl (fun hc => ?_) (fun hc => ?_) <;> (try simp only [TS] at hc))
  · subst hc
    simp +contextual (maxSteps := 2000000) (disch := (first | omega | (simp only [SZ]; done) | (simp only [SZ]; omega) | (simp only [TS] at *; omega))) only [RZ, gval, gslot, fillL, ovw, numb, catL, ldN, agL, okC, oneC, init, Nat.reduceAdd, Nat.reduceMul, Nat.reduceSub, Nat.reduceEqDiff, Nat.reduceLT, ↓reduceIte, Int.reduceToNat, Int.reduceAdd, Int.reduceSub, Int.reduceMul, Int.reduceLT, Int.reduceLE, Int.reduceEq, Nat.reduceLeDiff]
    exact congrArg Ending.returned rf_18.symm
  have h18 := hc
  clear hc
  simp +contextual (maxSteps := 2000000) (disch := (first | omega | (simp only [SZ]; done) | (simp only [SZ]; omega) | (simp only [TS] at *; omega))) only [RZ, gval, gslot, fillL, ovw, numb, catL, ldN, agL, okC, oneC, init, Nat.reduceAdd, Nat.reduceMul, Nat.reduceSub, Nat.reduceEqDiff, Nat.reduceLT, ↓reduceIte, Int.reduceToNat, Int.reduceAdd, Int.reduceSub, Int.reduceMul, Int.reduceLT, Int.reduceLE, Int.reduceEq, Nat.reduceLeDiff]
  (refine W_if rfl (fun hc => ?_) (fun hc => ?_) <;> (try simp only [TS] at hc))
  · subst hc
    simp +contextual (maxSteps := 2000000) (disch := (first | omega | (simp only [SZ]; done) | (simp only [SZ]; omega) | (simp only [TS] at *; omega))) only [RZ, gval, gslot, fillL, ovw, numb, catL, ldN, agL, okC, oneC, init, Nat.reduceAdd, Nat.reduceMul, Nat.reduceSub, Nat.reduceEqDiff, Nat.reduceLT, ↓reduceIte, Int.reduceToNat, Int.reduceAdd, Int.reduceSub, Int.reduceMul, Int.reduceLT, Int.reduceLE, Int.reduceEq, Nat.reduceLeDiff]
    exact congrArg Ending.returned rf_19.symm
  have h19 := hc
  clear hc
  simp +contextual (maxSteps := 2000000) (disch := (first | omega | (simp only [SZ]; done) | (simp only [SZ]; omega) | (simp only [TS] at *; omega))) only [RZ, gval, gslot, fillL, ovw, numb, catL, ldN, agL, okC, oneC, init, Nat.reduceAdd, Nat.reduceMul, Nat.reduceSub, Nat.reduceEqDiff, Nat.reduceLT, ↓reduceIte, Int.reduceToNat, Int.reduceAdd, Int.reduceSub, Int.reduceMul, Int.reduceLT, Int.reduceLE, Int.reduceEq, Nat.reduceLeDiff]
  (refine W_if rfl (fun hc => ?_) (fun hc => ?_) <;> (try simp only [TS] at hc))
  · subst hc
    simp +contextual (maxSteps := 2000000) (disch := (first | omega | (simp only [SZ]; done) | (simp only [SZ]; omega) | (simp only [TS] at *; omega))) only [RZ, gval, gslot, fillL, ovw, numb, catL, ldN, agL, okC, oneC, init, Nat.reduceAdd, Nat.reduceMul, Nat.reduceSub, Nat.reduceEqDiff, Nat.reduceLT, ↓reduceIte, Int.reduceToNat, Int.reduceAdd, Int.reduceSub, Int.reduceMul, Int.reduceLT, Int.reduceLE, Int.reduceEq, Nat.reduceLeDiff]
    exact congrArg Ending.returned rf_20.symm
  have h20 := hc
  clear hc
  simp +contextual (maxSteps := 2000000) (disch := (first | omega | (simp only [SZ]; done) | (simp only [SZ]; omega) | (simp only [TS] at *; omega))) only [RZ, gval, gslot, fillL, ovw, numb, catL, ldN, agL, okC, oneC, init, Nat.reduceAdd, Nat.reduceMul, Nat.reduceSub, Nat.reduceEqDiff, Nat.reduceLT, ↓reduceIte, Int.reduceToNat, Int.reduceAdd, Int.reduceSub, Int.reduceMul, Int.reduceLT, Int.reduceLE, Int.reduceEq, Nat.reduceLeDiff]
  exact congrArg Ending.returned (rf_none (by omega)).symm
theorem form_any (k : Int) (w : World) : Calls Tryd.prog 24 #[.int .i64 k] w fun e w' => e = .returned (rfV k) ∧ w = w' := by
  refine calls_W (l := [_]) Tryd.func24 rfl _ Tryd.ntmps24 (by simp) ?_
  simp +contextual (maxSteps := 2000000) (disch := (first | omega | (simp only [SZ]; done) | (simp only [SZ]; omega) | (simp only [TS] at *; omega))) only [RZ, gval, gslot, fillL, ovw, numb, catL, ldN, agL, okC, oneC, init, Nat.reduceAdd, Nat.reduceMul, Nat.reduceSub, Nat.reduceEqDiff, Nat.reduceLT, ↓reduceIte, Int.reduceToNat, Int.reduceAdd, Int.reduceSub, Int.reduceMul, Int.reduceLT, Int.reduceLE, Int.reduceEq, Nat.reduceLeDiff]
  (refine W_if rfl (fun hc => ?_) (fun hc => ?_) <;> (try simp only [TS] at hc))
  · subst hc
    simp +contextual (maxSteps := 2000000) (disch := (first | omega | (simp only [SZ]; done) | (simp only [SZ]; omega) | (simp only [TS] at *; omega))) only [RZ, gval, gslot, fillL, ovw, numb, catL, ldN, agL, okC, oneC, init, Nat.reduceAdd, Nat.reduceMul, Nat.reduceSub, Nat.reduceEqDiff, Nat.reduceLT, ↓reduceIte, Int.reduceToNat, Int.reduceAdd, Int.reduceSub, Int.reduceMul, Int.reduceLT, Int.reduceLE, Int.reduceEq, Nat.reduceLeDiff]
    exact congrArg Ending.returned rf_1.symm
  have h1 := hc
  clear hc
  simp +contextual (maxSteps := 2000000) (disch := (first | omega | (simp only [SZ]; done) | (simp only [SZ]; omega) | (simp only [TS] at *; omega))) only [RZ, gval, gslot, fillL, ovw, numb, catL, ldN, agL, okC, oneC, init, Nat.reduceAdd, Nat.reduceMul, Nat.reduceSub, Nat.reduceEqDiff, Nat.reduceLT, ↓reduceIte, Int.reduceToNat, Int.reduceAdd, Int.reduceSub, Int.reduceMul, Int.reduceLT, Int.reduceLE, Int.reduceEq, Nat.reduceLeDiff]
  (refine W_if rfl (fun hc => ?_) (fun hc => ?_) <;> (try simp only [TS] at hc))
  · subst hc
    simp +contextual (maxSteps := 2000000) (disch := (first | omega | (simp only [SZ]; done) | (simp only [SZ]; omega) | (simp only [TS] at *; omega))) only [RZ, gval, gslot, fillL, ovw, numb, catL, ldN, agL, okC, oneC, init, Nat.reduceAdd, Nat.reduceMul, Nat.reduceSub, Nat.reduceEqDiff, Nat.reduceLT, ↓reduceIte, Int.reduceToNat, Int.reduceAdd, Int.reduceSub, Int.reduceMul, Int.reduceLT, Int.reduceLE, Int.reduceEq, Nat.reduceLeDiff]
    exact congrArg Ending.returned rf_2.symm
  have h2 := hc
  clear hc
  simp +contextual (maxSteps := 2000000) (disch := (first | omega | (simp only [SZ]; done) | (simp only [SZ]; omega) | (simp only [TS] at *; omega))) only [RZ, gval, gslot, fillL, ovw, numb, catL, ldN, agL, okC, oneC, init, Nat.reduceAdd, Nat.reduceMul, Nat.reduceSub, Nat.reduceEqDiff, Nat.reduceLT, ↓reduceIte, Int.reduceToNat, Int.reduceAdd, Int.reduceSub, Int.reduceMul, Int.reduceLT, Int.reduceLE, Int.reduceEq, Nat.reduceLeDiff]
  (refine W_if rfl (fun hc => ?_) (fun hc => ?_) <;> (try simp only [TS] at hc))
  · subst hc
    simp +contextual (maxSteps := 2000000) (disch := (first | omega | (simp only [SZ]; done) | (simp only [SZ]; omega) | (simp only [TS] at *; omega))) only [RZ, gval, gslot, fillL, ovw, numb, catL, ldN, agL, okC, oneC, init, Nat.reduceAdd, Nat.reduceMul, Nat.reduceSub, Nat.reduceEqDiff, Nat.reduceLT, ↓reduceIte, Int.reduceToNat, Int.reduceAdd, Int.reduceSub, Int.reduceMul, Int.reduceLT, Int.reduceLE, Int.reduceEq, Nat.reduceLeDiff]
    exact congrArg Ending.returned rf_3.symm
  have h3 := hc
  clear hc
  simp +contextual (maxSteps := 2000000) (disch := (first | omega | (simp only [SZ]; done) | (simp only [SZ]; omega) | (simp only [TS] at *; omega))) only [RZ, gval, gslot, fillL, ovw, numb, catL, ldN, agL, okC, oneC, init, Nat.reduceAdd, Nat.reduceMul, Nat.reduceSub, Nat.reduceEqDiff, Nat.reduceLT, ↓reduceIte, Int.reduceToNat, Int.reduceAdd, Int.reduceSub, Int.reduceMul, Int.reduceLT, Int.reduceLE, Int.reduceEq, Nat.reduceLeDiff]
  (refine W_if rfl (fun hc => ?_) (fun hc => ?_) <;> (try simp only [TS] at hc))
  · subst hc
    simp +contextual (maxSteps := 2000000) (disch := (first | omega | (simp only [SZ]; done) | (simp only [SZ]; omega) | (simp only [TS] at *; omega))) only [RZ, gval, gslot, fillL, ovw, numb, catL, ldN, agL, okC, oneC, init, Nat.reduceAdd, Nat.reduceMul, Nat.reduceSub, Nat.reduceEqDiff, Nat.reduceLT, ↓reduceIte, Int.reduceToNat, Int.reduceAdd, Int.reduceSub, Int.reduceMul, Int.reduceLT, Int.reduceLE, Int.reduceEq, Nat.reduceLeDiff]
    exact congrArg Ending.returned rf_4.symm
  have h4 := hc
  clear hc
  simp +contextual (maxSteps := 2000000) (disch := (first | omega | (simp only [SZ]; done) | (simp only [SZ]; omega) | (simp only [TS] at *; omega))) only [RZ, gval, gslot, fillL, ovw, numb, catL, ldN, agL, okC, oneC, init, Nat.reduceAdd, Nat.reduceMul, Nat.reduceSub, Nat.reduceEqDiff, Nat.reduceLT, ↓reduceIte, Int.reduceToNat, Int.reduceAdd, Int.reduceSub, Int.reduceMul, Int.reduceLT, Int.reduceLE, Int.reduceEq, Nat.reduceLeDiff]
  (refine W_if rfl (fun hc => ?_) (fun hc => ?_) <;> (try simp only [TS] at hc))
  · subst hc
    simp +contextual (maxSteps := 2000000) (disch := (first | omega | (simp only [SZ]; done) | (simp only [SZ]; omega) | (simp only [TS] at *; omega))) only [RZ, gval, gslot, fillL, ovw, numb, catL, ldN, agL, okC, oneC, init, Nat.reduceAdd, Nat.reduceMul, Nat.reduceSub, Nat.reduceEqDiff, Nat.reduceLT, ↓reduceIte, Int.reduceToNat, Int.reduceAdd, Int.reduceSub, Int.reduceMul, Int.reduceLT, Int.reduceLE, Int.reduceEq, Nat.reduceLeDiff]
    exact congrArg Ending.returned rf_5.symm
  have h5 := hc
  clear hc
  simp +contextual (maxSteps := 2000000) (disch := (first | omega | (simp only [SZ]; done) | (simp only [SZ]; omega) | (simp only [TS] at *; omega))) only [RZ, gval, gslot, fillL, ovw, numb, catL, ldN, agL, okC, oneC, init, Nat.reduceAdd, Nat.reduceMul, Nat.reduceSub, Nat.reduceEqDiff, Nat.reduceLT, ↓reduceIte, Int.reduceToNat, Int.reduceAdd, Int.reduceSub, Int.reduceMul, Int.reduceLT, Int.reduceLE, Int.reduceEq, Nat.reduceLeDiff]
  (refine W_if rfl (fun hc => ?_) (fun hc => ?_) <;> (try simp only [TS] at hc))
  · subst hc
    simp +contextual (maxSteps := 2000000) (disch := (first | omega | (simp only [SZ]; done) | (simp only [SZ]; omega) | (simp only [TS] at *; omega))) only [RZ, gval, gslot, fillL, ovw, numb, catL, ldN, agL, okC, oneC, init, Nat.reduceAdd, Nat.reduceMul, Nat.reduceSub, Nat.reduceEqDiff, Nat.reduceLT, ↓reduceIte, Int.reduceToNat, Int.reduceAdd, Int.reduceSub, Int.reduceMul, Int.reduceLT, Int.reduceLE, Int.reduceEq, Nat.reduceLeDiff]
    exact congrArg Ending.returned rf_6.symm
  have h6 := hc
  clear hc
  simp +contextual (maxSteps := 2000000) (disch := (first | omega | (simp only [SZ]; done) | (simp only [SZ]; omega) | (simp only [TS] at *; omega))) only [RZ, gval, gslot, fillL, ovw, numb, catL, ldN, agL, okC, oneC, init, Nat.reduceAdd, Nat.reduceMul, Nat.reduceSub, Nat.reduceEqDiff, Nat.reduceLT, ↓reduceIte, Int.reduceToNat, Int.reduceAdd, Int.reduceSub, Int.reduceMul, Int.reduceLT, Int.reduceLE, Int.reduceEq, Nat.reduceLeDiff]
  (refine W_if rfl (fun hc => ?_) (fun hc => ?_) <;> (try simp only [TS] at hc))
  · subst hc
    simp +contextual (maxSteps := 2000000) (disch := (first | omega | (simp only [SZ]; done) | (simp only [SZ]; omega) | (simp only [TS] at *; omega))) only [RZ, gval, gslot, fillL, ovw, numb, catL, ldN, agL, okC, oneC, init, Nat.reduceAdd, Nat.reduceMul, Nat.reduceSub, Nat.reduceEqDiff, Nat.reduceLT, ↓reduceIte, Int.reduceToNat, Int.reduceAdd, Int.reduceSub, Int.reduceMul, Int.reduceLT, Int.reduceLE, Int.reduceEq, Nat.reduceLeDiff]
    exact congrArg Ending.returned rf_7.symm
  have h7 := hc
  clear hc
  simp +contextual (maxSteps := 2000000) (disch := (first | omega | (simp only [SZ]; done) | (simp only [SZ]; omega) | (simp only [TS] at *; omega))) only [RZ, gval, gslot, fillL, ovw, numb, catL, ldN, agL, okC, oneC, init, Nat.reduceAdd, Nat.reduceMul, Nat.reduceSub, Nat.reduceEqDiff, Nat.reduceLT, ↓reduceIte, Int.reduceToNat, Int.reduceAdd, Int.reduceSub, Int.reduceMul, Int.reduceLT, Int.reduceLE, Int.reduceEq, Nat.reduceLeDiff]
  (refine W_if rfl (fun hc => ?_) (fun hc => ?_) <;> (try simp only [TS] at hc))
  · subst hc
    simp +contextual (maxSteps := 2000000) (disch := (first | omega | (simp only [SZ]; done) | (simp only [SZ]; omega) | (simp only [TS] at *; omega))) only [RZ, gval, gslot, fillL, ovw, numb, catL, ldN, agL, okC, oneC, init, Nat.reduceAdd, Nat.reduceMul, Nat.reduceSub, Nat.reduceEqDiff, Nat.reduceLT, ↓reduceIte, Int.reduceToNat, Int.reduceAdd, Int.reduceSub, Int.reduceMul, Int.reduceLT, Int.reduceLE, Int.reduceEq, Nat.reduceLeDiff]
    exact congrArg Ending.returned rf_8.symm
  have h8 := hc
  clear hc
  simp +contextual (maxSteps := 2000000) (disch := (first | omega | (simp only [SZ]; done) | (simp only [SZ]; omega) | (simp only [TS] at *; omega))) only [RZ, gval, gslot, fillL, ovw, numb, catL, ldN, agL, okC, oneC, init, Nat.reduceAdd, Nat.reduceMul, Nat.reduceSub, Nat.reduceEqDiff, Nat.reduceLT, ↓reduceIte, Int.reduceToNat, Int.reduceAdd, Int.reduceSub, Int.reduceMul, Int.reduceLT, Int.reduceLE, Int.reduceEq, Nat.reduceLeDiff]
  (refine W_if rfl (fun hc => ?_) (fun hc => ?_) <;> (try simp only [TS] at hc))
  · subst hc
    simp +contextual (maxSteps := 2000000) (disch := (first | omega | (simp only [SZ]; done) | (simp only [SZ]; omega) | (simp only [TS] at *; omega))) only [RZ, gval, gslot, fillL, ovw, numb, catL, ldN, agL, okC, oneC, init, Nat.reduceAdd, Nat.reduceMul, Nat.reduceSub, Nat.reduceEqDiff, Nat.reduceLT, ↓reduceIte, Int.reduceToNat, Int.reduceAdd, Int.reduceSub, Int.reduceMul, Int.reduceLT, Int.reduceLE, Int.reduceEq, Nat.reduceLeDiff]
    exact congrArg Ending.returned rf_9.symm
  have h9 := hc
  clear hc
  simp +contextual (maxSteps := 2000000) (disch := (first | omega | (simp only [SZ]; done) | (simp only [SZ]; omega) | (simp only [TS] at *; omega))) only [RZ, gval, gslot, fillL, ovw, numb, catL, ldN, agL, okC, oneC, init, Nat.reduceAdd, Nat.reduceMul, Nat.reduceSub, Nat.reduceEqDiff, Nat.reduceLT, ↓reduceIte, Int.reduceToNat, Int.reduceAdd, Int.reduceSub, Int.reduceMul, Int.reduceLT, Int.reduceLE, Int.reduceEq, Nat.reduceLeDiff]
  (refine W_if rfl (fun hc => ?_) (fun hc => ?_) <;> (try simp only [TS] at hc))
  · subst hc
    simp +contextual (maxSteps := 2000000) (disch := (first | omega | (simp only [SZ]; done) | (simp only [SZ]; omega) | (simp only [TS] at *; omega))) only [RZ, gval, gslot, fillL, ovw, numb, catL, ldN, agL, okC, oneC, init, Nat.reduceAdd, Nat.reduceMul, Nat.reduceSub, Nat.reduceEqDiff, Nat.reduceLT, ↓reduceIte, Int.reduceToNat, Int.reduceAdd, Int.reduceSub, Int.reduceMul, Int.reduceLT, Int.reduceLE, Int.reduceEq, Nat.reduceLeDiff]
    exact congrArg Ending.returned rf_10.symm
  have h10 := hc
  clear hc
  simp +contextual (maxSteps := 2000000) (disch := (first | omega | (simp only [SZ]; done) | (simp only [SZ]; omega) | (simp only [TS] at *; omega))) only [RZ, gval, gslot, fillL, ovw, numb, catL, ldN, agL, okC, oneC, init, Nat.reduceAdd, Nat.reduceMul, Nat.reduceSub, Nat.reduceEqDiff, Nat.reduceLT, ↓reduceIte, Int.reduceToNat, Int.reduceAdd, Int.reduceSub, Int.reduceMul, Int.reduceLT, Int.reduceLE, Int.reduceEq, Nat.reduceLeDiff]
  refine (other_any k w (by omega)).mono ?_
  rintro e w' ⟨rfl, rfl⟩
  refine ⟨_, rfl, ?_⟩
  unfold rfV
  simp +contextual (maxSteps := 2000000) (disch := (first | omega | (simp only [SZ]; done) | (simp only [SZ]; omega) | (simp only [TS] at *; omega))) only [RZ, gval, gslot, fillL, ovw, numb, catL, ldN, agL, okC, oneC, init, Nat.reduceAdd, Nat.reduceMul, Nat.reduceSub, Nat.reduceEqDiff, Nat.reduceLT, ↓reduceIte, Int.reduceToNat, Int.reduceAdd, Int.reduceSub, Int.reduceMul, Int.reduceLT, Int.reduceLE, Int.reduceEq, Nat.reduceLeDiff]
theorem uses_any (s : ByteArray) (c : Nat) (w : World) (hs : s.size ≤ 1000000000) : Calls Tryd.prog 26 #[.string s, .int .u8 c] w fun e w' => e = .returned (.bool ((bs s).contains c)) ∧ w = w' := by
  refine calls_W (l := [_, _]) Tryd.func26 rfl _ Tryd.ntmps26 (by simp) ?_
  simp +contextual (maxSteps := 2000000) (disch := (first | omega | (simp only [SZ]; done) | (simp only [SZ]; omega) | (simp only [TS] at *; omega))) only [RZ, gval, gslot, fillL, ovw, numb, catL, ldN, agL, okC, oneC, init, Nat.reduceAdd, Nat.reduceMul, Nat.reduceSub, Nat.reduceEqDiff, Nat.reduceLT, ↓reduceIte, Int.reduceToNat, Int.reduceAdd, Int.reduceSub, Int.reduceMul, Int.reduceLT, Int.reduceLE, Int.reduceEq, Nat.reduceLeDiff]
  refine Raw_loop (fun σ w' => w' = w ∧ ∃ k : Nat, k ≤ s.size ∧ (∀ j, j < k → bt s j ≠ c) ∧ σ 0 = .string s ∧ σ 1 = .int .u8 c ∧ σ 5 = .int .i64 k) (fun σ _ => s.size - (intOf (σ 5)).toNat) ?_ ?_
  · simp +contextual (maxSteps := 2000000) (disch := (first | omega | (simp only [SZ]; done) | (simp only [SZ]; omega) | (simp only [TS] at *; omega))) only [RZ, gval, gslot, fillL, ovw, numb, catL, ldN, agL, okC, oneC, init, Nat.reduceAdd, Nat.reduceMul, Nat.reduceSub, Nat.reduceEqDiff, Nat.reduceLT, ↓reduceIte, Int.reduceToNat, Int.reduceAdd, Int.reduceSub, Int.reduceMul, Int.reduceLT, Int.reduceLE, Int.reduceEq, Nat.reduceLeDiff]
    exact ⟨0, Nat.zero_le _, fun j hj => absurd hj (Nat.not_lt_zero _), rfl⟩
  rintro σ w' ⟨rfl, k, hk, hup, f0, f1, f5⟩ K hK
  simp +contextual (maxSteps := 2000000) (disch := (first | omega | (simp only [SZ]; done) | (simp only [SZ]; omega) | (simp only [TS] at *; omega))) only [RZ, gval, gslot, fillL, ovw, numb, catL, ldN, agL, okC, oneC, init, Nat.reduceAdd, Nat.reduceMul, Nat.reduceSub, Nat.reduceEqDiff, Nat.reduceLT, ↓reduceIte, Int.reduceToNat, Int.reduceAdd, Int.reduceSub, Int.reduceMul, Int.reduceLT, Int.reduceLE, Int.reduceEq, Nat.reduceLeDiff,  f0, f1, f5]
  (refine W_if rfl (fun hc => ?_) (fun hc => ?_) <;> (try simp only [TS] at hc))
  · simp +contextual (maxSteps := 2000000) (disch := (first | omega | (simp only [SZ]; done) | (simp only [SZ]; omega) | (simp only [TS] at *; omega))) only [RZ, gval, gslot, fillL, ovw, numb, catL, ldN, agL, okC, oneC, init, Nat.reduceAdd, Nat.reduceMul, Nat.reduceSub, Nat.reduceEqDiff, Nat.reduceLT, ↓reduceIte, Int.reduceToNat, Int.reduceAdd, Int.reduceSub, Int.reduceMul, Int.reduceLT, Int.reduceLE, Int.reduceEq, Nat.reduceLeDiff,  f0, f1, f5]
    (refine W_if rfl (fun hc => ?_) (fun hc => ?_) <;> (try simp only [TS] at hc))
    · simp +contextual (maxSteps := 2000000) (disch := (first | omega | (simp only [SZ]; done) | (simp only [SZ]; omega) | (simp only [TS] at *; omega))) only [RZ, gval, gslot, fillL, ovw, numb, catL, ldN, agL, okC, oneC, init, Nat.reduceAdd, Nat.reduceMul, Nat.reduceSub, Nat.reduceEqDiff, Nat.reduceLT, ↓reduceIte, Int.reduceToNat, Int.reduceAdd, Int.reduceSub, Int.reduceMul, Int.reduceLT, Int.reduceLE, Int.reduceEq, Nat.reduceLeDiff,  f0, f1, f5]
      exact ret_bool (List.contains_iff_mem.2 (List.mem_of_getElem? (i := k) (by rw [bs_get (by omega)]; congr 1; omega))).symm
    · simp +contextual (maxSteps := 2000000) (disch := (first | omega | (simp only [SZ]; done) | (simp only [SZ]; omega) | (simp only [TS] at *; omega))) only [RZ, gval, gslot, fillL, ovw, numb, catL, ldN, agL, okC, oneC, init, Nat.reduceAdd, Nat.reduceMul, Nat.reduceSub, Nat.reduceEqDiff, Nat.reduceLT, ↓reduceIte, Int.reduceToNat, Int.reduceAdd, Int.reduceSub, Int.reduceMul, Int.reduceLT, Int.reduceLE, Int.reduceEq, Nat.reduceLeDiff,  f0, f1, f5]
      refine hK _ _ ⟨rfl, k + 1, by omega, fun j hj => ?_, ?_⟩ ?_
      · rcases Nat.lt_or_eq_of_le (Nat.lt_succ_iff.1 hj) with h | rfl
        · exact hup j h
        · omega
      · simp +contextual (maxSteps := 2000000) (disch := (first | omega | (simp only [SZ]; done) | (simp only [SZ]; omega) | (simp only [TS] at *; omega))) only [RZ, gval, gslot, fillL, ovw, numb, catL, ldN, agL, okC, oneC, init, Nat.reduceAdd, Nat.reduceMul, Nat.reduceSub, Nat.reduceEqDiff, Nat.reduceLT, ↓reduceIte, Int.reduceToNat, Int.reduceAdd, Int.reduceSub, Int.reduceMul, Int.reduceLT, Int.reduceLE, Int.reduceEq, Nat.reduceLeDiff,  f0, f1, f5]
      · simp +contextual (maxSteps := 2000000) (disch := (first | omega | (simp only [SZ]; done) | (simp only [SZ]; omega) | (simp only [TS] at *; omega))) only [RZ, gval, gslot, fillL, ovw, numb, catL, ldN, agL, okC, oneC, init, Nat.reduceAdd, Nat.reduceMul, Nat.reduceSub, Nat.reduceEqDiff, Nat.reduceLT, ↓reduceIte, Int.reduceToNat, Int.reduceAdd, Int.reduceSub, Int.reduceMul, Int.reduceLT, Int.reduceLE, Int.reduceEq, Nat.reduceLeDiff,  intOf, f5]
        omega
  · simp +contextual (maxSteps := 2000000) (disch := (first | omega | (simp only [SZ]; done) | (simp only [SZ]; omega) | (simp only [TS] at *; omega))) only [RZ, gval, gslot, fillL, ovw, numb, catL, ldN, agL, okC, oneC, init, Nat.reduceAdd, Nat.reduceMul, Nat.reduceSub, Nat.reduceEqDiff, Nat.reduceLT, ↓reduceIte, Int.reduceToNat, Int.reduceAdd, Int.reduceSub, Int.reduceMul, Int.reduceLT, Int.reduceLE, Int.reduceEq, Nat.reduceLeDiff,  f0, f1, f5]
    refine ret_bool ?_
    symm
    rw [Bool.eq_false_iff]
    intro h
    obtain ⟨j, hj⟩ := List.mem_iff_getElem?.1 (List.contains_iff_mem.1 h)
    obtain ⟨h1, h2⟩ := bs_at hj
    exact hup j (by omega) h2.symm
end Go.Proofs.YtjaeiiiniohloaaDoor
