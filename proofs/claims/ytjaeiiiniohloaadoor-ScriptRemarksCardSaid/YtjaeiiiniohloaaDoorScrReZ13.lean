/- Texts laid one behind the other: SlB, SlC, SlD. Each says at its head what it proves. -/
import Derived.Test.YtjaeiiiniohloaaDoorY12
import Derived.Lib.SlBytesConst
set_option linter.unusedSimpArgs false
/- The laws ScriptRoundTrips, ScriptAgain, ScriptTexts. -/
namespace Go.Proofs.YtjaeiiiniohloaaDoor
open Go.RowKit
set_option maxRecDepth 100000
theorem chk_mid {c : Cm} (hok : c.ok) (h : chkE c = 0) : c.mid := by
  obtain ⟨f, hf, _, _, hi, _, hn, ht, hl⟩ := chk_parts h
  have := cmName_len c f hn hi
  rw [bs_len] at this
  exact ⟨hok, by omega, by omega, by omega⟩
theorem trips_any (v : Value) (L : List Cm) (w : World) (hL : Laid w) (hv : CmsC w v L) (hm : ∀ c ∈ L, c.came) (hl : L.length ≤ 9223372036854775807) :
    Calls Tryd.prog 5 #[v] w fun e w' => e = .returned (.bool true) ∧ Below w.heap.size w w' := by
  refine calls_W (l := [_]) Tryd.func5 rfl _ Tryd.ntmps5 (by simp) ?_
  have hsz := hL.size
  simp +contextual (maxSteps := 2000000) (disch := (first | omega | (simp only [SZ]; done) | (simp only [SZ]; omega) | (simp only [TS] at *; omega))) only [RZ, gval, gslot, fillL, ovw, numb, catL, ldN, agL, okC, oneC, init, Nat.reduceAdd, Nat.reduceMul, Nat.reduceSub, Nat.reduceEqDiff, Nat.reduceLT, ↓reduceIte, Int.reduceToNat, Int.reduceAdd, Int.reduceSub, Int.reduceMul, Int.reduceLT, Int.reduceLE, Int.reduceEq, Nat.reduceLeDiff]
  refine (some_any v L w hv (fun c hc => (hm c hc).2) hl).mono ?_
  rintro e w1 ⟨⟨u, rfl, hu⟩, hb1⟩
  refine ⟨_, rfl, ?_⟩
  have hs1 := hb1.size
  have hM := some_mid L hm
  have hMl : ((L.take 12).map shortC).length ≤ 12 := by rw [List.length_map, List.length_take]; omega
  generalize (L.take 12).map shortC = M at *
  obtain ⟨A, cp, rfl⟩ : ∃ A cp, u = .slice A M.length cp := by obtain ⟨P, A, c, rfl, _⟩ := hu; exact ⟨A, c, rfl⟩
  simp +contextual (maxSteps := 2000000) (disch := (first | omega | (simp only [SZ]; done) | (simp only [SZ]; omega) | (simp only [TS] at *; omega))) only [RZ, gval, gslot, fillL, ovw, numb, catL, ldN, agL, okC, oneC, init, Nat.reduceAdd, Nat.reduceMul, Nat.reduceSub, Nat.reduceEqDiff, Nat.reduceLT, ↓reduceIte, Int.reduceToNat, Int.reduceAdd, Int.reduceSub, Int.reduceMul, Int.reduceLT, Int.reduceLE, Int.reduceEq, Nat.reduceLeDiff]
  refine Raw_loop (fun σ w2 => Below w.heap.size w w2 ∧ Below w1.heap.size w1 w2 ∧ ∃ (k : Nat) (r : Bool), k ≤ M.length ∧ (r = true ↔ ∀ c ∈ M.take k, chkE c = 0) ∧ σ 0 = .slice A M.length cp ∧ σ 3 = .bool r ∧ σ 13 = .slice A M.length cp ∧ σ 14 = .int .i64 M.length ∧ σ 15 = .int .i64 k) (fun σ _ => M.length - (intOf (σ 15)).toNat) ?_ ?_
  · simp +contextual (maxSteps := 2000000) (disch := (first | omega | (simp only [SZ]; done) | (simp only [SZ]; omega) | (simp only [TS] at *; omega))) only [RZ, gval, gslot, fillL, ovw, numb, catL, ldN, agL, okC, oneC, init, Nat.reduceAdd, Nat.reduceMul, Nat.reduceSub, Nat.reduceEqDiff, Nat.reduceLT, ↓reduceIte, Int.reduceToNat, Int.reduceAdd, Int.reduceSub, Int.reduceMul, Int.reduceLT, Int.reduceLE, Int.reduceEq, Nat.reduceLeDiff]
    exact ⟨hb1, Below.refl _ _, 0, true, by omega, by simp, rfl, rfl⟩
  rintro σ w2 ⟨hB2, hb2, k, r, hk, hr, e0, e3, e13, e14, e15⟩ K hK
  have hs2 := hB2.size
  have hs2' := hb2.size
  simp +contextual (maxSteps := 2000000) (disch := (first | omega | (simp only [SZ]; done) | (simp only [SZ]; omega) | (simp only [TS] at *; omega))) only [RZ, gval, gslot, fillL, ovw, numb, catL, ldN, agL, okC, oneC, init, Nat.reduceAdd, Nat.reduceMul, Nat.reduceSub, Nat.reduceEqDiff, Nat.reduceLT, ↓reduceIte, Int.reduceToNat, Int.reduceAdd, Int.reduceSub, Int.reduceMul, Int.reduceLT, Int.reduceLE, Int.reduceEq, Nat.reduceLeDiff,  e0, e3, e13, e14, e15]
  (refine W_if rfl (fun hc => ?_) (fun hc => ?_) <;> (try simp only [TS] at hc))
  · have hkl : k < M.length := by omega
    clear hc
    obtain ⟨b, o, cp2, c, x, hvv, hbb, hLk, hN, hcell⟩ := (hu.below hb2).at_ hkl
    injection hvv with hA _ hcp
    subst hA hcp
    obtain ⟨An, cn, rfl, hNa⟩ := hN
    obtain ⟨⟨hok, m1, m2, m3⟩, _, _⟩ := hM c (List.mem_of_getElem? hLk)
    have q : w2.cell? ⟨b, o + k * 10, none⟩ = some (.int .i64 c.kind) ∧ w2.cell? ⟨b, o + k * 10 + 1, none⟩ = some (.int .i64 c.at_) ∧ w2.cell? ⟨b, o + k * 10 + 2, none⟩ = some (.int .i64 c.who) ∧ w2.cell? ⟨b, o + k * 10 + 3, none⟩ = some (.int .i64 c.a) ∧ w2.cell? ⟨b, o + k * 10 + 4, none⟩ = some (.int .i64 c.b) ∧
        w2.cell? ⟨b, o + k * 10 + 5, none⟩ = some (.string c.name) ∧ w2.cell? ⟨b, o + k * 10 + 6, none⟩ = some (.string c.text) ∧ w2.cell? ⟨b, o + k * 10 + 7, none⟩ = some (.slice An c.nums.length cn) ∧ w2.cell? ⟨b, o + k * 10 + 8, none⟩ = some (.int .u64 c.key) ∧ w2.cell? ⟨b, o + k * 10 + 9, none⟩ = some (.int .u64 c.nonce) :=
      ⟨hcell 0 _ rfl, hcell 1 _ rfl, hcell 2 _ rfl, hcell 3 _ rfl, hcell 4 _ rfl, hcell 5 _ rfl, hcell 6 _ rfl, hcell 7 _ rfl, hcell 8 _ rfl, hcell 9 _ rfl⟩
    clear hcell
    have htk : (∀ d ∈ M.take (k + 1), chkE d = 0) ↔ (∀ d ∈ M.take k, chkE d = 0) ∧ chkE c = 0 := by
      rw [List.take_add_one, hLk]
      constructor
      · exact fun h => ⟨fun d hd => h d (List.mem_append_left _ hd), h c (List.mem_append_right _ (by simp))⟩
      · rintro ⟨h1, h2⟩ d hd
        rcases List.mem_append.1 hd with hd | hd
        · exact h1 d hd
        · simp at hd; subst hd; exact h2
    cases r with
    | true =>
      simp +contextual (maxSteps := 2000000) (disch := (first | omega | (simp only [SZ]; done) | (simp only [SZ]; omega) | (simp only [TS] at *; omega))) only [RZ, gval, gslot, fillL, ovw, numb, catL, ldN, agL, okC, oneC, init, Nat.reduceAdd, Nat.reduceMul, Nat.reduceSub, Nat.reduceEqDiff, Nat.reduceLT, ↓reduceIte, Int.reduceToNat, Int.reduceAdd, Int.reduceSub, Int.reduceMul, Int.reduceLT, Int.reduceLE, Int.reduceEq, Nat.reduceLeDiff,  q, e0, e3, e13, e14, e15]
      generalize hw3 : w2.alloc _ = w3
      have hb3 : Below w2.heap.size w2 w3 := by rw [← hw3]; exact below_alloc _ _
      clear hw3
      have hB3 := hB2.trans (hb3.mono hs2)
      refine (check_any c An cn w3 (hL.below hB3 hsz) (by omega) (by omega) (by omega)).mono ?_
      rintro e w4 ⟨rfl, hb4⟩
      refine ⟨_, rfl, ?_⟩
      have hb34 : Below w2.heap.size w2 w4 := hb3.trans (hb4.mono hb3.size)
      simp +contextual (maxSteps := 2000000) (disch := (first | omega | (simp only [SZ]; done) | (simp only [SZ]; omega) | (simp only [TS] at *; omega))) only [RZ, gval, gslot, fillL, ovw, numb, catL, ldN, agL, okC, oneC, init, Nat.reduceAdd, Nat.reduceMul, Nat.reduceSub, Nat.reduceEqDiff, Nat.reduceLT, ↓reduceIte, Int.reduceToNat, Int.reduceAdd, Int.reduceSub, Int.reduceMul, Int.reduceLT, Int.reduceLE, Int.reduceEq, Nat.reduceLeDiff,  e0, e3, e13, e14, e15]
      refine hK _ _ ⟨hB2.trans (hb34.mono hs2), hb2.trans (hb34.mono hs2'), k + 1, decide (chkE c = 0), by omega, ?_, ?_⟩ ?_
      · rw [htk, decide_eq_true_eq]
        exact ⟨fun h => ⟨hr.1 rfl, h⟩, fun h => h.2⟩
      · simp +contextual (maxSteps := 2000000) (disch := (first | omega | (simp only [SZ]; done) | (simp only [SZ]; omega) | (simp only [TS] at *; omega))) only [RZ, gval, gslot, fillL, ovw, numb, catL, ldN, agL, okC, oneC, init, Nat.reduceAdd, Nat.reduceMul, Nat.reduceSub, Nat.reduceEqDiff, Nat.reduceLT, ↓reduceIte, Int.reduceToNat, Int.reduceAdd, Int.reduceSub, Int.reduceMul, Int.reduceLT, Int.reduceLE, Int.reduceEq, Nat.reduceLeDiff,  e0, e3, e13, e14, e15]
      · simp +contextual (maxSteps := 2000000) (disch := (first | omega | (simp only [SZ]; done) | (simp only [SZ]; omega) | (simp only [TS] at *; omega))) only [RZ, gval, gslot, fillL, ovw, numb, catL, ldN, agL, okC, oneC, init, Nat.reduceAdd, Nat.reduceMul, Nat.reduceSub, Nat.reduceEqDiff, Nat.reduceLT, ↓reduceIte, Int.reduceToNat, Int.reduceAdd, Int.reduceSub, Int.reduceMul, Int.reduceLT, Int.reduceLE, Int.reduceEq, Nat.reduceLeDiff,  intOf, e15]
        omega
    | false =>
      simp +contextual (maxSteps := 2000000) (disch := (first | omega | (simp only [SZ]; done) | (simp only [SZ]; omega) | (simp only [TS] at *; omega))) only [RZ, gval, gslot, fillL, ovw, numb, catL, ldN, agL, okC, oneC, init, Nat.reduceAdd, Nat.reduceMul, Nat.reduceSub, Nat.reduceEqDiff, Nat.reduceLT, ↓reduceIte, Int.reduceToNat, Int.reduceAdd, Int.reduceSub, Int.reduceMul, Int.reduceLT, Int.reduceLE, Int.reduceEq, Nat.reduceLeDiff,  q, e0, e3, e13, e14, e15]
      refine hK _ _ ⟨hB2.trans ((below_alloc _ _).mono hs2), hb2.trans ((below_alloc _ _).mono hs2'), k + 1, false, by omega, ?_, ?_⟩ ?_
      · rw [htk]
        constructor
        · intro h; cases h
        · exact fun h => hr.2 h.1
      · simp +contextual (maxSteps := 2000000) (disch := (first | omega | (simp only [SZ]; done) | (simp only [SZ]; omega) | (simp only [TS] at *; omega))) only [RZ, gval, gslot, fillL, ovw, numb, catL, ldN, agL, okC, oneC, init, Nat.reduceAdd, Nat.reduceMul, Nat.reduceSub, Nat.reduceEqDiff, Nat.reduceLT, ↓reduceIte, Int.reduceToNat, Int.reduceAdd, Int.reduceSub, Int.reduceMul, Int.reduceLT, Int.reduceLE, Int.reduceEq, Nat.reduceLeDiff,  e0, e3, e13, e14, e15]
      · simp +contextual (maxSteps := 2000000) (disch := (first | omega | (simp only [SZ]; done) | (simp only [SZ]; omega) | (simp only [TS] at *; omega))) only [RZ, gval, gslot, fillL, ovw, numb, catL, ldN, agL, okC, oneC, init, Nat.reduceAdd, Nat.reduceMul, Nat.reduceSub, Nat.reduceEqDiff, Nat.reduceLT, ↓reduceIte, Int.reduceToNat, Int.reduceAdd, Int.reduceSub, Int.reduceMul, Int.reduceLT, Int.reduceLE, Int.reduceEq, Nat.reduceLeDiff,  intOf, e15]
        omega
  have hke : k = M.length := by omega
  subst hke
  rw [List.take_length] at hr
  clear hc
  have hu2 := hu.below hb2
  simp +contextual (maxSteps := 2000000) (disch := (first | omega | (simp only [SZ]; done) | (simp only [SZ]; omega) | (simp only [TS] at *; omega))) only [RZ, gval, gslot, fillL, ovw, numb, catL, ldN, agL, okC, oneC, init, Nat.reduceAdd, Nat.reduceMul, Nat.reduceSub, Nat.reduceEqDiff, Nat.reduceLT, ↓reduceIte, Int.reduceToNat, Int.reduceAdd, Int.reduceSub, Int.reduceMul, Int.reduceLT, Int.reduceLE, Int.reduceEq, Nat.reduceLeDiff,  e0, e3, e13, e14, e15]
  refine (print_any _ M w2 (hL.below hB2 hsz) hu2 (fun c hc => (hM c hc).1) (by omega)).mono ?_
  rintro e w3 ⟨rfl, hb3⟩
  refine ⟨_, rfl, ?_⟩
  have hB3 := hB2.trans (hb3.mono hs2)
  have hs3 := hB3.size
  have hu3 := hu2.below hb3
  cases r with
  | false =>
    have hfe : firstE M ≠ 0 := fun h => by cases hr.2 (firstE_zero h)
    have hpe : printE M = ([], firstE M) := by unfold printE; rw [if_neg (by omega), if_pos hfe]
    rw [hpe]
    simp +contextual (maxSteps := 2000000) (disch := (first | omega | (simp only [SZ]; done) | (simp only [SZ]; omega) | (simp only [TS] at *; omega))) only [RZ, gval, gslot, fillL, ovw, numb, catL, ldN, agL, okC, oneC, init, Nat.reduceAdd, Nat.reduceMul, Nat.reduceSub, Nat.reduceEqDiff, Nat.reduceLT, ↓reduceIte, Int.reduceToNat, Int.reduceAdd, Int.reduceSub, Int.reduceMul, Int.reduceLT, Int.reduceLE, Int.reduceEq, Nat.reduceLeDiff,  e0, e3, e13, e14, e15]
    refine W_if_t rfl ?_
    have h0 : toBA [] = ⟨#[]⟩ := rfl
    simp +contextual (maxSteps := 2000000) (disch := (first | omega | (simp only [SZ]; done) | (simp only [SZ]; omega) | (simp only [TS] at *; omega))) only [RZ, gval, gslot, fillL, ovw, numb, catL, ldN, agL, okC, oneC, init, Nat.reduceAdd, Nat.reduceMul, Nat.reduceSub, Nat.reduceEqDiff, Nat.reduceLT, ↓reduceIte, Int.reduceToNat, Int.reduceAdd, Int.reduceSub, Int.reduceMul, Int.reduceLT, Int.reduceLE, Int.reduceEq, Nat.reduceLeDiff,  e0, e3, e13, e14, e15, h0, hfe]
    refine (works_any w3 (hL.below hB3 hsz)).mono ?_
    rintro e w4 ⟨rfl, hb4⟩
    refine ⟨_, rfl, ?_⟩
    simp +contextual (maxSteps := 2000000) (disch := (first | omega | (simp only [SZ]; done) | (simp only [SZ]; omega) | (simp only [TS] at *; omega))) only [RZ, gval, gslot, fillL, ovw, numb, catL, ldN, agL, okC, oneC, init, Nat.reduceAdd, Nat.reduceMul, Nat.reduceSub, Nat.reduceEqDiff, Nat.reduceLT, ↓reduceIte, Int.reduceToNat, Int.reduceAdd, Int.reduceSub, Int.reduceMul, Int.reduceLT, Int.reduceLE, Int.reduceEq, Nat.reduceLeDiff]
    exact hB3.trans (hb4.mono hs3)
  | true =>
    have hch := hr.1 rfl
    have hle : (M.flatMap prL).length ≤ 50000 := by
      have := flat_le prL 4000 M (fun c hc => by
        obtain ⟨⟨h2, _⟩, h4, h5⟩ := hM c hc
        have h3 := prL_len h2 (hch c hc)
        omega)
      omega
    obtain ⟨hpe, hpa⟩ := parse_print (L := M) (fun c hc => ⟨(hM c hc).1.1, hch c hc⟩) (by omega) (by omega)
    have hbt := bs_toBA (prs_lt M)
    have hbz := toBA_size (M.flatMap prL)
    rw [hpe]
    simp +contextual (maxSteps := 2000000) (disch := (first | omega | (simp only [SZ]; done) | (simp only [SZ]; omega) | (simp only [TS] at *; omega))) only [RZ, gval, gslot, fillL, ovw, numb, catL, ldN, agL, okC, oneC, init, Nat.reduceAdd, Nat.reduceMul, Nat.reduceSub, Nat.reduceEqDiff, Nat.reduceLT, ↓reduceIte, Int.reduceToNat, Int.reduceAdd, Int.reduceSub, Int.reduceMul, Int.reduceLT, Int.reduceLE, Int.reduceEq, Nat.reduceLeDiff,  e0, e3, e13, e14, e15]
    refine W_if_f rfl ?_
    simp +contextual (maxSteps := 2000000) (disch := (first | omega | (simp only [SZ]; done) | (simp only [SZ]; omega) | (simp only [TS] at *; omega))) only [RZ, gval, gslot, fillL, ovw, numb, catL, ldN, agL, okC, oneC, init, Nat.reduceAdd, Nat.reduceMul, Nat.reduceSub, Nat.reduceEqDiff, Nat.reduceLT, ↓reduceIte, Int.reduceToNat, Int.reduceAdd, Int.reduceSub, Int.reduceMul, Int.reduceLT, Int.reduceLE, Int.reduceEq, Nat.reduceLeDiff,  e0, e3, e13, e14, e15]
    have hp := parse_any (toBA (M.flatMap prL)) w3 (hL.below hB3 hsz) (by omega)
    rw [hbt, hpa] at hp
    refine hp.mono ?_
    rintro e w4 ⟨⟨y, rfl, hC⟩, hb4⟩
    refine ⟨_, rfl, ?_⟩
    have hB4 := hB3.trans (hb4.mono hs3)
    have hR := hC.reads
    obtain ⟨B, cb, rfl⟩ : ∃ A cp, y = .slice A M.length cp := by obtain ⟨P, A, c, rfl, _⟩ := hR; exact ⟨A, c, rfl⟩
    simp +contextual (maxSteps := 2000000) (disch := (first | omega | (simp only [SZ]; done) | (simp only [SZ]; omega) | (simp only [TS] at *; omega))) only [RZ, gval, gslot, fillL, ovw, numb, catL, ldN, agL, okC, oneC, init, Nat.reduceAdd, Nat.reduceMul, Nat.reduceSub, Nat.reduceEqDiff, Nat.reduceLT, ↓reduceIte, Int.reduceToNat, Int.reduceAdd, Int.reduceSub, Int.reduceMul, Int.reduceLT, Int.reduceLE, Int.reduceEq, Nat.reduceLeDiff,  e0, e3, e13, e14, e15]
    refine (sameAll_any _ _ M M w4 (hu3.below hb4) hR (fun c hc => (hM c hc).1.2.2.2) (fun c hc => (hM c hc).1.2.2.2) (by omega) (by omega)).mono ?_
    rintro e w5 ⟨⟨t, rfl, ht⟩, hb5⟩
    obtain rfl : t = true := ht.2 rfl
    refine ⟨_, rfl, ?_⟩
    have hB5 := hB4.trans (hb5.mono hB4.size)
    simp +contextual (maxSteps := 2000000) (disch := (first | omega | (simp only [SZ]; done) | (simp only [SZ]; omega) | (simp only [TS] at *; omega))) only [RZ, gval, gslot, fillL, ovw, numb, catL, ldN, agL, okC, oneC, init, Nat.reduceAdd, Nat.reduceMul, Nat.reduceSub, Nat.reduceEqDiff, Nat.reduceLT, ↓reduceIte, Int.reduceToNat, Int.reduceAdd, Int.reduceSub, Int.reduceMul, Int.reduceLT, Int.reduceLE, Int.reduceEq, Nat.reduceLeDiff,  e0, e3, e13, e14, e15]
    refine (works_any w5 (hL.below hB5 hsz)).mono ?_
    rintro e w6 ⟨rfl, hb6⟩
    refine ⟨_, rfl, ?_⟩
    simp +contextual (maxSteps := 2000000) (disch := (first | omega | (simp only [SZ]; done) | (simp only [SZ]; omega) | (simp only [TS] at *; omega))) only [RZ, gval, gslot, fillL, ovw, numb, catL, ldN, agL, okC, oneC, init, Nat.reduceAdd, Nat.reduceMul, Nat.reduceSub, Nat.reduceEqDiff, Nat.reduceLT, ↓reduceIte, Int.reduceToNat, Int.reduceAdd, Int.reduceSub, Int.reduceMul, Int.reduceLT, Int.reduceLE, Int.reduceEq, Nat.reduceLeDiff]
    exact hB5.trans (hb6.mono hB5.size)
theorem again_any (s : ByteArray) (w : World) (hL : Laid w) (hs : s.size ≤ 9223372036854775807) :
    Calls Tryd.prog 6 #[.string s] w fun e w' => e = .returned (.bool true) ∧ Below w.heap.size w w' := by
  refine calls_W (l := [_]) Tryd.func6 rfl _ Tryd.ntmps6 (by simp) ?_
  have hsz := hL.size
  have hmn : (min (s.size : Int) 600).toNat = min s.size 600 := by omega
  have htz : (s.extract 0 (min s.size 600)).size ≤ 600 := by rw [ByteArray.size_extract]; omega
  simp +contextual (maxSteps := 2000000) (disch := (first | omega | (simp only [SZ]; done) | (simp only [SZ]; omega) | (simp only [TS] at *; omega))) only [RZ, gval, gslot, fillL, ovw, numb, catL, ldN, agL, okC, oneC, init, Nat.reduceAdd, Nat.reduceMul, Nat.reduceSub, Nat.reduceEqDiff, Nat.reduceLT, ↓reduceIte, Int.reduceToNat, Int.reduceAdd, Int.reduceSub, Int.reduceMul, Int.reduceLT, Int.reduceLE, Int.reduceEq, Nat.reduceLeDiff,  hmn]
  generalize s.extract 0 (min s.size 600) = t at *
  have hp := parse_any t w hL (by omega)
  cases hP : parseS (bs t) with
  | error e =>
    obtain ⟨x, m⟩ := e
    have hx := parseS_err hP
    rw [hP] at hp
    refine hp.mono ?_
    rintro e w1 ⟨hu, hb1⟩
    have hu' : e = _ := hu
    subst hu'
    refine ⟨_, rfl, ?_⟩
    simp +contextual (maxSteps := 2000000) (disch := (first | omega | (simp only [SZ]; done) | (simp only [SZ]; omega) | (simp only [TS] at *; omega))) only [RZ, gval, gslot, fillL, ovw, numb, catL, ldN, agL, okC, oneC, init, Nat.reduceAdd, Nat.reduceMul, Nat.reduceSub, Nat.reduceEqDiff, Nat.reduceLT, ↓reduceIte, Int.reduceToNat, Int.reduceAdd, Int.reduceSub, Int.reduceMul, Int.reduceLT, Int.reduceLE, Int.reduceEq, Nat.reduceLeDiff]
    (refine W_if rfl (fun hc => ?_) (fun hc => ?_) <;> (try simp only [TS] at hc))
    · simp +contextual (maxSteps := 2000000) (disch := (first | omega | (simp only [SZ]; done) | (simp only [SZ]; omega) | (simp only [TS] at *; omega))) only [RZ, gval, gslot, fillL, ovw, numb, catL, ldN, agL, okC, oneC, init, Nat.reduceAdd, Nat.reduceMul, Nat.reduceSub, Nat.reduceEqDiff, Nat.reduceLT, ↓reduceIte, Int.reduceToNat, Int.reduceAdd, Int.reduceSub, Int.reduceMul, Int.reduceLT, Int.reduceLE, Int.reduceEq, Nat.reduceLeDiff]
      refine (works_any w1 (hL.below hb1 hsz)).mono ?_
      rintro e w2 ⟨rfl, hb2⟩
      refine ⟨_, rfl, ?_⟩
      simp +contextual (maxSteps := 2000000) (disch := (first | omega | (simp only [SZ]; done) | (simp only [SZ]; omega) | (simp only [TS] at *; omega))) only [RZ, gval, gslot, fillL, ovw, numb, catL, ldN, agL, okC, oneC, init, Nat.reduceAdd, Nat.reduceMul, Nat.reduceSub, Nat.reduceEqDiff, Nat.reduceLT, ↓reduceIte, Int.reduceToNat, Int.reduceAdd, Int.reduceSub, Int.reduceMul, Int.reduceLT, Int.reduceLE, Int.reduceEq, Nat.reduceLeDiff]
      exact ⟨rfl, hb1.trans (hb2.mono hb1.size)⟩
    · exact absurd hc hx
  | ok L =>
    have hbl : (bs t).length ≤ 600 := by rw [bs_len]; exact htz
    obtain ⟨g1, g2, g3⟩ := parseS_ok (by omega) hP
    obtain ⟨hpe, hpa⟩ := again_law2 hbl hP
    rw [hP] at hp
    refine hp.mono ?_
    rintro e w1 ⟨⟨v, rfl, hC⟩, hb1⟩
    refine ⟨_, rfl, ?_⟩
    have hs1 := hb1.size
    have hu := hC.reads
    have hmid : ∀ c ∈ L, c.mid := fun c hc => chk_mid (g1 c hc).1 (g1 c hc).2
    obtain ⟨A, cp, rfl⟩ : ∃ A cp, v = .slice A L.length cp := by obtain ⟨P, A, c, rfl, _⟩ := hu; exact ⟨A, c, rfl⟩
    have hbt := bs_toBA (prs_lt L)
    have hbz := toBA_size (L.flatMap prL)
    simp +contextual (maxSteps := 2000000) (disch := (first | omega | (simp only [SZ]; done) | (simp only [SZ]; omega) | (simp only [TS] at *; omega))) only [RZ, gval, gslot, fillL, ovw, numb, catL, ldN, agL, okC, oneC, init, Nat.reduceAdd, Nat.reduceMul, Nat.reduceSub, Nat.reduceEqDiff, Nat.reduceLT, ↓reduceIte, Int.reduceToNat, Int.reduceAdd, Int.reduceSub, Int.reduceMul, Int.reduceLT, Int.reduceLE, Int.reduceEq, Nat.reduceLeDiff]
    refine W_if_f rfl ?_
    simp +contextual (maxSteps := 2000000) (disch := (first | omega | (simp only [SZ]; done) | (simp only [SZ]; omega) | (simp only [TS] at *; omega))) only [RZ, gval, gslot, fillL, ovw, numb, catL, ldN, agL, okC, oneC, init, Nat.reduceAdd, Nat.reduceMul, Nat.reduceSub, Nat.reduceEqDiff, Nat.reduceLT, ↓reduceIte, Int.reduceToNat, Int.reduceAdd, Int.reduceSub, Int.reduceMul, Int.reduceLT, Int.reduceLE, Int.reduceEq, Nat.reduceLeDiff]
    refine (print_any _ L w1 (hL.below hb1 hsz) hu hmid (by omega)).mono ?_
    rintro e w2 ⟨rfl, hb2⟩
    refine ⟨_, rfl, ?_⟩
    have hB2 := hb1.trans (hb2.mono hs1)
    have hs2 := hB2.size
    rw [hpe]
    simp +contextual (maxSteps := 2000000) (disch := (first | omega | (simp only [SZ]; done) | (simp only [SZ]; omega) | (simp only [TS] at *; omega))) only [RZ, gval, gslot, fillL, ovw, numb, catL, ldN, agL, okC, oneC, init, Nat.reduceAdd, Nat.reduceMul, Nat.reduceSub, Nat.reduceEqDiff, Nat.reduceLT, ↓reduceIte, Int.reduceToNat, Int.reduceAdd, Int.reduceSub, Int.reduceMul, Int.reduceLT, Int.reduceLE, Int.reduceEq, Nat.reduceLeDiff]
    have hp2 := parse_any (toBA (L.flatMap prL)) w2 (hL.below hB2 hsz) (by omega)
    rw [hbt, hpa] at hp2
    refine hp2.mono ?_
    rintro e w3 ⟨⟨y, rfl, hC3⟩, hb3⟩
    refine ⟨_, rfl, ?_⟩
    have hB3 := hB2.trans (hb3.mono hs2)
    have hs3 := hB3.size
    have hR := hC3.reads
    obtain ⟨B, cb, rfl⟩ : ∃ A cp, y = .slice A L.length cp := by obtain ⟨P, A, c, rfl, _⟩ := hR; exact ⟨A, c, rfl⟩
    simp +contextual (maxSteps := 2000000) (disch := (first | omega | (simp only [SZ]; done) | (simp only [SZ]; omega) | (simp only [TS] at *; omega))) only [RZ, gval, gslot, fillL, ovw, numb, catL, ldN, agL, okC, oneC, init, Nat.reduceAdd, Nat.reduceMul, Nat.reduceSub, Nat.reduceEqDiff, Nat.reduceLT, ↓reduceIte, Int.reduceToNat, Int.reduceAdd, Int.reduceSub, Int.reduceMul, Int.reduceLT, Int.reduceLE, Int.reduceEq, Nat.reduceLeDiff]
    refine (sameAll_any _ _ L L w3 ((hu.below hb2).below hb3) hR (fun c hc => (hmid c hc).2.2.2) (fun c hc => (hmid c hc).2.2.2) (by omega) (by omega)).mono ?_
    rintro e w4 ⟨⟨tt, rfl, ht⟩, hb4⟩
    obtain rfl : tt = true := ht.2 rfl
    refine ⟨_, rfl, ?_⟩
    have hB4 := hB3.trans (hb4.mono hs3)
    simp +contextual (maxSteps := 2000000) (disch := (first | omega | (simp only [SZ]; done) | (simp only [SZ]; omega) | (simp only [TS] at *; omega))) only [RZ, gval, gslot, fillL, ovw, numb, catL, ldN, agL, okC, oneC, init, Nat.reduceAdd, Nat.reduceMul, Nat.reduceSub, Nat.reduceEqDiff, Nat.reduceLT, ↓reduceIte, Int.reduceToNat, Int.reduceAdd, Int.reduceSub, Int.reduceMul, Int.reduceLT, Int.reduceLE, Int.reduceEq, Nat.reduceLeDiff]
    refine (works_any w4 (hL.below hB4 hsz)).mono ?_
    rintro e w5 ⟨rfl, hb5⟩
    refine ⟨_, rfl, ?_⟩
    simp +contextual (maxSteps := 2000000) (disch := (first | omega | (simp only [SZ]; done) | (simp only [SZ]; omega) | (simp only [TS] at *; omega))) only [RZ, gval, gslot, fillL, ovw, numb, catL, ldN, agL, okC, oneC, init, Nat.reduceAdd, Nat.reduceMul, Nat.reduceSub, Nat.reduceEqDiff, Nat.reduceLT, ↓reduceIte, Int.reduceToNat, Int.reduceAdd, Int.reduceSub, Int.reduceMul, Int.reduceLT, Int.reduceLE, Int.reduceEq, Nat.reduceLeDiff]
    exact hB4.trans (hb5.mono hB4.size)
theorem texts_any (s : ByteArray) (key : Int) (w : World) (hL : Laid w) (hs : s.size ≤ 9223372036854775807) (hk : 0 ≤ key ∧ key ≤ 18446744073709551615) :
    Calls Tryd.prog 9 #[.string s, .int .u64 key] w fun e w' => e = .returned (.bool true) ∧ Below w.heap.size w w' := by
  refine calls_W (l := [_, _]) Tryd.func9 rfl _ Tryd.ntmps9 (by simp) ?_
  have hsz := hL.size
  have hmn : (min (s.size : Int) 100).toNat = min s.size 100 := by omega
  have htz : (s.extract 0 (min s.size 100)).size ≤ 100 := by rw [ByteArray.size_extract]; omega
  simp +contextual (maxSteps := 2000000) (disch := (first | omega | (simp only [SZ]; done) | (simp only [SZ]; omega) | (simp only [TS] at *; omega))) only [RZ, gval, gslot, fillL, ovw, numb, catL, ldN, agL, okC, oneC, init, Nat.reduceAdd, Nat.reduceMul, Nat.reduceSub, Nat.reduceEqDiff, Nat.reduceLT, ↓reduceIte, Int.reduceToNat, Int.reduceAdd, Int.reduceSub, Int.reduceMul, Int.reduceLT, Int.reduceLE, Int.reduceEq, Nat.reduceLeDiff,  hmn]
  generalize s.extract 0 (min s.size 100) = t at *
  obtain ⟨hok, hchk⟩ := deck_ok (s := t) (key := key) htz hk.1 hk.2
  obtain ⟨tx, htx, htb⟩ := deck_text (s := t) (key := key)
  have hmid := chk_mid hok hchk
  generalize hw1 : (w.alloc _).alloc _ = w1
  have hb1 : Below w.heap.size w w1 := by rw [← hw1]; exact below_alloc_of (below_alloc _ _) _ (by simp)
  have hra : Row w1 w.heap.size 25 (cmV (deckC t key) (.slice none 0 0)) := by rw [← hw1]; exact (Row.new w 25 (cmV (deckC t key) (.slice none 0 0))).alloc _
  have hrb : Row w1 (w.heap.size + 1) 25 (cmV (deckC t key) (.slice none 0 0)) := by
    have := Row.new (w.alloc (.cells (cmV (deckC t key) (.slice none 0 0)).toArray 25)) 25 (cmV (deckC t key) (.slice none 0 0))
    rw [World.size_alloc] at this
    rw [← hw1]
    exact this
  clear hw1
  have hs1 := hb1.size
  have hnil : ∀ w', NumR w' (.slice none 0 0) ([] : List Int) := fun w' => ⟨none, 0, rfl, fun h => by simp at h⟩
  have hR1 : CmsR w1 (.slice (some ⟨w.heap.size + 1, 0, none⟩) 1 1) [deckC t key] := by
    refine ⟨[(deckC t key, .slice none 0 0)], _, 1, rfl, rfl, ?_, fun p hp => ?_⟩
    · exact Row.arr (enc := encP) (L := [(deckC t key, .slice none 0 0)]) (by simpa [encP] using hrb) encP_len
    · simp at hp; subst hp; exact hnil w1
  have hall : ∀ c ∈ [deckC t key], c.ok ∧ chkE c = 0 := fun c hc => by simp at hc; subst hc; exact ⟨hok, hchk⟩
  have hmids : ∀ c ∈ [deckC t key], c.mid := fun c hc => by simp at hc; subst hc; exact hmid
  have hfl : [deckC t key].flatMap prL = tx ++ [10] := by rw [List.flatMap_cons, List.flatMap_nil, List.append_nil, htx]
  have hpl := prL_len hok hchk
  rw [htx, List.length_append] at hpl
  have htl : tx.length ≤ 2300 := by
    have h1 : (deckC t key).text.size = t.size := rfl
    have h2 : (deckC t key).nums.length = 0 := rfl
    simp only [List.length_cons, List.length_nil] at hpl
    omega
  have hplen : (tx ++ [10]).length = tx.length + 1 := by simp
  obtain ⟨hpe, hpa⟩ := parse_print hall (by simp) (by rw [hfl]; omega)
  rw [hfl] at hpe hpa
  refine (print_any _ _ w1 (hL.below hb1 hsz) hR1 hmids (by simp)).mono ?_
  rintro e w2 ⟨rfl, hb2⟩
  refine ⟨_, rfl, ?_⟩
  have hB2 := hb1.trans (hb2.mono hs1)
  have hs2 := hB2.size
  have hra2 := hra.below hb2
  rw [hpe]
  have hbb : bs (toBA (tx ++ [10])) = tx ++ [10] := bs_toBA (fun d hd => by
    rcases List.mem_append.1 hd with hd | hd
    · have := htb d hd; omega
    · simp at hd; omega)
  have hbz := toBA_size (tx ++ [10])
  simp +contextual (maxSteps := 2000000) (disch := (first | omega | (simp only [SZ]; done) | (simp only [SZ]; omega) | (simp only [TS] at *; omega))) only [RZ, gval, gslot, fillL, ovw, numb, catL, ldN, agL, okC, oneC, init, Nat.reduceAdd, Nat.reduceMul, Nat.reduceSub, Nat.reduceEqDiff, Nat.reduceLT, ↓reduceIte, Int.reduceToNat, Int.reduceAdd, Int.reduceSub, Int.reduceMul, Int.reduceLT, Int.reduceLE, Int.reduceEq, Nat.reduceLeDiff]
  refine W_if_f rfl ?_
  simp +contextual (maxSteps := 2000000) (disch := (first | omega | (simp only [SZ]; done) | (simp only [SZ]; omega) | (simp only [TS] at *; omega))) only [RZ, gval, gslot, fillL, ovw, numb, catL, ldN, agL, okC, oneC, init, Nat.reduceAdd, Nat.reduceMul, Nat.reduceSub, Nat.reduceEqDiff, Nat.reduceLT, ↓reduceIte, Int.reduceToNat, Int.reduceAdd, Int.reduceSub, Int.reduceMul, Int.reduceLT, Int.reduceLE, Int.reduceEq, Nat.reduceLeDiff]
  have hds : decide (tx ++ [10] = []) = false := by simp
  have hbt : ∀ k, k < tx.length → 32 ≤ bt (toBA (tx ++ [10])) k ∧ bt (toBA (tx ++ [10])) k ≤ 126 := fun k hk => by
    have h1 := bs_get (s := toBA (tx ++ [10])) (i := k) (by omega)
    rw [hbb, List.getElem?_append_left hk] at h1
    exact htb _ (List.mem_of_getElem? h1)
  have hbl : bt (toBA (tx ++ [10])) tx.length = 10 := by
    have h1 := bs_get (s := toBA (tx ++ [10])) (i := tx.length) (by omega)
    rw [hbb, List.getElem?_append_right (Nat.le_refl _), Nat.sub_self] at h1
    simp only [List.getElem?_cons_zero, Option.some.injEq] at h1
    exact h1.symm
  have hp2 := parse_any (toBA (tx ++ [10])) w2 (hL.below hB2 hsz) (by omega)
  rw [hbb, hpa] at hp2
  generalize toBA (tx ++ [10]) = T at *
  refine Raw_loop (fun σ w3 => w3 = w2 ∧ ∃ k : Nat, k ≤ tx.length + 1 ∧ σ 5 = .pointer (some ⟨w.heap.size, 0, none⟩) ∧ σ 6 = .string T ∧ σ 8 = .int .i64 (if k ≤ tx.length then 0 else 1) ∧ σ 9 = .int .i64 k) (fun σ _ => tx.length + 1 - (intOf (σ 9)).toNat) ?_ ?_
  · simp +contextual (maxSteps := 2000000) (disch := (first | omega | (simp only [SZ]; done) | (simp only [SZ]; omega) | (simp only [TS] at *; omega))) only [RZ, gval, gslot, fillL, ovw, numb, catL, ldN, agL, okC, oneC, init, Nat.reduceAdd, Nat.reduceMul, Nat.reduceSub, Nat.reduceEqDiff, Nat.reduceLT, ↓reduceIte, Int.reduceToNat, Int.reduceAdd, Int.reduceSub, Int.reduceMul, Int.reduceLT, Int.reduceLE, Int.reduceEq, Nat.reduceLeDiff]
    exact ⟨0, by omega, by rw [if_pos (by omega)], rfl⟩
  rintro σ w3 ⟨rfl, k, hk, e5, e6, e8, e9⟩ K hK
  simp +contextual (maxSteps := 2000000) (disch := (first | omega | (simp only [SZ]; done) | (simp only [SZ]; omega) | (simp only [TS] at *; omega))) only [RZ, gval, gslot, fillL, ovw, numb, catL, ldN, agL, okC, oneC, init, Nat.reduceAdd, Nat.reduceMul, Nat.reduceSub, Nat.reduceEqDiff, Nat.reduceLT, ↓reduceIte, Int.reduceToNat, Int.reduceAdd, Int.reduceSub, Int.reduceMul, Int.reduceLT, Int.reduceLE, Int.reduceEq, Nat.reduceLeDiff,  e5, e6, e8, e9]
  (refine W_if rfl (fun hc => ?_) (fun hc => ?_) <;> (try simp only [TS] at hc))
  · have hkl : k ≤ tx.length := by omega
    clear hc
    rw [if_pos hkl] at e8
    simp +contextual (maxSteps := 2000000) (disch := (first | omega | (simp only [SZ]; done) | (simp only [SZ]; omega) | (simp only [TS] at *; omega))) only [RZ, gval, gslot, fillL, ovw, numb, catL, ldN, agL, okC, oneC, init, Nat.reduceAdd, Nat.reduceMul, Nat.reduceSub, Nat.reduceEqDiff, Nat.reduceLT, ↓reduceIte, Int.reduceToNat, Int.reduceAdd, Int.reduceSub, Int.reduceMul, Int.reduceLT, Int.reduceLE, Int.reduceEq, Nat.reduceLeDiff,  e5, e6, e8, e9]
    (refine W_if rfl (fun hc => ?_) (fun hc => ?_) <;> (try simp only [TS] at hc))
    · have hke : k = tx.length := by
        rcases Nat.lt_or_ge k tx.length with h | h
        · have := hbt k h; omega
        · omega
      simp +contextual (maxSteps := 2000000) (disch := (first | omega | (simp only [SZ]; done) | (simp only [SZ]; omega) | (simp only [TS] at *; omega))) only [RZ, gval, gslot, fillL, ovw, numb, catL, ldN, agL, okC, oneC, init, Nat.reduceAdd, Nat.reduceMul, Nat.reduceSub, Nat.reduceEqDiff, Nat.reduceLT, ↓reduceIte, Int.reduceToNat, Int.reduceAdd, Int.reduceSub, Int.reduceMul, Int.reduceLT, Int.reduceLE, Int.reduceEq, Nat.reduceLeDiff,  e5, e6, e8, e9]
      refine hK _ _ ⟨rfl, k + 1, by omega, ?_⟩ ?_
      · simp +contextual (maxSteps := 2000000) (disch := (first | omega | (simp only [SZ]; done) | (simp only [SZ]; omega) | (simp only [TS] at *; omega))) only [RZ, gval, gslot, fillL, ovw, numb, catL, ldN, agL, okC, oneC, init, Nat.reduceAdd, Nat.reduceMul, Nat.reduceSub, Nat.reduceEqDiff, Nat.reduceLT, ↓reduceIte, Int.reduceToNat, Int.reduceAdd, Int.reduceSub, Int.reduceMul, Int.reduceLT, Int.reduceLE, Int.reduceEq, Nat.reduceLeDiff,  e5, e6, e8, e9]
        rw [if_neg (by omega)]
      · simp +contextual (maxSteps := 2000000) (disch := (first | omega | (simp only [SZ]; done) | (simp only [SZ]; omega) | (simp only [TS] at *; omega))) only [RZ, gval, gslot, fillL, ovw, numb, catL, ldN, agL, okC, oneC, init, Nat.reduceAdd, Nat.reduceMul, Nat.reduceSub, Nat.reduceEqDiff, Nat.reduceLT, ↓reduceIte, Int.reduceToNat, Int.reduceAdd, Int.reduceSub, Int.reduceMul, Int.reduceLT, Int.reduceLE, Int.reduceEq, Nat.reduceLeDiff,  intOf, e9]
        omega
    · have hke : k < tx.length := by
        rcases Nat.lt_or_ge k tx.length with h | h
        · exact h
        · have : k = tx.length := by omega
          subst this
          omega
      have hb2k := hbt k hke
      clear hc
      simp +contextual (maxSteps := 2000000) (disch := (first | omega | (simp only [SZ]; done) | (simp only [SZ]; omega) | (simp only [TS] at *; omega))) only [RZ, gval, gslot, fillL, ovw, numb, catL, ldN, agL, okC, oneC, init, Nat.reduceAdd, Nat.reduceMul, Nat.reduceSub, Nat.reduceEqDiff, Nat.reduceLT, ↓reduceIte, Int.reduceToNat, Int.reduceAdd, Int.reduceSub, Int.reduceMul, Int.reduceLT, Int.reduceLE, Int.reduceEq, Nat.reduceLeDiff,  e5, e6, e8, e9]
      (refine W_if rfl (fun hc => ?_) (fun hc => ?_) <;> (try simp only [TS] at hc))
      · omega
      · simp +contextual (maxSteps := 2000000) (disch := (first | omega | (simp only [SZ]; done) | (simp only [SZ]; omega) | (simp only [TS] at *; omega))) only [RZ, gval, gslot, fillL, ovw, numb, catL, ldN, agL, okC, oneC, init, Nat.reduceAdd, Nat.reduceMul, Nat.reduceSub, Nat.reduceEqDiff, Nat.reduceLT, ↓reduceIte, Int.reduceToNat, Int.reduceAdd, Int.reduceSub, Int.reduceMul, Int.reduceLT, Int.reduceLE, Int.reduceEq, Nat.reduceLeDiff,  e5, e6, e8, e9]
        refine hK _ _ ⟨rfl, k + 1, by omega, ?_⟩ ?_
        · simp +contextual (maxSteps := 2000000) (disch := (first | omega | (simp only [SZ]; done) | (simp only [SZ]; omega) | (simp only [TS] at *; omega))) only [RZ, gval, gslot, fillL, ovw, numb, catL, ldN, agL, okC, oneC, init, Nat.reduceAdd, Nat.reduceMul, Nat.reduceSub, Nat.reduceEqDiff, Nat.reduceLT, ↓reduceIte, Int.reduceToNat, Int.reduceAdd, Int.reduceSub, Int.reduceMul, Int.reduceLT, Int.reduceLE, Int.reduceEq, Nat.reduceLeDiff,  e5, e6, e8, e9]
          rw [if_pos (by omega)]
        · simp +contextual (maxSteps := 2000000) (disch := (first | omega | (simp only [SZ]; done) | (simp only [SZ]; omega) | (simp only [TS] at *; omega))) only [RZ, gval, gslot, fillL, ovw, numb, catL, ldN, agL, okC, oneC, init, Nat.reduceAdd, Nat.reduceMul, Nat.reduceSub, Nat.reduceEqDiff, Nat.reduceLT, ↓reduceIte, Int.reduceToNat, Int.reduceAdd, Int.reduceSub, Int.reduceMul, Int.reduceLT, Int.reduceLE, Int.reduceEq, Nat.reduceLeDiff,  intOf, e9]
          omega
  have hke : k = tx.length + 1 := by omega
  rw [if_neg (by omega)] at e8
  clear hc
  simp +contextual (maxSteps := 2000000) (disch := (first | omega | (simp only [SZ]; done) | (simp only [SZ]; omega) | (simp only [TS] at *; omega))) only [RZ, gval, gslot, fillL, ovw, numb, catL, ldN, agL, okC, oneC, init, Nat.reduceAdd, Nat.reduceMul, Nat.reduceSub, Nat.reduceEqDiff, Nat.reduceLT, ↓reduceIte, Int.reduceToNat, Int.reduceAdd, Int.reduceSub, Int.reduceMul, Int.reduceLT, Int.reduceLE, Int.reduceEq, Nat.reduceLeDiff,  e5, e6, e8, e9]
  refine hp2.mono ?_
  rintro e w4 ⟨⟨y, rfl, hC⟩, hb4⟩
  refine ⟨_, rfl, ?_⟩
  have hB4 := hB2.trans (hb4.mono hs2)
  have hs4 := hB4.size
  have hR := hC.reads
  obtain ⟨b, o, cp2, c, x, hvv, hbb2, hLk, hN, hcell⟩ := hR.at_ (k := 0) (by simp)
  subst hvv
  simp only [List.getElem?_cons_zero, Option.some.injEq] at hLk
  subst hLk
  obtain ⟨An, cn, rfl, hNa⟩ := hN
  generalize hd : deckC t key = d at *
  have q : w4.cell? ⟨b, o, none⟩ = some (.int .i64 d.kind) ∧ w4.cell? ⟨b, o + 1, none⟩ = some (.int .i64 d.at_) ∧ w4.cell? ⟨b, o + 2, none⟩ = some (.int .i64 d.who) ∧ w4.cell? ⟨b, o + 3, none⟩ = some (.int .i64 d.a) ∧ w4.cell? ⟨b, o + 4, none⟩ = some (.int .i64 d.b) ∧
      w4.cell? ⟨b, o + 5, none⟩ = some (.string d.name) ∧ w4.cell? ⟨b, o + 6, none⟩ = some (.string d.text) ∧ w4.cell? ⟨b, o + 7, none⟩ = some (.slice An d.nums.length cn) ∧ w4.cell? ⟨b, o + 8, none⟩ = some (.int .u64 d.key) ∧ w4.cell? ⟨b, o + 9, none⟩ = some (.int .u64 d.nonce) := by
    have h := fun j v hv => hcell j v hv
    simp only [Nat.zero_mul, Nat.add_zero] at h
    exact ⟨h 0 _ rfl, h 1 _ rfl, h 2 _ rfl, h 3 _ rfl, h 4 _ rfl, h 5 _ rfl, h 6 _ rfl, h 7 _ rfl, h 8 _ rfl, h 9 _ rfl⟩
  have hra4 := hra2.below hb4
  have t4 := hra4.ten
  unfold cmV at t4
  simp only [List.length_cons, List.length_nil, Nat.zero_add]
  simp +contextual (maxSteps := 2000000) (disch := (first | omega | (simp only [SZ]; done) | (simp only [SZ]; omega) | (simp only [TS] at *; omega))) only [RZ, gval, gslot, fillL, ovw, numb, catL, ldN, agL, okC, oneC, init, Nat.reduceAdd, Nat.reduceMul, Nat.reduceSub, Nat.reduceEqDiff, Nat.reduceLT, ↓reduceIte, Int.reduceToNat, Int.reduceAdd, Int.reduceSub, Int.reduceMul, Int.reduceLT, Int.reduceLE, Int.reduceEq, Nat.reduceLeDiff,  e5, e6, e8, e9]
  refine Raw_tail 16 MX (by kernel_rfl) ?_
  dsimp only [List.take, List.drop]
  have h01 : decide (((0 : Nat) : Int) + 1 = 1) = true := rfl
  have hdn : d.nums = [] := by rw [← hd]; rfl
  have hn2 : NumR w4.drew (.slice none 0 0) d.nums := by rw [hdn]; exact hnil _
  simp +contextual (maxSteps := 2000000) (disch := (first | omega | (simp only [SZ]; done) | (simp only [SZ]; omega) | (simp only [TS] at *; omega))) only [RZ, gval, gslot, fillL, ovw, numb, catL, ldN, agL, okC, oneC, init, Nat.reduceAdd, Nat.reduceMul, Nat.reduceSub, Nat.reduceEqDiff, Nat.reduceLT, ↓reduceIte, Int.reduceToNat, Int.reduceAdd, Int.reduceSub, Int.reduceMul, Int.reduceLT, Int.reduceLE, Int.reduceEq, Nat.reduceLeDiff,  q, t4, e5, e6, e8, e9, h01]
  refine (same_any d d (.slice An d.nums.length cn) (.slice none 0 0) w4.drew ⟨An, cn, rfl, hNa.drew⟩ hn2 (by rw [hdn]; decide) (by rw [hdn]; decide)).mono ?_
  rintro e w5 ⟨⟨tt, rfl, ht⟩, hb5⟩
  obtain rfl : tt = true := ht.2 rfl
  refine ⟨_, rfl, ?_⟩
  have hB5 := hB4.trans ((Below.refl _ _).drew.trans hb5 |>.mono hs4)
  simp +contextual (maxSteps := 2000000) (disch := (first | omega | (simp only [SZ]; done) | (simp only [SZ]; omega) | (simp only [TS] at *; omega))) only [RZ, gval, gslot, fillL, ovw, numb, catL, ldN, agL, okC, oneC, init, Nat.reduceAdd, Nat.reduceMul, Nat.reduceSub, Nat.reduceEqDiff, Nat.reduceLT, ↓reduceIte, Int.reduceToNat, Int.reduceAdd, Int.reduceSub, Int.reduceMul, Int.reduceLT, Int.reduceLE, Int.reduceEq, Nat.reduceLeDiff,  h01]
  refine (works_any w5 (hL.below hB5 hsz)).mono ?_
  rintro e w6 ⟨rfl, hb6⟩
  refine ⟨_, rfl, ?_⟩
  simp +contextual (maxSteps := 2000000) (disch := (first | omega | (simp only [SZ]; done) | (simp only [SZ]; omega) | (simp only [TS] at *; omega))) only [RZ, gval, gslot, fillL, ovw, numb, catL, ldN, agL, okC, oneC, init, Nat.reduceAdd, Nat.reduceMul, Nat.reduceSub, Nat.reduceEqDiff, Nat.reduceLT, ↓reduceIte, Int.reduceToNat, Int.reduceAdd, Int.reduceSub, Int.reduceMul, Int.reduceLT, Int.reduceLE, Int.reduceEq, Nat.reduceLeDiff]
  exact hB5.trans (hb6.mono hB5.size)
end Go.Proofs.YtjaeiiiniohloaaDoor
/- The laws ScriptRemarks, ScriptParts. -/
namespace Go.Proofs.YtjaeiiiniohloaaDoor
open Go.RowKit
set_option maxRecDepth 100000
theorem vAppend_zero {P : Program} {T e ty size bytes n c c' : Nat} {A B : Option Addr} {w : World} (hI : sliceI P T = some (e, size, bytes)) (hn : n ≤ c) :
    vAppend P T T ty (.slice A n c) (.slice B 0 c') w = .ok (.value (.slice A n c)) w := by
  obtain ⟨inf, z, hT, hi, hz, rfl, rfl, hzs, hpos⟩ := sliceI_is hI
  have hf : (Builtin.firstCells inf.size 0 (.slice B 0 c')).run P w = .ok #[] w := by
    cases B <;> simp [Builtin.firstCells, loadCells, loadCellsFrom]
  cases A with
  | none => simp [vAppend, Builtin.append_, Sem.run_bind, run_underlying hT w, sizeOf, typeInfo, hi, Builtin.lenOf, hn, hf]
  | some a => simp [vAppend, Builtin.append_, Sem.run_bind, run_underlying hT w, sizeOf, typeInfo, hi, Builtin.lenOf, hn, hf, storeCells]
theorem CmsOw.app {base : Nat} {w0 w : World} {v u : Value} {L M : List Cm} (h : CmsOw base w0 w v L) (hu : CmsR w0 u M) (hb0 : Below w0.heap.size w0 w) (hb : base ≤ w.heap.size) (hl : L.length + M.length ≤ 100000000) :
    ∃ v' w2, vAppend Tryd.prog 31 31 31 v u w = .ok (.value v') w2 ∧ CmsOw base w0 w2 v' (L ++ M) ∧ Below base w w2 ∧ w.heap.size ≤ w2.heap.size := by
  obtain ⟨P, A, cp, rfl, hP, ho, hn⟩ := h
  have hu' := hu.below hb0
  obtain ⟨P2, A2, c2, rfl, hP2, ha2, hn2⟩ := hu
  obtain ⟨P3, A3, c3, e3, hP3, ha3, hn3⟩ := hu'
  have hI : sliceI Tryd.prog 31 = some (25, 10, 112) := by kernel_rfl
  by_cases hM : M.length = 0
  · have hM0 : M = [] := List.length_eq_zero_iff.1 hM
    subst hM0
    have hnc : L.length ≤ cp := by
      rcases ho.2 with ⟨e, h0⟩ | ⟨g, cap, cur, e, _, _, h1, _⟩
      · injection e with _ e1 e2
        omega
      · injection e with _ _ e2
        subst e2
        exact h1
    exact ⟨_, w, vAppend_zero hI hnc, ⟨P, A, cp, by rw [List.append_nil], by rw [List.append_nil]; exact hP, by rw [List.append_nil]; exact ho, hn⟩, Below.refl _ _, Nat.le_refl _⟩
  · have hP2l : P2.length = M.length := by rw [← hP2, List.length_map]
    obtain ⟨b, o, rfl, hbb, hc⟩ := ha2 (by rw [List.length_map]; omega)
    have hcell : ∀ (j : Nat) (x : Value), (P2.flatMap encP)[j]? = some x → w.cell? ⟨b, o + j, none⟩ = some x := fun j x hx => by
      have hjl := (List.getElem?_eq_some_iff.1 hx).1
      rw [flat_len encP_len] at hjl
      have hj2 : j / 10 < P2.length := by omega
      obtain ⟨p, hp⟩ : ∃ p, P2[j / 10]? = some p := ⟨_, List.getElem?_eq_getElem hj2⟩
      have hj3 : j % 10 < (encP p).length := by rw [encP_len]; omega
      have hq : (encP p)[j % 10]? = some ((encP p)[j % 10]'hj3) := List.getElem?_eq_getElem hj3
      have h1 := flat_cell encP_len hq P2 (j / 10) hp
      rw [show j / 10 * 10 + j % 10 = j by omega, hx] at h1
      injection h1 with h1
      have h2 := hc (j / 10) (encP p) (by rw [List.getElem?_map, hp]; rfl) (j % 10) _ hq
      rw [show o + j / 10 * 10 + j % 10 = o + j by omega] at h2
      rw [(bcell hb0).1 _ _ hbb, h2, h1]
    have hone : ∀ x ∈ P2.flatMap encP, x.oneCell' = true := fun x hx => by
      obtain ⟨p, hp, hx⟩ := List.mem_flatMap.1 hx
      obtain ⟨B, cb, e, _⟩ := hn2 p hp
      unfold encP at hx
      rw [e] at hx
      simp only [cmV, List.mem_cons, List.not_mem_nil, or_false] at hx
      rcases hx with rfl | rfl | rfl | rfl | rfl | rfl | rfl | rfl | rfl | rfl <;> rfl
    obtain ⟨A', c', w2, he, ho2, hg', _⟩ := vAppend_own (P := Tryd.prog) (T := 31) (ty := 31) (m := M.length) (c := c2) (b := b) (o := o) (news := P2.flatMap encP) hI ho (by rw [flat_len encP_len, hP2l])
      hcell hone (by omega) (by omega) hb
    have hgrow : Below base w w2 := grown_below hg' (fun g hg => (owns_ge ho hg).1) hb
    refine ⟨_, w2, he, ⟨P ++ P2, A', c', by rw [List.length_append], by rw [List.map_append, hP, hP2], ?_, fun p hp => ?_⟩, hgrow, hgrow.size⟩
    · rw [List.length_append, List.flatMap_append]
      exact ho2
    · rcases List.mem_append.1 hp with h | h
      · exact hn p h
      · exact hn2 p h
theorem CmsOw.lit0 (w w0 : World) (base : Nat) (hb : base ≤ w.heap.size) : CmsOw base w0 (w.alloc (.cells #[] 25)) (.slice (some ⟨w.heap.size, 0, none⟩) 0 0) [] :=
  ⟨[], _, 0, rfl, rfl, ⟨rfl, .inr ⟨w.heap.size, 0, _, rfl, hb, heap_alloc_new w _, Nat.le_refl _, by unfold maxLen; omega, by simp, by simp⟩⟩, fun p h => by cases h⟩
set_option maxHeartbeats 1000000 in
theorem parts_any (a b : ByteArray) (w : World) (hL : Laid w) (ha : a.size ≤ 9223372036854775807) (hb : b.size ≤ 9223372036854775807) :
    Calls Tryd.prog 8 #[.string a, .string b] w fun e w' => e = .returned (.bool true) ∧ Below w.heap.size w w' := by
  refine calls_W (l := [_, _]) Tryd.func8 rfl _ Tryd.ntmps8 (by simp) ?_
  have hsz := hL.size
  have hma : (min (a.size : Int) 300).toNat = min a.size 300 := by omega
  have hmb : (min (b.size : Int) 300).toNat = min b.size 300 := by omega
  have haz : (a.extract 0 (min a.size 300)).size ≤ 300 := by rw [ByteArray.size_extract]; omega
  have hbz : (b.extract 0 (min b.size 300)).size ≤ 300 := by rw [ByteArray.size_extract]; omega
  simp +contextual (maxSteps := 2000000) (disch := (first | omega | (simp only [SZ]; done) | (simp only [SZ]; omega) | (simp only [TS] at *; omega))) only [RZ, gval, gslot, fillL, ovw, numb, catL, ldN, agL, okC, oneC, init, Nat.reduceAdd, Nat.reduceMul, Nat.reduceSub, Nat.reduceEqDiff, Nat.reduceLT, ↓reduceIte, Int.reduceToNat, Int.reduceAdd, Int.reduceSub, Int.reduceMul, Int.reduceLT, Int.reduceLE, Int.reduceEq, Nat.reduceLeDiff]
  refine Raw_still MX (by kernel_rfl) ?_
  simp +contextual (maxSteps := 2000000) (disch := (first | omega | (simp only [SZ]; done) | (simp only [SZ]; omega) | (simp only [TS] at *; omega))) only [RZ, gval, gslot, fillL, ovw, numb, catL, ldN, agL, okC, oneC, init, Nat.reduceAdd, Nat.reduceMul, Nat.reduceSub, Nat.reduceEqDiff, Nat.reduceLT, ↓reduceIte, Int.reduceToNat, Int.reduceAdd, Int.reduceSub, Int.reduceMul, Int.reduceLT, Int.reduceLE, Int.reduceEq, Nat.reduceLeDiff,  hma, hmb]
  generalize a.extract 0 (min a.size 300) = s at *
  generalize b.extract 0 (min b.size 300) = t at *
  have hb1 : Below w.heap.size w w.drew := (Below.refl _ _).drew
  have hs1 : w.heap.size ≤ w.drew.heap.size := Nat.le_refl _
  generalize w.drew = w1 at *
  have hp := parse_any s w1 (hL.below hb1 hsz) (by omega)
  have hsl : (bs s).length ≤ 300 := by rw [bs_len]; exact haz
  have htl : (bs t).length ≤ 300 := by rw [bs_len]; exact hbz
  have hlaw := parts_law2 (bs s) (bs t) hsl htl
  have hten : (⟨#[10]⟩ : ByteArray).size = 1 := rfl
  have hz5 : (s ++ (⟨#[10]⟩ : ByteArray)).size ≤ 301 := by rw [ByteArray.size_append]; omega
  have hz6 : (s ++ (⟨#[10]⟩ : ByteArray) ++ t).size ≤ 601 := by rw [ByteArray.size_append]; omega
  have hb6 : bs (s ++ (⟨#[10]⟩ : ByteArray) ++ t) = bs s ++ 10 :: bs t := by
    rw [bs_append, bs_append, List.append_assoc]; rfl
  rw [← hb6] at hlaw
  have works : ∀ (w' : World) (R : Value → World → Prop), Below w.heap.size w w' → (∀ w'', Below w.heap.size w w'' → R (.bool true) w'') → Calls Tryd.prog 13 #[] w' fun e w'' => ∃ v, e = .returned v ∧ R v w'' := fun w' R h hR =>
    (works_any w' (hL.below h hsz)).mono fun e w'' ⟨he, hb⟩ => ⟨_, he, hR w'' (h.trans (hb.mono h.size))⟩
  cases hP : parseS (bs s) with
  | error e =>
    obtain ⟨x, m⟩ := e
    have hx := parseS_err hP
    rw [hP] at hp hlaw
    simp only [joinS] at hlaw
    refine hp.mono ?_
    rintro e w2 ⟨hu, hb2⟩
    have hu' : e = _ := hu
    subst hu'
    refine ⟨_, rfl, ?_⟩
    have hB2 := hb1.trans (hb2.mono hs1)
    have hs2 := hB2.size
    simp +contextual (maxSteps := 2000000) (disch := (first | omega | (simp only [SZ]; done) | (simp only [SZ]; omega) | (simp only [TS] at *; omega))) only [RZ, gval, gslot, fillL, ovw, numb, catL, ldN, agL, okC, oneC, init, Nat.reduceAdd, Nat.reduceMul, Nat.reduceSub, Nat.reduceEqDiff, Nat.reduceLT, ↓reduceIte, Int.reduceToNat, Int.reduceAdd, Int.reduceSub, Int.reduceMul, Int.reduceLT, Int.reduceLE, Int.reduceEq, Nat.reduceLeDiff]
    -- the second part, whatever it is
    have second : ∀ (R : Value → World → Prop), (∀ y f k w3, Below w.heap.size w w3 → R (.tuple #[y, .int .i64 f, .int .i64 k]) w3) → Calls Tryd.prog 17 #[.string t] w2 fun e w'' => ∃ v, e = .returned v ∧ R v w'' := fun R hR =>
      (parse_any t w2 (hL.below hB2 hsz) (by omega)).mono fun e w3 ⟨h1, h2⟩ => by
        have hB3 := hB2.trans (h2.mono hs2)
        cases hQ : parseS (bs t) with
        | error e2 =>
          obtain ⟨x2, m2⟩ := e2
          rw [hQ] at h1
          exact ⟨_, h1, hR _ _ _ w3 hB3⟩
        | ok L =>
          rw [hQ] at h1
          obtain ⟨y, h1, _⟩ := h1
          exact ⟨_, h1, hR _ _ _ w3 hB3⟩
    refine second _ fun y f k w3 hB3 => ?_
    simp +contextual (maxSteps := 2000000) (disch := (first | omega | (simp only [SZ]; done) | (simp only [SZ]; omega) | (simp only [TS] at *; omega))) only [RZ, gval, gslot, fillL, ovw, numb, catL, ldN, agL, okC, oneC, init, Nat.reduceAdd, Nat.reduceMul, Nat.reduceSub, Nat.reduceEqDiff, Nat.reduceLT, ↓reduceIte, Int.reduceToNat, Int.reduceAdd, Int.reduceSub, Int.reduceMul, Int.reduceLT, Int.reduceLE, Int.reduceEq, Nat.reduceLeDiff]
    have hp4 := parse_any (s ++ (⟨#[10]⟩ : ByteArray) ++ t) w3 (hL.below hB3 hsz) (by omega)
    rw [hlaw] at hp4
    refine hp4.mono ?_
    rintro e w4 ⟨hu, hb4⟩
    have hu' : e = _ := hu
    subst hu'
    refine ⟨_, rfl, ?_⟩
    have hB4 := hB3.trans (hb4.mono hB3.size)
    simp +contextual (maxSteps := 2000000) (disch := (first | omega | (simp only [SZ]; done) | (simp only [SZ]; omega) | (simp only [TS] at *; omega))) only [RZ, gval, gslot, fillL, ovw, numb, catL, ldN, agL, okC, oneC, init, Nat.reduceAdd, Nat.reduceMul, Nat.reduceSub, Nat.reduceEqDiff, Nat.reduceLT, ↓reduceIte, Int.reduceToNat, Int.reduceAdd, Int.reduceSub, Int.reduceMul, Int.reduceLT, Int.reduceLE, Int.reduceEq, Nat.reduceLeDiff]
    (refine W_if rfl (fun hc => ?_) (fun hc => ?_) <;> (try simp only [TS] at hc))
    · simp +contextual (maxSteps := 2000000) (disch := (first | omega | (simp only [SZ]; done) | (simp only [SZ]; omega) | (simp only [TS] at *; omega))) only [RZ, gval, gslot, fillL, ovw, numb, catL, ldN, agL, okC, oneC, init, Nat.reduceAdd, Nat.reduceMul, Nat.reduceSub, Nat.reduceEqDiff, Nat.reduceLT, ↓reduceIte, Int.reduceToNat, Int.reduceAdd, Int.reduceSub, Int.reduceMul, Int.reduceLT, Int.reduceLE, Int.reduceEq, Nat.reduceLeDiff]
      refine works w4 _ hB4 fun w5 hB5 => ?_
      simp +contextual (maxSteps := 2000000) (disch := (first | omega | (simp only [SZ]; done) | (simp only [SZ]; omega) | (simp only [TS] at *; omega))) only [RZ, gval, gslot, fillL, ovw, numb, catL, ldN, agL, okC, oneC, init, Nat.reduceAdd, Nat.reduceMul, Nat.reduceSub, Nat.reduceEqDiff, Nat.reduceLT, ↓reduceIte, Int.reduceToNat, Int.reduceAdd, Int.reduceSub, Int.reduceMul, Int.reduceLT, Int.reduceLE, Int.reduceEq, Nat.reduceLeDiff]
      exact hB5
    · exact absurd hc hx
  | ok L =>
    obtain ⟨g1, g2, g3⟩ := parseS_ok (by omega) hP
    have hmL : ∀ c ∈ L, c.mid := fun c hc => chk_mid (g1 c hc).1 (g1 c hc).2
    rw [hP] at hp hlaw
    simp only [joinS] at hlaw
    refine hp.mono ?_
    rintro e w2 ⟨⟨vL, rfl, hCL⟩, hb2⟩
    refine ⟨_, rfl, ?_⟩
    have hB2 := hb1.trans (hb2.mono hs1)
    have hs2 := hB2.size
    have huL := hCL.reads
    simp +contextual (maxSteps := 2000000) (disch := (first | omega | (simp only [SZ]; done) | (simp only [SZ]; omega) | (simp only [TS] at *; omega))) only [RZ, gval, gslot, fillL, ovw, numb, catL, ldN, agL, okC, oneC, init, Nat.reduceAdd, Nat.reduceMul, Nat.reduceSub, Nat.reduceEqDiff, Nat.reduceLT, ↓reduceIte, Int.reduceToNat, Int.reduceAdd, Int.reduceSub, Int.reduceMul, Int.reduceLT, Int.reduceLE, Int.reduceEq, Nat.reduceLeDiff]
    have hp3 := parse_any t w2 (hL.below hB2 hsz) (by omega)
    cases hQ : parseS (bs t) with
    | error e =>
      obtain ⟨x, m⟩ := e
      have hx := parseS_err hQ
      rw [hQ] at hp3 hlaw
      simp only [shE] at hlaw
      refine hp3.mono ?_
      rintro e w3 ⟨hu, hb3⟩
      have hu' : e = _ := hu
      subst hu'
      refine ⟨_, rfl, ?_⟩
      have hB3 := hB2.trans (hb3.mono hs2)
      simp +contextual (maxSteps := 2000000) (disch := (first | omega | (simp only [SZ]; done) | (simp only [SZ]; omega) | (simp only [TS] at *; omega))) only [RZ, gval, gslot, fillL, ovw, numb, catL, ldN, agL, okC, oneC, init, Nat.reduceAdd, Nat.reduceMul, Nat.reduceSub, Nat.reduceEqDiff, Nat.reduceLT, ↓reduceIte, Int.reduceToNat, Int.reduceAdd, Int.reduceSub, Int.reduceMul, Int.reduceLT, Int.reduceLE, Int.reduceEq, Nat.reduceLeDiff]
      have hp4 := parse_any (s ++ (⟨#[10]⟩ : ByteArray) ++ t) w3 (hL.below hB3 hsz) (by omega)
      rw [hlaw] at hp4
      refine hp4.mono ?_
      rintro e w4 ⟨hu, hb4⟩
      have hu' : e = _ := hu
      subst hu'
      refine ⟨_, rfl, ?_⟩
      have hB4 := hB3.trans (hb4.mono hB3.size)
      simp +contextual (maxSteps := 2000000) (disch := (first | omega | (simp only [SZ]; done) | (simp only [SZ]; omega) | (simp only [TS] at *; omega))) only [RZ, gval, gslot, fillL, ovw, numb, catL, ldN, agL, okC, oneC, init, Nat.reduceAdd, Nat.reduceMul, Nat.reduceSub, Nat.reduceEqDiff, Nat.reduceLT, ↓reduceIte, Int.reduceToNat, Int.reduceAdd, Int.reduceSub, Int.reduceMul, Int.reduceLT, Int.reduceLE, Int.reduceEq, Nat.reduceLeDiff]
      refine W_if_f rfl ?_
      simp +contextual (maxSteps := 2000000) (disch := (first | omega | (simp only [SZ]; done) | (simp only [SZ]; omega) | (simp only [TS] at *; omega))) only [RZ, gval, gslot, fillL, ovw, numb, catL, ldN, agL, okC, oneC, init, Nat.reduceAdd, Nat.reduceMul, Nat.reduceSub, Nat.reduceEqDiff, Nat.reduceLT, ↓reduceIte, Int.reduceToNat, Int.reduceAdd, Int.reduceSub, Int.reduceMul, Int.reduceLT, Int.reduceLE, Int.reduceEq, Nat.reduceLeDiff]
      (refine W_if rfl (fun hc => ?_) (fun hc => ?_) <;> (try simp only [TS] at hc))
      · simp +contextual (maxSteps := 2000000) (disch := (first | omega | (simp only [SZ]; done) | (simp only [SZ]; omega) | (simp only [TS] at *; omega))) only [RZ, gval, gslot, fillL, ovw, numb, catL, ldN, agL, okC, oneC, init, Nat.reduceAdd, Nat.reduceMul, Nat.reduceSub, Nat.reduceEqDiff, Nat.reduceLT, ↓reduceIte, Int.reduceToNat, Int.reduceAdd, Int.reduceSub, Int.reduceMul, Int.reduceLT, Int.reduceLE, Int.reduceEq, Nat.reduceLeDiff]
        refine works w4 _ hB4 fun w5 hB5 => ?_
        simp +contextual (maxSteps := 2000000) (disch := (first | omega | (simp only [SZ]; done) | (simp only [SZ]; omega) | (simp only [TS] at *; omega))) only [RZ, gval, gslot, fillL, ovw, numb, catL, ldN, agL, okC, oneC, init, Nat.reduceAdd, Nat.reduceMul, Nat.reduceSub, Nat.reduceEqDiff, Nat.reduceLT, ↓reduceIte, Int.reduceToNat, Int.reduceAdd, Int.reduceSub, Int.reduceMul, Int.reduceLT, Int.reduceLE, Int.reduceEq, Nat.reduceLeDiff]
        exact ⟨rfl, hB5⟩
      · exact absurd hc hx
    | ok M =>
      obtain ⟨k1, k2, k3⟩ := parseS_ok (by omega) hQ
      have hmM : ∀ c ∈ M, c.mid := fun c hc => chk_mid (k1 c hc).1 (k1 c hc).2
      have hmLM : ∀ c ∈ L ++ M, c.nums.length ≤ 1000000 := fun c hc => by
        rcases List.mem_append.1 hc with hc | hc
        · exact (hmL c hc).2.2.2
        · exact (hmM c hc).2.2.2
      rw [hQ] at hp3 hlaw
      simp only [shE] at hlaw
      refine hp3.mono ?_
      rintro e w3 ⟨⟨vM, rfl, hCM⟩, hb3⟩
      refine ⟨_, rfl, ?_⟩
      have hB3 := hB2.trans (hb3.mono hs2)
      have hs3 := hB3.size
      have huM := hCM.reads
      have huL3 := huL.below hb3
      simp +contextual (maxSteps := 2000000) (disch := (first | omega | (simp only [SZ]; done) | (simp only [SZ]; omega) | (simp only [TS] at *; omega))) only [RZ, gval, gslot, fillL, ovw, numb, catL, ldN, agL, okC, oneC, init, Nat.reduceAdd, Nat.reduceMul, Nat.reduceSub, Nat.reduceEqDiff, Nat.reduceLT, ↓reduceIte, Int.reduceToNat, Int.reduceAdd, Int.reduceSub, Int.reduceMul, Int.reduceLT, Int.reduceLE, Int.reduceEq, Nat.reduceLeDiff]
      have hp4 := parse_any (s ++ (⟨#[10]⟩ : ByteArray) ++ t) w3 (hL.below hB3 hsz) (by omega)
      rw [hlaw] at hp4
      refine hp4.mono ?_
      rintro e w4 ⟨⟨vA, rfl, hCA⟩, hb4⟩
      refine ⟨_, rfl, ?_⟩
      have hB4 := hB3.trans (hb4.mono hB3.size)
      have hs4 := hB4.size
      have huA := hCA.reads
      have huL4 := huL3.below hb4
      have huM4 := huM.below hb4
      have hO := CmsOw.lit0 w4 w4 w4.heap.size (Nat.le_refl _)
      have hba := below_alloc w4 (.cells #[] 25)
      have hsa := hba.size
      obtain ⟨v5, w5, he5, hO5, hb5, hs5⟩ := hO.app huL4 hba hsa (by simp only [List.length_nil]; omega)
      have hb45 := hba.trans hb5
      obtain ⟨v6, w6, he6, hO6, hb6', hs6⟩ := hO5.app huM4 hb45 (by omega) (by rw [List.nil_append]; omega)
      rw [List.nil_append] at hO6
      have hb46 := hb45.trans hb6'
      have huX := hO6.reads hb46
      have hB6 := hB4.trans (hb46.mono hs4)
      have hLMl : (L ++ M).length ≤ 1000000 := by rw [List.length_append]; omega
      simp +contextual (maxSteps := 2000000) (disch := (first | omega | (simp only [SZ]; done) | (simp only [SZ]; omega) | (simp only [TS] at *; omega))) only [RZ, gval, gslot, fillL, ovw, numb, catL, ldN, agL, okC, oneC, init, Nat.reduceAdd, Nat.reduceMul, Nat.reduceSub, Nat.reduceEqDiff, Nat.reduceLT, ↓reduceIte, Int.reduceToNat, Int.reduceAdd, Int.reduceSub, Int.reduceMul, Int.reduceLT, Int.reduceLE, Int.reduceEq, Nat.reduceLeDiff]
      refine W_if_f rfl ?_
      simp +contextual (maxSteps := 2000000) (disch := (first | omega | (simp only [SZ]; done) | (simp only [SZ]; omega) | (simp only [TS] at *; omega))) only [RZ, gval, gslot, fillL, ovw, numb, catL, ldN, agL, okC, oneC, init, Nat.reduceAdd, Nat.reduceMul, Nat.reduceSub, Nat.reduceEqDiff, Nat.reduceLT, ↓reduceIte, Int.reduceToNat, Int.reduceAdd, Int.reduceSub, Int.reduceMul, Int.reduceLT, Int.reduceLE, Int.reduceEq, Nat.reduceLeDiff]
      refine W_if_f rfl ?_
      simp +contextual (maxSteps := 2000000) (disch := (first | omega | (simp only [SZ]; done) | (simp only [SZ]; omega) | (simp only [TS] at *; omega))) only [RZ, gval, gslot, fillL, ovw, numb, catL, ldN, agL, okC, oneC, init, Nat.reduceAdd, Nat.reduceMul, Nat.reduceSub, Nat.reduceEqDiff, Nat.reduceLT, ↓reduceIte, Int.reduceToNat, Int.reduceAdd, Int.reduceSub, Int.reduceMul, Int.reduceLT, Int.reduceLE, Int.reduceEq, Nat.reduceLeDiff,  he5, he6]
      refine (sameAll_any _ _ (L ++ M) (L ++ M) w6 (huA.below hb46) huX hmLM hmLM hLMl hLMl).mono ?_
      rintro e w7 ⟨⟨tt, rfl, ht⟩, hb7⟩
      obtain rfl : tt = true := ht.2 rfl
      refine ⟨_, rfl, ?_⟩
      have hB7 := hB6.trans (hb7.mono hB6.size)
      simp +contextual (maxSteps := 2000000) (disch := (first | omega | (simp only [SZ]; done) | (simp only [SZ]; omega) | (simp only [TS] at *; omega))) only [RZ, gval, gslot, fillL, ovw, numb, catL, ldN, agL, okC, oneC, init, Nat.reduceAdd, Nat.reduceMul, Nat.reduceSub, Nat.reduceEqDiff, Nat.reduceLT, ↓reduceIte, Int.reduceToNat, Int.reduceAdd, Int.reduceSub, Int.reduceMul, Int.reduceLT, Int.reduceLE, Int.reduceEq, Nat.reduceLeDiff]
      refine works w7 _ hB7 fun w8 hB8 => ?_
      simp +contextual (maxSteps := 2000000) (disch := (first | omega | (simp only [SZ]; done) | (simp only [SZ]; omega) | (simp only [TS] at *; omega))) only [RZ, gval, gslot, fillL, ovw, numb, catL, ldN, agL, okC, oneC, init, Nat.reduceAdd, Nat.reduceMul, Nat.reduceSub, Nat.reduceEqDiff, Nat.reduceLT, ↓reduceIte, Int.reduceToNat, Int.reduceAdd, Int.reduceSub, Int.reduceMul, Int.reduceLT, Int.reduceLE, Int.reduceEq, Nat.reduceLeDiff]
      exact hB8
end Go.Proofs.YtjaeiiiniohloaaDoor
/- The law ScriptRemarks. -/
namespace Go.Proofs.YtjaeiiiniohloaaDoor
open Go.RowKit
set_option maxRecDepth 100000
theorem full_push {base : Nat} {w : World} {g : Nat} {X : List Nat} (hb : base ≤ w.heap.size) (hg : g < w.heap.size) (hc : ∀ j u, (byV X)[j]? = some u → w.cell? ⟨g, j, none⟩ = some u) (hx : ∀ n ∈ X, n < 256) (hX : X.length ≤ 1000000) (n : Nat) (hn : n < 256) :
    ∃ v' w2, vAppend Tryd.prog 40 40 40 (.slice (some ⟨g, 0, none⟩) X.length X.length) (.slice (some ⟨w.heap.size, 0, none⟩) 1 1) (w.alloc (.cells #[.int .u8 (n : Int)] 5)) = .ok (.value v') w2 ∧ BytIn base w2 v' (X ++ [n]) ∧ Below base w w2 ∧ w.heap.size ≤ w2.heap.size := by
  have hI : sliceI Tryd.prog 40 = some (5, 1, 1) := by kernel_rfl
  obtain ⟨inf, z, hT, hi, hz, hs1, hs2, hzs, hpos⟩ := sliceI_is hI
  have hba := below_alloc w (.cells #[.int .u8 (n : Int)] 5)
  have hr := run_append_grow (P := Tryd.prog) (w.alloc (.cells #[.int .u8 (n : Int)] 5)) 40 40 5 inf z hT hi hz ⟨g, 0, none⟩ X.length X.length (byV X) (by rw [byV_len, hs1, Nat.mul_one])
    (fun j v hv => by rw [addr_add, Nat.zero_add, (bcell hba).1 _ _ hg]; exact hc j v hv) ⟨w.heap.size, 0, none⟩ 1 1 [.int .u8 (n : Int)] (by rw [hs1]; rfl)
    (fun j v hv => by rw [addr_add, Nat.zero_add, (new_block w #[.int .u8 (n : Int)] 5).1 j]; simpa using hv) (by omega) (by omega) (growslice_fits (by omega) (by rw [hs2]; omega))
  have hge := grownCap_ge (w.alloc (.cells #[.int .u8 (n : Int)] 5)) (X.length + 1) X.length 5
  have hcm := grownCap_le_maxLen (w.alloc (.cells #[.int .u8 (n : Int)] 5)) (X.length + 1) X.length 5 (by unfold maxLen; omega)
  generalize grownCap (w.alloc (.cells #[.int .u8 (n : Int)] 5)) (X.length + 1) X.length 5 = cap at *
  have hsz : (w.alloc (.cells #[.int .u8 (n : Int)] 5)).heap.size = w.heap.size + 1 := by simp
  have hlen : (X ++ [n]).length = X.length + 1 := by simp
  refine ⟨.slice (some ⟨(w.alloc (.cells #[.int .u8 (n : Int)] 5)).heap.size, 0, none⟩) (X.length + 1) cap, _, by simp only [vAppend, Sem.run_bind, hr, Result.andThen, Sem.run_pure]; rfl, ?_, ?_, ?_⟩
  · unfold BytIn
    rw [hlen]
    refine ⟨_, cap, rfl, ⟨by rw [byV_len, hlen, Nat.mul_one], .inr ⟨_, cap, _, rfl, by omega, heap_alloc_new _ _, hge, hcm, ?_, ?_⟩⟩, fun m hm => ?_, by omega⟩
    · simp only [Array.size_append, List.size_toArray, byV_len, List.length_cons, List.length_nil, size_zeroCells, hzs]
      omega
    · simp only [Array.toList_append, List.append_assoc]
      rw [← List.append_assoc]
      have e : byV X ++ [Value.int .u8 (n : Int)] = byV (X ++ [n]) := by rw [byV_app]; rfl
      have e2 : (X.length + 1) * 1 = (byV (X ++ [n])).length := by rw [byV_len, Nat.mul_one, hlen]
      rw [e, e2]
      exact List.take_left
    · rcases List.mem_append.1 hm with h | h
      · exact hx m h
      · simp at h; omega
  · have hd : Below base (w.alloc (.cells #[.int .u8 (n : Int)] 5)) (w.alloc (.cells #[.int .u8 (n : Int)] 5)).drew := (Below.refl _ _).drew
    exact (hba.mono hb).trans (hd.alloc (show base ≤ (w.alloc (.cells #[.int .u8 (n : Int)] 5)).heap.size by omega) _)
  · rw [World.size_alloc]
    show w.heap.size ≤ (w.alloc (.cells #[.int .u8 (n : Int)] 5)).heap.size + 1
    omega
/-- Bytes in memory: a row that is owned, or a full row (the bytes of a constant string). -/
def NoteIn (base : Nat) (w : World) (v : Value) (X : List Nat) : Prop := BytIn base w v X ∨ ∃ g, v = .slice (some ⟨g, 0, none⟩) X.length X.length ∧ g < w.heap.size ∧ (∀ j u, (byV X)[j]? = some u → w.cell? ⟨g, j, none⟩ = some u) ∧ (∀ n ∈ X, n < 256) ∧ X.length ≤ 1000
theorem NoteIn.push {base : Nat} {w : World} {v : Value} {X : List Nat} (h : NoteIn base w v X) (hb : base ≤ w.heap.size) (n : Nat) (hn : n < 256) (hl : X.length + 1 ≤ 100000000) :
    ∃ v' w2, vAppend Tryd.prog 40 40 40 v (.slice (some ⟨w.heap.size, 0, none⟩) 1 1) (w.alloc (.cells #[.int .u8 (n : Int)] 5)) = .ok (.value v') w2 ∧ NoteIn base w2 v' (X ++ [n]) ∧ Below base w w2 ∧ w.heap.size ≤ w2.heap.size := by
  rcases h with h | ⟨g, rfl, hg, hc, hx, hX⟩
  · obtain ⟨v', w2, h1, h2, h3, h4⟩ := h.push hb n hn hl
    exact ⟨v', w2, h1, .inl h2, h3, h4⟩
  · obtain ⟨v', w2, h1, h2, h3, h4⟩ := full_push hb hg hc hx (by omega) n hn
    exact ⟨v', w2, h1, .inl h2, h3, h4⟩
theorem NoteIn.str {base : Nat} {w : World} {v : Value} {X : List Nat} (h : NoteIn base w v X) : vConvert Tryd.prog 40 9 v w = .ok (.value (.string (toBA X))) w := by
  have key : ∃ s : ByteArray, bs s = X ∧ vConvert Tryd.prog 40 9 v w = .ok (.value (.string s)) w := by
    rcases h with h | ⟨g, rfl, hg, hc, hx, hX⟩
    · exact h.str
    · exact bytes_str X hx fun j u hu => by rw [addr_add, Nat.zero_add]; exact hc j u hu
  obtain ⟨s, h1, h2⟩ := key
  rw [← h1, toBA_bs]
  exact h2
theorem NoteIn.below {base : Nat} {w w' : World} {v : Value} {X : List Nat} (h : NoteIn base w v X) (hb : Below w.heap.size w w') : NoteIn base w' v X := by
  rcases h with ⟨g, c, rfl, ho, h⟩ | ⟨g, rfl, hg, hc, hx, hX⟩
  · exact .inl ⟨g, c, rfl, owns_below ho hb, h⟩
  · exact .inr ⟨g, rfl, Nat.lt_of_lt_of_le hg hb.size, fun j u hu => ((bcell hb).1 _ _ hg).trans (hc j u hu), hx, hX⟩
theorem conv_mark (w : World) : vConvert Tryd.prog 40 40 (.slice (some ⟨w.heap.size, 0, none⟩) 1 1) (w.alloc (.cells #[.int .u8 35] 5)) = .ok (.value (.slice (some ⟨w.heap.size, 0, none⟩) 1 1)) (w.alloc (.cells #[.int .u8 35] 5 (1, 2))) := by
  have := Lib.run_convert_bytes_const (P := Tryd.prog) w 40 5 #[.int .u8 35] 1 1 Tryd.underlying40 Tryd.underlying5
  simp only [vConvert, Sem.run_bind, this, Result.andThen, Sem.run_pure]
  rfl
def noNl (l : List Nat) : List Nat := l.filter fun c => c != 10
set_option maxHeartbeats 1000000 in
theorem remarks_any (a b : ByteArray) (w : World) (hL : Laid w) (ha : a.size ≤ 9223372036854775807) (hb : b.size ≤ 9223372036854775807) :
    Calls Tryd.prog 7 #[.string a, .string b] w fun e w' => e = .returned (.bool true) ∧ Below w.heap.size w w' := by
  refine calls_W (l := [_, _]) Tryd.func7 rfl _ Tryd.ntmps7 (by simp) ?_
  have hsz := hL.size
  have hma : (min (a.size : Int) 300).toNat = min a.size 300 := by omega
  have hmb : (min (b.size : Int) 300).toNat = min b.size 300 := by omega
  have haz : (a.extract 0 (min a.size 300)).size ≤ 300 := by rw [ByteArray.size_extract]; omega
  have hbz : (b.extract 0 (min b.size 300)).size ≤ 300 := by rw [ByteArray.size_extract]; omega
  simp +contextual (maxSteps := 2000000) (disch := (first | omega | (simp only [SZ]; done) | (simp only [SZ]; omega) | (simp only [TS] at *; omega))) only [RZ, gval, gslot, fillL, ovw, numb, catL, ldN, agL, okC, oneC, init, Nat.reduceAdd, Nat.reduceMul, Nat.reduceSub, Nat.reduceEqDiff, Nat.reduceLT, ↓reduceIte, Int.reduceToNat, Int.reduceAdd, Int.reduceSub, Int.reduceMul, Int.reduceLT, Int.reduceLE, Int.reduceEq, Nat.reduceLeDiff]
  refine Raw_still MX (by kernel_rfl) ?_
  simp +contextual (maxSteps := 2000000) (disch := (first | omega | (simp only [SZ]; done) | (simp only [SZ]; omega) | (simp only [TS] at *; omega))) only [RZ, gval, gslot, fillL, ovw, numb, catL, ldN, agL, okC, oneC, init, Nat.reduceAdd, Nat.reduceMul, Nat.reduceSub, Nat.reduceEqDiff, Nat.reduceLT, ↓reduceIte, Int.reduceToNat, Int.reduceAdd, Int.reduceSub, Int.reduceMul, Int.reduceLT, Int.reduceLE, Int.reduceEq, Nat.reduceLeDiff,  hma, hmb]
  generalize a.extract 0 (min a.size 300) = s at *
  generalize b.extract 0 (min b.size 300) = t at *
  have hcm := conv_mark w.drew
  have hX0 : NoteIn w.heap.size (w.drew.alloc (.cells #[.int .u8 35] 5 (1, 2))) (.slice (some ⟨w.heap.size, 0, none⟩) 1 1) [35] := by
    refine .inr ⟨w.heap.size, rfl, ?_, fun j u hu => ?_, by simp, by simp⟩
    · rw [World.size_alloc]; exact Nat.lt_succ_self _
    · have hh : (w.drew.alloc (.cells #[.int .u8 35] 5 (1, 2))).heap[w.heap.size]? = some (.cells #[.int .u8 35] 5 (1, 2)) := heap_alloc_new w.drew _
      rw [Lib.cell_of_heap hh j]
      simpa [byV] using hu
  have hB0 : Below w.heap.size w (w.drew.alloc (.cells #[.int .u8 35] 5 (1, 2))) := ((Below.refl _ _).drew).alloc (Nat.le_refl _) _
  have hszd : w.drew.heap.size = w.heap.size := rfl
  rw [hszd] at hcm
  simp only [World.alloc_drew] at hcm hX0 hB0
  refine Okv_of hcm ?_
  clear hcm
  generalize (w.alloc (.cells #[.int .u8 35] 5 (1, 2))).drew = w1 at *
  have hs1 := hB0.size
  refine Raw_loop (fun σ w2 => Below w.heap.size w w2 ∧ w.heap.size ≤ w2.heap.size ∧ ∃ (k : Nat) (v : Value), k ≤ t.size ∧ NoteIn w.heap.size w2 v (35 :: noNl ((bs t).take k)) ∧ σ 0 = .string s ∧ σ 1 = .string t ∧ σ 5 = v ∧ σ 6 = .int .i64 k) (fun σ _ => t.size - (intOf (σ 6)).toNat) ?_ ?_
  · simp +contextual (maxSteps := 2000000) (disch := (first | omega | (simp only [SZ]; done) | (simp only [SZ]; omega) | (simp only [TS] at *; omega))) only [RZ, gval, gslot, fillL, ovw, numb, catL, ldN, agL, okC, oneC, init, Nat.reduceAdd, Nat.reduceMul, Nat.reduceSub, Nat.reduceEqDiff, Nat.reduceLT, ↓reduceIte, Int.reduceToNat, Int.reduceAdd, Int.reduceSub, Int.reduceMul, Int.reduceLT, Int.reduceLE, Int.reduceEq, Nat.reduceLeDiff]
    exact ⟨hB0, hs1, 0, _, by omega, hX0, rfl, rfl⟩
  rintro σ w2 ⟨hB2, hs2, k, v, hk, hX, e0, e1, e5, e6⟩ K hK
  have hltk := bt_lt t k
  have hXl : (35 :: noNl ((bs t).take k)).length ≤ 301 := by
    have h1 : (noNl ((bs t).take k)).length ≤ ((bs t).take k).length := List.length_filter_le _ _
    rw [List.length_take, bs_len] at h1
    simp only [List.length_cons]
    omega
  simp +contextual (maxSteps := 2000000) (disch := (first | omega | (simp only [SZ]; done) | (simp only [SZ]; omega) | (simp only [TS] at *; omega))) only [RZ, gval, gslot, fillL, ovw, numb, catL, ldN, agL, okC, oneC, init, Nat.reduceAdd, Nat.reduceMul, Nat.reduceSub, Nat.reduceEqDiff, Nat.reduceLT, ↓reduceIte, Int.reduceToNat, Int.reduceAdd, Int.reduceSub, Int.reduceMul, Int.reduceLT, Int.reduceLE, Int.reduceEq, Nat.reduceLeDiff,  e0, e1, e5, e6]
  (refine W_if rfl (fun hc => ?_) (fun hc => ?_) <;> (try simp only [TS] at hc))
  · have hkl : k < t.size := by omega
    clear hc
    have hst : noNl ((bs t).take (k + 1)) = noNl ((bs t).take k) ++ noNl [bt t k] := by
      rw [take_bt hkl]
      unfold noNl
      rw [List.filter_append]
    simp +contextual (maxSteps := 2000000) (disch := (first | omega | (simp only [SZ]; done) | (simp only [SZ]; omega) | (simp only [TS] at *; omega))) only [RZ, gval, gslot, fillL, ovw, numb, catL, ldN, agL, okC, oneC, init, Nat.reduceAdd, Nat.reduceMul, Nat.reduceSub, Nat.reduceEqDiff, Nat.reduceLT, ↓reduceIte, Int.reduceToNat, Int.reduceAdd, Int.reduceSub, Int.reduceMul, Int.reduceLT, Int.reduceLE, Int.reduceEq, Nat.reduceLeDiff,  e0, e1, e5, e6]
    (refine W_if rfl (fun hc => ?_) (fun hc => ?_) <;> (try simp only [TS] at hc))
    · have h10 : noNl [bt t k] = [bt t k] := by
        unfold noNl
        rw [List.filter_cons_of_pos (by simp; omega)]; rfl
      rw [h10] at hst
      obtain ⟨v', w3, he, hX3, hb3, hs3⟩ := hX.push hs2 (bt t k) hltk (by omega)
      simp +contextual (maxSteps := 2000000) (disch := (first | omega | (simp only [SZ]; done) | (simp only [SZ]; omega) | (simp only [TS] at *; omega))) only [RZ, gval, gslot, fillL, ovw, numb, catL, ldN, agL, okC, oneC, init, Nat.reduceAdd, Nat.reduceMul, Nat.reduceSub, Nat.reduceEqDiff, Nat.reduceLT, ↓reduceIte, Int.reduceToNat, Int.reduceAdd, Int.reduceSub, Int.reduceMul, Int.reduceLT, Int.reduceLE, Int.reduceEq, Nat.reduceLeDiff,  e0, e1, e5, e6]
      refine Okv_of he ?_
      refine hK _ _ ⟨hB2.trans hb3, by omega, k + 1, v', by omega, by rw [hst]; exact hX3, ?_⟩ ?_
      · simp +contextual (maxSteps := 2000000) (disch := (first | omega | (simp only [SZ]; done) | (simp only [SZ]; omega) | (simp only [TS] at *; omega))) only [RZ, gval, gslot, fillL, ovw, numb, catL, ldN, agL, okC, oneC, init, Nat.reduceAdd, Nat.reduceMul, Nat.reduceSub, Nat.reduceEqDiff, Nat.reduceLT, ↓reduceIte, Int.reduceToNat, Int.reduceAdd, Int.reduceSub, Int.reduceMul, Int.reduceLT, Int.reduceLE, Int.reduceEq, Nat.reduceLeDiff,  e0, e1, e5, e6]
      · simp +contextual (maxSteps := 2000000) (disch := (first | omega | (simp only [SZ]; done) | (simp only [SZ]; omega) | (simp only [TS] at *; omega))) only [RZ, gval, gslot, fillL, ovw, numb, catL, ldN, agL, okC, oneC, init, Nat.reduceAdd, Nat.reduceMul, Nat.reduceSub, Nat.reduceEqDiff, Nat.reduceLT, ↓reduceIte, Int.reduceToNat, Int.reduceAdd, Int.reduceSub, Int.reduceMul, Int.reduceLT, Int.reduceLE, Int.reduceEq, Nat.reduceLeDiff,  intOf, e6]
        omega
    · have h10 : noNl [bt t k] = [] := by
        unfold noNl
        rw [List.filter_cons_of_neg (by simp; omega)]; rfl
      rw [h10, List.append_nil] at hst
      simp +contextual (maxSteps := 2000000) (disch := (first | omega | (simp only [SZ]; done) | (simp only [SZ]; omega) | (simp only [TS] at *; omega))) only [RZ, gval, gslot, fillL, ovw, numb, catL, ldN, agL, okC, oneC, init, Nat.reduceAdd, Nat.reduceMul, Nat.reduceSub, Nat.reduceEqDiff, Nat.reduceLT, ↓reduceIte, Int.reduceToNat, Int.reduceAdd, Int.reduceSub, Int.reduceMul, Int.reduceLT, Int.reduceLE, Int.reduceEq, Nat.reduceLeDiff,  e0, e1, e5, e6]
      refine hK _ _ ⟨hB2, hs2, k + 1, v, by omega, by rw [hst]; exact hX, ?_⟩ ?_
      · simp +contextual (maxSteps := 2000000) (disch := (first | omega | (simp only [SZ]; done) | (simp only [SZ]; omega) | (simp only [TS] at *; omega))) only [RZ, gval, gslot, fillL, ovw, numb, catL, ldN, agL, okC, oneC, init, Nat.reduceAdd, Nat.reduceMul, Nat.reduceSub, Nat.reduceEqDiff, Nat.reduceLT, ↓reduceIte, Int.reduceToNat, Int.reduceAdd, Int.reduceSub, Int.reduceMul, Int.reduceLT, Int.reduceLE, Int.reduceEq, Nat.reduceLeDiff,  e0, e1, e5, e6]
      · simp +contextual (maxSteps := 2000000) (disch := (first | omega | (simp only [SZ]; done) | (simp only [SZ]; omega) | (simp only [TS] at *; omega))) only [RZ, gval, gslot, fillL, ovw, numb, catL, ldN, agL, okC, oneC, init, Nat.reduceAdd, Nat.reduceMul, Nat.reduceSub, Nat.reduceEqDiff, Nat.reduceLT, ↓reduceIte, Int.reduceToNat, Int.reduceAdd, Int.reduceSub, Int.reduceMul, Int.reduceLT, Int.reduceLE, Int.reduceEq, Nat.reduceLeDiff,  intOf, e6]
        omega
  have hke : k = t.size := by omega
  rw [List.take_of_length_le (by rw [bs_len]; omega)] at hX hXl
  clear hc
  simp +contextual (maxSteps := 2000000) (disch := (first | omega | (simp only [SZ]; done) | (simp only [SZ]; omega) | (simp only [TS] at *; omega))) only [RZ, gval, gslot, fillL, ovw, numb, catL, ldN, agL, okC, oneC, init, Nat.reduceAdd, Nat.reduceMul, Nat.reduceSub, Nat.reduceEqDiff, Nat.reduceLT, ↓reduceIte, Int.reduceToNat, Int.reduceAdd, Int.reduceSub, Int.reduceMul, Int.reduceLT, Int.reduceLE, Int.reduceEq, Nat.reduceLeDiff,  e0, e1, e5, e6]
  have hNl : ∀ c ∈ noNl (bs t), c ≠ 10 := fun c hc => by
    have := (List.mem_filter.1 hc).2
    simpa using this
  have hNt : ∀ c ∈ 35 :: noNl (bs t), c < 256 := fun c hc => by
    rcases List.mem_cons.1 hc with rfl | hc
    · decide
    · exact bs_lt t c (List.mem_filter.1 hc).1
  have hlaw := remarks_law (bs s) (noNl (bs t)) hNl (by rw [bs_len]; omega) (by simp only [List.length_cons] at hXl; omega)
  generalize noNl (bs t) = N at *
  have hnb := bs_toBA hNt
  have hnz := toBA_size (35 :: N)
  have works : ∀ (w' : World) (R : Value → World → Prop), Below w.heap.size w w' → (∀ w'', Below w.heap.size w w'' → R (.bool true) w'') → Calls Tryd.prog 13 #[] w' fun e w'' => ∃ v, e = .returned v ∧ R v w'' := fun w' R h hR =>
    (works_any w' (hL.below h hsz)).mono fun e w'' ⟨he, hb⟩ => ⟨_, he, hR w'' (h.trans (hb.mono h.size))⟩
  have l1 : (⟨#[10]⟩ : ByteArray).size = 1 := rfl
  have l2 : (⟨#[10, 10]⟩ : ByteArray).size = 2 := rfl
  have y1 : ((⟨#[10]⟩ : ByteArray) ++ toBA (35 :: N)).size ≤ 302 := by rw [ByteArray.size_append]; omega
  have y2 : ((⟨#[10]⟩ : ByteArray) ++ toBA (35 :: N) ++ (⟨#[10, 10]⟩ : ByteArray)).size ≤ 304 := by rw [ByteArray.size_append]; omega
  have y3 : ((⟨#[10]⟩ : ByteArray) ++ toBA (35 :: N) ++ (⟨#[10, 10]⟩ : ByteArray) ++ s).size ≤ 604 := by rw [ByteArray.size_append]; omega
  have y4 : ((⟨#[10]⟩ : ByteArray) ++ toBA (35 :: N) ++ (⟨#[10, 10]⟩ : ByteArray) ++ s ++ (⟨#[10]⟩ : ByteArray)).size ≤ 605 := by rw [ByteArray.size_append]; omega
  have y5 : ((⟨#[10]⟩ : ByteArray) ++ toBA (35 :: N) ++ (⟨#[10, 10]⟩ : ByteArray) ++ s ++ (⟨#[10]⟩ : ByteArray) ++ toBA (35 :: N)).size ≤ 906 := by rw [ByteArray.size_append]; omega
  have hbT : bs ((⟨#[10]⟩ : ByteArray) ++ toBA (35 :: N) ++ (⟨#[10, 10]⟩ : ByteArray) ++ s ++ (⟨#[10]⟩ : ByteArray) ++ toBA (35 :: N)) = 10 :: (35 :: N) ++ 10 :: 10 :: bs s ++ 10 :: 35 :: N := by
    rw [bs_append, bs_append, bs_append, bs_append, bs_append, hnb]
    simp [bs]
  rw [← hbT] at hlaw
  have hp := parse_any s w2 (hL.below hB2 hsz) (by omega)
  cases hP : parseS (bs s) with
  | error e =>
    obtain ⟨x, m⟩ := e
    have hx := parseS_err hP
    rw [hP] at hp hlaw
    simp only [shE] at hlaw
    refine hp.mono ?_
    rintro e w3 ⟨hu, hb3⟩
    have hu' : e = _ := hu
    subst hu'
    refine ⟨_, rfl, ?_⟩
    have hB3 := hB2.trans (hb3.mono hs2)
    have hst := (hX.below hb3).str
    simp +contextual (maxSteps := 2000000) (disch := (first | omega | (simp only [SZ]; done) | (simp only [SZ]; omega) | (simp only [TS] at *; omega))) only [RZ, gval, gslot, fillL, ovw, numb, catL, ldN, agL, okC, oneC, init, Nat.reduceAdd, Nat.reduceMul, Nat.reduceSub, Nat.reduceEqDiff, Nat.reduceLT, ↓reduceIte, Int.reduceToNat, Int.reduceAdd, Int.reduceSub, Int.reduceMul, Int.reduceLT, Int.reduceLE, Int.reduceEq, Nat.reduceLeDiff,  e0, e1, e5, e6, hst]
    have hp4 := parse_any ((⟨#[10]⟩ : ByteArray) ++ toBA (35 :: N) ++ (⟨#[10, 10]⟩ : ByteArray) ++ s ++ (⟨#[10]⟩ : ByteArray) ++ toBA (35 :: N)) w3 (hL.below hB3 hsz) (by omega)
    rw [hlaw] at hp4
    refine hp4.mono ?_
    rintro e w4 ⟨hu, hb4⟩
    have hu' : e = _ := hu
    subst hu'
    refine ⟨_, rfl, ?_⟩
    have hB4 := hB3.trans (hb4.mono hB3.size)
    have hmb : m ≤ 300 := by have := parseS_bd hP; rw [bs_len] at this; omega
    have hm3 : decide ((m : Int) + 1 + 1 + 1 = (m : Int) + 3) = true := decide_eq_true (by omega)
    have h00 : decide (((0 : Nat) : Int) = 0) = true := rfl
    simp +contextual (maxSteps := 2000000) (disch := (first | omega | (simp only [SZ]; done) | (simp only [SZ]; omega) | (simp only [TS] at *; omega))) only [RZ, gval, gslot, fillL, ovw, numb, catL, ldN, agL, okC, oneC, init, Nat.reduceAdd, Nat.reduceMul, Nat.reduceSub, Nat.reduceEqDiff, Nat.reduceLT, ↓reduceIte, Int.reduceToNat, Int.reduceAdd, Int.reduceSub, Int.reduceMul, Int.reduceLT, Int.reduceLE, Int.reduceEq, Nat.reduceLeDiff]
    (refine W_if rfl (fun hc => ?_) (fun hc => ?_) <;> (try simp only [TS] at hc))
    · simp +contextual (maxSteps := 2000000) (disch := (first | omega | (simp only [SZ]; done) | (simp only [SZ]; omega) | (simp only [TS] at *; omega))) only [RZ, gval, gslot, fillL, ovw, numb, catL, ldN, agL, okC, oneC, init, Nat.reduceAdd, Nat.reduceMul, Nat.reduceSub, Nat.reduceEqDiff, Nat.reduceLT, ↓reduceIte, Int.reduceToNat, Int.reduceAdd, Int.reduceSub, Int.reduceMul, Int.reduceLT, Int.reduceLE, Int.reduceEq, Nat.reduceLeDiff,  hm3, h00]
      refine works w4 _ hB4 fun w5 hB5 => ?_
      simp +contextual (maxSteps := 2000000) (disch := (first | omega | (simp only [SZ]; done) | (simp only [SZ]; omega) | (simp only [TS] at *; omega))) only [RZ, gval, gslot, fillL, ovw, numb, catL, ldN, agL, okC, oneC, init, Nat.reduceAdd, Nat.reduceMul, Nat.reduceSub, Nat.reduceEqDiff, Nat.reduceLT, ↓reduceIte, Int.reduceToNat, Int.reduceAdd, Int.reduceSub, Int.reduceMul, Int.reduceLT, Int.reduceLE, Int.reduceEq, Nat.reduceLeDiff]
      exact hB5
    · exact absurd hc hx
  | ok L =>
    obtain ⟨g1, g2, g3⟩ := parseS_ok (by rw [bs_len]; omega) hP
    have hmL : ∀ c ∈ L, c.nums.length ≤ 1000000 := fun c hc => (chk_mid (g1 c hc).1 (g1 c hc).2).2.2.2
    have hLl : L.length ≤ 1000000 := by rw [bs_len] at g2; omega
    rw [hP] at hp hlaw
    simp only [shE] at hlaw
    refine hp.mono ?_
    rintro e w3 ⟨⟨vL, rfl, hCL⟩, hb3⟩
    refine ⟨_, rfl, ?_⟩
    have hB3 := hB2.trans (hb3.mono hs2)
    have hst := (hX.below hb3).str
    have huL := hCL.reads
    simp +contextual (maxSteps := 2000000) (disch := (first | omega | (simp only [SZ]; done) | (simp only [SZ]; omega) | (simp only [TS] at *; omega))) only [RZ, gval, gslot, fillL, ovw, numb, catL, ldN, agL, okC, oneC, init, Nat.reduceAdd, Nat.reduceMul, Nat.reduceSub, Nat.reduceEqDiff, Nat.reduceLT, ↓reduceIte, Int.reduceToNat, Int.reduceAdd, Int.reduceSub, Int.reduceMul, Int.reduceLT, Int.reduceLE, Int.reduceEq, Nat.reduceLeDiff,  e0, e1, e5, e6, hst]
    have hp4 := parse_any ((⟨#[10]⟩ : ByteArray) ++ toBA (35 :: N) ++ (⟨#[10, 10]⟩ : ByteArray) ++ s ++ (⟨#[10]⟩ : ByteArray) ++ toBA (35 :: N)) w3 (hL.below hB3 hsz) (by omega)
    rw [hlaw] at hp4
    refine hp4.mono ?_
    rintro e w4 ⟨⟨vA, rfl, hCA⟩, hb4⟩
    refine ⟨_, rfl, ?_⟩
    have hB4 := hB3.trans (hb4.mono hB3.size)
    have huA := hCA.reads
    simp +contextual (maxSteps := 2000000) (disch := (first | omega | (simp only [SZ]; done) | (simp only [SZ]; omega) | (simp only [TS] at *; omega))) only [RZ, gval, gslot, fillL, ovw, numb, catL, ldN, agL, okC, oneC, init, Nat.reduceAdd, Nat.reduceMul, Nat.reduceSub, Nat.reduceEqDiff, Nat.reduceLT, ↓reduceIte, Int.reduceToNat, Int.reduceAdd, Int.reduceSub, Int.reduceMul, Int.reduceLT, Int.reduceLE, Int.reduceEq, Nat.reduceLeDiff]
    refine W_if_f rfl ?_
    simp +contextual (maxSteps := 2000000) (disch := (first | omega | (simp only [SZ]; done) | (simp only [SZ]; omega) | (simp only [TS] at *; omega))) only [RZ, gval, gslot, fillL, ovw, numb, catL, ldN, agL, okC, oneC, init, Nat.reduceAdd, Nat.reduceMul, Nat.reduceSub, Nat.reduceEqDiff, Nat.reduceLT, ↓reduceIte, Int.reduceToNat, Int.reduceAdd, Int.reduceSub, Int.reduceMul, Int.reduceLT, Int.reduceLE, Int.reduceEq, Nat.reduceLeDiff]
    refine (sameAll_any _ _ L L w4 (huL.below hb4) huA hmL hmL hLl hLl).mono ?_
    rintro e w5 ⟨⟨tt, rfl, ht⟩, hb5⟩
    obtain rfl : tt = true := ht.2 rfl
    refine ⟨_, rfl, ?_⟩
    have hB5 := hB4.trans (hb5.mono hB4.size)
    simp +contextual (maxSteps := 2000000) (disch := (first | omega | (simp only [SZ]; done) | (simp only [SZ]; omega) | (simp only [TS] at *; omega))) only [RZ, gval, gslot, fillL, ovw, numb, catL, ldN, agL, okC, oneC, init, Nat.reduceAdd, Nat.reduceMul, Nat.reduceSub, Nat.reduceEqDiff, Nat.reduceLT, ↓reduceIte, Int.reduceToNat, Int.reduceAdd, Int.reduceSub, Int.reduceMul, Int.reduceLT, Int.reduceLE, Int.reduceEq, Nat.reduceLeDiff]
    refine works w5 _ hB5 fun w6 hB6 => ?_
    simp +contextual (maxSteps := 2000000) (disch := (first | omega | (simp only [SZ]; done) | (simp only [SZ]; omega) | (simp only [TS] at *; omega))) only [RZ, gval, gslot, fillL, ovw, numb, catL, ldN, agL, okC, oneC, init, Nat.reduceAdd, Nat.reduceMul, Nat.reduceSub, Nat.reduceEqDiff, Nat.reduceLT, ↓reduceIte, Int.reduceToNat, Int.reduceAdd, Int.reduceSub, Int.reduceMul, Int.reduceLT, Int.reduceLE, Int.reduceEq, Nat.reduceLeDiff]
    exact hB6
end Go.Proofs.YtjaeiiiniohloaaDoor
