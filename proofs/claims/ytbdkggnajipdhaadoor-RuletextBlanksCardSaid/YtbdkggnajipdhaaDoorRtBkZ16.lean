/- Texts laid one behind the other: RwI, Row, GmArgs, Laid. Each says at its head what it proves. -/
import Derived.Test.YtbdkggnajipdhaaDoorRtBkZ15
import Derived.ProofKit
import Derived.Lib.SmallJoins
import Derived.Deep.Slices
import Derived.Deep.Fields
import Derived.ChangeMaps5
import Derived.LaidMore
import Derived.OpenShut
import Derived.Stop.Joined
import Derived.Lib.LaidTab
import Derived.MakeChecks
set_option linter.unusedSimpArgs false
/- Walk: the law RuletextBlanks. -/
namespace Go.Proofs.YtbdkggnajipdhaaDoor
open Nat (reduceAdd reduceMul reduceSub reduceEqDiff reduceLT reduceLeDiff)
open Go.RowKit
set_option maxRecDepth 100000
set_option maxHeartbeats 4000000 in
theorem ruletextBlanks_any (s : ByteArray) (w : World) (hW : Laid w) : Calls Tryd.prog 4 #[.string s] w fun e w' => e = .returned (.bool true) ∧ Below w.heap.size w w' := by
  refine calls_W (l := [_]) Tryd.func4 rfl _ Tryd.ntmps4 (by simp) ?_
  have hw5 := hW.size
  have hend : ∀ (w7 : World) {R : Ending → World → Prop}, Below w.heap.size w w7 → (∀ w8, Below w.heap.size w w8 → R (.returned (.bool true)) w8) → Calls Tryd.prog 6 #[] w7 R := fun w7 R hF hR => by
    have := hF.size
    refine (awake_any w7 (hW.below hF hw5) (by omega)).mono ?_
    rintro e w8 ⟨rfl, hB8⟩
    exact hR w8 (hF.trans (hB8.mono this))
  refine W_piece fun K hK hX => ?_
  simp +contextual (maxSteps := 2000000) (disch := first | omega | (simp only [SZ]; first | done | omega) | (simp only [TS] at *; omega)) only [RZ, ovw, oneC, reduceAdd, reduceMul, reduceSub, reduceEqDiff, reduceLT, ↓reduceIte, Int.reduceToNat, reduceLeDiff]
  refine hK _ _ ?_
  clear hK hX K
  refine W_piece fun K hK hX => ?_
  refine W_piece fun K2 hK2 hX2 => ?_
  simp +contextual (maxSteps := 2000000) (disch := first | omega | (simp only [SZ]; first | done | omega) | (simp only [TS] at *; omega)) only [RZ, ovw, oneC, reduceAdd, reduceMul, reduceSub, reduceEqDiff, reduceLT, ↓reduceIte, Int.reduceToNat, reduceLeDiff]
  refine hK2 _ _ ?_
  clear hK2 hX2 K2
  by_cases hsz : 3000 < s.size
  · refine W_if_t (by rw [show decide ((3000 : Int) < (s.size : Int)) = true from decide_eq_true (by omega)]; rfl) ?_
    refine W_piece fun K2 hK2 hX2 => ?_
    simp +contextual (maxSteps := 2000000) (disch := first | omega | (simp only [SZ]; first | done | omega) | (simp only [TS] at *; omega)) only [RZ, ovw, oneC, reduceAdd, reduceMul, reduceSub, reduceEqDiff, reduceLT, ↓reduceIte, Int.reduceToNat, reduceLeDiff]
    refine hend w (Below.refl _ _) fun w1 hF1 => ?_
    refine ⟨_, rfl, ?_⟩
    try simp +contextual (maxSteps := 2000000) (disch := first | omega | (simp only [SZ]; first | done | omega) | (simp only [TS] at *; omega)) only [RZ, ovw, oneC, reduceAdd, reduceMul, reduceSub, reduceEqDiff, reduceLT, ↓reduceIte, Int.reduceToNat, reduceLeDiff]
    refine hK2 _ _ ?_
    clear hK2 hX2 K2
    rw [W_ret]
    refine hX _ _ _ (fun h => by cases h) ?_
    simp +contextual (maxSteps := 2000000) (disch := first | omega | (simp only [SZ]; first | done | omega) | (simp only [TS] at *; omega)) only [RZ, ovw, oneC, reduceAdd, reduceMul, reduceSub, reduceEqDiff, reduceLT, ↓reduceIte, Int.reduceToNat, reduceLeDiff]
    exact hF1
  refine W_if_f (by rw [show decide ((3000 : Int) < (s.size : Int)) = false from decide_eq_false (by omega)]; rfl) ?_
  rw [W_skip]
  refine hK _ _ ?_
  clear hK hX K
  refine W_piece fun K hK hX => ?_
  simp +contextual (maxSteps := 2000000) (disch := first | omega | (simp only [SZ]; first | done | omega) | (simp only [TS] at *; omega)) only [RZ, ovw, oneC, reduceAdd, reduceMul, reduceSub, reduceEqDiff, reduceLT, ↓reduceIte, Int.reduceToNat, reduceLeDiff]
  refine (rscan_any s w (by omega)).mono ?_
  rintro e w1 ⟨hB1, v, rfl, A, c, rfl, hown⟩
  refine ⟨_, rfl, ?_⟩
  have hz1 := hB1.size
  have hok := scan_tokOk (s := s)
  have hlaw := fun h => blanks_law (s := s) (r := ⟨#[9, 35, 59, 125, 10, 32]⟩) (b := ⟨#[32]⟩) (by omega) h (by decide) (show sepOk sepR from sepR_ok) rfl
  have hj1 := fun h => join_scan (s := s) (sep := ⟨#[9, 35, 59, 125, 10, 32]⟩) (by omega) (by decide) h (show sepOk sepR from sepR_ok)
  have hj2 := fun h => join_scan (s := s) (sep := ⟨#[32]⟩) (by omega) (by decide) h (show sepOk [32] from sepB_ok)
  generalize hSC : scanE s = SC at *
  try simp +contextual (maxSteps := 2000000) (disch := first | omega | (simp only [SZ]; first | done | omega) | (simp only [TS] at *; omega)) only [RZ, ovw, oneC, reduceAdd, reduceMul, reduceSub, reduceEqDiff, reduceLT, ↓reduceIte, Int.reduceToNat, reduceLeDiff]
  refine hK _ _ ?_
  clear hK hX K
  by_cases hc0 : SC.1 = 0
  rotate_left
  · have e1 : (SC.1 = 0) = False := eq_false hc0
    refine W_piece fun K hK hX => ?_
    refine W_piece fun K2 hK2 hX2 => ?_
    simp +contextual (maxSteps := 2000000) (disch := first | omega | (simp only [SZ]; first | done | omega) | (simp only [TS] at *; omega)) only [RZ, ovw, oneC, reduceAdd, reduceMul, reduceSub, reduceEqDiff, reduceLT, ↓reduceIte, Int.reduceToNat, reduceLeDiff,  e1]
    refine hK2 _ _ ?_
    clear hK2 hX2 K2
    refine W_if_t rfl ?_
    refine W_piece fun K2 hK2 hX2 => ?_
    simp +contextual (maxSteps := 2000000) (disch := first | omega | (simp only [SZ]; first | done | omega) | (simp only [TS] at *; omega)) only [RZ, ovw, oneC, reduceAdd, reduceMul, reduceSub, reduceEqDiff, reduceLT, ↓reduceIte, Int.reduceToNat, reduceLeDiff]
    refine hend w1 hB1 fun w2 hF2 => ?_
    refine ⟨_, rfl, ?_⟩
    try simp +contextual (maxSteps := 2000000) (disch := first | omega | (simp only [SZ]; first | done | omega) | (simp only [TS] at *; omega)) only [RZ, ovw, oneC, reduceAdd, reduceMul, reduceSub, reduceEqDiff, reduceLT, ↓reduceIte, Int.reduceToNat, reduceLeDiff]
    refine hK2 _ _ ?_
    clear hK2 hX2 K2
    rw [W_ret]
    refine hX _ _ _ (fun h => by cases h) ?_
    simp +contextual (maxSteps := 2000000) (disch := first | omega | (simp only [SZ]; first | done | omega) | (simp only [TS] at *; omega)) only [RZ, ovw, oneC, reduceAdd, reduceMul, reduceSub, reduceEqDiff, reduceLT, ↓reduceIte, Int.reduceToNat, reduceLeDiff]
    exact hF2
  have e0 : (SC.1 = 0) = True := eq_true hc0
  refine W_piece fun K hK hX => ?_
  refine W_piece fun K2 hK2 hX2 => ?_
  simp +contextual (maxSteps := 2000000) (disch := first | omega | (simp only [SZ]; first | done | omega) | (simp only [TS] at *; omega)) only [RZ, ovw, oneC, reduceAdd, reduceMul, reduceSub, reduceEqDiff, reduceLT, ↓reduceIte, Int.reduceToNat, reduceLeDiff,  e0]
  refine hK2 _ _ ?_
  clear hK2 hX2 K2
  refine W_if_f rfl ?_
  rw [W_skip]
  refine hK _ _ ?_
  clear hK hX K
  obtain ⟨hT, hpos⟩ := hok hc0
  obtain ⟨l1, l2, l3, l4, l5⟩ := hlaw hc0
  obtain ⟨j1, _⟩ := hj1 hc0
  obtain ⟨j2, _⟩ := hj2 hc0
  clear hlaw hj1 hj2 hok
  obtain ⟨gt, rfl, hgt1, hrt, _, _⟩ := owns_row hown hpos
  have hgtl := hrt.lt
  generalize hTT : SC.2.2 = T at *
  have hbig := hT.big
  have hArr : Arr w1 (some ⟨gt, 0, none⟩) 4 (T.map encTk) := hrt.arr (fun _ => rfl)
  have hI : sliceI Tryd.prog 36 = some (9, 1, 16) := by kernel_rfl
  refine W_piece fun K hK hX => ?_
  simp +contextual (maxSteps := 2000000) (disch := first | omega | (simp only [SZ]; first | done | omega) | (simp only [TS] at *; omega)) only [RZ, ovw, oneC, reduceAdd, reduceMul, reduceSub, reduceEqDiff, reduceLT, ↓reduceIte, Int.reduceToNat, reduceLeDiff]
  refine hK _ _ ?_
  clear hK hX K
  refine W_cutS (fun σ w2 => σ 0 = .string s ∧ Below w1.heap.size w1 w2 ∧ ∃ Ap cp, σ 6 = .slice Ap T.length cp ∧ w2.ownsRow w1.heap.size 9 1 (.slice Ap T.length cp) T.length (T.map fun t => Value.string t.text)) ?_ ?_
  rotate_left
  · refine W_piece fun K2 hK2 hX2 => ?_
    simp +contextual (maxSteps := 2000000) (disch := first | omega | (simp only [SZ]; first | done | omega) | (simp only [TS] at *; omega)) only [RZ, ovw, oneC, reduceAdd, reduceMul, reduceSub, reduceEqDiff, reduceLT, ↓reduceIte, Int.reduceToNat, reduceLeDiff]
    refine hK2 _ _ ?_
    clear hK2 hX2 K2
    simp +contextual (maxSteps := 2000000) (disch := first | omega | (simp only [SZ]; first | done | omega) | (simp only [TS] at *; omega)) only [RZ, ovw, oneC, reduceAdd, reduceMul, reduceSub, reduceEqDiff, reduceLT, ↓reduceIte, Int.reduceToNat, reduceLeDiff]
    refine Raw_loop (fun σ w2 => Below w1.heap.size w1 w2 ∧ ∃ (k : Nat) (Ap : Option Addr) (cp : Nat), k ≤ T.length ∧ w2.ownsRow w1.heap.size 9 1 (.slice Ap k cp) k ((T.take k).map fun t => Value.string t.text) ∧ σ 0 = .string s ∧ σ 3 = .slice (some ⟨gt, 0, none⟩) T.length c ∧ σ 6 = .slice Ap k cp ∧ σ 31 = .int .i64 T.length ∧ σ 32 = .int .i64 k) (fun σ _ => T.length - (intOf (σ 32)).toNat) ?_ ?_
    · simp +contextual (maxSteps := 2000000) (disch := first | omega | (simp only [SZ]; first | done | omega) | (simp only [TS] at *; omega)) only [RZ, ovw, oneC, reduceAdd, reduceMul, reduceSub, reduceEqDiff, reduceLT, ↓reduceIte, Int.reduceToNat, reduceLeDiff]
      exact ⟨Below.refl _ _, 0, none, 0, Nat.zero_le _, owns_nil _ _ _ _, rfl, rfl⟩
    rintro σ w2 ⟨hB2, k, Ap, cp, hk, ho2, f0, f3, f6, f31, f32⟩ K hK
    by_cases hkl : k < T.length
    · have e2 : ((k : Int) < (T.length : Int)) = True := eq_true (by omega)
      obtain ⟨t, ht⟩ : ∃ t, T[k]? = some t := ⟨_, List.getElem?_eq_getElem hkl⟩
      obtain ⟨b', o', e', _, hc'⟩ := (hArr.below hB2).at_ ht
      injection e' with e'
      injection e' with e' e''
      subst e' e''
      have lk := hc' 3 _ rfl
      rw [Nat.zero_add] at lk
      obtain ⟨A', c', w5, he, ho5, hb5, hs5⟩ := push1 (P := Tryd.prog) (T := 36) (ty := 36) (news := [.string t.text]) ho2 hB2.size hI rfl (fun u hu => by simp at hu; subst hu; rfl) (by omega) (by decide)
      simp +contextual (maxSteps := 2000000) (disch := first | omega | (simp only [SZ]; first | done | omega) | (simp only [TS] at *; omega)) only [RZ, ovw, oneC, reduceAdd, reduceMul, reduceSub, reduceEqDiff, reduceLT, ↓reduceIte, Int.reduceToNat, reduceLeDiff,  f31, f32, e2]
      refine W_if_t rfl ?_
      rw [W_skip]
      simp +contextual (maxSteps := 2000000) (disch := first | omega | (simp only [SZ]; first | done | omega) | (simp only [TS] at *; omega)) only [RZ, ovw, oneC, reduceAdd, reduceMul, reduceSub, reduceEqDiff, reduceLT, ↓reduceIte, Int.reduceToNat, reduceLeDiff,  f3, f6, f32, lk, he]
      refine hK _ _ ⟨hB2.trans hb5, k + 1, A', c', by omega, ?_, ?_⟩ ?_
      · rw [List.take_add_one, ht, List.map_append]
        exact ho5
      · simp +contextual (maxSteps := 2000000) (disch := first | omega | (simp only [SZ]; first | done | omega) | (simp only [TS] at *; omega)) only [RZ, ovw, oneC, reduceAdd, reduceMul, reduceSub, reduceEqDiff, reduceLT, ↓reduceIte, Int.reduceToNat, reduceLeDiff,  f0, f3, f31]
      · simp +contextual (maxSteps := 2000000) (disch := first | omega | (simp only [SZ]; first | done | omega) | (simp only [TS] at *; omega)) only [RZ, ovw, oneC, reduceAdd, reduceMul, reduceSub, reduceEqDiff, reduceLT, ↓reduceIte, Int.reduceToNat, reduceLeDiff,  intOf, f32]
        omega
    · have e2 : ((k : Int) < (T.length : Int)) = False := eq_false (by omega)
      obtain rfl : k = T.length := by omega
      rw [List.take_length] at ho2
      simp +contextual (maxSteps := 2000000) (disch := first | omega | (simp only [SZ]; first | done | omega) | (simp only [TS] at *; omega)) only [RZ, ovw, oneC, reduceAdd, reduceMul, reduceSub, reduceEqDiff, reduceLT, ↓reduceIte, Int.reduceToNat, reduceLeDiff,  f31, f32, e2]
      refine W_if_f rfl ?_
      simp +contextual (maxSteps := 2000000) (disch := first | omega | (simp only [SZ]; first | done | omega) | (simp only [TS] at *; omega)) only [RZ, ovw, oneC, reduceAdd, reduceMul, reduceSub, reduceEqDiff, reduceLT, ↓reduceIte, Int.reduceToNat, reduceLeDiff,  f0, f6]
      exact ⟨hB2, _, _, rfl, ho2⟩
  rintro σ w2 ⟨f0, hB2, Ap, cp, f6, hop⟩
  have hF2 := hB1.trans (hB2.mono hz1)
  have hz2 := hF2.size
  have hcap : T.length ≤ cp := (owns_row hop hpos).choose_spec.2.2.2.1
  have hPar : Arr w2 Ap 1 ((partsT T).map fun s => [Value.string s]) := by
    obtain ⟨b, rfl, _, hr, _⟩ := owns_row hop hpos
    refine arr_row (T := 9) (Vs := (partsT T).map fun s => [Value.string s]) ?_ (by simp)
    have e : ∀ Q : List ByteArray, (Q.map fun s => [Value.string s]).flatten = Q.map Value.string := fun Q => by
      induction Q with
      | nil => rfl
      | cons s Q ih => rw [List.map_cons, List.flatten_cons, ih]; rfl
    rw [e, partsT, List.map_map]
    exact hr
  have hpl : (partsT T).length = T.length := List.length_map ..
  generalize hQ : partsT T = Q at *
  rw [← hpl] at f6 hcap
  have hJa : ∀ (w' : World), Below w2.heap.size w2 w' → Calls Tryd.prog 11 #[.slice Ap Q.length cp, .string ⟨#[9, 35, 59, 125, 10, 32]⟩] w' fun e w'' => e = .returned (.string (toBA (joinS (bs ⟨#[9, 35, 59, 125, 10, 32]⟩) Q))) ∧ Below w'.heap.size w' w'' :=
    fun w' hB => sjoin_any Q _ Ap cp w' (hPar.below hB) hcap (by omega) (by decide) (by omega)
  have hJb : ∀ (w' : World), Below w2.heap.size w2 w' → Calls Tryd.prog 11 #[.slice Ap Q.length cp, .string ⟨#[32]⟩] w' fun e w'' => e = .returned (.string (toBA (joinS (bs ⟨#[32]⟩) Q))) ∧ Below w'.heap.size w' w'' :=
    fun w' hB => sjoin_any Q _ Ap cp w' (hPar.below hB) hcap (by omega) (by decide) (by omega)
  have hs1 : (toBA (joinS (bs ⟨#[9, 35, 59, 125, 10, 32]⟩) Q)).size ≤ 32768 := by rw [← bs_len, bs_toBA (joinS_lt _ _)]; exact j1
  have hs2 : (toBA (joinS (bs ⟨#[32]⟩) Q)).size ≤ 32768 := by rw [← bs_len, bs_toBA (joinS_lt _ _)]; exact j2
  generalize toBA (joinS (bs ⟨#[9, 35, 59, 125, 10, 32]⟩) Q) = J1 at *
  generalize toBA (joinS (bs ⟨#[32]⟩) Q) = J2 at *
  clear hop hPar hArr hrt hown j1 j2 hI
  have hlit := parse_little s
  -- the first reading
  refine W_piece fun K hK hX => ?_
  simp +contextual (maxSteps := 2000000) (disch := first | omega | (simp only [SZ]; first | done | omega) | (simp only [TS] at *; omega)) only [RZ, ovw, oneC, reduceAdd, reduceMul, reduceSub, reduceEqDiff, reduceLT, ↓reduceIte, Int.reduceToNat, reduceLeDiff,  f0]
  refine (parse_any s w2 (by omega) (hW.below hF2 hw5) (by omega)).mono ?_
  rintro e w3 ⟨hB3, Va3, Vt3, rfl, hG3⟩
  refine ⟨_, rfl, ?_⟩
  generalize hPG : parseG s = PG at *
  obtain ⟨G, er, ln⟩ := PG
  dsimp only at hG3 hlit l1 l2 l3 l4 l5 ⊢
  have hF3 := hF2.trans (hB3.mono hz2)
  have hz3 := hF3.size
  obtain ⟨⟨Aa3, ca3, Vs3, rfl, _⟩, At3, ct3, rfl, _⟩ := id hG3
  simp only [gmV]
  simp +contextual (maxSteps := 2000000) (disch := first | omega | (simp only [SZ]; first | done | omega) | (simp only [TS] at *; omega)) only [RZ, ovw, oneC, reduceAdd, reduceMul, reduceSub, reduceEqDiff, reduceLT, ↓reduceIte, Int.reduceToNat, reduceLeDiff]
  refine hK _ _ ?_
  clear hK hX K
  refine W_gen fun w4 hw4 => ?_
  have hB4 : Below w3.heap.size w3 w4 := by rw [hw4]; exact below_alloc w3 _
  have q4 : Row w4 w3.heap.size 25 (gmV G (.slice Aa3 G.addons.length ca3) (.slice At3 G.tiers.length ct3)) := by rw [hw4]; exact Row.new w3 _ _
  clear hw4
  have hF4 := hF3.trans (hB4.mono hz3)
  have hz4 := hF4.size
  have hGa := hG3.below hB4
  have hB24 : Below w2.heap.size w2 w4 := hB3.trans (hB4.mono hB3.size)
  -- the second reading
  refine W_piece fun K hK hX => ?_
  simp +contextual (maxSteps := 2000000) (disch := first | omega | (simp only [SZ]; first | done | omega) | (simp only [TS] at *; omega)) only [RZ, ovw, oneC, reduceAdd, reduceMul, reduceSub, reduceEqDiff, reduceLT, ↓reduceIte, Int.reduceToNat, reduceLeDiff,  f6]
  refine (hJa w4 hB24).mono ?_
  rintro e w5 ⟨rfl, hB5⟩
  refine ⟨_, rfl, ?_⟩
  have hF5 := hF4.trans (hB5.mono hz4)
  have hz5 := hF5.size
  try simp +contextual (maxSteps := 2000000) (disch := first | omega | (simp only [SZ]; first | done | omega) | (simp only [TS] at *; omega)) only [RZ, ovw, oneC, reduceAdd, reduceMul, reduceSub, reduceEqDiff, reduceLT, ↓reduceIte, Int.reduceToNat, reduceLeDiff]
  refine (parse_any J1 w5 (by omega) (hW.below hF5 hw5) (by omega)).mono ?_
  rintro e w6 ⟨hB6, Va6, Vt6, rfl, hG6⟩
  refine ⟨_, rfl, ?_⟩
  rw [l1] at hG6 ⊢
  rw [l2]
  have hF6 := hF5.trans (hB6.mono hz5)
  have hz6 := hF6.size
  have q6 := (q4.below hB5).below hB6
  have hGb := (hGa.below hB5).below hB6
  obtain ⟨⟨Aa6, ca6, Vs6, rfl, _⟩, At6, ct6, rfl, _⟩ := id hG6
  simp only [gmV]
  simp +contextual (maxSteps := 2000000) (disch := first | omega | (simp only [SZ]; first | done | omega) | (simp only [TS] at *; omega)) only [RZ, ovw, oneC, reduceAdd, reduceMul, reduceSub, reduceEqDiff, reduceLT, ↓reduceIte, Int.reduceToNat, reduceLeDiff]
  refine hK _ _ ?_
  clear hK hX K
  refine W_gen fun w7 hw7 => ?_
  have hB7 : Below w6.heap.size w6 w7 := by rw [hw7]; exact below_alloc w6 _
  have p7 : Row w7 w6.heap.size 25 (gmV G (.slice Aa6 G.addons.length ca6) (.slice At6 G.tiers.length ct6)) := by rw [hw7]; exact Row.new w6 _ _
  clear hw7
  have hF7 := hF6.trans (hB7.mono hz6)
  have hz7 := hF7.size
  have q7 := q6.below hB7
  have hGc := hGb.below hB7
  have hGd := hG6.below hB7
  have hB27 : Below w2.heap.size w2 w7 := ((hB24.trans (hB5.mono hB24.size)).trans (hB6.mono (hB24.trans (hB5.mono hB24.size)).size)).trans (hB7.mono ((hB24.trans (hB5.mono hB24.size)).trans (hB6.mono (hB24.trans (hB5.mono hB24.size)).size)).size)
  -- the third reading
  refine W_piece fun K hK hX => ?_
  simp +contextual (maxSteps := 2000000) (disch := first | omega | (simp only [SZ]; first | done | omega) | (simp only [TS] at *; omega)) only [RZ, ovw, oneC, reduceAdd, reduceMul, reduceSub, reduceEqDiff, reduceLT, ↓reduceIte, Int.reduceToNat, reduceLeDiff,  f6]
  refine (hJb w7 hB27).mono ?_
  rintro e w8 ⟨rfl, hB8⟩
  refine ⟨_, rfl, ?_⟩
  have hF8 := hF7.trans (hB8.mono hz7)
  have hz8 := hF8.size
  try simp +contextual (maxSteps := 2000000) (disch := first | omega | (simp only [SZ]; first | done | omega) | (simp only [TS] at *; omega)) only [RZ, ovw, oneC, reduceAdd, reduceMul, reduceSub, reduceEqDiff, reduceLT, ↓reduceIte, Int.reduceToNat, reduceLeDiff]
  refine (parse_any J2 w8 (by omega) (hW.below hF8 hw5) (by omega)).mono ?_
  rintro e w9 ⟨hB9, Va9, Vt9, rfl, hG9⟩
  refine ⟨_, rfl, ?_⟩
  rw [l3] at hG9 ⊢
  rw [l4]
  have hF9 := hF8.trans (hB9.mono hz8)
  have hz9 := hF9.size
  have q9 := (q7.below hB8).below hB9
  have p9 := (p7.below hB8).below hB9
  have hGe := (hGc.below hB8).below hB9
  have hGf := (hGd.below hB8).below hB9
  obtain ⟨⟨Aa9, ca9, Vs9, rfl, _⟩, At9, ct9, rfl, _⟩ := id hG9
  generalize (parseG J2).2.2 = ln2 at *
  simp only [gmV]
  simp +contextual (maxSteps := 2000000) (disch := first | omega | (simp only [SZ]; first | done | omega) | (simp only [TS] at *; omega)) only [RZ, ovw, oneC, reduceAdd, reduceMul, reduceSub, reduceEqDiff, reduceLT, ↓reduceIte, Int.reduceToNat, reduceLeDiff]
  refine hK _ _ ?_
  clear hK hX K
  refine W_gen fun wA hwA => ?_
  have hBA : Below w9.heap.size w9 wA := by rw [hwA]; exact below_alloc w9 _
  have r1 : Row wA w9.heap.size 25 (gmV G (.slice Aa9 G.addons.length ca9) (.slice At9 G.tiers.length ct9)) := by rw [hwA]; exact Row.new w9 _ _
  clear hwA
  have hFA := hF9.trans (hBA.mono hz9)
  have hzA := hFA.size
  have qA := q9.below hBA
  have pA := p9.below hBA
  have hGg := hGe.below hBA
  have hGh := hGf.below hBA
  have hGi := hG9.below hBA
  have lA := load_game qA
  have lB := load_game pA
  clear hF2 hF3 hF4 hF5 hF6 hF7 hF8 hB3 hB4 hB5 hB6 hB7 hB8 hB9 hGa hGb hGc hGd hGe hGf
  refine W_piece fun K hK hX => ?_
  refine W_piece fun K2 hK2 hX2 => ?_
  simp +contextual (maxSteps := 2000000) (disch := first | omega | (simp only [SZ]; first | done | omega) | (simp only [TS] at *; omega)) only [RZ, ovw, oneC, reduceAdd, reduceMul, reduceSub, reduceEqDiff, reduceLT, ↓reduceIte, Int.reduceToNat, reduceLeDiff,  lA, lB]
  refine (same_any G _ _ _ _ wA hGg hGh hlit).mono ?_
  rintro e wB ⟨rfl, hBB⟩
  refine ⟨_, rfl, ?_⟩
  have hFB := hFA.trans (hBB.mono hzA)
  have hzB := hFB.size
  have dq : ∀ i v, (gmV G (.slice Aa3 G.addons.length ca3) (.slice At3 G.tiers.length ct3))[i]? = some v → wB.cell? ⟨w3.heap.size, i, none⟩ = some v := fun i v hv => (qA.below hBB).cell hv
  have dr : ∀ i v, (gmV G (.slice Aa9 G.addons.length ca9) (.slice At9 G.tiers.length ct9))[i]? = some v → wB.cell? ⟨w9.heap.size, i, none⟩ = some v := fun i v hv => (r1.below hBB).cell hv
  have q0q := dq 0 _ rfl
  have q1q := dq 1 _ rfl
  have q2q := dq 2 _ rfl
  have q3q := dq 3 _ rfl
  have q4q := dq 4 _ rfl
  have q5q := dq 5 _ rfl
  have q6q := dq 6 _ rfl
  have q7q := dq 7 _ rfl
  have q8q := dq 8 _ rfl
  have q9q := dq 9 _ rfl
  have q10q := dq 10 _ rfl
  have q11q := dq 11 _ rfl
  have q12q := dq 12 _ rfl
  have q13q := dq 13 _ rfl
  have q14q := dq 14 _ rfl
  have q15q := dq 15 _ rfl
  have q16q := dq 16 _ rfl
  have q17q := dq 17 _ rfl
  have q18q := dq 18 _ rfl
  have q19q := dq 19 _ rfl
  have q20q := dq 20 _ rfl
  have q21q := dq 21 _ rfl
  have r0r := dr 0 _ rfl
  have r1r := dr 1 _ rfl
  have r2r := dr 2 _ rfl
  have r3r := dr 3 _ rfl
  have r4r := dr 4 _ rfl
  have r5r := dr 5 _ rfl
  have r6r := dr 6 _ rfl
  have r7r := dr 7 _ rfl
  have r8r := dr 8 _ rfl
  have r9r := dr 9 _ rfl
  have r10r := dr 10 _ rfl
  have r11r := dr 11 _ rfl
  have r12r := dr 12 _ rfl
  have r13r := dr 13 _ rfl
  have r14r := dr 14 _ rfl
  have r15r := dr 15 _ rfl
  have r16r := dr 16 _ rfl
  have r17r := dr 17 _ rfl
  have r18r := dr 18 _ rfl
  have r19r := dr 19 _ rfl
  have r20r := dr 20 _ rfl
  have r21r := dr 21 _ rfl
  try simp +contextual (maxSteps := 2000000) (disch := first | omega | (simp only [SZ]; first | done | omega) | (simp only [TS] at *; omega)) only [RZ, ovw, oneC, reduceAdd, reduceMul, reduceSub, reduceEqDiff, reduceLT, ↓reduceIte, Int.reduceToNat, reduceLeDiff,  q0q, q1q, q2q, q3q, q4q, q5q, q6q, q7q, q8q, q9q, q10q, q11q, q12q, q13q, q14q, q15q, q16q, q17q, q18q, q19q, q20q, q21q, r0r, r1r, r2r, r3r, r4r, r5r, r6r, r7r, r8r, r9r, r10r, r11r, r12r, r13r, r14r, r15r, r16r, r17r, r18r, r19r, r20r, r21r]
  have hS2 := same_any G _ _ _ _ wB (hGg.below hBB) (hGi.below hBB) hlit
  simp only [gmV] at hS2
  refine hS2.mono ?_
  rintro e wC ⟨rfl, hBC⟩
  refine ⟨_, rfl, ?_⟩
  have hFC := hFB.trans (hBC.mono hzB)
  try simp +contextual (maxSteps := 2000000) (disch := first | omega | (simp only [SZ]; first | done | omega) | (simp only [TS] at *; omega)) only [RZ, ovw, oneC, reduceAdd, reduceMul, reduceSub, reduceEqDiff, reduceLT, ↓reduceIte, Int.reduceToNat, reduceLeDiff]
  refine hK2 _ _ ?_
  clear hK2 hX2 K2
  refine W_if_f rfl ?_
  rw [W_skip]
  refine hK _ _ ?_
  clear hK hX K
  refine W_piece fun K hK hX => ?_
  rcases l5 with ⟨e5, e6⟩ | ⟨e5, e6⟩
  · subst e5 e6
    simp +contextual (maxSteps := 2000000) (disch := first | omega | (simp only [SZ]; first | done | omega) | (simp only [TS] at *; omega)) only [RZ, ovw, oneC, reduceAdd, reduceMul, reduceSub, reduceEqDiff, reduceLT, ↓reduceIte, Int.reduceToNat, reduceLeDiff]
    refine hend wC hFC fun wD hFD => ?_
    refine ⟨_, rfl, ?_⟩
    try simp +contextual (maxSteps := 2000000) (disch := first | omega | (simp only [SZ]; first | done | omega) | (simp only [TS] at *; omega)) only [RZ, ovw, oneC, reduceAdd, reduceMul, reduceSub, reduceEqDiff, reduceLT, ↓reduceIte, Int.reduceToNat, reduceLeDiff]
    refine hK _ _ ?_
    clear hK hX K
    simp +contextual (maxSteps := 2000000) (disch := first | omega | (simp only [SZ]; first | done | omega) | (simp only [TS] at *; omega)) only [RZ, ovw, oneC, reduceAdd, reduceMul, reduceSub, reduceEqDiff, reduceLT, ↓reduceIte, Int.reduceToNat, reduceLeDiff]
    exact hFD
  · have e7 : (er = 0) = False := eq_false e5
    subst e6
    simp +contextual (maxSteps := 2000000) (disch := first | omega | (simp only [SZ]; first | done | omega) | (simp only [TS] at *; omega)) only [RZ, ovw, oneC, reduceAdd, reduceMul, reduceSub, reduceEqDiff, reduceLT, ↓reduceIte, Int.reduceToNat, reduceLeDiff,  e7]
    refine hend wC hFC fun wD hFD => ?_
    refine ⟨_, rfl, ?_⟩
    try simp +contextual (maxSteps := 2000000) (disch := first | omega | (simp only [SZ]; first | done | omega) | (simp only [TS] at *; omega)) only [RZ, ovw, oneC, reduceAdd, reduceMul, reduceSub, reduceEqDiff, reduceLT, ↓reduceIte, Int.reduceToNat, reduceLeDiff]
    refine hK _ _ ?_
    clear hK hX K
    simp +contextual (maxSteps := 2000000) (disch := first | omega | (simp only [SZ]; first | done | omega) | (simp only [TS] at *; omega)) only [RZ, ovw, oneC, reduceAdd, reduceMul, reduceSub, reduceEqDiff, reduceLT, ↓reduceIte, Int.reduceToNat, reduceLeDiff]
    exact hFD
end Go.Proofs.YtbdkggnajipdhaaDoor
/- From a contract to a row: the arguments are opened; behind the call they read as before, for nothing below has turned. -/
namespace Go.Proofs.YtbdkggnajipdhaaDoor
open Go.ChangeShapes Go.WideShapes Go.ChangeAt Go.RowKit Go.Joins Go.Deep
theorem ownNone : ownKnob Tryd.prog.godebug = none := by kernel_rfl
theorem laidAll : laidOutB Tryd.prog = true := by kernel_rfl
section
variable {H : Type} {enc : TypeId × Value → H} {P : Program} {W W' : World} {sp : Nat → Bool}
theorem trodAll_stay (hl : laidOutB P = true) : ∀ (ts : List TypeId) (vs : List Value) (ds : List (DataW H)) (ps : List MemPlace), (∀ t ∈ ts, P.readableRec t = true ∧ t < P.types.size) →
    DataW.TrodAll enc P W 0 (fun _ => true) true ts vs ds ps → (∀ p ∈ ps, W.sameAt W' p) → (∀ p ∈ ps, sp p.block = true) → DataW.TrodAll enc P W' 0 sp true ts vs ds ps
  | [], [], [], ps, _, h, _, _ => h
  | t :: ts, v :: vs, d :: ds, ps, ht, ⟨p, q, h1, h2, e⟩, hs, hp =>
    ⟨p, q, WideElems.Trod_stays hl (ht t (by simp)).1 (ht t (by simp)).2 h1 (fun x hx => hs x (by rw [e]; simp [hx])) (fun x hx => hp x (by rw [e]; simp [hx])),
      trodAll_stay hl ts vs ds q (fun t' h' => ht t' (by simp [h'])) h2 (fun x hx => hs x (by rw [e]; simp [hx])) (fun x hx => hp x (by rw [e]; simp [hx])), e⟩
  | [], _ :: _, _, _, _, h, _, _ => h.elim
  | [], [], _ :: _, _, _, h, _, _ => h.elim
  | _ :: _, [], _, _, _, h, _, _ => h.elim
  | _ :: _, _ :: _, [], _, _, h, _, _ => h.elim
/-- The closing of a law's row: true is returned, and nothing that was there has turned. -/
theorem row_close {f : Func} {s : ChangeSpec} {fid : FuncId} {args : Array Value} {ds gs : List (DataW H)} {before : List MemPlace} {tb : TypeId} (hl : laidOutB P = true)
    (hts : f.params.toList.all (fun t => P.readableRec t && decide (t < P.types.size)) = true) (hvars : s.vars = []) (hres : f.resultTypes = #[tb]) (hb : P.underlying tb = some .bool)
    (hW : DataW.Whole enc P f.params.toList s.vars false W args.toList ds gs before)
    (h1 : (s.fn H ds).results = [.lit (.bool true)]) (h2 : (s.fn H ds).args = ds) (h3 : (s.fn H ds).vars = [])
    (walk : Calls P fid args W fun e W' => e = .returned (.bool true) ∧ Below W.heap.size W W') :
    Calls P fid args W fun e W' => ∃ v, e = .returned v ∧ s.post enc P f false true false false W args v W' := by
  have ht : ∀ t ∈ f.params.toList, P.readableRec t = true ∧ t < P.types.size := fun t h => by simpa using List.all_eq_true.1 hts t h
  refine walk.mono fun e W' ⟨he, hg⟩ => ⟨_, he, ?_⟩
  have hW' := hW
  obtain ⟨p, q, hA, hV, e, hfz, hnd⟩ := hW
  rw [hvars] at hV
  obtain ⟨rfl, rfl⟩ := trodVars_none hV
  have hlt := hW'.lt
  rw [List.append_nil] at e
  subst e
  have hnil : ds ++ ([] : List (DataW H)) = ds := List.append_nil ds
  have res : ∀ (b : Nat) (sp : Nat → Bool) (hd : Bool), DataW.TrodAll enc P W' b sp hd f.resultTypes.toList ((Value.bool true).resultList f.resultTypes.size) (s.fn H (ds ++ [])).results [] := fun b sp hd => by
    rw [hnil, h1, hres]; exact trodAll_mk1 (shut_bool hb _)
  have arg : ∀ sp : Nat → Bool, (∀ x ∈ before, sp x.block = true) → DataW.TrodAll enc P W' 0 sp true f.params.toList args.toList (s.fn H (ds ++ [])).args before := fun sp hsp => by
    rw [hnil, h2]; exact trodAll_stay hl _ _ _ _ ht hA (fun x hx => hg.same (hlt x hx)) hsp
  have vars : ∀ sp : Nat → Bool, DataW.TrodVars enc P W' sp s.vars (s.fn H (ds ++ [])).vars [] := fun sp => by
    rw [hnil, h3, hvars]; rfl
  have old : ∀ x ∈ before, (fun b => decide (b < W.heap.size)) x.block = true := fun x hx => by simpa using hlt x hx
  exact ⟨ds, [], before, [], before, [], hW', res _ _ _, arg _ old, vars _, hg.frame _, fun h => by cases h⟩
end
end Go.Proofs.YtbdkggnajipdhaaDoor
/- Arguments of chapter 11: a game. -/
namespace Go.Proofs.YtbdkggnajipdhaaDoor
open Go.ChangeShapes Go.WideShapes Go.ChangeAt Go.RowKit Go.Joins Go.Deep
set_option maxRecDepth 100000
end Go.Proofs.YtbdkggnajipdhaaDoor
/- What the row says of the listed variables, as the walks ask it; the witness's world. -/
namespace Go.Proofs.YtbdkggnajipdhaaDoor
open Go.ChangeShapes Go.WideShapes Go.ChangeAt Go.WideMaps Go.WideElems Go.RowKit Go.Joins Go.Deep
set_option maxRecDepth 100000
def laidL : List (String × DataW Unit) := Rows.ruletextRoundTripsRow.laid
theorem days_data : (Rows.laid_lottery_ruletext_dayNames : DataW Unit) = .agg (dayW.map fun d => .lit (.string (d.map UInt8.ofNat))) := by kernel_rfl
theorem days_cells {W : World} {fuel : Nat} {cs : List Value} {p : List MemPlace} (h : DataW.trod (fun _ => ()) Tryd.prog W 0 (fun _ => true) false fuel 79 cs = some (Rows.laid_lottery_ruletext_dayNames, p)) :
    ∀ (i : Nat) (v : Value), dayC[i]? = some v → cs[i]? = some v := by
  rw [days_data] at h
  obtain ⟨xs, m, rfl, hx, hlen, hn, hel⟩ := DataW.trod_array Tryd.underlying79 h
  have hC : Tryd.prog.cellsOf 9 = 1 := by kernel_rfl
  rw [hC] at hel
  simp only [Prod.mk.injEq, DataW.agg.injEq] at hx
  intro i v hv
  unfold dayC at hv
  rw [List.getElem?_map] at hv
  obtain ⟨d, hd, rfl⟩ := Option.map_eq_some_iff.1 hv
  have hi : i < 7 := (List.getElem?_eq_some_iff.1 hd).1
  have h1 := hel i hi
  have h2 : (xs.map (·.1))[i]? = some (.lit (.string (d.map UInt8.ofNat))) := by rw [← hx.1, List.getElem?_map, hd]; rfl
  rw [List.getElem?_map] at h2
  obtain ⟨x, hxi, hx2⟩ := Option.map_eq_some_iff.1 h2
  rw [hxi] at h1
  obtain ⟨s1, e1, d1, _⟩ := DataW.trod_string Tryd.underlying9 h1
  subst d1
  simp only [DataW.lit.injEq, Lit.string.injEq] at hx2
  have t1 : s1 = toBA d := by
    apply ByteArray.ext; apply Array.ext'; rw [hx2]; rfl
  subst t1
  have := congrArg (·[0]?) e1
  simp only [List.getElem?_cons_zero] at this
  rw [List.getElem?_take_of_lt (by decide), List.getElem?_drop] at this
  simpa using this
theorem laid_of {W : World} (h : laidMetH Tryd.prog laidL W) : Laid W := by
  rw [MakeChecks.laidMetH_plain _ _ _ (by kernel_rfl)] at h
  obtain ⟨ps, hv, _⟩ := h
  obtain ⟨g0, t0, cs0, f0, p0, q0, hg0, ht0, hv0, hd0, hr0, _⟩ := hv
  obtain ⟨g1, t1, cs1, f1, p1, q1, hg1, ht1, hv1, hd1, hr1, _⟩ := hr0
  obtain ⟨g2, t2, cs2, f2, p2, q2, hg2, ht2, hv2, hd2, hr2, _⟩ := hr1
  obtain ⟨g3, t3, cs3, f3, p3, q3, hg3, ht3, hv3, hd3, hr3, _⟩ := hr2
  obtain rfl := Option.some.inj ((show Tryd.prog.globalNamed "math/bits.deBruijn64tab" = some 4 by kernel_rfl).symm.trans hg1)
  obtain rfl := Option.some.inj ((show Tryd.prog.globalNamed "internal/strconv.uint64pow10" = some 2 by kernel_rfl).symm.trans hg2)
  obtain rfl := Option.some.inj ((show Tryd.prog.globalNamed "lottery/ruletext.dayNames" = some 0 by kernel_rfl).symm.trans hg3)
  obtain rfl := Option.some.inj ((show (Tryd.prog.globals[2]?).map (·.type) = some 119 by kernel_rfl).symm.trans ht2)
  obtain rfl := Option.some.inj ((show (Tryd.prog.globals[0]?).map (·.type) = some 79 by kernel_rfl).symm.trans ht3)
  refine ⟨?_, fun i v hi => ?_, ?_⟩
  · have : W.heap[4]?.isSome = true := by
      unfold World.var? at hv1
      rw [hg1] at hv1
      simp only [Option.bind_some] at hv1
      cases hh : W.heap[4]? with
      | none => rw [hh] at hv1; simp at hv1
      | some o => rfl
    obtain ⟨o, ho⟩ := Option.isSome_iff_exists.1 this
    exact (Array.getElem?_eq_some_iff.1 ho).1
  · rw [World.var?_cell hg3 hv3 i]
    have := days_cells hd3 i v hi
    simpa using this
  · have hc := Lib.cells_of_tab (k := .u64) (zs := Lib.pow10Tab) Tryd.underlying119 Tryd.underlying112 (by kernel_rfl) (by kernel_rfl) (show DataW.trod _ _ _ _ _ _ _ _ _ = some (Lib.tabData .u64 Lib.pow10Tab, p2) from hd2)
    unfold Lib.TabIs
    rw [hv2, ← hc]
/-- The door's own heap meets the condition. -/
theorem door_met (os : Os) (args : Array Value) : laidMetH Tryd.prog laidL ((World.doorLaid Tryd.prog 4000 os).forCall (fun _ _ => 0) ⟨#[], args, []⟩).memory :=
  laidMetH_of_parts3 (fuel := 8) (laidMet_of_run' 8 (by kernel_rfl) (by kernel_rfl)) (by kernel_rfl) (by kernel_rfl)
end Go.Proofs.YtbdkggnajipdhaaDoor
