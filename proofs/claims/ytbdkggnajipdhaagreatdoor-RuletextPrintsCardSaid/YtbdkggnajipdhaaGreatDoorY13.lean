/- Texts laid one behind the other: PbB, PbC, PbD, PbE. Each says at its head what it proves. -/
import Derived.Test.YtbdkggnajipdhaaGreatDoorY12
set_option linter.unusedSimpArgs false
/- Walks: the printer's methods: require, write, begin, end, numbers, name, option, hits; num.Format. -/
namespace Go.Proofs.YtbdkggnajipdhaaGreatDoor
open Go.RowKit
set_option maxRecDepth 100000
def nR (n : Int) : Prop := -9223372036854775808 ≤ n ∧ n ≤ 9223372036854775807
def fmtB (n : Int) : ByteArray := ⟨(Lib.itoa n).toArray⟩
theorem bs_fmtB (n : Int) : bs (fmtB n) = fmtI n := rfl
theorem format_any (n : Int) (w : World) (hL : Laid w) (hn : nR n) : Calls Tryz.prog 121 #[.int .i64 n] w fun e w' => e = .returned (.string (fmtB n)) ∧ Below w.heap.size w w' := by
  refine calls_W (l := [_]) Tryz.func121 rfl _ Tryz.ntmps121 (by simp) ?_
  simp +contextual (maxSteps := 2000000) (disch := (first | omega | (simp only [SZ]; first | done | omega) | (simp only [TS] at *; omega))) only [RZ, ovw, oneC, Nat.reduceAdd, Nat.reduceMul, Nat.reduceSub, Nat.reduceEqDiff, Nat.reduceLT, ↓reduceIte, Int.reduceToNat, Nat.reduceLeDiff]
  refine (Tryz.strconv_Itoa n hn.1 hn.2 w hL.pow).mono ?_
  rintro e w1 ⟨rfl, k, os, rfl⟩
  refine ⟨_, rfl, ?_⟩
  simp +contextual (maxSteps := 2000000) (disch := (first | omega | (simp only [SZ]; first | done | omega) | (simp only [TS] at *; omega))) only [RZ, ovw, oneC, Nat.reduceAdd, Nat.reduceMul, Nat.reduceSub, Nat.reduceEqDiff, Nat.reduceLT, ↓reduceIte, Int.reduceToNat, Nat.reduceLeDiff]
  exact ⟨rfl, Lib.below_grow _ w (Nat.le_refl _) k os⟩
theorem Laid.kb {g : Nat} {w w' : World} (h : Laid w) (k : KB g w w') (hg : 9 ≤ g) : Laid w' := h.below k.1 (by omega)
section
variable {g : Nat} {w : World} {p : Pr}
/-- How texts grow. -/
theorem add_len (p : Pr) (l : List Nat) : (p.add l).X.length = p.X.length + l.length := by unfold Pr.add; rw [List.length_append]
theorem ws_len (p : Pr) (l : List (List Nat)) : (p.ws l).X.length = p.X.length + (l.flatMap (32 :: ·)).length := add_len p _
theorem fit_len {n : Int} (h : fitB n = true) : (fmtI n).length ≤ 18 := by
  rw [fmt_dec h]; exact dec_len (fit_nat h).2
theorem pbRequire_any (h : PbIn g w p) (b : Bool) : Calls Tryz.prog 37 #[.pointer (some ⟨g, 0, none⟩), .bool b] w fun e w' => e = .returned (.tuple #[]) ∧ PbIn g w' (p.req b) ∧ KB g w w' := by
  refine calls_W (l := [_, _]) Tryz.func37 rfl _ Tryz.ntmps37 (by simp) ?_
  obtain ⟨q, A, c, h⟩ := h
  cases b with
  | true =>
    refine W_piece fun K hK hX => ?_
    simp +contextual (maxSteps := 2000000) (disch := (first | omega | (simp only [SZ]; first | done | omega) | (simp only [TS] at *; omega))) only [RZ, ovw, oneC, Nat.reduceAdd, Nat.reduceMul, Nat.reduceSub, Nat.reduceEqDiff, Nat.reduceLT, ↓reduceIte, Int.reduceToNat, Nat.reduceLeDiff]
    refine hK _ _ ?_
    clear hK hX K
    refine W_if_f rfl ?_
    simp +contextual (maxSteps := 2000000) (disch := (first | omega | (simp only [SZ]; first | done | omega) | (simp only [TS] at *; omega))) only [RZ, ovw, oneC, Nat.reduceAdd, Nat.reduceMul, Nat.reduceSub, Nat.reduceEqDiff, Nat.reduceLT, ↓reduceIte, Int.reduceToNat, Nat.reduceLeDiff]
    refine ⟨⟨q, A, c, ?_⟩, KB.refl _ _⟩
    have : p.req true = p := by unfold Pr.req; rw [Bool.not_true, Bool.or_false]
    rw [this]; exact h
  | false =>
    refine W_piece fun K hK hX => ?_
    simp +contextual (maxSteps := 2000000) (disch := (first | omega | (simp only [SZ]; first | done | omega) | (simp only [TS] at *; omega))) only [RZ, ovw, oneC, Nat.reduceAdd, Nat.reduceMul, Nat.reduceSub, Nat.reduceEqDiff, Nat.reduceLT, ↓reduceIte, Int.reduceToNat, Nat.reduceLeDiff]
    refine hK _ _ ?_
    clear hK hX K
    refine W_if_t rfl ?_
    have c2 := h.row.cell (i := 2) rfl
    have z2 := h.row.frozen 2
    simp +contextual (maxSteps := 2000000) (disch := (first | omega | (simp only [SZ]; first | done | omega) | (simp only [TS] at *; omega))) only [RZ, ovw, oneC, Nat.reduceAdd, Nat.reduceMul, Nat.reduceSub, Nat.reduceEqDiff, Nat.reduceLT, ↓reduceIte, Int.reduceToNat, Nat.reduceLeDiff,  c2, z2]
    refine ⟨⟨q, A, c, ?_⟩, (Below.refl _ w).setCell (p := ⟨g, 2, none⟩) (Nat.le_refl _) _, Keeps.setCell _ _ _ _⟩
    have : p.req false = ⟨p.X, true⟩ := by unfold Pr.req; rw [Bool.not_false, Bool.or_true]
    rw [this]; exact bad_set h true
theorem pbWrite_any {L : List ByteArray} {A : Option Addr} {c : Nat} (h : PbIn g w p) (hA : ∀ w', KB g w w' → Arr w' A 1 (L.map fun s => [Value.string s])) (hl : L.length ≤ 1000) (hlen : (p.ws (L.map bs)).X.length ≤ 900000000) :
    Calls Tryz.prog 73 #[.pointer (some ⟨g, 0, none⟩), .slice A L.length c] w fun e w' => e = .returned (.tuple #[]) ∧ PbIn g w' (p.ws (L.map bs)) ∧ KB g w w' := by
  refine calls_W (l := [_, _]) Tryz.func73 rfl _ Tryz.ntmps73 (by simp) ?_
  rw [ws_len] at hlen
  refine W_cutS (fun σ w1 => σ 0 = .pointer (some ⟨g, 0, none⟩) ∧ PbIn g w1 (p.add ((L.map bs).flatMap (32 :: ·))) ∧ KB g w w1) ?_ ?_
  · rintro σ w1 ⟨f0, h1, k1⟩
    simp +contextual (maxSteps := 2000000) (disch := (first | omega | (simp only [SZ]; first | done | omega) | (simp only [TS] at *; omega))) only [RZ, ovw, oneC, Nat.reduceAdd, Nat.reduceMul, Nat.reduceSub, Nat.reduceEqDiff, Nat.reduceLT, ↓reduceIte, Int.reduceToNat, Nat.reduceLeDiff,  f0]
    refine (pbLen_any h1).mono ?_
    rintro e w2 ⟨rfl, rfl⟩
    refine ⟨_, rfl, ?_⟩
    have hln : (p.add ((L.map bs).flatMap (32 :: ·))).X.length = p.X.length + ((L.map bs).flatMap (32 :: ·)).length := add_len _ _
    have hd : (((p.add ((L.map bs).flatMap (32 :: ·))).X.length : Int) ≤ 32768) = ((p.add ((L.map bs).flatMap (32 :: ·))).X.length ≤ 32768) := by
      apply propext; omega
    simp +contextual (maxSteps := 2000000) (disch := (first | omega | (simp only [SZ]; first | done | omega) | (simp only [TS] at *; omega))) only [RZ, ovw, oneC, Nat.reduceAdd, Nat.reduceMul, Nat.reduceSub, Nat.reduceEqDiff, Nat.reduceLT, ↓reduceIte, Int.reduceToNat, Nat.reduceLeDiff,  f0]
    rw [show decide (((p.add ((L.map bs).flatMap (32 :: ·))).X.length : Int) ≤ 32768) = decide ((p.add ((L.map bs).flatMap (32 :: ·))).X.length ≤ 32768) by simp only [hd]]
    refine (pbRequire_any h1 _).mono ?_
    rintro e w2 ⟨rfl, h2, k2⟩
    refine ⟨_, rfl, ?_⟩
    simp +contextual (maxSteps := 2000000) (disch := (first | omega | (simp only [SZ]; first | done | omega) | (simp only [TS] at *; omega))) only [RZ, ovw, oneC, Nat.reduceAdd, Nat.reduceMul, Nat.reduceSub, Nat.reduceEqDiff, Nat.reduceLT, ↓reduceIte, Int.reduceToNat, Nat.reduceLeDiff]
    exact ⟨h2, k1.trans k2⟩
  · refine W_piece fun K hK hX => ?_
    simp +contextual (maxSteps := 2000000) (disch := (first | omega | (simp only [SZ]; first | done | omega) | (simp only [TS] at *; omega))) only [RZ, ovw, oneC, Nat.reduceAdd, Nat.reduceMul, Nat.reduceSub, Nat.reduceEqDiff, Nat.reduceLT, ↓reduceIte, Int.reduceToNat, Nat.reduceLeDiff]
    refine hK _ _ ?_
    clear hK hX K
    rw [W_block, W_loop]
    refine Raw_loop (fun σ w1 => ∃ k : Nat, k ≤ L.length ∧ PbIn g w1 (p.add (((L.take k).map bs).flatMap (32 :: ·))) ∧ KB g w w1 ∧ σ 0 = .pointer (some ⟨g, 0, none⟩) ∧ σ 6 = .slice A L.length c ∧ σ 7 = .int .i64 L.length ∧ σ 8 = .int .i64 k) (fun σ _ => L.length - (intOf (σ 8)).toNat) ?_ ?_
    · exact ⟨0, Nat.zero_le _, by rw [List.take_zero, List.map_nil, List.flatMap_nil, Pr.add_nil]; exact h, KB.refl _ _, rfl, rfl, rfl, rfl⟩
    rintro σ w1 ⟨k, hk, h1, k1, f0, f6, f7, f8⟩ K hK
    simp +contextual (maxSteps := 2000000) (disch := (first | omega | (simp only [SZ]; first | done | omega) | (simp only [TS] at *; omega))) only [RZ, ovw, oneC, Nat.reduceAdd, Nat.reduceMul, Nat.reduceSub, Nat.reduceEqDiff, Nat.reduceLT, ↓reduceIte, Int.reduceToNat, Nat.reduceLeDiff,  f0, f6, f7, f8]
    (refine W_if rfl (fun hc => ?_) (fun hc => ?_) <;> (try simp only [TS] at hc))
    · obtain ⟨s, hsk⟩ : ∃ s, L[k]? = some s := ⟨_, List.getElem?_eq_getElem (by omega)⟩
      obtain ⟨b, o, rfl, hb, hcell⟩ := (hA w1 k1).at_ (enc := fun s => [Value.string s]) hsk
      have l0 := hcell 0 _ rfl
      rw [Nat.add_zero, Nat.mul_one] at l0
      have hmem : s ∈ L := List.mem_of_getElem? hsk
      have htk : ((L.take (k + 1)).map bs).flatMap (32 :: ·) = ((L.take k).map bs).flatMap (32 :: ·) ++ 32 :: bs s := by
        rw [List.take_add_one, hsk]
        simp
      have hle : (((L.take (k + 1)).map bs).flatMap (32 :: ·)).length ≤ ((L.map bs).flatMap (32 :: ·)).length := by
        conv => rhs; rw [← List.take_append_drop (k + 1) L, List.map_append, List.flatMap_append, List.length_append]
        omega
      rw [htk, List.length_append, List.length_cons, bs_len] at hle
      have hl1 := add_len p (((L.take k).map bs).flatMap (32 :: ·))
      simp +contextual (maxSteps := 2000000) (disch := (first | omega | (simp only [SZ]; first | done | omega) | (simp only [TS] at *; omega))) only [RZ, ovw, oneC, Nat.reduceAdd, Nat.reduceMul, Nat.reduceSub, Nat.reduceEqDiff, Nat.reduceLT, ↓reduceIte, Int.reduceToNat, Nat.reduceLeDiff,  f0, f6, f7, f8, l0]
      refine (pbByte_any h1 32 (by omega) (by omega)).mono ?_
      rintro e w2 ⟨rfl, h2, k2⟩
      refine ⟨_, rfl, ?_⟩
      rw [Pr.add_add] at h2
      have hl2 := add_len p (((L.take k).map bs).flatMap (32 :: ·) ++ [32])
      rw [List.length_append, List.length_singleton] at hl2
      try simp +contextual (maxSteps := 2000000) (disch := (first | omega | (simp only [SZ]; first | done | omega) | (simp only [TS] at *; omega))) only [RZ, ovw, oneC, Nat.reduceAdd, Nat.reduceMul, Nat.reduceSub, Nat.reduceEqDiff, Nat.reduceLT, ↓reduceIte, Int.reduceToNat, Nat.reduceLeDiff,  f0, f6, f7, f8]
      refine (pbStr_any h2 s (by omega)).mono ?_
      rintro e w3 ⟨rfl, h3, k3⟩
      refine ⟨_, rfl, ?_⟩
      rw [Pr.add_add, List.append_assoc, List.singleton_append, ← htk] at h3
      try simp +contextual (maxSteps := 2000000) (disch := (first | omega | (simp only [SZ]; first | done | omega) | (simp only [TS] at *; omega))) only [RZ, ovw, oneC, Nat.reduceAdd, Nat.reduceMul, Nat.reduceSub, Nat.reduceEqDiff, Nat.reduceLT, ↓reduceIte, Int.reduceToNat, Nat.reduceLeDiff,  f0, f6, f7, f8]
      refine hK _ _ ⟨k + 1, by omega, h3, (k1.trans k2).trans k3, ?_⟩ ?_
      · simp +contextual (maxSteps := 2000000) (disch := (first | omega | (simp only [SZ]; first | done | omega) | (simp only [TS] at *; omega))) only [RZ, ovw, oneC, Nat.reduceAdd, Nat.reduceMul, Nat.reduceSub, Nat.reduceEqDiff, Nat.reduceLT, ↓reduceIte, Int.reduceToNat, Nat.reduceLeDiff,  f0, f6, f7, f8]
      · simp +contextual (maxSteps := 2000000) (disch := (first | omega | (simp only [SZ]; first | done | omega) | (simp only [TS] at *; omega))) only [RZ, ovw, oneC, Nat.reduceAdd, Nat.reduceMul, Nat.reduceSub, Nat.reduceEqDiff, Nat.reduceLT, ↓reduceIte, Int.reduceToNat, Nat.reduceLeDiff,  intOf, f8]
        omega
    · have hkl : k = L.length := by omega
      subst hkl
      rw [List.take_length] at h1
      simp +contextual (maxSteps := 2000000) (disch := (first | omega | (simp only [SZ]; first | done | omega) | (simp only [TS] at *; omega))) only [RZ, ovw, oneC, Nat.reduceAdd, Nat.reduceMul, Nat.reduceSub, Nat.reduceEqDiff, Nat.reduceLT, ↓reduceIte, Int.reduceToNat, Nat.reduceLeDiff,  f0, f6, f7, f8]
      exact ⟨h1, k1⟩
/-- One new cell row is kept by the printer's steps. -/
theorem arr_new {Ty : TypeId} {Ls : List (List Value)} {b : Nat} (hR : Row w b Ty Ls.flatten) (hb : b ≠ g) (hT : Ty ≠ 5) (hl : ∀ v ∈ Ls, v.length = 1) : ∀ w', KB g w w' → Arr w' (some ⟨b, 0, none⟩) 1 Ls := fun w' k => by
  have h := hR.kb k hb hT
  intro hn
  refine ⟨b, 0, rfl, h.lt, fun i l hi j v hv => h.cell ?_⟩
  have key : ∀ (Vs : List (List Value)) (i : Nat), (∀ v ∈ Vs, v.length = 1) → Vs[i]? = some l → Vs.flatten[0 + i * 1 + j]? = some v := by
    intro Vs
    induction Vs with
    | nil => intro i _ h; simp at h
    | cons x r ih =>
      intro i hl hi
      rw [List.flatten_cons]
      have hx := hl x (by simp)
      cases i with
      | zero =>
        simp only [List.getElem?_cons_zero, Option.some.injEq] at hi
        subst hi
        have hj := (List.getElem?_eq_some_iff.1 hv).1
        rw [List.getElem?_append_left (by omega), show 0 + 0 * 1 + j = j by omega]
        exact hv
      | succ i =>
        rw [List.getElem?_cons_succ] at hi
        have := ih i (fun v hv => hl v (by simp [hv])) hi
        rw [List.getElem?_append_right (by omega), hx, show 0 + (i + 1) * 1 + j - 1 = 0 + i * 1 + j by omega]
        exact this
  exact key Ls i hl hi
/-- Words of a literal list. -/
theorem pbWords_any (h : PbIn g w p) (L : List ByteArray) (hl : L.length ≤ 1000) (hlen : (p.ws (L.map bs)).X.length ≤ 900000000) :
    Calls Tryz.prog 73 #[.pointer (some ⟨g, 0, none⟩), .slice (some ⟨w.heap.size, 0, none⟩) L.length L.length] (w.alloc (.cells (L.map Value.string).toArray 9)) fun e w' => e = .returned (.tuple #[]) ∧ PbIn g w' (p.ws (L.map bs)) ∧ KB g w w' := by
  have hlt := h.lt
  have hR := Row.new w 9 (L.map Value.string)
  have e1 : ∀ L : List ByteArray, (L.map fun s => [Value.string s]).flatten = L.map Value.string := fun L => by
    induction L with
    | nil => rfl
    | cons s r ih => rw [List.map_cons, List.flatten_cons, ih]; rfl
  rw [← e1 L] at hR
  rw [e1 L] at hR
  refine (pbWrite_any (L := L) (h.alloc _) (arr_new (by rw [e1 L]; exact hR) (by omega) (by decide) (fun v hv => by obtain ⟨s, _, rfl⟩ := List.mem_map.1 hv; rfl)) hl hlen).mono ?_
  rintro e w' ⟨h1, h2, h3⟩
  exact ⟨h1, h2, ((KB.refl g w).alloc (by omega) _).trans h3⟩
theorem pbBegin_any (h : PbIn g w p) (s : ByteArray) (hlen : p.X.length + s.size ≤ 800000000) : Calls Tryz.prog 74 #[.pointer (some ⟨g, 0, none⟩), .string s] w fun e w' => e = .returned (.tuple #[]) ∧ PbIn g w' (p.begin (bs s)) ∧ KB g w w' := by
  refine calls_W (l := [_, _]) Tryz.func74 rfl _ Tryz.ntmps74 (by simp) ?_
  refine W_piece fun K hK hX => ?_
  simp +contextual (maxSteps := 2000000) (disch := (first | omega | (simp only [SZ]; first | done | omega) | (simp only [TS] at *; omega))) only [RZ, ovw, oneC, Nat.reduceAdd, Nat.reduceMul, Nat.reduceSub, Nat.reduceEqDiff, Nat.reduceLT, ↓reduceIte, Int.reduceToNat, Nat.reduceLeDiff]
  refine (pbByte_any h 32 (by omega) (by omega)).mono ?_
  rintro e w1 ⟨rfl, h1, k1⟩
  refine ⟨_, rfl, ?_⟩
  try simp +contextual (maxSteps := 2000000) (disch := (first | omega | (simp only [SZ]; first | done | omega) | (simp only [TS] at *; omega))) only [RZ, ovw, oneC, Nat.reduceAdd, Nat.reduceMul, Nat.reduceSub, Nat.reduceEqDiff, Nat.reduceLT, ↓reduceIte, Int.reduceToNat, Nat.reduceLeDiff]
  refine hK _ _ ?_
  clear hK hX K
  simp +contextual (maxSteps := 2000000) (disch := (first | omega | (simp only [SZ]; first | done | omega) | (simp only [TS] at *; omega))) only [RZ, ovw, oneC, Nat.reduceAdd, Nat.reduceMul, Nat.reduceSub, Nat.reduceEqDiff, Nat.reduceLT, ↓reduceIte, Int.reduceToNat, Nat.reduceLeDiff]
  have hl1 := ws_len (p.add [32]) ([s].map bs)
  rw [add_len] at hl1
  simp only [List.map_cons, List.map_nil, List.flatMap_cons, List.flatMap_nil, List.append_nil, List.length_cons, List.length_nil, bs_len] at hl1
  refine (pbWords_any h1 [s] (by simp) (by simp only [List.map_cons, List.map_nil]; omega)).mono ?_
  rintro e w2 ⟨rfl, h2, k2⟩
  refine ⟨_, rfl, ?_⟩
  simp +contextual (maxSteps := 2000000) (disch := (first | omega | (simp only [SZ]; first | done | omega) | (simp only [TS] at *; omega))) only [RZ, ovw, oneC, Nat.reduceAdd, Nat.reduceMul, Nat.reduceSub, Nat.reduceEqDiff, Nat.reduceLT, ↓reduceIte, Int.reduceToNat, Nat.reduceLeDiff]
  exact ⟨h2, k1.trans k2⟩
theorem pbEnd_any (h : PbIn g w p) (hlen : p.X.length ≤ 800000000) : Calls Tryz.prog 76 #[.pointer (some ⟨g, 0, none⟩)] w fun e w' => e = .returned (.tuple #[]) ∧ PbIn g w' p.fin ∧ KB g w w' := by
  refine calls_W (l := [_]) Tryz.func76 rfl _ Tryz.ntmps76 (by simp) ?_
  refine W_piece fun K hK hX => ?_
  simp +contextual (maxSteps := 2000000) (disch := (first | omega | (simp only [SZ]; first | done | omega) | (simp only [TS] at *; omega))) only [RZ, ovw, oneC, Nat.reduceAdd, Nat.reduceMul, Nat.reduceSub, Nat.reduceEqDiff, Nat.reduceLT, ↓reduceIte, Int.reduceToNat, Nat.reduceLeDiff]
  refine (pbStr_any h ⟨#[59, 10]⟩ (by rw [ba_lit]; simp; omega)).mono ?_
  rintro e w1 ⟨rfl, h1, k1⟩
  refine ⟨_, rfl, ?_⟩
  rw [show bs ⟨#[59, 10]⟩ = asc ";\n" by decide +kernel] at h1
  try simp +contextual (maxSteps := 2000000) (disch := (first | omega | (simp only [SZ]; first | done | omega) | (simp only [TS] at *; omega))) only [RZ, ovw, oneC, Nat.reduceAdd, Nat.reduceMul, Nat.reduceSub, Nat.reduceEqDiff, Nat.reduceLT, ↓reduceIte, Int.reduceToNat, Nat.reduceLeDiff]
  refine hK _ _ ?_
  clear hK hX K
  simp +contextual (maxSteps := 2000000) (disch := (first | omega | (simp only [SZ]; first | done | omega) | (simp only [TS] at *; omega))) only [RZ, ovw, oneC, Nat.reduceAdd, Nat.reduceMul, Nat.reduceSub, Nat.reduceEqDiff, Nat.reduceLT, ↓reduceIte, Int.reduceToNat, Nat.reduceLeDiff]
  refine (pbLen_any h1).mono ?_
  rintro e w2 ⟨rfl, rfl⟩
  refine ⟨_, rfl, ?_⟩
  have hd : (((p.add (asc ";\n")).X.length : Int) ≤ 32768) = ((p.add (asc ";\n")).X.length ≤ 32768) := by
    apply propext; omega
  try simp +contextual (maxSteps := 2000000) (disch := (first | omega | (simp only [SZ]; first | done | omega) | (simp only [TS] at *; omega))) only [RZ, ovw, oneC, Nat.reduceAdd, Nat.reduceMul, Nat.reduceSub, Nat.reduceEqDiff, Nat.reduceLT, ↓reduceIte, Int.reduceToNat, Nat.reduceLeDiff]
  rw [show decide (((p.add (asc ";\n")).X.length : Int) ≤ 32768) = decide ((p.add (asc ";\n")).X.length ≤ 32768) by simp only [hd]]
  refine (pbRequire_any h1 _).mono ?_
  rintro e w3 ⟨rfl, h2, k2⟩
  refine ⟨_, rfl, ?_⟩
  simp +contextual (maxSteps := 2000000) (disch := (first | omega | (simp only [SZ]; first | done | omega) | (simp only [TS] at *; omega))) only [RZ, ovw, oneC, Nat.reduceAdd, Nat.reduceMul, Nat.reduceSub, Nat.reduceEqDiff, Nat.reduceLT, ↓reduceIte, Int.reduceToNat, Nat.reduceLeDiff]
  exact ⟨h2, k1.trans k2⟩
theorem nums_cons (p : Pr) (n : Int) (r : List Int) : p.nums (n :: r) = if (p.req (fitB n)).bad then p.req (fitB n) else ((p.req (fitB n)).ws [fmtI n]).nums r := rfl
theorem ws_ok {p : Pr} {l : List (List Nat)} (h : (p.ws l).bad = false) : (p.ws l).X.length ≤ 32768 := by
  unfold Pr.ws Pr.lim Pr.req at h
  simp only [Bool.or_eq_false_iff, Bool.not_eq_false', decide_eq_true_eq] at h
  exact h.2
theorem nums_max : ∀ (L : List Int) (p : Pr), (p.nums L).X.length ≤ max p.X.length 32768 + 19
  | [], p => by show p.X.length ≤ _; omega
  | n :: r, p => by
    unfold Pr.nums
    split
    · show p.X.length ≤ _; omega
    · rename_i hb
      have hb' := hb
      unfold Pr.req at hb'
      simp only [Bool.not_eq_true, Bool.or_eq_false_iff, Bool.not_eq_false'] at hb'
      have hf := fit_len hb'.2
      have hq : ((p.req (fitB n)).ws [fmtI n]).X.length = p.X.length + (1 + (fmtI n).length) := by
        rw [ws_len]
        show p.X.length + _ = _
        simp; omega
      have ih := nums_max r ((p.req (fitB n)).ws [fmtI n])
      by_cases hbig : ((p.req (fitB n)).ws [fmtI n]).bad = true
      · have hdead : ∀ (r : List Int) (q : Pr), q.bad = true → (q.nums r).X = q.X := by
          intro r
          cases r with
          | nil => intro q _; rfl
          | cons m r =>
            intro q hq
            unfold Pr.nums
            have : (q.req (fitB m)).bad = true := by unfold Pr.req; rw [hq]; rfl
            rw [if_pos this]
            rfl
        rw [hdead r _ hbig, hq]
        omega
      · have : ((p.req (fitB n)).ws [fmtI n]).X.length ≤ 32768 := by
          have hb2 : ((p.req (fitB n)).ws [fmtI n]).bad = false := by simpa using hbig
          unfold Pr.ws Pr.lim at hb2
          unfold Pr.req at hb2
          simp only [Bool.or_eq_false_iff, Bool.not_eq_false', decide_eq_true_eq] at hb2
          exact hb2.2
        omega
theorem pbNumbers_any {L : List Int} {A : Option Addr} {c : Nat} (h : PbIn g w p) (hA : ∀ w', KB g w w' → Arr w' A 1 (L.map fun n => [Value.int .i64 n])) (hW : Laid w) (hg : 9 ≤ g) (hl : L.length ≤ 1000000000) (hlen : p.X.length ≤ 700000000) :
    Calls Tryz.prog 75 #[.pointer (some ⟨g, 0, none⟩), .slice A L.length c] w fun e w' => e = .returned (.tuple #[]) ∧ PbIn g w' (p.nums L) ∧ KB g w w' := by
  refine calls_W (l := [_, _]) Tryz.func75 rfl _ Tryz.ntmps75 (by simp) ?_
  refine W_piece fun K hK hX => ?_
  simp +contextual (maxSteps := 2000000) (disch := (first | omega | (simp only [SZ]; first | done | omega) | (simp only [TS] at *; omega))) only [RZ, ovw, oneC, Nat.reduceAdd, Nat.reduceMul, Nat.reduceSub, Nat.reduceEqDiff, Nat.reduceLT, ↓reduceIte, Int.reduceToNat, Nat.reduceLeDiff]
  refine hK _ _ ?_
  clear hK hX K
  rw [W_block, W_loop]
  refine Raw_loop (fun σ w1 => ∃ (k : Nat) (pk : Pr), k ≤ L.length ∧ PbIn g w1 pk ∧ pk.nums (L.drop k) = p.nums L ∧ pk.X.length ≤ max p.X.length 32768 + 19 ∧ (pk.bad = false → pk.X.length ≤ max p.X.length 32768) ∧ KB g w w1 ∧ σ 0 = .pointer (some ⟨g, 0, none⟩) ∧ σ 6 = .slice A L.length c ∧ σ 7 = .int .i64 L.length ∧ σ 8 = .int .i64 k) (fun σ _ => L.length - (intOf (σ 8)).toNat) ?_ ?_
  · exact ⟨0, p, Nat.zero_le _, h, by rw [List.drop_zero], by omega, fun _ => by omega, KB.refl _ _, rfl, rfl, rfl, rfl⟩
  rintro σ w1 ⟨k, pk, hk, h1, hn1, hx1, hx0, k1, f0, f6, f7, f8⟩ K hK
  simp +contextual (maxSteps := 2000000) (disch := (first | omega | (simp only [SZ]; first | done | omega) | (simp only [TS] at *; omega))) only [RZ, ovw, oneC, Nat.reduceAdd, Nat.reduceMul, Nat.reduceSub, Nat.reduceEqDiff, Nat.reduceLT, ↓reduceIte, Int.reduceToNat, Nat.reduceLeDiff,  f0, f6, f7, f8]
  (refine W_if rfl (fun hc => ?_) (fun hc => ?_) <;> (try simp only [TS] at hc))
  · obtain ⟨n, hnk⟩ : ∃ n, L[k]? = some n := ⟨_, List.getElem?_eq_getElem (by omega)⟩
    obtain ⟨b, o, rfl, hb, hcell⟩ := (hA w1 k1).at_ (enc := fun n => [Value.int .i64 n]) hnk
    have l0 := hcell 0 _ rfl
    rw [Nat.add_zero, Nat.mul_one] at l0
    have hdk : L.drop k = n :: L.drop (k + 1) := by
      rw [List.drop_eq_getElem_cons (by omega)]
      congr 1
      exact (List.getElem?_eq_some_iff.1 hnk).2
    rw [hdk, nums_cons] at hn1
    refine W_piece fun K1 hK1 hX1 => ?_
    rw [W_block]
    refine W_piece fun K2 hK2 hX2 => ?_
    simp +contextual (maxSteps := 2000000) (disch := (first | omega | (simp only [SZ]; first | done | omega) | (simp only [TS] at *; omega))) only [RZ, ovw, oneC, Nat.reduceAdd, Nat.reduceMul, Nat.reduceSub, Nat.reduceEqDiff, Nat.reduceLT, ↓reduceIte, Int.reduceToNat, Nat.reduceLeDiff,  f0, f6, f7, f8, l0]
    refine hK2 _ _ ?_
    clear hK2 hX2 K2
    refine W_piece fun K2 hK2 hX2 => ?_
    simp +contextual (maxSteps := 2000000) (disch := (first | omega | (simp only [SZ]; first | done | omega) | (simp only [TS] at *; omega))) only [RZ, ovw, oneC, Nat.reduceAdd, Nat.reduceMul, Nat.reduceSub, Nat.reduceEqDiff, Nat.reduceLT, ↓reduceIte, Int.reduceToNat, Nat.reduceLeDiff,  f0, f6, f7, f8]
    rw [show (decide (0 ≤ n) && decide (n ≤ 999999999999999999)) = fitB n from rfl]
    refine (pbRequire_any h1 (fitB n)).mono ?_
    rintro e w2 ⟨rfl, h2, k2⟩
    refine ⟨_, rfl, ?_⟩
    try simp +contextual (maxSteps := 2000000) (disch := (first | omega | (simp only [SZ]; first | done | omega) | (simp only [TS] at *; omega))) only [RZ, ovw, oneC, Nat.reduceAdd, Nat.reduceMul, Nat.reduceSub, Nat.reduceEqDiff, Nat.reduceLT, ↓reduceIte, Int.reduceToNat, Nat.reduceLeDiff,  f0, f6, f7, f8]
    refine hK2 _ _ ?_
    clear hK2 hX2 K2
    obtain ⟨q, A2, c2, h2i⟩ := id h2
    have d2 := h2i.row.cell (i := 2) rfl
    refine W_piece fun K2 hK2 hX2 => ?_
    refine W_piece fun K3 hK3 hX3 => ?_
    simp +contextual (maxSteps := 2000000) (disch := (first | omega | (simp only [SZ]; first | done | omega) | (simp only [TS] at *; omega))) only [RZ, ovw, oneC, Nat.reduceAdd, Nat.reduceMul, Nat.reduceSub, Nat.reduceEqDiff, Nat.reduceLT, ↓reduceIte, Int.reduceToNat, Nat.reduceLeDiff,  f0, f6, f7, f8, d2]
    refine hK3 _ _ ?_
    clear hK3 hX3 K3
    cases hbd : (pk.req (fitB n)).bad with
    | true =>
      rw [if_pos hbd] at hn1
      refine W_if_t rfl ?_
      rw [W_ret]
      refine hX2 _ _ _ (fun h => by cases h) ?_
      rw [inX_ret]
      refine hX1 _ _ _ (fun h => by cases h) ?_
      rw [← hn1]
      simp +contextual (maxSteps := 2000000) (disch := (first | omega | (simp only [SZ]; first | done | omega) | (simp only [TS] at *; omega))) only [RZ, ovw, oneC, Nat.reduceAdd, Nat.reduceMul, Nat.reduceSub, Nat.reduceEqDiff, Nat.reduceLT, ↓reduceIte, Int.reduceToNat, Nat.reduceLeDiff,  f0]
      exact ⟨h2, k1.trans k2⟩
    | false =>
      rw [if_neg (by rw [hbd]; simp)] at hn1
      refine W_if_f rfl ?_
      rw [W_skip]
      refine hK2 _ _ ?_
      clear hK2 hX2 K2
      have hfb : fitB n = true := by
        unfold Pr.req at hbd
        simp only [Bool.or_eq_false_iff, Bool.not_eq_false'] at hbd
        exact hbd.2
      have hpb : pk.bad = false := by
        unfold Pr.req at hbd
        simp only [Bool.or_eq_false_iff] at hbd
        exact hbd.1
      have hnr : nR n := by have := fit_nat hfb; unfold nR; omega
      have hW2 : Laid w2 := (hW.kb k1 hg).kb k2 hg
      have hlt2 := h2.lt
      simp +contextual (maxSteps := 2000000) (disch := (first | omega | (simp only [SZ]; first | done | omega) | (simp only [TS] at *; omega))) only [RZ, ovw, oneC, Nat.reduceAdd, Nat.reduceMul, Nat.reduceSub, Nat.reduceEqDiff, Nat.reduceLT, ↓reduceIte, Int.reduceToNat, Nat.reduceLeDiff,  f0, f6, f7, f8]
      refine (format_any n w2 hW2 hnr).mono ?_
      rintro e w3 ⟨rfl, hB3⟩
      refine ⟨_, rfl, ?_⟩
      have h3 := h2.below hB3
      have k3 := (k1.trans k2).below (by omega) hB3
      have hwl : ((pk.req (fitB n)).ws ([fmtB n].map bs)).X.length = pk.X.length + (1 + (fmtI n).length) := by
        rw [ws_len]
        show pk.X.length + _ = _
        simp [bs_fmtB]; omega
      have hf18 := fit_len hfb
      try simp +contextual (maxSteps := 2000000) (disch := (first | omega | (simp only [SZ]; first | done | omega) | (simp only [TS] at *; omega))) only [RZ, ovw, oneC, Nat.reduceAdd, Nat.reduceMul, Nat.reduceSub, Nat.reduceEqDiff, Nat.reduceLT, ↓reduceIte, Int.reduceToNat, Nat.reduceLeDiff,  f0, f6, f7, f8]
      refine (pbWords_any h3 [fmtB n] (by simp) (by omega)).mono ?_
      rintro e w4 ⟨rfl, h4, k4⟩
      refine ⟨_, rfl, ?_⟩
      try simp +contextual (maxSteps := 2000000) (disch := (first | omega | (simp only [SZ]; first | done | omega) | (simp only [TS] at *; omega))) only [RZ, ovw, oneC, Nat.reduceAdd, Nat.reduceMul, Nat.reduceSub, Nat.reduceEqDiff, Nat.reduceLT, ↓reduceIte, Int.reduceToNat, Nat.reduceLeDiff,  f0, f6, f7, f8]
      refine hK1 _ _ ?_
      clear hK1 hX1 K1
      simp +contextual (maxSteps := 2000000) (disch := (first | omega | (simp only [SZ]; first | done | omega) | (simp only [TS] at *; omega))) only [RZ, ovw, oneC, Nat.reduceAdd, Nat.reduceMul, Nat.reduceSub, Nat.reduceEqDiff, Nat.reduceLT, ↓reduceIte, Int.reduceToNat, Nat.reduceLeDiff,  f0, f6, f7, f8]
      refine hK _ _ ⟨k + 1, (pk.req (fitB n)).ws [fmtI n], by omega, h4, hn1, ?_, ?_, k3.trans k4, ?_⟩ ?_
      · have := hx0 hpb
        have hwl : ((pk.req (fitB n)).ws [fmtI n]).X.length = pk.X.length + (1 + (fmtI n).length) := hwl
        omega
      · intro hb
        have := ws_ok hb
        omega
      · simp +contextual (maxSteps := 2000000) (disch := (first | omega | (simp only [SZ]; first | done | omega) | (simp only [TS] at *; omega))) only [RZ, ovw, oneC, Nat.reduceAdd, Nat.reduceMul, Nat.reduceSub, Nat.reduceEqDiff, Nat.reduceLT, ↓reduceIte, Int.reduceToNat, Nat.reduceLeDiff,  f0, f6, f7, f8]
      · simp +contextual (maxSteps := 2000000) (disch := (first | omega | (simp only [SZ]; first | done | omega) | (simp only [TS] at *; omega))) only [RZ, ovw, oneC, Nat.reduceAdd, Nat.reduceMul, Nat.reduceSub, Nat.reduceEqDiff, Nat.reduceLT, ↓reduceIte, Int.reduceToNat, Nat.reduceLeDiff,  intOf, f8]
        omega
  · have hkl : k = L.length := by omega
    subst hkl
    rw [List.drop_length] at hn1
    have hn1 : pk = p.nums L := hn1
    subst hn1
    simp +contextual (maxSteps := 2000000) (disch := (first | omega | (simp only [SZ]; first | done | omega) | (simp only [TS] at *; omega))) only [RZ, ovw, oneC, Nat.reduceAdd, Nat.reduceMul, Nat.reduceSub, Nat.reduceEqDiff, Nat.reduceLT, ↓reduceIte, Int.reduceToNat, Nat.reduceLeDiff,  f0, f6, f7, f8]
    exact ⟨h1, k1⟩
end
end Go.Proofs.YtbdkggnajipdhaaGreatDoor
/- Walks: the printer's methods: isWord, name, option, hits. -/
namespace Go.Proofs.YtbdkggnajipdhaaGreatDoor
open Go.RowKit
set_option maxRecDepth 100000
theorem wordL_cons (c : Nat) (r : List Nat) : wordL (c :: r) = (letterB c && (c :: r).all wordB) := rfl
set_option maxHeartbeats 2000000 in
theorem isWord_any (s : ByteArray) (w : World) (hs : s.size ≤ 9223372036854775807) : Calls Tryz.prog 72 #[.string s] w fun e w' => e = .returned (.bool (wordL (bs s))) ∧ w = w' := by
  refine calls_W (l := [_]) Tryz.func72 rfl _ Tryz.ntmps72 (by simp) ?_
  generalize hwr : wordL (bs s) = rr
  by_cases h0 : s = ⟨#[]⟩
  · subst h0
    have hwr : rr = false := by rw [← hwr]; rfl
    subst hwr
    refine W_piece fun K hK hX => ?_
    simp +contextual (maxSteps := 2000000) (disch := (first | omega | (simp only [SZ]; first | done | omega) | (simp only [TS] at *; omega))) only [RZ, ovw, oneC, Nat.reduceAdd, Nat.reduceMul, Nat.reduceSub, Nat.reduceEqDiff, Nat.reduceLT, ↓reduceIte, Int.reduceToNat, Nat.reduceLeDiff]
    refine hK _ _ ?_
    clear hK hX K
    rw [W_seq]
    simp +contextual (maxSteps := 2000000) (disch := (first | omega | (simp only [SZ]; first | done | omega) | (simp only [TS] at *; omega))) only [RZ, ovw, oneC, Nat.reduceAdd, Nat.reduceMul, Nat.reduceSub, Nat.reduceEqDiff, Nat.reduceLT, ↓reduceIte, Int.reduceToNat, Nat.reduceLeDiff]
    refine W_if_t rfl ?_
    simp +contextual (maxSteps := 2000000) (disch := (first | omega | (simp only [SZ]; first | done | omega) | (simp only [TS] at *; omega))) only [RZ, ovw, oneC, Nat.reduceAdd, Nat.reduceMul, Nat.reduceSub, Nat.reduceEqDiff, Nat.reduceLT, ↓reduceIte, Int.reduceToNat, Nat.reduceLeDiff]
  have hsz : 0 < s.size := sz_pos h0
  have e0 : (s = ⟨#[]⟩) = False := eq_false h0
  have hb0 := bs_get hsz
  obtain ⟨r, hr⟩ : ∃ r, bs s = bt s 0 :: r := by
    cases hl : bs s with
    | nil => rw [hl] at hb0; cases hb0
    | cons c r => rw [hl] at hb0; simp only [List.getElem?_cons_zero, Option.some.injEq] at hb0; exact ⟨r, by rw [hb0]⟩
  have hwl : wordL (bs s) = (letterB (bt s 0) && (bs s).all wordB) := by rw [hr, wordL_cons]
  refine W_piece fun K hK hX => ?_
  simp +contextual (maxSteps := 2000000) (disch := (first | omega | (simp only [SZ]; first | done | omega) | (simp only [TS] at *; omega))) only [RZ, ovw, oneC, Nat.reduceAdd, Nat.reduceMul, Nat.reduceSub, Nat.reduceEqDiff, Nat.reduceLT, ↓reduceIte, Int.reduceToNat, Nat.reduceLeDiff]
  refine hK _ _ ?_
  clear hK hX K
  refine W_piece fun K hK hX => ?_
  refine W_piece fun K2 hK2 hX2 => ?_
  simp +contextual (maxSteps := 2000000) (disch := (first | omega | (simp only [SZ]; first | done | omega) | (simp only [TS] at *; omega))) only [RZ, ovw, oneC, Nat.reduceAdd, Nat.reduceMul, Nat.reduceSub, Nat.reduceEqDiff, Nat.reduceLT, ↓reduceIte, Int.reduceToNat, Nat.reduceLeDiff,  e0]
  refine hK2 _ _ ?_
  clear hK2 hX2 K2
  have hL : (decide ((bt s 0 : Int) < 97) || decide (122 < (bt s 0 : Int))) = !letterB (bt s 0) := by
    rw [Bool.eq_iff_iff]
    unfold letterB
    simp only [Bool.or_eq_true, decide_eq_true_eq, Bool.not_eq_true', Bool.and_eq_false_iff, decide_eq_false_iff_not]
    omega
  rw [hL]
  cases hle : letterB (bt s 0) with
  | false =>
    rw [hle, Bool.false_and, hwr] at hwl
    subst hwl
    refine W_if_t rfl ?_
    refine W_piece fun K2 hK2 hX2 => ?_
    simp +contextual (maxSteps := 2000000) (disch := (first | omega | (simp only [SZ]; first | done | omega) | (simp only [TS] at *; omega))) only [RZ, ovw, oneC, Nat.reduceAdd, Nat.reduceMul, Nat.reduceSub, Nat.reduceEqDiff, Nat.reduceLT, ↓reduceIte, Int.reduceToNat, Nat.reduceLeDiff]
    refine hK2 _ _ ?_
    rw [W_ret]
    refine hX _ _ _ (fun h => by cases h) ?_
    simp +contextual (maxSteps := 2000000) (disch := (first | omega | (simp only [SZ]; first | done | omega) | (simp only [TS] at *; omega))) only [RZ, ovw, oneC, Nat.reduceAdd, Nat.reduceMul, Nat.reduceSub, Nat.reduceEqDiff, Nat.reduceLT, ↓reduceIte, Int.reduceToNat, Nat.reduceLeDiff]
  | true =>
    rw [hle, Bool.true_and, hwr] at hwl
    refine W_if_f rfl ?_
    rw [W_skip]
    refine hK _ _ ?_
    clear hK hX K
    refine W_cutS (fun σ w' => w' = w ∧ (bs s).all wordB = true) ?_ ?_
    · rintro σ w' ⟨rfl, hall⟩
      rw [hall] at hwl
      subst hwl
      simp +contextual (maxSteps := 2000000) (disch := (first | omega | (simp only [SZ]; first | done | omega) | (simp only [TS] at *; omega))) only [RZ, ovw, oneC, Nat.reduceAdd, Nat.reduceMul, Nat.reduceSub, Nat.reduceEqDiff, Nat.reduceLT, ↓reduceIte, Int.reduceToNat, Nat.reduceLeDiff]
    refine W_piece fun K hK hX => ?_
    simp +contextual (maxSteps := 2000000) (disch := (first | omega | (simp only [SZ]; first | done | omega) | (simp only [TS] at *; omega))) only [RZ, ovw, oneC, Nat.reduceAdd, Nat.reduceMul, Nat.reduceSub, Nat.reduceEqDiff, Nat.reduceLT, ↓reduceIte, Int.reduceToNat, Nat.reduceLeDiff]
    refine hK _ _ ?_
    clear hK hX K
    rw [W_block, W_loop]
    refine Raw_loop (fun σ w' => w' = w ∧ ∃ k : Nat, k ≤ s.size ∧ (∀ j, j < k → wordB (bt s j) = true) ∧ σ 0 = .string s ∧ σ 18 = .int .i64 s.size ∧ σ 19 = .int .i64 k) (fun σ _ => s.size - (intOf (σ 19)).toNat) ?_ ?_
    · exact ⟨rfl, 0, Nat.zero_le _, fun j hj => absurd hj (Nat.not_lt_zero _), rfl, rfl, rfl⟩
    rintro σ w' ⟨rfl, k, hk, hal, f0, f18, f19⟩ K hK
    simp +contextual (maxSteps := 2000000) (disch := (first | omega | (simp only [SZ]; first | done | omega) | (simp only [TS] at *; omega))) only [RZ, ovw, oneC, Nat.reduceAdd, Nat.reduceMul, Nat.reduceSub, Nat.reduceEqDiff, Nat.reduceLT, ↓reduceIte, Int.reduceToNat, Nat.reduceLeDiff,  f0, f18, f19]
    (refine W_if rfl (fun hc => ?_) (fun hc => ?_) <;> (try simp only [TS] at hc))
    · have hkl : k < s.size := by omega
      have hW : (((decide ((bt s k : Int) < 97) || decide (122 < (bt s k : Int))) && (decide ((bt s k : Int) < 48) || decide (57 < (bt s k : Int)))) && !decide ((bt s k : Int) = 45)) = !wordB (bt s k) := by
        rw [Bool.eq_iff_iff]
        unfold wordB letterB digitB
        simp only [Bool.or_eq_true, Bool.and_eq_true, decide_eq_true_eq, Bool.not_eq_true', Bool.or_eq_false_iff, Bool.and_eq_false_iff, decide_eq_false_iff_not, beq_eq_false_iff_ne, Int.toNat_natCast]
        omega
      rw [W_skip, thenX_normal]
      refine W_piece fun K1 hK1 hX1 => ?_
      rw [W_block]
      refine W_piece fun K2 hK2 hX2 => ?_
      simp +contextual (maxSteps := 2000000) (disch := (first | omega | (simp only [SZ]; first | done | omega) | (simp only [TS] at *; omega))) only [RZ, ovw, oneC, Nat.reduceAdd, Nat.reduceMul, Nat.reduceSub, Nat.reduceEqDiff, Nat.reduceLT, ↓reduceIte, Int.reduceToNat, Nat.reduceLeDiff,  f0, f18, f19]
      refine hK2 _ _ ?_
      clear hK2 hX2 K2
      refine W_piece fun K2 hK2 hX2 => ?_
      simp +contextual (maxSteps := 2000000) (disch := (first | omega | (simp only [SZ]; first | done | omega) | (simp only [TS] at *; omega))) only [RZ, ovw, oneC, Nat.reduceAdd, Nat.reduceMul, Nat.reduceSub, Nat.reduceEqDiff, Nat.reduceLT, ↓reduceIte, Int.reduceToNat, Nat.reduceLeDiff,  f0, f18, f19, Int.toNat_natCast]
      refine hK2 _ _ ?_
      clear hK2 hX2 K2
      refine W_piece fun K2 hK2 hX2 => ?_
      simp +contextual (maxSteps := 2000000) (disch := (first | omega | (simp only [SZ]; first | done | omega) | (simp only [TS] at *; omega))) only [RZ, ovw, oneC, Nat.reduceAdd, Nat.reduceMul, Nat.reduceSub, Nat.reduceEqDiff, Nat.reduceLT, ↓reduceIte, Int.reduceToNat, Nat.reduceLeDiff,  f0, f18, f19]
      refine hK2 _ _ ?_
      clear hK2 hX2 K2
      rw [hW]
      cases hwk : wordB (bt s k) with
      | false =>
        refine W_if_t rfl ?_
        refine W_piece fun K2 hK2 hX2 => ?_
        simp +contextual (maxSteps := 2000000) (disch := (first | omega | (simp only [SZ]; first | done | omega) | (simp only [TS] at *; omega))) only [RZ, ovw, oneC, Nat.reduceAdd, Nat.reduceMul, Nat.reduceSub, Nat.reduceEqDiff, Nat.reduceLT, ↓reduceIte, Int.reduceToNat, Nat.reduceLeDiff]
        refine hK2 _ _ ?_
        rw [W_ret]
        clear hK2 hX2
        rw [inX_ret]
        refine hX1 _ _ _ (fun h => by cases h) ?_
        have hall : (bs s).all wordB = false := by
          rw [Bool.eq_false_iff]
          intro e
          have := List.all_eq_true.1 e _ (List.mem_of_getElem? (bs_get hkl))
          rw [hwk] at this
          cases this
        rw [hall] at hwl
        subst hwl
        simp +contextual (maxSteps := 2000000) (disch := (first | omega | (simp only [SZ]; first | done | omega) | (simp only [TS] at *; omega))) only [RZ, ovw, oneC, Nat.reduceAdd, Nat.reduceMul, Nat.reduceSub, Nat.reduceEqDiff, Nat.reduceLT, ↓reduceIte, Int.reduceToNat, Nat.reduceLeDiff]
      | true =>
        refine W_if_f rfl ?_
        rw [W_skip, inX_normal]
        refine hK1 _ _ ?_
        clear hK1 hX1 K1
        simp +contextual (maxSteps := 2000000) (disch := (first | omega | (simp only [SZ]; first | done | omega) | (simp only [TS] at *; omega))) only [RZ, ovw, oneC, Nat.reduceAdd, Nat.reduceMul, Nat.reduceSub, Nat.reduceEqDiff, Nat.reduceLT, ↓reduceIte, Int.reduceToNat, Nat.reduceLeDiff,  f0, f18, f19]
        refine hK _ _ ⟨rfl, k + 1, by omega, fun j hj => ?_, ?_⟩ ?_
        · by_cases hjk : j = k
          · rw [hjk]; exact hwk
          · exact hal j (by omega)
        · simp +contextual (maxSteps := 2000000) (disch := (first | omega | (simp only [SZ]; first | done | omega) | (simp only [TS] at *; omega))) only [RZ, ovw, oneC, Nat.reduceAdd, Nat.reduceMul, Nat.reduceSub, Nat.reduceEqDiff, Nat.reduceLT, ↓reduceIte, Int.reduceToNat, Nat.reduceLeDiff,  f0, f18, f19]
        · simp +contextual (maxSteps := 2000000) (disch := (first | omega | (simp only [SZ]; first | done | omega) | (simp only [TS] at *; omega))) only [RZ, ovw, oneC, Nat.reduceAdd, Nat.reduceMul, Nat.reduceSub, Nat.reduceEqDiff, Nat.reduceLT, ↓reduceIte, Int.reduceToNat, Nat.reduceLeDiff,  intOf, f19]
          omega
    · have hkz : k = s.size := by omega
      subst hkz
      simp +contextual (maxSteps := 2000000) (disch := (first | omega | (simp only [SZ]; first | done | omega) | (simp only [TS] at *; omega))) only [RZ, ovw, oneC, Nat.reduceAdd, Nat.reduceMul, Nat.reduceSub, Nat.reduceEqDiff, Nat.reduceLT, ↓reduceIte, Int.reduceToNat, Nat.reduceLeDiff,  f0, f18, f19]
      rw [List.all_eq_true]
      intro c hc
      obtain ⟨j, hj⟩ := List.mem_iff_getElem?.1 hc
      have hjl : j < s.size := by have := (List.getElem?_eq_some_iff.1 hj).1; rwa [bs_len] at this
      rw [bs_get hjl] at hj
      injection hj with hj
      rw [← hj]
      exact hal j hjl
section
variable {g : Nat} {w : World} {p : Pr}
theorem pbName_any (h : PbIn g w p) (s : ByteArray) (hlen : p.X.length + s.size ≤ 800000000) : Calls Tryz.prog 31 #[.pointer (some ⟨g, 0, none⟩), .string s] w fun e w' => e = .returned (.tuple #[]) ∧ PbIn g w' (p.nm s) ∧ KB g w w' := by
  refine calls_W (l := [_, _]) Tryz.func31 rfl _ Tryz.ntmps31 (by simp) ?_
  generalize hr : p.nm s = r
  unfold Pr.nm at hr
  refine W_piece fun K hK hX => ?_
  simp +contextual (maxSteps := 2000000) (disch := (first | omega | (simp only [SZ]; first | done | omega) | (simp only [TS] at *; omega))) only [RZ, ovw, oneC, Nat.reduceAdd, Nat.reduceMul, Nat.reduceSub, Nat.reduceEqDiff, Nat.reduceLT, ↓reduceIte, Int.reduceToNat, Nat.reduceLeDiff]
  refine (isWord_any s w (by omega)).mono ?_
  rintro e w1 ⟨rfl, rfl⟩
  refine ⟨_, rfl, ?_⟩
  try simp +contextual (maxSteps := 2000000) (disch := (first | omega | (simp only [SZ]; first | done | omega) | (simp only [TS] at *; omega))) only [RZ, ovw, oneC, Nat.reduceAdd, Nat.reduceMul, Nat.reduceSub, Nat.reduceEqDiff, Nat.reduceLT, ↓reduceIte, Int.reduceToNat, Nat.reduceLeDiff]
  refine (pbRequire_any h _).mono ?_
  rintro e w2 ⟨rfl, h2, k2⟩
  refine ⟨_, rfl, ?_⟩
  try simp +contextual (maxSteps := 2000000) (disch := (first | omega | (simp only [SZ]; first | done | omega) | (simp only [TS] at *; omega))) only [RZ, ovw, oneC, Nat.reduceAdd, Nat.reduceMul, Nat.reduceSub, Nat.reduceEqDiff, Nat.reduceLT, ↓reduceIte, Int.reduceToNat, Nat.reduceLeDiff]
  refine hK _ _ ?_
  clear hK hX K
  obtain ⟨q, A2, c2, h2i⟩ := id h2
  have d2 := h2i.row.cell (i := 2) rfl
  refine W_piece fun K hK hX => ?_
  simp +contextual (maxSteps := 2000000) (disch := (first | omega | (simp only [SZ]; first | done | omega) | (simp only [TS] at *; omega))) only [RZ, ovw, oneC, Nat.reduceAdd, Nat.reduceMul, Nat.reduceSub, Nat.reduceEqDiff, Nat.reduceLT, ↓reduceIte, Int.reduceToNat, Nat.reduceLeDiff,  d2]
  refine hK _ _ ?_
  clear hK hX K
  cases hbd : (p.req (wordL (bs s))).bad with
  | true =>
    rw [if_pos hbd] at hr
    subst hr
    refine W_if_f rfl ?_
    simp +contextual (maxSteps := 2000000) (disch := (first | omega | (simp only [SZ]; first | done | omega) | (simp only [TS] at *; omega))) only [RZ, ovw, oneC, Nat.reduceAdd, Nat.reduceMul, Nat.reduceSub, Nat.reduceEqDiff, Nat.reduceLT, ↓reduceIte, Int.reduceToNat, Nat.reduceLeDiff]
    exact ⟨h2, k2⟩
  | false =>
    rw [if_neg (by rw [hbd]; simp)] at hr
    subst hr
    refine W_if_t rfl ?_
    simp +contextual (maxSteps := 2000000) (disch := (first | omega | (simp only [SZ]; first | done | omega) | (simp only [TS] at *; omega))) only [RZ, ovw, oneC, Nat.reduceAdd, Nat.reduceMul, Nat.reduceSub, Nat.reduceEqDiff, Nat.reduceLT, ↓reduceIte, Int.reduceToNat, Nat.reduceLeDiff]
    have hl1 := ws_len (p.req (wordL (bs s))) ([s].map bs)
    rw [show (p.req (wordL (bs s))).X.length = p.X.length from rfl] at hl1
    simp only [List.map_cons, List.map_nil, List.flatMap_cons, List.flatMap_nil, List.append_nil, List.length_cons, List.length_nil, bs_len] at hl1
    refine (pbWords_any h2 [s] (by simp) (by simp only [List.map_cons, List.map_nil]; omega)).mono ?_
    rintro e w3 ⟨rfl, h3, k3⟩
    refine ⟨_, rfl, ?_⟩
    try simp +contextual (maxSteps := 2000000) (disch := (first | omega | (simp only [SZ]; first | done | omega) | (simp only [TS] at *; omega))) only [RZ, ovw, oneC, Nat.reduceAdd, Nat.reduceMul, Nat.reduceSub, Nat.reduceEqDiff, Nat.reduceLT, ↓reduceIte, Int.reduceToNat, Nat.reduceLeDiff]
    exact ⟨h3, k2.trans k3⟩
/-- One number of a literal list. -/
theorem pbNums_any (h : PbIn g w p) (L : List Int) (hW : Laid w) (hg : 9 ≤ g) (hl : L.length ≤ 1000) (hlen : p.X.length ≤ 700000000) :
    Calls Tryz.prog 75 #[.pointer (some ⟨g, 0, none⟩), .slice (some ⟨w.heap.size, 0, none⟩) L.length L.length] (w.alloc (.cells (iW L).toArray 3)) fun e w' => e = .returned (.tuple #[]) ∧ PbIn g w' (p.nums L) ∧ KB g w w' := by
  have hlt := h.lt
  have hR := Row.new w 3 (iW L)
  have e1 : ∀ L : List Int, (L.map fun n => [Value.int .i64 n]).flatten = iW L := fun L => by
    induction L with
    | nil => rfl
    | cons s r ih => rw [List.map_cons, List.flatten_cons, ih]; rfl
  refine (pbNumbers_any (L := L) (h.alloc _) (arr_new (by rw [e1 L]; exact hR) (by omega) (by decide) (fun v hv => by obtain ⟨s, _, rfl⟩ := List.mem_map.1 hv; rfl)) (hW.below (below_alloc w _) hW.size) hg (by omega) hlen).mono ?_
  rintro e w' ⟨h1, h2, h3⟩
  exact ⟨h1, h2, ((KB.refl g w).alloc (by omega) _).trans h3⟩
theorem pbOption_any (h : PbIn g w p) (s : ByteArray) (n std : Int) (hW : Laid w) (hg : 9 ≤ g) (hs : s.size ≤ 100) (hlen : p.X.length ≤ 600000000) : Calls Tryz.prog 34 #[.pointer (some ⟨g, 0, none⟩), .string s, .int .i64 n, .int .i64 std] w fun e w' =>
    e = .returned (.tuple #[]) ∧ PbIn g w' (p.opt (bs s) n std) ∧ KB g w w' := by
  refine calls_W (l := [_, _, _, _]) Tryz.func34 rfl _ Tryz.ntmps34 (by simp) ?_
  generalize hr : p.opt (bs s) n std = r
  unfold Pr.opt at hr
  refine W_piece fun K hK hX => ?_
  simp +contextual (maxSteps := 2000000) (disch := (first | omega | (simp only [SZ]; first | done | omega) | (simp only [TS] at *; omega))) only [RZ, ovw, oneC, Nat.reduceAdd, Nat.reduceMul, Nat.reduceSub, Nat.reduceEqDiff, Nat.reduceLT, ↓reduceIte, Int.reduceToNat, Nat.reduceLeDiff]
  refine hK _ _ ?_
  clear hK hX K
  by_cases hns : n = std
  · rw [if_pos hns] at hr
    subst hr
    have e1 : decide (n = std) = true := by simpa using hns
    rw [e1]
    refine W_if_f rfl ?_
    simp +contextual (maxSteps := 2000000) (disch := (first | omega | (simp only [SZ]; first | done | omega) | (simp only [TS] at *; omega))) only [RZ, ovw, oneC, Nat.reduceAdd, Nat.reduceMul, Nat.reduceSub, Nat.reduceEqDiff, Nat.reduceLT, ↓reduceIte, Int.reduceToNat, Nat.reduceLeDiff]
    exact ⟨h, KB.refl _ _⟩
  · rw [if_neg hns] at hr
    subst hr
    have e1 : decide (n = std) = false := by simpa using hns
    rw [e1]
    refine W_if_t rfl ?_
    refine W_piece fun K hK hX => ?_
    simp +contextual (maxSteps := 2000000) (disch := (first | omega | (simp only [SZ]; first | done | omega) | (simp only [TS] at *; omega))) only [RZ, ovw, oneC, Nat.reduceAdd, Nat.reduceMul, Nat.reduceSub, Nat.reduceEqDiff, Nat.reduceLT, ↓reduceIte, Int.reduceToNat, Nat.reduceLeDiff]
    refine (pbBegin_any h s (by omega)).mono ?_
    rintro e w1 ⟨rfl, h1, k1⟩
    refine ⟨_, rfl, ?_⟩
    try simp +contextual (maxSteps := 2000000) (disch := (first | omega | (simp only [SZ]; first | done | omega) | (simp only [TS] at *; omega))) only [RZ, ovw, oneC, Nat.reduceAdd, Nat.reduceMul, Nat.reduceSub, Nat.reduceEqDiff, Nat.reduceLT, ↓reduceIte, Int.reduceToNat, Nat.reduceLeDiff]
    refine hK _ _ ?_
    clear hK hX K
    have b1 : (p.begin (bs s)).X.length = p.X.length + (2 + s.size) := by
      unfold Pr.begin
      rw [ws_len, add_len]
      simp [bs_len]; omega
    have hW1 := hW.kb k1 hg
    refine W_piece fun K hK hX => ?_
    simp +contextual (maxSteps := 2000000) (disch := (first | omega | (simp only [SZ]; first | done | omega) | (simp only [TS] at *; omega))) only [RZ, ovw, oneC, Nat.reduceAdd, Nat.reduceMul, Nat.reduceSub, Nat.reduceEqDiff, Nat.reduceLT, ↓reduceIte, Int.reduceToNat, Nat.reduceLeDiff]
    refine (pbNums_any h1 [n] hW1 hg (by simp) (by omega)).mono ?_
    rintro e w2 ⟨rfl, h2, k2⟩
    refine ⟨_, rfl, ?_⟩
    try simp +contextual (maxSteps := 2000000) (disch := (first | omega | (simp only [SZ]; first | done | omega) | (simp only [TS] at *; omega))) only [RZ, ovw, oneC, Nat.reduceAdd, Nat.reduceMul, Nat.reduceSub, Nat.reduceEqDiff, Nat.reduceLT, ↓reduceIte, Int.reduceToNat, Nat.reduceLeDiff]
    refine hK _ _ ?_
    clear hK hX K
    have b2 := nums_max [n] (p.begin (bs s))
    simp +contextual (maxSteps := 2000000) (disch := (first | omega | (simp only [SZ]; first | done | omega) | (simp only [TS] at *; omega))) only [RZ, ovw, oneC, Nat.reduceAdd, Nat.reduceMul, Nat.reduceSub, Nat.reduceEqDiff, Nat.reduceLT, ↓reduceIte, Int.reduceToNat, Nat.reduceLeDiff]
    refine (pbEnd_any h2 (by omega)).mono ?_
    rintro e w3 ⟨rfl, h3, k3⟩
    refine ⟨_, rfl, ?_⟩
    try simp +contextual (maxSteps := 2000000) (disch := (first | omega | (simp only [SZ]; first | done | omega) | (simp only [TS] at *; omega))) only [RZ, ovw, oneC, Nat.reduceAdd, Nat.reduceMul, Nat.reduceSub, Nat.reduceEqDiff, Nat.reduceLT, ↓reduceIte, Int.reduceToNat, Nat.reduceLeDiff]
    exact ⟨h3, (k1.trans k2).trans k3⟩
theorem pbHits_any (h : PbIn g w p) (s : ByteArray) (n : Int) (hW : Laid w) (hg : 9 ≤ g) (hs : s.size ≤ 100) (hlen : p.X.length ≤ 600000000) : Calls Tryz.prog 77 #[.pointer (some ⟨g, 0, none⟩), .string s, .int .i64 n] w fun e w' =>
    e = .returned (.tuple #[]) ∧ PbIn g w' (p.hits (bs s) n) ∧ KB g w w' := by
  refine calls_W (l := [_, _, _]) Tryz.func77 rfl _ Tryz.ntmps77 (by simp) ?_
  generalize hr : p.hits (bs s) n = r
  unfold Pr.hits at hr
  refine W_piece fun K hK hX => ?_
  simp +contextual (maxSteps := 2000000) (disch := (first | omega | (simp only [SZ]; first | done | omega) | (simp only [TS] at *; omega))) only [RZ, ovw, oneC, Nat.reduceAdd, Nat.reduceMul, Nat.reduceSub, Nat.reduceEqDiff, Nat.reduceLT, ↓reduceIte, Int.reduceToNat, Nat.reduceLeDiff]
  refine hK _ _ ?_
  clear hK hX K
  by_cases hns : n = 0
  · rw [if_pos hns] at hr
    subst hr
    have e1 : decide (n = 0) = true := by simpa using hns
    rw [e1]
    refine W_if_f rfl ?_
    simp +contextual (maxSteps := 2000000) (disch := (first | omega | (simp only [SZ]; first | done | omega) | (simp only [TS] at *; omega))) only [RZ, ovw, oneC, Nat.reduceAdd, Nat.reduceMul, Nat.reduceSub, Nat.reduceEqDiff, Nat.reduceLT, ↓reduceIte, Int.reduceToNat, Nat.reduceLeDiff]
    exact ⟨h, KB.refl _ _⟩
  · rw [if_neg hns] at hr
    subst hr
    have e1 : decide (n = 0) = false := by simpa using hns
    rw [e1]
    refine W_if_t rfl ?_
    have hl1 := ws_len p ([s].map bs)
    simp only [List.map_cons, List.map_nil, List.flatMap_cons, List.flatMap_nil, List.append_nil, List.length_cons, List.length_nil, bs_len] at hl1
    refine W_piece fun K hK hX => ?_
    simp +contextual (maxSteps := 2000000) (disch := (first | omega | (simp only [SZ]; first | done | omega) | (simp only [TS] at *; omega))) only [RZ, ovw, oneC, Nat.reduceAdd, Nat.reduceMul, Nat.reduceSub, Nat.reduceEqDiff, Nat.reduceLT, ↓reduceIte, Int.reduceToNat, Nat.reduceLeDiff]
    refine (pbWords_any h [s] (by simp) (by simp only [List.map_cons, List.map_nil]; omega)).mono ?_
    rintro e w1 ⟨rfl, h1, k1⟩
    refine ⟨_, rfl, ?_⟩
    try simp +contextual (maxSteps := 2000000) (disch := (first | omega | (simp only [SZ]; first | done | omega) | (simp only [TS] at *; omega))) only [RZ, ovw, oneC, Nat.reduceAdd, Nat.reduceMul, Nat.reduceSub, Nat.reduceEqDiff, Nat.reduceLT, ↓reduceIte, Int.reduceToNat, Nat.reduceLeDiff]
    refine hK _ _ ?_
    clear hK hX K
    have hW1 := hW.kb k1 hg
    simp +contextual (maxSteps := 2000000) (disch := (first | omega | (simp only [SZ]; first | done | omega) | (simp only [TS] at *; omega))) only [RZ, ovw, oneC, Nat.reduceAdd, Nat.reduceMul, Nat.reduceSub, Nat.reduceEqDiff, Nat.reduceLT, ↓reduceIte, Int.reduceToNat, Nat.reduceLeDiff]
    refine (pbNums_any h1 [n] hW1 hg (by simp) (by simp only [List.map_cons, List.map_nil]; omega)).mono ?_
    rintro e w2 ⟨rfl, h2, k2⟩
    refine ⟨_, rfl, ?_⟩
    try simp +contextual (maxSteps := 2000000) (disch := (first | omega | (simp only [SZ]; first | done | omega) | (simp only [TS] at *; omega))) only [RZ, ovw, oneC, Nat.reduceAdd, Nat.reduceMul, Nat.reduceSub, Nat.reduceEqDiff, Nat.reduceLT, ↓reduceIte, Int.reduceToNat, Nat.reduceLeDiff]
    exact ⟨h2, k1.trans k2⟩
end
end Go.Proofs.YtbdkggnajipdhaaGreatDoor
/- The printer's steps beside a value that it reads: one state, one lemma a step. -/
namespace Go.Proofs.YtbdkggnajipdhaaGreatDoor
open Go.RowKit
set_option maxRecDepth 100000
/-- The printer at block g; the value that is read at block b; B bounds the text. -/
structure Pst (g b : Nat) (T : TypeId) (cs : List Value) (w wi : World) (p : Pr) (B : Nat) : Prop where
  pb : PbIn g wi p
  kb : KB g w wi
  row : Row wi b T cs
  laid : Laid wi
  le : p.X.length ≤ B
  lo : 32768 ≤ B
  hg : 9 ≤ g
  ne : b ≠ g
  nt : T ≠ 5
section
variable {g b B : Nat} {T : TypeId} {cs : List Value} {w wi w' : World} {p p' : Pr}
theorem Pst.next (h : Pst g b T cs w wi p B) {B' : Nat} (h1 : PbIn g w' p') (k1 : KB g wi w') (hl : p'.X.length ≤ B') (hB : B ≤ B') : Pst g b T cs w w' p' B' :=
  ⟨h1, h.kb.trans k1, h.row.kb k1 h.ne h.nt, h.laid.kb k1 h.hg, hl, Nat.le_trans h.lo hB, h.hg, h.ne, h.nt⟩
theorem Pst.of_box (h : PbIn g w p) (hW : Laid w) (hg : 9 ≤ g) (hT : T ≠ 5) (hl : p.X.length ≤ B) (hB : 32768 ≤ B) : Pst g w.heap.size T cs w (w.alloc (.cells cs.toArray T)) p B :=
  ⟨h.alloc _, (KB.refl g w).alloc (by have := h.lt; omega) _, Row.new w T cs, hW.below (below_alloc w _) hW.size, hl, hB, hg, by have := h.lt; omega, hT⟩
theorem ws1_len (p : Pr) (s : ByteArray) : (p.ws [bs s]).X.length = p.X.length + (1 + s.size) := by
  rw [ws_len]; simp [bs_len]; omega
theorem begin_len (p : Pr) (s : ByteArray) : (p.begin (bs s)).X.length = p.X.length + (2 + s.size) := by
  unfold Pr.begin
  rw [ws1_len, add_len]
  simp; omega
theorem fin_len (p : Pr) : p.fin.X.length = p.X.length + 2 := by
  show (p.add (asc ";\n")).X.length = _
  rw [add_len]; rfl
theorem opt_len (p : Pr) (s : ByteArray) (n std : Int) (hs : s.size ≤ 100) (hl : p.X.length ≤ B) (hB : 32768 ≤ B) : (p.opt (bs s) n std).X.length ≤ B + 200 := by
  unfold Pr.opt
  split
  · omega
  · rw [fin_len]
    have := nums_max [n] (p.begin (bs s))
    rw [begin_len] at this
    omega
theorem hits_len (p : Pr) (s : ByteArray) (n : Int) (hs : s.size ≤ 100) (hl : p.X.length ≤ B) (hB : 32768 ≤ B) : (p.hits (bs s) n).X.length ≤ B + 200 := by
  unfold Pr.hits
  split
  · omega
  · have := nums_max [n] (p.ws [bs s])
    rw [ws1_len] at this
    omega
theorem nm_len (p : Pr) (s : ByteArray) : (p.nm s).X.length ≤ p.X.length + (1 + s.size) := by
  unfold Pr.nm
  split
  · exact Nat.le_add_right _ _
  · rw [ws1_len]; exact Nat.le_refl _
theorem qReq (h : Pst g b T cs w wi p B) (c : Bool) : Calls Tryz.prog 37 #[.pointer (some ⟨g, 0, none⟩), .bool c] wi fun e w' => e = .returned (.tuple #[]) ∧ Pst g b T cs w w' (p.req c) B := by
  refine (pbRequire_any h.pb c).mono ?_
  rintro e w1 ⟨rfl, h1, k1⟩
  exact ⟨rfl, h.next h1 k1 h.le (Nat.le_refl _)⟩
theorem qBegin (h : Pst g b T cs w wi p B) (s : ByteArray) (hs : s.size ≤ 100) (hB : B ≤ 400000000) : Calls Tryz.prog 74 #[.pointer (some ⟨g, 0, none⟩), .string s] wi fun e w' => e = .returned (.tuple #[]) ∧ Pst g b T cs w w' (p.begin (bs s)) (B + 102) := by
  have hl := h.le
  refine (pbBegin_any h.pb s (by omega)).mono ?_
  rintro e w1 ⟨rfl, h1, k1⟩
  exact ⟨rfl, h.next h1 k1 (by rw [begin_len]; omega) (by omega)⟩
theorem qEnd (h : Pst g b T cs w wi p B) (hB : B ≤ 400000000) : Calls Tryz.prog 76 #[.pointer (some ⟨g, 0, none⟩)] wi fun e w' => e = .returned (.tuple #[]) ∧ Pst g b T cs w w' p.fin (B + 2) := by
  have hl := h.le
  refine (pbEnd_any h.pb (by omega)).mono ?_
  rintro e w1 ⟨rfl, h1, k1⟩
  exact ⟨rfl, h.next h1 k1 (by rw [fin_len]; omega) (by omega)⟩
theorem qWord (h : Pst g b T cs w wi p B) (s : ByteArray) (hs : s.size ≤ 300) (hB : B ≤ 400000000) :
    Calls Tryz.prog 73 #[.pointer (some ⟨g, 0, none⟩), .slice (some ⟨wi.heap.size, 0, none⟩) 1 1] (wi.alloc (.cells #[.string s] 9)) fun e w' => e = .returned (.tuple #[]) ∧ Pst g b T cs w w' (p.ws [bs s]) (B + 301) := by
  have hl := h.le
  have hl1 := ws1_len p s
  refine (pbWords_any h.pb [s] (by simp) (by simp only [List.map_cons, List.map_nil]; omega)).mono ?_
  rintro e w1 ⟨rfl, h1, k1⟩
  exact ⟨rfl, h.next h1 k1 (by omega) (by omega)⟩
theorem qNum (h : Pst g b T cs w wi p B) (n : Int) (hB : B ≤ 400000000) :
    Calls Tryz.prog 75 #[.pointer (some ⟨g, 0, none⟩), .slice (some ⟨wi.heap.size, 0, none⟩) 1 1] (wi.alloc (.cells #[.int .i64 n] 3)) fun e w' => e = .returned (.tuple #[]) ∧ Pst g b T cs w w' (p.nums [n]) (B + 19) := by
  have hl := h.le
  have hlo := h.lo
  refine (pbNums_any h.pb [n] h.laid h.hg (by simp) (by omega)).mono ?_
  rintro e w1 ⟨rfl, h1, k1⟩
  exact ⟨rfl, h.next h1 k1 (by have := nums_max [n] p; omega) (by omega)⟩
theorem qNum2 (h : Pst g b T cs w wi p B) (n m : Int) (hB : B ≤ 400000000) :
    Calls Tryz.prog 75 #[.pointer (some ⟨g, 0, none⟩), .slice (some ⟨wi.heap.size, 0, none⟩) 2 2] (wi.alloc (.cells #[.int .i64 n, .int .i64 m] 3)) fun e w' => e = .returned (.tuple #[]) ∧ Pst g b T cs w w' (p.nums [n, m]) (B + 19) := by
  have hl := h.le
  have hlo := h.lo
  refine (pbNums_any h.pb [n, m] h.laid h.hg (by simp) (by omega)).mono ?_
  rintro e w1 ⟨rfl, h1, k1⟩
  exact ⟨rfl, h.next h1 k1 (by have := nums_max [n, m] p; omega) (by omega)⟩
theorem qNumbers {L : List Int} {A : Option Addr} {c : Nat} (h : Pst g b T cs w wi p B) (hA : ∀ w', KB g wi w' → Arr w' A 1 (L.map fun n => [Value.int .i64 n])) (hl : L.length ≤ 1000000000) (hB : B ≤ 400000000) :
    Calls Tryz.prog 75 #[.pointer (some ⟨g, 0, none⟩), .slice A L.length c] wi fun e w' => e = .returned (.tuple #[]) ∧ Pst g b T cs w w' (p.nums L) (B + 19) := by
  have hl := h.le
  have hlo := h.lo
  refine (pbNumbers_any h.pb hA h.laid h.hg (by omega) (by omega)).mono ?_
  rintro e w1 ⟨rfl, h1, k1⟩
  exact ⟨rfl, h.next h1 k1 (by have := nums_max L p; omega) (by omega)⟩
theorem qOpt (h : Pst g b T cs w wi p B) (s : ByteArray) (n std : Int) (hs : s.size ≤ 100) (hB : B ≤ 400000000) : Calls Tryz.prog 34 #[.pointer (some ⟨g, 0, none⟩), .string s, .int .i64 n, .int .i64 std] wi fun e w' =>
    e = .returned (.tuple #[]) ∧ Pst g b T cs w w' (p.opt (bs s) n std) (B + 200) := by
  have hl := h.le
  refine (pbOption_any h.pb s n std h.laid h.hg hs (by omega)).mono ?_
  rintro e w1 ⟨rfl, h1, k1⟩
  exact ⟨rfl, h.next h1 k1 (opt_len p s n std hs h.le h.lo) (by omega)⟩
theorem qHits (h : Pst g b T cs w wi p B) (s : ByteArray) (n : Int) (hs : s.size ≤ 100) (hB : B ≤ 400000000) : Calls Tryz.prog 77 #[.pointer (some ⟨g, 0, none⟩), .string s, .int .i64 n] wi fun e w' =>
    e = .returned (.tuple #[]) ∧ Pst g b T cs w w' (p.hits (bs s) n) (B + 200) := by
  have hl := h.le
  refine (pbHits_any h.pb s n h.laid h.hg hs (by omega)).mono ?_
  rintro e w1 ⟨rfl, h1, k1⟩
  exact ⟨rfl, h.next h1 k1 (hits_len p s n hs h.le h.lo) (by omega)⟩
theorem qName (h : Pst g b T cs w wi p B) (s : ByteArray) (hs : s.size ≤ 1000000) (hB : B ≤ 400000000) : Calls Tryz.prog 31 #[.pointer (some ⟨g, 0, none⟩), .string s] wi fun e w' => e = .returned (.tuple #[]) ∧ Pst g b T cs w w' (p.nm s) (B + 1000001) := by
  have hl := h.le
  refine (pbName_any h.pb s (by omega)).mono ?_
  rintro e w1 ⟨rfl, h1, k1⟩
  exact ⟨rfl, h.next h1 k1 (by have := nm_len p s; omega) (by omega)⟩
theorem qStr (h : Pst g b T cs w wi p B) (s : ByteArray) (hs : s.size ≤ 300) (hB : B ≤ 400000000) : Calls Tryz.prog 30 #[.pointer (some ⟨g, 0, none⟩), .string s] wi fun e w' => e = .returned (.tuple #[.int .i64 s.size, .nilIface]) ∧ Pst g b T cs w w' (p.add (bs s)) (B + 300) := by
  have hl := h.le
  refine (pbStr_any h.pb s (by omega)).mono ?_
  rintro e w1 ⟨rfl, h1, k1⟩
  exact ⟨rfl, h.next h1 k1 (by rw [add_len, bs_len]; omega) (by omega)⟩
/-- The printer gets bad. -/
theorem Pst.spoil (h : Pst g b T cs w wi p B) : ∃ c2, wi.cell? ⟨g, 2, none⟩ = some c2 ∧ wi.frozen? ⟨g, 2, none⟩ = false ∧ Pst g b T cs w (wi.setCell ⟨g, 2, none⟩ (.bool true)) ⟨p.X, true⟩ B := by
  obtain ⟨q, A, c, h1⟩ := id h.pb
  refine ⟨_, h1.row.cell (i := 2) rfl, h1.row.frozen 2, ?_⟩
  exact h.next ⟨q, A, c, bad_set h1 true⟩ ⟨(Below.refl _ wi).setCell (p := ⟨g, 2, none⟩) (Nat.le_refl _) _, Keeps.setCell _ _ _ _⟩ h.le (Nat.le_refl _)
theorem Pst.bad (h : Pst g b T cs w wi p B) : wi.cell? ⟨g, 2, none⟩ = some (.bool p.bad) := by
  obtain ⟨q, A, c, h1⟩ := id h.pb
  exact h1.row.cell (i := 2) rfl
theorem Pst.cell (h : Pst g b T cs w wi p B) (i : Nat) {v : Value} (hv : cs[i]? = some v) : wi.cell? ⟨b, i, none⟩ = some v := h.row.cell hv
end
end Go.Proofs.YtbdkggnajipdhaaGreatDoor
/- Walk: the printer's head. -/
namespace Go.Proofs.YtbdkggnajipdhaaGreatDoor
open Go.RowKit
set_option maxRecDepth 100000
section
variable {g B : Nat} {w : World} {p : Pr}
set_option maxHeartbeats 4000000 in
theorem pbHead_any (h : PbIn g w p) (G : Gm) (Va Vt : Value) (hW : Laid w) (hg : 9 ≤ g) (hl : p.X.length ≤ B) (hlo : 32768 ≤ B) (hB : B ≤ 300000000) :
    Calls Tryz.prog 32 #[.pointer (some ⟨g, 0, none⟩), .agg (gmV G Va Vt).toArray] w fun e w' => e = .returned (.tuple #[]) ∧ Pst g w.heap.size 26 (gmV G Va Vt) w w' (p.head G.n) (B + 3000) := by
  refine calls_W (l := [_, _]) Tryz.func32 rfl _ Tryz.ntmps32 (by simp) ?_
  generalize hr : p.head G.n = r
  unfold Pr.head at hr
  have h0 := Pst.of_box (T := 26) (cs := gmV G Va Vt) h hW hg (by decide) hl hlo
  have b1 : w.cell? ⟨w.heap.size, 1, none⟩ = w.cell? ⟨w.heap.size, 1, none⟩ := rfl
  have k0 : (w.alloc (.cells (gmV G Va Vt).toArray 26)).cell? ⟨w.heap.size, 1, none⟩ = some (.int .i64 (G.n 0)) := h0.cell 1 rfl
  refine W_piece fun K hK hX => ?_
  simp +contextual (maxSteps := 2000000) (disch := (first | omega | (simp only [SZ]; first | done | omega) | (simp only [TS] at *; omega))) only [RZ, ovw, oneC, Nat.reduceAdd, Nat.reduceMul, Nat.reduceSub, Nat.reduceEqDiff, Nat.reduceLT, ↓reduceIte, Int.reduceToNat, Nat.reduceLeDiff]
  refine hK _ _ ?_
  clear hK hX K b1
  generalize w.alloc (.cells (gmV G Va Vt).toArray 26) = w0 at h0 k0 ⊢
  have hlt : w.heap.size < w0.heap.size := h0.row.lt
  refine W_cutS (fun σ w1 => ∃ s : ByteArray, bs s = (if G.n 0 = 1 then asc "choose" else asc "digits") ∧ σ 0 = .pointer (some ⟨g, 0, none⟩) ∧ σ 3 = .pointer (some ⟨w.heap.size, 0, none⟩) ∧ (G.n 0 = 1 ∨ G.n 0 = 2) ∧ Pst g w.heap.size 26 (gmV G Va Vt) w w1 (p.begin (bs s)) (B + 102)) ?_ ?_
  rotate_left
  · refine W_piece fun K hK hX => ?_
    simp +contextual (maxSteps := 2000000) (disch := (first | omega | (simp only [SZ]; first | done | omega) | (simp only [TS] at *; omega))) only [RZ, ovw, oneC, Nat.reduceAdd, Nat.reduceMul, Nat.reduceSub, Nat.reduceEqDiff, Nat.reduceLT, ↓reduceIte, Int.reduceToNat, Nat.reduceLeDiff,  k0]
    refine hK _ _ ?_
    clear hK hX K
    rw [W_block]
    refine W_piece fun K hK hX => ?_
    simp +contextual (maxSteps := 2000000) (disch := (first | omega | (simp only [SZ]; first | done | omega) | (simp only [TS] at *; omega))) only [RZ, ovw, oneC, Nat.reduceAdd, Nat.reduceMul, Nat.reduceSub, Nat.reduceEqDiff, Nat.reduceLT, ↓reduceIte, Int.reduceToNat, Nat.reduceLeDiff]
    refine hK _ _ ?_
    clear hK hX K
    by_cases e1 : G.n 0 = 1
    · rw [show decide (G.n 0 = 1) = true by simp [e1]]
      refine W_if_t rfl ?_
      simp +contextual (maxSteps := 2000000) (disch := (first | omega | (simp only [SZ]; first | done | omega) | (simp only [TS] at *; omega))) only [RZ, ovw, oneC, Nat.reduceAdd, Nat.reduceMul, Nat.reduceSub, Nat.reduceEqDiff, Nat.reduceLT, ↓reduceIte, Int.reduceToNat, Nat.reduceLeDiff]
      refine (qBegin h0 ⟨#[99, 104, 111, 111, 115, 101]⟩ (by decide) (by omega)).mono ?_
      rintro e w1 ⟨rfl, h1⟩
      refine ⟨_, rfl, ?_⟩
      try simp +contextual (maxSteps := 2000000) (disch := (first | omega | (simp only [SZ]; first | done | omega) | (simp only [TS] at *; omega))) only [RZ, ovw, oneC, Nat.reduceAdd, Nat.reduceMul, Nat.reduceSub, Nat.reduceEqDiff, Nat.reduceLT, ↓reduceIte, Int.reduceToNat, Nat.reduceLeDiff]
      refine ⟨⟨#[99, 104, 111, 111, 115, 101]⟩, ?_, .inl e1, h1⟩
      rw [if_pos e1]; decide +kernel
    · rw [show decide (G.n 0 = 1) = false by simp [e1]]
      refine W_if_f rfl ?_
      refine W_piece fun K hK hX => ?_
      simp +contextual (maxSteps := 2000000) (disch := (first | omega | (simp only [SZ]; first | done | omega) | (simp only [TS] at *; omega))) only [RZ, ovw, oneC, Nat.reduceAdd, Nat.reduceMul, Nat.reduceSub, Nat.reduceEqDiff, Nat.reduceLT, ↓reduceIte, Int.reduceToNat, Nat.reduceLeDiff]
      refine hK _ _ ?_
      clear hK hX K
      by_cases e2 : G.n 0 = 2
      · rw [show decide (G.n 0 = 2) = true by simp [e2]]
        refine W_if_t rfl ?_
        simp +contextual (maxSteps := 2000000) (disch := (first | omega | (simp only [SZ]; first | done | omega) | (simp only [TS] at *; omega))) only [RZ, ovw, oneC, Nat.reduceAdd, Nat.reduceMul, Nat.reduceSub, Nat.reduceEqDiff, Nat.reduceLT, ↓reduceIte, Int.reduceToNat, Nat.reduceLeDiff]
        refine (qBegin h0 ⟨#[100, 105, 103, 105, 116, 115]⟩ (by decide) (by omega)).mono ?_
        rintro e w1 ⟨rfl, h1⟩
        refine ⟨_, rfl, ?_⟩
        try simp +contextual (maxSteps := 2000000) (disch := (first | omega | (simp only [SZ]; first | done | omega) | (simp only [TS] at *; omega))) only [RZ, ovw, oneC, Nat.reduceAdd, Nat.reduceMul, Nat.reduceSub, Nat.reduceEqDiff, Nat.reduceLT, ↓reduceIte, Int.reduceToNat, Nat.reduceLeDiff]
        refine ⟨⟨#[100, 105, 103, 105, 116, 115]⟩, ?_, .inr e2, h1⟩
        rw [if_neg e1]; decide +kernel
      · rw [show decide (G.n 0 = 2) = false by simp [e2]]
        refine W_if_f rfl ?_
        obtain ⟨c2, d2, z2, h1⟩ := h0.spoil
        simp +contextual (maxSteps := 2000000) (disch := (first | omega | (simp only [SZ]; first | done | omega) | (simp only [TS] at *; omega))) only [RZ, ovw, oneC, Nat.reduceAdd, Nat.reduceMul, Nat.reduceSub, Nat.reduceEqDiff, Nat.reduceLT, ↓reduceIte, Int.reduceToNat, Nat.reduceLeDiff,  d2, z2]
        rw [if_neg (fun e => e.elim e1 e2)] at hr
        subst hr
        exact h1.next h1.pb (KB.refl _ _) (Nat.le_trans h1.le (by omega)) (by omega)
  clear k0
  rintro σ w1 ⟨s, hs, f0, f3, hc, h1⟩
  rw [hs] at h1
  rw [if_pos hc] at hr
  dsimp only at hr
  clear hc
  have d1 : w1.cell? ⟨w.heap.size, 3, none⟩ = some (.int .i64 (G.n 2)) := h1.cell 3 rfl
  refine W_piece fun K hK hX => ?_
  simp +contextual (maxSteps := 2000000) (disch := (first | omega | (simp only [SZ]; first | done | omega) | (simp only [TS] at *; omega))) only [RZ, ovw, oneC, Nat.reduceAdd, Nat.reduceMul, Nat.reduceSub, Nat.reduceEqDiff, Nat.reduceLT, ↓reduceIte, Int.reduceToNat, Nat.reduceLeDiff,  f0, f3, d1]
  refine (qNum h1 (G.n 2) (by omega)).mono ?_
  rintro e w2 ⟨rfl, h2⟩
  refine ⟨_, rfl, ?_⟩
  try simp +contextual (maxSteps := 2000000) (disch := (first | omega | (simp only [SZ]; first | done | omega) | (simp only [TS] at *; omega))) only [RZ, ovw, oneC, Nat.reduceAdd, Nat.reduceMul, Nat.reduceSub, Nat.reduceEqDiff, Nat.reduceLT, ↓reduceIte, Int.reduceToNat, Nat.reduceLeDiff,  f0, f3, d1]
  refine hK _ _ ?_
  clear hK hX K
  refine W_piece fun K hK hX => ?_
  simp +contextual (maxSteps := 2000000) (disch := (first | omega | (simp only [SZ]; first | done | omega) | (simp only [TS] at *; omega))) only [RZ, ovw, oneC, Nat.reduceAdd, Nat.reduceMul, Nat.reduceSub, Nat.reduceEqDiff, Nat.reduceLT, ↓reduceIte, Int.reduceToNat, Nat.reduceLeDiff,  f0, f3]
  refine (qWord h2 ⟨#[111, 102]⟩ (by decide) (by omega)).mono ?_
  rintro e w3 ⟨rfl, h3⟩
  refine ⟨_, rfl, ?_⟩
  rw [show bs ⟨#[111, 102]⟩ = asc "of" by decide +kernel] at h3
  try simp +contextual (maxSteps := 2000000) (disch := (first | omega | (simp only [SZ]; first | done | omega) | (simp only [TS] at *; omega))) only [RZ, ovw, oneC, Nat.reduceAdd, Nat.reduceMul, Nat.reduceSub, Nat.reduceEqDiff, Nat.reduceLT, ↓reduceIte, Int.reduceToNat, Nat.reduceLeDiff,  f0, f3]
  refine hK _ _ ?_
  clear hK hX K
  have d2 : w3.cell? ⟨w.heap.size, 4, none⟩ = some (.int .i64 (G.n 3)) := h3.cell 4 rfl
  refine W_piece fun K hK hX => ?_
  simp +contextual (maxSteps := 2000000) (disch := (first | omega | (simp only [SZ]; first | done | omega) | (simp only [TS] at *; omega))) only [RZ, ovw, oneC, Nat.reduceAdd, Nat.reduceMul, Nat.reduceSub, Nat.reduceEqDiff, Nat.reduceLT, ↓reduceIte, Int.reduceToNat, Nat.reduceLeDiff,  f0, f3, d2]
  refine (qNum h3 (G.n 3) (by omega)).mono ?_
  rintro e w4 ⟨rfl, h4⟩
  refine ⟨_, rfl, ?_⟩
  try simp +contextual (maxSteps := 2000000) (disch := (first | omega | (simp only [SZ]; first | done | omega) | (simp only [TS] at *; omega))) only [RZ, ovw, oneC, Nat.reduceAdd, Nat.reduceMul, Nat.reduceSub, Nat.reduceEqDiff, Nat.reduceLT, ↓reduceIte, Int.reduceToNat, Nat.reduceLeDiff,  f0, f3, d2]
  refine hK _ _ ?_
  clear hK hX K
  refine W_piece fun K hK hX => ?_
  simp +contextual (maxSteps := 2000000) (disch := (first | omega | (simp only [SZ]; first | done | omega) | (simp only [TS] at *; omega))) only [RZ, ovw, oneC, Nat.reduceAdd, Nat.reduceMul, Nat.reduceSub, Nat.reduceEqDiff, Nat.reduceLT, ↓reduceIte, Int.reduceToNat, Nat.reduceLeDiff,  f0, f3]
  refine (qEnd h4 (by omega)).mono ?_
  rintro e w5 ⟨rfl, h5⟩
  refine ⟨_, rfl, ?_⟩
  try simp +contextual (maxSteps := 2000000) (disch := (first | omega | (simp only [SZ]; first | done | omega) | (simp only [TS] at *; omega))) only [RZ, ovw, oneC, Nat.reduceAdd, Nat.reduceMul, Nat.reduceSub, Nat.reduceEqDiff, Nat.reduceLT, ↓reduceIte, Int.reduceToNat, Nat.reduceLeDiff,  f0, f3]
  refine hK _ _ ?_
  clear hK hX K
  have e6 : (((((p.begin (if G.n 0 = 1 then asc "choose" else asc "digits")).nums [G.n 2]).ws [asc "of"]).nums [G.n 3]).fin) = p.two (if G.n 0 = 1 then asc "choose" else asc "digits") (G.n 2) (G.n 3) := rfl
  rw [e6] at h5
  clear e6
  generalize p.two (if G.n 0 = 1 then asc "choose" else asc "digits") (G.n 2) (G.n 3) = p1 at h5 hr
  refine W_cutS (fun σ w6 => σ 0 = .pointer (some ⟨g, 0, none⟩) ∧ σ 3 = .pointer (some ⟨w.heap.size, 0, none⟩) ∧ Pst g w.heap.size 26 (gmV G Va Vt) w w6 (if G.n 4 ≠ 0 ∨ G.n 5 ≠ 0 then p1.two (asc "bonus") (G.n 4) (G.n 5) else p1) (B + 1000)) ?_ ?_
  rotate_left
  have d5 : w5.cell? ⟨w.heap.size, 5, none⟩ = some (.int .i64 (G.n 4)) := h5.cell 5 rfl
  have d6 : w5.cell? ⟨w.heap.size, 6, none⟩ = some (.int .i64 (G.n 5)) := h5.cell 6 rfl
  · refine W_piece fun K hK hX => ?_
    simp +contextual (maxSteps := 2000000) (disch := (first | omega | (simp only [SZ]; first | done | omega) | (simp only [TS] at *; omega))) only [RZ, ovw, oneC, Nat.reduceAdd, Nat.reduceMul, Nat.reduceSub, Nat.reduceEqDiff, Nat.reduceLT, ↓reduceIte, Int.reduceToNat, Nat.reduceLeDiff,  f0, f3, d5, d6]
    refine hK _ _ ?_
    clear hK hX K
    by_cases hc : G.n 4 ≠ 0 ∨ G.n 5 ≠ 0
    · rw [if_pos hc]
      refine W_if_t (by show Value.bool (!decide (G.n 4 = 0) || !decide (G.n 5 = 0)) = .bool true; rw [show (!decide (G.n 4 = 0) || !decide (G.n 5 = 0)) = true by simpa [Decidable.not_and_iff_not_or_not] using hc]) ?_
      refine W_piece fun K hK hX => ?_
      simp +contextual (maxSteps := 2000000) (disch := (first | omega | (simp only [SZ]; first | done | omega) | (simp only [TS] at *; omega))) only [RZ, ovw, oneC, Nat.reduceAdd, Nat.reduceMul, Nat.reduceSub, Nat.reduceEqDiff, Nat.reduceLT, ↓reduceIte, Int.reduceToNat, Nat.reduceLeDiff,  f0, f3]
      refine (qBegin h5 ⟨#[98, 111, 110, 117, 115]⟩ (by decide) (by omega)).mono ?_
      rintro e w6 ⟨rfl, h6⟩
      refine ⟨_, rfl, ?_⟩
      rw [show bs ⟨#[98, 111, 110, 117, 115]⟩ = asc "bonus" by decide +kernel] at h6
      try simp +contextual (maxSteps := 2000000) (disch := (first | omega | (simp only [SZ]; first | done | omega) | (simp only [TS] at *; omega))) only [RZ, ovw, oneC, Nat.reduceAdd, Nat.reduceMul, Nat.reduceSub, Nat.reduceEqDiff, Nat.reduceLT, ↓reduceIte, Int.reduceToNat, Nat.reduceLeDiff,  f0, f3]
      refine hK _ _ ?_
      clear hK hX K
      have d5 : w6.cell? ⟨w.heap.size, 5, none⟩ = some (.int .i64 (G.n 4)) := h6.cell 5 rfl
      refine W_piece fun K hK hX => ?_
      simp +contextual (maxSteps := 2000000) (disch := (first | omega | (simp only [SZ]; first | done | omega) | (simp only [TS] at *; omega))) only [RZ, ovw, oneC, Nat.reduceAdd, Nat.reduceMul, Nat.reduceSub, Nat.reduceEqDiff, Nat.reduceLT, ↓reduceIte, Int.reduceToNat, Nat.reduceLeDiff,  f0, f3, d5]
      refine (qNum h6 (G.n 4) (by omega)).mono ?_
      rintro e w7 ⟨rfl, h7⟩
      refine ⟨_, rfl, ?_⟩
      try simp +contextual (maxSteps := 2000000) (disch := (first | omega | (simp only [SZ]; first | done | omega) | (simp only [TS] at *; omega))) only [RZ, ovw, oneC, Nat.reduceAdd, Nat.reduceMul, Nat.reduceSub, Nat.reduceEqDiff, Nat.reduceLT, ↓reduceIte, Int.reduceToNat, Nat.reduceLeDiff,  f0, f3, d5]
      refine hK _ _ ?_
      clear hK hX K
      refine W_piece fun K hK hX => ?_
      simp +contextual (maxSteps := 2000000) (disch := (first | omega | (simp only [SZ]; first | done | omega) | (simp only [TS] at *; omega))) only [RZ, ovw, oneC, Nat.reduceAdd, Nat.reduceMul, Nat.reduceSub, Nat.reduceEqDiff, Nat.reduceLT, ↓reduceIte, Int.reduceToNat, Nat.reduceLeDiff,  f0, f3]
      refine (qWord h7 ⟨#[111, 102]⟩ (by decide) (by omega)).mono ?_
      rintro e w8 ⟨rfl, h8⟩
      refine ⟨_, rfl, ?_⟩
      rw [show bs ⟨#[111, 102]⟩ = asc "of" by decide +kernel] at h8
      try simp +contextual (maxSteps := 2000000) (disch := (first | omega | (simp only [SZ]; first | done | omega) | (simp only [TS] at *; omega))) only [RZ, ovw, oneC, Nat.reduceAdd, Nat.reduceMul, Nat.reduceSub, Nat.reduceEqDiff, Nat.reduceLT, ↓reduceIte, Int.reduceToNat, Nat.reduceLeDiff,  f0, f3]
      refine hK _ _ ?_
      clear hK hX K
      have d6 : w8.cell? ⟨w.heap.size, 6, none⟩ = some (.int .i64 (G.n 5)) := h8.cell 6 rfl
      refine W_piece fun K hK hX => ?_
      simp +contextual (maxSteps := 2000000) (disch := (first | omega | (simp only [SZ]; first | done | omega) | (simp only [TS] at *; omega))) only [RZ, ovw, oneC, Nat.reduceAdd, Nat.reduceMul, Nat.reduceSub, Nat.reduceEqDiff, Nat.reduceLT, ↓reduceIte, Int.reduceToNat, Nat.reduceLeDiff,  f0, f3, d6]
      refine (qNum h8 (G.n 5) (by omega)).mono ?_
      rintro e w9 ⟨rfl, h9⟩
      refine ⟨_, rfl, ?_⟩
      try simp +contextual (maxSteps := 2000000) (disch := (first | omega | (simp only [SZ]; first | done | omega) | (simp only [TS] at *; omega))) only [RZ, ovw, oneC, Nat.reduceAdd, Nat.reduceMul, Nat.reduceSub, Nat.reduceEqDiff, Nat.reduceLT, ↓reduceIte, Int.reduceToNat, Nat.reduceLeDiff,  f0, f3, d6]
      refine hK _ _ ?_
      clear hK hX K
      simp +contextual (maxSteps := 2000000) (disch := (first | omega | (simp only [SZ]; first | done | omega) | (simp only [TS] at *; omega))) only [RZ, ovw, oneC, Nat.reduceAdd, Nat.reduceMul, Nat.reduceSub, Nat.reduceEqDiff, Nat.reduceLT, ↓reduceIte, Int.reduceToNat, Nat.reduceLeDiff,  f0, f3]
      refine (qEnd h9 (by omega)).mono ?_
      rintro e w10 ⟨rfl, h10⟩
      refine ⟨_, rfl, ?_⟩
      try simp +contextual (maxSteps := 2000000) (disch := (first | omega | (simp only [SZ]; first | done | omega) | (simp only [TS] at *; omega))) only [RZ, ovw, oneC, Nat.reduceAdd, Nat.reduceMul, Nat.reduceSub, Nat.reduceEqDiff, Nat.reduceLT, ↓reduceIte, Int.reduceToNat, Nat.reduceLeDiff,  f0, f3]
      exact h10.next h10.pb (KB.refl _ _) (Nat.le_trans h10.le (by omega)) (by omega)
    · rw [if_neg hc]
      refine W_if_f (by show Value.bool (!decide (G.n 4 = 0) || !decide (G.n 5 = 0)) = .bool false; rw [show (!decide (G.n 4 = 0) || !decide (G.n 5 = 0)) = false by simpa using hc]) ?_
      rw [W_skip, thenX_normal]
      refine ⟨?_, ?_, h5.next h5.pb (KB.refl _ _) (Nat.le_trans h5.le (by omega)) (by omega)⟩
      · simp +contextual (maxSteps := 2000000) (disch := (first | omega | (simp only [SZ]; first | done | omega) | (simp only [TS] at *; omega))) only [RZ, ovw, oneC, Nat.reduceAdd, Nat.reduceMul, Nat.reduceSub, Nat.reduceEqDiff, Nat.reduceLT, ↓reduceIte, Int.reduceToNat, Nat.reduceLeDiff,  f0]
      · simp +contextual (maxSteps := 2000000) (disch := (first | omega | (simp only [SZ]; first | done | omega) | (simp only [TS] at *; omega))) only [RZ, ovw, oneC, Nat.reduceAdd, Nat.reduceMul, Nat.reduceSub, Nat.reduceEqDiff, Nat.reduceLT, ↓reduceIte, Int.reduceToNat, Nat.reduceLeDiff,  f3]
  clear h1 h2 h3 h4 h5 d1 d2
  generalize (if G.n 4 ≠ 0 ∨ G.n 5 ≠ 0 then p1.two (asc "bonus") (G.n 4) (G.n 5) else p1) = p2 at hr ⊢
  rintro σ w1 ⟨f0, f3, h1⟩
  have d7 : w1.cell? ⟨w.heap.size, 7, none⟩ = some (.int .i64 (G.n 6)) := h1.cell 7 rfl
  refine W_piece fun K hK hX => ?_
  simp +contextual (maxSteps := 2000000) (disch := (first | omega | (simp only [SZ]; first | done | omega) | (simp only [TS] at *; omega))) only [RZ, ovw, oneC, Nat.reduceAdd, Nat.reduceMul, Nat.reduceSub, Nat.reduceEqDiff, Nat.reduceLT, ↓reduceIte, Int.reduceToNat, Nat.reduceLeDiff,  f0, f3, d7]
  refine (qOpt h1 ⟨#[101, 120, 116, 114, 97]⟩ (G.n 6) 0 (by decide) (by omega)).mono ?_
  rintro e w2 ⟨rfl, h2⟩
  refine ⟨_, rfl, ?_⟩
  rw [show bs ⟨#[101, 120, 116, 114, 97]⟩ = asc "extra" by decide +kernel] at h2
  try simp +contextual (maxSteps := 2000000) (disch := (first | omega | (simp only [SZ]; first | done | omega) | (simp only [TS] at *; omega))) only [RZ, ovw, oneC, Nat.reduceAdd, Nat.reduceMul, Nat.reduceSub, Nat.reduceEqDiff, Nat.reduceLT, ↓reduceIte, Int.reduceToNat, Nat.reduceLeDiff,  f0, f3, d7]
  refine hK _ _ ?_
  clear hK hX K
  have d8 : w2.cell? ⟨w.heap.size, 2, none⟩ = some (.int .i64 (G.n 1)) := h2.cell 2 rfl
  refine W_piece fun K hK hX => ?_
  simp +contextual (maxSteps := 2000000) (disch := (first | omega | (simp only [SZ]; first | done | omega) | (simp only [TS] at *; omega))) only [RZ, ovw, oneC, Nat.reduceAdd, Nat.reduceMul, Nat.reduceSub, Nat.reduceEqDiff, Nat.reduceLT, ↓reduceIte, Int.reduceToNat, Nat.reduceLeDiff,  f0, f3, d8]
  refine (qOpt h2 ⟨#[112, 114, 105, 99, 101]⟩ (G.n 1) 0 (by decide) (by omega)).mono ?_
  rintro e w3 ⟨rfl, h3⟩
  refine ⟨_, rfl, ?_⟩
  rw [show bs ⟨#[112, 114, 105, 99, 101]⟩ = asc "price" by decide +kernel] at h3
  try simp +contextual (maxSteps := 2000000) (disch := (first | omega | (simp only [SZ]; first | done | omega) | (simp only [TS] at *; omega))) only [RZ, ovw, oneC, Nat.reduceAdd, Nat.reduceMul, Nat.reduceSub, Nat.reduceEqDiff, Nat.reduceLT, ↓reduceIte, Int.reduceToNat, Nat.reduceLeDiff,  f0, f3, d8]
  refine hK _ _ ?_
  clear hK hX K
  have d9 : w3.cell? ⟨w.heap.size, 8, none⟩ = some (.int .i64 (G.n 7)) := h3.cell 8 rfl
  refine W_piece fun K hK hX => ?_
  simp +contextual (maxSteps := 2000000) (disch := (first | omega | (simp only [SZ]; first | done | omega) | (simp only [TS] at *; omega))) only [RZ, ovw, oneC, Nat.reduceAdd, Nat.reduceMul, Nat.reduceSub, Nat.reduceEqDiff, Nat.reduceLT, ↓reduceIte, Int.reduceToNat, Nat.reduceLeDiff,  f0, f3, d9]
  refine (qOpt h3 ⟨#[100, 114, 97, 119, 115]⟩ (G.n 7) 1 (by decide) (by omega)).mono ?_
  rintro e w4 ⟨rfl, h4⟩
  refine ⟨_, rfl, ?_⟩
  rw [show bs ⟨#[100, 114, 97, 119, 115]⟩ = asc "draws" by decide +kernel] at h4
  try simp +contextual (maxSteps := 2000000) (disch := (first | omega | (simp only [SZ]; first | done | omega) | (simp only [TS] at *; omega))) only [RZ, ovw, oneC, Nat.reduceAdd, Nat.reduceMul, Nat.reduceSub, Nat.reduceEqDiff, Nat.reduceLT, ↓reduceIte, Int.reduceToNat, Nat.reduceLeDiff,  f0, f3, d9]
  refine hK _ _ ?_
  clear hK hX K
  have d10 : w4.cell? ⟨w.heap.size, 9, none⟩ = some (.int .i64 (G.n 8)) := h4.cell 9 rfl
  have d11 : w4.cell? ⟨w.heap.size, 3, none⟩ = some (.int .i64 (G.n 2)) := h4.cell 3 rfl
  simp +contextual (maxSteps := 2000000) (disch := (first | omega | (simp only [SZ]; first | done | omega) | (simp only [TS] at *; omega))) only [RZ, ovw, oneC, Nat.reduceAdd, Nat.reduceMul, Nat.reduceSub, Nat.reduceEqDiff, Nat.reduceLT, ↓reduceIte, Int.reduceToNat, Nat.reduceLeDiff,  f0, f3, d10, d11]
  refine (qOpt h4 ⟨#[115, 121, 115, 116, 101, 109]⟩ (G.n 8) (G.n 2) (by decide) (by omega)).mono ?_
  rintro e w5 ⟨rfl, h5⟩
  refine ⟨_, rfl, ?_⟩
  rw [show bs ⟨#[115, 121, 115, 116, 101, 109]⟩ = asc "system" by decide +kernel] at h5
  try simp +contextual (maxSteps := 2000000) (disch := (first | omega | (simp only [SZ]; first | done | omega) | (simp only [TS] at *; omega))) only [RZ, ovw, oneC, Nat.reduceAdd, Nat.reduceMul, Nat.reduceSub, Nat.reduceEqDiff, Nat.reduceLT, ↓reduceIte, Int.reduceToNat, Nat.reduceLeDiff,  f0, f3, d10, d11]
  subst hr
  exact h5.next h5.pb (KB.refl _ _) (Nat.le_trans h5.le (by omega)) (by omega)
end
end Go.Proofs.YtbdkggnajipdhaaGreatDoor
