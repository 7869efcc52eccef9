/- Texts laid one behind the other: PaA, PaB, PaC, PaD. Each says at its head what it proves. -/
import Derived.Test.YtbdkggnajipdhaaDoorRtBkZ06
set_option linter.unusedSimpArgs false
/- Walks: the reader of a game's tokens: fail, peek, take. -/
namespace Go.Proofs.YtbdkggnajipdhaaDoor
open Nat (reduceAdd reduceMul reduceSub reduceEqDiff reduceLT reduceLeDiff)
open Go.RowKit
set_option maxRecDepth 100000
/-- What the reader panics with. -/
def failV (e line : Int) : Value := .iface 67 (.agg #[.int .i64 e, .int .i64 line])
theorem cncF : cncB Tryd.prog 67 = true := by kernel_rfl
theorem paFail_any (g : Nat) (e : Int) (t : Tk) (w : World) : Calls Tryd.prog 66 #[.pointer (some ⟨g, 0, none⟩), .int .i64 e, .agg (encTk t).toArray] w fun en w' => en = .panicked [{ v := failV e t.line, recovered := false }] ∧ Below w.heap.size w w' := by
  refine calls_WX (l := [_, _, _]) Tryd.func66 rfl _ Tryd.ntmps66 (by simp) ?_
  rw [show (encTk t).toArray = #[.int .i64 t.kind, .int .i64 t.line, .int .i64 t.col, .string t.text] from rfl]
  simp +contextual (maxSteps := 2000000) (disch := first | omega | (simp only [SZ]; first | done | omega) | (simp only [TS] at *; omega)) only [PZ, RZ, ovw, oneC, reduceAdd, reduceMul, reduceSub, reduceEqDiff, reduceLT, ↓reduceIte, Int.reduceToNat, reduceLeDiff,  cncF]
  exact ⟨rfl, below_alloc _ _⟩
/-- The reader's tokens: what they are, and that the last one, and no other, is the end. -/
structure TokOk (T : List Tk) : Prop where
  big : T.length ≤ 1000000
  szs : ∀ t ∈ T, t.text.size ≤ 1000000
  num : ∀ t ∈ T, t.kind = 2 → (numE (bs t.text)).2 = 0 ∧ 0 ≤ (numE (bs t.text)).1 ∧ (numE (bs t.text)).1 ≤ 999999999999999999
  last : ∀ a t, T[a]? = some t → t.kind ≠ 0 → a + 1 < T.length
  fin : ∀ a t, T[a]? = some t → t.kind = 0 → a + 1 = T.length
  kinds : ∀ t ∈ T, 0 ≤ t.kind ∧ t.kind ≤ 3
  lines : ∀ t ∈ T, 0 ≤ t.line ∧ t.line ≤ 1000000
theorem nxT_drop {T : List Tk} {a : Nat} (h : a + 1 < T.length) : nxT (T.drop a) = T.drop (a + 1) := by
  rw [List.drop_eq_getElem_cons (show a < T.length by omega), List.drop_eq_getElem_cons h]
  rfl
theorem hdT_drop {T : List Tk} {a : Nat} {t : Tk} (h : T[a]? = some t) : hdT (T.drop a) = t := by
  obtain ⟨hk, rfl⟩ := List.getElem?_eq_some_iff.1 h
  rw [List.drop_eq_getElem_cons hk]
  rfl
/-- A reader at the a-th of its tokens; behind these two cells: rest. -/
structure PkIn (w : World) (g : Nat) (A : Option Addr) (c : Nat) (T : List Tk) (a : Nat) (rest : List Value) : Prop where
  lt : a < T.length
  arr : Arr w A 4 (T.map encTk)
  off : ∀ b o, A = some ⟨b, o, none⟩ → b ≠ g
  row : Row w g 71 (.slice A T.length c :: .int .i64 a :: rest)
theorem PkIn.kept {X : List Nat} {w w' : World} {g : Nat} {A : Option Addr} {c : Nat} {T : List Tk} {a : Nat} {rest : List Value} (h : PkIn w g A c T a rest) (k : Kept X w w') (hg : g ∉ X) (hA : ∀ b o, A = some ⟨b, o, none⟩ → b ∉ X) : PkIn w' g A c T a rest :=
  ⟨h.lt, h.arr.kept k hA, h.off, h.row.kept k hg⟩
theorem PkIn.below {w w' : World} {g : Nat} {A : Option Addr} {c : Nat} {T : List Tk} {a : Nat} {rest : List Value} (h : PkIn w g A c T a rest) (k : Below w.heap.size w w') : PkIn w' g A c T a rest :=
  ⟨h.lt, h.arr.below k, h.off, h.row.below k⟩
section
variable {g c a : Nat} {A : Option Addr} {T : List Tk} {w : World} {rest : List Value}
theorem paPeek_any (h : PkIn w g A c T a rest) (hT : TokOk T) : Calls Tryd.prog 45 #[.pointer (some ⟨g, 0, none⟩)] w fun e w' => e = .returned (.agg (encTk (hdT (T.drop a))).toArray) ∧ Below w.heap.size w w' := by
  refine calls_W (l := [_]) Tryd.func45 rfl _ Tryd.ntmps45 (by simp) ?_
  obtain ⟨h1, h2, h3, h4⟩ := h
  have hbig := hT.big
  obtain ⟨t, ht⟩ : ∃ t, T[a]? = some t := ⟨_, List.getElem?_eq_getElem h1⟩
  rw [hdT_drop ht]
  obtain ⟨b, o, rfl, hb, hcell⟩ := h2.at_ ht
  have l0 := hcell 0 _ rfl
  rw [Nat.add_zero] at l0
  have l1 := hcell 1 _ rfl
  have l2 := hcell 2 _ rfl
  have l3 := hcell 3 _ rfl
  have c0 := h4.cell (i := 0) rfl
  have c1 := h4.cell (i := 1) rfl
  have hgl := h4.lt
  simp +contextual (maxSteps := 2000000) (disch := first | omega | (simp only [SZ]; first | done | omega) | (simp only [TS] at *; omega)) only [RZ, ovw, oneC, reduceAdd, reduceMul, reduceSub, reduceEqDiff, reduceLT, ↓reduceIte, Int.reduceToNat, reduceLeDiff]
  have hB := below_alloc w (.cells #[.int .i64 0, .int .i64 0, .int .i64 0, .string ByteArray.empty] 38)
  have hr := Row.new w 38 [.int .i64 0, .int .i64 0, .int .i64 0, .string ByteArray.empty]
  replace hr : Row (w.alloc (.cells #[.int .i64 0, .int .i64 0, .int .i64 0, .string ByteArray.empty] 38)) _ _ _ := hr
  have hz : (w.alloc (.cells #[.int .i64 0, .int .i64 0, .int .i64 0, .string ByteArray.empty] 38)).heap.size = w.heap.size + 1 := World.size_alloc _ _
  generalize w.alloc (.cells #[.int .i64 0, .int .i64 0, .int .i64 0, .string ByteArray.empty] 38) = w1 at *
  have r0 := hr.cell (i := 0) rfl
  have r1 := hr.cell (i := 1) rfl
  have r2 := hr.cell (i := 2) rfl
  have r3 := hr.cell (i := 3) rfl
  have y0 := hr.frozen 0
  have y1 := hr.frozen 1
  have y2 := hr.frozen 2
  have y3 := hr.frozen 3
  have hBd : Below w.heap.size w w1.drew := ⟨hB.os, hB.tape, hB.output, hB.size, hB.block⟩
  refine Raw_rcS (τ := ?ta) (fun w' => Below w.heap.size w w') [0, 1, 2, 3, 4, 5, 6, 7, 8, 9] [10] MX rfl (by kernel_rfl) (by kernel_rfl) (by kernel_rfl) (fun _ _ _ h => h) hBd (fun w7 h7 => ?_) ?_; rotate_left
  · have k := (bcell h7).1
    have l0 := (k _ _ hb).trans l0
    have l1 := (k _ _ hb).trans l1
    have l2 := (k _ _ hb).trans l2
    have l3 := (k _ _ hb).trans l3
    have c0 := (k _ _ hgl).trans c0
    have c1 := (k _ _ hgl).trans c1
    simp only [opsL_cons, opsL_nil, List.getElem?_toArray, List.getElem?_cons_zero, List.getElem?_cons_succ, optL_some]
    simp +contextual (maxSteps := 2000000) (disch := first | omega | (simp only [SZ]; first | done | omega) | (simp only [TS] at *; omega)) only [RZ, ovw, oneC, reduceAdd, reduceMul, reduceSub, reduceEqDiff, reduceLT, ↓reduceIte, Int.reduceToNat, reduceLeDiff,  c0, c1, l0, l1, l2, l3]
    exact rfl
  simp only [opsL_cons, opsL_nil, List.getElem?_toArray, List.getElem?_cons_zero, List.getElem?_cons_succ, optL_some]
  simp +contextual (maxSteps := 2000000) (disch := first | omega | (simp only [SZ]; first | done | omega) | (simp only [TS] at *; omega)) only [RZ, ovw, oneC, reduceAdd, reduceMul, reduceSub, reduceEqDiff, reduceLT, ↓reduceIte, Int.reduceToNat, reduceLeDiff,  EC_op, EC_nil, r0, r1, r2, r3, y0, y1, y2, y3]
  have hf : Below w.heap.size w ((((w1.setCell ⟨w.heap.size, 0, none⟩ (.int .i64 t.kind)).setCell ⟨w.heap.size, 1, none⟩ (.int .i64 t.line)).setCell ⟨w.heap.size, 2, none⟩ (.int .i64 t.col)).setCell ⟨w.heap.size, 3, none⟩ (.string t.text)).drew := by
    have h4 := (((hB.setCell (p := ⟨w.heap.size, 0, none⟩) (Nat.le_refl _) (.int .i64 t.kind)).setCell (p := ⟨w.heap.size, 1, none⟩) (Nat.le_refl _) (.int .i64 t.line)).setCell (p := ⟨w.heap.size, 2, none⟩) (Nat.le_refl _) (.int .i64 t.col)).setCell (p := ⟨w.heap.size, 3, none⟩) (Nat.le_refl _) (.string t.text)
    exact ⟨h4.os, h4.tape, h4.output, h4.size, h4.block⟩
  exact ⟨hf, rfl, hf⟩
end
/-- What a reader's call gives: a value and what is left, or an error and where. -/
def Res {α : Type} (g : Nat) (A : Option Addr) (c : Nat) (T : List Tk) (rest : List Value) (w : World) (r : Except (Int × List Tk) (α × List Tk)) (val : α → Value) (e : Ending) (w' : World) : Prop := Kept [g] w w' ∧ match r with
  | .ok x => e = .returned (val x.1) ∧ ∃ a', x.2 = T.drop a' ∧ PkIn w' g A c T a' rest
  | .error x => e = .panicked [{ v := failV x.1 (hdT x.2).line, recovered := false }]
def takeT (k : Int) (L : List Tk) : Except (Int × List Tk) (Tk × List Tk) := if (hdT L).kind = k then .ok (hdT L, nxT L) else .error (1, L)
/-- A token's box: new, and then filled. -/
def boxW (w : World) (b : Nat) (t : Tk) : World := (((w.setCell ⟨b, 0, none⟩ (.int .i64 t.kind)).setCell ⟨b, 1, none⟩ (.int .i64 t.line)).setCell ⟨b, 2, none⟩ (.int .i64 t.col)).setCell ⟨b, 3, none⟩ (.string t.text)
theorem box_kept {X : List Nat} {b : Nat} {w w' : World} (h : Kept X w w') (hb : b ∈ X ∨ w.heap.size ≤ b) (t : Tk) : Kept X w (boxW w' b t) := by
  have : Kept (b :: X) w (boxW w' b t) := ((((h.less fun k hk _ => List.mem_cons_of_mem _ hk).setCell (p := ⟨b, 0, none⟩) (by simp) (.int .i64 t.kind)).setCell (p := ⟨b, 1, none⟩) (by simp) (.int .i64 t.line)).setCell (p := ⟨b, 2, none⟩) (by simp) (.int .i64 t.col)).setCell (p := ⟨b, 3, none⟩) (by simp) (.string t.text)
  refine this.less fun k hk hl => ?_
  rcases List.mem_cons.1 hk with rfl | hk
  · rcases hb with hb | hb
    · exact hb
    · omega
  · exact hk
section
variable {g c a : Nat} {A : Option Addr} {T : List Tk} {w : World} {rest : List Value}
theorem PkIn.kept1 {w' : World} {rest' : List Value} (h : PkIn w g A c T a rest) (k : Kept [g] w w') {a' : Nat} (ha : a' < T.length) (hR : Row w' g 71 (.slice A T.length c :: .int .i64 a' :: rest')) : PkIn w' g A c T a' rest' :=
  ⟨ha, h.arr.kept k (fun b o hb => by have := h.off b o hb; simpa using this), h.off, hR⟩
theorem paTake_any (k : Int) (h : PkIn w g A c T a rest) (hT : TokOk T) : Calls Tryd.prog 47 #[.pointer (some ⟨g, 0, none⟩), .int .i64 k] w (Res g A c T rest w (takeT k (T.drop a)) fun t => .agg (encTk t).toArray) := by
  refine calls_WX (l := [_, _]) Tryd.func47 rfl _ Tryd.ntmps47 (by simp) ?_
  generalize hRes : (Res g A c T rest w (takeT k (T.drop a)) fun t => .agg (encTk t).toArray) = R
  have hlt := h.lt
  have hbig := hT.big
  have hgl := h.row.lt
  obtain ⟨t, ht⟩ : ∃ t, T[a]? = some t := ⟨_, List.getElem?_eq_getElem hlt⟩
  have htd := hdT_drop ht
  unfold takeT at hRes
  rw [htd] at hRes
  simp +contextual (maxSteps := 2000000) (disch := first | omega | (simp only [SZ]; first | done | omega) | (simp only [TS] at *; omega)) only [PZ, RZ, ovw, oneC, reduceAdd, reduceMul, reduceSub, reduceEqDiff, reduceLT, ↓reduceIte, Int.reduceToNat, reduceLeDiff]
  have h0 := h.below (below_alloc w (.cells #[Value.int .i64 0, .int .i64 0, .int .i64 0, .string ByteArray.empty] 38))
  have k0 : Kept [g] w _ := Kept.of_below (below_alloc w (.cells #[Value.int .i64 0, .int .i64 0, .int .i64 0, .string ByteArray.empty] 38))
  have r0 := Row.new w 38 [Value.int .i64 0, .int .i64 0, .int .i64 0, .string ByteArray.empty]
  have z0 : (w.alloc (.cells #[Value.int .i64 0, .int .i64 0, .int .i64 0, .string ByteArray.empty] 38)).heap.size = w.heap.size + 1 := World.size_alloc _ _
  change Calls _ _ _ (w.alloc (.cells #[Value.int .i64 0, .int .i64 0, .int .i64 0, .string ByteArray.empty] 38)) _
  generalize w.alloc (.cells #[Value.int .i64 0, .int .i64 0, .int .i64 0, .string ByteArray.empty] 38) = w0 at *
  refine (paPeek_any h0 hT).mono ?_
  rintro e w1 ⟨rfl, hB1⟩
  rw [htd, show (encTk t).toArray = #[.int .i64 t.kind, .int .i64 t.line, .int .i64 t.col, .string t.text] from rfl]
  have h1 := h0.below hB1
  have k1 := k0.trans (Kept.of_below hB1)
  have r1 := r0.below hB1
  have z1 := hB1.size
  replace r0 : Row w0 w.heap.size 38 _ := r0
  simp +contextual (maxSteps := 2000000) (disch := first | omega | (simp only [SZ]; first | done | omega) | (simp only [TS] at *; omega)) only [PZ, RZ, ovw, oneC, reduceAdd, reduceMul, reduceSub, reduceEqDiff, reduceLT, ↓reduceIte, Int.reduceToNat, reduceLeDiff]
  have h2 := h1.below (below_alloc w1 (.cells #[Value.int .i64 t.kind, .int .i64 t.line, .int .i64 t.col, .string t.text] 38))
  have k2 := k1.alloc (.cells #[Value.int .i64 t.kind, .int .i64 t.line, .int .i64 t.col, .string t.text] 38)
  have r2 := r1.alloc (.cells #[Value.int .i64 t.kind, .int .i64 t.line, .int .i64 t.col, .string t.text] 38)
  have q2 := Row.new w1 38 [Value.int .i64 t.kind, .int .i64 t.line, .int .i64 t.col, .string t.text]
  have z2 : (w1.alloc (.cells #[Value.int .i64 t.kind, .int .i64 t.line, .int .i64 t.col, .string t.text] 38)).heap.size = w1.heap.size + 1 := World.size_alloc _ _
  replace q2 : Row (w1.alloc (.cells #[Value.int .i64 t.kind, .int .i64 t.line, .int .i64 t.col, .string t.text] 38)) _ _ _ := q2
  generalize w1.alloc (.cells #[Value.int .i64 t.kind, .int .i64 t.line, .int .i64 t.col, .string t.text] 38) = w2 at *
  have c0 := q2.cell (i := 0) rfl
  have c1 := q2.cell (i := 1) rfl
  have c2 := q2.cell (i := 2) rfl
  have c3 := q2.cell (i := 3) rfl
  have d0 := r2.cell (i := 0) rfl
  have d1 := r2.cell (i := 1) rfl
  have d2 := r2.cell (i := 2) rfl
  have d3 := r2.cell (i := 3) rfl
  have e0 := r2.frozen 0
  have e1 := r2.frozen 1
  have e2 := r2.frozen 2
  have e3 := r2.frozen 3
  (refine WX_if rfl (fun hc => ?_) (fun hc => ?_) <;> (try simp only [TS] at hc))
  · simp +contextual (maxSteps := 2000000) (disch := first | omega | (simp only [SZ]; first | done | omega) | (simp only [TS] at *; omega)) only [PZ, RZ, ovw, oneC, reduceAdd, reduceMul, reduceSub, reduceEqDiff, reduceLT, ↓reduceIte, Int.reduceToNat, reduceLeDiff,  c0, c1, c2, c3]
    refine (paFail_any g 1 t w2).mono ?_
    rintro e w3 ⟨rfl, hB3⟩
    have hc' : ¬ t.kind = k := by simpa using hc
    subst hRes
    rw [if_neg hc', Ends_pan]
    refine ⟨k2.trans (Kept.of_below hB3), ?_⟩
    dsimp only
    rw [htd]
  · have hc' : t.kind = k := by simpa using hc
    simp +contextual (maxSteps := 2000000) (disch := first | omega | (simp only [SZ]; first | done | omega) | (simp only [TS] at *; omega)) only [PZ, RZ, ovw, oneC, reduceAdd, reduceMul, reduceSub, reduceEqDiff, reduceLT, ↓reduceIte, Int.reduceToNat, reduceLeDiff,  c0]
    (refine WX_if rfl (fun hc => ?_) (fun hc => ?_) <;> (try simp only [TS] at hc))
    · have p1 := h2.row.cell (i := 1) rfl
      have p1z := h2.row.frozen 1
      have hk0 : ¬ k = 0 := by simpa using hc
      have hlast := hT.last a t ht (by omega)
      simp +contextual (maxSteps := 2000000) (disch := first | omega | (simp only [SZ]; first | done | omega) | (simp only [TS] at *; omega)) only [PZ, RZ, ovw, oneC, reduceAdd, reduceMul, reduceSub, reduceEqDiff, reduceLT, ↓reduceIte, Int.reduceToNat, reduceLeDiff,  c0, c1, c2, c3, p1, p1z, d0, d1, d2, d3, e0, e1, e2, e3]
      subst hRes
      rw [if_pos hc']
      have k3 := k2.setCell (p := ⟨g, 1, none⟩) (by simp) (.int .i64 ((a : Int) + 1))
      have h3 := h2.kept1 ((Kept.refl [g] w2).setCell (p := ⟨g, 1, none⟩) (by simp) (.int .i64 ((a : Int) + 1))) hlast (h2.row.set_ (i := 1) (by simp) _)
      refine ⟨box_kept k3 (Or.inr (Nat.le_refl _)) t, rfl, a + 1, nxT_drop hlast, ?_⟩
      exact h3.kept (box_kept (X := [w.heap.size]) (Kept.refl _ _) (Or.inl (by simp)) t) (by simp; omega) (fun b o hb => by have := (h.arr (by simp; omega)); obtain ⟨b', o', e', hb', _⟩ := this; rw [hb] at e'; injection e' with e'; injection e' with e'; simp; omega)
    · simp +contextual (maxSteps := 2000000) (disch := first | omega | (simp only [SZ]; first | done | omega) | (simp only [TS] at *; omega)) only [PZ, RZ, ovw, oneC, reduceAdd, reduceMul, reduceSub, reduceEqDiff, reduceLT, ↓reduceIte, Int.reduceToNat, reduceLeDiff,  c0, c1, c2, c3, d0, d1, d2, d3, e0, e1, e2, e3]
      subst hRes
      rw [if_pos hc']
      have hk0 : k = 0 := by simpa using hc
      have hfin := hT.fin a t ht (by omega)
      refine ⟨box_kept k2 (Or.inr (Nat.le_refl _)) t, rfl, a, ?_, ?_⟩
      · rw [List.drop_eq_getElem_cons hlt, List.drop_eq_nil_of_le (by omega)]
        rfl
      exact h2.kept (box_kept (X := [w.heap.size]) (Kept.refl _ _) (Or.inl (by simp)) t) (by simp; omega) (fun b o hb => by have := (h.arr (by simp; omega)); obtain ⟨b', o', e', hb', _⟩ := this; rw [hb] at e'; injection e' with e'; injection e' with e'; simp; omega)
end
end Go.Proofs.YtbdkggnajipdhaaDoor
/- Walks: the reader of a game's tokens: expect, word, number, any, follows, pair. -/
namespace Go.Proofs.YtbdkggnajipdhaaDoor
open Nat (reduceAdd reduceMul reduceSub reduceEqDiff reduceLT reduceLeDiff)
open Go.RowKit
set_option maxRecDepth 100000
def expectT (k : Int) (s : ByteArray) (L : List Tk) : Except (Int × List Tk) (Unit × List Tk) := thenT (isT k (bs s) L) L fun L' => .ok ((), L')
def wordT (L : List Tk) : Except (Int × List Tk) (ByteArray × List Tk) := if (hdT L).kind = 1 then .ok ((hdT L).text, nxT L) else .error (1, L)
def numberT (m : Int) (L : List Tk) : Except (Int × List Tk) (Int × List Tk) := thenT (lessT m L) L fun x => .ok x
def anyT (L : List Tk) : Except (Int × List Tk) (Int × List Tk) := thenT (numT L) L fun x => .ok x
section
variable {g c a : Nat} {A : Option Addr} {T : List Tk} {w : World} {rest : List Value}
theorem Res.after {α : Type} {r : Except (Int × List Tk) (α × List Tk)} {val : α → Value} {e : Ending} {w0 w1 : World} (h : Res g A c T rest w1 r val e w0) (k : Kept [g] w w1) : Res g A c T rest w r val e w0 := ⟨k.trans h.1, h.2⟩
theorem paExpect_any (k : Int) (s : ByteArray) (h : PkIn w g A c T a rest) (hT : TokOk T) : Calls Tryd.prog 43 #[.pointer (some ⟨g, 0, none⟩), .int .i64 k, .string s] w (Res g A c T rest w (expectT k s (T.drop a)) fun _ => .tuple #[]) := by
  refine calls_WX (l := [_, _, _]) Tryd.func43 rfl _ Tryd.ntmps43 (by simp) ?_
  generalize hRes : (Res g A c T rest w (expectT k s (T.drop a)) fun _ => .tuple #[]) = R
  have hlt := h.lt
  simp +contextual (maxSteps := 2000000) (disch := first | omega | (simp only [SZ]; first | done | omega) | (simp only [TS] at *; omega)) only [PZ, RZ, ovw, oneC, reduceAdd, reduceMul, reduceSub, reduceEqDiff, reduceLT, ↓reduceIte, Int.reduceToNat, reduceLeDiff]
  refine (paPeek_any h hT).mono ?_
  rintro e w1 ⟨rfl, hB1⟩
  generalize htd : hdT (T.drop a) = t
  rw [show (encTk t).toArray = #[.int .i64 t.kind, .int .i64 t.line, .int .i64 t.col, .string t.text] from rfl]
  have h1 := h.below hB1
  have k1 : Kept [g] w w1 := Kept.of_below hB1
  simp +contextual (maxSteps := 2000000) (disch := first | omega | (simp only [SZ]; first | done | omega) | (simp only [TS] at *; omega)) only [PZ, RZ, ovw, oneC, reduceAdd, reduceMul, reduceSub, reduceEqDiff, reduceLT, ↓reduceIte, Int.reduceToNat, reduceLeDiff]
  have h2 := h1.below (below_alloc w1 (.cells #[Value.int .i64 t.kind, .int .i64 t.line, .int .i64 t.col, .string t.text] 38))
  have k2 := k1.alloc (.cells #[Value.int .i64 t.kind, .int .i64 t.line, .int .i64 t.col, .string t.text] 38)
  have q2 := Row.new w1 38 [Value.int .i64 t.kind, .int .i64 t.line, .int .i64 t.col, .string t.text]
  replace q2 : Row (w1.alloc (.cells #[Value.int .i64 t.kind, .int .i64 t.line, .int .i64 t.col, .string t.text] 38)) _ _ _ := q2
  generalize w1.alloc (.cells #[Value.int .i64 t.kind, .int .i64 t.line, .int .i64 t.col, .string t.text] 38) = w2 at *
  have c0 := q2.cell (i := 0) rfl
  have c1 := q2.cell (i := 1) rfl
  have c2 := q2.cell (i := 2) rfl
  have c3 := q2.cell (i := 3) rfl
  (refine WX_if rfl (fun hc => ?_) (fun hc => ?_) <;> (try simp only [TS] at hc))
  · simp +contextual (maxSteps := 2000000) (disch := first | omega | (simp only [SZ]; first | done | omega) | (simp only [TS] at *; omega)) only [PZ, RZ, ovw, oneC, reduceAdd, reduceMul, reduceSub, reduceEqDiff, reduceLT, ↓reduceIte, Int.reduceToNat, reduceLeDiff,  c0, c1, c2, c3]
    refine (paFail_any g 1 t w2).mono ?_
    rintro e w3 ⟨rfl, hB3⟩
    have hc' : ¬ t.text = s := by simpa using hc
    have hI : isT k (bs s) (T.drop a) = none := isT_no (by rw [htd]; exact fun h => hc' (bs_inj h.2))
    subst hRes
    rw [Ends_pan, expectT, hI]
    refine ⟨k2.trans (Kept.of_below hB3), ?_⟩
    dsimp only [thenT]
    rw [htd]
  · have hc' : t.text = s := by simpa using hc
    simp +contextual (maxSteps := 2000000) (disch := first | omega | (simp only [SZ]; first | done | omega) | (simp only [TS] at *; omega)) only [PZ, RZ, ovw, oneC, reduceAdd, reduceMul, reduceSub, reduceEqDiff, reduceLT, ↓reduceIte, Int.reduceToNat, reduceLeDiff,  c0]
    refine (paTake_any k h2 hT).mono ?_
    rintro e w3 h3
    have h4 := h3.after k2
    subst hRes
    by_cases hk : t.kind = k
    · rw [takeT, htd, if_pos hk] at h4
      obtain ⟨k4, rfl, h5⟩ := h4
      simp +contextual (maxSteps := 2000000) (disch := first | omega | (simp only [SZ]; first | done | omega) | (simp only [TS] at *; omega)) only [PZ, RZ, ovw, oneC, reduceAdd, reduceMul, reduceSub, reduceEqDiff, reduceLT, ↓reduceIte, Int.reduceToNat, reduceLeDiff]
      rw [expectT, isT_yes (by rw [htd]; exact hk) (by rw [htd, hc'])]
      exact ⟨k4, rfl, h5⟩
    · rw [takeT, htd, if_neg hk] at h4
      obtain ⟨k4, rfl⟩ := h4
      simp +contextual (maxSteps := 2000000) (disch := first | omega | (simp only [SZ]; first | done | omega) | (simp only [TS] at *; omega)) only [PZ, RZ, ovw, oneC, reduceAdd, reduceMul, reduceSub, reduceEqDiff, reduceLT, ↓reduceIte, Int.reduceToNat, reduceLeDiff]
      rw [expectT, isT_no (by rw [htd]; exact fun h => hk h.1)]
      exact ⟨k4, rfl⟩
theorem paWord_any (h : PkIn w g A c T a rest) (hT : TokOk T) : Calls Tryd.prog 44 #[.pointer (some ⟨g, 0, none⟩)] w (Res g A c T rest w (wordT (T.drop a)) fun s => .string s) := by
  refine calls_WX (l := [_]) Tryd.func44 rfl _ Tryd.ntmps44 (by simp) ?_
  generalize hRes : (Res g A c T rest w (wordT (T.drop a)) fun s => .string s) = R
  simp +contextual (maxSteps := 2000000) (disch := first | omega | (simp only [SZ]; first | done | omega) | (simp only [TS] at *; omega)) only [PZ, RZ, ovw, oneC, reduceAdd, reduceMul, reduceSub, reduceEqDiff, reduceLT, ↓reduceIte, Int.reduceToNat, reduceLeDiff]
  refine (paTake_any 1 h hT).mono ?_
  rintro e w1 h1
  subst hRes
  by_cases hk : (hdT (T.drop a)).kind = 1
  · rw [takeT, if_pos hk] at h1
    obtain ⟨k1, rfl, h2⟩ := h1
    generalize htd : hdT (T.drop a) = t at *
    dsimp only
    rw [show (encTk t).toArray = #[.int .i64 t.kind, .int .i64 t.line, .int .i64 t.col, .string t.text] from rfl]
    simp +contextual (maxSteps := 2000000) (disch := first | omega | (simp only [SZ]; first | done | omega) | (simp only [TS] at *; omega)) only [PZ, RZ, ovw, oneC, reduceAdd, reduceMul, reduceSub, reduceEqDiff, reduceLT, ↓reduceIte, Int.reduceToNat, reduceLeDiff]
    rw [wordT, htd, if_pos hk]
    exact ⟨k1, rfl, h2⟩
  · rw [takeT, if_neg hk] at h1
    obtain ⟨k1, rfl⟩ := h1
    simp +contextual (maxSteps := 2000000) (disch := first | omega | (simp only [SZ]; first | done | omega) | (simp only [TS] at *; omega)) only [PZ, RZ, ovw, oneC, reduceAdd, reduceMul, reduceSub, reduceEqDiff, reduceLT, ↓reduceIte, Int.reduceToNat, reduceLeDiff]
    rw [wordT, if_neg hk]
    exact ⟨k1, rfl⟩
theorem tok_mem (h : a < T.length) : hdT (T.drop a) ∈ T := by
  rw [hdT_drop (List.getElem?_eq_getElem h)]; exact List.getElem_mem h
theorem paNumber_any (m : Int) (h : PkIn w g A c T a rest) (hT : TokOk T) : Calls Tryd.prog 82 #[.pointer (some ⟨g, 0, none⟩), .int .i64 m] w (Res g A c T rest w (numberT m (T.drop a)) fun n => .int .i64 n) := by
  refine calls_WX (l := [_, _]) Tryd.func82 rfl _ Tryd.ntmps82 (by simp) ?_
  generalize hRes : (Res g A c T rest w (numberT m (T.drop a)) fun n => .int .i64 n) = R
  have hlt := h.lt
  have htm := tok_mem h.lt
  simp +contextual (maxSteps := 2000000) (disch := first | omega | (simp only [SZ]; first | done | omega) | (simp only [TS] at *; omega)) only [PZ, RZ, ovw, oneC, reduceAdd, reduceMul, reduceSub, reduceEqDiff, reduceLT, ↓reduceIte, Int.reduceToNat, reduceLeDiff]
  refine (paTake_any 2 h hT).mono ?_
  rintro e w1 h1
  by_cases hk : (hdT (T.drop a)).kind = 2
  · rw [takeT, if_pos hk] at h1
    obtain ⟨k1, rfl, a1, ha1, h2⟩ := h1
    generalize htd : hdT (T.drop a) = t at *
    have hnum := hT.num t htm hk
    have hsz := hT.szs t htm
    dsimp only
    rw [show (encTk t).toArray = #[.int .i64 t.kind, .int .i64 t.line, .int .i64 t.col, .string t.text] from rfl]
    simp +contextual (maxSteps := 2000000) (disch := first | omega | (simp only [SZ]; first | done | omega) | (simp only [TS] at *; omega)) only [PZ, RZ, ovw, oneC, reduceAdd, reduceMul, reduceSub, reduceEqDiff, reduceLT, ↓reduceIte, Int.reduceToNat, reduceLeDiff]
    have h3 := h2.below (below_alloc w1 (.cells #[Value.int .i64 t.kind, .int .i64 t.line, .int .i64 t.col, .string t.text] 38))
    have k3 := k1.alloc (.cells #[Value.int .i64 t.kind, .int .i64 t.line, .int .i64 t.col, .string t.text] 38)
    have q3 := Row.new w1 38 [Value.int .i64 t.kind, .int .i64 t.line, .int .i64 t.col, .string t.text]
    replace q3 : Row (w1.alloc (.cells #[Value.int .i64 t.kind, .int .i64 t.line, .int .i64 t.col, .string t.text] 38)) _ _ _ := q3
    generalize w1.alloc (.cells #[Value.int .i64 t.kind, .int .i64 t.line, .int .i64 t.col, .string t.text] 38) = w3 at *
    have c0 := q3.cell (i := 0) rfl
    have c1 := q3.cell (i := 1) rfl
    have c2 := q3.cell (i := 2) rfl
    have c3 := q3.cell (i := 3) rfl
    refine (numParse_any t.text w3 (by omega)).mono ?_
    rintro e w4 ⟨rfl, rfl⟩
    have hnT : numT (T.drop a) = some ((numE (bs t.text)).1, nxT (T.drop a)) := by unfold numT; rw [htd, if_pos ⟨hk, hnum.1⟩]
    generalize numE (bs t.text) = NE at *
    obtain ⟨n0, n1, n2⟩ := hnum
    simp +contextual (maxSteps := 2000000) (disch := first | omega | (simp only [SZ]; first | done | omega) | (simp only [TS] at *; omega)) only [PZ, RZ, ovw, oneC, reduceAdd, reduceMul, reduceSub, reduceEqDiff, reduceLT, ↓reduceIte, Int.reduceToNat, reduceLeDiff,  n0]
    by_cases hm : NE.1 ≤ m
    · have hd1 : decide (m < NE.1) = false := by simpa using hm
      simp +contextual (maxSteps := 2000000) (disch := first | omega | (simp only [SZ]; first | done | omega) | (simp only [TS] at *; omega)) only [PZ, RZ, ovw, oneC, reduceAdd, reduceMul, reduceSub, reduceEqDiff, reduceLT, ↓reduceIte, Int.reduceToNat, reduceLeDiff,  hd1]
      refine WX_if_f rfl ?_
      simp +contextual (maxSteps := 2000000) (disch := first | omega | (simp only [SZ]; first | done | omega) | (simp only [TS] at *; omega)) only [PZ, RZ, ovw, oneC, reduceAdd, reduceMul, reduceSub, reduceEqDiff, reduceLT, ↓reduceIte, Int.reduceToNat, reduceLeDiff]
      subst hRes
      rw [numberT, lessT, hnT]
      dsimp only
      rw [if_pos hm]
      exact ⟨k3, rfl, a1, ha1, h3⟩
    · have hd1 : decide (m < NE.1) = true := by simpa using hm
      simp +contextual (maxSteps := 2000000) (disch := first | omega | (simp only [SZ]; first | done | omega) | (simp only [TS] at *; omega)) only [PZ, RZ, ovw, oneC, reduceAdd, reduceMul, reduceSub, reduceEqDiff, reduceLT, ↓reduceIte, Int.reduceToNat, reduceLeDiff,  hd1]
      refine WX_if_t rfl ?_
      simp +contextual (maxSteps := 2000000) (disch := first | omega | (simp only [SZ]; first | done | omega) | (simp only [TS] at *; omega)) only [PZ, RZ, ovw, oneC, reduceAdd, reduceMul, reduceSub, reduceEqDiff, reduceLT, ↓reduceIte, Int.reduceToNat, reduceLeDiff,  c0, c1, c2, c3]
      refine (paFail_any g 1 t w3).mono ?_
      rintro e w4 ⟨rfl, hB4⟩
      subst hRes
      rw [Ends_pan, numberT, lessT, hnT]
      dsimp only
      rw [if_neg hm]
      refine ⟨k3.trans (Kept.of_below hB4), ?_⟩
      dsimp only [thenT]
      rw [htd]
  · rw [takeT, if_neg hk] at h1
    obtain ⟨k1, rfl⟩ := h1
    simp +contextual (maxSteps := 2000000) (disch := first | omega | (simp only [SZ]; first | done | omega) | (simp only [TS] at *; omega)) only [PZ, RZ, ovw, oneC, reduceAdd, reduceMul, reduceSub, reduceEqDiff, reduceLT, ↓reduceIte, Int.reduceToNat, reduceLeDiff]
    subst hRes
    have hnT : numT (T.drop a) = none := by unfold numT; rw [if_neg (fun h => hk h.1)]
    rw [numberT, lessT, hnT]
    exact ⟨k1, rfl⟩
theorem num_small (h : PkIn w g A c T a rest) (hT : TokOk T) {x : Int × List Tk} (hx : numT (T.drop a) = some x) : 0 ≤ x.1 ∧ x.1 ≤ 999999999999999999 := by
  obtain ⟨h1, _, h3, _⟩ := num_some (x := x.1) (L' := x.2) hx
  rw [h3]
  exact (hT.num _ (tok_mem h.lt) h1).2
theorem anyT_is (h : PkIn w g A c T a rest) (hT : TokOk T) : numberT 999999999999999999 (T.drop a) = anyT (T.drop a) := by
  unfold numberT anyT lessT
  cases hx : numT (T.drop a) with
  | none => rfl
  | some x => simp only [if_pos (num_small h hT hx).2]
theorem paAny_any (h : PkIn w g A c T a rest) (hT : TokOk T) : Calls Tryd.prog 73 #[.pointer (some ⟨g, 0, none⟩)] w (Res g A c T rest w (anyT (T.drop a)) fun n => .int .i64 n) := by
  refine calls_WX (l := [_]) Tryd.func73 rfl _ Tryd.ntmps73 (by simp) ?_
  generalize hRes : (Res g A c T rest w (anyT (T.drop a)) fun n => .int .i64 n) = R
  simp +contextual (maxSteps := 2000000) (disch := first | omega | (simp only [SZ]; first | done | omega) | (simp only [TS] at *; omega)) only [PZ, RZ, ovw, oneC, reduceAdd, reduceMul, reduceSub, reduceEqDiff, reduceLT, ↓reduceIte, Int.reduceToNat, reduceLeDiff]
  refine (paNumber_any 999999999999999999 h hT).mono ?_
  rintro e w1 h1
  rw [anyT_is h hT] at h1
  subst hRes
  cases hr : anyT (T.drop a) with
  | ok x =>
    rw [hr] at h1
    obtain ⟨k1, rfl, h2⟩ := h1
    simp +contextual (maxSteps := 2000000) (disch := first | omega | (simp only [SZ]; first | done | omega) | (simp only [TS] at *; omega)) only [PZ, RZ, ovw, oneC, reduceAdd, reduceMul, reduceSub, reduceEqDiff, reduceLT, ↓reduceIte, Int.reduceToNat, reduceLeDiff]
    exact ⟨k1, rfl, h2⟩
  | error x =>
    rw [hr] at h1
    obtain ⟨k1, rfl⟩ := h1
    simp +contextual (maxSteps := 2000000) (disch := first | omega | (simp only [SZ]; first | done | omega) | (simp only [TS] at *; omega)) only [PZ, RZ, ovw, oneC, reduceAdd, reduceMul, reduceSub, reduceEqDiff, reduceLT, ↓reduceIte, Int.reduceToNat, reduceLeDiff]
    exact ⟨k1, rfl⟩
theorem paFollows_any (s : ByteArray) (h : PkIn w g A c T a rest) (hT : TokOk T) : Calls Tryd.prog 80 #[.pointer (some ⟨g, 0, none⟩), .string s] w fun e w' =>
    e = .returned (.bool (isT 1 (bs s) (T.drop a)).isSome) ∧ PkIn w' g A c T (if (isT 1 (bs s) (T.drop a)).isSome then a + 1 else a) rest ∧ Kept [g] w w' ∧ ((isT 1 (bs s) (T.drop a)).isSome = true → isT 1 (bs s) (T.drop a) = some (T.drop (a + 1))) := by
  refine calls_W (l := [_, _]) Tryd.func80 rfl _ Tryd.ntmps80 (by simp) ?_
  have hlt := h.lt
  have hbig := hT.big
  simp +contextual (maxSteps := 2000000) (disch := first | omega | (simp only [SZ]; first | done | omega) | (simp only [TS] at *; omega)) only [RZ, ovw, oneC, reduceAdd, reduceMul, reduceSub, reduceEqDiff, reduceLT, ↓reduceIte, Int.reduceToNat, reduceLeDiff]
  refine (paPeek_any h hT).mono ?_
  rintro e w1 ⟨rfl, hB1⟩
  refine ⟨_, rfl, ?_⟩
  generalize htd : hdT (T.drop a) = t
  rw [show (encTk t).toArray = #[.int .i64 t.kind, .int .i64 t.line, .int .i64 t.col, .string t.text] from rfl]
  have h1 := h.below hB1
  have k1 : Kept [g] w w1 := Kept.of_below hB1
  simp +contextual (maxSteps := 2000000) (disch := first | omega | (simp only [SZ]; first | done | omega) | (simp only [TS] at *; omega)) only [RZ, ovw, oneC, reduceAdd, reduceMul, reduceSub, reduceEqDiff, reduceLT, ↓reduceIte, Int.reduceToNat, reduceLeDiff]
  have h2 := h1.below (below_alloc w1 (.cells #[Value.int .i64 t.kind, .int .i64 t.line, .int .i64 t.col, .string t.text] 38))
  have k2 := k1.alloc (.cells #[Value.int .i64 t.kind, .int .i64 t.line, .int .i64 t.col, .string t.text] 38)
  have q2 := Row.new w1 38 [Value.int .i64 t.kind, .int .i64 t.line, .int .i64 t.col, .string t.text]
  replace q2 : Row (w1.alloc (.cells #[Value.int .i64 t.kind, .int .i64 t.line, .int .i64 t.col, .string t.text] 38)) _ _ _ := q2
  generalize w1.alloc (.cells #[Value.int .i64 t.kind, .int .i64 t.line, .int .i64 t.col, .string t.text] 38) = w2 at *
  have c0 := q2.cell (i := 0) rfl
  have c3 := q2.cell (i := 3) rfl
  have p1 := h2.row.cell (i := 1) rfl
  have p1z := h2.row.frozen 1
  have htm := hdT_drop (List.getElem?_eq_getElem hlt)
  (refine W_if rfl (fun hc => ?_) (fun hc => ?_) <;> (try simp only [TS] at hc))
  · have hI : isT 1 (bs s) (T.drop a) = none := isT_no (by
      rw [htd]
      rintro ⟨h1, h2⟩
      rw [h1, bs_inj h2] at hc
      simp at hc)
    rw [hI]
    simp +contextual (maxSteps := 2000000) (disch := first | omega | (simp only [SZ]; first | done | omega) | (simp only [TS] at *; omega)) only [RZ, ovw, oneC, reduceAdd, reduceMul, reduceSub, reduceEqDiff, reduceLT, ↓reduceIte, Int.reduceToNat, reduceLeDiff]
    exact ⟨h2, k2, fun h => (by cases h)⟩
  · have hkt : t.kind = 1 ∧ t.text = s := by simpa using hc
    have hI : isT 1 (bs s) (T.drop a) = some (nxT (T.drop a)) := isT_yes (by rw [htd]; exact hkt.1) (by rw [htd, hkt.2])
    have hat : T[a]? = some t := by rw [List.getElem?_eq_getElem hlt, ← htm, htd]
    have hlast := hT.last a t hat (by omega)
    rw [hI]
    simp +contextual (maxSteps := 2000000) (disch := first | omega | (simp only [SZ]; first | done | omega) | (simp only [TS] at *; omega)) only [RZ, ovw, oneC, reduceAdd, reduceMul, reduceSub, reduceEqDiff, reduceLT, ↓reduceIte, Int.reduceToNat, reduceLeDiff,  p1, p1z]
    have k3 := k2.setCell (p := ⟨g, 1, none⟩) (by simp) (.int .i64 ((a : Int) + 1))
    have h3 := h2.kept1 ((Kept.refl [g] w2).setCell (p := ⟨g, 1, none⟩) (by simp) (.int .i64 ((a : Int) + 1))) hlast (h2.row.set_ (i := 1) (by simp) _)
    exact ⟨h3, k3, by rw [nxT_drop hlast]; exact fun _ => rfl⟩
/-- A reader's call, and what stands behind it. -/
theorem Res.use {α : Type} {P : Program} {f : FuncId} {args : Array Value} {r : Except (Int × List Tk) (α × List Tk)} {val : α → Value} {R : Value → World → Prop} {X : List PanicEntry → World → Prop} (hc : Calls P f args w (Res g A c T rest w r val))
    (h1 : ∀ x a' w', r = .ok (x, T.drop a') → Kept [g] w w' → PkIn w' g A c T a' rest → R (val x) w')
    (h2 : ∀ e L w', r = .error (e, L) → Kept [g] w w' → X [{ v := failV e (hdT L).line, recovered := false }] w') : Calls P f args w (Ends R X) := by
  refine hc.mono fun e w' h => ?_
  obtain ⟨k, h⟩ := h
  cases hr : r with
  | ok x =>
    rw [hr] at h
    obtain ⟨x, L⟩ := x
    obtain ⟨rfl, a', ha, hp⟩ := h
    dsimp only at ha
    subst ha
    exact h1 x a' w' hr k hp
  | error x =>
    rw [hr] at h
    obtain ⟨e', L⟩ := x
    have h : e = _ := h
    subst h
    exact h2 e' L w' hr k
theorem anyT_ok {L L' : List Tk} {n : Int} (h : anyT L = .ok (n, L')) : numT L = some (n, L') := by
  unfold anyT at h
  cases hn : numT L with
  | none => rw [hn] at h; cases h
  | some x => rw [hn] at h; dsimp only [thenT] at h; rw [Except.ok.inj h]
theorem anyT_err {L L' : List Tk} {e : Int} (h : anyT L = .error (e, L')) : numT L = none ∧ e = 1 ∧ L' = L := by
  unfold anyT at h
  cases hn : numT L with
  | none => rw [hn] at h; dsimp only [thenT] at h; have := Except.error.inj h; injection this with h1 h2; exact ⟨rfl, h1.symm, h2.symm⟩
  | some x => rw [hn] at h; cases h
theorem expT_ok {k : Int} {s : ByteArray} {L L' : List Tk} {u : Unit} (h : expectT k s L = .ok (u, L')) : isT k (bs s) L = some L' := by
  unfold expectT at h
  cases hn : isT k (bs s) L with
  | none => rw [hn] at h; cases h
  | some x => rw [hn] at h; dsimp only [thenT] at h; have := Except.ok.inj h; injection this with h1 h2; rw [h2]
theorem expT_err {k : Int} {s : ByteArray} {L L' : List Tk} {e : Int} (h : expectT k s L = .error (e, L')) : isT k (bs s) L = none ∧ e = 1 ∧ L' = L := by
  unfold expectT at h
  cases hn : isT k (bs s) L with
  | none => rw [hn] at h; dsimp only [thenT] at h; have := Except.error.inj h; injection this with h1 h2; exact ⟨rfl, h1.symm, h2.symm⟩
  | some x => rw [hn] at h; cases h
theorem numbT_ok {m : Int} {L L' : List Tk} {n : Int} (h : numberT m L = .ok (n, L')) : lessT m L = some (n, L') := by
  unfold numberT at h
  cases hn : lessT m L with
  | none => rw [hn] at h; cases h
  | some x => rw [hn] at h; dsimp only [thenT] at h; rw [Except.ok.inj h]
theorem numbT_err {m : Int} {L L' : List Tk} {e : Int} (h : numberT m L = .error (e, L')) : lessT m L = none ∧ e = 1 ∧ L' = L := by
  unfold numberT at h
  cases hn : lessT m L with
  | none => rw [hn] at h; dsimp only [thenT] at h; have := Except.error.inj h; injection this with h1 h2; exact ⟨rfl, h1.symm, h2.symm⟩
  | some x => rw [hn] at h; cases h
theorem Res.ok {α : Type} {r : Except (Int × List Tk) (α × List Tk)} {val : α → Value} {w' : World} {x : α} {a' : Nat} (hr : r = .ok (x, T.drop a')) (k : Kept [g] w w') (h : PkIn w' g A c T a' rest) : Res g A c T rest w r val (.returned (val x)) w' := by
  subst hr; exact ⟨k, rfl, a', rfl, h⟩
theorem Res.err {α : Type} {r : Except (Int × List Tk) (α × List Tk)} {val : α → Value} {w' : World} {e : Int} {L : List Tk} (hr : r = .error (e, L)) (k : Kept [g] w w') : Res g A c T rest w r val (.panicked [{ v := failV e (hdT L).line, recovered := false }]) w' := by
  subst hr; exact ⟨k, rfl⟩
theorem paPair_any (h : PkIn w g A c T a rest) (hT : TokOk T) : Calls Tryd.prog 68 #[.pointer (some ⟨g, 0, none⟩)] w (Res g A c T rest w (pairT (T.drop a)) fun x => .tuple #[.int .i64 x.1, .int .i64 x.2]) := by
  refine calls_WX (l := [_]) Tryd.func68 rfl _ Tryd.ntmps68 (by simp) ?_
  generalize hr : pairT (T.drop a) = r
  unfold pairT at hr
  simp +contextual (maxSteps := 2000000) (disch := first | omega | (simp only [SZ]; first | done | omega) | (simp only [TS] at *; omega)) only [PZ, RZ, ovw, oneC, reduceAdd, reduceMul, reduceSub, reduceEqDiff, reduceLT, ↓reduceIte, Int.reduceToNat, reduceLeDiff]
  refine Res.use (paAny_any h hT) (fun x a1 w1 e1 k1 h1 => ?_) (fun e L w1 e1 k1 => ?_); rotate_left
  · obtain ⟨q1, rfl, rfl⟩ := anyT_err e1
    rw [q1] at hr
    exact Res.err hr.symm k1
  have q1 := anyT_ok e1
  rw [q1] at hr
  dsimp only [thenT] at hr
  try simp +contextual (maxSteps := 2000000) (disch := first | omega | (simp only [SZ]; first | done | omega) | (simp only [TS] at *; omega)) only [PZ, RZ, ovw, oneC, reduceAdd, reduceMul, reduceSub, reduceEqDiff, reduceLT, ↓reduceIte, Int.reduceToNat, reduceLeDiff]
  have ho : bs ⟨#[111, 102]⟩ = asc "of" := by decide +kernel
  refine Res.use (paExpect_any 1 _ h1 hT) (fun u a2 w2 e2 k2 h2 => ?_) (fun e L w2 e2 k2 => ?_); rotate_left
  · obtain ⟨q2, rfl, rfl⟩ := expT_err e2
    rw [ho] at q2
    rw [q2] at hr
    exact Res.err hr.symm (k1.trans k2)
  have q2 := expT_ok e2
  rw [ho] at q2
  rw [q2] at hr
  dsimp only [thenT] at hr
  try simp +contextual (maxSteps := 2000000) (disch := first | omega | (simp only [SZ]; first | done | omega) | (simp only [TS] at *; omega)) only [PZ, RZ, ovw, oneC, reduceAdd, reduceMul, reduceSub, reduceEqDiff, reduceLT, ↓reduceIte, Int.reduceToNat, reduceLeDiff]
  refine Res.use (paAny_any h2 hT) (fun y a3 w3 e3 k3 h3 => ?_) (fun e L w3 e3 k3 => ?_); rotate_left
  · obtain ⟨q3, rfl, rfl⟩ := anyT_err e3
    rw [q3] at hr
    exact Res.err hr.symm ((k1.trans k2).trans k3)
  have q3 := anyT_ok e3
  rw [q3] at hr
  dsimp only [thenT] at hr
  try simp +contextual (maxSteps := 2000000) (disch := first | omega | (simp only [SZ]; first | done | omega) | (simp only [TS] at *; omega)) only [PZ, RZ, ovw, oneC, reduceAdd, reduceMul, reduceSub, reduceEqDiff, reduceLT, ↓reduceIte, Int.reduceToNat, reduceLeDiff]
  exact Res.ok hr.symm ((k1.trans k2).trans k3) h3
end
end Go.Proofs.YtbdkggnajipdhaaDoor
/- Walks: the reader of a game's tokens: numbers, once, weekday. -/
namespace Go.Proofs.YtbdkggnajipdhaaDoor
open Nat (reduceAdd reduceMul reduceSub reduceEqDiff reduceLT reduceLeDiff)
open Go.RowKit
set_option maxRecDepth 100000
def slcLen : Value → Nat
  | .slice _ n _ => n
  | _ => 0
theorem isAgg_int {P : Program} {e : TypeId} {k : IntKind} {w : World} (he : P.underlying e = some (.int k)) : (isAgg e).run P w = .ok false w := by
  unfold isAgg
  rw [Sem.run_bind, run_underlying he w]
  simp
theorem tkKind (t : Tk) (w : World) : vField Tryd.prog 38 (.agg #[.int .i64 t.kind, .int .i64 t.line, .int .i64 t.col, .string t.text]) 0 w = .ok (.value (.int .i64 t.kind)) w := by
  simp [vField, Instr.field, Sem.run_bind, run_underlying Tryd.underlying38 w, part, isAgg_int Tryd.underlying3, asAgg]
section
variable {g c a : Nat} {A : Option Addr} {T : List Tk} {w : World} {rest : List Value}
theorem numT_next (hT : TokOk T) (ha : a < T.length) : numT (T.drop a) = if (hdT (T.drop a)).kind = 2 then some ((numE (bs (hdT (T.drop a)).text)).1, T.drop (a + 1)) else none := by
  have hat := List.getElem?_eq_getElem ha
  have ht := hdT_drop hat
  unfold numT
  by_cases hk : (hdT (T.drop a)).kind = 2
  · have hn := hT.num _ (tok_mem ha) hk
    rw [if_pos ⟨hk, hn.1⟩, if_pos hk, nxT_drop (hT.last a _ hat (by rw [← ht]; omega))]
  · rw [if_neg (fun h => hk h.1), if_neg hk]
theorem paNumbers_any (h : PkIn w g A c T a rest) (hT : TokOk T) : Calls Tryd.prog 83 #[.pointer (some ⟨g, 0, none⟩)] w fun e w' => Kept [g] w w' ∧ ∃ (A1 : Option Addr) (c1 a' : Nat),
    e = .returned (.slice A1 (numsT (T.drop a).length (T.drop a)).1.length c1) ∧ (numsT (T.drop a).length (T.drop a)).2 = T.drop a' ∧ PkIn w' g A c T a' rest ∧
    w'.ownsRow w.heap.size 3 1 (.slice A1 (numsT (T.drop a).length (T.drop a)).1.length c1) (numsT (T.drop a).length (T.drop a)).1.length (iW (numsT (T.drop a).length (T.drop a)).1) := by
  refine calls_WX (l := [_]) Tryd.func83 rfl _ Tryd.ntmps83 (by simp) ?_
  generalize hr : numsT (T.drop a).length (T.drop a) = r
  rw [List.length_drop] at hr
  have hlt := h.lt
  have hbig := hT.big
  have hI : sliceI Tryd.prog 41 = some (3, 1, 8) := by kernel_rfl
  simp +contextual (maxSteps := 2000000) (disch := first | omega | (simp only [SZ]; first | done | omega) | (simp only [TS] at *; omega)) only [PZ, RZ, ovw, oneC, reduceAdd, reduceMul, reduceSub, reduceEqDiff, reduceLT, ↓reduceIte, Int.reduceToNat, reduceLeDiff]
  refine RawD_loop (fun σ w1 => ∃ (Z : List Int) (A1 : Option Addr) (c1 a1 : Nat), a1 = a + Z.length ∧ PkIn w1 g A c T a1 rest ∧ Kept [g] w w1 ∧ w1.ownsRow w.heap.size 3 1 (.slice A1 Z.length c1) Z.length (iW Z) ∧
    (Z ++ (numsT (T.length - a1) (T.drop a1)).1, (numsT (T.length - a1) (T.drop a1)).2) = r ∧ σ 0 = .pointer (some ⟨g, 0, none⟩) ∧ σ 3 = .slice A1 Z.length c1) (fun σ _ => T.length - slcLen (σ 3)) ?_ ?_
  · simp +contextual (maxSteps := 2000000) (disch := first | omega | (simp only [SZ]; first | done | omega) | (simp only [TS] at *; omega)) only [RZ, ovw, oneC, reduceAdd, reduceMul, reduceSub, reduceEqDiff, reduceLT, ↓reduceIte, Int.reduceToNat, reduceLeDiff]
    exact ⟨[], none, 0, a, rfl, h, Kept.refl _ _, owns_nil _ _ _ _, by rw [List.nil_append]; exact hr, rfl⟩
  rintro σ w1 ⟨Z, A1, c1, a1, ha1, h1, k1, ho1, hr1, f0, f3⟩ K hK
  have hlt1 := h1.lt
  have hgl := h1.row.lt
  simp +contextual (maxSteps := 2000000) (disch := first | omega | (simp only [SZ]; first | done | omega) | (simp only [TS] at *; omega)) only [PZ, RZ, ovw, oneC, reduceAdd, reduceMul, reduceSub, reduceEqDiff, reduceLT, ↓reduceIte, Int.reduceToNat, reduceLeDiff,  f0, f3]
  refine (paPeek_any h1 hT).mono ?_
  rintro e w2 ⟨rfl, hB2⟩
  have h2 := h1.below hB2
  have k2 := k1.trans (Kept.of_below hB2)
  have ho2 := owns_below ho1 hB2
  have hnt := numT_next hT hlt1
  have hany : anyT (T.drop a1) = if (hdT (T.drop a1)).kind = 2 then .ok ((numE (bs (hdT (T.drop a1)).text)).1, T.drop (a1 + 1)) else .error (1, T.drop a1) := by
    unfold anyT; rw [hnt]; split <;> rfl
  have hnm := hT.num _ (tok_mem hlt1)
  have hfu : T.length - a1 = (T.length - (a1 + 1)) + 1 := by omega
  rw [hfu] at hr1
  unfold numsT at hr1
  rw [hnt] at hr1
  generalize htd : hdT (T.drop a1) = t at *
  rw [show (encTk t).toArray = #[.int .i64 t.kind, .int .i64 t.line, .int .i64 t.col, .string t.text] from rfl]
  by_cases hk : t.kind = 2
  · have e1 : (t.kind = 2) = True := eq_true hk
    rw [if_pos hk] at hany hr1
    dsimp only at hr1
    have hv := hnm hk
    generalize (numE (bs t.text)).1 = x at *
    simp +contextual (maxSteps := 2000000) (disch := first | omega | (simp only [SZ]; first | done | omega) | (simp only [TS] at *; omega)) only [PZ, RZ, ovw, oneC, reduceAdd, reduceMul, reduceSub, reduceEqDiff, reduceLT, ↓reduceIte, Int.reduceToNat, reduceLeDiff,  f0, f3, tkKind, e1]
    refine WX_if_t rfl ?_
    simp +contextual (maxSteps := 2000000) (disch := first | omega | (simp only [SZ]; first | done | omega) | (simp only [TS] at *; omega)) only [PZ, RZ, ovw, oneC, reduceAdd, reduceMul, reduceSub, reduceEqDiff, reduceLT, ↓reduceIte, Int.reduceToNat, reduceLeDiff,  f0, f3]
    refine Res.use (paAny_any h2 hT) (fun y a3 w3 e3 k3 h3 => ?_) (fun e L w3 e3 k3 => ?_); rotate_left
    · rw [hany] at e3; cases e3
    rw [hany] at e3
    injection e3 with e3
    injection e3 with e3 e4
    subst e3
    have ho3 : w3.ownsRow w.heap.size 3 1 (.slice A1 Z.length c1) Z.length (iW Z) := owns_keep ho2 fun b hb => k3.block b (owns_ge ho2 hb).2 (by have := (owns_ge ho2 hb).1; have := h.row.lt; simp; omega)
    have h3' : PkIn w3 g A c T (a1 + 1) rest := by
      have hl := congrArg List.length e4
      rw [List.length_drop, List.length_drop] at hl
      have := h3.lt
      have : a3 = a1 + 1 := by omega
      subst this; exact h3
    have k23 := k2.trans k3
    obtain ⟨A', c', w5, he, ho5, hb5, hs5⟩ := push1 (P := Tryd.prog) (T := 41) (ty := 41) (news := [.int .i64 x]) ho3 k23.size hI rfl (fun u hu => by simp at hu; subst hu; rfl) (by omega) (by decide)
    try simp +contextual (maxSteps := 2000000) (disch := first | omega | (simp only [SZ]; first | done | omega) | (simp only [TS] at *; omega)) only [PZ, RZ, ovw, oneC, reduceAdd, reduceMul, reduceSub, reduceEqDiff, reduceLT, ↓reduceIte, Int.reduceToNat, reduceLeDiff,  f0, f3, he]
    have k5 : Kept [g] w w5 := ⟨hb5.os.trans k23.os, hb5.tape.trans k23.tape, hb5.output.trans k23.output, Nat.le_trans k23.size hb5.size, fun k hk hx => (hb5.block k hk).trans (k23.block k hk hx)⟩
    have h5 : PkIn w5 g A c T (a1 + 1) rest := by
      have hgl0 := h.row.lt
      refine ⟨h3'.lt, ?_, h.off, h3'.row.of_block (hb5.block g hgl0)⟩
      exact h.arr.kept k5 (fun b o hb => by have := h.off b o hb; simpa using this)
    refine hK _ _ ⟨Z ++ [x], A', c', a1 + 1, by rw [List.length_append, ha1]; rfl, h5, k5, ?_, ?_, ?_⟩ ?_
    · rw [List.length_append]
      unfold iW at ho5 ⊢
      rw [List.map_append]
      exact ho5
    · rw [List.append_assoc]; exact hr1
    · simp +contextual (maxSteps := 2000000) (disch := first | omega | (simp only [SZ]; first | done | omega) | (simp only [TS] at *; omega)) only [RZ, ovw, oneC, reduceAdd, reduceMul, reduceSub, reduceEqDiff, reduceLT, ↓reduceIte, Int.reduceToNat, reduceLeDiff,  f0, f3, List.length_append]
    · simp +contextual (maxSteps := 2000000) (disch := first | omega | (simp only [SZ]; first | done | omega) | (simp only [TS] at *; omega)) only [RZ, ovw, oneC, reduceAdd, reduceMul, reduceSub, reduceEqDiff, reduceLT, ↓reduceIte, Int.reduceToNat, reduceLeDiff,  slcLen, f3]
      omega
  · have e1 : (t.kind = 2) = False := eq_false hk
    rw [if_neg hk] at hr1
    dsimp only at hr1
    rw [List.append_nil] at hr1
    subst hr1
    simp +contextual (maxSteps := 2000000) (disch := first | omega | (simp only [SZ]; first | done | omega) | (simp only [TS] at *; omega)) only [PZ, RZ, ovw, oneC, reduceAdd, reduceMul, reduceSub, reduceEqDiff, reduceLT, ↓reduceIte, Int.reduceToNat, reduceLeDiff,  f0, f3, tkKind, e1]
    refine WX_if_f rfl ?_
    simp +contextual (maxSteps := 2000000) (disch := first | omega | (simp only [SZ]; first | done | omega) | (simp only [TS] at *; omega)) only [PZ, RZ, ovw, oneC, reduceAdd, reduceMul, reduceSub, reduceEqDiff, reduceLT, ↓reduceIte, Int.reduceToNat, reduceLeDiff,  f0, f3]
    exact ⟨k2, A1, c1, a1, rfl, rfl, h2, ho2⟩
theorem paOnce_any {gs : Nat} {seen : List (List Nat)} (h : PkIn w g A c T a (.map (some gs) :: rest)) (hT : TokOk T) (hS : SeenIn w gs seen) (hgs : gs ≠ g) (hA : ∀ b o, A = some ⟨b, o, none⟩ → b ≠ gs) (t : Tk) (s : ByteArray) :
    Calls Tryd.prog 67 #[.pointer (some ⟨g, 0, none⟩), .string s, .agg (encTk t).toArray] w fun e w' =>
      if bs s ∈ seen then e = .panicked [{ v := failV 6 t.line, recovered := false }] ∧ Kept [gs] w w'
      else e = .returned (.tuple #[]) ∧ PkIn w' g A c T a (.map (some gs) :: rest) ∧ SeenIn w' gs (bs s :: seen) ∧ Kept [gs] w w' := by
  refine calls_WX (l := [_, _, _]) Tryd.func67 rfl _ Tryd.ntmps67 (by simp) ?_
  have hz : mapZ Tryd.prog 69 = some (.bool false) := by kernel_rfl
  rw [show (encTk t).toArray = #[.int .i64 t.kind, .int .i64 t.line, .int .i64 t.col, .string t.text] from rfl]
  have h2 := h.below (below_alloc w (.cells #[Value.int .i64 t.kind, .int .i64 t.line, .int .i64 t.col, .string t.text] 38))
  have k2 := (Kept.refl [gs] w).alloc (.cells #[Value.int .i64 t.kind, .int .i64 t.line, .int .i64 t.col, .string t.text] 38)
  have s2 := hS.kept ((Kept.refl [] w).alloc (.cells #[Value.int .i64 t.kind, .int .i64 t.line, .int .i64 t.col, .string t.text] 38)) (by simp)
  have q2 := Row.new w 38 [Value.int .i64 t.kind, .int .i64 t.line, .int .i64 t.col, .string t.text]
  replace q2 : Row (w.alloc (.cells #[Value.int .i64 t.kind, .int .i64 t.line, .int .i64 t.col, .string t.text] 38)) _ _ _ := q2
  have p2 := h2.row.cell (i := 2) rfl
  have c0 := q2.cell (i := 0) rfl
  have c1 := q2.cell (i := 1) rfl
  have c2 := q2.cell (i := 2) rfl
  have c3 := q2.cell (i := 3) rfl
  simp +contextual (maxSteps := 2000000) (disch := first | omega | (simp only [SZ]; first | done | omega) | (simp only [TS] at *; omega)) only [PZ, RZ, ovw, oneC, reduceAdd, reduceMul, reduceSub, reduceEqDiff, reduceLT, ↓reduceIte, Int.reduceToNat, reduceLeDiff,  p2]
  generalize w.alloc (.cells #[Value.int .i64 t.kind, .int .i64 t.line, .int .i64 t.col, .string t.text] 38) = w2 at *
  obtain ⟨l, clk, hl, hk⟩ := s2
  by_cases hs : bs s ∈ seen
  · have hg := (hk s).1 hs
    simp only [if_pos hs]
    have e1 := vLookup_str0 (P := Tryd.prog) (T := 69) (k := s) hz hl
    rw [hg] at e1
    dsimp only [Option.getD] at e1
    simp +contextual (maxSteps := 2000000) (disch := first | omega | (simp only [SZ]; first | done | omega) | (simp only [TS] at *; omega)) only [PZ, RZ, ovw, oneC, reduceAdd, reduceMul, reduceSub, reduceEqDiff, reduceLT, ↓reduceIte, Int.reduceToNat, reduceLeDiff,  p2, e1]
    refine WX_if_t rfl ?_
    simp +contextual (maxSteps := 2000000) (disch := first | omega | (simp only [SZ]; first | done | omega) | (simp only [TS] at *; omega)) only [PZ, RZ, ovw, oneC, reduceAdd, reduceMul, reduceSub, reduceEqDiff, reduceLT, ↓reduceIte, Int.reduceToNat, reduceLeDiff,  c0, c1, c2, c3]
    refine (paFail_any g 6 t w2).mono ?_
    rintro e w3 ⟨rfl, hB3⟩
    exact ⟨rfl, k2.trans (Kept.of_below hB3)⟩
  · have hg := (hk s).2 hs
    simp only [if_neg hs]
    have e1 := vLookup_str0 (P := Tryd.prog) (T := 69) (k := s) hz hl
    rw [hg] at e1
    dsimp only [Option.getD] at e1
    have e2 := vMapUpdate_new (P := Tryd.prog) (T := 69) (k := s) (v := .bool true) hz hl hg
    simp +contextual (maxSteps := 2000000) (disch := first | omega | (simp only [SZ]; first | done | omega) | (simp only [TS] at *; omega)) only [PZ, RZ, ovw, oneC, reduceAdd, reduceMul, reduceSub, reduceEqDiff, reduceLT, ↓reduceIte, Int.reduceToNat, reduceLeDiff,  p2, e1]
    refine WX_if_f rfl ?_
    simp +contextual (maxSteps := 2000000) (disch := first | omega | (simp only [SZ]; first | done | omega) | (simp only [TS] at *; omega)) only [PZ, RZ, ovw, oneC, reduceAdd, reduceMul, reduceSub, reduceEqDiff, reduceLT, ↓reduceIte, Int.reduceToNat, reduceLeDiff,  p2, e2]
    refine ⟨?_, SeenIn.add hl hk hs, setO_kept k2 (by simp) _⟩
    exact h2.kept (setO_kept (Kept.refl [gs] _) (by simp) _) (by simpa using Ne.symm hgs) (fun b o hb => by simpa using hA b o hb)
end
theorem paWeekday_any (s : ByteArray) (w : World) (hW : Laid w) : Calls Tryd.prog 81 #[.string s] w fun e w' => e = .returned (.int .i64 (match dayI (bs s) with | some i => ((2 ^ i : Nat) : Int) | none => 0)) ∧ w = w' := by
  refine calls_W (l := [_]) Tryd.func81 rfl _ Tryd.ntmps81 (by simp) ?_
  have hl := hW.load
  simp +contextual (maxSteps := 2000000) (disch := first | omega | (simp only [SZ]; first | done | omega) | (simp only [TS] at *; omega)) only [RZ, ovw, oneC, reduceAdd, reduceMul, reduceSub, reduceEqDiff, reduceLT, ↓reduceIte, Int.reduceToNat, reduceLeDiff,  hl]
  refine Raw_loop (fun σ w1 => ∃ k : Nat, k ≤ 7 ∧ (∀ j d, j < k → dayW[j]? = some d → d ≠ bs s) ∧ w = w1 ∧ σ 0 = .string s ∧ σ 5 = .agg dayC.toArray ∧ σ 6 = .int .i64 k) (fun σ _ => 7 - (intOf (σ 6)).toNat) ?_ ?_
  · simp +contextual (maxSteps := 2000000) (disch := first | omega | (simp only [SZ]; first | done | omega) | (simp only [TS] at *; omega)) only [RZ, ovw, oneC, reduceAdd, reduceMul, reduceSub, reduceEqDiff, reduceLT, ↓reduceIte, Int.reduceToNat, reduceLeDiff]
    exact ⟨0, by omega, fun j d hj => absurd hj (Nat.not_lt_zero _), rfl⟩
  rintro σ w1 ⟨k, hk, hn, rfl, f0, f5, f6⟩ K hK
  simp +contextual (maxSteps := 2000000) (disch := first | omega | (simp only [SZ]; first | done | omega) | (simp only [TS] at *; omega)) only [RZ, ovw, oneC, reduceAdd, reduceMul, reduceSub, reduceEqDiff, reduceLT, ↓reduceIte, Int.reduceToNat, reduceLeDiff,  f0, f5, f6]
  (refine W_if rfl (fun hc => ?_) (fun hc => ?_) <;> (try simp only [TS] at hc))
  · obtain ⟨d, hd⟩ : ∃ d, dayW[k]? = some d := ⟨_, List.getElem?_eq_getElem (show k < 7 by omega)⟩
    have hx := day_index hd w
    have hdb : bs (toBA d) = d := by
      have hall : dayW.all (fun d => d.all fun c => decide (c < 256)) = true := by decide +kernel
      have := List.all_eq_true.1 hall d (List.mem_of_getElem? hd)
      exact bs_toBA fun c hc => by have := List.all_eq_true.1 this c hc; simpa using this
    simp +contextual (maxSteps := 2000000) (disch := first | omega | (simp only [SZ]; first | done | omega) | (simp only [TS] at *; omega)) only [RZ, ovw, oneC, reduceAdd, reduceMul, reduceSub, reduceEqDiff, reduceLT, ↓reduceIte, Int.reduceToNat, reduceLeDiff,  f0, f5, f6, hx]
    by_cases he : s = toBA d
    · have e1 : (s = toBA d) = True := eq_true he
      have hs := vBin_shlN (P := Tryd.prog) (T := 3) (x := .const (.int .i64 1)) (y := .tmp 13) (w := w) (k := .i64) (show k < 7 by omega)
      have hI : dayI (bs s) = some k := dayI_at (by rw [he, hdb]; exact hd) (fun j d' hj hd' => hn j d' hj hd')
      rw [hI]
      simp +contextual (maxSteps := 2000000) (disch := first | omega | (simp only [SZ]; first | done | omega) | (simp only [TS] at *; omega)) only [RZ, ovw, oneC, reduceAdd, reduceMul, reduceSub, reduceEqDiff, reduceLT, ↓reduceIte, Int.reduceToNat, reduceLeDiff,  f0, f5, f6, e1]
      refine W_if_t rfl ?_
      simp +contextual (maxSteps := 2000000) (disch := first | omega | (simp only [SZ]; first | done | omega) | (simp only [TS] at *; omega)) only [RZ, ovw, oneC, reduceAdd, reduceMul, reduceSub, reduceEqDiff, reduceLT, ↓reduceIte, Int.reduceToNat, reduceLeDiff,  f0, f5, f6, hs]
    · have e1 : (s = toBA d) = False := eq_false he
      simp +contextual (maxSteps := 2000000) (disch := first | omega | (simp only [SZ]; first | done | omega) | (simp only [TS] at *; omega)) only [RZ, ovw, oneC, reduceAdd, reduceMul, reduceSub, reduceEqDiff, reduceLT, ↓reduceIte, Int.reduceToNat, reduceLeDiff,  f0, f5, f6, e1]
      refine W_if_f rfl ?_
      simp +contextual (maxSteps := 2000000) (disch := first | omega | (simp only [SZ]; first | done | omega) | (simp only [TS] at *; omega)) only [RZ, ovw, oneC, reduceAdd, reduceMul, reduceSub, reduceEqDiff, reduceLT, ↓reduceIte, Int.reduceToNat, reduceLeDiff,  f0, f5, f6]
      refine hK _ _ ⟨k + 1, by omega, fun j d' hj hd' => ?_, rfl, ?_⟩ ?_
      · by_cases hjk : j = k
        · subst hjk
          rw [hd] at hd'
          injection hd' with hd'
          subst hd'
          intro e
          exact he (bs_inj (by rw [hdb]; exact e.symm))
        · exact hn j d' (by omega) hd'
      · simp +contextual (maxSteps := 2000000) (disch := first | omega | (simp only [SZ]; first | done | omega) | (simp only [TS] at *; omega)) only [RZ, ovw, oneC, reduceAdd, reduceMul, reduceSub, reduceEqDiff, reduceLT, ↓reduceIte, Int.reduceToNat, reduceLeDiff,  f0, f5, f6]
      · simp +contextual (maxSteps := 2000000) (disch := first | omega | (simp only [SZ]; first | done | omega) | (simp only [TS] at *; omega)) only [RZ, ovw, oneC, reduceAdd, reduceMul, reduceSub, reduceEqDiff, reduceLT, ↓reduceIte, Int.reduceToNat, reduceLeDiff,  intOf, f6]
        omega
  · have hk7 : k = 7 := by omega
    subst hk7
    have hI : dayI (bs s) = none := dayI_none hn
    rw [hI]
    simp +contextual (maxSteps := 2000000) (disch := first | omega | (simp only [SZ]; first | done | omega) | (simp only [TS] at *; omega)) only [RZ, ovw, oneC, reduceAdd, reduceMul, reduceSub, reduceEqDiff, reduceLT, ↓reduceIte, Int.reduceToNat, reduceLeDiff,  f0, f5, f6]
end Go.Proofs.YtbdkggnajipdhaaDoor
/- Walks: the reader of a game's tokens: days. -/
namespace Go.Proofs.YtbdkggnajipdhaaDoor
open Nat (reduceAdd reduceMul reduceSub reduceEqDiff reduceLT reduceLeDiff)
open Go.RowKit
set_option maxRecDepth 100000
/-- A game's cells. -/
def gmV (G : Gm) (Va Vt : Value) : List Value := [.string G.name, .int .i64 (G.n 0), .int .i64 (G.n 1), .int .i64 (G.n 2), .int .i64 (G.n 3), .int .i64 (G.n 4), .int .i64 (G.n 5), .int .i64 (G.n 6), .int .i64 (G.n 7), .int .i64 (G.n 8), .int .i64 (G.n 9),
  .int .i64 (G.n 10), .int .i64 (G.n 11), .int .i64 (G.n 12), .int .i64 (G.n 13), .int .i64 (G.n 14), .int .i64 (G.n 15), .int .i64 (G.n 16), .int .i64 (G.n 17), .int .i64 (G.n 18), Va, Vt]
theorem gmV_set (G : Gm) (Va Vt : Value) {i : Nat} (hi : i < 19) (v : Int) : (gmV G Va Vt).set (i + 1) (.int .i64 v) = gmV { G with n := putN G.n i v } Va Vt := by
  have : i = 0 ∨ i = 1 ∨ i = 2 ∨ i = 3 ∨ i = 4 ∨ i = 5 ∨ i = 6 ∨ i = 7 ∨ i = 8 ∨ i = 9 ∨ i = 10 ∨ i = 11 ∨ i = 12 ∨ i = 13 ∨ i = 14 ∨ i = 15 ∨ i = 16 ∨ i = 17 ∨ i = 18 := by omega
  rcases this with rfl | rfl | rfl | rfl | rfl | rfl | rfl | rfl | rfl | rfl | rfl | rfl | rfl | rfl | rfl | rfl | rfl | rfl | rfl <;> rfl
theorem gmV_get (G : Gm) (Va Vt : Value) {i : Nat} (hi : i < 19) : (gmV G Va Vt)[i + 1]? = some (.int .i64 (G.n i)) := by
  have : i = 0 ∨ i = 1 ∨ i = 2 ∨ i = 3 ∨ i = 4 ∨ i = 5 ∨ i = 6 ∨ i = 7 ∨ i = 8 ∨ i = 9 ∨ i = 10 ∨ i = 11 ∨ i = 12 ∨ i = 13 ∨ i = 14 ∨ i = 15 ∨ i = 16 ∨ i = 17 ∨ i = 18 := by omega
  rcases this with rfl | rfl | rfl | rfl | rfl | rfl | rfl | rfl | rfl | rfl | rfl | rfl | rfl | rfl | rfl | rfl | rfl | rfl | rfl <;> rfl
/-- A number of the game is set. -/
theorem PkIn.setN {g c a : Nat} {A : Option Addr} {T : List Tk} {w : World} {m : Value} {G : Gm} {Va Vt : Value} (h : PkIn w g A c T a (m :: gmV G Va Vt)) {i : Nat} (hi : i < 19) (v : Int) :
    PkIn (w.setCell ⟨g, i + 4, none⟩ (.int .i64 v)) g A c T a (m :: gmV { G with n := putN G.n i v } Va Vt) := by
  refine h.kept1 ((Kept.refl [g] w).setCell (p := ⟨g, i + 4, none⟩) (by simp) _) h.lt ?_
  have := h.row.set_ (i := i + 4) (by simp [gmV]; omega) (.int .i64 v)
  rw [show i + 4 = i + 1 + 1 + 1 + 1 from rfl, List.set_cons_succ, List.set_cons_succ, List.set_cons_succ, gmV_set G Va Vt hi] at this
  exact this
/-- The same as Res, where the cells behind the first two turn. -/
def ResQ {α : Type} (g : Nat) (A : Option Addr) (c : Nat) (T : List Tk) (rest : α → List Value) (w : World) (r : Except (Int × List Tk) (α × List Tk)) (val : α → Value) (e : Ending) (w' : World) : Prop := Kept [g] w w' ∧ match r with
  | .ok x => e = .returned (val x.1) ∧ ∃ a', x.2 = T.drop a' ∧ PkIn w' g A c T a' (rest x.1)
  | .error x => e = .panicked [{ v := failV x.1 (hdT x.2).line, recovered := false }]
def atOf (w : World) (g : Nat) : Nat := match w.cell? ⟨g, 1, none⟩ with
  | some v => (intOf v).toNat
  | none => 0
section
variable {g c a : Nat} {A : Option Addr} {T : List Tk} {w : World}
theorem ResQ.use {α : Type} {rest : α → List Value} {P : Program} {f : FuncId} {args : Array Value} {r : Except (Int × List Tk) (α × List Tk)} {val : α → Value} {R : Value → World → Prop} {X : List PanicEntry → World → Prop} (hc : Calls P f args w (ResQ g A c T rest w r val))
    (h1 : ∀ x a' w', r = .ok (x, T.drop a') → Kept [g] w w' → PkIn w' g A c T a' (rest x) → R (val x) w')
    (h2 : ∀ e L w', r = .error (e, L) → Kept [g] w w' → X [{ v := failV e (hdT L).line, recovered := false }] w') : Calls P f args w (Ends R X) := by
  refine hc.mono fun e w' h => ?_
  obtain ⟨k, h⟩ := h
  cases hr : r with
  | ok x =>
    rw [hr] at h
    obtain ⟨x, L⟩ := x
    obtain ⟨rfl, a', ha, hp⟩ := h
    dsimp only at ha
    subst ha
    exact h1 x a' w' hr k hp
  | error x =>
    rw [hr] at h
    obtain ⟨e', L⟩ := x
    have h : e = _ := h
    subst h
    exact h2 e' L w' hr k
theorem ResQ.ok {α : Type} {rest : α → List Value} {r : Except (Int × List Tk) (α × List Tk)} {val : α → Value} {w' : World} {x : α} {a' : Nat} (hr : r = .ok (x, T.drop a')) (k : Kept [g] w w') (h : PkIn w' g A c T a' (rest x)) : ResQ g A c T rest w r val (.returned (val x)) w' := by
  subst hr; exact ⟨k, rfl, a', rfl, h⟩
theorem ResQ.err {α : Type} {rest : α → List Value} {r : Except (Int × List Tk) (α × List Tk)} {val : α → Value} {w' : World} {e : Int} {L : List Tk} (hr : r = .error (e, L)) (k : Kept [g] w w') : ResQ g A c T rest w r val (.panicked [{ v := failV e (hdT L).line, recovered := false }]) w' := by
  subst hr; exact ⟨k, rfl⟩
theorem PkIn.atOf {rest : List Value} (h : PkIn w g A c T a rest) : Go.Proofs.YtbdkggnajipdhaaDoor.atOf w g = a := by
  have c1 := h.row.cell (i := 1) rfl
  unfold Go.Proofs.YtbdkggnajipdhaaDoor.atOf
  rw [c1]
  simp [intOf]
theorem takeT_ok {k : Int} {L L' : List Tk} {t : Tk} (h : takeT k L = .ok (t, L')) : (hdT L).kind = k ∧ t = hdT L ∧ L' = nxT L := by
  unfold takeT at h
  split at h
  · rename_i hk; injection h with h; injection h with h1 h2; exact ⟨hk, h1.symm, h2.symm⟩
  · cases h
theorem takeT_err {k e : Int} {L L' : List Tk} (h : takeT k L = .error (e, L')) : ¬ (hdT L).kind = k ∧ e = 1 ∧ L' = L := by
  unfold takeT at h
  split at h
  · cases h
  · rename_i hk; injection h with h; injection h with h1 h2; exact ⟨hk, h1.symm, h2.symm⟩
theorem drop_same {a a' : Nat} (h : T.drop a = T.drop a') (ha' : a' < T.length) (ha : a < T.length) : a' = a := by
  have hl := congrArg List.length h
  rw [List.length_drop, List.length_drop] at hl
  omega
theorem less_bd {rest : List Value} (h : PkIn w g A c T a rest) (hT : TokOk T) {m : Int} {x : Int × List Tk} (hx : lessT m (T.drop a) = some x) : 0 ≤ x.1 ∧ x.1 ≤ m := by
  unfold lessT at hx
  cases hn : numT (T.drop a) with
  | none => rw [hn] at hx; cases hx
  | some y =>
    rw [hn] at hx
    dsimp only at hx
    split at hx
    · rename_i hle
      injection hx with hx
      subst hx
      exact ⟨(num_small h hT hn).1, hle⟩
    · cases hx
set_option maxHeartbeats 1000000 in
theorem paDays_any {gs : Nat} {G : Gm} {Va Vt : Value} (h : PkIn w g A c T a (.map (some gs) :: gmV G Va Vt)) (hT : TokOk T) (h9 : G.n 9 = 0) (hW : Laid w) (hWg : w.heap.size ≤ w.heap.size) (hg : 5 ≤ g) :
    Calls Tryd.prog 69 #[.pointer (some ⟨g, 0, none⟩)] w
      (ResQ g A c T (fun x => .map (some gs) :: gmV { G with n := putN (putN G.n 9 x.1) 10 x.2 } Va Vt) w (dayT (T.drop a)) fun _ => .tuple #[]) := by
  refine calls_WX (l := [_]) Tryd.func69 rfl _ Tryd.ntmps69 (by simp) ?_
  generalize hr : dayT (T.drop a) = r
  unfold dayT at hr
  rw [List.length_drop] at hr
  have hlt := h.lt
  have hbig := hT.big
  have hgl := h.row.lt
  generalize hF : (fun (d : Nat × List Tk) => thenT (lessT 23 d.2) d.2 fun h => thenT (isT 3 (asc ":") h.2) h.2 fun L3 => thenT (lessT 59 L3) L3 fun m => Except.ok (((d.1 : Int), 60 * h.1 + m.1), m.2)) = F at hr
  simp +contextual (maxSteps := 2000000) (disch := first | omega | (simp only [SZ]; first | done | omega) | (simp only [TS] at *; omega)) only [PZ, RZ, ovw, oneC, reduceAdd, reduceMul, reduceSub, reduceEqDiff, reduceLT, ↓reduceIte, Int.reduceToNat, reduceLeDiff]
  refine RawD_loop (fun σ w1 => ∃ (d a1 : Nat), a ≤ a1 ∧ d < 128 ∧ PkIn w1 g A c T a1 (.map (some gs) :: gmV { G with n := putN G.n 9 d } Va Vt) ∧ Kept [g] w w1 ∧ bindT (daysT (T.length - a1) (T.drop a1) d) F = r ∧
    σ 0 = .pointer (some ⟨g, 0, none⟩) ∧ σ 2 = .pointer (some ⟨g, 3, none⟩)) (fun σ w1 => T.length - atOf w1 g) ?_ ?_
  · simp +contextual (maxSteps := 2000000) (disch := first | omega | (simp only [SZ]; first | done | omega) | (simp only [TS] at *; omega)) only [RZ, ovw, oneC, reduceAdd, reduceMul, reduceSub, reduceEqDiff, reduceLT, ↓reduceIte, Int.reduceToNat, reduceLeDiff]
    refine ⟨0, a, Nat.le_refl _, by omega, ?_, Kept.refl _ _, hr⟩
    have : ({ G with n := putN G.n 9 ((0 : Nat) : Int) } : Gm) = G := by
      obtain ⟨nm, n, ad, ti⟩ := G
      congr 1
      funext j
      unfold putN
      split
      · rename_i e; subst e; exact h9.symm
      · rfl
    rw [this]
    exact h
  rintro σ w1 ⟨d, a1, haa, hd, h1, k1, hr1, f0, f2⟩ K hK
  have hlt1 := h1.lt
  have hat := h1.atOf
  have c13 := h1.row.cell (i := 13) rfl
  have hfu : T.length - a1 = (T.length - (a1 + 1)) + 1 := by omega
  rw [hfu] at hr1
  unfold daysT at hr1
  have n9 : ({ G with n := putN G.n 9 d } : Gm).n 9 = d := rfl
  rw [n9] at c13
  have htm := tok_mem hlt1
  have ha2 : bs ⟨#[97, 116]⟩ = asc "at" := by decide +kernel
  have ho : bs ⟨#[58]⟩ = asc ":" := by decide +kernel
  refine WX_cut (fun σ' w2 => σ' 0 = .pointer (some ⟨g, 0, none⟩) ∧ σ' 2 = .pointer (some ⟨g, 3, none⟩) ∧ PkIn w2 g A c T a1 (.map (some gs) :: gmV { G with n := putN G.n 9 d } Va Vt) ∧ Kept [g] w w2 ∧ ¬ (d ≠ 0 ∧ (hdT (T.drop a1)).kind = 1 ∧ bs (hdT (T.drop a1)).text = asc "at")) ?_ ?_; rotate_left
  · by_cases hd0 : d = 0
    · have e0 : ((d : Int) = 0) = True := eq_true (by omega)
      simp +contextual (maxSteps := 2000000) (disch := first | omega | (simp only [SZ]; first | done | omega) | (simp only [TS] at *; omega)) only [PZ, RZ, ovw, oneC, reduceAdd, reduceMul, reduceSub, reduceEqDiff, reduceLT, ↓reduceIte, Int.reduceToNat, reduceLeDiff,  f0, f2, c13, e0]
      refine WX_if_t rfl ?_
      simp +contextual (maxSteps := 2000000) (disch := first | omega | (simp only [SZ]; first | done | omega) | (simp only [TS] at *; omega)) only [PZ, RZ, ovw, oneC, reduceAdd, reduceMul, reduceSub, reduceEqDiff, reduceLT, ↓reduceIte, Int.reduceToNat, reduceLeDiff,  f0, f2]
      exact ⟨h1, k1, fun h => h.1 hd0⟩
    · have e0 : ((d : Int) = 0) = False := eq_false (by omega)
      simp +contextual (maxSteps := 2000000) (disch := first | omega | (simp only [SZ]; first | done | omega) | (simp only [TS] at *; omega)) only [PZ, RZ, ovw, oneC, reduceAdd, reduceMul, reduceSub, reduceEqDiff, reduceLT, ↓reduceIte, Int.reduceToNat, reduceLeDiff,  f0, f2, c13, e0]
      refine (paFollows_any _ h1 hT).mono ?_
      rintro e w2 ⟨rfl, h2, k2, hI⟩
      rw [ha2] at h2 hI ⊢
      by_cases hat2 : (isT 1 (asc "at") (T.drop a1)).isSome = true
      · have hI2 := hI hat2
        rw [if_pos hat2] at h2
        obtain ⟨q1, q2, q3⟩ := is_some hI2
        rw [if_pos ⟨hd0, q1, q2⟩, ← q3] at hr1
        dsimp only [bindT] at hr1
        rw [← hF] at hr1
        dsimp only at hr1
        rw [hat2]
        simp +contextual (maxSteps := 2000000) (disch := first | omega | (simp only [SZ]; first | done | omega) | (simp only [TS] at *; omega)) only [PZ, RZ, ovw, oneC, reduceAdd, reduceMul, reduceSub, reduceEqDiff, reduceLT, ↓reduceIte, Int.reduceToNat, reduceLeDiff,  f0, f2]
        refine WX_if_f rfl ?_
        simp +contextual (maxSteps := 2000000) (disch := first | omega | (simp only [SZ]; first | done | omega) | (simp only [TS] at *; omega)) only [PZ, RZ, ovw, oneC, reduceAdd, reduceMul, reduceSub, reduceEqDiff, reduceLT, ↓reduceIte, Int.reduceToNat, reduceLeDiff,  f0, f2]
        refine Res.use (paNumber_any 23 h2 hT) (fun x a3 w3 e3 k3 h3 => ?_) (fun e L w3 e3 k3 => ?_); rotate_left
        · obtain ⟨u1, rfl, rfl⟩ := numbT_err e3
          rw [u1] at hr1
          exact ResQ.err hr1.symm ((k1.trans k2).trans k3)
        have u1 := numbT_ok e3
        rw [u1] at hr1
        dsimp only [thenT] at hr1
        have x0 := less_bd h2 hT u1
        try simp +contextual (maxSteps := 2000000) (disch := first | omega | (simp only [SZ]; first | done | omega) | (simp only [TS] at *; omega)) only [PZ, RZ, ovw, oneC, reduceAdd, reduceMul, reduceSub, reduceEqDiff, reduceLT, ↓reduceIte, Int.reduceToNat, reduceLeDiff,  f0, f2]
        refine Res.use (paExpect_any 3 _ h3 hT) (fun u a4 w4 e4 k4 h4 => ?_) (fun e L w4 e4 k4 => ?_); rotate_left
        · obtain ⟨u2, rfl, rfl⟩ := expT_err e4
          rw [ho] at u2
          rw [u2] at hr1
          exact ResQ.err hr1.symm (((k1.trans k2).trans k3).trans k4)
        have u2 := expT_ok e4
        rw [ho] at u2
        rw [u2] at hr1
        dsimp only [thenT] at hr1
        try simp +contextual (maxSteps := 2000000) (disch := first | omega | (simp only [SZ]; first | done | omega) | (simp only [TS] at *; omega)) only [PZ, RZ, ovw, oneC, reduceAdd, reduceMul, reduceSub, reduceEqDiff, reduceLT, ↓reduceIte, Int.reduceToNat, reduceLeDiff,  f0, f2]
        refine Res.use (paNumber_any 59 h4 hT) (fun y a5 w5 e5 k5 h5 => ?_) (fun e L w5 e5 k5 => ?_); rotate_left
        · obtain ⟨u3, rfl, rfl⟩ := numbT_err e5
          rw [u3] at hr1
          exact ResQ.err hr1.symm ((((k1.trans k2).trans k3).trans k4).trans k5)
        have u3 := numbT_ok e5
        rw [u3] at hr1
        dsimp only [thenT] at hr1
        have y0 := less_bd h4 hT u3
        have k15 := (((k1.trans k2).trans k3).trans k4).trans k5
        have d14 := h5.row.cell (i := 14) rfl
        have d14z := h5.row.frozen 14
        try simp +contextual (maxSteps := 2000000) (disch := first | omega | (simp only [SZ]; first | done | omega) | (simp only [TS] at *; omega)) only [PZ, RZ, ovw, oneC, reduceAdd, reduceMul, reduceSub, reduceEqDiff, reduceLT, ↓reduceIte, Int.reduceToNat, reduceLeDiff,  f0, f2, d14, d14z]
        refine ResQ.ok hr1.symm (k15.setCell (p := ⟨g, 14, none⟩) (by simp) _) ?_
        exact h5.setN (i := 10) (by omega) _
      · have hI2 : isT 1 (asc "at") (T.drop a1) = none := by
          cases hx : isT 1 (asc "at") (T.drop a1) with
          | none => rfl
          | some x => rw [hx] at hat2; exact absurd rfl hat2
        rw [if_neg hat2] at h2
        rw [hI2]
        simp +contextual (maxSteps := 2000000) (disch := first | omega | (simp only [SZ]; first | done | omega) | (simp only [TS] at *; omega)) only [PZ, RZ, ovw, oneC, reduceAdd, reduceMul, reduceSub, reduceEqDiff, reduceLT, ↓reduceIte, Int.reduceToNat, reduceLeDiff,  f0, f2]
        refine WX_if_t rfl ?_
        simp +contextual (maxSteps := 2000000) (disch := first | omega | (simp only [SZ]; first | done | omega) | (simp only [TS] at *; omega)) only [PZ, RZ, ovw, oneC, reduceAdd, reduceMul, reduceSub, reduceEqDiff, reduceLT, ↓reduceIte, Int.reduceToNat, reduceLeDiff,  f0, f2]
        exact ⟨h2, k1.trans k2, fun h => is_none hI2 h.2⟩
  rintro σ2 w2 ⟨g0, g2, h2, k2, hno⟩
  rw [if_neg hno] at hr1
  have hgl2 := h2.row.lt
  simp +contextual (maxSteps := 2000000) (disch := first | omega | (simp only [SZ]; first | done | omega) | (simp only [TS] at *; omega)) only [PZ, RZ, ovw, oneC, reduceAdd, reduceMul, reduceSub, reduceEqDiff, reduceLT, ↓reduceIte, Int.reduceToNat, reduceLeDiff,  g0, g2]
  refine Res.use (paTake_any 1 h2 hT) (fun t a3 w3 e3 k3 h3 => ?_) (fun e L w3 e3 k3 => ?_); rotate_left
  · obtain ⟨q1, rfl, rfl⟩ := takeT_err e3
    rw [if_pos q1] at hr1
    exact ResQ.err hr1.symm (k2.trans k3)
  obtain ⟨q1, rfl, q3⟩ := takeT_ok e3
  rw [if_neg (fun h => h q1)] at hr1
  have hst := List.getElem?_eq_getElem hlt1
  have hhd := hdT_drop hst
  have hnx := nxT_drop (hT.last a1 _ hst (by rw [← hhd]; omega))
  rw [hnx] at q3 hr1
  obtain rfl : a3 = a1 + 1 := drop_same q3.symm h3.lt (hT.last a1 _ hst (by rw [← hhd]; omega))
  generalize htd : hdT (T.drop a1) = t at *
  rw [show (encTk t).toArray = #[.int .i64 t.kind, .int .i64 t.line, .int .i64 t.col, .string t.text] from rfl]
  have k3 := k2.trans k3
  simp +contextual (maxSteps := 2000000) (disch := first | omega | (simp only [SZ]; first | done | omega) | (simp only [TS] at *; omega)) only [PZ, RZ, ovw, oneC, reduceAdd, reduceMul, reduceSub, reduceEqDiff, reduceLT, ↓reduceIte, Int.reduceToNat, reduceLeDiff,  g0, g2]
  have h4 := h3.below (below_alloc w3 (.cells #[Value.int .i64 t.kind, .int .i64 t.line, .int .i64 t.col, .string t.text] 38))
  have k4 := k3.alloc (.cells #[Value.int .i64 t.kind, .int .i64 t.line, .int .i64 t.col, .string t.text] 38)
  have q4 := Row.new w3 38 [Value.int .i64 t.kind, .int .i64 t.line, .int .i64 t.col, .string t.text]
  replace q4 : Row (w3.alloc (.cells #[Value.int .i64 t.kind, .int .i64 t.line, .int .i64 t.col, .string t.text] 38)) _ _ _ := q4
  generalize w3.alloc (.cells #[Value.int .i64 t.kind, .int .i64 t.line, .int .i64 t.col, .string t.text] 38) = w4 at *
  have c0 := q4.cell (i := 0) rfl
  have c1 := q4.cell (i := 1) rfl
  have c2 := q4.cell (i := 2) rfl
  have c3 := q4.cell (i := 3) rfl
  try simp +contextual (maxSteps := 2000000) (disch := first | omega | (simp only [SZ]; first | done | omega) | (simp only [TS] at *; omega)) only [PZ, RZ, ovw, oneC, reduceAdd, reduceMul, reduceSub, reduceEqDiff, reduceLT, ↓reduceIte, Int.reduceToNat, reduceLeDiff,  g0, g2, c3]
  have hW4 := hW.kept k4 (by simpa using hg)
  refine (paWeekday_any t.text w4 hW4).mono ?_
  rintro e w5 ⟨rfl, rfl⟩
  have d13 := h4.row.cell (i := 13) rfl
  have d13z := h4.row.frozen 13
  rw [n9] at d13
  cases hdy : dayI (bs t.text) with
  | none =>
    rw [hdy] at hr1
    dsimp only [bindT] at hr1
    simp +contextual (maxSteps := 2000000) (disch := first | omega | (simp only [SZ]; first | done | omega) | (simp only [TS] at *; omega)) only [PZ, RZ, ovw, oneC, reduceAdd, reduceMul, reduceSub, reduceEqDiff, reduceLT, ↓reduceIte, Int.reduceToNat, reduceLeDiff,  g0, g2]
    refine WX_if_t rfl ?_
    simp +contextual (maxSteps := 2000000) (disch := first | omega | (simp only [SZ]; first | done | omega) | (simp only [TS] at *; omega)) only [PZ, RZ, ovw, oneC, reduceAdd, reduceMul, reduceSub, reduceEqDiff, reduceLT, ↓reduceIte, Int.reduceToNat, reduceLeDiff,  g0, g2, c0, c1, c2, c3]
    refine (paFail_any g 1 t w4).mono ?_
    rintro e w5 ⟨rfl, hB5⟩
    rw [Ends_pan]
    have := ResQ.err (g := g) (A := A) (c := c) (T := T) (val := fun _ => .tuple #[]) (rest := fun x => .map (some gs) :: gmV { G with n := putN (putN G.n 9 x.1) 10 x.2 } Va Vt) (w := w) hr1.symm (k4.trans (Kept.of_below hB5))
    rw [htd] at this
    exact this
  | some i =>
    rw [hdy] at hr1
    dsimp only at hr1 ⊢
    have hi7 := (dayI_lt hdy).1
    obtain ⟨b1, b2⟩ := day_bits d i hd hi7
    have hp : 2 ^ i < 128 := by
      have : ∀ i : Fin 7, 2 ^ i.1 < 128 := by decide
      exact this ⟨i, hi7⟩
    have hp0 : 0 < 2 ^ i := Nat.two_pow_pos i
    generalize hpi : 2 ^ i = p2 at *
    have e0 : ((p2 : Int) = 0) = False := eq_false (by omega)
    have ea := vBin_andN (P := Tryd.prog) (T := 3) (x := .tmp 30) (y := .tmp 31) (w := w4) (a := d) (b := p2) (by omega) (by omega)
    have eo := vBin_orN (P := Tryd.prog) (T := 3) (x := .tmp 41) (y := .tmp 42) (w := w4) (a := d) (b := p2) (by omega) (by omega)
    by_cases hb : d / p2 % 2 = 1
    · rw [if_pos hb] at hr1
      dsimp only [bindT] at hr1
      have e1 : (((d &&& p2 : Nat) : Int) = 0) = False := eq_false (fun h => (b1.1 (by omega)) hb)
      simp +contextual (maxSteps := 2000000) (disch := first | omega | (simp only [SZ]; first | done | omega) | (simp only [TS] at *; omega)) only [PZ, RZ, ovw, oneC, reduceAdd, reduceMul, reduceSub, reduceEqDiff, reduceLT, ↓reduceIte, Int.reduceToNat, reduceLeDiff,  g0, g2, e0, d13, ea, e1]
      refine WX_if_t rfl ?_
      simp +contextual (maxSteps := 2000000) (disch := first | omega | (simp only [SZ]; first | done | omega) | (simp only [TS] at *; omega)) only [PZ, RZ, ovw, oneC, reduceAdd, reduceMul, reduceSub, reduceEqDiff, reduceLT, ↓reduceIte, Int.reduceToNat, reduceLeDiff,  g0, g2, c0, c1, c2, c3]
      refine (paFail_any g 1 t w4).mono ?_
      rintro e w5 ⟨rfl, hB5⟩
      rw [Ends_pan]
      have := ResQ.err (g := g) (A := A) (c := c) (T := T) (val := fun _ => .tuple #[]) (rest := fun x => .map (some gs) :: gmV { G with n := putN (putN G.n 9 x.1) 10 x.2 } Va Vt) (w := w) hr1.symm (k4.trans (Kept.of_below hB5))
      rw [htd] at this
      exact this
    · rw [if_neg hb] at hr1
      have e1 : (((d &&& p2 : Nat) : Int) = 0) = True := eq_true (by have := b1.2 hb; omega)
      obtain ⟨b3, b4⟩ := b2 hb
      rw [b3] at eo
      simp +contextual (maxSteps := 2000000) (disch := first | omega | (simp only [SZ]; first | done | omega) | (simp only [TS] at *; omega)) only [PZ, RZ, ovw, oneC, reduceAdd, reduceMul, reduceSub, reduceEqDiff, reduceLT, ↓reduceIte, Int.reduceToNat, reduceLeDiff,  g0, g2, e0, d13, ea, e1]
      refine WX_if_f rfl ?_
      simp +contextual (maxSteps := 2000000) (disch := first | omega | (simp only [SZ]; first | done | omega) | (simp only [TS] at *; omega)) only [PZ, RZ, ovw, oneC, reduceAdd, reduceMul, reduceSub, reduceEqDiff, reduceLT, ↓reduceIte, Int.reduceToNat, reduceLeDiff,  g0, g2, d13, d13z, eo]
      refine hK _ _ ⟨d + p2, a1 + 1, by omega, by omega, ?_, k4.setCell (p := ⟨g, 13, none⟩) (by simp) _, hr1, ?_⟩ ?_
      · have := h4.setN (i := 9) (by omega) ((d + p2 : Nat) : Int)
        exact this
      · simp +contextual (maxSteps := 2000000) (disch := first | omega | (simp only [SZ]; first | done | omega) | (simp only [TS] at *; omega)) only [RZ, ovw, oneC, reduceAdd, reduceMul, reduceSub, reduceEqDiff, reduceLT, ↓reduceIte, Int.reduceToNat, reduceLeDiff,  g0, g2]
      · have := (h4.setN (i := 9) (by omega) ((d + p2 : Nat) : Int)).atOf
        rw [show (9 + 4 : Nat) = 13 from rfl] at this
        rw [this, hat]
        omega
end
end Go.Proofs.YtbdkggnajipdhaaDoor
