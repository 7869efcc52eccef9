/- Texts laid one behind the other: PbA, PbB, PbC, PbD. Each says at its head what it proves. -/
import Derived.Test.YtbdkggnajipdhaaDoorY13
import Derived.Lib.AppendIntMem
import Derived.Lib.UnsafeStr
set_option linter.unusedSimpArgs false
/- Walks: strings.Builder at the beginning of a printer: copyCheck, WriteByte, WriteString, Len, String. -/
namespace Go.Proofs.YtbdkggnajipdhaaDoor
open Go.RowKit
set_option maxRecDepth 100000
theorem strCells_bs (s : ByteArray) : Lib.strCells s = byV (bs s) := by
  unfold Lib.strCells byV bs
  rw [List.map_map]
  rfl
theorem byV_len (X : List Nat) : (byV X).length = X.length := List.length_map ..
theorem byV_app (X Y : List Nat) : byV (X ++ Y) = byV X ++ byV Y := List.map_append
/-- The printer at block g: what is written so far, whether it is bad. -/
structure PbI (g : Nat) (w : World) (q A : Option Addr) (c : Nat) (p : Pr) : Prop where
  blk : w.heap[g]? = some (.cells #[.pointer q, .slice A p.X.length c, .bool p.bad] 52 (0, 0))
  q0 : q = none ∨ q = some ⟨g, 0, none⟩
  own : w.ownsRow (g + 1) 5 1 (.slice A p.X.length c) p.X.length (byV p.X)
  small : ∀ n ∈ p.X, n < 256
def PbIn (g : Nat) (w : World) (p : Pr) : Prop := ∃ q A c, PbI g w q A c p
/-- A printer's step turns its own block and rows of bytes. -/
def KB (g : Nat) (w w' : World) : Prop := Below g w w' ∧ Keeps g w w'
theorem KB.refl (g : Nat) (w : World) : KB g w w := ⟨Below.refl _ _, Keeps.refl _ _⟩
theorem KB.trans {g : Nat} {a b c : World} (h : KB g a b) (k : KB g b c) : KB g a c := ⟨h.1.trans k.1, h.2.trans k.2⟩
theorem KB.alloc {g : Nat} {a w : World} (h : KB g a w) (hg : g ≤ w.heap.size) (o : Obj) : KB g a (w.alloc o) := ⟨h.1.trans ((below_alloc w o).mono hg), h.2.trans (Keeps.alloc _ _ _)⟩
theorem KB.below {g : Nat} {a w w' : World} (h : KB g a w) (hg : g ≤ w.heap.size) (k : Below w.heap.size w w') : KB g a w' := ⟨h.1.trans (k.mono hg), h.2.trans fun i o _ ho _ => (k.block i (Array.getElem?_eq_some_iff.1 ho).1).trans ho⟩
theorem Row.kb {g b : Nat} {w w' : World} {T : TypeId} {cs : List Value} (h : Row w b T cs) (k : KB g w w') (hb : b ≠ g) (hT : T ≠ 5) : Row w' b T cs := by
  obtain ⟨cur, hc, r, hr⟩ := h
  exact ⟨cur, k.2 b _ hb hc (fun cs f e => by injection e with _ e; exact hT e), r, hr⟩
theorem PbI.row {g : Nat} {w : World} {q A : Option Addr} {c : Nat} {p : Pr} (h : PbI g w q A c p) : Row w g 52 [.pointer q, .slice A p.X.length c, .bool p.bad] := ⟨_, h.blk, [], by simp⟩
theorem PbIn.lt {g : Nat} {w : World} {p : Pr} (h : PbIn g w p) : g < w.heap.size := by obtain ⟨q, A, c, h⟩ := h; exact h.row.lt
theorem PbI.below {g : Nat} {w w' : World} {q A : Option Addr} {c : Nat} {p : Pr} (h : PbI g w q A c p) (k : Below w.heap.size w w') : PbI g w' q A c p :=
  ⟨(k.block g h.row.lt).trans h.blk, h.q0, owns_below h.own k, h.small⟩
theorem PbIn.below {g : Nat} {w w' : World} {p : Pr} (h : PbIn g w p) (k : Below w.heap.size w w') : PbIn g w' p := by obtain ⟨q, A, c, h⟩ := h; exact ⟨q, A, c, h.below k⟩
theorem PbIn.alloc {g : Nat} {w : World} {p : Pr} (h : PbIn g w p) (o : Obj) : PbIn g (w.alloc o) p := h.below (below_alloc w o)
theorem PbI.ne {g : Nat} {w : World} {q A : Option Addr} {c : Nat} {p : Pr} (h : PbI g w q A c p) : (Value.slice A p.X.length c).ownBlock ≠ some g := fun hb => by
  have := (owns_ge h.own hb).1
  omega
/-- The addressee of the builder is laid. -/
theorem PbI.used {g : Nat} {w : World} {q A : Option Addr} {c : Nat} {p : Pr} (h : PbI g w q A c p) : PbI g (w.setCell ⟨g, 0, none⟩ (.pointer (some ⟨g, 0, none⟩))) (some ⟨g, 0, none⟩) A c p :=
  ⟨by simp [World.setCell, Array.getElem?_modify, h.blk], .inr rfl, owns_keep h.own fun b hb => Below.heap_setCell _ _ _ _ (fun e => h.ne (by rw [hb]; exact congrArg some e)), h.small⟩
theorem bad_set {g : Nat} {w : World} {q A : Option Addr} {c : Nat} {p : Pr} (h : PbI g w q A c p) (b : Bool) : PbI g (w.setCell ⟨g, 2, none⟩ (.bool b)) q A c ⟨p.X, b⟩ :=
  ⟨by simp [World.setCell, Array.getElem?_modify, h.blk], h.q0, owns_keep h.own fun k hk => Below.heap_setCell _ _ _ _ (fun e => h.ne (by rw [hk]; exact congrArg some e)), h.small⟩
theorem pbCheck_any {g : Nat} {w : World} {q A : Option Addr} {c : Nat} {p : Pr} (h : PbI g w q A c p) : Calls Tryd.prog 31 #[.pointer (some ⟨g, 0, none⟩)] w fun e w' => e = .returned (.tuple #[]) ∧ PbI g w' (some ⟨g, 0, none⟩) A c p ∧ KB g w w' := by
  refine calls_W (l := [_]) Tryd.func31 rfl _ Tryd.ntmps31 (by simp) ?_
  obtain ⟨j, hj, hjs⟩ := Option.map_eq_some_iff.1 (show (Tryd.prog.info? 50).map (·.size) = some 2 by kernel_rfl)
  have ne : ∀ (x y : Operand) (w : World), vBin Tryd.prog .neq 47 x y (.pointer (some ⟨g, 0, none⟩)) (.pointer (some ⟨g, 0, none⟩)) w = .ok (.value (.bool false)) w := fun x y w => by
    simp only [vBin, eqGuard]
    simp [Lib.run_neq_ptr_same w _ Tryd.underlying47 hj]
  have hsh : w.shape? g = some (52, 3) := by simp [World.shape?, h.blk]
  rcases h.q0 with rfl | rfl
  · have c0 := h.row.cell (i := 0) rfl
    have z0 := h.row.frozen 0
    have cs : (w.setCell ⟨g, 0, none⟩ (.pointer (some ⟨g, 0, none⟩))).cell? ⟨g, 0, none⟩ = some (.pointer (some ⟨g, 0, none⟩)) := by rw [cS_same, c0]; rfl
    have cv1 : vConvert Tryd.prog 47 90 (.pointer (some ⟨g, 0, none⟩)) w = .ok (.value (.pointer (some ⟨g, 0, none⟩))) w := by
      simp [vConvert, Lib.run_to_unsafe w ⟨g, 0, none⟩ Tryd.underlying47 Tryd.underlying90 hj (by rw [hjs]; decide) hsh (Nat.zero_lt_succ 2)]
    have cv2 : vConvert Tryd.prog 90 47 (.pointer (some ⟨g, 0, none⟩)) w = .ok (.value (.pointer (some ⟨g, 0, none⟩))) w := by
      simp [vConvert, Lib.run_from_unsafe w ⟨g, 0, none⟩ Tryd.underlying90 Tryd.underlying47 hj hsh (by kernel_rfl)]
    have cl : vCall Tryd.prog 53 #[.pointer (some ⟨g, 0, none⟩)] w = .ok (.value (.pointer (some ⟨g, 0, none⟩))) w := by
      unfold vCall
      rw [run_callFunc_extern Tryd.func53 (by kernel_rfl) (by kernel_rfl) (by kernel_rfl) (e := Extern.AbiNoEscape.same) (by kernel_rfl), Lib.run_noEscape]
      rfl
    rw [vCall_at] at cl
    simp +contextual (maxSteps := 2000000) (disch := (first | omega | (simp only [SZ]; done) | (simp only [SZ]; omega) | (simp only [TS] at *; omega))) only [RZ, gval, gslot, fillL, ovw, numb, catL, ldN, agL, okC, oneC, init, Nat.reduceAdd, Nat.reduceMul, Nat.reduceSub, Nat.reduceEqDiff, Nat.reduceLT, ↓reduceIte, Int.reduceToNat, Int.reduceAdd, Int.reduceSub, Int.reduceMul, Int.reduceLT, Int.reduceLE, Int.reduceEq, Nat.reduceLeDiff,  c0]
    refine W_if_t rfl ?_
    simp +contextual (maxSteps := 2000000) (disch := (first | omega | (simp only [SZ]; done) | (simp only [SZ]; omega) | (simp only [TS] at *; omega))) only [RZ, gval, gslot, fillL, ovw, numb, catL, ldN, agL, okC, oneC, init, Nat.reduceAdd, Nat.reduceMul, Nat.reduceSub, Nat.reduceEqDiff, Nat.reduceLT, ↓reduceIte, Int.reduceToNat, Int.reduceAdd, Int.reduceSub, Int.reduceMul, Int.reduceLT, Int.reduceLE, Int.reduceEq, Nat.reduceLeDiff,  c0, z0, cv1, cv2, cl, cs, ne]
    exact ⟨h.used, (Below.refl _ w).setCell (p := ⟨g, 0, none⟩) (Nat.le_refl _) _, Keeps.setCell _ _ _ _⟩
  · have c0 := h.row.cell (i := 0) rfl
    simp +contextual (maxSteps := 2000000) (disch := (first | omega | (simp only [SZ]; done) | (simp only [SZ]; omega) | (simp only [TS] at *; omega))) only [RZ, gval, gslot, fillL, ovw, numb, catL, ldN, agL, okC, oneC, init, Nat.reduceAdd, Nat.reduceMul, Nat.reduceSub, Nat.reduceEqDiff, Nat.reduceLT, ↓reduceIte, Int.reduceToNat, Int.reduceAdd, Int.reduceSub, Int.reduceMul, Int.reduceLT, Int.reduceLE, Int.reduceEq, Nat.reduceLeDiff,  c0]
    refine W_if_f rfl ?_
    simp +contextual (maxSteps := 2000000) (disch := (first | omega | (simp only [SZ]; done) | (simp only [SZ]; omega) | (simp only [TS] at *; omega))) only [RZ, gval, gslot, fillL, ovw, numb, catL, ldN, agL, okC, oneC, init, Nat.reduceAdd, Nat.reduceMul, Nat.reduceSub, Nat.reduceEqDiff, Nat.reduceLT, ↓reduceIte, Int.reduceToNat, Int.reduceAdd, Int.reduceSub, Int.reduceMul, Int.reduceLT, Int.reduceLE, Int.reduceEq, Nat.reduceLeDiff,  c0, ne]
    refine W_if_f rfl ?_
    simp +contextual (maxSteps := 2000000) (disch := (first | omega | (simp only [SZ]; done) | (simp only [SZ]; omega) | (simp only [TS] at *; omega))) only [RZ, gval, gslot, fillL, ovw, numb, catL, ldN, agL, okC, oneC, init, Nat.reduceAdd, Nat.reduceMul, Nat.reduceSub, Nat.reduceEqDiff, Nat.reduceLT, ↓reduceIte, Int.reduceToNat, Int.reduceAdd, Int.reduceSub, Int.reduceMul, Int.reduceLT, Int.reduceLE, Int.reduceEq, Nat.reduceLeDiff]
    exact ⟨h, KB.refl _ _⟩
theorem pbByte_any {g : Nat} {w : World} {p : Pr} (h : PbIn g w p) (n : Nat) (hn : n < 256) (hl : p.X.length + 1 ≤ 1000000000) :
    Calls Tryd.prog 54 #[.pointer (some ⟨g, 0, none⟩), .int .u8 n] w fun e w' => e = .returned .nilIface ∧ PbIn g w' (p.add [n]) ∧ KB g w w' := by
  refine calls_W (l := [_, _]) Tryd.func54 rfl _ Tryd.ntmps54 (by simp) ?_
  obtain ⟨q, A, c, h⟩ := h
  simp +contextual (maxSteps := 2000000) (disch := (first | omega | (simp only [SZ]; done) | (simp only [SZ]; omega) | (simp only [TS] at *; omega))) only [RZ, gval, gslot, fillL, ovw, numb, catL, ldN, agL, okC, oneC, init, Nat.reduceAdd, Nat.reduceMul, Nat.reduceSub, Nat.reduceEqDiff, Nat.reduceLT, ↓reduceIte, Int.reduceToNat, Int.reduceAdd, Int.reduceSub, Int.reduceMul, Int.reduceLT, Int.reduceLE, Int.reduceEq, Nat.reduceLeDiff]
  refine (pbCheck_any h).mono ?_
  rintro e w1 ⟨rfl, h1, k1⟩
  refine ⟨_, rfl, ?_⟩
  have hI : sliceI Tryd.prog 48 = some (5, 1, 1) := by kernel_rfl
  have c1 := h1.row.cell (i := 1) rfl
  have hlt := h1.row.lt
  have hsz := k1.1.size
  obtain ⟨A', c', w2, he, hown2, hg2, _⟩ := vAppend_own (P := Tryd.prog) (T := 48) (ty := 48) (m := 1) (c := 1) (b := w1.heap.size) (o := 0) (news := [.int .u8 n]) hI (h1.own.alloc (.cells #[.int .u8 n] 5)) rfl
    (fun j u hu => by rw [Nat.zero_add, (new_block w1 #[.int .u8 n] 5).1 j]; simpa using hu) (fun u hu => by simp at hu; subst hu; rfl) (by omega) (by omega) (by rw [World.size_alloc]; omega)
  have hb2 : w2.heap[g]? = some (.cells #[.pointer (some ⟨g, 0, none⟩), .slice A p.X.length c, .bool p.bad] 52 (0, 0)) := by
    rw [hg2.block g (by simp; omega) (fun e => h1.ne e.symm), Lib.alloc_old w1 _ g hlt]
    exact h1.blk
  have d1 : w2.cell? ⟨g, 1, none⟩ = some (.slice A p.X.length c) := by rw [Lib.cell_of_heap hb2]; rfl
  have f1 : w2.frozen? ⟨g, 1, none⟩ = false := Lib.frozen_of_heap hb2 1
  simp +contextual (maxSteps := 2000000) (disch := (first | omega | (simp only [SZ]; done) | (simp only [SZ]; omega) | (simp only [TS] at *; omega))) only [RZ, gval, gslot, fillL, ovw, numb, catL, ldN, agL, okC, oneC, init, Nat.reduceAdd, Nat.reduceMul, Nat.reduceSub, Nat.reduceEqDiff, Nat.reduceLT, ↓reduceIte, Int.reduceToNat, Int.reduceAdd, Int.reduceSub, Int.reduceMul, Int.reduceLT, Int.reduceLE, Int.reduceEq, Nat.reduceLeDiff,  c1, he, d1, f1]
  refine ⟨⟨some ⟨g, 0, none⟩, A', c', ?_, .inr rfl, ?_, ?_⟩, (k1.1.alloc (by omega) _).grown hg2 (by simp; omega) (fun k hk => by have := (h1.own.lt k hk).1; omega) |>.setCell (p := ⟨g, 1, none⟩) (Nat.le_refl _) _,
    ((k1.2.trans (Keeps.alloc _ _ _)).trans (Keeps.grown (h1.own.alloc _) hg2)).trans (Keeps.setCell _ _ _ _)⟩
  · simp [World.setCell, Array.getElem?_modify, hb2, Pr.add]
  · have : (byV (p.X ++ [n])) = byV p.X ++ [.int .u8 n] := byV_app _ _
    have h3 := owns_keep (w' := w2.setCell ⟨g, 1, none⟩ (.slice A' (p.X.length + 1) c')) hown2 fun b hb => Below.heap_setCell _ _ _ _ (by
      have := (owns_ge hown2 hb).1
      show b ≠ g
      omega)
    unfold Pr.add
    rw [this, List.length_append]
    exact h3
  · intro m hm
    rcases List.mem_append.1 hm with hm | hm
    · exact h.small m hm
    · simp at hm; omega
theorem pbStr_any {g : Nat} {w : World} {p : Pr} (h : PbIn g w p) (s : ByteArray) (hl : p.X.length + s.size ≤ 1000000000) :
    Calls Tryd.prog 13 #[.pointer (some ⟨g, 0, none⟩), .string s] w fun e w' => e = .returned (.tuple #[.int .i64 s.size, .nilIface]) ∧ PbIn g w' (p.add (bs s)) ∧ KB g w w' := by
  refine calls_W (l := [_, _]) Tryd.func13 rfl _ Tryd.ntmps13 (by simp) ?_
  obtain ⟨q, A, c, h⟩ := h
  simp +contextual (maxSteps := 2000000) (disch := (first | omega | (simp only [SZ]; done) | (simp only [SZ]; omega) | (simp only [TS] at *; omega))) only [RZ, gval, gslot, fillL, ovw, numb, catL, ldN, agL, okC, oneC, init, Nat.reduceAdd, Nat.reduceMul, Nat.reduceSub, Nat.reduceEqDiff, Nat.reduceLT, ↓reduceIte, Int.reduceToNat, Int.reduceAdd, Int.reduceSub, Int.reduceMul, Int.reduceLT, Int.reduceLE, Int.reduceEq, Nat.reduceLeDiff]
  refine (pbCheck_any h).mono ?_
  rintro e w1 ⟨rfl, h1, k1⟩
  refine ⟨_, rfl, ?_⟩
  obtain ⟨i0, hi, hz0, hz1, hz2⟩ := info_parts (show (Tryd.prog.info? 5).map (fun i => (i.zero, i.size, i.bytes)) = some (some (.int .u8 0), 1, 1) by kernel_rfl)
  have c1 := h1.row.cell (i := 1) rfl
  have hlt := h1.row.lt
  have hsz := k1.1.size
  obtain ⟨v', w2, he0, hown2, hg2, _⟩ := Lib.run_append_own_string (P := Tryd.prog) (w := w1) (g + 1) 48 9 48 5 i0 Tryd.underlying48 Tryd.underlying9 hi hz0 hz1 hz2 (.slice A p.X.length c) p.X.length (byV p.X) h1.own s (by unfold maxLen; omega) (by omega) (by omega)
  have he : vAppend Tryd.prog 48 9 48 (.slice A p.X.length c) (.string s) w1 = .ok (.value v') w2 := by simp [vAppend, he0]
  obtain ⟨A', n', c', rfl, hn'⟩ : ∃ A n c, v' = .slice A n c ∧ n = p.X.length + s.size := by
    rcases hown2.2 with ⟨hv, h0⟩ | ⟨g, cap, cur, hv, _⟩
    · exact ⟨none, 0, 0, hv, h0.symm⟩
    · exact ⟨_, _, _, hv, rfl⟩
  subst hn'
  have hb2 : w2.heap[g]? = some (.cells #[.pointer (some ⟨g, 0, none⟩), .slice A p.X.length c, .bool p.bad] 52 (0, 0)) := by
    rw [hg2.block g hlt (fun e => h1.ne e.symm)]
    exact h1.blk
  have d1 : w2.cell? ⟨g, 1, none⟩ = some (.slice A p.X.length c) := by rw [Lib.cell_of_heap hb2]; rfl
  have f1 : w2.frozen? ⟨g, 1, none⟩ = false := Lib.frozen_of_heap hb2 1
  simp +contextual (maxSteps := 2000000) (disch := (first | omega | (simp only [SZ]; done) | (simp only [SZ]; omega) | (simp only [TS] at *; omega))) only [RZ, gval, gslot, fillL, ovw, numb, catL, ldN, agL, okC, oneC, init, Nat.reduceAdd, Nat.reduceMul, Nat.reduceSub, Nat.reduceEqDiff, Nat.reduceLT, ↓reduceIte, Int.reduceToNat, Int.reduceAdd, Int.reduceSub, Int.reduceMul, Int.reduceLT, Int.reduceLE, Int.reduceEq, Nat.reduceLeDiff,  c1, he, d1, f1]
  refine ⟨⟨some ⟨g, 0, none⟩, A', c', ?_, .inr rfl, ?_, ?_⟩, (k1.1.grown hg2 (by omega) (fun k hk => by have := (h1.own.lt k hk).1; omega)).setCell (p := ⟨g, 1, none⟩) (Nat.le_refl _) _,
    (k1.2.trans (Keeps.grown h1.own hg2)).trans (Keeps.setCell _ _ _ _)⟩
  · simp [World.setCell, Array.getElem?_modify, hb2, Pr.add, bs_len]
  · have h3 := owns_keep (w' := w2.setCell ⟨g, 1, none⟩ (.slice A' (p.X.length + s.size) c')) hown2 fun b hb => Below.heap_setCell _ _ _ _ (by
      have := (owns_ge hown2 hb).1
      show b ≠ g
      omega)
    unfold Pr.add
    rw [List.length_append, bs_len, byV_app, ← strCells_bs]
    exact h3
  · intro m hm
    rcases List.mem_append.1 hm with hm | hm
    · exact h.small m hm
    · exact bs_lt s m hm
theorem pbLen_any {g : Nat} {w : World} {p : Pr} (h : PbIn g w p) : Calls Tryd.prog 21 #[.pointer (some ⟨g, 0, none⟩)] w fun e w' => e = .returned (.int .i64 p.X.length) ∧ w = w' := by
  refine calls_W (l := [_]) Tryd.func21 rfl _ Tryd.ntmps21 (by simp) ?_
  obtain ⟨q, A, c, h⟩ := h
  have c1 := h.row.cell (i := 1) rfl
  simp +contextual (maxSteps := 2000000) (disch := (first | omega | (simp only [SZ]; done) | (simp only [SZ]; omega) | (simp only [TS] at *; omega))) only [RZ, gval, gslot, fillL, ovw, numb, catL, ldN, agL, okC, oneC, init, Nat.reduceAdd, Nat.reduceMul, Nat.reduceSub, Nat.reduceEqDiff, Nat.reduceLT, ↓reduceIte, Int.reduceToNat, Int.reduceAdd, Int.reduceSub, Int.reduceMul, Int.reduceLT, Int.reduceLE, Int.reduceEq, Nat.reduceLeDiff,  c1]
end Go.Proofs.YtbdkggnajipdhaaDoor
/- Walks: the printer's methods: require, write, begin, end, numbers, name, option, hits; num.Format. -/
namespace Go.Proofs.YtbdkggnajipdhaaDoor
open Go.RowKit
set_option maxRecDepth 100000
def nR (n : Int) : Prop := -9223372036854775808 ≤ n ∧ n ≤ 9223372036854775807
def fmtB (n : Int) : ByteArray := ⟨(Lib.itoa n).toArray⟩
theorem bs_fmtB (n : Int) : bs (fmtB n) = fmtI n := rfl
theorem format_any (n : Int) (w : World) (hL : Laid w) (hn : nR n) : Calls Tryd.prog 55 #[.int .i64 n] w fun e w' => e = .returned (.string (fmtB n)) ∧ Below w.heap.size w w' := by
  refine calls_W (l := [_]) Tryd.func55 rfl _ Tryd.ntmps55 (by simp) ?_
  simp +contextual (maxSteps := 2000000) (disch := (first | omega | (simp only [SZ]; done) | (simp only [SZ]; omega) | (simp only [TS] at *; omega))) only [RZ, gval, gslot, fillL, ovw, numb, catL, ldN, agL, okC, oneC, init, Nat.reduceAdd, Nat.reduceMul, Nat.reduceSub, Nat.reduceEqDiff, Nat.reduceLT, ↓reduceIte, Int.reduceToNat, Int.reduceAdd, Int.reduceSub, Int.reduceMul, Int.reduceLT, Int.reduceLE, Int.reduceEq, Nat.reduceLeDiff]
  refine (Tryd.strconv_Itoa n hn.1 hn.2 w hL.pow).mono ?_
  rintro e w1 ⟨rfl, k, os, rfl⟩
  refine ⟨_, rfl, ?_⟩
  simp +contextual (maxSteps := 2000000) (disch := (first | omega | (simp only [SZ]; done) | (simp only [SZ]; omega) | (simp only [TS] at *; omega))) only [RZ, gval, gslot, fillL, ovw, numb, catL, ldN, agL, okC, oneC, init, Nat.reduceAdd, Nat.reduceMul, Nat.reduceSub, Nat.reduceEqDiff, Nat.reduceLT, ↓reduceIte, Int.reduceToNat, Int.reduceAdd, Int.reduceSub, Int.reduceMul, Int.reduceLT, Int.reduceLE, Int.reduceEq, Nat.reduceLeDiff]
  exact ⟨rfl, Lib.below_grow _ w (Nat.le_refl _) k os⟩
theorem Laid.kb {g : Nat} {w w' : World} (h : Laid w) (k : KB g w w') (hg : 5 ≤ g) : Laid w' := h.below k.1 (by omega)
section
variable {g : Nat} {w : World} {p : Pr}
/-- How texts grow. -/
theorem add_len (p : Pr) (l : List Nat) : (p.add l).X.length = p.X.length + l.length := by unfold Pr.add; rw [List.length_append]
theorem ws_len (p : Pr) (l : List (List Nat)) : (p.ws l).X.length = p.X.length + (l.flatMap (32 :: ·)).length := add_len p _
theorem fit_len {n : Int} (h : fitB n = true) : (fmtI n).length ≤ 18 := by
  rw [fmt_dec h]; exact dec_len (fit_nat h).2
theorem pbRequire_any (h : PbIn g w p) (b : Bool) : Calls Tryd.prog 20 #[.pointer (some ⟨g, 0, none⟩), .bool b] w fun e w' => e = .returned (.tuple #[]) ∧ PbIn g w' (p.req b) ∧ KB g w w' := by
  refine calls_W (l := [_, _]) Tryd.func20 rfl _ Tryd.ntmps20 (by simp) ?_
  obtain ⟨q, A, c, h⟩ := h
  cases b with
  | true =>
    refine W_piece fun K hK hX => ?_
    simp +contextual (maxSteps := 2000000) (disch := (first | omega | (simp only [SZ]; done) | (simp only [SZ]; omega) | (simp only [TS] at *; omega))) only [RZ, gval, gslot, fillL, ovw, numb, catL, ldN, agL, okC, oneC, init, Nat.reduceAdd, Nat.reduceMul, Nat.reduceSub, Nat.reduceEqDiff, Nat.reduceLT, ↓reduceIte, Int.reduceToNat, Int.reduceAdd, Int.reduceSub, Int.reduceMul, Int.reduceLT, Int.reduceLE, Int.reduceEq, Nat.reduceLeDiff]
    refine hK _ _ ?_
    clear hK hX K
    refine W_if_f rfl ?_
    simp +contextual (maxSteps := 2000000) (disch := (first | omega | (simp only [SZ]; done) | (simp only [SZ]; omega) | (simp only [TS] at *; omega))) only [RZ, gval, gslot, fillL, ovw, numb, catL, ldN, agL, okC, oneC, init, Nat.reduceAdd, Nat.reduceMul, Nat.reduceSub, Nat.reduceEqDiff, Nat.reduceLT, ↓reduceIte, Int.reduceToNat, Int.reduceAdd, Int.reduceSub, Int.reduceMul, Int.reduceLT, Int.reduceLE, Int.reduceEq, Nat.reduceLeDiff]
    refine ⟨⟨q, A, c, ?_⟩, KB.refl _ _⟩
    have : p.req true = p := by unfold Pr.req; rw [Bool.not_true, Bool.or_false]
    rw [this]; exact h
  | false =>
    refine W_piece fun K hK hX => ?_
    simp +contextual (maxSteps := 2000000) (disch := (first | omega | (simp only [SZ]; done) | (simp only [SZ]; omega) | (simp only [TS] at *; omega))) only [RZ, gval, gslot, fillL, ovw, numb, catL, ldN, agL, okC, oneC, init, Nat.reduceAdd, Nat.reduceMul, Nat.reduceSub, Nat.reduceEqDiff, Nat.reduceLT, ↓reduceIte, Int.reduceToNat, Int.reduceAdd, Int.reduceSub, Int.reduceMul, Int.reduceLT, Int.reduceLE, Int.reduceEq, Nat.reduceLeDiff]
    refine hK _ _ ?_
    clear hK hX K
    refine W_if_t rfl ?_
    have c2 := h.row.cell (i := 2) rfl
    have z2 := h.row.frozen 2
    simp +contextual (maxSteps := 2000000) (disch := (first | omega | (simp only [SZ]; done) | (simp only [SZ]; omega) | (simp only [TS] at *; omega))) only [RZ, gval, gslot, fillL, ovw, numb, catL, ldN, agL, okC, oneC, init, Nat.reduceAdd, Nat.reduceMul, Nat.reduceSub, Nat.reduceEqDiff, Nat.reduceLT, ↓reduceIte, Int.reduceToNat, Int.reduceAdd, Int.reduceSub, Int.reduceMul, Int.reduceLT, Int.reduceLE, Int.reduceEq, Nat.reduceLeDiff,  c2, z2]
    refine ⟨⟨q, A, c, ?_⟩, (Below.refl _ w).setCell (p := ⟨g, 2, none⟩) (Nat.le_refl _) _, Keeps.setCell _ _ _ _⟩
    have : p.req false = ⟨p.X, true⟩ := by unfold Pr.req; rw [Bool.not_false, Bool.or_true]
    rw [this]; exact bad_set h true
theorem pbWrite_any {L : List ByteArray} {A : Option Addr} {c : Nat} (h : PbIn g w p) (hA : ∀ w', KB g w w' → Arr w' A 1 (L.map fun s => [Value.string s])) (hl : L.length ≤ 1000) (hlen : (p.ws (L.map bs)).X.length ≤ 900000000) :
    Calls Tryd.prog 33 #[.pointer (some ⟨g, 0, none⟩), .slice A L.length c] w fun e w' => e = .returned (.tuple #[]) ∧ PbIn g w' (p.ws (L.map bs)) ∧ KB g w w' := by
  refine calls_W (l := [_, _]) Tryd.func33 rfl _ Tryd.ntmps33 (by simp) ?_
  rw [ws_len] at hlen
  refine W_cutS (fun σ w1 => σ 0 = .pointer (some ⟨g, 0, none⟩) ∧ PbIn g w1 (p.add ((L.map bs).flatMap (32 :: ·))) ∧ KB g w w1) ?_ ?_
  · rintro σ w1 ⟨f0, h1, k1⟩
    simp +contextual (maxSteps := 2000000) (disch := (first | omega | (simp only [SZ]; done) | (simp only [SZ]; omega) | (simp only [TS] at *; omega))) only [RZ, gval, gslot, fillL, ovw, numb, catL, ldN, agL, okC, oneC, init, Nat.reduceAdd, Nat.reduceMul, Nat.reduceSub, Nat.reduceEqDiff, Nat.reduceLT, ↓reduceIte, Int.reduceToNat, Int.reduceAdd, Int.reduceSub, Int.reduceMul, Int.reduceLT, Int.reduceLE, Int.reduceEq, Nat.reduceLeDiff,  f0]
    refine (pbLen_any h1).mono ?_
    rintro e w2 ⟨rfl, rfl⟩
    refine ⟨_, rfl, ?_⟩
    have hln : (p.add ((L.map bs).flatMap (32 :: ·))).X.length = p.X.length + ((L.map bs).flatMap (32 :: ·)).length := add_len _ _
    have hd : (((p.add ((L.map bs).flatMap (32 :: ·))).X.length : Int) ≤ 32768) = ((p.add ((L.map bs).flatMap (32 :: ·))).X.length ≤ 32768) := by
      apply propext; omega
    simp +contextual (maxSteps := 2000000) (disch := (first | omega | (simp only [SZ]; done) | (simp only [SZ]; omega) | (simp only [TS] at *; omega))) only [RZ, gval, gslot, fillL, ovw, numb, catL, ldN, agL, okC, oneC, init, Nat.reduceAdd, Nat.reduceMul, Nat.reduceSub, Nat.reduceEqDiff, Nat.reduceLT, ↓reduceIte, Int.reduceToNat, Int.reduceAdd, Int.reduceSub, Int.reduceMul, Int.reduceLT, Int.reduceLE, Int.reduceEq, Nat.reduceLeDiff,  f0]
    rw [show decide (((p.add ((L.map bs).flatMap (32 :: ·))).X.length : Int) ≤ 32768) = decide ((p.add ((L.map bs).flatMap (32 :: ·))).X.length ≤ 32768) by simp only [hd]]
    refine (pbRequire_any h1 _).mono ?_
    rintro e w2 ⟨rfl, h2, k2⟩
    refine ⟨_, rfl, ?_⟩
    simp +contextual (maxSteps := 2000000) (disch := (first | omega | (simp only [SZ]; done) | (simp only [SZ]; omega) | (simp only [TS] at *; omega))) only [RZ, gval, gslot, fillL, ovw, numb, catL, ldN, agL, okC, oneC, init, Nat.reduceAdd, Nat.reduceMul, Nat.reduceSub, Nat.reduceEqDiff, Nat.reduceLT, ↓reduceIte, Int.reduceToNat, Int.reduceAdd, Int.reduceSub, Int.reduceMul, Int.reduceLT, Int.reduceLE, Int.reduceEq, Nat.reduceLeDiff]
    exact ⟨h2, k1.trans k2⟩
  · refine W_piece fun K hK hX => ?_
    simp +contextual (maxSteps := 2000000) (disch := (first | omega | (simp only [SZ]; done) | (simp only [SZ]; omega) | (simp only [TS] at *; omega))) only [RZ, gval, gslot, fillL, ovw, numb, catL, ldN, agL, okC, oneC, init, Nat.reduceAdd, Nat.reduceMul, Nat.reduceSub, Nat.reduceEqDiff, Nat.reduceLT, ↓reduceIte, Int.reduceToNat, Int.reduceAdd, Int.reduceSub, Int.reduceMul, Int.reduceLT, Int.reduceLE, Int.reduceEq, Nat.reduceLeDiff]
    refine hK _ _ ?_
    clear hK hX K
    rw [W_block, W_loop]
    refine Raw_loop (fun σ w1 => ∃ k : Nat, k ≤ L.length ∧ PbIn g w1 (p.add (((L.take k).map bs).flatMap (32 :: ·))) ∧ KB g w w1 ∧ σ 0 = .pointer (some ⟨g, 0, none⟩) ∧ σ 6 = .slice A L.length c ∧ σ 7 = .int .i64 L.length ∧ σ 8 = .int .i64 k) (fun σ _ => L.length - (intOf (σ 8)).toNat) ?_ ?_
    · exact ⟨0, Nat.zero_le _, by rw [List.take_zero, List.map_nil, List.flatMap_nil, Pr.add_nil]; exact h, KB.refl _ _, rfl, rfl, rfl, rfl⟩
    rintro σ w1 ⟨k, hk, h1, k1, f0, f6, f7, f8⟩ K hK
    simp +contextual (maxSteps := 2000000) (disch := (first | omega | (simp only [SZ]; done) | (simp only [SZ]; omega) | (simp only [TS] at *; omega))) only [RZ, gval, gslot, fillL, ovw, numb, catL, ldN, agL, okC, oneC, init, Nat.reduceAdd, Nat.reduceMul, Nat.reduceSub, Nat.reduceEqDiff, Nat.reduceLT, ↓reduceIte, Int.reduceToNat, Int.reduceAdd, Int.reduceSub, Int.reduceMul, Int.reduceLT, Int.reduceLE, Int.reduceEq, Nat.reduceLeDiff,  f0, f6, f7, f8]
    (refine W_if rfl (fun hc => ?_) (fun hc => ?_) <;> (try simp only [TS] at hc))
    · obtain ⟨s, hsk⟩ : ∃ s, L[k]? = some s := ⟨_, List.getElem?_eq_getElem (by omega)⟩
      obtain ⟨b, o, rfl, hb, hcell⟩ := (hA w1 k1).at_ (enc := fun s => [Value.string s]) hsk
      have l0 := hcell 0 _ rfl
      rw [Nat.add_zero, Nat.mul_one] at l0
      have hmem : s ∈ L := List.mem_of_getElem? hsk
      have htk : ((L.take (k + 1)).map bs).flatMap (32 :: ·) = ((L.take k).map bs).flatMap (32 :: ·) ++ 32 :: bs s := by
        rw [List.take_add_one, hsk]
        simp
      have hle : (((L.take (k + 1)).map bs).flatMap (32 :: ·)).length ≤ ((L.map bs).flatMap (32 :: ·)).length := by
        conv => rhs; rw [← List.take_append_drop (k + 1) L, List.map_append, List.flatMap_append, List.length_append]
        omega
      rw [htk, List.length_append, List.length_cons, bs_len] at hle
      have hl1 := add_len p (((L.take k).map bs).flatMap (32 :: ·))
      simp +contextual (maxSteps := 2000000) (disch := (first | omega | (simp only [SZ]; done) | (simp only [SZ]; omega) | (simp only [TS] at *; omega))) only [RZ, gval, gslot, fillL, ovw, numb, catL, ldN, agL, okC, oneC, init, Nat.reduceAdd, Nat.reduceMul, Nat.reduceSub, Nat.reduceEqDiff, Nat.reduceLT, ↓reduceIte, Int.reduceToNat, Int.reduceAdd, Int.reduceSub, Int.reduceMul, Int.reduceLT, Int.reduceLE, Int.reduceEq, Nat.reduceLeDiff,  f0, f6, f7, f8, l0]
      refine (pbByte_any h1 32 (by omega) (by omega)).mono ?_
      rintro e w2 ⟨rfl, h2, k2⟩
      refine ⟨_, rfl, ?_⟩
      rw [Pr.add_add] at h2
      have hl2 := add_len p (((L.take k).map bs).flatMap (32 :: ·) ++ [32])
      rw [List.length_append, List.length_singleton] at hl2
      try simp +contextual (maxSteps := 2000000) (disch := (first | omega | (simp only [SZ]; done) | (simp only [SZ]; omega) | (simp only [TS] at *; omega))) only [RZ, gval, gslot, fillL, ovw, numb, catL, ldN, agL, okC, oneC, init, Nat.reduceAdd, Nat.reduceMul, Nat.reduceSub, Nat.reduceEqDiff, Nat.reduceLT, ↓reduceIte, Int.reduceToNat, Int.reduceAdd, Int.reduceSub, Int.reduceMul, Int.reduceLT, Int.reduceLE, Int.reduceEq, Nat.reduceLeDiff,  f0, f6, f7, f8]
      refine (pbStr_any h2 s (by omega)).mono ?_
      rintro e w3 ⟨rfl, h3, k3⟩
      refine ⟨_, rfl, ?_⟩
      rw [Pr.add_add, List.append_assoc, List.singleton_append, ← htk] at h3
      try simp +contextual (maxSteps := 2000000) (disch := (first | omega | (simp only [SZ]; done) | (simp only [SZ]; omega) | (simp only [TS] at *; omega))) only [RZ, gval, gslot, fillL, ovw, numb, catL, ldN, agL, okC, oneC, init, Nat.reduceAdd, Nat.reduceMul, Nat.reduceSub, Nat.reduceEqDiff, Nat.reduceLT, ↓reduceIte, Int.reduceToNat, Int.reduceAdd, Int.reduceSub, Int.reduceMul, Int.reduceLT, Int.reduceLE, Int.reduceEq, Nat.reduceLeDiff,  f0, f6, f7, f8]
      refine hK _ _ ⟨k + 1, by omega, h3, (k1.trans k2).trans k3, ?_⟩ ?_
      · simp +contextual (maxSteps := 2000000) (disch := (first | omega | (simp only [SZ]; done) | (simp only [SZ]; omega) | (simp only [TS] at *; omega))) only [RZ, gval, gslot, fillL, ovw, numb, catL, ldN, agL, okC, oneC, init, Nat.reduceAdd, Nat.reduceMul, Nat.reduceSub, Nat.reduceEqDiff, Nat.reduceLT, ↓reduceIte, Int.reduceToNat, Int.reduceAdd, Int.reduceSub, Int.reduceMul, Int.reduceLT, Int.reduceLE, Int.reduceEq, Nat.reduceLeDiff,  f0, f6, f7, f8]
      · simp +contextual (maxSteps := 2000000) (disch := (first | omega | (simp only [SZ]; done) | (simp only [SZ]; omega) | (simp only [TS] at *; omega))) only [RZ, gval, gslot, fillL, ovw, numb, catL, ldN, agL, okC, oneC, init, Nat.reduceAdd, Nat.reduceMul, Nat.reduceSub, Nat.reduceEqDiff, Nat.reduceLT, ↓reduceIte, Int.reduceToNat, Int.reduceAdd, Int.reduceSub, Int.reduceMul, Int.reduceLT, Int.reduceLE, Int.reduceEq, Nat.reduceLeDiff,  intOf, f8]
        omega
    · have hkl : k = L.length := by omega
      subst hkl
      rw [List.take_length] at h1
      simp +contextual (maxSteps := 2000000) (disch := (first | omega | (simp only [SZ]; done) | (simp only [SZ]; omega) | (simp only [TS] at *; omega))) only [RZ, gval, gslot, fillL, ovw, numb, catL, ldN, agL, okC, oneC, init, Nat.reduceAdd, Nat.reduceMul, Nat.reduceSub, Nat.reduceEqDiff, Nat.reduceLT, ↓reduceIte, Int.reduceToNat, Int.reduceAdd, Int.reduceSub, Int.reduceMul, Int.reduceLT, Int.reduceLE, Int.reduceEq, Nat.reduceLeDiff,  f0, f6, f7, f8]
      exact ⟨h1, k1⟩
/-- One new cell row is kept by the printer's steps. -/
theorem arr_new {Ty : TypeId} {Ls : List (List Value)} {b : Nat} (hR : Row w b Ty Ls.flatten) (hb : b ≠ g) (hT : Ty ≠ 5) (hl : ∀ v ∈ Ls, v.length = 1) : ∀ w', KB g w w' → Arr w' (some ⟨b, 0, none⟩) 1 Ls := fun w' k => by
  have h := hR.kb k hb hT
  intro hn
  refine ⟨b, 0, rfl, h.lt, fun i l hi j v hv => h.cell ?_⟩
  have key : ∀ (Vs : List (List Value)) (i : Nat), (∀ v ∈ Vs, v.length = 1) → Vs[i]? = some l → Vs.flatten[0 + i * 1 + j]? = some v := by
    intro Vs
    induction Vs with
    | nil => intro i _ h; simp at h
    | cons x r ih =>
      intro i hl hi
      rw [List.flatten_cons]
      have hx := hl x (by simp)
      cases i with
      | zero =>
        simp only [List.getElem?_cons_zero, Option.some.injEq] at hi
        subst hi
        have hj := (List.getElem?_eq_some_iff.1 hv).1
        rw [List.getElem?_append_left (by omega), show 0 + 0 * 1 + j = j by omega]
        exact hv
      | succ i =>
        rw [List.getElem?_cons_succ] at hi
        have := ih i (fun v hv => hl v (by simp [hv])) hi
        rw [List.getElem?_append_right (by omega), hx, show 0 + (i + 1) * 1 + j - 1 = 0 + i * 1 + j by omega]
        exact this
  exact key Ls i hl hi
/-- Words of a literal list. -/
theorem pbWords_any (h : PbIn g w p) (L : List ByteArray) (hl : L.length ≤ 1000) (hlen : (p.ws (L.map bs)).X.length ≤ 900000000) :
    Calls Tryd.prog 33 #[.pointer (some ⟨g, 0, none⟩), .slice (some ⟨w.heap.size, 0, none⟩) L.length L.length] (w.alloc (.cells (L.map Value.string).toArray 9)) fun e w' => e = .returned (.tuple #[]) ∧ PbIn g w' (p.ws (L.map bs)) ∧ KB g w w' := by
  have hlt := h.lt
  have hR := Row.new w 9 (L.map Value.string)
  have e1 : ∀ L : List ByteArray, (L.map fun s => [Value.string s]).flatten = L.map Value.string := fun L => by
    induction L with
    | nil => rfl
    | cons s r ih => rw [List.map_cons, List.flatten_cons, ih]; rfl
  rw [← e1 L] at hR
  rw [e1 L] at hR
  refine (pbWrite_any (L := L) (h.alloc _) (arr_new (by rw [e1 L]; exact hR) (by omega) (by decide) (fun v hv => by obtain ⟨s, _, rfl⟩ := List.mem_map.1 hv; rfl)) hl hlen).mono ?_
  rintro e w' ⟨h1, h2, h3⟩
  exact ⟨h1, h2, ((KB.refl g w).alloc (by omega) _).trans h3⟩
theorem pbBegin_any (h : PbIn g w p) (s : ByteArray) (hlen : p.X.length + s.size ≤ 800000000) : Calls Tryd.prog 34 #[.pointer (some ⟨g, 0, none⟩), .string s] w fun e w' => e = .returned (.tuple #[]) ∧ PbIn g w' (p.begin (bs s)) ∧ KB g w w' := by
  refine calls_W (l := [_, _]) Tryd.func34 rfl _ Tryd.ntmps34 (by simp) ?_
  refine W_piece fun K hK hX => ?_
  simp +contextual (maxSteps := 2000000) (disch := (first | omega | (simp only [SZ]; done) | (simp only [SZ]; omega) | (simp only [TS] at *; omega))) only [RZ, gval, gslot, fillL, ovw, numb, catL, ldN, agL, okC, oneC, init, Nat.reduceAdd, Nat.reduceMul, Nat.reduceSub, Nat.reduceEqDiff, Nat.reduceLT, ↓reduceIte, Int.reduceToNat, Int.reduceAdd, Int.reduceSub, Int.reduceMul, Int.reduceLT, Int.reduceLE, Int.reduceEq, Nat.reduceLeDiff]
  refine (pbByte_any h 32 (by omega) (by omega)).mono ?_
  rintro e w1 ⟨rfl, h1, k1⟩
  refine ⟨_, rfl, ?_⟩
  try simp +contextual (maxSteps := 2000000) (disch := (first | omega | (simp only [SZ]; done) | (simp only [SZ]; omega) | (simp only [TS] at *; omega))) only [RZ, gval, gslot, fillL, ovw, numb, catL, ldN, agL, okC, oneC, init, Nat.reduceAdd, Nat.reduceMul, Nat.reduceSub, Nat.reduceEqDiff, Nat.reduceLT, ↓reduceIte, Int.reduceToNat, Int.reduceAdd, Int.reduceSub, Int.reduceMul, Int.reduceLT, Int.reduceLE, Int.reduceEq, Nat.reduceLeDiff]
  refine hK _ _ ?_
  clear hK hX K
  simp +contextual (maxSteps := 2000000) (disch := (first | omega | (simp only [SZ]; done) | (simp only [SZ]; omega) | (simp only [TS] at *; omega))) only [RZ, gval, gslot, fillL, ovw, numb, catL, ldN, agL, okC, oneC, init, Nat.reduceAdd, Nat.reduceMul, Nat.reduceSub, Nat.reduceEqDiff, Nat.reduceLT, ↓reduceIte, Int.reduceToNat, Int.reduceAdd, Int.reduceSub, Int.reduceMul, Int.reduceLT, Int.reduceLE, Int.reduceEq, Nat.reduceLeDiff]
  have hl1 := ws_len (p.add [32]) ([s].map bs)
  rw [add_len] at hl1
  simp only [List.map_cons, List.map_nil, List.flatMap_cons, List.flatMap_nil, List.append_nil, List.length_cons, List.length_nil, bs_len] at hl1
  refine (pbWords_any h1 [s] (by simp) (by simp only [List.map_cons, List.map_nil]; omega)).mono ?_
  rintro e w2 ⟨rfl, h2, k2⟩
  refine ⟨_, rfl, ?_⟩
  simp +contextual (maxSteps := 2000000) (disch := (first | omega | (simp only [SZ]; done) | (simp only [SZ]; omega) | (simp only [TS] at *; omega))) only [RZ, gval, gslot, fillL, ovw, numb, catL, ldN, agL, okC, oneC, init, Nat.reduceAdd, Nat.reduceMul, Nat.reduceSub, Nat.reduceEqDiff, Nat.reduceLT, ↓reduceIte, Int.reduceToNat, Int.reduceAdd, Int.reduceSub, Int.reduceMul, Int.reduceLT, Int.reduceLE, Int.reduceEq, Nat.reduceLeDiff]
  exact ⟨h2, k1.trans k2⟩
theorem pbEnd_any (h : PbIn g w p) (hlen : p.X.length ≤ 800000000) : Calls Tryd.prog 36 #[.pointer (some ⟨g, 0, none⟩)] w fun e w' => e = .returned (.tuple #[]) ∧ PbIn g w' p.fin ∧ KB g w w' := by
  refine calls_W (l := [_]) Tryd.func36 rfl _ Tryd.ntmps36 (by simp) ?_
  refine W_piece fun K hK hX => ?_
  simp +contextual (maxSteps := 2000000) (disch := (first | omega | (simp only [SZ]; done) | (simp only [SZ]; omega) | (simp only [TS] at *; omega))) only [RZ, gval, gslot, fillL, ovw, numb, catL, ldN, agL, okC, oneC, init, Nat.reduceAdd, Nat.reduceMul, Nat.reduceSub, Nat.reduceEqDiff, Nat.reduceLT, ↓reduceIte, Int.reduceToNat, Int.reduceAdd, Int.reduceSub, Int.reduceMul, Int.reduceLT, Int.reduceLE, Int.reduceEq, Nat.reduceLeDiff]
  refine (pbStr_any h ⟨#[59, 10]⟩ (by rw [ba_lit]; simp; omega)).mono ?_
  rintro e w1 ⟨rfl, h1, k1⟩
  refine ⟨_, rfl, ?_⟩
  rw [show bs ⟨#[59, 10]⟩ = asc ";\n" by decide +kernel] at h1
  try simp +contextual (maxSteps := 2000000) (disch := (first | omega | (simp only [SZ]; done) | (simp only [SZ]; omega) | (simp only [TS] at *; omega))) only [RZ, gval, gslot, fillL, ovw, numb, catL, ldN, agL, okC, oneC, init, Nat.reduceAdd, Nat.reduceMul, Nat.reduceSub, Nat.reduceEqDiff, Nat.reduceLT, ↓reduceIte, Int.reduceToNat, Int.reduceAdd, Int.reduceSub, Int.reduceMul, Int.reduceLT, Int.reduceLE, Int.reduceEq, Nat.reduceLeDiff]
  refine hK _ _ ?_
  clear hK hX K
  simp +contextual (maxSteps := 2000000) (disch := (first | omega | (simp only [SZ]; done) | (simp only [SZ]; omega) | (simp only [TS] at *; omega))) only [RZ, gval, gslot, fillL, ovw, numb, catL, ldN, agL, okC, oneC, init, Nat.reduceAdd, Nat.reduceMul, Nat.reduceSub, Nat.reduceEqDiff, Nat.reduceLT, ↓reduceIte, Int.reduceToNat, Int.reduceAdd, Int.reduceSub, Int.reduceMul, Int.reduceLT, Int.reduceLE, Int.reduceEq, Nat.reduceLeDiff]
  refine (pbLen_any h1).mono ?_
  rintro e w2 ⟨rfl, rfl⟩
  refine ⟨_, rfl, ?_⟩
  have hd : (((p.add (asc ";\n")).X.length : Int) ≤ 32768) = ((p.add (asc ";\n")).X.length ≤ 32768) := by
    apply propext; omega
  try simp +contextual (maxSteps := 2000000) (disch := (first | omega | (simp only [SZ]; done) | (simp only [SZ]; omega) | (simp only [TS] at *; omega))) only [RZ, gval, gslot, fillL, ovw, numb, catL, ldN, agL, okC, oneC, init, Nat.reduceAdd, Nat.reduceMul, Nat.reduceSub, Nat.reduceEqDiff, Nat.reduceLT, ↓reduceIte, Int.reduceToNat, Int.reduceAdd, Int.reduceSub, Int.reduceMul, Int.reduceLT, Int.reduceLE, Int.reduceEq, Nat.reduceLeDiff]
  rw [show decide (((p.add (asc ";\n")).X.length : Int) ≤ 32768) = decide ((p.add (asc ";\n")).X.length ≤ 32768) by simp only [hd]]
  refine (pbRequire_any h1 _).mono ?_
  rintro e w3 ⟨rfl, h2, k2⟩
  refine ⟨_, rfl, ?_⟩
  simp +contextual (maxSteps := 2000000) (disch := (first | omega | (simp only [SZ]; done) | (simp only [SZ]; omega) | (simp only [TS] at *; omega))) only [RZ, gval, gslot, fillL, ovw, numb, catL, ldN, agL, okC, oneC, init, Nat.reduceAdd, Nat.reduceMul, Nat.reduceSub, Nat.reduceEqDiff, Nat.reduceLT, ↓reduceIte, Int.reduceToNat, Int.reduceAdd, Int.reduceSub, Int.reduceMul, Int.reduceLT, Int.reduceLE, Int.reduceEq, Nat.reduceLeDiff]
  exact ⟨h2, k1.trans k2⟩
theorem nums_cons (p : Pr) (n : Int) (r : List Int) : p.nums (n :: r) = if (p.req (fitB n)).bad then p.req (fitB n) else ((p.req (fitB n)).ws [fmtI n]).nums r := rfl
theorem ws_ok {p : Pr} {l : List (List Nat)} (h : (p.ws l).bad = false) : (p.ws l).X.length ≤ 32768 := by
  unfold Pr.ws Pr.lim Pr.req at h
  simp only [Bool.or_eq_false_iff, Bool.not_eq_false', decide_eq_true_eq] at h
  exact h.2
theorem nums_max : ∀ (L : List Int) (p : Pr), (p.nums L).X.length ≤ max p.X.length 32768 + 19
  | [], p => by show p.X.length ≤ _; omega
  | n :: r, p => by
    unfold Pr.nums
    split
    · show p.X.length ≤ _; omega
    · rename_i hb
      have hb' := hb
      unfold Pr.req at hb'
      simp only [Bool.not_eq_true, Bool.or_eq_false_iff, Bool.not_eq_false'] at hb'
      have hf := fit_len hb'.2
      have hq : ((p.req (fitB n)).ws [fmtI n]).X.length = p.X.length + (1 + (fmtI n).length) := by
        rw [ws_len]
        show p.X.length + _ = _
        simp; omega
      have ih := nums_max r ((p.req (fitB n)).ws [fmtI n])
      by_cases hbig : ((p.req (fitB n)).ws [fmtI n]).bad = true
      · have hdead : ∀ (r : List Int) (q : Pr), q.bad = true → (q.nums r).X = q.X := by
          intro r
          cases r with
          | nil => intro q _; rfl
          | cons m r =>
            intro q hq
            unfold Pr.nums
            have : (q.req (fitB m)).bad = true := by unfold Pr.req; rw [hq]; rfl
            rw [if_pos this]
            rfl
        rw [hdead r _ hbig, hq]
        omega
      · have : ((p.req (fitB n)).ws [fmtI n]).X.length ≤ 32768 := by
          have hb2 : ((p.req (fitB n)).ws [fmtI n]).bad = false := by simpa using hbig
          unfold Pr.ws Pr.lim at hb2
          unfold Pr.req at hb2
          simp only [Bool.or_eq_false_iff, Bool.not_eq_false', decide_eq_true_eq] at hb2
          exact hb2.2
        omega
theorem pbNumbers_any {L : List Int} {A : Option Addr} {c : Nat} (h : PbIn g w p) (hA : ∀ w', KB g w w' → Arr w' A 1 (L.map fun n => [Value.int .i64 n])) (hW : Laid w) (hg : 5 ≤ g) (hl : L.length ≤ 1000000000) (hlen : p.X.length ≤ 700000000) :
    Calls Tryd.prog 35 #[.pointer (some ⟨g, 0, none⟩), .slice A L.length c] w fun e w' => e = .returned (.tuple #[]) ∧ PbIn g w' (p.nums L) ∧ KB g w w' := by
  refine calls_W (l := [_, _]) Tryd.func35 rfl _ Tryd.ntmps35 (by simp) ?_
  refine W_piece fun K hK hX => ?_
  simp +contextual (maxSteps := 2000000) (disch := (first | omega | (simp only [SZ]; done) | (simp only [SZ]; omega) | (simp only [TS] at *; omega))) only [RZ, gval, gslot, fillL, ovw, numb, catL, ldN, agL, okC, oneC, init, Nat.reduceAdd, Nat.reduceMul, Nat.reduceSub, Nat.reduceEqDiff, Nat.reduceLT, ↓reduceIte, Int.reduceToNat, Int.reduceAdd, Int.reduceSub, Int.reduceMul, Int.reduceLT, Int.reduceLE, Int.reduceEq, Nat.reduceLeDiff]
  refine hK _ _ ?_
  clear hK hX K
  rw [W_block, W_loop]
  refine Raw_loop (fun σ w1 => ∃ (k : Nat) (pk : Pr), k ≤ L.length ∧ PbIn g w1 pk ∧ pk.nums (L.drop k) = p.nums L ∧ pk.X.length ≤ max p.X.length 32768 + 19 ∧ (pk.bad = false → pk.X.length ≤ max p.X.length 32768) ∧ KB g w w1 ∧ σ 0 = .pointer (some ⟨g, 0, none⟩) ∧ σ 6 = .slice A L.length c ∧ σ 7 = .int .i64 L.length ∧ σ 8 = .int .i64 k) (fun σ _ => L.length - (intOf (σ 8)).toNat) ?_ ?_
  · exact ⟨0, p, Nat.zero_le _, h, by rw [List.drop_zero], by omega, fun _ => by omega, KB.refl _ _, rfl, rfl, rfl, rfl⟩
  rintro σ w1 ⟨k, pk, hk, h1, hn1, hx1, hx0, k1, f0, f6, f7, f8⟩ K hK
  simp +contextual (maxSteps := 2000000) (disch := (first | omega | (simp only [SZ]; done) | (simp only [SZ]; omega) | (simp only [TS] at *; omega))) only [RZ, gval, gslot, fillL, ovw, numb, catL, ldN, agL, okC, oneC, init, Nat.reduceAdd, Nat.reduceMul, Nat.reduceSub, Nat.reduceEqDiff, Nat.reduceLT, ↓reduceIte, Int.reduceToNat, Int.reduceAdd, Int.reduceSub, Int.reduceMul, Int.reduceLT, Int.reduceLE, Int.reduceEq, Nat.reduceLeDiff,  f0, f6, f7, f8]
  (refine W_if rfl (fun hc => ?_) (fun hc => ?_) <;> (try simp only [TS] at hc))
  · obtain ⟨n, hnk⟩ : ∃ n, L[k]? = some n := ⟨_, List.getElem?_eq_getElem (by omega)⟩
    obtain ⟨b, o, rfl, hb, hcell⟩ := (hA w1 k1).at_ (enc := fun n => [Value.int .i64 n]) hnk
    have l0 := hcell 0 _ rfl
    rw [Nat.add_zero, Nat.mul_one] at l0
    have hdk : L.drop k = n :: L.drop (k + 1) := by
      rw [List.drop_eq_getElem_cons (by omega)]
      congr 1
      exact (List.getElem?_eq_some_iff.1 hnk).2
    rw [hdk, nums_cons] at hn1
    refine W_piece fun K1 hK1 hX1 => ?_
    rw [W_block]
    refine W_piece fun K2 hK2 hX2 => ?_
    simp +contextual (maxSteps := 2000000) (disch := (first | omega | (simp only [SZ]; done) | (simp only [SZ]; omega) | (simp only [TS] at *; omega))) only [RZ, gval, gslot, fillL, ovw, numb, catL, ldN, agL, okC, oneC, init, Nat.reduceAdd, Nat.reduceMul, Nat.reduceSub, Nat.reduceEqDiff, Nat.reduceLT, ↓reduceIte, Int.reduceToNat, Int.reduceAdd, Int.reduceSub, Int.reduceMul, Int.reduceLT, Int.reduceLE, Int.reduceEq, Nat.reduceLeDiff,  f0, f6, f7, f8, l0]
    refine hK2 _ _ ?_
    clear hK2 hX2 K2
    refine W_piece fun K2 hK2 hX2 => ?_
    simp +contextual (maxSteps := 2000000) (disch := (first | omega | (simp only [SZ]; done) | (simp only [SZ]; omega) | (simp only [TS] at *; omega))) only [RZ, gval, gslot, fillL, ovw, numb, catL, ldN, agL, okC, oneC, init, Nat.reduceAdd, Nat.reduceMul, Nat.reduceSub, Nat.reduceEqDiff, Nat.reduceLT, ↓reduceIte, Int.reduceToNat, Int.reduceAdd, Int.reduceSub, Int.reduceMul, Int.reduceLT, Int.reduceLE, Int.reduceEq, Nat.reduceLeDiff,  f0, f6, f7, f8]
    rw [show (decide (0 ≤ n) && decide (n ≤ 999999999999999999)) = fitB n from rfl]
    refine (pbRequire_any h1 (fitB n)).mono ?_
    rintro e w2 ⟨rfl, h2, k2⟩
    refine ⟨_, rfl, ?_⟩
    try simp +contextual (maxSteps := 2000000) (disch := (first | omega | (simp only [SZ]; done) | (simp only [SZ]; omega) | (simp only [TS] at *; omega))) only [RZ, gval, gslot, fillL, ovw, numb, catL, ldN, agL, okC, oneC, init, Nat.reduceAdd, Nat.reduceMul, Nat.reduceSub, Nat.reduceEqDiff, Nat.reduceLT, ↓reduceIte, Int.reduceToNat, Int.reduceAdd, Int.reduceSub, Int.reduceMul, Int.reduceLT, Int.reduceLE, Int.reduceEq, Nat.reduceLeDiff,  f0, f6, f7, f8]
    refine hK2 _ _ ?_
    clear hK2 hX2 K2
    obtain ⟨q, A2, c2, h2i⟩ := id h2
    have d2 := h2i.row.cell (i := 2) rfl
    refine W_piece fun K2 hK2 hX2 => ?_
    refine W_piece fun K3 hK3 hX3 => ?_
    simp +contextual (maxSteps := 2000000) (disch := (first | omega | (simp only [SZ]; done) | (simp only [SZ]; omega) | (simp only [TS] at *; omega))) only [RZ, gval, gslot, fillL, ovw, numb, catL, ldN, agL, okC, oneC, init, Nat.reduceAdd, Nat.reduceMul, Nat.reduceSub, Nat.reduceEqDiff, Nat.reduceLT, ↓reduceIte, Int.reduceToNat, Int.reduceAdd, Int.reduceSub, Int.reduceMul, Int.reduceLT, Int.reduceLE, Int.reduceEq, Nat.reduceLeDiff,  f0, f6, f7, f8, d2]
    refine hK3 _ _ ?_
    clear hK3 hX3 K3
    cases hbd : (pk.req (fitB n)).bad with
    | true =>
      rw [if_pos hbd] at hn1
      refine W_if_t rfl ?_
      rw [W_ret]
      refine hX2 _ _ _ (fun h => by cases h) ?_
      rw [inX_ret]
      refine hX1 _ _ _ (fun h => by cases h) ?_
      rw [← hn1]
      simp +contextual (maxSteps := 2000000) (disch := (first | omega | (simp only [SZ]; done) | (simp only [SZ]; omega) | (simp only [TS] at *; omega))) only [RZ, gval, gslot, fillL, ovw, numb, catL, ldN, agL, okC, oneC, init, Nat.reduceAdd, Nat.reduceMul, Nat.reduceSub, Nat.reduceEqDiff, Nat.reduceLT, ↓reduceIte, Int.reduceToNat, Int.reduceAdd, Int.reduceSub, Int.reduceMul, Int.reduceLT, Int.reduceLE, Int.reduceEq, Nat.reduceLeDiff,  f0]
      exact ⟨h2, k1.trans k2⟩
    | false =>
      rw [if_neg (by rw [hbd]; simp)] at hn1
      refine W_if_f rfl ?_
      rw [W_skip]
      refine hK2 _ _ ?_
      clear hK2 hX2 K2
      have hfb : fitB n = true := by
        unfold Pr.req at hbd
        simp only [Bool.or_eq_false_iff, Bool.not_eq_false'] at hbd
        exact hbd.2
      have hpb : pk.bad = false := by
        unfold Pr.req at hbd
        simp only [Bool.or_eq_false_iff] at hbd
        exact hbd.1
      have hnr : nR n := by have := fit_nat hfb; unfold nR; omega
      have hW2 : Laid w2 := (hW.kb k1 hg).kb k2 hg
      have hlt2 := h2.lt
      simp +contextual (maxSteps := 2000000) (disch := (first | omega | (simp only [SZ]; done) | (simp only [SZ]; omega) | (simp only [TS] at *; omega))) only [RZ, gval, gslot, fillL, ovw, numb, catL, ldN, agL, okC, oneC, init, Nat.reduceAdd, Nat.reduceMul, Nat.reduceSub, Nat.reduceEqDiff, Nat.reduceLT, ↓reduceIte, Int.reduceToNat, Int.reduceAdd, Int.reduceSub, Int.reduceMul, Int.reduceLT, Int.reduceLE, Int.reduceEq, Nat.reduceLeDiff,  f0, f6, f7, f8]
      refine (format_any n w2 hW2 hnr).mono ?_
      rintro e w3 ⟨rfl, hB3⟩
      refine ⟨_, rfl, ?_⟩
      have h3 := h2.below hB3
      have k3 := (k1.trans k2).below (by omega) hB3
      have hwl : ((pk.req (fitB n)).ws ([fmtB n].map bs)).X.length = pk.X.length + (1 + (fmtI n).length) := by
        rw [ws_len]
        show pk.X.length + _ = _
        simp [bs_fmtB]; omega
      have hf18 := fit_len hfb
      try simp +contextual (maxSteps := 2000000) (disch := (first | omega | (simp only [SZ]; done) | (simp only [SZ]; omega) | (simp only [TS] at *; omega))) only [RZ, gval, gslot, fillL, ovw, numb, catL, ldN, agL, okC, oneC, init, Nat.reduceAdd, Nat.reduceMul, Nat.reduceSub, Nat.reduceEqDiff, Nat.reduceLT, ↓reduceIte, Int.reduceToNat, Int.reduceAdd, Int.reduceSub, Int.reduceMul, Int.reduceLT, Int.reduceLE, Int.reduceEq, Nat.reduceLeDiff,  f0, f6, f7, f8]
      refine (pbWords_any h3 [fmtB n] (by simp) (by omega)).mono ?_
      rintro e w4 ⟨rfl, h4, k4⟩
      refine ⟨_, rfl, ?_⟩
      try simp +contextual (maxSteps := 2000000) (disch := (first | omega | (simp only [SZ]; done) | (simp only [SZ]; omega) | (simp only [TS] at *; omega))) only [RZ, gval, gslot, fillL, ovw, numb, catL, ldN, agL, okC, oneC, init, Nat.reduceAdd, Nat.reduceMul, Nat.reduceSub, Nat.reduceEqDiff, Nat.reduceLT, ↓reduceIte, Int.reduceToNat, Int.reduceAdd, Int.reduceSub, Int.reduceMul, Int.reduceLT, Int.reduceLE, Int.reduceEq, Nat.reduceLeDiff,  f0, f6, f7, f8]
      refine hK1 _ _ ?_
      clear hK1 hX1 K1
      simp +contextual (maxSteps := 2000000) (disch := (first | omega | (simp only [SZ]; done) | (simp only [SZ]; omega) | (simp only [TS] at *; omega))) only [RZ, gval, gslot, fillL, ovw, numb, catL, ldN, agL, okC, oneC, init, Nat.reduceAdd, Nat.reduceMul, Nat.reduceSub, Nat.reduceEqDiff, Nat.reduceLT, ↓reduceIte, Int.reduceToNat, Int.reduceAdd, Int.reduceSub, Int.reduceMul, Int.reduceLT, Int.reduceLE, Int.reduceEq, Nat.reduceLeDiff,  f0, f6, f7, f8]
      refine hK _ _ ⟨k + 1, (pk.req (fitB n)).ws [fmtI n], by omega, h4, hn1, ?_, ?_, k3.trans k4, ?_⟩ ?_
      · have := hx0 hpb
        have hwl : ((pk.req (fitB n)).ws [fmtI n]).X.length = pk.X.length + (1 + (fmtI n).length) := hwl
        omega
      · intro hb
        have := ws_ok hb
        omega
      · simp +contextual (maxSteps := 2000000) (disch := (first | omega | (simp only [SZ]; done) | (simp only [SZ]; omega) | (simp only [TS] at *; omega))) only [RZ, gval, gslot, fillL, ovw, numb, catL, ldN, agL, okC, oneC, init, Nat.reduceAdd, Nat.reduceMul, Nat.reduceSub, Nat.reduceEqDiff, Nat.reduceLT, ↓reduceIte, Int.reduceToNat, Int.reduceAdd, Int.reduceSub, Int.reduceMul, Int.reduceLT, Int.reduceLE, Int.reduceEq, Nat.reduceLeDiff,  f0, f6, f7, f8]
      · simp +contextual (maxSteps := 2000000) (disch := (first | omega | (simp only [SZ]; done) | (simp only [SZ]; omega) | (simp only [TS] at *; omega))) only [RZ, gval, gslot, fillL, ovw, numb, catL, ldN, agL, okC, oneC, init, Nat.reduceAdd, Nat.reduceMul, Nat.reduceSub, Nat.reduceEqDiff, Nat.reduceLT, ↓reduceIte, Int.reduceToNat, Int.reduceAdd, Int.reduceSub, Int.reduceMul, Int.reduceLT, Int.reduceLE, Int.reduceEq, Nat.reduceLeDiff,  intOf, f8]
        omega
  · have hkl : k = L.length := by omega
    subst hkl
    rw [List.drop_length] at hn1
    have hn1 : pk = p.nums L := hn1
    subst hn1
    simp +contextual (maxSteps := 2000000) (disch := (first | omega | (simp only [SZ]; done) | (simp only [SZ]; omega) | (simp only [TS] at *; omega))) only [RZ, gval, gslot, fillL, ovw, numb, catL, ldN, agL, okC, oneC, init, Nat.reduceAdd, Nat.reduceMul, Nat.reduceSub, Nat.reduceEqDiff, Nat.reduceLT, ↓reduceIte, Int.reduceToNat, Int.reduceAdd, Int.reduceSub, Int.reduceMul, Int.reduceLT, Int.reduceLE, Int.reduceEq, Nat.reduceLeDiff,  f0, f6, f7, f8]
    exact ⟨h1, k1⟩
end
end Go.Proofs.YtbdkggnajipdhaaDoor
/- Walks: the printer's methods: isWord, name, option, hits. -/
namespace Go.Proofs.YtbdkggnajipdhaaDoor
open Go.RowKit
set_option maxRecDepth 100000
theorem wordL_cons (c : Nat) (r : List Nat) : wordL (c :: r) = (letterB c && (c :: r).all wordB) := rfl
set_option maxHeartbeats 2000000 in
theorem isWord_any (s : ByteArray) (w : World) (hs : s.size ≤ 9223372036854775807) : Calls Tryd.prog 32 #[.string s] w fun e w' => e = .returned (.bool (wordL (bs s))) ∧ w = w' := by
  refine calls_W (l := [_]) Tryd.func32 rfl _ Tryd.ntmps32 (by simp) ?_
  generalize hwr : wordL (bs s) = rr
  by_cases h0 : s = ⟨#[]⟩
  · subst h0
    have hwr : rr = false := by rw [← hwr]; rfl
    subst hwr
    refine W_piece fun K hK hX => ?_
    simp +contextual (maxSteps := 2000000) (disch := (first | omega | (simp only [SZ]; done) | (simp only [SZ]; omega) | (simp only [TS] at *; omega))) only [RZ, gval, gslot, fillL, ovw, numb, catL, ldN, agL, okC, oneC, init, Nat.reduceAdd, Nat.reduceMul, Nat.reduceSub, Nat.reduceEqDiff, Nat.reduceLT, ↓reduceIte, Int.reduceToNat, Int.reduceAdd, Int.reduceSub, Int.reduceMul, Int.reduceLT, Int.reduceLE, Int.reduceEq, Nat.reduceLeDiff]
    refine hK _ _ ?_
    clear hK hX K
    rw [W_seq]
    simp +contextual (maxSteps := 2000000) (disch := (first | omega | (simp only [SZ]; done) | (simp only [SZ]; omega) | (simp only [TS] at *; omega))) only [RZ, gval, gslot, fillL, ovw, numb, catL, ldN, agL, okC, oneC, init, Nat.reduceAdd, Nat.reduceMul, Nat.reduceSub, Nat.reduceEqDiff, Nat.reduceLT, ↓reduceIte, Int.reduceToNat, Int.reduceAdd, Int.reduceSub, Int.reduceMul, Int.reduceLT, Int.reduceLE, Int.reduceEq, Nat.reduceLeDiff]
    refine W_if_t rfl ?_
    simp +contextual (maxSteps := 2000000) (disch := (first | omega | (simp only [SZ]; done) | (simp only [SZ]; omega) | (simp only [TS] at *; omega))) only [RZ, gval, gslot, fillL, ovw, numb, catL, ldN, agL, okC, oneC, init, Nat.reduceAdd, Nat.reduceMul, Nat.reduceSub, Nat.reduceEqDiff, Nat.reduceLT, ↓reduceIte, Int.reduceToNat, Int.reduceAdd, Int.reduceSub, Int.reduceMul, Int.reduceLT, Int.reduceLE, Int.reduceEq, Nat.reduceLeDiff]
  have hsz : 0 < s.size := sz_pos h0
  have e0 : (s = ⟨#[]⟩) = False := eq_false h0
  have hb0 := bs_get hsz
  obtain ⟨r, hr⟩ : ∃ r, bs s = bt s 0 :: r := by
    cases hl : bs s with
    | nil => rw [hl] at hb0; cases hb0
    | cons c r => rw [hl] at hb0; simp only [List.getElem?_cons_zero, Option.some.injEq] at hb0; exact ⟨r, by rw [hb0]⟩
  have hwl : wordL (bs s) = (letterB (bt s 0) && (bs s).all wordB) := by rw [hr, wordL_cons]
  refine W_piece fun K hK hX => ?_
  simp +contextual (maxSteps := 2000000) (disch := (first | omega | (simp only [SZ]; done) | (simp only [SZ]; omega) | (simp only [TS] at *; omega))) only [RZ, gval, gslot, fillL, ovw, numb, catL, ldN, agL, okC, oneC, init, Nat.reduceAdd, Nat.reduceMul, Nat.reduceSub, Nat.reduceEqDiff, Nat.reduceLT, ↓reduceIte, Int.reduceToNat, Int.reduceAdd, Int.reduceSub, Int.reduceMul, Int.reduceLT, Int.reduceLE, Int.reduceEq, Nat.reduceLeDiff]
  refine hK _ _ ?_
  clear hK hX K
  refine W_piece fun K hK hX => ?_
  refine W_piece fun K2 hK2 hX2 => ?_
  simp +contextual (maxSteps := 2000000) (disch := (first | omega | (simp only [SZ]; done) | (simp only [SZ]; omega) | (simp only [TS] at *; omega))) only [RZ, gval, gslot, fillL, ovw, numb, catL, ldN, agL, okC, oneC, init, Nat.reduceAdd, Nat.reduceMul, Nat.reduceSub, Nat.reduceEqDiff, Nat.reduceLT, ↓reduceIte, Int.reduceToNat, Int.reduceAdd, Int.reduceSub, Int.reduceMul, Int.reduceLT, Int.reduceLE, Int.reduceEq, Nat.reduceLeDiff,  e0]
  refine hK2 _ _ ?_
  clear hK2 hX2 K2
  have hL : (decide ((bt s 0 : Int) < 97) || decide (122 < (bt s 0 : Int))) = !letterB (bt s 0) := by
    rw [Bool.eq_iff_iff]
    unfold letterB
    simp only [Bool.or_eq_true, decide_eq_true_eq, Bool.not_eq_true', Bool.and_eq_false_iff, decide_eq_false_iff_not]
    omega
  rw [hL]
  cases hle : letterB (bt s 0) with
  | false =>
    rw [hle, Bool.false_and, hwr] at hwl
    subst hwl
    refine W_if_t rfl ?_
    refine W_piece fun K2 hK2 hX2 => ?_
    simp +contextual (maxSteps := 2000000) (disch := (first | omega | (simp only [SZ]; done) | (simp only [SZ]; omega) | (simp only [TS] at *; omega))) only [RZ, gval, gslot, fillL, ovw, numb, catL, ldN, agL, okC, oneC, init, Nat.reduceAdd, Nat.reduceMul, Nat.reduceSub, Nat.reduceEqDiff, Nat.reduceLT, ↓reduceIte, Int.reduceToNat, Int.reduceAdd, Int.reduceSub, Int.reduceMul, Int.reduceLT, Int.reduceLE, Int.reduceEq, Nat.reduceLeDiff]
    refine hK2 _ _ ?_
    rw [W_ret]
    refine hX _ _ _ (fun h => by cases h) ?_
    simp +contextual (maxSteps := 2000000) (disch := (first | omega | (simp only [SZ]; done) | (simp only [SZ]; omega) | (simp only [TS] at *; omega))) only [RZ, gval, gslot, fillL, ovw, numb, catL, ldN, agL, okC, oneC, init, Nat.reduceAdd, Nat.reduceMul, Nat.reduceSub, Nat.reduceEqDiff, Nat.reduceLT, ↓reduceIte, Int.reduceToNat, Int.reduceAdd, Int.reduceSub, Int.reduceMul, Int.reduceLT, Int.reduceLE, Int.reduceEq, Nat.reduceLeDiff]
  | true =>
    rw [hle, Bool.true_and, hwr] at hwl
    refine W_if_f rfl ?_
    rw [W_skip]
    refine hK _ _ ?_
    clear hK hX K
    refine W_cutS (fun σ w' => w' = w ∧ (bs s).all wordB = true) ?_ ?_
    · rintro σ w' ⟨rfl, hall⟩
      rw [hall] at hwl
      subst hwl
      simp +contextual (maxSteps := 2000000) (disch := (first | omega | (simp only [SZ]; done) | (simp only [SZ]; omega) | (simp only [TS] at *; omega))) only [RZ, gval, gslot, fillL, ovw, numb, catL, ldN, agL, okC, oneC, init, Nat.reduceAdd, Nat.reduceMul, Nat.reduceSub, Nat.reduceEqDiff, Nat.reduceLT, ↓reduceIte, Int.reduceToNat, Int.reduceAdd, Int.reduceSub, Int.reduceMul, Int.reduceLT, Int.reduceLE, Int.reduceEq, Nat.reduceLeDiff]
    refine W_piece fun K hK hX => ?_
    simp +contextual (maxSteps := 2000000) (disch := (first | omega | (simp only [SZ]; done) | (simp only [SZ]; omega) | (simp only [TS] at *; omega))) only [RZ, gval, gslot, fillL, ovw, numb, catL, ldN, agL, okC, oneC, init, Nat.reduceAdd, Nat.reduceMul, Nat.reduceSub, Nat.reduceEqDiff, Nat.reduceLT, ↓reduceIte, Int.reduceToNat, Int.reduceAdd, Int.reduceSub, Int.reduceMul, Int.reduceLT, Int.reduceLE, Int.reduceEq, Nat.reduceLeDiff]
    refine hK _ _ ?_
    clear hK hX K
    rw [W_block, W_loop]
    refine Raw_loop (fun σ w' => w' = w ∧ ∃ k : Nat, k ≤ s.size ∧ (∀ j, j < k → wordB (bt s j) = true) ∧ σ 0 = .string s ∧ σ 18 = .int .i64 s.size ∧ σ 19 = .int .i64 k) (fun σ _ => s.size - (intOf (σ 19)).toNat) ?_ ?_
    · exact ⟨rfl, 0, Nat.zero_le _, fun j hj => absurd hj (Nat.not_lt_zero _), rfl, rfl, rfl⟩
    rintro σ w' ⟨rfl, k, hk, hal, f0, f18, f19⟩ K hK
    simp +contextual (maxSteps := 2000000) (disch := (first | omega | (simp only [SZ]; done) | (simp only [SZ]; omega) | (simp only [TS] at *; omega))) only [RZ, gval, gslot, fillL, ovw, numb, catL, ldN, agL, okC, oneC, init, Nat.reduceAdd, Nat.reduceMul, Nat.reduceSub, Nat.reduceEqDiff, Nat.reduceLT, ↓reduceIte, Int.reduceToNat, Int.reduceAdd, Int.reduceSub, Int.reduceMul, Int.reduceLT, Int.reduceLE, Int.reduceEq, Nat.reduceLeDiff,  f0, f18, f19]
    (refine W_if rfl (fun hc => ?_) (fun hc => ?_) <;> (try simp only [TS] at hc))
    · have hkl : k < s.size := by omega
      have hW : (((decide ((bt s k : Int) < 97) || decide (122 < (bt s k : Int))) && (decide ((bt s k : Int) < 48) || decide (57 < (bt s k : Int)))) && !decide ((bt s k : Int) = 45)) = !wordB (bt s k) := by
        rw [Bool.eq_iff_iff]
        unfold wordB letterB digitB
        simp only [Bool.or_eq_true, Bool.and_eq_true, decide_eq_true_eq, Bool.not_eq_true', Bool.or_eq_false_iff, Bool.and_eq_false_iff, decide_eq_false_iff_not, beq_eq_false_iff_ne, Int.toNat_natCast]
        omega
      rw [W_skip, thenX_normal]
      refine W_piece fun K1 hK1 hX1 => ?_
      rw [W_block]
      refine W_piece fun K2 hK2 hX2 => ?_
      simp +contextual (maxSteps := 2000000) (disch := (first | omega | (simp only [SZ]; done) | (simp only [SZ]; omega) | (simp only [TS] at *; omega))) only [RZ, gval, gslot, fillL, ovw, numb, catL, ldN, agL, okC, oneC, init, Nat.reduceAdd, Nat.reduceMul, Nat.reduceSub, Nat.reduceEqDiff, Nat.reduceLT, ↓reduceIte, Int.reduceToNat, Int.reduceAdd, Int.reduceSub, Int.reduceMul, Int.reduceLT, Int.reduceLE, Int.reduceEq, Nat.reduceLeDiff,  f0, f18, f19]
      refine hK2 _ _ ?_
      clear hK2 hX2 K2
      refine W_piece fun K2 hK2 hX2 => ?_
      simp +contextual (maxSteps := 2000000) (disch := (first | omega | (simp only [SZ]; done) | (simp only [SZ]; omega) | (simp only [TS] at *; omega))) only [RZ, gval, gslot, fillL, ovw, numb, catL, ldN, agL, okC, oneC, init, Nat.reduceAdd, Nat.reduceMul, Nat.reduceSub, Nat.reduceEqDiff, Nat.reduceLT, ↓reduceIte, Int.reduceToNat, Int.reduceAdd, Int.reduceSub, Int.reduceMul, Int.reduceLT, Int.reduceLE, Int.reduceEq, Nat.reduceLeDiff,  f0, f18, f19, Int.toNat_natCast]
      refine hK2 _ _ ?_
      clear hK2 hX2 K2
      refine W_piece fun K2 hK2 hX2 => ?_
      simp +contextual (maxSteps := 2000000) (disch := (first | omega | (simp only [SZ]; done) | (simp only [SZ]; omega) | (simp only [TS] at *; omega))) only [RZ, gval, gslot, fillL, ovw, numb, catL, ldN, agL, okC, oneC, init, Nat.reduceAdd, Nat.reduceMul, Nat.reduceSub, Nat.reduceEqDiff, Nat.reduceLT, ↓reduceIte, Int.reduceToNat, Int.reduceAdd, Int.reduceSub, Int.reduceMul, Int.reduceLT, Int.reduceLE, Int.reduceEq, Nat.reduceLeDiff,  f0, f18, f19]
      refine hK2 _ _ ?_
      clear hK2 hX2 K2
      rw [hW]
      cases hwk : wordB (bt s k) with
      | false =>
        refine W_if_t rfl ?_
        refine W_piece fun K2 hK2 hX2 => ?_
        simp +contextual (maxSteps := 2000000) (disch := (first | omega | (simp only [SZ]; done) | (simp only [SZ]; omega) | (simp only [TS] at *; omega))) only [RZ, gval, gslot, fillL, ovw, numb, catL, ldN, agL, okC, oneC, init, Nat.reduceAdd, Nat.reduceMul, Nat.reduceSub, Nat.reduceEqDiff, Nat.reduceLT, ↓reduceIte, Int.reduceToNat, Int.reduceAdd, Int.reduceSub, Int.reduceMul, Int.reduceLT, Int.reduceLE, Int.reduceEq, Nat.reduceLeDiff]
        refine hK2 _ _ ?_
        rw [W_ret]
        clear hK2 hX2
        rw [inX_ret]
        refine hX1 _ _ _ (fun h => by cases h) ?_
        have hall : (bs s).all wordB = false := by
          rw [Bool.eq_false_iff]
          intro e
          have := List.all_eq_true.1 e _ (List.mem_of_getElem? (bs_get hkl))
          rw [hwk] at this
          cases this
        rw [hall] at hwl
        subst hwl
        simp +contextual (maxSteps := 2000000) (disch := (first | omega | (simp only [SZ]; done) | (simp only [SZ]; omega) | (simp only [TS] at *; omega))) only [RZ, gval, gslot, fillL, ovw, numb, catL, ldN, agL, okC, oneC, init, Nat.reduceAdd, Nat.reduceMul, Nat.reduceSub, Nat.reduceEqDiff, Nat.reduceLT, ↓reduceIte, Int.reduceToNat, Int.reduceAdd, Int.reduceSub, Int.reduceMul, Int.reduceLT, Int.reduceLE, Int.reduceEq, Nat.reduceLeDiff]
      | true =>
        refine W_if_f rfl ?_
        rw [W_skip, inX_normal]
        refine hK1 _ _ ?_
        clear hK1 hX1 K1
        simp +contextual (maxSteps := 2000000) (disch := (first | omega | (simp only [SZ]; done) | (simp only [SZ]; omega) | (simp only [TS] at *; omega))) only [RZ, gval, gslot, fillL, ovw, numb, catL, ldN, agL, okC, oneC, init, Nat.reduceAdd, Nat.reduceMul, Nat.reduceSub, Nat.reduceEqDiff, Nat.reduceLT, ↓reduceIte, Int.reduceToNat, Int.reduceAdd, Int.reduceSub, Int.reduceMul, Int.reduceLT, Int.reduceLE, Int.reduceEq, Nat.reduceLeDiff,  f0, f18, f19]
        refine hK _ _ ⟨rfl, k + 1, by omega, fun j hj => ?_, ?_⟩ ?_
        · by_cases hjk : j = k
          · rw [hjk]; exact hwk
          · exact hal j (by omega)
        · simp +contextual (maxSteps := 2000000) (disch := (first | omega | (simp only [SZ]; done) | (simp only [SZ]; omega) | (simp only [TS] at *; omega))) only [RZ, gval, gslot, fillL, ovw, numb, catL, ldN, agL, okC, oneC, init, Nat.reduceAdd, Nat.reduceMul, Nat.reduceSub, Nat.reduceEqDiff, Nat.reduceLT, ↓reduceIte, Int.reduceToNat, Int.reduceAdd, Int.reduceSub, Int.reduceMul, Int.reduceLT, Int.reduceLE, Int.reduceEq, Nat.reduceLeDiff,  f0, f18, f19]
        · simp +contextual (maxSteps := 2000000) (disch := (first | omega | (simp only [SZ]; done) | (simp only [SZ]; omega) | (simp only [TS] at *; omega))) only [RZ, gval, gslot, fillL, ovw, numb, catL, ldN, agL, okC, oneC, init, Nat.reduceAdd, Nat.reduceMul, Nat.reduceSub, Nat.reduceEqDiff, Nat.reduceLT, ↓reduceIte, Int.reduceToNat, Int.reduceAdd, Int.reduceSub, Int.reduceMul, Int.reduceLT, Int.reduceLE, Int.reduceEq, Nat.reduceLeDiff,  intOf, f19]
          omega
    · have hkz : k = s.size := by omega
      subst hkz
      simp +contextual (maxSteps := 2000000) (disch := (first | omega | (simp only [SZ]; done) | (simp only [SZ]; omega) | (simp only [TS] at *; omega))) only [RZ, gval, gslot, fillL, ovw, numb, catL, ldN, agL, okC, oneC, init, Nat.reduceAdd, Nat.reduceMul, Nat.reduceSub, Nat.reduceEqDiff, Nat.reduceLT, ↓reduceIte, Int.reduceToNat, Int.reduceAdd, Int.reduceSub, Int.reduceMul, Int.reduceLT, Int.reduceLE, Int.reduceEq, Nat.reduceLeDiff,  f0, f18, f19]
      rw [List.all_eq_true]
      intro c hc
      obtain ⟨j, hj⟩ := List.mem_iff_getElem?.1 hc
      have hjl : j < s.size := by have := (List.getElem?_eq_some_iff.1 hj).1; rwa [bs_len] at this
      rw [bs_get hjl] at hj
      injection hj with hj
      rw [← hj]
      exact hal j hjl
section
variable {g : Nat} {w : World} {p : Pr}
theorem pbName_any (h : PbIn g w p) (s : ByteArray) (hlen : p.X.length + s.size ≤ 800000000) : Calls Tryd.prog 14 #[.pointer (some ⟨g, 0, none⟩), .string s] w fun e w' => e = .returned (.tuple #[]) ∧ PbIn g w' (p.nm s) ∧ KB g w w' := by
  refine calls_W (l := [_, _]) Tryd.func14 rfl _ Tryd.ntmps14 (by simp) ?_
  generalize hr : p.nm s = r
  unfold Pr.nm at hr
  refine W_piece fun K hK hX => ?_
  simp +contextual (maxSteps := 2000000) (disch := (first | omega | (simp only [SZ]; done) | (simp only [SZ]; omega) | (simp only [TS] at *; omega))) only [RZ, gval, gslot, fillL, ovw, numb, catL, ldN, agL, okC, oneC, init, Nat.reduceAdd, Nat.reduceMul, Nat.reduceSub, Nat.reduceEqDiff, Nat.reduceLT, ↓reduceIte, Int.reduceToNat, Int.reduceAdd, Int.reduceSub, Int.reduceMul, Int.reduceLT, Int.reduceLE, Int.reduceEq, Nat.reduceLeDiff]
  refine (isWord_any s w (by omega)).mono ?_
  rintro e w1 ⟨rfl, rfl⟩
  refine ⟨_, rfl, ?_⟩
  try simp +contextual (maxSteps := 2000000) (disch := (first | omega | (simp only [SZ]; done) | (simp only [SZ]; omega) | (simp only [TS] at *; omega))) only [RZ, gval, gslot, fillL, ovw, numb, catL, ldN, agL, okC, oneC, init, Nat.reduceAdd, Nat.reduceMul, Nat.reduceSub, Nat.reduceEqDiff, Nat.reduceLT, ↓reduceIte, Int.reduceToNat, Int.reduceAdd, Int.reduceSub, Int.reduceMul, Int.reduceLT, Int.reduceLE, Int.reduceEq, Nat.reduceLeDiff]
  refine (pbRequire_any h _).mono ?_
  rintro e w2 ⟨rfl, h2, k2⟩
  refine ⟨_, rfl, ?_⟩
  try simp +contextual (maxSteps := 2000000) (disch := (first | omega | (simp only [SZ]; done) | (simp only [SZ]; omega) | (simp only [TS] at *; omega))) only [RZ, gval, gslot, fillL, ovw, numb, catL, ldN, agL, okC, oneC, init, Nat.reduceAdd, Nat.reduceMul, Nat.reduceSub, Nat.reduceEqDiff, Nat.reduceLT, ↓reduceIte, Int.reduceToNat, Int.reduceAdd, Int.reduceSub, Int.reduceMul, Int.reduceLT, Int.reduceLE, Int.reduceEq, Nat.reduceLeDiff]
  refine hK _ _ ?_
  clear hK hX K
  obtain ⟨q, A2, c2, h2i⟩ := id h2
  have d2 := h2i.row.cell (i := 2) rfl
  refine W_piece fun K hK hX => ?_
  simp +contextual (maxSteps := 2000000) (disch := (first | omega | (simp only [SZ]; done) | (simp only [SZ]; omega) | (simp only [TS] at *; omega))) only [RZ, gval, gslot, fillL, ovw, numb, catL, ldN, agL, okC, oneC, init, Nat.reduceAdd, Nat.reduceMul, Nat.reduceSub, Nat.reduceEqDiff, Nat.reduceLT, ↓reduceIte, Int.reduceToNat, Int.reduceAdd, Int.reduceSub, Int.reduceMul, Int.reduceLT, Int.reduceLE, Int.reduceEq, Nat.reduceLeDiff,  d2]
  refine hK _ _ ?_
  clear hK hX K
  cases hbd : (p.req (wordL (bs s))).bad with
  | true =>
    rw [if_pos hbd] at hr
    subst hr
    refine W_if_f rfl ?_
    simp +contextual (maxSteps := 2000000) (disch := (first | omega | (simp only [SZ]; done) | (simp only [SZ]; omega) | (simp only [TS] at *; omega))) only [RZ, gval, gslot, fillL, ovw, numb, catL, ldN, agL, okC, oneC, init, Nat.reduceAdd, Nat.reduceMul, Nat.reduceSub, Nat.reduceEqDiff, Nat.reduceLT, ↓reduceIte, Int.reduceToNat, Int.reduceAdd, Int.reduceSub, Int.reduceMul, Int.reduceLT, Int.reduceLE, Int.reduceEq, Nat.reduceLeDiff]
    exact ⟨h2, k2⟩
  | false =>
    rw [if_neg (by rw [hbd]; simp)] at hr
    subst hr
    refine W_if_t rfl ?_
    simp +contextual (maxSteps := 2000000) (disch := (first | omega | (simp only [SZ]; done) | (simp only [SZ]; omega) | (simp only [TS] at *; omega))) only [RZ, gval, gslot, fillL, ovw, numb, catL, ldN, agL, okC, oneC, init, Nat.reduceAdd, Nat.reduceMul, Nat.reduceSub, Nat.reduceEqDiff, Nat.reduceLT, ↓reduceIte, Int.reduceToNat, Int.reduceAdd, Int.reduceSub, Int.reduceMul, Int.reduceLT, Int.reduceLE, Int.reduceEq, Nat.reduceLeDiff]
    have hl1 := ws_len (p.req (wordL (bs s))) ([s].map bs)
    rw [show (p.req (wordL (bs s))).X.length = p.X.length from rfl] at hl1
    simp only [List.map_cons, List.map_nil, List.flatMap_cons, List.flatMap_nil, List.append_nil, List.length_cons, List.length_nil, bs_len] at hl1
    refine (pbWords_any h2 [s] (by simp) (by simp only [List.map_cons, List.map_nil]; omega)).mono ?_
    rintro e w3 ⟨rfl, h3, k3⟩
    refine ⟨_, rfl, ?_⟩
    try simp +contextual (maxSteps := 2000000) (disch := (first | omega | (simp only [SZ]; done) | (simp only [SZ]; omega) | (simp only [TS] at *; omega))) only [RZ, gval, gslot, fillL, ovw, numb, catL, ldN, agL, okC, oneC, init, Nat.reduceAdd, Nat.reduceMul, Nat.reduceSub, Nat.reduceEqDiff, Nat.reduceLT, ↓reduceIte, Int.reduceToNat, Int.reduceAdd, Int.reduceSub, Int.reduceMul, Int.reduceLT, Int.reduceLE, Int.reduceEq, Nat.reduceLeDiff]
    exact ⟨h3, k2.trans k3⟩
/-- One number of a literal list. -/
theorem pbNums_any (h : PbIn g w p) (L : List Int) (hW : Laid w) (hg : 5 ≤ g) (hl : L.length ≤ 1000) (hlen : p.X.length ≤ 700000000) :
    Calls Tryd.prog 35 #[.pointer (some ⟨g, 0, none⟩), .slice (some ⟨w.heap.size, 0, none⟩) L.length L.length] (w.alloc (.cells (iW L).toArray 3)) fun e w' => e = .returned (.tuple #[]) ∧ PbIn g w' (p.nums L) ∧ KB g w w' := by
  have hlt := h.lt
  have hR := Row.new w 3 (iW L)
  have e1 : ∀ L : List Int, (L.map fun n => [Value.int .i64 n]).flatten = iW L := fun L => by
    induction L with
    | nil => rfl
    | cons s r ih => rw [List.map_cons, List.flatten_cons, ih]; rfl
  refine (pbNumbers_any (L := L) (h.alloc _) (arr_new (by rw [e1 L]; exact hR) (by omega) (by decide) (fun v hv => by obtain ⟨s, _, rfl⟩ := List.mem_map.1 hv; rfl)) (hW.below (below_alloc w _) hW.size) hg (by omega) hlen).mono ?_
  rintro e w' ⟨h1, h2, h3⟩
  exact ⟨h1, h2, ((KB.refl g w).alloc (by omega) _).trans h3⟩
theorem pbOption_any (h : PbIn g w p) (s : ByteArray) (n std : Int) (hW : Laid w) (hg : 5 ≤ g) (hs : s.size ≤ 100) (hlen : p.X.length ≤ 600000000) : Calls Tryd.prog 17 #[.pointer (some ⟨g, 0, none⟩), .string s, .int .i64 n, .int .i64 std] w fun e w' =>
    e = .returned (.tuple #[]) ∧ PbIn g w' (p.opt (bs s) n std) ∧ KB g w w' := by
  refine calls_W (l := [_, _, _, _]) Tryd.func17 rfl _ Tryd.ntmps17 (by simp) ?_
  generalize hr : p.opt (bs s) n std = r
  unfold Pr.opt at hr
  refine W_piece fun K hK hX => ?_
  simp +contextual (maxSteps := 2000000) (disch := (first | omega | (simp only [SZ]; done) | (simp only [SZ]; omega) | (simp only [TS] at *; omega))) only [RZ, gval, gslot, fillL, ovw, numb, catL, ldN, agL, okC, oneC, init, Nat.reduceAdd, Nat.reduceMul, Nat.reduceSub, Nat.reduceEqDiff, Nat.reduceLT, ↓reduceIte, Int.reduceToNat, Int.reduceAdd, Int.reduceSub, Int.reduceMul, Int.reduceLT, Int.reduceLE, Int.reduceEq, Nat.reduceLeDiff]
  refine hK _ _ ?_
  clear hK hX K
  by_cases hns : n = std
  · rw [if_pos hns] at hr
    subst hr
    have e1 : decide (n = std) = true := by simpa using hns
    rw [e1]
    refine W_if_f rfl ?_
    simp +contextual (maxSteps := 2000000) (disch := (first | omega | (simp only [SZ]; done) | (simp only [SZ]; omega) | (simp only [TS] at *; omega))) only [RZ, gval, gslot, fillL, ovw, numb, catL, ldN, agL, okC, oneC, init, Nat.reduceAdd, Nat.reduceMul, Nat.reduceSub, Nat.reduceEqDiff, Nat.reduceLT, ↓reduceIte, Int.reduceToNat, Int.reduceAdd, Int.reduceSub, Int.reduceMul, Int.reduceLT, Int.reduceLE, Int.reduceEq, Nat.reduceLeDiff]
    exact ⟨h, KB.refl _ _⟩
  · rw [if_neg hns] at hr
    subst hr
    have e1 : decide (n = std) = false := by simpa using hns
    rw [e1]
    refine W_if_t rfl ?_
    refine W_piece fun K hK hX => ?_
    simp +contextual (maxSteps := 2000000) (disch := (first | omega | (simp only [SZ]; done) | (simp only [SZ]; omega) | (simp only [TS] at *; omega))) only [RZ, gval, gslot, fillL, ovw, numb, catL, ldN, agL, okC, oneC, init, Nat.reduceAdd, Nat.reduceMul, Nat.reduceSub, Nat.reduceEqDiff, Nat.reduceLT, ↓reduceIte, Int.reduceToNat, Int.reduceAdd, Int.reduceSub, Int.reduceMul, Int.reduceLT, Int.reduceLE, Int.reduceEq, Nat.reduceLeDiff]
    refine (pbBegin_any h s (by omega)).mono ?_
    rintro e w1 ⟨rfl, h1, k1⟩
    refine ⟨_, rfl, ?_⟩
    try simp +contextual (maxSteps := 2000000) (disch := (first | omega | (simp only [SZ]; done) | (simp only [SZ]; omega) | (simp only [TS] at *; omega))) only [RZ, gval, gslot, fillL, ovw, numb, catL, ldN, agL, okC, oneC, init, Nat.reduceAdd, Nat.reduceMul, Nat.reduceSub, Nat.reduceEqDiff, Nat.reduceLT, ↓reduceIte, Int.reduceToNat, Int.reduceAdd, Int.reduceSub, Int.reduceMul, Int.reduceLT, Int.reduceLE, Int.reduceEq, Nat.reduceLeDiff]
    refine hK _ _ ?_
    clear hK hX K
    have b1 : (p.begin (bs s)).X.length = p.X.length + (2 + s.size) := by
      unfold Pr.begin
      rw [ws_len, add_len]
      simp [bs_len]; omega
    have hW1 := hW.kb k1 hg
    refine W_piece fun K hK hX => ?_
    simp +contextual (maxSteps := 2000000) (disch := (first | omega | (simp only [SZ]; done) | (simp only [SZ]; omega) | (simp only [TS] at *; omega))) only [RZ, gval, gslot, fillL, ovw, numb, catL, ldN, agL, okC, oneC, init, Nat.reduceAdd, Nat.reduceMul, Nat.reduceSub, Nat.reduceEqDiff, Nat.reduceLT, ↓reduceIte, Int.reduceToNat, Int.reduceAdd, Int.reduceSub, Int.reduceMul, Int.reduceLT, Int.reduceLE, Int.reduceEq, Nat.reduceLeDiff]
    refine (pbNums_any h1 [n] hW1 hg (by simp) (by omega)).mono ?_
    rintro e w2 ⟨rfl, h2, k2⟩
    refine ⟨_, rfl, ?_⟩
    try simp +contextual (maxSteps := 2000000) (disch := (first | omega | (simp only [SZ]; done) | (simp only [SZ]; omega) | (simp only [TS] at *; omega))) only [RZ, gval, gslot, fillL, ovw, numb, catL, ldN, agL, okC, oneC, init, Nat.reduceAdd, Nat.reduceMul, Nat.reduceSub, Nat.reduceEqDiff, Nat.reduceLT, ↓reduceIte, Int.reduceToNat, Int.reduceAdd, Int.reduceSub, Int.reduceMul, Int.reduceLT, Int.reduceLE, Int.reduceEq, Nat.reduceLeDiff]
    refine hK _ _ ?_
    clear hK hX K
    have b2 := nums_max [n] (p.begin (bs s))
    simp +contextual (maxSteps := 2000000) (disch := (first | omega | (simp only [SZ]; done) | (simp only [SZ]; omega) | (simp only [TS] at *; omega))) only [RZ, gval, gslot, fillL, ovw, numb, catL, ldN, agL, okC, oneC, init, Nat.reduceAdd, Nat.reduceMul, Nat.reduceSub, Nat.reduceEqDiff, Nat.reduceLT, ↓reduceIte, Int.reduceToNat, Int.reduceAdd, Int.reduceSub, Int.reduceMul, Int.reduceLT, Int.reduceLE, Int.reduceEq, Nat.reduceLeDiff]
    refine (pbEnd_any h2 (by omega)).mono ?_
    rintro e w3 ⟨rfl, h3, k3⟩
    refine ⟨_, rfl, ?_⟩
    try simp +contextual (maxSteps := 2000000) (disch := (first | omega | (simp only [SZ]; done) | (simp only [SZ]; omega) | (simp only [TS] at *; omega))) only [RZ, gval, gslot, fillL, ovw, numb, catL, ldN, agL, okC, oneC, init, Nat.reduceAdd, Nat.reduceMul, Nat.reduceSub, Nat.reduceEqDiff, Nat.reduceLT, ↓reduceIte, Int.reduceToNat, Int.reduceAdd, Int.reduceSub, Int.reduceMul, Int.reduceLT, Int.reduceLE, Int.reduceEq, Nat.reduceLeDiff]
    exact ⟨h3, (k1.trans k2).trans k3⟩
theorem pbHits_any (h : PbIn g w p) (s : ByteArray) (n : Int) (hW : Laid w) (hg : 5 ≤ g) (hs : s.size ≤ 100) (hlen : p.X.length ≤ 600000000) : Calls Tryd.prog 37 #[.pointer (some ⟨g, 0, none⟩), .string s, .int .i64 n] w fun e w' =>
    e = .returned (.tuple #[]) ∧ PbIn g w' (p.hits (bs s) n) ∧ KB g w w' := by
  refine calls_W (l := [_, _, _]) Tryd.func37 rfl _ Tryd.ntmps37 (by simp) ?_
  generalize hr : p.hits (bs s) n = r
  unfold Pr.hits at hr
  refine W_piece fun K hK hX => ?_
  simp +contextual (maxSteps := 2000000) (disch := (first | omega | (simp only [SZ]; done) | (simp only [SZ]; omega) | (simp only [TS] at *; omega))) only [RZ, gval, gslot, fillL, ovw, numb, catL, ldN, agL, okC, oneC, init, Nat.reduceAdd, Nat.reduceMul, Nat.reduceSub, Nat.reduceEqDiff, Nat.reduceLT, ↓reduceIte, Int.reduceToNat, Int.reduceAdd, Int.reduceSub, Int.reduceMul, Int.reduceLT, Int.reduceLE, Int.reduceEq, Nat.reduceLeDiff]
  refine hK _ _ ?_
  clear hK hX K
  by_cases hns : n = 0
  · rw [if_pos hns] at hr
    subst hr
    have e1 : decide (n = 0) = true := by simpa using hns
    rw [e1]
    refine W_if_f rfl ?_
    simp +contextual (maxSteps := 2000000) (disch := (first | omega | (simp only [SZ]; done) | (simp only [SZ]; omega) | (simp only [TS] at *; omega))) only [RZ, gval, gslot, fillL, ovw, numb, catL, ldN, agL, okC, oneC, init, Nat.reduceAdd, Nat.reduceMul, Nat.reduceSub, Nat.reduceEqDiff, Nat.reduceLT, ↓reduceIte, Int.reduceToNat, Int.reduceAdd, Int.reduceSub, Int.reduceMul, Int.reduceLT, Int.reduceLE, Int.reduceEq, Nat.reduceLeDiff]
    exact ⟨h, KB.refl _ _⟩
  · rw [if_neg hns] at hr
    subst hr
    have e1 : decide (n = 0) = false := by simpa using hns
    rw [e1]
    refine W_if_t rfl ?_
    have hl1 := ws_len p ([s].map bs)
    simp only [List.map_cons, List.map_nil, List.flatMap_cons, List.flatMap_nil, List.append_nil, List.length_cons, List.length_nil, bs_len] at hl1
    refine W_piece fun K hK hX => ?_
    simp +contextual (maxSteps := 2000000) (disch := (first | omega | (simp only [SZ]; done) | (simp only [SZ]; omega) | (simp only [TS] at *; omega))) only [RZ, gval, gslot, fillL, ovw, numb, catL, ldN, agL, okC, oneC, init, Nat.reduceAdd, Nat.reduceMul, Nat.reduceSub, Nat.reduceEqDiff, Nat.reduceLT, ↓reduceIte, Int.reduceToNat, Int.reduceAdd, Int.reduceSub, Int.reduceMul, Int.reduceLT, Int.reduceLE, Int.reduceEq, Nat.reduceLeDiff]
    refine (pbWords_any h [s] (by simp) (by simp only [List.map_cons, List.map_nil]; omega)).mono ?_
    rintro e w1 ⟨rfl, h1, k1⟩
    refine ⟨_, rfl, ?_⟩
    try simp +contextual (maxSteps := 2000000) (disch := (first | omega | (simp only [SZ]; done) | (simp only [SZ]; omega) | (simp only [TS] at *; omega))) only [RZ, gval, gslot, fillL, ovw, numb, catL, ldN, agL, okC, oneC, init, Nat.reduceAdd, Nat.reduceMul, Nat.reduceSub, Nat.reduceEqDiff, Nat.reduceLT, ↓reduceIte, Int.reduceToNat, Int.reduceAdd, Int.reduceSub, Int.reduceMul, Int.reduceLT, Int.reduceLE, Int.reduceEq, Nat.reduceLeDiff]
    refine hK _ _ ?_
    clear hK hX K
    have hW1 := hW.kb k1 hg
    simp +contextual (maxSteps := 2000000) (disch := (first | omega | (simp only [SZ]; done) | (simp only [SZ]; omega) | (simp only [TS] at *; omega))) only [RZ, gval, gslot, fillL, ovw, numb, catL, ldN, agL, okC, oneC, init, Nat.reduceAdd, Nat.reduceMul, Nat.reduceSub, Nat.reduceEqDiff, Nat.reduceLT, ↓reduceIte, Int.reduceToNat, Int.reduceAdd, Int.reduceSub, Int.reduceMul, Int.reduceLT, Int.reduceLE, Int.reduceEq, Nat.reduceLeDiff]
    refine (pbNums_any h1 [n] hW1 hg (by simp) (by simp only [List.map_cons, List.map_nil]; omega)).mono ?_
    rintro e w2 ⟨rfl, h2, k2⟩
    refine ⟨_, rfl, ?_⟩
    try simp +contextual (maxSteps := 2000000) (disch := (first | omega | (simp only [SZ]; done) | (simp only [SZ]; omega) | (simp only [TS] at *; omega))) only [RZ, gval, gslot, fillL, ovw, numb, catL, ldN, agL, okC, oneC, init, Nat.reduceAdd, Nat.reduceMul, Nat.reduceSub, Nat.reduceEqDiff, Nat.reduceLT, ↓reduceIte, Int.reduceToNat, Int.reduceAdd, Int.reduceSub, Int.reduceMul, Int.reduceLT, Int.reduceLE, Int.reduceEq, Nat.reduceLeDiff]
    exact ⟨h2, k1.trans k2⟩
end
end Go.Proofs.YtbdkggnajipdhaaDoor
/- The printer's steps beside a value that it reads: one state, one lemma a step. -/
namespace Go.Proofs.YtbdkggnajipdhaaDoor
open Go.RowKit
set_option maxRecDepth 100000
/-- The printer at block g; the value that is read at block b; B bounds the text. -/
structure Pst (g b : Nat) (T : TypeId) (cs : List Value) (w wi : World) (p : Pr) (B : Nat) : Prop where
  pb : PbIn g wi p
  kb : KB g w wi
  row : Row wi b T cs
  laid : Laid wi
  le : p.X.length ≤ B
  lo : 32768 ≤ B
  hg : 5 ≤ g
  ne : b ≠ g
  nt : T ≠ 5
section
variable {g b B : Nat} {T : TypeId} {cs : List Value} {w wi w' : World} {p p' : Pr}
theorem Pst.next (h : Pst g b T cs w wi p B) {B' : Nat} (h1 : PbIn g w' p') (k1 : KB g wi w') (hl : p'.X.length ≤ B') (hB : B ≤ B') : Pst g b T cs w w' p' B' :=
  ⟨h1, h.kb.trans k1, h.row.kb k1 h.ne h.nt, h.laid.kb k1 h.hg, hl, Nat.le_trans h.lo hB, h.hg, h.ne, h.nt⟩
theorem Pst.of_box (h : PbIn g w p) (hW : Laid w) (hg : 5 ≤ g) (hT : T ≠ 5) (hl : p.X.length ≤ B) (hB : 32768 ≤ B) : Pst g w.heap.size T cs w (w.alloc (.cells cs.toArray T)) p B :=
  ⟨h.alloc _, (KB.refl g w).alloc (by have := h.lt; omega) _, Row.new w T cs, hW.below (below_alloc w _) hW.size, hl, hB, hg, by have := h.lt; omega, hT⟩
theorem ws1_len (p : Pr) (s : ByteArray) : (p.ws [bs s]).X.length = p.X.length + (1 + s.size) := by
  rw [ws_len]; simp [bs_len]; omega
theorem begin_len (p : Pr) (s : ByteArray) : (p.begin (bs s)).X.length = p.X.length + (2 + s.size) := by
  unfold Pr.begin
  rw [ws1_len, add_len]
  simp; omega
theorem fin_len (p : Pr) : p.fin.X.length = p.X.length + 2 := by
  show (p.add (asc ";\n")).X.length = _
  rw [add_len]; rfl
theorem opt_len (p : Pr) (s : ByteArray) (n std : Int) (hs : s.size ≤ 100) (hl : p.X.length ≤ B) (hB : 32768 ≤ B) : (p.opt (bs s) n std).X.length ≤ B + 200 := by
  unfold Pr.opt
  split
  · omega
  · rw [fin_len]
    have := nums_max [n] (p.begin (bs s))
    rw [begin_len] at this
    omega
theorem hits_len (p : Pr) (s : ByteArray) (n : Int) (hs : s.size ≤ 100) (hl : p.X.length ≤ B) (hB : 32768 ≤ B) : (p.hits (bs s) n).X.length ≤ B + 200 := by
  unfold Pr.hits
  split
  · omega
  · have := nums_max [n] (p.ws [bs s])
    rw [ws1_len] at this
    omega
theorem nm_len (p : Pr) (s : ByteArray) : (p.nm s).X.length ≤ p.X.length + (1 + s.size) := by
  unfold Pr.nm
  split
  · exact Nat.le_add_right _ _
  · rw [ws1_len]; exact Nat.le_refl _
theorem qReq (h : Pst g b T cs w wi p B) (c : Bool) : Calls Tryd.prog 20 #[.pointer (some ⟨g, 0, none⟩), .bool c] wi fun e w' => e = .returned (.tuple #[]) ∧ Pst g b T cs w w' (p.req c) B := by
  refine (pbRequire_any h.pb c).mono ?_
  rintro e w1 ⟨rfl, h1, k1⟩
  exact ⟨rfl, h.next h1 k1 h.le (Nat.le_refl _)⟩
theorem qBegin (h : Pst g b T cs w wi p B) (s : ByteArray) (hs : s.size ≤ 100) (hB : B ≤ 400000000) : Calls Tryd.prog 34 #[.pointer (some ⟨g, 0, none⟩), .string s] wi fun e w' => e = .returned (.tuple #[]) ∧ Pst g b T cs w w' (p.begin (bs s)) (B + 102) := by
  have hl := h.le
  refine (pbBegin_any h.pb s (by omega)).mono ?_
  rintro e w1 ⟨rfl, h1, k1⟩
  exact ⟨rfl, h.next h1 k1 (by rw [begin_len]; omega) (by omega)⟩
theorem qEnd (h : Pst g b T cs w wi p B) (hB : B ≤ 400000000) : Calls Tryd.prog 36 #[.pointer (some ⟨g, 0, none⟩)] wi fun e w' => e = .returned (.tuple #[]) ∧ Pst g b T cs w w' p.fin (B + 2) := by
  have hl := h.le
  refine (pbEnd_any h.pb (by omega)).mono ?_
  rintro e w1 ⟨rfl, h1, k1⟩
  exact ⟨rfl, h.next h1 k1 (by rw [fin_len]; omega) (by omega)⟩
theorem qWord (h : Pst g b T cs w wi p B) (s : ByteArray) (hs : s.size ≤ 300) (hB : B ≤ 400000000) :
    Calls Tryd.prog 33 #[.pointer (some ⟨g, 0, none⟩), .slice (some ⟨wi.heap.size, 0, none⟩) 1 1] (wi.alloc (.cells #[.string s] 9)) fun e w' => e = .returned (.tuple #[]) ∧ Pst g b T cs w w' (p.ws [bs s]) (B + 301) := by
  have hl := h.le
  have hl1 := ws1_len p s
  refine (pbWords_any h.pb [s] (by simp) (by simp only [List.map_cons, List.map_nil]; omega)).mono ?_
  rintro e w1 ⟨rfl, h1, k1⟩
  exact ⟨rfl, h.next h1 k1 (by omega) (by omega)⟩
theorem qNum (h : Pst g b T cs w wi p B) (n : Int) (hB : B ≤ 400000000) :
    Calls Tryd.prog 35 #[.pointer (some ⟨g, 0, none⟩), .slice (some ⟨wi.heap.size, 0, none⟩) 1 1] (wi.alloc (.cells #[.int .i64 n] 3)) fun e w' => e = .returned (.tuple #[]) ∧ Pst g b T cs w w' (p.nums [n]) (B + 19) := by
  have hl := h.le
  have hlo := h.lo
  refine (pbNums_any h.pb [n] h.laid h.hg (by simp) (by omega)).mono ?_
  rintro e w1 ⟨rfl, h1, k1⟩
  exact ⟨rfl, h.next h1 k1 (by have := nums_max [n] p; omega) (by omega)⟩
theorem qNum2 (h : Pst g b T cs w wi p B) (n m : Int) (hB : B ≤ 400000000) :
    Calls Tryd.prog 35 #[.pointer (some ⟨g, 0, none⟩), .slice (some ⟨wi.heap.size, 0, none⟩) 2 2] (wi.alloc (.cells #[.int .i64 n, .int .i64 m] 3)) fun e w' => e = .returned (.tuple #[]) ∧ Pst g b T cs w w' (p.nums [n, m]) (B + 19) := by
  have hl := h.le
  have hlo := h.lo
  refine (pbNums_any h.pb [n, m] h.laid h.hg (by simp) (by omega)).mono ?_
  rintro e w1 ⟨rfl, h1, k1⟩
  exact ⟨rfl, h.next h1 k1 (by have := nums_max [n, m] p; omega) (by omega)⟩
theorem qNumbers {L : List Int} {A : Option Addr} {c : Nat} (h : Pst g b T cs w wi p B) (hA : ∀ w', KB g wi w' → Arr w' A 1 (L.map fun n => [Value.int .i64 n])) (hl : L.length ≤ 1000000000) (hB : B ≤ 400000000) :
    Calls Tryd.prog 35 #[.pointer (some ⟨g, 0, none⟩), .slice A L.length c] wi fun e w' => e = .returned (.tuple #[]) ∧ Pst g b T cs w w' (p.nums L) (B + 19) := by
  have hl := h.le
  have hlo := h.lo
  refine (pbNumbers_any h.pb hA h.laid h.hg (by omega) (by omega)).mono ?_
  rintro e w1 ⟨rfl, h1, k1⟩
  exact ⟨rfl, h.next h1 k1 (by have := nums_max L p; omega) (by omega)⟩
theorem qOpt (h : Pst g b T cs w wi p B) (s : ByteArray) (n std : Int) (hs : s.size ≤ 100) (hB : B ≤ 400000000) : Calls Tryd.prog 17 #[.pointer (some ⟨g, 0, none⟩), .string s, .int .i64 n, .int .i64 std] wi fun e w' =>
    e = .returned (.tuple #[]) ∧ Pst g b T cs w w' (p.opt (bs s) n std) (B + 200) := by
  have hl := h.le
  refine (pbOption_any h.pb s n std h.laid h.hg hs (by omega)).mono ?_
  rintro e w1 ⟨rfl, h1, k1⟩
  exact ⟨rfl, h.next h1 k1 (opt_len p s n std hs h.le h.lo) (by omega)⟩
theorem qHits (h : Pst g b T cs w wi p B) (s : ByteArray) (n : Int) (hs : s.size ≤ 100) (hB : B ≤ 400000000) : Calls Tryd.prog 37 #[.pointer (some ⟨g, 0, none⟩), .string s, .int .i64 n] wi fun e w' =>
    e = .returned (.tuple #[]) ∧ Pst g b T cs w w' (p.hits (bs s) n) (B + 200) := by
  have hl := h.le
  refine (pbHits_any h.pb s n h.laid h.hg hs (by omega)).mono ?_
  rintro e w1 ⟨rfl, h1, k1⟩
  exact ⟨rfl, h.next h1 k1 (hits_len p s n hs h.le h.lo) (by omega)⟩
theorem qName (h : Pst g b T cs w wi p B) (s : ByteArray) (hs : s.size ≤ 1000000) (hB : B ≤ 400000000) : Calls Tryd.prog 14 #[.pointer (some ⟨g, 0, none⟩), .string s] wi fun e w' => e = .returned (.tuple #[]) ∧ Pst g b T cs w w' (p.nm s) (B + 1000001) := by
  have hl := h.le
  refine (pbName_any h.pb s (by omega)).mono ?_
  rintro e w1 ⟨rfl, h1, k1⟩
  exact ⟨rfl, h.next h1 k1 (by have := nm_len p s; omega) (by omega)⟩
theorem qStr (h : Pst g b T cs w wi p B) (s : ByteArray) (hs : s.size ≤ 300) (hB : B ≤ 400000000) : Calls Tryd.prog 13 #[.pointer (some ⟨g, 0, none⟩), .string s] wi fun e w' => e = .returned (.tuple #[.int .i64 s.size, .nilIface]) ∧ Pst g b T cs w w' (p.add (bs s)) (B + 300) := by
  have hl := h.le
  refine (pbStr_any h.pb s (by omega)).mono ?_
  rintro e w1 ⟨rfl, h1, k1⟩
  exact ⟨rfl, h.next h1 k1 (by rw [add_len, bs_len]; omega) (by omega)⟩
/-- The printer gets bad. -/
theorem Pst.spoil (h : Pst g b T cs w wi p B) : ∃ c2, wi.cell? ⟨g, 2, none⟩ = some c2 ∧ wi.frozen? ⟨g, 2, none⟩ = false ∧ Pst g b T cs w (wi.setCell ⟨g, 2, none⟩ (.bool true)) ⟨p.X, true⟩ B := by
  obtain ⟨q, A, c, h1⟩ := id h.pb
  refine ⟨_, h1.row.cell (i := 2) rfl, h1.row.frozen 2, ?_⟩
  exact h.next ⟨q, A, c, bad_set h1 true⟩ ⟨(Below.refl _ wi).setCell (p := ⟨g, 2, none⟩) (Nat.le_refl _) _, Keeps.setCell _ _ _ _⟩ h.le (Nat.le_refl _)
theorem Pst.bad (h : Pst g b T cs w wi p B) : wi.cell? ⟨g, 2, none⟩ = some (.bool p.bad) := by
  obtain ⟨q, A, c, h1⟩ := id h.pb
  exact h1.row.cell (i := 2) rfl
theorem Pst.cell (h : Pst g b T cs w wi p B) (i : Nat) {v : Value} (hv : cs[i]? = some v) : wi.cell? ⟨b, i, none⟩ = some v := h.row.cell hv
end
end Go.Proofs.YtbdkggnajipdhaaDoor
