/- Texts laid one behind the other: PbA, PbB, NumA, PbC. Each says at its head what it proves. -/
import Derived.Test.YtbdkggnajipdhaaGreatDoorRtTwZ05
import Derived.Lib.AppendIntMem
import Derived.Lib.UnsafeStr
set_option linter.unusedSimpArgs false
/- Walks: strings.Builder at the beginning of a printer: copyCheck, WriteByte, WriteString, Len, String. -/
namespace Go.Proofs.YtbdkggnajipdhaaGreatDoor
open Nat (reduceAdd reduceMul reduceSub reduceEqDiff reduceLT reduceLeDiff)
open Go.RowKit
set_option maxRecDepth 100000
theorem strCells_bs (s : ByteArray) : Lib.strCells s = byV (bs s) := by
  unfold Lib.strCells byV bs
  rw [List.map_map]
  rfl
theorem byV_len (X : List Nat) : (byV X).length = X.length := List.length_map ..
theorem byV_app (X Y : List Nat) : byV (X ++ Y) = byV X ++ byV Y := List.map_append
/-- The printer at block g: what is written so far, whether it is bad. -/
structure PbI (g : Nat) (w : World) (q A : Option Addr) (c : Nat) (p : Pr) : Prop where
  blk : w.heap[g]? = some (.cells #[.pointer q, .slice A p.X.length c, .bool p.bad] 69 (0, 0))
  q0 : q = none ∨ q = some ⟨g, 0, none⟩
  own : w.ownsRow (g + 1) 5 1 (.slice A p.X.length c) p.X.length (byV p.X)
  small : ∀ n ∈ p.X, n < 256
def PbIn (g : Nat) (w : World) (p : Pr) : Prop := ∃ q A c, PbI g w q A c p
/-- A printer's step turns its own block and rows of bytes. -/
def KB (g : Nat) (w w' : World) : Prop := Below g w w' ∧ Keeps g w w'
theorem KB.refl (g : Nat) (w : World) : KB g w w := ⟨Below.refl _ _, Keeps.refl _ _⟩
theorem KB.trans {g : Nat} {a b c : World} (h : KB g a b) (k : KB g b c) : KB g a c := ⟨h.1.trans k.1, h.2.trans k.2⟩
theorem KB.alloc {g : Nat} {a w : World} (h : KB g a w) (hg : g ≤ w.heap.size) (o : Obj) : KB g a (w.alloc o) := ⟨h.1.trans ((below_alloc w o).mono hg), h.2.trans (Keeps.alloc _ _ _)⟩
theorem KB.below {g : Nat} {a w w' : World} (h : KB g a w) (hg : g ≤ w.heap.size) (k : Below w.heap.size w w') : KB g a w' := ⟨h.1.trans (k.mono hg), h.2.trans fun i o _ ho _ => (k.block i (Array.getElem?_eq_some_iff.1 ho).1).trans ho⟩
theorem Row.kb {g b : Nat} {w w' : World} {T : TypeId} {cs : List Value} (h : Row w b T cs) (k : KB g w w') (hb : b ≠ g) (hT : T ≠ 5) : Row w' b T cs := by
  obtain ⟨cur, hc, r, hr⟩ := h
  exact ⟨cur, k.2 b _ hb hc (fun cs f e => by injection e with _ e; exact hT e), r, hr⟩
theorem PbI.row {g : Nat} {w : World} {q A : Option Addr} {c : Nat} {p : Pr} (h : PbI g w q A c p) : Row w g 69 [.pointer q, .slice A p.X.length c, .bool p.bad] := ⟨_, h.blk, [], by simp⟩
theorem PbIn.lt {g : Nat} {w : World} {p : Pr} (h : PbIn g w p) : g < w.heap.size := by obtain ⟨q, A, c, h⟩ := h; exact h.row.lt
theorem PbI.below {g : Nat} {w w' : World} {q A : Option Addr} {c : Nat} {p : Pr} (h : PbI g w q A c p) (k : Below w.heap.size w w') : PbI g w' q A c p :=
  ⟨(k.block g h.row.lt).trans h.blk, h.q0, owns_below h.own k, h.small⟩
theorem PbIn.below {g : Nat} {w w' : World} {p : Pr} (h : PbIn g w p) (k : Below w.heap.size w w') : PbIn g w' p := by obtain ⟨q, A, c, h⟩ := h; exact ⟨q, A, c, h.below k⟩
theorem PbIn.alloc {g : Nat} {w : World} {p : Pr} (h : PbIn g w p) (o : Obj) : PbIn g (w.alloc o) p := h.below (below_alloc w o)
theorem PbI.ne {g : Nat} {w : World} {q A : Option Addr} {c : Nat} {p : Pr} (h : PbI g w q A c p) : (Value.slice A p.X.length c).ownBlock ≠ some g := fun hb => by
  have := (owns_ge h.own hb).1
  omega
/-- The addressee of the builder is laid. -/
theorem PbI.used {g : Nat} {w : World} {q A : Option Addr} {c : Nat} {p : Pr} (h : PbI g w q A c p) : PbI g (w.setCell ⟨g, 0, none⟩ (.pointer (some ⟨g, 0, none⟩))) (some ⟨g, 0, none⟩) A c p :=
  ⟨by simp [World.setCell, Array.getElem?_modify, h.blk], .inr rfl, owns_keep h.own fun b hb => Below.heap_setCell _ _ _ _ (fun e => h.ne (by rw [hb]; exact congrArg some e)), h.small⟩
theorem bad_set {g : Nat} {w : World} {q A : Option Addr} {c : Nat} {p : Pr} (h : PbI g w q A c p) (b : Bool) : PbI g (w.setCell ⟨g, 2, none⟩ (.bool b)) q A c ⟨p.X, b⟩ :=
  ⟨by simp [World.setCell, Array.getElem?_modify, h.blk], h.q0, owns_keep h.own fun k hk => Below.heap_setCell _ _ _ _ (fun e => h.ne (by rw [hk]; exact congrArg some e)), h.small⟩
theorem pbCheck_any {g : Nat} {w : World} {q A : Option Addr} {c : Nat} {p : Pr} (h : PbI g w q A c p) : Calls Tryz.prog 71 #[.pointer (some ⟨g, 0, none⟩)] w fun e w' => e = .returned (.tuple #[]) ∧ PbI g w' (some ⟨g, 0, none⟩) A c p ∧ KB g w w' := by
  refine calls_W (l := [_]) Tryz.func71 rfl _ Tryz.ntmps71 (by simp) ?_
  obtain ⟨j, hj, hjs⟩ := Option.map_eq_some_iff.1 (show (Tryz.prog.info? 67).map (·.size) = some 2 by kernel_rfl)
  have ne : ∀ (x y : Operand) (w : World), vBin Tryz.prog .neq 64 x y (.pointer (some ⟨g, 0, none⟩)) (.pointer (some ⟨g, 0, none⟩)) w = .ok (.value (.bool false)) w := fun x y w => by
    simp only [vBin, eqGuard]
    simp [Lib.run_neq_ptr_same w _ Tryz.underlying64 hj]
  have hsh : w.shape? g = some (69, 3) := by simp [World.shape?, h.blk]
  rcases h.q0 with rfl | rfl
  · have c0 := h.row.cell (i := 0) rfl
    have z0 := h.row.frozen 0
    have cs : (w.setCell ⟨g, 0, none⟩ (.pointer (some ⟨g, 0, none⟩))).cell? ⟨g, 0, none⟩ = some (.pointer (some ⟨g, 0, none⟩)) := by rw [cS_same, c0]; rfl
    have cv1 : vConvert Tryz.prog 64 125 (.pointer (some ⟨g, 0, none⟩)) w = .ok (.value (.pointer (some ⟨g, 0, none⟩))) w := by
      simp [vConvert, Lib.run_to_unsafe w ⟨g, 0, none⟩ Tryz.underlying64 Tryz.underlying125 hj (by rw [hjs]; decide) hsh (Nat.zero_lt_succ 2)]
    have cv2 : vConvert Tryz.prog 125 64 (.pointer (some ⟨g, 0, none⟩)) w = .ok (.value (.pointer (some ⟨g, 0, none⟩))) w := by
      simp [vConvert, Lib.run_from_unsafe w ⟨g, 0, none⟩ Tryz.underlying125 Tryz.underlying64 hj hsh (by kernel_rfl)]
    have cl : vCall Tryz.prog 119 #[.pointer (some ⟨g, 0, none⟩)] w = .ok (.value (.pointer (some ⟨g, 0, none⟩))) w := by
      unfold vCall
      rw [run_callFunc_extern Tryz.func119 (by kernel_rfl) (by kernel_rfl) (by kernel_rfl) (e := Extern.AbiNoEscape.same) (by kernel_rfl), Lib.run_noEscape]
      rfl
    rw [vCall_at] at cl
    simp +contextual (maxSteps := 2000000) (disch := first | omega | (simp only [SZ]; first | done | omega) | (simp only [TS] at *; omega)) only [RZ, ovw, oneC, reduceAdd, reduceMul, reduceSub, reduceEqDiff, reduceLT, ↓reduceIte, Int.reduceToNat, reduceLeDiff,  c0]
    refine W_if_t rfl ?_
    simp +contextual (maxSteps := 2000000) (disch := first | omega | (simp only [SZ]; first | done | omega) | (simp only [TS] at *; omega)) only [RZ, ovw, oneC, reduceAdd, reduceMul, reduceSub, reduceEqDiff, reduceLT, ↓reduceIte, Int.reduceToNat, reduceLeDiff,  c0, z0, cv1, cv2, cl, cs, ne]
    exact ⟨h.used, (Below.refl _ w).setCell (p := ⟨g, 0, none⟩) (Nat.le_refl _) _, Keeps.setCell _ _ _ _⟩
  · have c0 := h.row.cell (i := 0) rfl
    simp +contextual (maxSteps := 2000000) (disch := first | omega | (simp only [SZ]; first | done | omega) | (simp only [TS] at *; omega)) only [RZ, ovw, oneC, reduceAdd, reduceMul, reduceSub, reduceEqDiff, reduceLT, ↓reduceIte, Int.reduceToNat, reduceLeDiff,  c0]
    refine W_if_f rfl ?_
    simp +contextual (maxSteps := 2000000) (disch := first | omega | (simp only [SZ]; first | done | omega) | (simp only [TS] at *; omega)) only [RZ, ovw, oneC, reduceAdd, reduceMul, reduceSub, reduceEqDiff, reduceLT, ↓reduceIte, Int.reduceToNat, reduceLeDiff,  c0, ne]
    refine W_if_f rfl ?_
    simp +contextual (maxSteps := 2000000) (disch := first | omega | (simp only [SZ]; first | done | omega) | (simp only [TS] at *; omega)) only [RZ, ovw, oneC, reduceAdd, reduceMul, reduceSub, reduceEqDiff, reduceLT, ↓reduceIte, Int.reduceToNat, reduceLeDiff]
    exact ⟨h, KB.refl _ _⟩
theorem pbByte_any {g : Nat} {w : World} {p : Pr} (h : PbIn g w p) (n : Nat) (hn : n < 256) (hl : p.X.length + 1 ≤ 1000000000) :
    Calls Tryz.prog 120 #[.pointer (some ⟨g, 0, none⟩), .int .u8 n] w fun e w' => e = .returned .nilIface ∧ PbIn g w' (p.add [n]) ∧ KB g w w' := by
  refine calls_W (l := [_, _]) Tryz.func120 rfl _ Tryz.ntmps120 (by simp) ?_
  obtain ⟨q, A, c, h⟩ := h
  simp +contextual (maxSteps := 2000000) (disch := first | omega | (simp only [SZ]; first | done | omega) | (simp only [TS] at *; omega)) only [RZ, ovw, oneC, reduceAdd, reduceMul, reduceSub, reduceEqDiff, reduceLT, ↓reduceIte, Int.reduceToNat, reduceLeDiff]
  refine (pbCheck_any h).mono ?_
  rintro e w1 ⟨rfl, h1, k1⟩
  refine ⟨_, rfl, ?_⟩
  have hI : sliceI Tryz.prog 65 = some (5, 1, 1) := by kernel_rfl
  have c1 := h1.row.cell (i := 1) rfl
  have hlt := h1.row.lt
  have hsz := k1.1.size
  obtain ⟨A', c', w2, he, hown2, hg2, _⟩ := vAppend_own (P := Tryz.prog) (T := 65) (ty := 65) (m := 1) (c := 1) (b := w1.heap.size) (o := 0) (news := [.int .u8 n]) hI (h1.own.alloc (.cells #[.int .u8 n] 5)) rfl
    (fun j u hu => by rw [Nat.zero_add, (new_block w1 #[.int .u8 n] 5).1 j]; simpa using hu) (fun u hu => by simp at hu; subst hu; rfl) (by omega) (by omega) (by rw [World.size_alloc]; omega)
  have hb2 : w2.heap[g]? = some (.cells #[.pointer (some ⟨g, 0, none⟩), .slice A p.X.length c, .bool p.bad] 69 (0, 0)) := by
    rw [hg2.block g (by simp; omega) (fun e => h1.ne e.symm), Lib.alloc_old w1 _ g hlt]
    exact h1.blk
  have d1 : w2.cell? ⟨g, 1, none⟩ = some (.slice A p.X.length c) := by rw [Lib.cell_of_heap hb2]; rfl
  have f1 : w2.frozen? ⟨g, 1, none⟩ = false := Lib.frozen_of_heap hb2 1
  simp +contextual (maxSteps := 2000000) (disch := first | omega | (simp only [SZ]; first | done | omega) | (simp only [TS] at *; omega)) only [RZ, ovw, oneC, reduceAdd, reduceMul, reduceSub, reduceEqDiff, reduceLT, ↓reduceIte, Int.reduceToNat, reduceLeDiff,  c1, he, d1, f1]
  refine ⟨⟨some ⟨g, 0, none⟩, A', c', ?_, .inr rfl, ?_, ?_⟩, (k1.1.alloc (by omega) _).grown hg2 (by simp; omega) (fun k hk => by have := (h1.own.lt k hk).1; omega) |>.setCell (p := ⟨g, 1, none⟩) (Nat.le_refl _) _,
    ((k1.2.trans (Keeps.alloc _ _ _)).trans (Keeps.grown (h1.own.alloc _) hg2)).trans (Keeps.setCell _ _ _ _)⟩
  · simp [World.setCell, Array.getElem?_modify, hb2, Pr.add]
  · have : (byV (p.X ++ [n])) = byV p.X ++ [.int .u8 n] := byV_app _ _
    have h3 := owns_keep (w' := w2.setCell ⟨g, 1, none⟩ (.slice A' (p.X.length + 1) c')) hown2 fun b hb => Below.heap_setCell _ _ _ _ (by
      have := (owns_ge hown2 hb).1
      show b ≠ g
      omega)
    unfold Pr.add
    rw [this, List.length_append]
    exact h3
  · intro m hm
    rcases List.mem_append.1 hm with hm | hm
    · exact h.small m hm
    · simp at hm; omega
theorem pbStr_any {g : Nat} {w : World} {p : Pr} (h : PbIn g w p) (s : ByteArray) (hl : p.X.length + s.size ≤ 1000000000) :
    Calls Tryz.prog 30 #[.pointer (some ⟨g, 0, none⟩), .string s] w fun e w' => e = .returned (.tuple #[.int .i64 s.size, .nilIface]) ∧ PbIn g w' (p.add (bs s)) ∧ KB g w w' := by
  refine calls_W (l := [_, _]) Tryz.func30 rfl _ Tryz.ntmps30 (by simp) ?_
  obtain ⟨q, A, c, h⟩ := h
  simp +contextual (maxSteps := 2000000) (disch := first | omega | (simp only [SZ]; first | done | omega) | (simp only [TS] at *; omega)) only [RZ, ovw, oneC, reduceAdd, reduceMul, reduceSub, reduceEqDiff, reduceLT, ↓reduceIte, Int.reduceToNat, reduceLeDiff]
  refine (pbCheck_any h).mono ?_
  rintro e w1 ⟨rfl, h1, k1⟩
  refine ⟨_, rfl, ?_⟩
  obtain ⟨i0, hi, hz0, hz1, hz2⟩ := info_parts (show (Tryz.prog.info? 5).map (fun i => (i.zero, i.size, i.bytes)) = some (some (.int .u8 0), 1, 1) by kernel_rfl)
  have c1 := h1.row.cell (i := 1) rfl
  have hlt := h1.row.lt
  have hsz := k1.1.size
  obtain ⟨v', w2, he0, hown2, hg2, _⟩ := Lib.run_append_own_string (P := Tryz.prog) (w := w1) (g + 1) 65 9 65 5 i0 Tryz.underlying65 Tryz.underlying9 hi hz0 hz1 hz2 (.slice A p.X.length c) p.X.length (byV p.X) h1.own s (by unfold maxLen; omega) (by omega) (by omega)
  have he : vAppend Tryz.prog 65 9 65 (.slice A p.X.length c) (.string s) w1 = .ok (.value v') w2 := by simp [vAppend, he0]
  obtain ⟨A', n', c', rfl, hn'⟩ : ∃ A n c, v' = .slice A n c ∧ n = p.X.length + s.size := by
    rcases hown2.2 with ⟨hv, h0⟩ | ⟨g, cap, cur, hv, _⟩
    · exact ⟨none, 0, 0, hv, h0.symm⟩
    · exact ⟨_, _, _, hv, rfl⟩
  subst hn'
  have hb2 : w2.heap[g]? = some (.cells #[.pointer (some ⟨g, 0, none⟩), .slice A p.X.length c, .bool p.bad] 69 (0, 0)) := by
    rw [hg2.block g hlt (fun e => h1.ne e.symm)]
    exact h1.blk
  have d1 : w2.cell? ⟨g, 1, none⟩ = some (.slice A p.X.length c) := by rw [Lib.cell_of_heap hb2]; rfl
  have f1 : w2.frozen? ⟨g, 1, none⟩ = false := Lib.frozen_of_heap hb2 1
  simp +contextual (maxSteps := 2000000) (disch := first | omega | (simp only [SZ]; first | done | omega) | (simp only [TS] at *; omega)) only [RZ, ovw, oneC, reduceAdd, reduceMul, reduceSub, reduceEqDiff, reduceLT, ↓reduceIte, Int.reduceToNat, reduceLeDiff,  c1, he, d1, f1]
  refine ⟨⟨some ⟨g, 0, none⟩, A', c', ?_, .inr rfl, ?_, ?_⟩, (k1.1.grown hg2 (by omega) (fun k hk => by have := (h1.own.lt k hk).1; omega)).setCell (p := ⟨g, 1, none⟩) (Nat.le_refl _) _,
    (k1.2.trans (Keeps.grown h1.own hg2)).trans (Keeps.setCell _ _ _ _)⟩
  · simp [World.setCell, Array.getElem?_modify, hb2, Pr.add, bs_len]
  · have h3 := owns_keep (w' := w2.setCell ⟨g, 1, none⟩ (.slice A' (p.X.length + s.size) c')) hown2 fun b hb => Below.heap_setCell _ _ _ _ (by
      have := (owns_ge hown2 hb).1
      show b ≠ g
      omega)
    unfold Pr.add
    rw [List.length_append, bs_len, byV_app, ← strCells_bs]
    exact h3
  · intro m hm
    rcases List.mem_append.1 hm with hm | hm
    · exact h.small m hm
    · exact bs_lt s m hm
theorem pbLen_any {g : Nat} {w : World} {p : Pr} (h : PbIn g w p) : Calls Tryz.prog 38 #[.pointer (some ⟨g, 0, none⟩)] w fun e w' => e = .returned (.int .i64 p.X.length) ∧ w = w' := by
  refine calls_W (l := [_]) Tryz.func38 rfl _ Tryz.ntmps38 (by simp) ?_
  obtain ⟨q, A, c, h⟩ := h
  have c1 := h.row.cell (i := 1) rfl
  simp +contextual (maxSteps := 2000000) (disch := first | omega | (simp only [SZ]; first | done | omega) | (simp only [TS] at *; omega)) only [RZ, ovw, oneC, reduceAdd, reduceMul, reduceSub, reduceEqDiff, reduceLT, ↓reduceIte, Int.reduceToNat, reduceLeDiff,  c1]
end Go.Proofs.YtbdkggnajipdhaaGreatDoor
/- Walks: the printer's methods: require, write, begin, end, numbers, name, option, hits; num.Format. -/
namespace Go.Proofs.YtbdkggnajipdhaaGreatDoor
open Nat (reduceAdd reduceMul reduceSub reduceEqDiff reduceLT reduceLeDiff)
open Go.RowKit
set_option maxRecDepth 100000
def nR (n : Int) : Prop := -9223372036854775808 ≤ n ∧ n ≤ 9223372036854775807
def fmtB (n : Int) : ByteArray := ⟨(Lib.itoa n).toArray⟩
theorem bs_fmtB (n : Int) : bs (fmtB n) = fmtI n := rfl
theorem format_any (n : Int) (w : World) (hL : Laid w) (hn : nR n) : Calls Tryz.prog 121 #[.int .i64 n] w fun e w' => e = .returned (.string (fmtB n)) ∧ Below w.heap.size w w' := by
  refine calls_W (l := [_]) Tryz.func121 rfl _ Tryz.ntmps121 (by simp) ?_
  simp +contextual (maxSteps := 2000000) (disch := first | omega | (simp only [SZ]; first | done | omega) | (simp only [TS] at *; omega)) only [RZ, ovw, oneC, reduceAdd, reduceMul, reduceSub, reduceEqDiff, reduceLT, ↓reduceIte, Int.reduceToNat, reduceLeDiff]
  refine (Tryz.strconv_Itoa n hn.1 hn.2 w hL.pow).mono ?_
  rintro e w1 ⟨rfl, k, os, rfl⟩
  refine ⟨_, rfl, ?_⟩
  simp +contextual (maxSteps := 2000000) (disch := first | omega | (simp only [SZ]; first | done | omega) | (simp only [TS] at *; omega)) only [RZ, ovw, oneC, reduceAdd, reduceMul, reduceSub, reduceEqDiff, reduceLT, ↓reduceIte, Int.reduceToNat, reduceLeDiff]
  exact ⟨rfl, Lib.below_grow _ w (Nat.le_refl _) k os⟩
theorem Laid.kb {g : Nat} {w w' : World} (h : Laid w) (k : KB g w w') (hg : 9 ≤ g) : Laid w' := h.below k.1 (by omega)
section
variable {g : Nat} {w : World} {p : Pr}
/-- How texts grow. -/
theorem add_len (p : Pr) (l : List Nat) : (p.add l).X.length = p.X.length + l.length := by unfold Pr.add; rw [List.length_append]
theorem ws_len (p : Pr) (l : List (List Nat)) : (p.ws l).X.length = p.X.length + (l.flatMap (32 :: ·)).length := add_len p _
theorem fit_len {n : Int} (h : fitB n = true) : (fmtI n).length ≤ 18 := by
  rw [fmt_dec h]; exact dec_len (fit_nat h).2
theorem pbRequire_any (h : PbIn g w p) (b : Bool) : Calls Tryz.prog 37 #[.pointer (some ⟨g, 0, none⟩), .bool b] w fun e w' => e = .returned (.tuple #[]) ∧ PbIn g w' (p.req b) ∧ KB g w w' := by
  refine calls_W (l := [_, _]) Tryz.func37 rfl _ Tryz.ntmps37 (by simp) ?_
  obtain ⟨q, A, c, h⟩ := h
  cases b with
  | true =>
    refine W_piece fun K hK hX => ?_
    simp +contextual (maxSteps := 2000000) (disch := first | omega | (simp only [SZ]; first | done | omega) | (simp only [TS] at *; omega)) only [RZ, ovw, oneC, reduceAdd, reduceMul, reduceSub, reduceEqDiff, reduceLT, ↓reduceIte, Int.reduceToNat, reduceLeDiff]
    refine hK _ _ ?_
    clear hK hX K
    refine W_if_f rfl ?_
    simp +contextual (maxSteps := 2000000) (disch := first | omega | (simp only [SZ]; first | done | omega) | (simp only [TS] at *; omega)) only [RZ, ovw, oneC, reduceAdd, reduceMul, reduceSub, reduceEqDiff, reduceLT, ↓reduceIte, Int.reduceToNat, reduceLeDiff]
    refine ⟨⟨q, A, c, ?_⟩, KB.refl _ _⟩
    have : p.req true = p := by unfold Pr.req; rw [Bool.not_true, Bool.or_false]
    rw [this]; exact h
  | false =>
    refine W_piece fun K hK hX => ?_
    simp +contextual (maxSteps := 2000000) (disch := first | omega | (simp only [SZ]; first | done | omega) | (simp only [TS] at *; omega)) only [RZ, ovw, oneC, reduceAdd, reduceMul, reduceSub, reduceEqDiff, reduceLT, ↓reduceIte, Int.reduceToNat, reduceLeDiff]
    refine hK _ _ ?_
    clear hK hX K
    refine W_if_t rfl ?_
    have c2 := h.row.cell (i := 2) rfl
    have z2 := h.row.frozen 2
    simp +contextual (maxSteps := 2000000) (disch := first | omega | (simp only [SZ]; first | done | omega) | (simp only [TS] at *; omega)) only [RZ, ovw, oneC, reduceAdd, reduceMul, reduceSub, reduceEqDiff, reduceLT, ↓reduceIte, Int.reduceToNat, reduceLeDiff,  c2, z2]
    refine ⟨⟨q, A, c, ?_⟩, (Below.refl _ w).setCell (p := ⟨g, 2, none⟩) (Nat.le_refl _) _, Keeps.setCell _ _ _ _⟩
    have : p.req false = ⟨p.X, true⟩ := by unfold Pr.req; rw [Bool.not_false, Bool.or_true]
    rw [this]; exact bad_set h true
theorem pbWrite_any {L : List ByteArray} {A : Option Addr} {c : Nat} (h : PbIn g w p) (hA : ∀ w', KB g w w' → Arr w' A 1 (L.map fun s => [Value.string s])) (hl : L.length ≤ 1000) (hlen : (p.ws (L.map bs)).X.length ≤ 900000000) :
    Calls Tryz.prog 73 #[.pointer (some ⟨g, 0, none⟩), .slice A L.length c] w fun e w' => e = .returned (.tuple #[]) ∧ PbIn g w' (p.ws (L.map bs)) ∧ KB g w w' := by
  refine calls_W (l := [_, _]) Tryz.func73 rfl _ Tryz.ntmps73 (by simp) ?_
  rw [ws_len] at hlen
  refine W_cutS (fun σ w1 => σ 0 = .pointer (some ⟨g, 0, none⟩) ∧ PbIn g w1 (p.add ((L.map bs).flatMap (32 :: ·))) ∧ KB g w w1) ?_ ?_
  · rintro σ w1 ⟨f0, h1, k1⟩
    simp +contextual (maxSteps := 2000000) (disch := first | omega | (simp only [SZ]; first | done | omega) | (simp only [TS] at *; omega)) only [RZ, ovw, oneC, reduceAdd, reduceMul, reduceSub, reduceEqDiff, reduceLT, ↓reduceIte, Int.reduceToNat, reduceLeDiff,  f0]
    refine (pbLen_any h1).mono ?_
    rintro e w2 ⟨rfl, rfl⟩
    refine ⟨_, rfl, ?_⟩
    have hln : (p.add ((L.map bs).flatMap (32 :: ·))).X.length = p.X.length + ((L.map bs).flatMap (32 :: ·)).length := add_len _ _
    have hd : (((p.add ((L.map bs).flatMap (32 :: ·))).X.length : Int) ≤ 32768) = ((p.add ((L.map bs).flatMap (32 :: ·))).X.length ≤ 32768) := by
      apply propext; omega
    simp +contextual (maxSteps := 2000000) (disch := first | omega | (simp only [SZ]; first | done | omega) | (simp only [TS] at *; omega)) only [RZ, ovw, oneC, reduceAdd, reduceMul, reduceSub, reduceEqDiff, reduceLT, ↓reduceIte, Int.reduceToNat, reduceLeDiff,  f0]
    rw [show decide (((p.add ((L.map bs).flatMap (32 :: ·))).X.length : Int) ≤ 32768) = decide ((p.add ((L.map bs).flatMap (32 :: ·))).X.length ≤ 32768) by simp only [hd]]
    refine (pbRequire_any h1 _).mono ?_
    rintro e w2 ⟨rfl, h2, k2⟩
    refine ⟨_, rfl, ?_⟩
    simp +contextual (maxSteps := 2000000) (disch := first | omega | (simp only [SZ]; first | done | omega) | (simp only [TS] at *; omega)) only [RZ, ovw, oneC, reduceAdd, reduceMul, reduceSub, reduceEqDiff, reduceLT, ↓reduceIte, Int.reduceToNat, reduceLeDiff]
    exact ⟨h2, k1.trans k2⟩
  · refine W_piece fun K hK hX => ?_
    simp +contextual (maxSteps := 2000000) (disch := first | omega | (simp only [SZ]; first | done | omega) | (simp only [TS] at *; omega)) only [RZ, ovw, oneC, reduceAdd, reduceMul, reduceSub, reduceEqDiff, reduceLT, ↓reduceIte, Int.reduceToNat, reduceLeDiff]
    refine hK _ _ ?_
    clear hK hX K
    rw [W_block, W_loop]
    refine Raw_loop (fun σ w1 => ∃ k : Nat, k ≤ L.length ∧ PbIn g w1 (p.add (((L.take k).map bs).flatMap (32 :: ·))) ∧ KB g w w1 ∧ σ 0 = .pointer (some ⟨g, 0, none⟩) ∧ σ 6 = .slice A L.length c ∧ σ 7 = .int .i64 L.length ∧ σ 8 = .int .i64 k) (fun σ _ => L.length - (intOf (σ 8)).toNat) ?_ ?_
    · exact ⟨0, Nat.zero_le _, by rw [List.take_zero, List.map_nil, List.flatMap_nil, Pr.add_nil]; exact h, KB.refl _ _, rfl, rfl, rfl, rfl⟩
    rintro σ w1 ⟨k, hk, h1, k1, f0, f6, f7, f8⟩ K hK
    simp +contextual (maxSteps := 2000000) (disch := first | omega | (simp only [SZ]; first | done | omega) | (simp only [TS] at *; omega)) only [RZ, ovw, oneC, reduceAdd, reduceMul, reduceSub, reduceEqDiff, reduceLT, ↓reduceIte, Int.reduceToNat, reduceLeDiff,  f0, f6, f7, f8]
    (refine W_if rfl (fun hc => ?_) (fun hc => ?_) <;> (try simp only [TS] at hc))
    · obtain ⟨s, hsk⟩ : ∃ s, L[k]? = some s := ⟨_, List.getElem?_eq_getElem (by omega)⟩
      obtain ⟨b, o, rfl, hb, hcell⟩ := (hA w1 k1).at_ (enc := fun s => [Value.string s]) hsk
      have l0 := hcell 0 _ rfl
      rw [Nat.add_zero, Nat.mul_one] at l0
      have hmem : s ∈ L := List.mem_of_getElem? hsk
      have htk : ((L.take (k + 1)).map bs).flatMap (32 :: ·) = ((L.take k).map bs).flatMap (32 :: ·) ++ 32 :: bs s := by
        rw [List.take_add_one, hsk]
        simp
      have hle : (((L.take (k + 1)).map bs).flatMap (32 :: ·)).length ≤ ((L.map bs).flatMap (32 :: ·)).length := by
        conv => rhs; rw [← List.take_append_drop (k + 1) L, List.map_append, List.flatMap_append, List.length_append]
        omega
      rw [htk, List.length_append, List.length_cons, bs_len] at hle
      have hl1 := add_len p (((L.take k).map bs).flatMap (32 :: ·))
      simp +contextual (maxSteps := 2000000) (disch := first | omega | (simp only [SZ]; first | done | omega) | (simp only [TS] at *; omega)) only [RZ, ovw, oneC, reduceAdd, reduceMul, reduceSub, reduceEqDiff, reduceLT, ↓reduceIte, Int.reduceToNat, reduceLeDiff,  f0, f6, f7, f8, l0]
      refine (pbByte_any h1 32 (by omega) (by omega)).mono ?_
      rintro e w2 ⟨rfl, h2, k2⟩
      refine ⟨_, rfl, ?_⟩
      rw [Pr.add_add] at h2
      have hl2 := add_len p (((L.take k).map bs).flatMap (32 :: ·) ++ [32])
      rw [List.length_append, List.length_singleton] at hl2
      try simp +contextual (maxSteps := 2000000) (disch := first | omega | (simp only [SZ]; first | done | omega) | (simp only [TS] at *; omega)) only [RZ, ovw, oneC, reduceAdd, reduceMul, reduceSub, reduceEqDiff, reduceLT, ↓reduceIte, Int.reduceToNat, reduceLeDiff,  f0, f6, f7, f8]
      refine (pbStr_any h2 s (by omega)).mono ?_
      rintro e w3 ⟨rfl, h3, k3⟩
      refine ⟨_, rfl, ?_⟩
      rw [Pr.add_add, List.append_assoc, List.singleton_append, ← htk] at h3
      try simp +contextual (maxSteps := 2000000) (disch := first | omega | (simp only [SZ]; first | done | omega) | (simp only [TS] at *; omega)) only [RZ, ovw, oneC, reduceAdd, reduceMul, reduceSub, reduceEqDiff, reduceLT, ↓reduceIte, Int.reduceToNat, reduceLeDiff,  f0, f6, f7, f8]
      refine hK _ _ ⟨k + 1, by omega, h3, (k1.trans k2).trans k3, ?_⟩ ?_
      · simp +contextual (maxSteps := 2000000) (disch := first | omega | (simp only [SZ]; first | done | omega) | (simp only [TS] at *; omega)) only [RZ, ovw, oneC, reduceAdd, reduceMul, reduceSub, reduceEqDiff, reduceLT, ↓reduceIte, Int.reduceToNat, reduceLeDiff,  f0, f6, f7, f8]
      · simp +contextual (maxSteps := 2000000) (disch := first | omega | (simp only [SZ]; first | done | omega) | (simp only [TS] at *; omega)) only [RZ, ovw, oneC, reduceAdd, reduceMul, reduceSub, reduceEqDiff, reduceLT, ↓reduceIte, Int.reduceToNat, reduceLeDiff,  intOf, f8]
        omega
    · have hkl : k = L.length := by omega
      subst hkl
      rw [List.take_length] at h1
      simp +contextual (maxSteps := 2000000) (disch := first | omega | (simp only [SZ]; first | done | omega) | (simp only [TS] at *; omega)) only [RZ, ovw, oneC, reduceAdd, reduceMul, reduceSub, reduceEqDiff, reduceLT, ↓reduceIte, Int.reduceToNat, reduceLeDiff,  f0, f6, f7, f8]
      exact ⟨h1, k1⟩
/-- One new cell row is kept by the printer's steps. -/
theorem arr_new {Ty : TypeId} {Ls : List (List Value)} {b : Nat} (hR : Row w b Ty Ls.flatten) (hb : b ≠ g) (hT : Ty ≠ 5) (hl : ∀ v ∈ Ls, v.length = 1) : ∀ w', KB g w w' → Arr w' (some ⟨b, 0, none⟩) 1 Ls := fun w' k => by
  have h := hR.kb k hb hT
  intro hn
  refine ⟨b, 0, rfl, h.lt, fun i l hi j v hv => h.cell ?_⟩
  have key : ∀ (Vs : List (List Value)) (i : Nat), (∀ v ∈ Vs, v.length = 1) → Vs[i]? = some l → Vs.flatten[0 + i * 1 + j]? = some v := by
    intro Vs
    induction Vs with
    | nil => intro i _ h; simp at h
    | cons x r ih =>
      intro i hl hi
      rw [List.flatten_cons]
      have hx := hl x (by simp)
      cases i with
      | zero =>
        simp only [List.getElem?_cons_zero, Option.some.injEq] at hi
        subst hi
        have hj := (List.getElem?_eq_some_iff.1 hv).1
        rw [List.getElem?_append_left (by omega), show 0 + 0 * 1 + j = j by omega]
        exact hv
      | succ i =>
        rw [List.getElem?_cons_succ] at hi
        have := ih i (fun v hv => hl v (by simp [hv])) hi
        rw [List.getElem?_append_right (by omega), hx, show 0 + (i + 1) * 1 + j - 1 = 0 + i * 1 + j by omega]
        exact this
  exact key Ls i hl hi
/-- Words of a literal list. -/
theorem pbWords_any (h : PbIn g w p) (L : List ByteArray) (hl : L.length ≤ 1000) (hlen : (p.ws (L.map bs)).X.length ≤ 900000000) :
    Calls Tryz.prog 73 #[.pointer (some ⟨g, 0, none⟩), .slice (some ⟨w.heap.size, 0, none⟩) L.length L.length] (w.alloc (.cells (L.map Value.string).toArray 9)) fun e w' => e = .returned (.tuple #[]) ∧ PbIn g w' (p.ws (L.map bs)) ∧ KB g w w' := by
  have hlt := h.lt
  have hR := Row.new w 9 (L.map Value.string)
  have e1 : ∀ L : List ByteArray, (L.map fun s => [Value.string s]).flatten = L.map Value.string := fun L => by
    induction L with
    | nil => rfl
    | cons s r ih => rw [List.map_cons, List.flatten_cons, ih]; rfl
  rw [← e1 L] at hR
  rw [e1 L] at hR
  refine (pbWrite_any (L := L) (h.alloc _) (arr_new (by rw [e1 L]; exact hR) (by omega) (by decide) (fun v hv => by obtain ⟨s, _, rfl⟩ := List.mem_map.1 hv; rfl)) hl hlen).mono ?_
  rintro e w' ⟨h1, h2, h3⟩
  exact ⟨h1, h2, ((KB.refl g w).alloc (by omega) _).trans h3⟩
theorem pbBegin_any (h : PbIn g w p) (s : ByteArray) (hlen : p.X.length + s.size ≤ 800000000) : Calls Tryz.prog 74 #[.pointer (some ⟨g, 0, none⟩), .string s] w fun e w' => e = .returned (.tuple #[]) ∧ PbIn g w' (p.begin (bs s)) ∧ KB g w w' := by
  refine calls_W (l := [_, _]) Tryz.func74 rfl _ Tryz.ntmps74 (by simp) ?_
  refine W_piece fun K hK hX => ?_
  simp +contextual (maxSteps := 2000000) (disch := first | omega | (simp only [SZ]; first | done | omega) | (simp only [TS] at *; omega)) only [RZ, ovw, oneC, reduceAdd, reduceMul, reduceSub, reduceEqDiff, reduceLT, ↓reduceIte, Int.reduceToNat, reduceLeDiff]
  refine (pbByte_any h 32 (by omega) (by omega)).mono ?_
  rintro e w1 ⟨rfl, h1, k1⟩
  refine ⟨_, rfl, ?_⟩
  try simp +contextual (maxSteps := 2000000) (disch := first | omega | (simp only [SZ]; first | done | omega) | (simp only [TS] at *; omega)) only [RZ, ovw, oneC, reduceAdd, reduceMul, reduceSub, reduceEqDiff, reduceLT, ↓reduceIte, Int.reduceToNat, reduceLeDiff]
  refine hK _ _ ?_
  clear hK hX K
  simp +contextual (maxSteps := 2000000) (disch := first | omega | (simp only [SZ]; first | done | omega) | (simp only [TS] at *; omega)) only [RZ, ovw, oneC, reduceAdd, reduceMul, reduceSub, reduceEqDiff, reduceLT, ↓reduceIte, Int.reduceToNat, reduceLeDiff]
  have hl1 := ws_len (p.add [32]) ([s].map bs)
  rw [add_len] at hl1
  simp only [List.map_cons, List.map_nil, List.flatMap_cons, List.flatMap_nil, List.append_nil, List.length_cons, List.length_nil, bs_len] at hl1
  refine (pbWords_any h1 [s] (by simp) (by simp only [List.map_cons, List.map_nil]; omega)).mono ?_
  rintro e w2 ⟨rfl, h2, k2⟩
  refine ⟨_, rfl, ?_⟩
  simp +contextual (maxSteps := 2000000) (disch := first | omega | (simp only [SZ]; first | done | omega) | (simp only [TS] at *; omega)) only [RZ, ovw, oneC, reduceAdd, reduceMul, reduceSub, reduceEqDiff, reduceLT, ↓reduceIte, Int.reduceToNat, reduceLeDiff]
  exact ⟨h2, k1.trans k2⟩
theorem pbEnd_any (h : PbIn g w p) (hlen : p.X.length ≤ 800000000) : Calls Tryz.prog 76 #[.pointer (some ⟨g, 0, none⟩)] w fun e w' => e = .returned (.tuple #[]) ∧ PbIn g w' p.fin ∧ KB g w w' := by
  refine calls_W (l := [_]) Tryz.func76 rfl _ Tryz.ntmps76 (by simp) ?_
  refine W_piece fun K hK hX => ?_
  simp +contextual (maxSteps := 2000000) (disch := first | omega | (simp only [SZ]; first | done | omega) | (simp only [TS] at *; omega)) only [RZ, ovw, oneC, reduceAdd, reduceMul, reduceSub, reduceEqDiff, reduceLT, ↓reduceIte, Int.reduceToNat, reduceLeDiff]
  refine (pbStr_any h ⟨#[59, 10]⟩ (by rw [ba_lit]; simp; omega)).mono ?_
  rintro e w1 ⟨rfl, h1, k1⟩
  refine ⟨_, rfl, ?_⟩
  rw [show bs ⟨#[59, 10]⟩ = asc ";\n" by decide +kernel] at h1
  try simp +contextual (maxSteps := 2000000) (disch := first | omega | (simp only [SZ]; first | done | omega) | (simp only [TS] at *; omega)) only [RZ, ovw, oneC, reduceAdd, reduceMul, reduceSub, reduceEqDiff, reduceLT, ↓reduceIte, Int.reduceToNat, reduceLeDiff]
  refine hK _ _ ?_
  clear hK hX K
  simp +contextual (maxSteps := 2000000) (disch := first | omega | (simp only [SZ]; first | done | omega) | (simp only [TS] at *; omega)) only [RZ, ovw, oneC, reduceAdd, reduceMul, reduceSub, reduceEqDiff, reduceLT, ↓reduceIte, Int.reduceToNat, reduceLeDiff]
  refine (pbLen_any h1).mono ?_
  rintro e w2 ⟨rfl, rfl⟩
  refine ⟨_, rfl, ?_⟩
  have hd : (((p.add (asc ";\n")).X.length : Int) ≤ 32768) = ((p.add (asc ";\n")).X.length ≤ 32768) := by
    apply propext; omega
  try simp +contextual (maxSteps := 2000000) (disch := first | omega | (simp only [SZ]; first | done | omega) | (simp only [TS] at *; omega)) only [RZ, ovw, oneC, reduceAdd, reduceMul, reduceSub, reduceEqDiff, reduceLT, ↓reduceIte, Int.reduceToNat, reduceLeDiff]
  rw [show decide (((p.add (asc ";\n")).X.length : Int) ≤ 32768) = decide ((p.add (asc ";\n")).X.length ≤ 32768) by simp only [hd]]
  refine (pbRequire_any h1 _).mono ?_
  rintro e w3 ⟨rfl, h2, k2⟩
  refine ⟨_, rfl, ?_⟩
  simp +contextual (maxSteps := 2000000) (disch := first | omega | (simp only [SZ]; first | done | omega) | (simp only [TS] at *; omega)) only [RZ, ovw, oneC, reduceAdd, reduceMul, reduceSub, reduceEqDiff, reduceLT, ↓reduceIte, Int.reduceToNat, reduceLeDiff]
  exact ⟨h2, k1.trans k2⟩
theorem nums_cons (p : Pr) (n : Int) (r : List Int) : p.nums (n :: r) = if (p.req (fitB n)).bad then p.req (fitB n) else ((p.req (fitB n)).ws [fmtI n]).nums r := rfl
theorem ws_ok {p : Pr} {l : List (List Nat)} (h : (p.ws l).bad = false) : (p.ws l).X.length ≤ 32768 := by
  unfold Pr.ws Pr.lim Pr.req at h
  simp only [Bool.or_eq_false_iff, Bool.not_eq_false', decide_eq_true_eq] at h
  exact h.2
theorem nums_max : ∀ (L : List Int) (p : Pr), (p.nums L).X.length ≤ max p.X.length 32768 + 19
  | [], p => by show p.X.length ≤ _; omega
  | n :: r, p => by
    unfold Pr.nums
    split
    · show p.X.length ≤ _; omega
    · rename_i hb
      have hb' := hb
      unfold Pr.req at hb'
      simp only [Bool.not_eq_true, Bool.or_eq_false_iff, Bool.not_eq_false'] at hb'
      have hf := fit_len hb'.2
      have hq : ((p.req (fitB n)).ws [fmtI n]).X.length = p.X.length + (1 + (fmtI n).length) := by
        rw [ws_len]
        show p.X.length + _ = _
        simp; omega
      have ih := nums_max r ((p.req (fitB n)).ws [fmtI n])
      by_cases hbig : ((p.req (fitB n)).ws [fmtI n]).bad = true
      · have hdead : ∀ (r : List Int) (q : Pr), q.bad = true → (q.nums r).X = q.X := by
          intro r
          cases r with
          | nil => intro q _; rfl
          | cons m r =>
            intro q hq
            unfold Pr.nums
            have : (q.req (fitB m)).bad = true := by unfold Pr.req; rw [hq]; rfl
            rw [if_pos this]
            rfl
        rw [hdead r _ hbig, hq]
        omega
      · have : ((p.req (fitB n)).ws [fmtI n]).X.length ≤ 32768 := by
          have hb2 : ((p.req (fitB n)).ws [fmtI n]).bad = false := by simpa using hbig
          unfold Pr.ws Pr.lim at hb2
          unfold Pr.req at hb2
          simp only [Bool.or_eq_false_iff, Bool.not_eq_false', decide_eq_true_eq] at hb2
          exact hb2.2
        omega
theorem pbNumbers_any {L : List Int} {A : Option Addr} {c : Nat} (h : PbIn g w p) (hA : ∀ w', KB g w w' → Arr w' A 1 (L.map fun n => [Value.int .i64 n])) (hW : Laid w) (hg : 9 ≤ g) (hl : L.length ≤ 1000000000) (hlen : p.X.length ≤ 700000000) :
    Calls Tryz.prog 75 #[.pointer (some ⟨g, 0, none⟩), .slice A L.length c] w fun e w' => e = .returned (.tuple #[]) ∧ PbIn g w' (p.nums L) ∧ KB g w w' := by
  refine calls_W (l := [_, _]) Tryz.func75 rfl _ Tryz.ntmps75 (by simp) ?_
  refine W_piece fun K hK hX => ?_
  simp +contextual (maxSteps := 2000000) (disch := first | omega | (simp only [SZ]; first | done | omega) | (simp only [TS] at *; omega)) only [RZ, ovw, oneC, reduceAdd, reduceMul, reduceSub, reduceEqDiff, reduceLT, ↓reduceIte, Int.reduceToNat, reduceLeDiff]
  refine hK _ _ ?_
  clear hK hX K
  rw [W_block, W_loop]
  refine Raw_loop (fun σ w1 => ∃ (k : Nat) (pk : Pr), k ≤ L.length ∧ PbIn g w1 pk ∧ pk.nums (L.drop k) = p.nums L ∧ pk.X.length ≤ max p.X.length 32768 + 19 ∧ (pk.bad = false → pk.X.length ≤ max p.X.length 32768) ∧ KB g w w1 ∧ σ 0 = .pointer (some ⟨g, 0, none⟩) ∧ σ 6 = .slice A L.length c ∧ σ 7 = .int .i64 L.length ∧ σ 8 = .int .i64 k) (fun σ _ => L.length - (intOf (σ 8)).toNat) ?_ ?_
  · exact ⟨0, p, Nat.zero_le _, h, by rw [List.drop_zero], by omega, fun _ => by omega, KB.refl _ _, rfl, rfl, rfl, rfl⟩
  rintro σ w1 ⟨k, pk, hk, h1, hn1, hx1, hx0, k1, f0, f6, f7, f8⟩ K hK
  simp +contextual (maxSteps := 2000000) (disch := first | omega | (simp only [SZ]; first | done | omega) | (simp only [TS] at *; omega)) only [RZ, ovw, oneC, reduceAdd, reduceMul, reduceSub, reduceEqDiff, reduceLT, ↓reduceIte, Int.reduceToNat, reduceLeDiff,  f0, f6, f7, f8]
  (refine W_if rfl (fun hc => ?_) (fun hc => ?_) <;> (try simp only [TS] at hc))
  · obtain ⟨n, hnk⟩ : ∃ n, L[k]? = some n := ⟨_, List.getElem?_eq_getElem (by omega)⟩
    obtain ⟨b, o, rfl, hb, hcell⟩ := (hA w1 k1).at_ (enc := fun n => [Value.int .i64 n]) hnk
    have l0 := hcell 0 _ rfl
    rw [Nat.add_zero, Nat.mul_one] at l0
    have hdk : L.drop k = n :: L.drop (k + 1) := by
      rw [List.drop_eq_getElem_cons (by omega)]
      congr 1
      exact (List.getElem?_eq_some_iff.1 hnk).2
    rw [hdk, nums_cons] at hn1
    refine W_piece fun K1 hK1 hX1 => ?_
    rw [W_block]
    refine W_piece fun K2 hK2 hX2 => ?_
    simp +contextual (maxSteps := 2000000) (disch := first | omega | (simp only [SZ]; first | done | omega) | (simp only [TS] at *; omega)) only [RZ, ovw, oneC, reduceAdd, reduceMul, reduceSub, reduceEqDiff, reduceLT, ↓reduceIte, Int.reduceToNat, reduceLeDiff,  f0, f6, f7, f8, l0]
    refine hK2 _ _ ?_
    clear hK2 hX2 K2
    refine W_piece fun K2 hK2 hX2 => ?_
    simp +contextual (maxSteps := 2000000) (disch := first | omega | (simp only [SZ]; first | done | omega) | (simp only [TS] at *; omega)) only [RZ, ovw, oneC, reduceAdd, reduceMul, reduceSub, reduceEqDiff, reduceLT, ↓reduceIte, Int.reduceToNat, reduceLeDiff,  f0, f6, f7, f8]
    rw [show (decide (0 ≤ n) && decide (n ≤ 999999999999999999)) = fitB n from rfl]
    refine (pbRequire_any h1 (fitB n)).mono ?_
    rintro e w2 ⟨rfl, h2, k2⟩
    refine ⟨_, rfl, ?_⟩
    try simp +contextual (maxSteps := 2000000) (disch := first | omega | (simp only [SZ]; first | done | omega) | (simp only [TS] at *; omega)) only [RZ, ovw, oneC, reduceAdd, reduceMul, reduceSub, reduceEqDiff, reduceLT, ↓reduceIte, Int.reduceToNat, reduceLeDiff,  f0, f6, f7, f8]
    refine hK2 _ _ ?_
    clear hK2 hX2 K2
    obtain ⟨q, A2, c2, h2i⟩ := id h2
    have d2 := h2i.row.cell (i := 2) rfl
    refine W_piece fun K2 hK2 hX2 => ?_
    refine W_piece fun K3 hK3 hX3 => ?_
    simp +contextual (maxSteps := 2000000) (disch := first | omega | (simp only [SZ]; first | done | omega) | (simp only [TS] at *; omega)) only [RZ, ovw, oneC, reduceAdd, reduceMul, reduceSub, reduceEqDiff, reduceLT, ↓reduceIte, Int.reduceToNat, reduceLeDiff,  f0, f6, f7, f8, d2]
    refine hK3 _ _ ?_
    clear hK3 hX3 K3
    cases hbd : (pk.req (fitB n)).bad with
    | true =>
      rw [if_pos hbd] at hn1
      refine W_if_t rfl ?_
      rw [W_ret]
      refine hX2 _ _ _ (fun h => by cases h) ?_
      rw [inX_ret]
      refine hX1 _ _ _ (fun h => by cases h) ?_
      rw [← hn1]
      simp +contextual (maxSteps := 2000000) (disch := first | omega | (simp only [SZ]; first | done | omega) | (simp only [TS] at *; omega)) only [RZ, ovw, oneC, reduceAdd, reduceMul, reduceSub, reduceEqDiff, reduceLT, ↓reduceIte, Int.reduceToNat, reduceLeDiff,  f0]
      exact ⟨h2, k1.trans k2⟩
    | false =>
      rw [if_neg (by rw [hbd]; simp)] at hn1
      refine W_if_f rfl ?_
      rw [W_skip]
      refine hK2 _ _ ?_
      clear hK2 hX2 K2
      have hfb : fitB n = true := by
        unfold Pr.req at hbd
        simp only [Bool.or_eq_false_iff, Bool.not_eq_false'] at hbd
        exact hbd.2
      have hpb : pk.bad = false := by
        unfold Pr.req at hbd
        simp only [Bool.or_eq_false_iff] at hbd
        exact hbd.1
      have hnr : nR n := by have := fit_nat hfb; unfold nR; omega
      have hW2 : Laid w2 := (hW.kb k1 hg).kb k2 hg
      have hlt2 := h2.lt
      simp +contextual (maxSteps := 2000000) (disch := first | omega | (simp only [SZ]; first | done | omega) | (simp only [TS] at *; omega)) only [RZ, ovw, oneC, reduceAdd, reduceMul, reduceSub, reduceEqDiff, reduceLT, ↓reduceIte, Int.reduceToNat, reduceLeDiff,  f0, f6, f7, f8]
      refine (format_any n w2 hW2 hnr).mono ?_
      rintro e w3 ⟨rfl, hB3⟩
      refine ⟨_, rfl, ?_⟩
      have h3 := h2.below hB3
      have k3 := (k1.trans k2).below (by omega) hB3
      have hwl : ((pk.req (fitB n)).ws ([fmtB n].map bs)).X.length = pk.X.length + (1 + (fmtI n).length) := by
        rw [ws_len]
        show pk.X.length + _ = _
        simp [bs_fmtB]; omega
      have hf18 := fit_len hfb
      try simp +contextual (maxSteps := 2000000) (disch := first | omega | (simp only [SZ]; first | done | omega) | (simp only [TS] at *; omega)) only [RZ, ovw, oneC, reduceAdd, reduceMul, reduceSub, reduceEqDiff, reduceLT, ↓reduceIte, Int.reduceToNat, reduceLeDiff,  f0, f6, f7, f8]
      refine (pbWords_any h3 [fmtB n] (by simp) (by omega)).mono ?_
      rintro e w4 ⟨rfl, h4, k4⟩
      refine ⟨_, rfl, ?_⟩
      try simp +contextual (maxSteps := 2000000) (disch := first | omega | (simp only [SZ]; first | done | omega) | (simp only [TS] at *; omega)) only [RZ, ovw, oneC, reduceAdd, reduceMul, reduceSub, reduceEqDiff, reduceLT, ↓reduceIte, Int.reduceToNat, reduceLeDiff,  f0, f6, f7, f8]
      refine hK1 _ _ ?_
      clear hK1 hX1 K1
      simp +contextual (maxSteps := 2000000) (disch := first | omega | (simp only [SZ]; first | done | omega) | (simp only [TS] at *; omega)) only [RZ, ovw, oneC, reduceAdd, reduceMul, reduceSub, reduceEqDiff, reduceLT, ↓reduceIte, Int.reduceToNat, reduceLeDiff,  f0, f6, f7, f8]
      refine hK _ _ ⟨k + 1, (pk.req (fitB n)).ws [fmtI n], by omega, h4, hn1, ?_, ?_, k3.trans k4, ?_⟩ ?_
      · have := hx0 hpb
        have hwl : ((pk.req (fitB n)).ws [fmtI n]).X.length = pk.X.length + (1 + (fmtI n).length) := hwl
        omega
      · intro hb
        have := ws_ok hb
        omega
      · simp +contextual (maxSteps := 2000000) (disch := first | omega | (simp only [SZ]; first | done | omega) | (simp only [TS] at *; omega)) only [RZ, ovw, oneC, reduceAdd, reduceMul, reduceSub, reduceEqDiff, reduceLT, ↓reduceIte, Int.reduceToNat, reduceLeDiff,  f0, f6, f7, f8]
      · simp +contextual (maxSteps := 2000000) (disch := first | omega | (simp only [SZ]; first | done | omega) | (simp only [TS] at *; omega)) only [RZ, ovw, oneC, reduceAdd, reduceMul, reduceSub, reduceEqDiff, reduceLT, ↓reduceIte, Int.reduceToNat, reduceLeDiff,  intOf, f8]
        omega
  · have hkl : k = L.length := by omega
    subst hkl
    rw [List.drop_length] at hn1
    have hn1 : pk = p.nums L := hn1
    subst hn1
    simp +contextual (maxSteps := 2000000) (disch := first | omega | (simp only [SZ]; first | done | omega) | (simp only [TS] at *; omega)) only [RZ, ovw, oneC, reduceAdd, reduceMul, reduceSub, reduceEqDiff, reduceLT, ↓reduceIte, Int.reduceToNat, reduceLeDiff,  f0, f6, f7, f8]
    exact ⟨h1, k1⟩
end
end Go.Proofs.YtbdkggnajipdhaaGreatDoor
/- Walks: num.decimal, num.Parse. -/
namespace Go.Proofs.YtbdkggnajipdhaaGreatDoor
open Nat (reduceAdd reduceMul reduceSub reduceEqDiff reduceLT reduceLeDiff)
open Go.RowKit
set_option maxRecDepth 100000
theorem sz_pos {s : ByteArray} (h : s ≠ ⟨#[]⟩) : 0 < s.size := by
  rcases Nat.eq_zero_or_pos s.size with h0 | h0
  · exact absurd (ByteArray.ext (Array.eq_empty_of_size_eq_zero h0)) h
  · exact h0
theorem bs_ne {s : ByteArray} (h : 0 < s.size) : bs s ≠ [] := fun e => by have := congrArg List.length e; rw [bs_len, List.length_nil] at this; omega
theorem bs_at {s : ByteArray} {k c : Nat} (h : (bs s)[k]? = some c) : k < s.size ∧ c = bt s k := by
  have hk : k < s.size := by have := (List.getElem?_eq_some_iff.1 h).1; rwa [bs_len] at this
  rw [bs_get hk] at h
  injection h with h
  exact ⟨hk, h.symm⟩
theorem decimal_any (s : ByteArray) (w : World) (hs : s.size ≤ 1000000000) : Calls Tryz.prog 146 #[.string s] w fun e w' => e = .returned (.bool (decOK (bs s))) ∧ w = w' := by
  refine calls_W (l := [_]) Tryz.func146 rfl _ Tryz.ntmps146 (by simp) ?_
  by_cases h0 : s = ⟨#[]⟩
  · subst h0
    simp +contextual (maxSteps := 2000000) (disch := first | omega | (simp only [SZ]; first | done | omega) | (simp only [TS] at *; omega)) only [RZ, ovw, oneC, reduceAdd, reduceMul, reduceSub, reduceEqDiff, reduceLT, ↓reduceIte, Int.reduceToNat, reduceLeDiff]
    refine W_if_t rfl ?_
    simp +contextual (maxSteps := 2000000) (disch := first | omega | (simp only [SZ]; first | done | omega) | (simp only [TS] at *; omega)) only [RZ, ovw, oneC, reduceAdd, reduceMul, reduceSub, reduceEqDiff, reduceLT, ↓reduceIte, Int.reduceToNat, reduceLeDiff]
    exact rfl
  have hp := sz_pos h0
  have e0 : (s = ⟨#[]⟩) = False := eq_false h0
  simp +contextual (maxSteps := 2000000) (disch := first | omega | (simp only [SZ]; first | done | omega) | (simp only [TS] at *; omega)) only [RZ, ovw, oneC, reduceAdd, reduceMul, reduceSub, reduceEqDiff, reduceLT, ↓reduceIte, Int.reduceToNat, reduceLeDiff,  e0]
  (refine W_if rfl (fun hc => ?_) (fun hc => ?_) <;> (try simp only [TS] at hc))
  · simp +contextual (maxSteps := 2000000) (disch := first | omega | (simp only [SZ]; first | done | omega) | (simp only [TS] at *; omega)) only [RZ, ovw, oneC, reduceAdd, reduceMul, reduceSub, reduceEqDiff, reduceLT, ↓reduceIte, Int.reduceToNat, reduceLeDiff]
    exact ret_bool (decOK_zero (by rw [bs_get hp]; congr 1; omega) (by rw [bs_len]; omega)).symm
  simp +contextual (maxSteps := 2000000) (disch := first | omega | (simp only [SZ]; first | done | omega) | (simp only [TS] at *; omega)) only [RZ, ovw, oneC, reduceAdd, reduceMul, reduceSub, reduceEqDiff, reduceLT, ↓reduceIte, Int.reduceToNat, reduceLeDiff,  e0]
  refine Raw_loop (fun σ w' => w' = w ∧ ∃ k : Nat, k ≤ s.size ∧ (∀ j, j < k → 48 ≤ bt s j ∧ bt s j ≤ 57) ∧ σ 0 = .string s ∧ σ 17 = .int .i64 s.size ∧ σ 18 = .int .i64 k) (fun σ _ => s.size - (intOf (σ 18)).toNat) ?_ ?_
  · simp +contextual (maxSteps := 2000000) (disch := first | omega | (simp only [SZ]; first | done | omega) | (simp only [TS] at *; omega)) only [RZ, ovw, oneC, reduceAdd, reduceMul, reduceSub, reduceEqDiff, reduceLT, ↓reduceIte, Int.reduceToNat, reduceLeDiff]
    exact ⟨0, Nat.zero_le _, fun j hj => absurd hj (Nat.not_lt_zero _), rfl⟩
  rintro σ w' ⟨rfl, k, hk, hup, f0, f17, f18⟩ K hK
  simp +contextual (maxSteps := 2000000) (disch := first | omega | (simp only [SZ]; first | done | omega) | (simp only [TS] at *; omega)) only [RZ, ovw, oneC, reduceAdd, reduceMul, reduceSub, reduceEqDiff, reduceLT, ↓reduceIte, Int.reduceToNat, reduceLeDiff,  f0, f17, f18]
  (refine W_if rfl (fun hc => ?_) (fun hc => ?_) <;> (try simp only [TS] at hc))
  · simp +contextual (maxSteps := 2000000) (disch := first | omega | (simp only [SZ]; first | done | omega) | (simp only [TS] at *; omega)) only [RZ, ovw, oneC, reduceAdd, reduceMul, reduceSub, reduceEqDiff, reduceLT, ↓reduceIte, Int.reduceToNat, reduceLeDiff,  f0, f17, f18]
    (refine W_if rfl (fun hc => ?_) (fun hc => ?_) <;> (try simp only [TS] at hc))
    · simp +contextual (maxSteps := 2000000) (disch := first | omega | (simp only [SZ]; first | done | omega) | (simp only [TS] at *; omega)) only [RZ, ovw, oneC, reduceAdd, reduceMul, reduceSub, reduceEqDiff, reduceLT, ↓reduceIte, Int.reduceToNat, reduceLeDiff,  f0, f17, f18]
      exact ret_bool (decOK_bad (bs_get (i := k) (by omega)) (by omega)).symm
    · simp +contextual (maxSteps := 2000000) (disch := first | omega | (simp only [SZ]; first | done | omega) | (simp only [TS] at *; omega)) only [RZ, ovw, oneC, reduceAdd, reduceMul, reduceSub, reduceEqDiff, reduceLT, ↓reduceIte, Int.reduceToNat, reduceLeDiff,  f0, f17, f18]
      refine hK _ _ ⟨rfl, k + 1, by omega, fun j hj => ?_, ?_⟩ ?_
      · rcases Nat.lt_or_eq_of_le (Nat.lt_succ_iff.1 hj) with h | rfl
        · exact hup j h
        · omega
      · simp +contextual (maxSteps := 2000000) (disch := first | omega | (simp only [SZ]; first | done | omega) | (simp only [TS] at *; omega)) only [RZ, ovw, oneC, reduceAdd, reduceMul, reduceSub, reduceEqDiff, reduceLT, ↓reduceIte, Int.reduceToNat, reduceLeDiff,  f0, f17, f18]
      · simp +contextual (maxSteps := 2000000) (disch := first | omega | (simp only [SZ]; first | done | omega) | (simp only [TS] at *; omega)) only [RZ, ovw, oneC, reduceAdd, reduceMul, reduceSub, reduceEqDiff, reduceLT, ↓reduceIte, Int.reduceToNat, reduceLeDiff,  intOf, f18]
        omega
  · simp +contextual (maxSteps := 2000000) (disch := first | omega | (simp only [SZ]; first | done | omega) | (simp only [TS] at *; omega)) only [RZ, ovw, oneC, reduceAdd, reduceMul, reduceSub, reduceEqDiff, reduceLT, ↓reduceIte, Int.reduceToNat, reduceLeDiff,  f0, f17, f18]
    refine ret_bool (decOK_yes (bs_ne hp) (fun h => ?_) (fun j c hj => ?_)).symm
    · have := (bs_at h.1).2
      rw [bs_len] at h
      omega
    · obtain ⟨h1, rfl⟩ := bs_at hj
      exact hup j (by omega)
theorem negB_bs (s : ByteArray) : negB (bs s) = (decide (0 < s.size) && decide (bt s 0 = 45)) := by
  rcases Nat.eq_zero_or_pos s.size with h | h
  · have e : bs s = [] := List.length_eq_zero_iff.1 (by rw [bs_len]; exact h)
    rw [e, h]; rfl
  · have h1 := bs_get h
    cases hb : bs s with
    | nil => exact absurd hb (bs_ne h)
    | cons c r =>
      rw [hb] at h1
      simp only [List.getElem?_cons_zero, Option.some.injEq] at h1
      subst h1
      by_cases h45 : bt s 0 = 45
      · rw [h45]; simp [negB, h]
      · unfold negB
        split
        · rename_i e; injection e with e _; exact absurd e h45
        · simp [h45]
def magB (s : ByteArray) : ByteArray := if negB (bs s) then s.extract 1 s.size else s
theorem bs_mag (s : ByteArray) : bs (magB s) = magL (bs s) := by
  unfold magB magL
  split
  · rw [bs_extract]
    rw [List.take_of_length_le (by rw [List.length_drop, bs_len]; omega)]
  · rfl
theorem mag_sz (s : ByteArray) : (magB s).size ≤ s.size := by
  unfold magB
  split
  · rw [ByteArray.size_extract]; omega
  · omega
theorem numParse_any (s : ByteArray) (w : World) (hs : s.size ≤ 1000000000) : Calls Tryz.prog 143 #[.string s] w fun e w' => e = .returned (.tuple #[.int .i64 (numE (bs s)).1, .int .i64 (numE (bs s)).2]) ∧ w = w' := by
  refine calls_W (l := [_]) Tryz.func143 rfl _ Tryz.ntmps143 (by simp) ?_
  have hms := mag_sz s
  simp +contextual (maxSteps := 2000000) (disch := first | omega | (simp only [SZ]; first | done | omega) | (simp only [TS] at *; omega)) only [RZ, ovw, oneC, reduceAdd, reduceMul, reduceSub, reduceEqDiff, reduceLT, ↓reduceIte, Int.reduceToNat, reduceLeDiff]
  refine W_cut (fun τ w' => w' = w ∧ τ 4 = .string (magB s) ∧ τ 5 = .bool (negB (bs s))) ?_ ?_
  rotate_left
  · (refine W_if rfl (fun hc => ?_) (fun hc => ?_) <;> (try simp only [TS] at hc))
    · have hn : negB (bs s) = true := by rw [negB_bs]; simp; omega
      have hm : magB s = s.extract 1 s.size := by unfold magB; rw [if_pos hn]
      simp +contextual (maxSteps := 2000000) (disch := first | omega | (simp only [SZ]; first | done | omega) | (simp only [TS] at *; omega)) only [RZ, ovw, oneC, reduceAdd, reduceMul, reduceSub, reduceEqDiff, reduceLT, ↓reduceIte, Int.reduceToNat, reduceLeDiff,  cutX_normal, cutX_ret, cutX_exit, cut2X_normal, cut2X_ret, cut2X_same, cut2X_ne, hn, hm]
      simp; omega
    · have hn : negB (bs s) = false := by rw [negB_bs]; simp; omega
      have hm : magB s = s := by unfold magB; rw [hn]; rfl
      simp +contextual (maxSteps := 2000000) (disch := first | omega | (simp only [SZ]; first | done | omega) | (simp only [TS] at *; omega)) only [RZ, ovw, oneC, reduceAdd, reduceMul, reduceSub, reduceEqDiff, reduceLT, ↓reduceIte, Int.reduceToNat, reduceLeDiff,  cutX_normal, cutX_ret, cutX_exit, cut2X_normal, cut2X_ret, cut2X_same, cut2X_ne, hn, hm]
      simp; omega
  rintro τ w' ⟨rfl, f4, f5⟩
  have hR1 := @numE_bad (bs s)
  have hR2 := @numE_over (bs s)
  have hR3 := @numE_in (bs s)
  rw [← bs_mag] at hR1 hR2 hR3
  generalize numE (bs s) = R at *
  generalize magB s = t at *
  generalize negB (bs s) = ng at *
  have h48 : (bs t = [48]) = (t = ⟨#[48]⟩) := by
    apply propext
    exact ⟨fun h => bs_inj (by rw [h]; rfl), fun h => by rw [h]; rfl⟩
  rw [h48] at hR1 hR2 hR3
  simp +contextual (maxSteps := 2000000) (disch := first | omega | (simp only [SZ]; first | done | omega) | (simp only [TS] at *; omega)) only [RZ, ovw, oneC, reduceAdd, reduceMul, reduceSub, reduceEqDiff, reduceLT, ↓reduceIte, Int.reduceToNat, reduceLeDiff,  f4, f5]
  refine (decimal_any _ _ (by omega)).mono ?_
  rintro e w1 ⟨rfl, rfl⟩
  refine ⟨_, rfl, ?_⟩
  simp +contextual (maxSteps := 2000000) (disch := first | omega | (simp only [SZ]; first | done | omega) | (simp only [TS] at *; omega)) only [RZ, ovw, oneC, reduceAdd, reduceMul, reduceSub, reduceEqDiff, reduceLT, ↓reduceIte, Int.reduceToNat, reduceLeDiff,  f4, f5]
  (refine W_if rfl (fun hc => ?_) (fun hc => ?_) <;> (try simp only [TS] at hc))
  · rw [hR1 hc]
    simp +contextual (maxSteps := 2000000) (disch := first | omega | (simp only [SZ]; first | done | omega) | (simp only [TS] at *; omega)) only [RZ, ovw, oneC, reduceAdd, reduceMul, reduceSub, reduceEqDiff, reduceLT, ↓reduceIte, Int.reduceToNat, reduceLeDiff]
  have hgood : ¬ (decOK (bs t) = false ∨ (ng = true ∧ t = ⟨#[48]⟩)) := by
    rintro (h | ⟨h1, h2⟩)
    · rw [h] at hc; cases hc.1
    · rcases hc.2 with h | h
      · rw [h] at h1; cases h1
      · exact h h2
  replace hR2 := hR2 hgood
  replace hR3 := hR3 hgood
  clear hR1 hc
  rw [not_or] at hgood
  have hd : decOK (bs t) = true := by simpa using hgood.1
  have hl : limN ng = 9223372036854775807 ∨ (limN ng = 9223372036854775808 ∧ ng = true) := by cases ng <;> simp [limN]
  simp +contextual (maxSteps := 2000000) (disch := first | omega | (simp only [SZ]; first | done | omega) | (simp only [TS] at *; omega)) only [RZ, ovw, oneC, reduceAdd, reduceMul, reduceSub, reduceEqDiff, reduceLT, ↓reduceIte, Int.reduceToNat, reduceLeDiff,  f4, f5]
  refine W_cut (fun τ w2 => w2 = w' ∧ τ 4 = .string t ∧ τ 5 = .bool ng ∧ τ 6 = .int .u64 (limN ng)) ?_ ?_
  rotate_left
  · cases ng
    · refine W_if_f rfl ?_
      simp +contextual (maxSteps := 2000000) (disch := first | omega | (simp only [SZ]; first | done | omega) | (simp only [TS] at *; omega)) only [RZ, ovw, oneC, reduceAdd, reduceMul, reduceSub, reduceEqDiff, reduceLT, ↓reduceIte, Int.reduceToNat, reduceLeDiff,  cutX_normal, cutX_ret, cutX_exit, cut2X_normal, cut2X_ret, cut2X_same, cut2X_ne, f4, f5]
      rfl
    · refine W_if_t rfl ?_
      simp +contextual (maxSteps := 2000000) (disch := first | omega | (simp only [SZ]; first | done | omega) | (simp only [TS] at *; omega)) only [RZ, ovw, oneC, reduceAdd, reduceMul, reduceSub, reduceEqDiff, reduceLT, ↓reduceIte, Int.reduceToNat, reduceLeDiff,  cutX_normal, cutX_ret, cutX_exit, cut2X_normal, cut2X_ret, cut2X_same, cut2X_ne, f4, f5]
      rfl
  clear f4 f5
  rintro υ w2 ⟨rfl, f4, f5, f6⟩
  simp +contextual (maxSteps := 2000000) (disch := first | omega | (simp only [SZ]; first | done | omega) | (simp only [TS] at *; omega)) only [RZ, ovw, oneC, reduceAdd, reduceMul, reduceSub, reduceEqDiff, reduceLT, ↓reduceIte, Int.reduceToNat, reduceLeDiff,  f4, f5, f6]
  refine Raw_loop (fun σ w3 => w3 = w2 ∧ ∃ k : Nat, k ≤ t.size ∧ valD 0 ((bs t).take k) ≤ limN ng ∧ σ 4 = .string t ∧ σ 5 = .bool ng ∧ σ 6 = .int .u64 (limN ng) ∧ σ 7 = .int .u64 (valD 0 ((bs t).take k)) ∧ σ 36 = .int .i64 t.size ∧ σ 37 = .int .i64 k) (fun σ _ => t.size - (intOf (σ 37)).toNat) ?_ ?_
  · simp +contextual (maxSteps := 2000000) (disch := first | omega | (simp only [SZ]; first | done | omega) | (simp only [TS] at *; omega)) only [RZ, ovw, oneC, reduceAdd, reduceMul, reduceSub, reduceEqDiff, reduceLT, ↓reduceIte, Int.reduceToNat, reduceLeDiff,  f4, f5, f6]
    exact ⟨0, Nat.zero_le _, Nat.zero_le _, rfl, rfl⟩
  rintro σ w3 ⟨rfl, k, hk, hv, g4, g5, g6, g7, g36, g37⟩ K hK
  have hdig := decOK_all hd
  simp +contextual (maxSteps := 2000000) (disch := first | omega | (simp only [SZ]; first | done | omega) | (simp only [TS] at *; omega)) only [RZ, ovw, oneC, reduceAdd, reduceMul, reduceSub, reduceEqDiff, reduceLT, ↓reduceIte, Int.reduceToNat, reduceLeDiff,  g4, g5, g6, g7, g36, g37]
  (refine W_if rfl (fun hc => ?_) (fun hc => ?_) <;> (try simp only [TS] at hc))
  · have hkl : k < t.size := by omega
    have hb := hdig (bt t k) (List.mem_of_getElem? (bs_get hkl))
    have hst := valD_step (bs_get hkl)
    have htk := valD_take (bs t) (k + 1)
    simp +contextual (maxSteps := 2000000) (disch := first | omega | (simp only [SZ]; first | done | omega) | (simp only [TS] at *; omega)) only [RZ, ovw, oneC, reduceAdd, reduceMul, reduceSub, reduceEqDiff, reduceLT, ↓reduceIte, Int.reduceToNat, reduceLeDiff,  g4, g5, g6, g7, g36, g37]
    (refine W_if rfl (fun hc => ?_) (fun hc => ?_) <;> (try simp only [TS] at hc))
    · rw [hR2 (by omega)]
      simp +contextual (maxSteps := 2000000) (disch := first | omega | (simp only [SZ]; first | done | omega) | (simp only [TS] at *; omega)) only [RZ, ovw, oneC, reduceAdd, reduceMul, reduceSub, reduceEqDiff, reduceLT, ↓reduceIte, Int.reduceToNat, reduceLeDiff,  g4]
    · simp +contextual (maxSteps := 2000000) (disch := first | omega | (simp only [SZ]; first | done | omega) | (simp only [TS] at *; omega)) only [RZ, ovw, oneC, reduceAdd, reduceMul, reduceSub, reduceEqDiff, reduceLT, ↓reduceIte, Int.reduceToNat, reduceLeDiff,  g4, g5, g6, g7, g36, g37]
      refine hK _ _ ⟨rfl, k + 1, by omega, by omega, ?_⟩ ?_
      · simp +contextual (maxSteps := 2000000) (disch := first | omega | (simp only [SZ]; first | done | omega) | (simp only [TS] at *; omega)) only [RZ, ovw, oneC, reduceAdd, reduceMul, reduceSub, reduceEqDiff, reduceLT, ↓reduceIte, Int.reduceToNat, reduceLeDiff,  g4, g5, g6, g7, g36, g37]
        rw [hst]
        congr 1
        omega
      · simp +contextual (maxSteps := 2000000) (disch := first | omega | (simp only [SZ]; first | done | omega) | (simp only [TS] at *; omega)) only [RZ, ovw, oneC, reduceAdd, reduceMul, reduceSub, reduceEqDiff, reduceLT, ↓reduceIte, Int.reduceToNat, reduceLeDiff,  intOf, g37]
        omega
  · have hkl : k = t.size := by omega
    subst hkl
    rw [List.take_of_length_le (by rw [bs_len]; omega)] at hv g7
    rw [hR3 (by omega)]
    simp +contextual (maxSteps := 2000000) (disch := first | omega | (simp only [SZ]; first | done | omega) | (simp only [TS] at *; omega)) only [RZ, ovw, oneC, reduceAdd, reduceMul, reduceSub, reduceEqDiff, reduceLT, ↓reduceIte, Int.reduceToNat, reduceLeDiff,  g4, g5, g6, g7, g36, g37]
    cases ng
    · refine W_if_t rfl ?_
      rcases hl with hl | ⟨_, hl⟩
      · simp +contextual (maxSteps := 2000000) (disch := first | omega | (simp only [SZ]; first | done | omega) | (simp only [TS] at *; omega)) only [RZ, ovw, oneC, reduceAdd, reduceMul, reduceSub, reduceEqDiff, reduceLT, ↓reduceIte, Int.reduceToNat, reduceLeDiff,  g4, g5, g6, g7, g36, g37]
      · cases hl
    · refine W_if_f rfl ?_
      have hp := decOK_pos hd (by rw [ne_eq, h48]; have := hgood.2; simpa using this)
      have hl2 : limN true = 9223372036854775808 := rfl
      simp +contextual (maxSteps := 2000000) (disch := first | omega | (simp only [SZ]; first | done | omega) | (simp only [TS] at *; omega)) only [RZ, ovw, oneC, reduceAdd, reduceMul, reduceSub, reduceEqDiff, reduceLT, ↓reduceIte, Int.reduceToNat, reduceLeDiff,  g4, g5, g6, g7, g36, g37]
      rw [show -((valD 0 (bs t) : Int) - 1) - 1 = -(valD 0 (bs t) : Int) by omega]
end Go.Proofs.YtbdkggnajipdhaaGreatDoor
/- Walks: the printer's methods: isWord, name, option, hits. -/
namespace Go.Proofs.YtbdkggnajipdhaaGreatDoor
open Nat (reduceAdd reduceMul reduceSub reduceEqDiff reduceLT reduceLeDiff)
open Go.RowKit
set_option maxRecDepth 100000
theorem wordL_cons (c : Nat) (r : List Nat) : wordL (c :: r) = (letterB c && (c :: r).all wordB) := rfl
set_option maxHeartbeats 2000000 in
theorem isWord_any (s : ByteArray) (w : World) (hs : s.size ≤ 9223372036854775807) : Calls Tryz.prog 72 #[.string s] w fun e w' => e = .returned (.bool (wordL (bs s))) ∧ w = w' := by
  refine calls_W (l := [_]) Tryz.func72 rfl _ Tryz.ntmps72 (by simp) ?_
  generalize hwr : wordL (bs s) = rr
  by_cases h0 : s = ⟨#[]⟩
  · subst h0
    have hwr : rr = false := by rw [← hwr]; rfl
    subst hwr
    refine W_piece fun K hK hX => ?_
    simp +contextual (maxSteps := 2000000) (disch := first | omega | (simp only [SZ]; first | done | omega) | (simp only [TS] at *; omega)) only [RZ, ovw, oneC, reduceAdd, reduceMul, reduceSub, reduceEqDiff, reduceLT, ↓reduceIte, Int.reduceToNat, reduceLeDiff]
    refine hK _ _ ?_
    clear hK hX K
    rw [W_seq]
    simp +contextual (maxSteps := 2000000) (disch := first | omega | (simp only [SZ]; first | done | omega) | (simp only [TS] at *; omega)) only [RZ, ovw, oneC, reduceAdd, reduceMul, reduceSub, reduceEqDiff, reduceLT, ↓reduceIte, Int.reduceToNat, reduceLeDiff]
    refine W_if_t rfl ?_
    simp +contextual (maxSteps := 2000000) (disch := first | omega | (simp only [SZ]; first | done | omega) | (simp only [TS] at *; omega)) only [RZ, ovw, oneC, reduceAdd, reduceMul, reduceSub, reduceEqDiff, reduceLT, ↓reduceIte, Int.reduceToNat, reduceLeDiff]
  have hsz : 0 < s.size := sz_pos h0
  have e0 : (s = ⟨#[]⟩) = False := eq_false h0
  have hb0 := bs_get hsz
  obtain ⟨r, hr⟩ : ∃ r, bs s = bt s 0 :: r := by
    cases hl : bs s with
    | nil => rw [hl] at hb0; cases hb0
    | cons c r => rw [hl] at hb0; simp only [List.getElem?_cons_zero, Option.some.injEq] at hb0; exact ⟨r, by rw [hb0]⟩
  have hwl : wordL (bs s) = (letterB (bt s 0) && (bs s).all wordB) := by rw [hr, wordL_cons]
  refine W_piece fun K hK hX => ?_
  simp +contextual (maxSteps := 2000000) (disch := first | omega | (simp only [SZ]; first | done | omega) | (simp only [TS] at *; omega)) only [RZ, ovw, oneC, reduceAdd, reduceMul, reduceSub, reduceEqDiff, reduceLT, ↓reduceIte, Int.reduceToNat, reduceLeDiff]
  refine hK _ _ ?_
  clear hK hX K
  refine W_piece fun K hK hX => ?_
  refine W_piece fun K2 hK2 hX2 => ?_
  simp +contextual (maxSteps := 2000000) (disch := first | omega | (simp only [SZ]; first | done | omega) | (simp only [TS] at *; omega)) only [RZ, ovw, oneC, reduceAdd, reduceMul, reduceSub, reduceEqDiff, reduceLT, ↓reduceIte, Int.reduceToNat, reduceLeDiff,  e0]
  refine hK2 _ _ ?_
  clear hK2 hX2 K2
  have hL : (decide ((bt s 0 : Int) < 97) || decide (122 < (bt s 0 : Int))) = !letterB (bt s 0) := by
    rw [Bool.eq_iff_iff]
    unfold letterB
    simp only [Bool.or_eq_true, decide_eq_true_eq, Bool.not_eq_true', Bool.and_eq_false_iff, decide_eq_false_iff_not]
    omega
  rw [hL]
  cases hle : letterB (bt s 0) with
  | false =>
    rw [hle, Bool.false_and, hwr] at hwl
    subst hwl
    refine W_if_t rfl ?_
    refine W_piece fun K2 hK2 hX2 => ?_
    simp +contextual (maxSteps := 2000000) (disch := first | omega | (simp only [SZ]; first | done | omega) | (simp only [TS] at *; omega)) only [RZ, ovw, oneC, reduceAdd, reduceMul, reduceSub, reduceEqDiff, reduceLT, ↓reduceIte, Int.reduceToNat, reduceLeDiff]
    refine hK2 _ _ ?_
    rw [W_ret]
    refine hX _ _ _ (fun h => by cases h) ?_
    simp +contextual (maxSteps := 2000000) (disch := first | omega | (simp only [SZ]; first | done | omega) | (simp only [TS] at *; omega)) only [RZ, ovw, oneC, reduceAdd, reduceMul, reduceSub, reduceEqDiff, reduceLT, ↓reduceIte, Int.reduceToNat, reduceLeDiff]
  | true =>
    rw [hle, Bool.true_and, hwr] at hwl
    refine W_if_f rfl ?_
    rw [W_skip]
    refine hK _ _ ?_
    clear hK hX K
    refine W_cutS (fun σ w' => w' = w ∧ (bs s).all wordB = true) ?_ ?_
    · rintro σ w' ⟨rfl, hall⟩
      rw [hall] at hwl
      subst hwl
      simp +contextual (maxSteps := 2000000) (disch := first | omega | (simp only [SZ]; first | done | omega) | (simp only [TS] at *; omega)) only [RZ, ovw, oneC, reduceAdd, reduceMul, reduceSub, reduceEqDiff, reduceLT, ↓reduceIte, Int.reduceToNat, reduceLeDiff]
    refine W_piece fun K hK hX => ?_
    simp +contextual (maxSteps := 2000000) (disch := first | omega | (simp only [SZ]; first | done | omega) | (simp only [TS] at *; omega)) only [RZ, ovw, oneC, reduceAdd, reduceMul, reduceSub, reduceEqDiff, reduceLT, ↓reduceIte, Int.reduceToNat, reduceLeDiff]
    refine hK _ _ ?_
    clear hK hX K
    rw [W_block, W_loop]
    refine Raw_loop (fun σ w' => w' = w ∧ ∃ k : Nat, k ≤ s.size ∧ (∀ j, j < k → wordB (bt s j) = true) ∧ σ 0 = .string s ∧ σ 18 = .int .i64 s.size ∧ σ 19 = .int .i64 k) (fun σ _ => s.size - (intOf (σ 19)).toNat) ?_ ?_
    · exact ⟨rfl, 0, Nat.zero_le _, fun j hj => absurd hj (Nat.not_lt_zero _), rfl, rfl, rfl⟩
    rintro σ w' ⟨rfl, k, hk, hal, f0, f18, f19⟩ K hK
    simp +contextual (maxSteps := 2000000) (disch := first | omega | (simp only [SZ]; first | done | omega) | (simp only [TS] at *; omega)) only [RZ, ovw, oneC, reduceAdd, reduceMul, reduceSub, reduceEqDiff, reduceLT, ↓reduceIte, Int.reduceToNat, reduceLeDiff,  f0, f18, f19]
    (refine W_if rfl (fun hc => ?_) (fun hc => ?_) <;> (try simp only [TS] at hc))
    · have hkl : k < s.size := by omega
      have hW : (((decide ((bt s k : Int) < 97) || decide (122 < (bt s k : Int))) && (decide ((bt s k : Int) < 48) || decide (57 < (bt s k : Int)))) && !decide ((bt s k : Int) = 45)) = !wordB (bt s k) := by
        rw [Bool.eq_iff_iff]
        unfold wordB letterB digitB
        simp only [Bool.or_eq_true, Bool.and_eq_true, decide_eq_true_eq, Bool.not_eq_true', Bool.or_eq_false_iff, Bool.and_eq_false_iff, decide_eq_false_iff_not, beq_eq_false_iff_ne, Int.toNat_natCast]
        omega
      rw [W_skip, thenX_normal]
      refine W_piece fun K1 hK1 hX1 => ?_
      rw [W_block]
      refine W_piece fun K2 hK2 hX2 => ?_
      simp +contextual (maxSteps := 2000000) (disch := first | omega | (simp only [SZ]; first | done | omega) | (simp only [TS] at *; omega)) only [RZ, ovw, oneC, reduceAdd, reduceMul, reduceSub, reduceEqDiff, reduceLT, ↓reduceIte, Int.reduceToNat, reduceLeDiff,  f0, f18, f19]
      refine hK2 _ _ ?_
      clear hK2 hX2 K2
      refine W_piece fun K2 hK2 hX2 => ?_
      simp +contextual (maxSteps := 2000000) (disch := first | omega | (simp only [SZ]; first | done | omega) | (simp only [TS] at *; omega)) only [RZ, ovw, oneC, reduceAdd, reduceMul, reduceSub, reduceEqDiff, reduceLT, ↓reduceIte, Int.reduceToNat, reduceLeDiff,  f0, f18, f19, Int.toNat_natCast]
      refine hK2 _ _ ?_
      clear hK2 hX2 K2
      refine W_piece fun K2 hK2 hX2 => ?_
      simp +contextual (maxSteps := 2000000) (disch := first | omega | (simp only [SZ]; first | done | omega) | (simp only [TS] at *; omega)) only [RZ, ovw, oneC, reduceAdd, reduceMul, reduceSub, reduceEqDiff, reduceLT, ↓reduceIte, Int.reduceToNat, reduceLeDiff,  f0, f18, f19]
      refine hK2 _ _ ?_
      clear hK2 hX2 K2
      rw [hW]
      cases hwk : wordB (bt s k) with
      | false =>
        refine W_if_t rfl ?_
        refine W_piece fun K2 hK2 hX2 => ?_
        simp +contextual (maxSteps := 2000000) (disch := first | omega | (simp only [SZ]; first | done | omega) | (simp only [TS] at *; omega)) only [RZ, ovw, oneC, reduceAdd, reduceMul, reduceSub, reduceEqDiff, reduceLT, ↓reduceIte, Int.reduceToNat, reduceLeDiff]
        refine hK2 _ _ ?_
        rw [W_ret]
        clear hK2 hX2
        rw [inX_ret]
        refine hX1 _ _ _ (fun h => by cases h) ?_
        have hall : (bs s).all wordB = false := by
          rw [Bool.eq_false_iff]
          intro e
          have := List.all_eq_true.1 e _ (List.mem_of_getElem? (bs_get hkl))
          rw [hwk] at this
          cases this
        rw [hall] at hwl
        subst hwl
        simp +contextual (maxSteps := 2000000) (disch := first | omega | (simp only [SZ]; first | done | omega) | (simp only [TS] at *; omega)) only [RZ, ovw, oneC, reduceAdd, reduceMul, reduceSub, reduceEqDiff, reduceLT, ↓reduceIte, Int.reduceToNat, reduceLeDiff]
      | true =>
        refine W_if_f rfl ?_
        rw [W_skip, inX_normal]
        refine hK1 _ _ ?_
        clear hK1 hX1 K1
        simp +contextual (maxSteps := 2000000) (disch := first | omega | (simp only [SZ]; first | done | omega) | (simp only [TS] at *; omega)) only [RZ, ovw, oneC, reduceAdd, reduceMul, reduceSub, reduceEqDiff, reduceLT, ↓reduceIte, Int.reduceToNat, reduceLeDiff,  f0, f18, f19]
        refine hK _ _ ⟨rfl, k + 1, by omega, fun j hj => ?_, ?_⟩ ?_
        · by_cases hjk : j = k
          · rw [hjk]; exact hwk
          · exact hal j (by omega)
        · simp +contextual (maxSteps := 2000000) (disch := first | omega | (simp only [SZ]; first | done | omega) | (simp only [TS] at *; omega)) only [RZ, ovw, oneC, reduceAdd, reduceMul, reduceSub, reduceEqDiff, reduceLT, ↓reduceIte, Int.reduceToNat, reduceLeDiff,  f0, f18, f19]
        · simp +contextual (maxSteps := 2000000) (disch := first | omega | (simp only [SZ]; first | done | omega) | (simp only [TS] at *; omega)) only [RZ, ovw, oneC, reduceAdd, reduceMul, reduceSub, reduceEqDiff, reduceLT, ↓reduceIte, Int.reduceToNat, reduceLeDiff,  intOf, f19]
          omega
    · have hkz : k = s.size := by omega
      subst hkz
      simp +contextual (maxSteps := 2000000) (disch := first | omega | (simp only [SZ]; first | done | omega) | (simp only [TS] at *; omega)) only [RZ, ovw, oneC, reduceAdd, reduceMul, reduceSub, reduceEqDiff, reduceLT, ↓reduceIte, Int.reduceToNat, reduceLeDiff,  f0, f18, f19]
      rw [List.all_eq_true]
      intro c hc
      obtain ⟨j, hj⟩ := List.mem_iff_getElem?.1 hc
      have hjl : j < s.size := by have := (List.getElem?_eq_some_iff.1 hj).1; rwa [bs_len] at this
      rw [bs_get hjl] at hj
      injection hj with hj
      rw [← hj]
      exact hal j hjl
section
variable {g : Nat} {w : World} {p : Pr}
theorem pbName_any (h : PbIn g w p) (s : ByteArray) (hlen : p.X.length + s.size ≤ 800000000) : Calls Tryz.prog 31 #[.pointer (some ⟨g, 0, none⟩), .string s] w fun e w' => e = .returned (.tuple #[]) ∧ PbIn g w' (p.nm s) ∧ KB g w w' := by
  refine calls_W (l := [_, _]) Tryz.func31 rfl _ Tryz.ntmps31 (by simp) ?_
  generalize hr : p.nm s = r
  unfold Pr.nm at hr
  refine W_piece fun K hK hX => ?_
  simp +contextual (maxSteps := 2000000) (disch := first | omega | (simp only [SZ]; first | done | omega) | (simp only [TS] at *; omega)) only [RZ, ovw, oneC, reduceAdd, reduceMul, reduceSub, reduceEqDiff, reduceLT, ↓reduceIte, Int.reduceToNat, reduceLeDiff]
  refine (isWord_any s w (by omega)).mono ?_
  rintro e w1 ⟨rfl, rfl⟩
  refine ⟨_, rfl, ?_⟩
  try simp +contextual (maxSteps := 2000000) (disch := first | omega | (simp only [SZ]; first | done | omega) | (simp only [TS] at *; omega)) only [RZ, ovw, oneC, reduceAdd, reduceMul, reduceSub, reduceEqDiff, reduceLT, ↓reduceIte, Int.reduceToNat, reduceLeDiff]
  refine (pbRequire_any h _).mono ?_
  rintro e w2 ⟨rfl, h2, k2⟩
  refine ⟨_, rfl, ?_⟩
  try simp +contextual (maxSteps := 2000000) (disch := first | omega | (simp only [SZ]; first | done | omega) | (simp only [TS] at *; omega)) only [RZ, ovw, oneC, reduceAdd, reduceMul, reduceSub, reduceEqDiff, reduceLT, ↓reduceIte, Int.reduceToNat, reduceLeDiff]
  refine hK _ _ ?_
  clear hK hX K
  obtain ⟨q, A2, c2, h2i⟩ := id h2
  have d2 := h2i.row.cell (i := 2) rfl
  refine W_piece fun K hK hX => ?_
  simp +contextual (maxSteps := 2000000) (disch := first | omega | (simp only [SZ]; first | done | omega) | (simp only [TS] at *; omega)) only [RZ, ovw, oneC, reduceAdd, reduceMul, reduceSub, reduceEqDiff, reduceLT, ↓reduceIte, Int.reduceToNat, reduceLeDiff,  d2]
  refine hK _ _ ?_
  clear hK hX K
  cases hbd : (p.req (wordL (bs s))).bad with
  | true =>
    rw [if_pos hbd] at hr
    subst hr
    refine W_if_f rfl ?_
    simp +contextual (maxSteps := 2000000) (disch := first | omega | (simp only [SZ]; first | done | omega) | (simp only [TS] at *; omega)) only [RZ, ovw, oneC, reduceAdd, reduceMul, reduceSub, reduceEqDiff, reduceLT, ↓reduceIte, Int.reduceToNat, reduceLeDiff]
    exact ⟨h2, k2⟩
  | false =>
    rw [if_neg (by rw [hbd]; simp)] at hr
    subst hr
    refine W_if_t rfl ?_
    simp +contextual (maxSteps := 2000000) (disch := first | omega | (simp only [SZ]; first | done | omega) | (simp only [TS] at *; omega)) only [RZ, ovw, oneC, reduceAdd, reduceMul, reduceSub, reduceEqDiff, reduceLT, ↓reduceIte, Int.reduceToNat, reduceLeDiff]
    have hl1 := ws_len (p.req (wordL (bs s))) ([s].map bs)
    rw [show (p.req (wordL (bs s))).X.length = p.X.length from rfl] at hl1
    simp only [List.map_cons, List.map_nil, List.flatMap_cons, List.flatMap_nil, List.append_nil, List.length_cons, List.length_nil, bs_len] at hl1
    refine (pbWords_any h2 [s] (by simp) (by simp only [List.map_cons, List.map_nil]; omega)).mono ?_
    rintro e w3 ⟨rfl, h3, k3⟩
    refine ⟨_, rfl, ?_⟩
    try simp +contextual (maxSteps := 2000000) (disch := first | omega | (simp only [SZ]; first | done | omega) | (simp only [TS] at *; omega)) only [RZ, ovw, oneC, reduceAdd, reduceMul, reduceSub, reduceEqDiff, reduceLT, ↓reduceIte, Int.reduceToNat, reduceLeDiff]
    exact ⟨h3, k2.trans k3⟩
/-- One number of a literal list. -/
theorem pbNums_any (h : PbIn g w p) (L : List Int) (hW : Laid w) (hg : 9 ≤ g) (hl : L.length ≤ 1000) (hlen : p.X.length ≤ 700000000) :
    Calls Tryz.prog 75 #[.pointer (some ⟨g, 0, none⟩), .slice (some ⟨w.heap.size, 0, none⟩) L.length L.length] (w.alloc (.cells (iW L).toArray 3)) fun e w' => e = .returned (.tuple #[]) ∧ PbIn g w' (p.nums L) ∧ KB g w w' := by
  have hlt := h.lt
  have hR := Row.new w 3 (iW L)
  have e1 : ∀ L : List Int, (L.map fun n => [Value.int .i64 n]).flatten = iW L := fun L => by
    induction L with
    | nil => rfl
    | cons s r ih => rw [List.map_cons, List.flatten_cons, ih]; rfl
  refine (pbNumbers_any (L := L) (h.alloc _) (arr_new (by rw [e1 L]; exact hR) (by omega) (by decide) (fun v hv => by obtain ⟨s, _, rfl⟩ := List.mem_map.1 hv; rfl)) (hW.below (below_alloc w _) hW.size) hg (by omega) hlen).mono ?_
  rintro e w' ⟨h1, h2, h3⟩
  exact ⟨h1, h2, ((KB.refl g w).alloc (by omega) _).trans h3⟩
theorem pbOption_any (h : PbIn g w p) (s : ByteArray) (n std : Int) (hW : Laid w) (hg : 9 ≤ g) (hs : s.size ≤ 100) (hlen : p.X.length ≤ 600000000) : Calls Tryz.prog 34 #[.pointer (some ⟨g, 0, none⟩), .string s, .int .i64 n, .int .i64 std] w fun e w' =>
    e = .returned (.tuple #[]) ∧ PbIn g w' (p.opt (bs s) n std) ∧ KB g w w' := by
  refine calls_W (l := [_, _, _, _]) Tryz.func34 rfl _ Tryz.ntmps34 (by simp) ?_
  generalize hr : p.opt (bs s) n std = r
  unfold Pr.opt at hr
  refine W_piece fun K hK hX => ?_
  simp +contextual (maxSteps := 2000000) (disch := first | omega | (simp only [SZ]; first | done | omega) | (simp only [TS] at *; omega)) only [RZ, ovw, oneC, reduceAdd, reduceMul, reduceSub, reduceEqDiff, reduceLT, ↓reduceIte, Int.reduceToNat, reduceLeDiff]
  refine hK _ _ ?_
  clear hK hX K
  by_cases hns : n = std
  · rw [if_pos hns] at hr
    subst hr
    have e1 : decide (n = std) = true := by simpa using hns
    rw [e1]
    refine W_if_f rfl ?_
    simp +contextual (maxSteps := 2000000) (disch := first | omega | (simp only [SZ]; first | done | omega) | (simp only [TS] at *; omega)) only [RZ, ovw, oneC, reduceAdd, reduceMul, reduceSub, reduceEqDiff, reduceLT, ↓reduceIte, Int.reduceToNat, reduceLeDiff]
    exact ⟨h, KB.refl _ _⟩
  · rw [if_neg hns] at hr
    subst hr
    have e1 : decide (n = std) = false := by simpa using hns
    rw [e1]
    refine W_if_t rfl ?_
    refine W_piece fun K hK hX => ?_
    simp +contextual (maxSteps := 2000000) (disch := first | omega | (simp only [SZ]; first | done | omega) | (simp only [TS] at *; omega)) only [RZ, ovw, oneC, reduceAdd, reduceMul, reduceSub, reduceEqDiff, reduceLT, ↓reduceIte, Int.reduceToNat, reduceLeDiff]
    refine (pbBegin_any h s (by omega)).mono ?_
    rintro e w1 ⟨rfl, h1, k1⟩
    refine ⟨_, rfl, ?_⟩
    try simp +contextual (maxSteps := 2000000) (disch := first | omega | (simp only [SZ]; first | done | omega) | (simp only [TS] at *; omega)) only [RZ, ovw, oneC, reduceAdd, reduceMul, reduceSub, reduceEqDiff, reduceLT, ↓reduceIte, Int.reduceToNat, reduceLeDiff]
    refine hK _ _ ?_
    clear hK hX K
    have b1 : (p.begin (bs s)).X.length = p.X.length + (2 + s.size) := by
      unfold Pr.begin
      rw [ws_len, add_len]
      simp [bs_len]; omega
    have hW1 := hW.kb k1 hg
    refine W_piece fun K hK hX => ?_
    simp +contextual (maxSteps := 2000000) (disch := first | omega | (simp only [SZ]; first | done | omega) | (simp only [TS] at *; omega)) only [RZ, ovw, oneC, reduceAdd, reduceMul, reduceSub, reduceEqDiff, reduceLT, ↓reduceIte, Int.reduceToNat, reduceLeDiff]
    refine (pbNums_any h1 [n] hW1 hg (by simp) (by omega)).mono ?_
    rintro e w2 ⟨rfl, h2, k2⟩
    refine ⟨_, rfl, ?_⟩
    try simp +contextual (maxSteps := 2000000) (disch := first | omega | (simp only [SZ]; first | done | omega) | (simp only [TS] at *; omega)) only [RZ, ovw, oneC, reduceAdd, reduceMul, reduceSub, reduceEqDiff, reduceLT, ↓reduceIte, Int.reduceToNat, reduceLeDiff]
    refine hK _ _ ?_
    clear hK hX K
    have b2 := nums_max [n] (p.begin (bs s))
    simp +contextual (maxSteps := 2000000) (disch := first | omega | (simp only [SZ]; first | done | omega) | (simp only [TS] at *; omega)) only [RZ, ovw, oneC, reduceAdd, reduceMul, reduceSub, reduceEqDiff, reduceLT, ↓reduceIte, Int.reduceToNat, reduceLeDiff]
    refine (pbEnd_any h2 (by omega)).mono ?_
    rintro e w3 ⟨rfl, h3, k3⟩
    refine ⟨_, rfl, ?_⟩
    try simp +contextual (maxSteps := 2000000) (disch := first | omega | (simp only [SZ]; first | done | omega) | (simp only [TS] at *; omega)) only [RZ, ovw, oneC, reduceAdd, reduceMul, reduceSub, reduceEqDiff, reduceLT, ↓reduceIte, Int.reduceToNat, reduceLeDiff]
    exact ⟨h3, (k1.trans k2).trans k3⟩
theorem pbHits_any (h : PbIn g w p) (s : ByteArray) (n : Int) (hW : Laid w) (hg : 9 ≤ g) (hs : s.size ≤ 100) (hlen : p.X.length ≤ 600000000) : Calls Tryz.prog 77 #[.pointer (some ⟨g, 0, none⟩), .string s, .int .i64 n] w fun e w' =>
    e = .returned (.tuple #[]) ∧ PbIn g w' (p.hits (bs s) n) ∧ KB g w w' := by
  refine calls_W (l := [_, _, _]) Tryz.func77 rfl _ Tryz.ntmps77 (by simp) ?_
  generalize hr : p.hits (bs s) n = r
  unfold Pr.hits at hr
  refine W_piece fun K hK hX => ?_
  simp +contextual (maxSteps := 2000000) (disch := first | omega | (simp only [SZ]; first | done | omega) | (simp only [TS] at *; omega)) only [RZ, ovw, oneC, reduceAdd, reduceMul, reduceSub, reduceEqDiff, reduceLT, ↓reduceIte, Int.reduceToNat, reduceLeDiff]
  refine hK _ _ ?_
  clear hK hX K
  by_cases hns : n = 0
  · rw [if_pos hns] at hr
    subst hr
    have e1 : decide (n = 0) = true := by simpa using hns
    rw [e1]
    refine W_if_f rfl ?_
    simp +contextual (maxSteps := 2000000) (disch := first | omega | (simp only [SZ]; first | done | omega) | (simp only [TS] at *; omega)) only [RZ, ovw, oneC, reduceAdd, reduceMul, reduceSub, reduceEqDiff, reduceLT, ↓reduceIte, Int.reduceToNat, reduceLeDiff]
    exact ⟨h, KB.refl _ _⟩
  · rw [if_neg hns] at hr
    subst hr
    have e1 : decide (n = 0) = false := by simpa using hns
    rw [e1]
    refine W_if_t rfl ?_
    have hl1 := ws_len p ([s].map bs)
    simp only [List.map_cons, List.map_nil, List.flatMap_cons, List.flatMap_nil, List.append_nil, List.length_cons, List.length_nil, bs_len] at hl1
    refine W_piece fun K hK hX => ?_
    simp +contextual (maxSteps := 2000000) (disch := first | omega | (simp only [SZ]; first | done | omega) | (simp only [TS] at *; omega)) only [RZ, ovw, oneC, reduceAdd, reduceMul, reduceSub, reduceEqDiff, reduceLT, ↓reduceIte, Int.reduceToNat, reduceLeDiff]
    refine (pbWords_any h [s] (by simp) (by simp only [List.map_cons, List.map_nil]; omega)).mono ?_
    rintro e w1 ⟨rfl, h1, k1⟩
    refine ⟨_, rfl, ?_⟩
    try simp +contextual (maxSteps := 2000000) (disch := first | omega | (simp only [SZ]; first | done | omega) | (simp only [TS] at *; omega)) only [RZ, ovw, oneC, reduceAdd, reduceMul, reduceSub, reduceEqDiff, reduceLT, ↓reduceIte, Int.reduceToNat, reduceLeDiff]
    refine hK _ _ ?_
    clear hK hX K
    have hW1 := hW.kb k1 hg
    simp +contextual (maxSteps := 2000000) (disch := first | omega | (simp only [SZ]; first | done | omega) | (simp only [TS] at *; omega)) only [RZ, ovw, oneC, reduceAdd, reduceMul, reduceSub, reduceEqDiff, reduceLT, ↓reduceIte, Int.reduceToNat, reduceLeDiff]
    refine (pbNums_any h1 [n] hW1 hg (by simp) (by simp only [List.map_cons, List.map_nil]; omega)).mono ?_
    rintro e w2 ⟨rfl, h2, k2⟩
    refine ⟨_, rfl, ?_⟩
    try simp +contextual (maxSteps := 2000000) (disch := first | omega | (simp only [SZ]; first | done | omega) | (simp only [TS] at *; omega)) only [RZ, ovw, oneC, reduceAdd, reduceMul, reduceSub, reduceEqDiff, reduceLT, ↓reduceIte, Int.reduceToNat, reduceLeDiff]
    exact ⟨h2, k1.trans k2⟩
end
end Go.Proofs.YtbdkggnajipdhaaGreatDoor
