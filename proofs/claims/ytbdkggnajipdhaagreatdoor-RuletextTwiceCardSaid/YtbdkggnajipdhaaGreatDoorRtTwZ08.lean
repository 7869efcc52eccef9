/- Texts laid one behind the other: PaC, PaD, Ord4, PaE, PbD. Each says at its head what it proves. -/
import Derived.Test.YtbdkggnajipdhaaGreatDoorRtTwZ07
set_option linter.unusedSimpArgs false
/- Walks: the reader of a game's tokens: numbers, once, weekday. -/
namespace Go.Proofs.YtbdkggnajipdhaaGreatDoor
open Nat (reduceAdd reduceMul reduceSub reduceEqDiff reduceLT reduceLeDiff)
open Go.RowKit
set_option maxRecDepth 100000
def slcLen : Value → Nat
  | .slice _ n _ => n
  | _ => 0
theorem isAgg_int {P : Program} {e : TypeId} {k : IntKind} {w : World} (he : P.underlying e = some (.int k)) : (isAgg e).run P w = .ok false w := by
  unfold isAgg
  rw [Sem.run_bind, run_underlying he w]
  simp
theorem tkKind (t : Tk) (w : World) : vField Tryz.prog 62 (.agg #[.int .i64 t.kind, .int .i64 t.line, .int .i64 t.col, .string t.text]) 0 w = .ok (.value (.int .i64 t.kind)) w := by
  simp [vField, Instr.field, Sem.run_bind, run_underlying Tryz.underlying62 w, part, isAgg_int Tryz.underlying3, asAgg]
section
variable {g c a : Nat} {A : Option Addr} {T : List Tk} {w : World} {rest : List Value}
theorem numT_next (hT : TokOk T) (ha : a < T.length) : numT (T.drop a) = if (hdT (T.drop a)).kind = 2 then some ((numE (bs (hdT (T.drop a)).text)).1, T.drop (a + 1)) else none := by
  have hat := List.getElem?_eq_getElem ha
  have ht := hdT_drop hat
  unfold numT
  by_cases hk : (hdT (T.drop a)).kind = 2
  · have hn := hT.num _ (tok_mem ha) hk
    rw [if_pos ⟨hk, hn.1⟩, if_pos hk, nxT_drop (hT.last a _ hat (by rw [← ht]; omega))]
  · rw [if_neg (fun h => hk h.1), if_neg hk]
theorem paNumbers_any (h : PkIn w g A c T a rest) (hT : TokOk T) : Calls Tryz.prog 134 #[.pointer (some ⟨g, 0, none⟩)] w fun e w' => Kept [g] w w' ∧ ∃ (A1 : Option Addr) (c1 a' : Nat),
    e = .returned (.slice A1 (numsT (T.drop a).length (T.drop a)).1.length c1) ∧ (numsT (T.drop a).length (T.drop a)).2 = T.drop a' ∧ PkIn w' g A c T a' rest ∧
    w'.ownsRow w.heap.size 3 1 (.slice A1 (numsT (T.drop a).length (T.drop a)).1.length c1) (numsT (T.drop a).length (T.drop a)).1.length (iW (numsT (T.drop a).length (T.drop a)).1) := by
  refine calls_WX (l := [_]) Tryz.func134 rfl _ Tryz.ntmps134 (by simp) ?_
  generalize hr : numsT (T.drop a).length (T.drop a) = r
  rw [List.length_drop] at hr
  have hlt := h.lt
  have hbig := hT.big
  have hI : sliceI Tryz.prog 43 = some (3, 1, 8) := by kernel_rfl
  simp +contextual (maxSteps := 2000000) (disch := first | omega | (simp only [SZ]; first | done | omega) | (simp only [TS] at *; omega)) only [PZ, RZ, ovw, oneC, reduceAdd, reduceMul, reduceSub, reduceEqDiff, reduceLT, ↓reduceIte, Int.reduceToNat, reduceLeDiff]
  refine RawD_loop (fun σ w1 => ∃ (Z : List Int) (A1 : Option Addr) (c1 a1 : Nat), a1 = a + Z.length ∧ PkIn w1 g A c T a1 rest ∧ Kept [g] w w1 ∧ w1.ownsRow w.heap.size 3 1 (.slice A1 Z.length c1) Z.length (iW Z) ∧
    (Z ++ (numsT (T.length - a1) (T.drop a1)).1, (numsT (T.length - a1) (T.drop a1)).2) = r ∧ σ 0 = .pointer (some ⟨g, 0, none⟩) ∧ σ 3 = .slice A1 Z.length c1) (fun σ _ => T.length - slcLen (σ 3)) ?_ ?_
  · simp +contextual (maxSteps := 2000000) (disch := first | omega | (simp only [SZ]; first | done | omega) | (simp only [TS] at *; omega)) only [RZ, ovw, oneC, reduceAdd, reduceMul, reduceSub, reduceEqDiff, reduceLT, ↓reduceIte, Int.reduceToNat, reduceLeDiff]
    exact ⟨[], none, 0, a, rfl, h, Kept.refl _ _, owns_nil _ _ _ _, by rw [List.nil_append]; exact hr, rfl⟩
  rintro σ w1 ⟨Z, A1, c1, a1, ha1, h1, k1, ho1, hr1, f0, f3⟩ K hK
  have hlt1 := h1.lt
  have hgl := h1.row.lt
  simp +contextual (maxSteps := 2000000) (disch := first | omega | (simp only [SZ]; first | done | omega) | (simp only [TS] at *; omega)) only [PZ, RZ, ovw, oneC, reduceAdd, reduceMul, reduceSub, reduceEqDiff, reduceLT, ↓reduceIte, Int.reduceToNat, reduceLeDiff,  f0, f3]
  refine (paPeek_any h1 hT).mono ?_
  rintro e w2 ⟨rfl, hB2⟩
  have h2 := h1.below hB2
  have k2 := k1.trans (Kept.of_below hB2)
  have ho2 := owns_below ho1 hB2
  have hnt := numT_next hT hlt1
  have hany : anyT (T.drop a1) = if (hdT (T.drop a1)).kind = 2 then .ok ((numE (bs (hdT (T.drop a1)).text)).1, T.drop (a1 + 1)) else .error (1, T.drop a1) := by
    unfold anyT; rw [hnt]; split <;> rfl
  have hnm := hT.num _ (tok_mem hlt1)
  have hfu : T.length - a1 = (T.length - (a1 + 1)) + 1 := by omega
  rw [hfu] at hr1
  unfold numsT at hr1
  rw [hnt] at hr1
  generalize htd : hdT (T.drop a1) = t at *
  rw [show (encTk t).toArray = #[.int .i64 t.kind, .int .i64 t.line, .int .i64 t.col, .string t.text] from rfl]
  by_cases hk : t.kind = 2
  · have e1 : (t.kind = 2) = True := eq_true hk
    rw [if_pos hk] at hany hr1
    dsimp only at hr1
    have hv := hnm hk
    generalize (numE (bs t.text)).1 = x at *
    simp +contextual (maxSteps := 2000000) (disch := first | omega | (simp only [SZ]; first | done | omega) | (simp only [TS] at *; omega)) only [PZ, RZ, ovw, oneC, reduceAdd, reduceMul, reduceSub, reduceEqDiff, reduceLT, ↓reduceIte, Int.reduceToNat, reduceLeDiff,  f0, f3, tkKind, e1]
    refine WX_if_t rfl ?_
    simp +contextual (maxSteps := 2000000) (disch := first | omega | (simp only [SZ]; first | done | omega) | (simp only [TS] at *; omega)) only [PZ, RZ, ovw, oneC, reduceAdd, reduceMul, reduceSub, reduceEqDiff, reduceLT, ↓reduceIte, Int.reduceToNat, reduceLeDiff,  f0, f3]
    refine Res.use (paAny_any h2 hT) (fun y a3 w3 e3 k3 h3 => ?_) (fun e L w3 e3 k3 => ?_); rotate_left
    · rw [hany] at e3; cases e3
    rw [hany] at e3
    injection e3 with e3
    injection e3 with e3 e4
    subst e3
    have ho3 : w3.ownsRow w.heap.size 3 1 (.slice A1 Z.length c1) Z.length (iW Z) := owns_keep ho2 fun b hb => k3.block b (owns_ge ho2 hb).2 (by have := (owns_ge ho2 hb).1; have := h.row.lt; simp; omega)
    have h3' : PkIn w3 g A c T (a1 + 1) rest := by
      have hl := congrArg List.length e4
      rw [List.length_drop, List.length_drop] at hl
      have := h3.lt
      have : a3 = a1 + 1 := by omega
      subst this; exact h3
    have k23 := k2.trans k3
    obtain ⟨A', c', w5, he, ho5, hb5, hs5⟩ := push1 (P := Tryz.prog) (T := 43) (ty := 43) (news := [.int .i64 x]) ho3 k23.size hI rfl (fun u hu => by simp at hu; subst hu; rfl) (by omega) (by decide)
    try simp +contextual (maxSteps := 2000000) (disch := first | omega | (simp only [SZ]; first | done | omega) | (simp only [TS] at *; omega)) only [PZ, RZ, ovw, oneC, reduceAdd, reduceMul, reduceSub, reduceEqDiff, reduceLT, ↓reduceIte, Int.reduceToNat, reduceLeDiff,  f0, f3, he]
    have k5 : Kept [g] w w5 := ⟨hb5.os.trans k23.os, hb5.tape.trans k23.tape, hb5.output.trans k23.output, Nat.le_trans k23.size hb5.size, fun k hk hx => (hb5.block k hk).trans (k23.block k hk hx)⟩
    have h5 : PkIn w5 g A c T (a1 + 1) rest := by
      have hgl0 := h.row.lt
      refine ⟨h3'.lt, ?_, h.off, h3'.row.of_block (hb5.block g hgl0)⟩
      exact h.arr.kept k5 (fun b o hb => by have := h.off b o hb; simpa using this)
    refine hK _ _ ⟨Z ++ [x], A', c', a1 + 1, by rw [List.length_append, ha1]; rfl, h5, k5, ?_, ?_, ?_⟩ ?_
    · rw [List.length_append]
      unfold iW at ho5 ⊢
      rw [List.map_append]
      exact ho5
    · rw [List.append_assoc]; exact hr1
    · simp +contextual (maxSteps := 2000000) (disch := first | omega | (simp only [SZ]; first | done | omega) | (simp only [TS] at *; omega)) only [RZ, ovw, oneC, reduceAdd, reduceMul, reduceSub, reduceEqDiff, reduceLT, ↓reduceIte, Int.reduceToNat, reduceLeDiff,  f0, f3, List.length_append]
    · simp +contextual (maxSteps := 2000000) (disch := first | omega | (simp only [SZ]; first | done | omega) | (simp only [TS] at *; omega)) only [RZ, ovw, oneC, reduceAdd, reduceMul, reduceSub, reduceEqDiff, reduceLT, ↓reduceIte, Int.reduceToNat, reduceLeDiff,  slcLen, f3]
      omega
  · have e1 : (t.kind = 2) = False := eq_false hk
    rw [if_neg hk] at hr1
    dsimp only at hr1
    rw [List.append_nil] at hr1
    subst hr1
    simp +contextual (maxSteps := 2000000) (disch := first | omega | (simp only [SZ]; first | done | omega) | (simp only [TS] at *; omega)) only [PZ, RZ, ovw, oneC, reduceAdd, reduceMul, reduceSub, reduceEqDiff, reduceLT, ↓reduceIte, Int.reduceToNat, reduceLeDiff,  f0, f3, tkKind, e1]
    refine WX_if_f rfl ?_
    simp +contextual (maxSteps := 2000000) (disch := first | omega | (simp only [SZ]; first | done | omega) | (simp only [TS] at *; omega)) only [PZ, RZ, ovw, oneC, reduceAdd, reduceMul, reduceSub, reduceEqDiff, reduceLT, ↓reduceIte, Int.reduceToNat, reduceLeDiff,  f0, f3]
    exact ⟨k2, A1, c1, a1, rfl, rfl, h2, ho2⟩
theorem paOnce_any {gs : Nat} {seen : List (List Nat)} (h : PkIn w g A c T a (.map (some gs) :: rest)) (hT : TokOk T) (hS : SeenIn w gs seen) (hgs : gs ≠ g) (hA : ∀ b o, A = some ⟨b, o, none⟩ → b ≠ gs) (t : Tk) (s : ByteArray) :
    Calls Tryz.prog 102 #[.pointer (some ⟨g, 0, none⟩), .string s, .agg (encTk t).toArray] w fun e w' =>
      if bs s ∈ seen then e = .panicked [{ v := failV 6 t.line, recovered := false }] ∧ Kept [gs] w w'
      else e = .returned (.tuple #[]) ∧ PkIn w' g A c T a (.map (some gs) :: rest) ∧ SeenIn w' gs (bs s :: seen) ∧ Kept [gs] w w' := by
  refine calls_WX (l := [_, _, _]) Tryz.func102 rfl _ Tryz.ntmps102 (by simp) ?_
  have hz : mapZ Tryz.prog 53 = some (.bool false) := by kernel_rfl
  rw [show (encTk t).toArray = #[.int .i64 t.kind, .int .i64 t.line, .int .i64 t.col, .string t.text] from rfl]
  have h2 := h.below (below_alloc w (.cells #[Value.int .i64 t.kind, .int .i64 t.line, .int .i64 t.col, .string t.text] 62))
  have k2 := (Kept.refl [gs] w).alloc (.cells #[Value.int .i64 t.kind, .int .i64 t.line, .int .i64 t.col, .string t.text] 62)
  have s2 := hS.kept ((Kept.refl [] w).alloc (.cells #[Value.int .i64 t.kind, .int .i64 t.line, .int .i64 t.col, .string t.text] 62)) (by simp)
  have q2 := Row.new w 62 [Value.int .i64 t.kind, .int .i64 t.line, .int .i64 t.col, .string t.text]
  replace q2 : Row (w.alloc (.cells #[Value.int .i64 t.kind, .int .i64 t.line, .int .i64 t.col, .string t.text] 62)) _ _ _ := q2
  have p2 := h2.row.cell (i := 2) rfl
  have c0 := q2.cell (i := 0) rfl
  have c1 := q2.cell (i := 1) rfl
  have c2 := q2.cell (i := 2) rfl
  have c3 := q2.cell (i := 3) rfl
  simp +contextual (maxSteps := 2000000) (disch := first | omega | (simp only [SZ]; first | done | omega) | (simp only [TS] at *; omega)) only [PZ, RZ, ovw, oneC, reduceAdd, reduceMul, reduceSub, reduceEqDiff, reduceLT, ↓reduceIte, Int.reduceToNat, reduceLeDiff,  p2]
  generalize w.alloc (.cells #[Value.int .i64 t.kind, .int .i64 t.line, .int .i64 t.col, .string t.text] 62) = w2 at *
  obtain ⟨l, clk, hl, hk⟩ := s2
  by_cases hs : bs s ∈ seen
  · have hg := (hk s).1 hs
    simp only [if_pos hs]
    have e1 := vLookup_str0 (P := Tryz.prog) (T := 53) (k := s) hz hl
    rw [hg] at e1
    dsimp only [Option.getD] at e1
    simp +contextual (maxSteps := 2000000) (disch := first | omega | (simp only [SZ]; first | done | omega) | (simp only [TS] at *; omega)) only [PZ, RZ, ovw, oneC, reduceAdd, reduceMul, reduceSub, reduceEqDiff, reduceLT, ↓reduceIte, Int.reduceToNat, reduceLeDiff,  p2, e1]
    refine WX_if_t rfl ?_
    simp +contextual (maxSteps := 2000000) (disch := first | omega | (simp only [SZ]; first | done | omega) | (simp only [TS] at *; omega)) only [PZ, RZ, ovw, oneC, reduceAdd, reduceMul, reduceSub, reduceEqDiff, reduceLT, ↓reduceIte, Int.reduceToNat, reduceLeDiff,  c0, c1, c2, c3]
    refine (paFail_any g 6 t w2).mono ?_
    rintro e w3 ⟨rfl, hB3⟩
    exact ⟨rfl, k2.trans (Kept.of_below hB3)⟩
  · have hg := (hk s).2 hs
    simp only [if_neg hs]
    have e1 := vLookup_str0 (P := Tryz.prog) (T := 53) (k := s) hz hl
    rw [hg] at e1
    dsimp only [Option.getD] at e1
    have e2 := vMapUpdate_new (P := Tryz.prog) (T := 53) (k := s) (v := .bool true) hz hl hg
    simp +contextual (maxSteps := 2000000) (disch := first | omega | (simp only [SZ]; first | done | omega) | (simp only [TS] at *; omega)) only [PZ, RZ, ovw, oneC, reduceAdd, reduceMul, reduceSub, reduceEqDiff, reduceLT, ↓reduceIte, Int.reduceToNat, reduceLeDiff,  p2, e1]
    refine WX_if_f rfl ?_
    simp +contextual (maxSteps := 2000000) (disch := first | omega | (simp only [SZ]; first | done | omega) | (simp only [TS] at *; omega)) only [PZ, RZ, ovw, oneC, reduceAdd, reduceMul, reduceSub, reduceEqDiff, reduceLT, ↓reduceIte, Int.reduceToNat, reduceLeDiff,  p2, e2]
    refine ⟨?_, SeenIn.add hl hk hs, setO_kept k2 (by simp) _⟩
    exact h2.kept (setO_kept (Kept.refl [gs] _) (by simp) _) (by simpa using Ne.symm hgs) (fun b o hb => by simpa using hA b o hb)
end
theorem paWeekday_any (s : ByteArray) (w : World) (hW : Laid w) : Calls Tryz.prog 132 #[.string s] w fun e w' => e = .returned (.int .i64 (match dayI (bs s) with | some i => ((2 ^ i : Nat) : Int) | none => 0)) ∧ w = w' := by
  refine calls_W (l := [_]) Tryz.func132 rfl _ Tryz.ntmps132 (by simp) ?_
  have hl := hW.load
  simp +contextual (maxSteps := 2000000) (disch := first | omega | (simp only [SZ]; first | done | omega) | (simp only [TS] at *; omega)) only [RZ, ovw, oneC, reduceAdd, reduceMul, reduceSub, reduceEqDiff, reduceLT, ↓reduceIte, Int.reduceToNat, reduceLeDiff,  hl]
  refine Raw_loop (fun σ w1 => ∃ k : Nat, k ≤ 7 ∧ (∀ j d, j < k → dayW[j]? = some d → d ≠ bs s) ∧ w = w1 ∧ σ 0 = .string s ∧ σ 5 = .agg dayC.toArray ∧ σ 6 = .int .i64 k) (fun σ _ => 7 - (intOf (σ 6)).toNat) ?_ ?_
  · simp +contextual (maxSteps := 2000000) (disch := first | omega | (simp only [SZ]; first | done | omega) | (simp only [TS] at *; omega)) only [RZ, ovw, oneC, reduceAdd, reduceMul, reduceSub, reduceEqDiff, reduceLT, ↓reduceIte, Int.reduceToNat, reduceLeDiff]
    exact ⟨0, by omega, fun j d hj => absurd hj (Nat.not_lt_zero _), rfl⟩
  rintro σ w1 ⟨k, hk, hn, rfl, f0, f5, f6⟩ K hK
  simp +contextual (maxSteps := 2000000) (disch := first | omega | (simp only [SZ]; first | done | omega) | (simp only [TS] at *; omega)) only [RZ, ovw, oneC, reduceAdd, reduceMul, reduceSub, reduceEqDiff, reduceLT, ↓reduceIte, Int.reduceToNat, reduceLeDiff,  f0, f5, f6]
  (refine W_if rfl (fun hc => ?_) (fun hc => ?_) <;> (try simp only [TS] at hc))
  · obtain ⟨d, hd⟩ : ∃ d, dayW[k]? = some d := ⟨_, List.getElem?_eq_getElem (show k < 7 by omega)⟩
    have hx := day_index hd w
    have hdb : bs (toBA d) = d := by
      have hall : dayW.all (fun d => d.all fun c => decide (c < 256)) = true := by decide +kernel
      have := List.all_eq_true.1 hall d (List.mem_of_getElem? hd)
      exact bs_toBA fun c hc => by have := List.all_eq_true.1 this c hc; simpa using this
    simp +contextual (maxSteps := 2000000) (disch := first | omega | (simp only [SZ]; first | done | omega) | (simp only [TS] at *; omega)) only [RZ, ovw, oneC, reduceAdd, reduceMul, reduceSub, reduceEqDiff, reduceLT, ↓reduceIte, Int.reduceToNat, reduceLeDiff,  f0, f5, f6, hx]
    by_cases he : s = toBA d
    · have e1 : (s = toBA d) = True := eq_true he
      have hs := vBin_shlN (P := Tryz.prog) (T := 3) (x := .const (.int .i64 1)) (y := .tmp 13) (w := w) (k := .i64) (show k < 7 by omega)
      have hI : dayI (bs s) = some k := dayI_at (by rw [he, hdb]; exact hd) (fun j d' hj hd' => hn j d' hj hd')
      rw [hI]
      simp +contextual (maxSteps := 2000000) (disch := first | omega | (simp only [SZ]; first | done | omega) | (simp only [TS] at *; omega)) only [RZ, ovw, oneC, reduceAdd, reduceMul, reduceSub, reduceEqDiff, reduceLT, ↓reduceIte, Int.reduceToNat, reduceLeDiff,  f0, f5, f6, e1]
      refine W_if_t rfl ?_
      simp +contextual (maxSteps := 2000000) (disch := first | omega | (simp only [SZ]; first | done | omega) | (simp only [TS] at *; omega)) only [RZ, ovw, oneC, reduceAdd, reduceMul, reduceSub, reduceEqDiff, reduceLT, ↓reduceIte, Int.reduceToNat, reduceLeDiff,  f0, f5, f6, hs]
    · have e1 : (s = toBA d) = False := eq_false he
      simp +contextual (maxSteps := 2000000) (disch := first | omega | (simp only [SZ]; first | done | omega) | (simp only [TS] at *; omega)) only [RZ, ovw, oneC, reduceAdd, reduceMul, reduceSub, reduceEqDiff, reduceLT, ↓reduceIte, Int.reduceToNat, reduceLeDiff,  f0, f5, f6, e1]
      refine W_if_f rfl ?_
      simp +contextual (maxSteps := 2000000) (disch := first | omega | (simp only [SZ]; first | done | omega) | (simp only [TS] at *; omega)) only [RZ, ovw, oneC, reduceAdd, reduceMul, reduceSub, reduceEqDiff, reduceLT, ↓reduceIte, Int.reduceToNat, reduceLeDiff,  f0, f5, f6]
      refine hK _ _ ⟨k + 1, by omega, fun j d' hj hd' => ?_, rfl, ?_⟩ ?_
      · by_cases hjk : j = k
        · subst hjk
          rw [hd] at hd'
          injection hd' with hd'
          subst hd'
          intro e
          exact he (bs_inj (by rw [hdb]; exact e.symm))
        · exact hn j d' (by omega) hd'
      · simp +contextual (maxSteps := 2000000) (disch := first | omega | (simp only [SZ]; first | done | omega) | (simp only [TS] at *; omega)) only [RZ, ovw, oneC, reduceAdd, reduceMul, reduceSub, reduceEqDiff, reduceLT, ↓reduceIte, Int.reduceToNat, reduceLeDiff,  f0, f5, f6]
      · simp +contextual (maxSteps := 2000000) (disch := first | omega | (simp only [SZ]; first | done | omega) | (simp only [TS] at *; omega)) only [RZ, ovw, oneC, reduceAdd, reduceMul, reduceSub, reduceEqDiff, reduceLT, ↓reduceIte, Int.reduceToNat, reduceLeDiff,  intOf, f6]
        omega
  · have hk7 : k = 7 := by omega
    subst hk7
    have hI : dayI (bs s) = none := dayI_none hn
    rw [hI]
    simp +contextual (maxSteps := 2000000) (disch := first | omega | (simp only [SZ]; first | done | omega) | (simp only [TS] at *; omega)) only [RZ, ovw, oneC, reduceAdd, reduceMul, reduceSub, reduceEqDiff, reduceLT, ↓reduceIte, Int.reduceToNat, reduceLeDiff,  f0, f5, f6]
end Go.Proofs.YtbdkggnajipdhaaGreatDoor
/- Walks: the reader of a game's tokens: days. -/
namespace Go.Proofs.YtbdkggnajipdhaaGreatDoor
open Nat (reduceAdd reduceMul reduceSub reduceEqDiff reduceLT reduceLeDiff)
open Go.RowKit
set_option maxRecDepth 100000
/-- A game's cells. -/
def gmV (G : Gm) (Va Vt : Value) : List Value := [.string G.name, .int .i64 (G.n 0), .int .i64 (G.n 1), .int .i64 (G.n 2), .int .i64 (G.n 3), .int .i64 (G.n 4), .int .i64 (G.n 5), .int .i64 (G.n 6), .int .i64 (G.n 7), .int .i64 (G.n 8), .int .i64 (G.n 9),
  .int .i64 (G.n 10), .int .i64 (G.n 11), .int .i64 (G.n 12), .int .i64 (G.n 13), .int .i64 (G.n 14), .int .i64 (G.n 15), .int .i64 (G.n 16), .int .i64 (G.n 17), .int .i64 (G.n 18), Va, Vt]
theorem gmV_set (G : Gm) (Va Vt : Value) {i : Nat} (hi : i < 19) (v : Int) : (gmV G Va Vt).set (i + 1) (.int .i64 v) = gmV { G with n := putN G.n i v } Va Vt := by
  have : i = 0 ∨ i = 1 ∨ i = 2 ∨ i = 3 ∨ i = 4 ∨ i = 5 ∨ i = 6 ∨ i = 7 ∨ i = 8 ∨ i = 9 ∨ i = 10 ∨ i = 11 ∨ i = 12 ∨ i = 13 ∨ i = 14 ∨ i = 15 ∨ i = 16 ∨ i = 17 ∨ i = 18 := by omega
  rcases this with rfl | rfl | rfl | rfl | rfl | rfl | rfl | rfl | rfl | rfl | rfl | rfl | rfl | rfl | rfl | rfl | rfl | rfl | rfl <;> rfl
theorem gmV_get (G : Gm) (Va Vt : Value) {i : Nat} (hi : i < 19) : (gmV G Va Vt)[i + 1]? = some (.int .i64 (G.n i)) := by
  have : i = 0 ∨ i = 1 ∨ i = 2 ∨ i = 3 ∨ i = 4 ∨ i = 5 ∨ i = 6 ∨ i = 7 ∨ i = 8 ∨ i = 9 ∨ i = 10 ∨ i = 11 ∨ i = 12 ∨ i = 13 ∨ i = 14 ∨ i = 15 ∨ i = 16 ∨ i = 17 ∨ i = 18 := by omega
  rcases this with rfl | rfl | rfl | rfl | rfl | rfl | rfl | rfl | rfl | rfl | rfl | rfl | rfl | rfl | rfl | rfl | rfl | rfl | rfl <;> rfl
/-- A number of the game is set. -/
theorem PkIn.setN {g c a : Nat} {A : Option Addr} {T : List Tk} {w : World} {m : Value} {G : Gm} {Va Vt : Value} (h : PkIn w g A c T a (m :: gmV G Va Vt)) {i : Nat} (hi : i < 19) (v : Int) :
    PkIn (w.setCell ⟨g, i + 4, none⟩ (.int .i64 v)) g A c T a (m :: gmV { G with n := putN G.n i v } Va Vt) := by
  refine h.kept1 ((Kept.refl [g] w).setCell (p := ⟨g, i + 4, none⟩) (by simp) _) h.lt ?_
  have := h.row.set_ (i := i + 4) (by simp [gmV]; omega) (.int .i64 v)
  rw [show i + 4 = i + 1 + 1 + 1 + 1 from rfl, List.set_cons_succ, List.set_cons_succ, List.set_cons_succ, gmV_set G Va Vt hi] at this
  exact this
/-- The same as Res, where the cells behind the first two turn. -/
def ResQ {α : Type} (g : Nat) (A : Option Addr) (c : Nat) (T : List Tk) (rest : α → List Value) (w : World) (r : Except (Int × List Tk) (α × List Tk)) (val : α → Value) (e : Ending) (w' : World) : Prop := Kept [g] w w' ∧ match r with
  | .ok x => e = .returned (val x.1) ∧ ∃ a', x.2 = T.drop a' ∧ PkIn w' g A c T a' (rest x.1)
  | .error x => e = .panicked [{ v := failV x.1 (hdT x.2).line, recovered := false }]
def atOf (w : World) (g : Nat) : Nat := match w.cell? ⟨g, 1, none⟩ with
  | some v => (intOf v).toNat
  | none => 0
section
variable {g c a : Nat} {A : Option Addr} {T : List Tk} {w : World}
theorem ResQ.use {α : Type} {rest : α → List Value} {P : Program} {f : FuncId} {args : Array Value} {r : Except (Int × List Tk) (α × List Tk)} {val : α → Value} {R : Value → World → Prop} {X : List PanicEntry → World → Prop} (hc : Calls P f args w (ResQ g A c T rest w r val))
    (h1 : ∀ x a' w', r = .ok (x, T.drop a') → Kept [g] w w' → PkIn w' g A c T a' (rest x) → R (val x) w')
    (h2 : ∀ e L w', r = .error (e, L) → Kept [g] w w' → X [{ v := failV e (hdT L).line, recovered := false }] w') : Calls P f args w (Ends R X) := by
  refine hc.mono fun e w' h => ?_
  obtain ⟨k, h⟩ := h
  cases hr : r with
  | ok x =>
    rw [hr] at h
    obtain ⟨x, L⟩ := x
    obtain ⟨rfl, a', ha, hp⟩ := h
    dsimp only at ha
    subst ha
    exact h1 x a' w' hr k hp
  | error x =>
    rw [hr] at h
    obtain ⟨e', L⟩ := x
    have h : e = _ := h
    subst h
    exact h2 e' L w' hr k
theorem ResQ.ok {α : Type} {rest : α → List Value} {r : Except (Int × List Tk) (α × List Tk)} {val : α → Value} {w' : World} {x : α} {a' : Nat} (hr : r = .ok (x, T.drop a')) (k : Kept [g] w w') (h : PkIn w' g A c T a' (rest x)) : ResQ g A c T rest w r val (.returned (val x)) w' := by
  subst hr; exact ⟨k, rfl, a', rfl, h⟩
theorem ResQ.err {α : Type} {rest : α → List Value} {r : Except (Int × List Tk) (α × List Tk)} {val : α → Value} {w' : World} {e : Int} {L : List Tk} (hr : r = .error (e, L)) (k : Kept [g] w w') : ResQ g A c T rest w r val (.panicked [{ v := failV e (hdT L).line, recovered := false }]) w' := by
  subst hr; exact ⟨k, rfl⟩
theorem PkIn.atOf {rest : List Value} (h : PkIn w g A c T a rest) : Go.Proofs.YtbdkggnajipdhaaGreatDoor.atOf w g = a := by
  have c1 := h.row.cell (i := 1) rfl
  unfold Go.Proofs.YtbdkggnajipdhaaGreatDoor.atOf
  rw [c1]
  simp [intOf]
theorem takeT_ok {k : Int} {L L' : List Tk} {t : Tk} (h : takeT k L = .ok (t, L')) : (hdT L).kind = k ∧ t = hdT L ∧ L' = nxT L := by
  unfold takeT at h
  split at h
  · rename_i hk; injection h with h; injection h with h1 h2; exact ⟨hk, h1.symm, h2.symm⟩
  · cases h
theorem takeT_err {k e : Int} {L L' : List Tk} (h : takeT k L = .error (e, L')) : ¬ (hdT L).kind = k ∧ e = 1 ∧ L' = L := by
  unfold takeT at h
  split at h
  · cases h
  · rename_i hk; injection h with h; injection h with h1 h2; exact ⟨hk, h1.symm, h2.symm⟩
theorem drop_same {a a' : Nat} (h : T.drop a = T.drop a') (ha' : a' < T.length) (ha : a < T.length) : a' = a := by
  have hl := congrArg List.length h
  rw [List.length_drop, List.length_drop] at hl
  omega
theorem less_bd {rest : List Value} (h : PkIn w g A c T a rest) (hT : TokOk T) {m : Int} {x : Int × List Tk} (hx : lessT m (T.drop a) = some x) : 0 ≤ x.1 ∧ x.1 ≤ m := by
  unfold lessT at hx
  cases hn : numT (T.drop a) with
  | none => rw [hn] at hx; cases hx
  | some y =>
    rw [hn] at hx
    dsimp only at hx
    split at hx
    · rename_i hle
      injection hx with hx
      subst hx
      exact ⟨(num_small h hT hn).1, hle⟩
    · cases hx
set_option maxHeartbeats 1000000 in
theorem paDays_any {gs : Nat} {G : Gm} {Va Vt : Value} (h : PkIn w g A c T a (.map (some gs) :: gmV G Va Vt)) (hT : TokOk T) (h9 : G.n 9 = 0) (hW : Laid w) (hWg : w.heap.size ≤ w.heap.size) (hg : 9 ≤ g) :
    Calls Tryz.prog 104 #[.pointer (some ⟨g, 0, none⟩)] w
      (ResQ g A c T (fun x => .map (some gs) :: gmV { G with n := putN (putN G.n 9 x.1) 10 x.2 } Va Vt) w (dayT (T.drop a)) fun _ => .tuple #[]) := by
  refine calls_WX (l := [_]) Tryz.func104 rfl _ Tryz.ntmps104 (by simp) ?_
  generalize hr : dayT (T.drop a) = r
  unfold dayT at hr
  rw [List.length_drop] at hr
  have hlt := h.lt
  have hbig := hT.big
  have hgl := h.row.lt
  generalize hF : (fun (d : Nat × List Tk) => thenT (lessT 23 d.2) d.2 fun h => thenT (isT 3 (asc ":") h.2) h.2 fun L3 => thenT (lessT 59 L3) L3 fun m => Except.ok (((d.1 : Int), 60 * h.1 + m.1), m.2)) = F at hr
  simp +contextual (maxSteps := 2000000) (disch := first | omega | (simp only [SZ]; first | done | omega) | (simp only [TS] at *; omega)) only [PZ, RZ, ovw, oneC, reduceAdd, reduceMul, reduceSub, reduceEqDiff, reduceLT, ↓reduceIte, Int.reduceToNat, reduceLeDiff]
  refine RawD_loop (fun σ w1 => ∃ (d a1 : Nat), a ≤ a1 ∧ d < 128 ∧ PkIn w1 g A c T a1 (.map (some gs) :: gmV { G with n := putN G.n 9 d } Va Vt) ∧ Kept [g] w w1 ∧ bindT (daysT (T.length - a1) (T.drop a1) d) F = r ∧
    σ 0 = .pointer (some ⟨g, 0, none⟩) ∧ σ 2 = .pointer (some ⟨g, 3, none⟩)) (fun σ w1 => T.length - atOf w1 g) ?_ ?_
  · simp +contextual (maxSteps := 2000000) (disch := first | omega | (simp only [SZ]; first | done | omega) | (simp only [TS] at *; omega)) only [RZ, ovw, oneC, reduceAdd, reduceMul, reduceSub, reduceEqDiff, reduceLT, ↓reduceIte, Int.reduceToNat, reduceLeDiff]
    refine ⟨0, a, Nat.le_refl _, by omega, ?_, Kept.refl _ _, hr⟩
    have : ({ G with n := putN G.n 9 ((0 : Nat) : Int) } : Gm) = G := by
      obtain ⟨nm, n, ad, ti⟩ := G
      congr 1
      funext j
      unfold putN
      split
      · rename_i e; subst e; exact h9.symm
      · rfl
    rw [this]
    exact h
  rintro σ w1 ⟨d, a1, haa, hd, h1, k1, hr1, f0, f2⟩ K hK
  have hlt1 := h1.lt
  have hat := h1.atOf
  have c13 := h1.row.cell (i := 13) rfl
  have hfu : T.length - a1 = (T.length - (a1 + 1)) + 1 := by omega
  rw [hfu] at hr1
  unfold daysT at hr1
  have n9 : ({ G with n := putN G.n 9 d } : Gm).n 9 = d := rfl
  rw [n9] at c13
  have htm := tok_mem hlt1
  have ha2 : bs ⟨#[97, 116]⟩ = asc "at" := by decide +kernel
  have ho : bs ⟨#[58]⟩ = asc ":" := by decide +kernel
  refine WX_cut (fun σ' w2 => σ' 0 = .pointer (some ⟨g, 0, none⟩) ∧ σ' 2 = .pointer (some ⟨g, 3, none⟩) ∧ PkIn w2 g A c T a1 (.map (some gs) :: gmV { G with n := putN G.n 9 d } Va Vt) ∧ Kept [g] w w2 ∧ ¬ (d ≠ 0 ∧ (hdT (T.drop a1)).kind = 1 ∧ bs (hdT (T.drop a1)).text = asc "at")) ?_ ?_; rotate_left
  · by_cases hd0 : d = 0
    · have e0 : ((d : Int) = 0) = True := eq_true (by omega)
      simp +contextual (maxSteps := 2000000) (disch := first | omega | (simp only [SZ]; first | done | omega) | (simp only [TS] at *; omega)) only [PZ, RZ, ovw, oneC, reduceAdd, reduceMul, reduceSub, reduceEqDiff, reduceLT, ↓reduceIte, Int.reduceToNat, reduceLeDiff,  f0, f2, c13, e0]
      refine WX_if_t rfl ?_
      simp +contextual (maxSteps := 2000000) (disch := first | omega | (simp only [SZ]; first | done | omega) | (simp only [TS] at *; omega)) only [PZ, RZ, ovw, oneC, reduceAdd, reduceMul, reduceSub, reduceEqDiff, reduceLT, ↓reduceIte, Int.reduceToNat, reduceLeDiff,  f0, f2]
      exact ⟨h1, k1, fun h => h.1 hd0⟩
    · have e0 : ((d : Int) = 0) = False := eq_false (by omega)
      simp +contextual (maxSteps := 2000000) (disch := first | omega | (simp only [SZ]; first | done | omega) | (simp only [TS] at *; omega)) only [PZ, RZ, ovw, oneC, reduceAdd, reduceMul, reduceSub, reduceEqDiff, reduceLT, ↓reduceIte, Int.reduceToNat, reduceLeDiff,  f0, f2, c13, e0]
      refine (paFollows_any _ h1 hT).mono ?_
      rintro e w2 ⟨rfl, h2, k2, hI⟩
      rw [ha2] at h2 hI ⊢
      by_cases hat2 : (isT 1 (asc "at") (T.drop a1)).isSome = true
      · have hI2 := hI hat2
        rw [if_pos hat2] at h2
        obtain ⟨q1, q2, q3⟩ := is_some hI2
        rw [if_pos ⟨hd0, q1, q2⟩, ← q3] at hr1
        dsimp only [bindT] at hr1
        rw [← hF] at hr1
        dsimp only at hr1
        rw [hat2]
        simp +contextual (maxSteps := 2000000) (disch := first | omega | (simp only [SZ]; first | done | omega) | (simp only [TS] at *; omega)) only [PZ, RZ, ovw, oneC, reduceAdd, reduceMul, reduceSub, reduceEqDiff, reduceLT, ↓reduceIte, Int.reduceToNat, reduceLeDiff,  f0, f2]
        refine WX_if_f rfl ?_
        simp +contextual (maxSteps := 2000000) (disch := first | omega | (simp only [SZ]; first | done | omega) | (simp only [TS] at *; omega)) only [PZ, RZ, ovw, oneC, reduceAdd, reduceMul, reduceSub, reduceEqDiff, reduceLT, ↓reduceIte, Int.reduceToNat, reduceLeDiff,  f0, f2]
        refine Res.use (paNumber_any 23 h2 hT) (fun x a3 w3 e3 k3 h3 => ?_) (fun e L w3 e3 k3 => ?_); rotate_left
        · obtain ⟨u1, rfl, rfl⟩ := numbT_err e3
          rw [u1] at hr1
          exact ResQ.err hr1.symm ((k1.trans k2).trans k3)
        have u1 := numbT_ok e3
        rw [u1] at hr1
        dsimp only [thenT] at hr1
        have x0 := less_bd h2 hT u1
        try simp +contextual (maxSteps := 2000000) (disch := first | omega | (simp only [SZ]; first | done | omega) | (simp only [TS] at *; omega)) only [PZ, RZ, ovw, oneC, reduceAdd, reduceMul, reduceSub, reduceEqDiff, reduceLT, ↓reduceIte, Int.reduceToNat, reduceLeDiff,  f0, f2]
        refine Res.use (paExpect_any 3 _ h3 hT) (fun u a4 w4 e4 k4 h4 => ?_) (fun e L w4 e4 k4 => ?_); rotate_left
        · obtain ⟨u2, rfl, rfl⟩ := expT_err e4
          rw [ho] at u2
          rw [u2] at hr1
          exact ResQ.err hr1.symm (((k1.trans k2).trans k3).trans k4)
        have u2 := expT_ok e4
        rw [ho] at u2
        rw [u2] at hr1
        dsimp only [thenT] at hr1
        try simp +contextual (maxSteps := 2000000) (disch := first | omega | (simp only [SZ]; first | done | omega) | (simp only [TS] at *; omega)) only [PZ, RZ, ovw, oneC, reduceAdd, reduceMul, reduceSub, reduceEqDiff, reduceLT, ↓reduceIte, Int.reduceToNat, reduceLeDiff,  f0, f2]
        refine Res.use (paNumber_any 59 h4 hT) (fun y a5 w5 e5 k5 h5 => ?_) (fun e L w5 e5 k5 => ?_); rotate_left
        · obtain ⟨u3, rfl, rfl⟩ := numbT_err e5
          rw [u3] at hr1
          exact ResQ.err hr1.symm ((((k1.trans k2).trans k3).trans k4).trans k5)
        have u3 := numbT_ok e5
        rw [u3] at hr1
        dsimp only [thenT] at hr1
        have y0 := less_bd h4 hT u3
        have k15 := (((k1.trans k2).trans k3).trans k4).trans k5
        have d14 := h5.row.cell (i := 14) rfl
        have d14z := h5.row.frozen 14
        try simp +contextual (maxSteps := 2000000) (disch := first | omega | (simp only [SZ]; first | done | omega) | (simp only [TS] at *; omega)) only [PZ, RZ, ovw, oneC, reduceAdd, reduceMul, reduceSub, reduceEqDiff, reduceLT, ↓reduceIte, Int.reduceToNat, reduceLeDiff,  f0, f2, d14, d14z]
        refine ResQ.ok hr1.symm (k15.setCell (p := ⟨g, 14, none⟩) (by simp) _) ?_
        exact h5.setN (i := 10) (by omega) _
      · have hI2 : isT 1 (asc "at") (T.drop a1) = none := by
          cases hx : isT 1 (asc "at") (T.drop a1) with
          | none => rfl
          | some x => rw [hx] at hat2; exact absurd rfl hat2
        rw [if_neg hat2] at h2
        rw [hI2]
        simp +contextual (maxSteps := 2000000) (disch := first | omega | (simp only [SZ]; first | done | omega) | (simp only [TS] at *; omega)) only [PZ, RZ, ovw, oneC, reduceAdd, reduceMul, reduceSub, reduceEqDiff, reduceLT, ↓reduceIte, Int.reduceToNat, reduceLeDiff,  f0, f2]
        refine WX_if_t rfl ?_
        simp +contextual (maxSteps := 2000000) (disch := first | omega | (simp only [SZ]; first | done | omega) | (simp only [TS] at *; omega)) only [PZ, RZ, ovw, oneC, reduceAdd, reduceMul, reduceSub, reduceEqDiff, reduceLT, ↓reduceIte, Int.reduceToNat, reduceLeDiff,  f0, f2]
        exact ⟨h2, k1.trans k2, fun h => is_none hI2 h.2⟩
  rintro σ2 w2 ⟨g0, g2, h2, k2, hno⟩
  rw [if_neg hno] at hr1
  have hgl2 := h2.row.lt
  simp +contextual (maxSteps := 2000000) (disch := first | omega | (simp only [SZ]; first | done | omega) | (simp only [TS] at *; omega)) only [PZ, RZ, ovw, oneC, reduceAdd, reduceMul, reduceSub, reduceEqDiff, reduceLT, ↓reduceIte, Int.reduceToNat, reduceLeDiff,  g0, g2]
  refine Res.use (paTake_any 1 h2 hT) (fun t a3 w3 e3 k3 h3 => ?_) (fun e L w3 e3 k3 => ?_); rotate_left
  · obtain ⟨q1, rfl, rfl⟩ := takeT_err e3
    rw [if_pos q1] at hr1
    exact ResQ.err hr1.symm (k2.trans k3)
  obtain ⟨q1, rfl, q3⟩ := takeT_ok e3
  rw [if_neg (fun h => h q1)] at hr1
  have hst := List.getElem?_eq_getElem hlt1
  have hhd := hdT_drop hst
  have hnx := nxT_drop (hT.last a1 _ hst (by rw [← hhd]; omega))
  rw [hnx] at q3 hr1
  obtain rfl : a3 = a1 + 1 := drop_same q3.symm h3.lt (hT.last a1 _ hst (by rw [← hhd]; omega))
  generalize htd : hdT (T.drop a1) = t at *
  rw [show (encTk t).toArray = #[.int .i64 t.kind, .int .i64 t.line, .int .i64 t.col, .string t.text] from rfl]
  have k3 := k2.trans k3
  simp +contextual (maxSteps := 2000000) (disch := first | omega | (simp only [SZ]; first | done | omega) | (simp only [TS] at *; omega)) only [PZ, RZ, ovw, oneC, reduceAdd, reduceMul, reduceSub, reduceEqDiff, reduceLT, ↓reduceIte, Int.reduceToNat, reduceLeDiff,  g0, g2]
  have h4 := h3.below (below_alloc w3 (.cells #[Value.int .i64 t.kind, .int .i64 t.line, .int .i64 t.col, .string t.text] 62))
  have k4 := k3.alloc (.cells #[Value.int .i64 t.kind, .int .i64 t.line, .int .i64 t.col, .string t.text] 62)
  have q4 := Row.new w3 62 [Value.int .i64 t.kind, .int .i64 t.line, .int .i64 t.col, .string t.text]
  replace q4 : Row (w3.alloc (.cells #[Value.int .i64 t.kind, .int .i64 t.line, .int .i64 t.col, .string t.text] 62)) _ _ _ := q4
  generalize w3.alloc (.cells #[Value.int .i64 t.kind, .int .i64 t.line, .int .i64 t.col, .string t.text] 62) = w4 at *
  have c0 := q4.cell (i := 0) rfl
  have c1 := q4.cell (i := 1) rfl
  have c2 := q4.cell (i := 2) rfl
  have c3 := q4.cell (i := 3) rfl
  try simp +contextual (maxSteps := 2000000) (disch := first | omega | (simp only [SZ]; first | done | omega) | (simp only [TS] at *; omega)) only [PZ, RZ, ovw, oneC, reduceAdd, reduceMul, reduceSub, reduceEqDiff, reduceLT, ↓reduceIte, Int.reduceToNat, reduceLeDiff,  g0, g2, c3]
  have hW4 := hW.kept k4 (by simpa using hg)
  refine (paWeekday_any t.text w4 hW4).mono ?_
  rintro e w5 ⟨rfl, rfl⟩
  have d13 := h4.row.cell (i := 13) rfl
  have d13z := h4.row.frozen 13
  rw [n9] at d13
  cases hdy : dayI (bs t.text) with
  | none =>
    rw [hdy] at hr1
    dsimp only [bindT] at hr1
    simp +contextual (maxSteps := 2000000) (disch := first | omega | (simp only [SZ]; first | done | omega) | (simp only [TS] at *; omega)) only [PZ, RZ, ovw, oneC, reduceAdd, reduceMul, reduceSub, reduceEqDiff, reduceLT, ↓reduceIte, Int.reduceToNat, reduceLeDiff,  g0, g2]
    refine WX_if_t rfl ?_
    simp +contextual (maxSteps := 2000000) (disch := first | omega | (simp only [SZ]; first | done | omega) | (simp only [TS] at *; omega)) only [PZ, RZ, ovw, oneC, reduceAdd, reduceMul, reduceSub, reduceEqDiff, reduceLT, ↓reduceIte, Int.reduceToNat, reduceLeDiff,  g0, g2, c0, c1, c2, c3]
    refine (paFail_any g 1 t w4).mono ?_
    rintro e w5 ⟨rfl, hB5⟩
    rw [Ends_pan]
    have := ResQ.err (g := g) (A := A) (c := c) (T := T) (val := fun _ => .tuple #[]) (rest := fun x => .map (some gs) :: gmV { G with n := putN (putN G.n 9 x.1) 10 x.2 } Va Vt) (w := w) hr1.symm (k4.trans (Kept.of_below hB5))
    rw [htd] at this
    exact this
  | some i =>
    rw [hdy] at hr1
    dsimp only at hr1 ⊢
    have hi7 := (dayI_lt hdy).1
    obtain ⟨b1, b2⟩ := day_bits d i hd hi7
    have hp : 2 ^ i < 128 := by
      have : ∀ i : Fin 7, 2 ^ i.1 < 128 := by decide
      exact this ⟨i, hi7⟩
    have hp0 : 0 < 2 ^ i := Nat.two_pow_pos i
    generalize hpi : 2 ^ i = p2 at *
    have e0 : ((p2 : Int) = 0) = False := eq_false (by omega)
    have ea := vBin_andN (P := Tryz.prog) (T := 3) (x := .tmp 30) (y := .tmp 31) (w := w4) (a := d) (b := p2) (by omega) (by omega)
    have eo := vBin_orN (P := Tryz.prog) (T := 3) (x := .tmp 41) (y := .tmp 42) (w := w4) (a := d) (b := p2) (by omega) (by omega)
    by_cases hb : d / p2 % 2 = 1
    · rw [if_pos hb] at hr1
      dsimp only [bindT] at hr1
      have e1 : (((d &&& p2 : Nat) : Int) = 0) = False := eq_false (fun h => (b1.1 (by omega)) hb)
      simp +contextual (maxSteps := 2000000) (disch := first | omega | (simp only [SZ]; first | done | omega) | (simp only [TS] at *; omega)) only [PZ, RZ, ovw, oneC, reduceAdd, reduceMul, reduceSub, reduceEqDiff, reduceLT, ↓reduceIte, Int.reduceToNat, reduceLeDiff,  g0, g2, e0, d13, ea, e1]
      refine WX_if_t rfl ?_
      simp +contextual (maxSteps := 2000000) (disch := first | omega | (simp only [SZ]; first | done | omega) | (simp only [TS] at *; omega)) only [PZ, RZ, ovw, oneC, reduceAdd, reduceMul, reduceSub, reduceEqDiff, reduceLT, ↓reduceIte, Int.reduceToNat, reduceLeDiff,  g0, g2, c0, c1, c2, c3]
      refine (paFail_any g 1 t w4).mono ?_
      rintro e w5 ⟨rfl, hB5⟩
      rw [Ends_pan]
      have := ResQ.err (g := g) (A := A) (c := c) (T := T) (val := fun _ => .tuple #[]) (rest := fun x => .map (some gs) :: gmV { G with n := putN (putN G.n 9 x.1) 10 x.2 } Va Vt) (w := w) hr1.symm (k4.trans (Kept.of_below hB5))
      rw [htd] at this
      exact this
    · rw [if_neg hb] at hr1
      have e1 : (((d &&& p2 : Nat) : Int) = 0) = True := eq_true (by have := b1.2 hb; omega)
      obtain ⟨b3, b4⟩ := b2 hb
      rw [b3] at eo
      simp +contextual (maxSteps := 2000000) (disch := first | omega | (simp only [SZ]; first | done | omega) | (simp only [TS] at *; omega)) only [PZ, RZ, ovw, oneC, reduceAdd, reduceMul, reduceSub, reduceEqDiff, reduceLT, ↓reduceIte, Int.reduceToNat, reduceLeDiff,  g0, g2, e0, d13, ea, e1]
      refine WX_if_f rfl ?_
      simp +contextual (maxSteps := 2000000) (disch := first | omega | (simp only [SZ]; first | done | omega) | (simp only [TS] at *; omega)) only [PZ, RZ, ovw, oneC, reduceAdd, reduceMul, reduceSub, reduceEqDiff, reduceLT, ↓reduceIte, Int.reduceToNat, reduceLeDiff,  g0, g2, d13, d13z, eo]
      refine hK _ _ ⟨d + p2, a1 + 1, by omega, by omega, ?_, k4.setCell (p := ⟨g, 13, none⟩) (by simp) _, hr1, ?_⟩ ?_
      · have := h4.setN (i := 9) (by omega) ((d + p2 : Nat) : Int)
        exact this
      · simp +contextual (maxSteps := 2000000) (disch := first | omega | (simp only [SZ]; first | done | omega) | (simp only [TS] at *; omega)) only [RZ, ovw, oneC, reduceAdd, reduceMul, reduceSub, reduceEqDiff, reduceLT, ↓reduceIte, Int.reduceToNat, reduceLeDiff,  g0, g2]
      · have := (h4.setN (i := 9) (by omega) ((d + p2 : Nat) : Int)).atOf
        rw [show (9 + 4 : Nat) = 13 from rfl] at this
        rw [this, hat]
        omega
end
end Go.Proofs.YtbdkggnajipdhaaGreatDoor
/- Regions that draw their order: readers are taken first, at the values that they yield in every world that meets S; the operations of the list pl keep S, all others wait for the readers, through others too. -/
namespace Go.Proofs.YtbdkggnajipdhaaGreatDoor
open Go.RowKit
section
variable {P : Program} {md : Region.Mode} {ops : Array Oper} {Q : Exit → Act → World → Prop} {pl : List Nat} {S : World → Prop}
/-- Whatever order is picked from here on; the operations of the list pl keep S. -/
def wpAnyX (P : Program) (md : Region.Mode) (ops : Array Oper) (Q : Exit → Act → World → Prop) (pl : List Nat) (S : World → Prop) : Nat → Array Bool → Act → World → Prop
  | 0, listed, a, w => Region.ready md ops listed = [] ∧ Q .normal a w
  | fuel + 1, listed, a, w =>
    (Region.ready md ops listed = [] → Q .normal a w) ∧
    ∀ i ∈ Region.ready md ops listed, wpOp P ops Q i (fun a' w' => (pl.contains i = true → S w') ∧ wpAnyX P md ops Q pl S fuel (listed.setIfInBounds i true) a' w') a w
theorem wpAny_of_X : ∀ (fuel : Nat) (listed : Array Bool) (a : Act) (w : World), wpAnyX P md ops Q pl S fuel listed a w → wpAny P md ops Q fuel listed a w
  | 0, _, _, _, h => h
  | fuel + 1, _, _, _, h => ⟨h.1, fun i hi => wpOp_mono (fun a' w' h' => wpAny_of_X fuel _ a' w' h'.2) (h.2 i hi)⟩
theorem wpAnyX_firstD {i : Nat} {oi : Oper} {v : Value} (D : List Nat) (hi : ops[i]? = some oi) (hsel : ∀ (j : Nat) (o : Oper) cs b, ops[j]? = some o → o.op ≠ .select cs b)
    (hQ : ∀ c a w, Q (.panic c) (a.put oi.dst v) w → Q (.panic c) a w) :
    ∀ (fuel : Nat) (listed : Array Bool) (a : Act) (w : World),
      (∀ j ∈ D, listed.getD j true = false ∧ ∃ oj, ops[j]? = some oj ∧ ∃ e ∈ oj.after, Region.binds md e = true ∧ (e.on = i ∨ e.on ∈ D)) →
      (∀ j oj, ops[j]? = some oj → j ≠ i → listed.getD j true = false → j ∉ D → oi.apart ops oj = true ∧ pl.contains j = true) →
      i ∈ Region.ready md ops listed → YieldsIf P ops S oi v a → S w →
      wpAnyX P md ops Q pl S fuel (listed.setIfInBounds i true) (a.put oi.dst v) w → wpAnyX P md ops Q pl S (fuel + 1) listed a w := by
  intro fuel
  induction fuel with
  | zero =>
    intro listed a w _ _ hr hy hS H
    refine ⟨fun h => (by rw [h] at hr; cases hr), fun j hj => ?_⟩
    by_cases hji : j = i
    · subst hji; exact hy.wpOp hi hS ⟨fun _ => hS, H⟩
    · have := ready_mono hj hji
      rw [H.1] at this
      cases this
  | succ fuel ih =>
    intro listed a w hD hfree hr hy hS H
    refine ⟨fun h => (by rw [h] at hr; cases hr), fun j hj => ?_⟩
    by_cases hji : j = i
    · subst hji; exact hy.wpOp hi hS ⟨fun _ => hS, H⟩
    · have h1 := H.2 j (ready_mono hj hji)
      obtain ⟨hjun, oj, hoj, hall⟩ := mem_ready.1 hj
      have hun : ∀ k, listed.getD k true = false → ∀ e ∈ oj.after, Region.binds md e = true → e.on ≠ k := fun k h0 e he hb heq => by
        have h1 := hall e he hb
        rw [heq] at h1
        rcases Nat.lt_or_ge k listed.size with h' | h'
        · simp [h'] at h0 h1; rw [h0] at h1; cases h1
        · simp [Array.getElem?_eq_none h'] at h1
      have hjD : j ∉ D := fun hx => by
        obtain ⟨_, oj', hoj', e, he, hb, ho⟩ := hD j hx
        rw [hoj] at hoj'
        injection hoj' with hoj'
        subst hoj'
        rcases ho with ho | ho
        · exact hun i (mem_ready.1 hr).1 e he hb ho
        · exact hun e.on (hD e.on ho).1 e he hb rfl
      obtain ⟨hap, hpj⟩ := hfree j oj hoj hji hjun hjD
      have h2 := wpOp_putIf hoj hap (fun cs b => hsel i oi cs b hi) (fun cs b => hsel j oj cs b hoj) hQ hy h1
      have hset : ∀ k, k ≠ j → (listed.setIfInBounds j true).getD k true = listed.getD k true := fun k hk => getD_set_ne true (fun e => hk e.symm)
      have hD' : ∀ k ∈ D, (listed.setIfInBounds j true).getD k true = false ∧ ∃ ok, ops[k]? = some ok ∧ ∃ e ∈ ok.after, Region.binds md e = true ∧ (e.on = i ∨ e.on ∈ D) := fun k hk => by
        obtain ⟨q1, q2⟩ := hD k hk
        exact ⟨by rw [hset k (fun e => hjD (e ▸ hk))]; exact q1, q2⟩
      have hfree' : ∀ k ok, ops[k]? = some ok → k ≠ i → (listed.setIfInBounds j true).getD k true = false → k ∉ D → oi.apart ops ok = true ∧ pl.contains k = true := fun k ok hk hki hun hno => by
        refine hfree k ok hk hki ?_ hno
        by_cases hjk : k = j
        · subst hjk; exact hjun
        · rw [hset k hjk] at hun; exact hun
      refine wpOp_mono (fun a' w' h3 => ?_) h2
      obtain ⟨h4, h5, h6⟩ := h3
      refine ⟨h5, ih (listed.setIfInBounds j true) a' _ hD' hfree' (ready_mono hr (Ne.symm hji)) h4 (h5 hpj) ?_⟩
      rw [Array.setIfInBounds_comm _ _ hji]
      exact h6
theorem wpAnyX_firstU {i : Nat} {oi : Oper} {v : Value} (hpi : pl.contains i = false) (hi : ops[i]? = some oi) (hsel : ∀ (j : Nat) (o : Oper) cs b, ops[j]? = some o → o.op ≠ .select cs b)
    (hQ : ∀ c a w, Q (.panic c) (a.put oi.dst v) w → Q (.panic c) a w) :
    ∀ (fuel : Nat) (listed : Array Bool) (a : Act) (w : World),
      (∀ j oj, ops[j]? = some oj → j ≠ i → listed.getD j true = false → (∀ e ∈ oj.after, Region.binds md e = true → e.on ≠ i) → oi.apart ops oj = true) →
      i ∈ Region.ready md ops listed → YieldsIf P ops (fun _ => True) oi v a →
      wpAnyX P md ops Q pl S fuel (listed.setIfInBounds i true) (a.put oi.dst v) w → wpAnyX P md ops Q pl S (fuel + 1) listed a w := by
  intro fuel
  induction fuel with
  | zero =>
    intro listed a w _ hr hy H
    refine ⟨fun h => (by rw [h] at hr; cases hr), fun j hj => ?_⟩
    by_cases hji : j = i
    · subst hji; exact hy.wpOp hi trivial ⟨fun hc => (by rw [hpi] at hc; cases hc), H⟩
    · have := ready_mono hj hji
      rw [H.1] at this
      cases this
  | succ fuel ih =>
    intro listed a w hfree hr hy H
    refine ⟨fun h => (by rw [h] at hr; cases hr), fun j hj => ?_⟩
    by_cases hji : j = i
    · subst hji; exact hy.wpOp hi trivial ⟨fun hc => (by rw [hpi] at hc; cases hc), H⟩
    · have h1 := H.2 j (ready_mono hj hji)
      obtain ⟨hjun, oj, hoj, hall⟩ := mem_ready.1 hj
      have hnot : ∀ e ∈ oj.after, Region.binds md e = true → e.on ≠ i := fun e he hb heq => by
        have h1 := hall e he hb
        have h0 := (mem_ready.1 hr).1
        rw [heq] at h1
        rcases Nat.lt_or_ge i listed.size with h' | h'
        · simp [h'] at h0 h1; rw [h0] at h1; cases h1
        · simp [Array.getElem?_eq_none h'] at h1
      have h2 := wpOp_putIf hoj (hfree j oj hoj hji hjun hnot) (fun cs b => hsel i oi cs b hi) (fun cs b => hsel j oj cs b hoj) hQ hy h1
      have hfree' : ∀ k ok, ops[k]? = some ok → k ≠ i → (listed.setIfInBounds j true).getD k true = false →
          (∀ e ∈ ok.after, Region.binds md e = true → e.on ≠ i) → oi.apart ops ok = true := fun k ok hk hki hun hno => by
        refine hfree k ok hk hki ?_ hno
        by_cases hjk : j = k
        · subst hjk; exact hjun
        · rw [getD_set_ne true hjk] at hun; exact hun
      refine wpOp_mono (fun a' w' h3 => ?_) h2
      obtain ⟨h4, h5, h6⟩ := h3
      refine ⟨h5, ih (listed.setIfInBounds j true) a' _ hfree' (ready_mono hr (Ne.symm hji)) h4 ?_⟩
      rw [Array.setIfInBounds_comm _ _ hji]
      exact h6
end
section
variable {P : Program} {n : Nat} {ops : Array Oper} {Q : Exit → Sl → World → Prop} {σ : Sl} {w : World} {fuel : Nat} {listed : Array Bool} {pl : List Nat} {S : World → Prop}
/-- Does it wait for i, or for one of the list? -/
def waitsB (ops : Array Oper) (i : Nat) (D : List Nat) (j : Nat) : Bool := match ops[j]? with
  | some oj => oj.after.any fun e => Region.binds .any e && (e.on == i || D.contains e.on)
  | none => false
def depL (ops : Array Oper) (i : Nat) : List Nat := (List.range ops.size).foldl (fun D j => if waitsB ops i D j then D ++ [j] else D) []
def freeD (ops : Array Oper) (pl : List Nat) (listed : Array Bool) (i : Nat) (D : List Nat) : Bool :=
  (D.all fun j => !listed.getD j true && waitsB ops i D j) &&
  match ops[i]? with
  | none => false
  | some oi => (List.range ops.size).all fun j => j == i || listed.getD j true || D.contains j || match ops[j]? with
      | some oj => oi.apart ops oj && pl.contains j
      | none => true
theorem freeD_dep {i : Nat} {D : List Nat} (h : freeD ops pl listed i D = true) : ∀ j ∈ D, listed.getD j true = false ∧ ∃ oj, ops[j]? = some oj ∧ ∃ e ∈ oj.after, Region.binds .any e = true ∧ (e.on = i ∨ e.on ∈ D) := by
  intro j hj
  unfold freeD at h
  rw [Bool.and_eq_true, List.all_eq_true] at h
  have h1 := h.1 j hj
  rw [Bool.and_eq_true, Bool.not_eq_true'] at h1
  refine ⟨h1.1, ?_⟩
  have h2 := h1.2
  unfold waitsB at h2
  cases ho : ops[j]? with
  | none => rw [ho] at h2; cases h2
  | some oj =>
    rw [ho] at h2
    simp only [Array.any_eq_true', Bool.and_eq_true, Bool.or_eq_true, beq_iff_eq, List.contains_iff_mem] at h2
    obtain ⟨e, he, hb, hon⟩ := h2
    exact ⟨oj, rfl, e, he, hb, hon⟩
theorem freeD_spec {i : Nat} {oi : Oper} {D : List Nat} (hi : ops[i]? = some oi) (h : freeD ops pl listed i D = true) (j : Nat) (oj : Oper) (hj : ops[j]? = some oj) (hne : j ≠ i) (hun : listed.getD j true = false) (hno : j ∉ D) :
    oi.apart ops oj = true ∧ pl.contains j = true := by
  unfold freeD at h
  rw [Bool.and_eq_true] at h
  have h2 := h.2
  rw [hi] at h2
  simp only [List.all_eq_true, List.mem_range] at h2
  have h1 := h2 j (Array.getElem?_eq_some_iff.1 hj).1
  rw [hj, hun] at h1
  simp only [Bool.or_false, Bool.or_eq_true, beq_iff_eq, Bool.and_eq_true, List.contains_iff_mem] at h1
  rcases h1 with (h1 | h1) | h1
  · exact absurd h1 hne
  · exact absurd h1 hno
  · exact ⟨h1.1, by simpa using h1.2⟩
def OrdX (P : Program) (n : Nat) (ops : Array Oper) (Q : Exit → Sl → World → Prop) (pl : List Nat) (S : World → Prop) (fuel : Nat) (listed : Array Bool) (σ : Sl) (w : World) : Prop :=
  ∀ a, Fr n σ a → wpAnyX P .any ops (lift n Q) pl S fuel listed a w
@[congr] theorem OrdX_congr {σ σ' : Sl} {w w' : World} (h : σ = σ') (h' : w = w') : OrdX P n ops Q pl S fuel listed σ w = OrdX P n ops Q pl S fuel listed σ' w' := by rw [h, h']
theorem Raw_ordX (pl : List Nat) (S : World → Prop) (m : Nat) (hsz : ops.size = m) {id : Nat} (hm : P.follows .mixedOrders = true) (h : OrdX P n ops Q pl S m (Array.replicate m false) σ w.drew) : Raw P n (.region id ops true) Q σ w := by
  intro a hf
  subst hsz
  exact wp_region_any hm (wpAny_of_X _ _ _ _ (h a hf))
theorem OrdX_take (i : Nat) (D : List Nat) {d : Option Nat} {op : Op} {ty : TypeId} {p : String} {af : Array Edge} {v : Value} (hi : ops[i]? = some ⟨d, op, ty, p, af, none⟩)
    (hs : Region.noSelect ops = true) (hf : freeD ops pl listed i D = true) (hr : (Region.ready .any ops listed).contains i = true)
    (hQ : ∀ c σ w, ¬ Q (.panic c) σ w) (hS : S w) (hv : ∀ w', S w' → run1 P op ty σ w' = .ok (.value v) w')
    (h : OrdX P n ops Q pl S fuel (listed.setIfInBounds i true) (put n σ d v) w) : OrdX P n ops Q pl S (fuel + 1) listed σ w := by
  intro a hfr
  refine wpAnyX_firstD D hi (Region.noSelect_spec hs) ?_ fuel listed a w (freeD_dep hf) (freeD_spec hi hf) (by simpa using hr) (v := v) ?_ hS (h _ (hfr.put d v))
  · rintro c a w ⟨σ', _, hq⟩
    exact absurd hq (hQ _ _ _)
  · refine .inl ⟨wanted_none rfl, fun w' hw' => ?_⟩
    have := hv w' hw'
    rw [hfr.eval]
    exact this
theorem OrdX_all (rs : List Nat) (hr : Region.ready .any ops listed = rs) (hne : rs ≠ []) (h : ∀ i ∈ rs, match ops[i]? with
      | some ⟨d, op, ty, _, _, none⟩ => Okv P (fun v w' => (pl.contains i = true → S w') ∧ OrdX P n ops Q pl S fuel (listed.setIfInBounds i true) (put n σ d v) w') (run1 P op ty σ w)
      | _ => False) : OrdX P n ops Q pl S (fuel + 1) listed σ w := by
  intro a hfr
  refine ⟨fun h0 => absurd (hr ▸ h0) hne, hr ▸ fun i hi => ?_⟩
  have h2 := h i hi
  cases ho : ops[i]? with
  | none => rw [ho] at h2; exact h2.elim
  | some o =>
    rw [ho] at h2
    obtain ⟨d, op, ty, p, af, g⟩ := o
    cases g with
    | some g => exact h2.elim
    | none =>
      unfold wpOp
      simp only [ho]
      rw [if_pos (wanted_none rfl)]
      exact .inl (Oper.wp_of_Okv hfr (o := ⟨d, op, ty, p, af, none⟩) h2 fun v w' hE => ⟨hE.1, hE.2 _ (hfr.put d v)⟩)
/-- One that keeps S, where nobody else may come up. -/
theorem OrdX_one (i : Nat) {d : Option Nat} {op : Op} {ty : TypeId} {p : String} {af : Array Edge} (hr : Region.ready .any ops listed = [i]) (hi : ops[i]? = some ⟨d, op, ty, p, af, none⟩)
    (h : Okv P (fun v w' => S w' ∧ OrdX P n ops Q pl S fuel (listed.setIfInBounds i true) (put n σ d v) w') (run1 P op ty σ w)) : OrdX P n ops Q pl S (fuel + 1) listed σ w :=
  OrdX_all [i] hr (by simp) fun j hj => by
    obtain rfl : j = i := by simpa using hj
    rw [hi]
    exact Okv_mono (fun v w' h => ⟨fun _ => h.1, h.2⟩) h
/-- One that need not keep it. -/
theorem OrdX_write (i : Nat) {d : Option Nat} {op : Op} {ty : TypeId} {p : String} {af : Array Edge} (hr : Region.ready .any ops listed = [i]) (hp : pl.contains i = false) (hi : ops[i]? = some ⟨d, op, ty, p, af, none⟩)
    (h : Okv P (fun v w' => OrdX P n ops Q pl S fuel (listed.setIfInBounds i true) (put n σ d v) w') (run1 P op ty σ w)) : OrdX P n ops Q pl S (fuel + 1) listed σ w :=
  OrdX_all [i] hr (by simp) fun j hj => by
    obtain rfl : j = i := by simpa using hj
    rw [hi]
    exact Okv_mono (fun v w' h => ⟨fun hc => (by rw [hp] at hc; cases hc), h⟩) h
theorem OrdX_done (hr : Region.ready .any ops listed = []) (h : Q .normal σ w) : OrdX P n ops Q pl S fuel listed σ w := fun a hf => by
  cases fuel with
  | zero => exact ⟨hr, σ, hf, h⟩
  | succ f => exact ⟨fun _ => ⟨σ, hf, h⟩, by rw [hr]; simp⟩
theorem OrdX_chain : ∀ (js : List Nat) (listed : Array Bool) (σ : Sl) (w : World), (js.all fun j => !pl.contains j) = true → chB ops listed js = true → E P n ops (opsL ops js) σ w (Q .normal) → OrdX P n ops Q pl S js.length listed σ w
  | [], L, σ, w, _, h, hE => OrdX_done (of_decide_eq_true h) hE
  | j :: r, L, σ, w, hp, h, hE => by
    rw [chB, Bool.and_eq_true, Bool.and_eq_true] at h
    rw [List.all_cons, Bool.and_eq_true] at hp
    obtain ⟨⟨h1, h2⟩, h3⟩ := h
    rw [opsL_cons] at hE
    cases ho : ops[j]? with
    | none => rw [ho] at h2; cases h2
    | some o =>
      obtain ⟨d, op, ty, p, af, g⟩ := o
      rw [ho] at h2
      cases g with
      | some g => cases h2
      | none =>
        rw [ho, optL_some, E_op] at hE
        exact OrdX_write j (of_decide_eq_true h1) (by simpa using hp.1) ho (Okv_mono (fun v w' hh => OrdX_chain r _ _ _ hp.2 h3 hh) hE)
def rdD (n : Nat) (ops : Array Oper) (pl : List Nat) : Array Bool → List Nat → Bool
  | _, [] => true
  | L, i :: r => (match ops[i]? with
    | some ⟨some d, _, _, _, _, none⟩ => decide (d < n) && r.all fun j => (ops[j]?).bind (·.dst) != some d
    | _ => false) && freeD ops pl L i (depL ops i) && (Region.ready .any ops L).contains i && rdD n ops pl (L.setIfInBounds i true) r
theorem OrdX_reads (is : List Nat) (f : Nat) {m : Nat} {τ : Sl} (hf : m = f + is.length) (hs : Region.noSelect ops = true) (hB : rdD n ops pl listed is = true)
    (hQ : ∀ c σ w, ¬ Q (.panic c) σ w) (hS : S w) (hv : ∀ w', S w' → V P n w' (opsL ops is) σ (fun σ' => σ' = τ))
    (h : OrdX P n ops Q pl S f (markL listed is) τ w) : OrdX P n ops Q pl S m listed σ w := by
  subst hf
  induction is generalizing listed σ with
  | nil => have e : σ = τ := hv w hS; rw [e]; exact h
  | cons i r ih =>
    rw [rdD, Bool.and_eq_true, Bool.and_eq_true, Bool.and_eq_true] at hB
    obtain ⟨⟨⟨h1, h2⟩, h3⟩, h4⟩ := hB
    cases ho : ops[i]? with
    | none => rw [ho] at h1; cases h1
    | some o =>
      obtain ⟨d', op, ty, p, af, g⟩ := o
      rw [ho] at h1
      cases d' with
      | none => cases h1
      | some d =>
      cases g with
      | some g => cases h1
      | none =>
      simp only [Bool.and_eq_true, decide_eq_true_eq] at h1
      obtain ⟨hd, hr⟩ := h1
      have key : ∀ w', S w' → run1 P op ty σ w' = .ok (.value (τ d)) w' ∧ V P n w' (opsL ops r) (put n σ (some d) (τ d)) (fun σ' => σ' = τ) := by
        intro w' hw'
        have hv := hv w' hw'
        rw [opsL_cons, ho, optL_some, V_op] at hv
        cases hr1 : run1 P op ty σ w' with
        | halt x w2 => rw [hr1] at hv; exact hv.elim
        | ok nx w2 =>
          rw [hr1] at hv
          cases nx with
          | value v =>
            obtain ⟨rfl, hv⟩ := hv
            have e := V_keep r _ hr hv
            rw [put_some, if_pos hd, upd_same] at e
            rw [e]
            exact ⟨rfl, hv⟩
          | _ => exact hv.elim
      exact OrdX_take i _ ho hs h2 h3 hQ hS (fun w' hw' => (key w' hw').1) (ih h4 (fun w' hw' => (key w' hw').2) h)
/-- A reader of slots: its value in whatever world. -/
theorem OrdX_takeU (i : Nat) {d : Option Nat} {op : Op} {ty : TypeId} {p : String} {af : Array Edge} {v : Value} (hi : ops[i]? = some ⟨d, op, ty, p, af, none⟩)
    (hp : pl.contains i = false) (hs : Region.noSelect ops = true) (hf : Region.free .any ops listed i = true) (hr : (Region.ready .any ops listed).contains i = true)
    (hQ : ∀ c σ w, ¬ Q (.panic c) σ w) (hv : ∀ w', run1 P op ty σ w' = .ok (.value v) w')
    (h : OrdX P n ops Q pl S fuel (listed.setIfInBounds i true) (put n σ d v) w) : OrdX P n ops Q pl S (fuel + 1) listed σ w := by
  intro a hfr
  refine wpAnyX_firstU hp hi (Region.noSelect_spec hs) ?_ fuel listed a w (Region.free_spec hi hf) (by simpa using hr) (v := v) ?_ (h _ (hfr.put d v))
  · rintro c a w ⟨σ', _, hq⟩
    exact absurd hq (hQ _ _ _)
  · refine .inl ⟨wanted_none rfl, fun w' _ => ?_⟩
    rw [hfr.eval]
    exact hv w'
theorem OrdX_readsU (is : List Nat) (f : Nat) {m : Nat} {τ : Sl} (hf : m = f + is.length) (hp : (is.all fun i => !pl.contains i) = true) (hs : Region.noSelect ops = true) (hB : rdB n ops listed is = true)
    (hQ : ∀ c σ w, ¬ Q (.panic c) σ w) (hv : ∀ w', V P n w' (opsL ops is) σ (fun σ' => σ' = τ))
    (h : OrdX P n ops Q pl S f (markL listed is) τ w) : OrdX P n ops Q pl S m listed σ w := by
  subst hf
  induction is generalizing listed σ with
  | nil => have e : σ = τ := hv w; rw [e]; exact h
  | cons i r ih =>
    rw [List.all_cons, Bool.and_eq_true] at hp
    rw [rdB, Bool.and_eq_true, Bool.and_eq_true, Bool.and_eq_true] at hB
    obtain ⟨⟨⟨h1, h2⟩, h3⟩, h4⟩ := hB
    cases ho : ops[i]? with
    | none => rw [ho] at h1; cases h1
    | some o =>
      obtain ⟨d', op, ty, p, af, g⟩ := o
      rw [ho] at h1
      cases d' with
      | none => cases h1
      | some d =>
      cases g with
      | some g => cases h1
      | none =>
      simp only [Bool.and_eq_true, decide_eq_true_eq] at h1
      obtain ⟨hd, hr⟩ := h1
      have key : ∀ w', run1 P op ty σ w' = .ok (.value (τ d)) w' ∧ V P n w' (opsL ops r) (put n σ (some d) (τ d)) (fun σ' => σ' = τ) := by
        intro w'
        have hv := hv w'
        rw [opsL_cons, ho, optL_some, V_op] at hv
        cases hr1 : run1 P op ty σ w' with
        | halt x w2 => rw [hr1] at hv; exact hv.elim
        | ok nx w2 =>
          rw [hr1] at hv
          cases nx with
          | value v =>
            obtain ⟨rfl, hv⟩ := hv
            have e := V_keep r _ hr hv
            rw [put_some, if_pos hd, upd_same] at e
            rw [e]
            exact ⟨rfl, hv⟩
          | _ => exact hv.elim
      exact OrdX_takeU i ho (by simpa using hp.1) hs h2 h3 hQ (fun w' => (key w').1) (ih hp.2 h4 (fun w' => (key w').2) h)
end
end Go.Proofs.YtbdkggnajipdhaaGreatDoor
/- Walks: the reader of a game: its whole state. -/
namespace Go.Proofs.YtbdkggnajipdhaaGreatDoor
open Go.RowKit
set_option maxRecDepth 100000
/-- Numbers in a row of the call's own. -/
def IntsT (lo : Nat) (w : World) (v : Value) (L : List Int) : Prop := ∃ (A : Option Addr) (c : Nat), v = .slice A L.length c ∧ (0 < L.length → ∃ b, A = some ⟨b, 0, none⟩ ∧ Row w b 3 (iW L) ∧ lo ≤ b)
theorem IntsT.of_owns {lo : Nat} {w : World} {base c : Nat} {A : Option Addr} {L : List Int} (h : w.ownsRow base 3 1 (.slice A L.length c) L.length (iW L)) (hlo : lo ≤ base) : IntsT lo w (.slice A L.length c) L :=
  ⟨A, c, rfl, fun hn => by obtain ⟨g, e, hg, hr, _⟩ := owns_row h hn; exact ⟨g, e, hr, by omega⟩⟩
theorem IntsT.nil {lo : Nat} (w : World) : IntsT lo w (.slice none 0 0) [] := ⟨none, 0, rfl, fun h => absurd h (Nat.lt_irrefl _)⟩
/-- What changes are blocks of X, and rows of add-ons and tiers. -/
def KT (X : List Nat) (w w' : World) : Prop := w.heap.size ≤ w'.heap.size ∧ ∀ (k : Nat) (o : Obj), k ∉ X → w.heap[k]? = some o → (∀ cs f, o ≠ .cells cs 45 f) → (∀ cs f, o ≠ .cells cs 41 f) → w'.heap[k]? = some o
theorem KT.of_kept {X : List Nat} {w w' : World} (h : Kept X w w') : KT X w w' := ⟨h.size, fun k o hx ho _ _ => (h.block k (Array.getElem?_eq_some_iff.1 ho).1 hx).trans ho⟩
theorem KT.trans {X : List Nat} {a b c : World} (h : KT X a b) (k : KT X b c) : KT X a c := ⟨Nat.le_trans h.1 k.1, fun i o hx ho h1 h2 => k.2 i o hx (h.2 i o hx ho h1 h2) h1 h2⟩
theorem Row.kt {X : List Nat} {w w' : World} {g : Nat} {T : TypeId} {cs : List Value} (h : Row w g T cs) (k : KT X w w') (hg : g ∉ X) (h1 : T ≠ 45) (h2 : T ≠ 41) : Row w' g T cs := by
  obtain ⟨cur, hc, r, hr⟩ := h
  refine ⟨cur, k.2 g _ hg hc (fun cs f e => ?_) (fun cs f e => ?_), r, hr⟩
  · injection e with _ e; exact h1 e
  · injection e with _ e; exact h2 e
theorem IntsT.kt {lo : Nat} {X : List Nat} {w w' : World} {v : Value} {L : List Int} (h : IntsT lo w v L) (k : KT X w w') (hX : ∀ x ∈ X, ∀ o, w.heap[x]? = some o → ∀ cs f, o ≠ .cells cs 3 f) : IntsT lo w' v L := by
  obtain ⟨A, c, e, h⟩ := h
  refine ⟨A, c, e, fun hn => ?_⟩
  obtain ⟨b, hb, hr, hlo⟩ := h hn
  refine ⟨b, hb, hr.kt k (fun hx => ?_) (by decide) (by decide), hlo⟩
  obtain ⟨cur, hc, _⟩ := hr
  exact hX b hx _ hc _ _ rfl
theorem IntsT.of_blocksL {lo : Nat} {w w' : World} {v : Value} {L : List Int} (h : IntsT lo w v L) (k : ∀ b cs, lo ≤ b → Row w b 3 cs → w'.heap[b]? = w.heap[b]?) : IntsT lo w' v L := by
  obtain ⟨A, c, e, h⟩ := h
  refine ⟨A, c, e, fun hn => ?_⟩
  obtain ⟨b, hb, hr, hlo⟩ := h hn
  exact ⟨b, hb, hr.of_block (k b _ hlo hr), hlo⟩
theorem IntsT.of_blocks {lo : Nat} {w w' : World} {v : Value} {L : List Int} (h : IntsT lo w v L) (k : ∀ b cs, Row w b 3 cs → w'.heap[b]? = w.heap[b]?) : IntsT lo w' v L := h.of_blocksL fun b cs _ hr => k b cs hr
theorem below_drew {B : Nat} {a w : World} (h : Below B a w) : Below B a w.drew := ⟨h.os, h.tape, h.output, h.size, h.block⟩
/-- An add-on's cells. -/
def AdC (P : Value → List Int → Prop) (cs : List Value) (x : Ad) : Prop := ∃ vf vs, cs = [.string x.name, .int .i64 x.kind, .int .i64 x.price, vf, .int .i64 x.digits, vs] ∧ P vf x.factors ∧ P vs x.serials
theorem AdC.mono {P P' : Value → List Int → Prop} {cs : List Value} {x : Ad} (h : AdC P cs x) (hp : ∀ v L, P v L → P' v L) : AdC P' cs x := by
  obtain ⟨vf, vs, e, h1, h2⟩ := h
  exact ⟨vf, vs, e, hp _ _ h1, hp _ _ h2⟩
def AdsC (P : Value → List Int → Prop) (Vs : List (List Value)) (L : List Ad) : Prop := Vs.length = L.length ∧ ∀ (i : Nat) (cs : List Value) (x : Ad), Vs[i]? = some cs → L[i]? = some x → AdC P cs x
theorem AdsC.mono {P P' : Value → List Int → Prop} {Vs : List (List Value)} {L : List Ad} (h : AdsC P Vs L) (hp : ∀ v L, P v L → P' v L) : AdsC P' Vs L := ⟨h.1, fun i cs x h1 h2 => (h.2 i cs x h1 h2).mono hp⟩
theorem AdsC.snoc {P : Value → List Int → Prop} {Vs : List (List Value)} {L : List Ad} {cs : List Value} {x : Ad} (h : AdsC P Vs L) (hx : AdC P cs x) : AdsC P (Vs ++ [cs]) (L ++ [x]) := by
  refine ⟨by rw [List.length_append, List.length_append, h.1]; rfl, fun i cs' x' h1 h2 => ?_⟩
  rw [List.getElem?_append] at h1 h2
  have hl := h.1
  by_cases hi : i < L.length
  · rw [if_pos (by omega)] at h1
    rw [if_pos hi] at h2
    exact h.2 i _ _ h1 h2
  · rw [if_neg (by omega)] at h1
    rw [if_neg hi] at h2
    rw [hl] at h1
    cases hd : i - L.length with
    | zero =>
      rw [hd] at h1 h2
      simp only [List.getElem?_cons_zero, Option.some.injEq] at h1 h2
      subst h1 h2
      exact hx
    | succ k => rw [hd] at h1; simp at h1
def encTi (t : Ti) : List Value := [.int .i64 t.main, .int .i64 t.bonus, .int .i64 t.extra, .int .i64 t.mode, .int .i64 t.kind, .int .i64 t.value]
/-- The state of a reader of games. -/
structure GmSt (w : World) (base g gs : Nat) (A : Option Addr) (c : Nat) (T : List Tk) (a : Nat) (G : Gm) (seen : List (List Nat)) (Va Vt : Value) (Vs : List (List Value)) : Prop where
  pk : PkIn w g A c T a (.map (some gs) :: gmV G Va Vt)
  sn : SeenIn w gs seen
  ads : AdsC (IntsT base w) Vs G.addons
  own : w.ownsRow base 45 6 Va G.addons.length Vs.flatten
  tis : w.ownsRow base 41 6 Vt G.tiers.length (G.tiers.flatMap encTi)
  fewA : G.addons.length ≤ a
  fewT : G.tiers.length ≤ a
  days : asc "days" ∉ seen → G.n 9 = 0
  toks : ∀ b o, A = some ⟨b, o, none⟩ → b < base
  hg : 9 ≤ base ∧ base ≤ g ∧ base ≤ gs ∧ gs ≠ g
theorem not_int_parser {w : World} {g : Nat} {cs : List Value} (h : Row w g 55 cs) : ∀ o, w.heap[g]? = some o → ∀ cs f, o ≠ .cells cs 3 f := fun o ho cs f e => by
  obtain ⟨cur, hc, _⟩ := h
  rw [hc] at ho
  injection ho with ho
  rw [← ho] at e
  injection e with _ e
  exact absurd e (by decide)
theorem not_int_seen {w : World} {g : Nat} {seen : List (List Nat)} (h : SeenIn w g seen) : ∀ o, w.heap[g]? = some o → ∀ cs f, o ≠ .cells cs 3 f := fun o ho cs f e => by
  obtain ⟨l, clk, hc, _⟩ := h
  rw [hc] at ho
  injection ho with ho
  rw [← ho] at e
  cases e
theorem own_ne {w : World} {base sz n g : Nat} {e T : TypeId} {v : Value} {xs cs : List Value} (h : w.ownsRow base e sz v n xs) (hR : Row w g T cs) (hT : T ≠ e) : v.ownBlock ≠ some g := fun hb => by
  rcases h.2 with ⟨rfl, _⟩ | ⟨g', cap, cur, rfl, _, h2, _⟩
  · cases hb
  · simp only [Value.ownBlock, Option.some.injEq] at hb
    subst hb
    obtain ⟨cur', hc, _⟩ := hR
    rw [hc] at h2
    injection h2 with h2
    injection h2 with _ h2
    exact hT h2
theorem own_ne_seen {w : World} {base sz n g : Nat} {e : TypeId} {v : Value} {xs : List Value} {seen : List (List Nat)} (h : w.ownsRow base e sz v n xs) (hS : SeenIn w g seen) : v.ownBlock ≠ some g := fun hb => by
  rcases h.2 with ⟨rfl, _⟩ | ⟨g', cap, cur, rfl, _, h2, _⟩
  · cases hb
  · simp only [Value.ownBlock, Option.some.injEq] at hb
    subst hb
    obtain ⟨l, clk, hc, _⟩ := hS
    rw [hc] at h2
    cases h2
theorem own_ne_own {w : World} {b1 b2 s1 s2 n1 n2 k : Nat} {e1 e2 : TypeId} {v1 v2 : Value} {x1 x2 : List Value} (h : w.ownsRow b1 e1 s1 v1 n1 x1) (h' : w.ownsRow b2 e2 s2 v2 n2 x2) (he : e1 ≠ e2) (hk : v2.ownBlock = some k) : v1.ownBlock ≠ some k := fun hb => by
  rcases h.2 with ⟨rfl, _⟩ | ⟨g', cap, cur, rfl, _, h2, _⟩
  · cases hb
  · rcases h'.2 with ⟨rfl, _⟩ | ⟨g2, cap2, cur2, rfl, _, h2', _⟩
    · cases hk
    · simp only [Value.ownBlock, Option.some.injEq] at hb hk
      subst hb
      rw [hk, h2] at h2'
      injection h2' with h2'
      injection h2' with _ h2'
      exact he h2'
section
variable {base g gs c a : Nat} {A : Option Addr} {T : List Tk} {w : World} {G : Gm} {seen : List (List Nat)} {Va Vt : Value} {Vs : List (List Value)}
/-- A reader's step that only goes on, and may set numbers. -/
theorem GmSt.step {w' : World} {a' : Nat} {n' : Nat → Int} (h : GmSt w base g gs A c T a G seen Va Vt Vs) (k : Kept [g] w w') (hp : PkIn w' g A c T a' (.map (some gs) :: gmV { G with n := n' } Va Vt)) (ha : a ≤ a') (h9 : asc "days" ∉ seen → n' 9 = 0) : GmSt w' base g gs A c T a' { G with n := n' } seen Va Vt Vs := by
  obtain ⟨h1, h2, h3, h4, h5, h6, h7, h8, h9', h10⟩ := h
  have hne := h10.2.2.2
  refine ⟨hp, h2.kept k (by simpa using hne), h3.mono fun v L hv => hv.kt (KT.of_kept k) (fun x hx => by simp at hx; subst hx; exact not_int_parser h1.row), ?_, ?_, Nat.le_trans h6 ha, Nat.le_trans h7 ha, h9, h9', h10⟩
  · refine owns_keep h4 fun b hb => k.block b (owns_ge h4 hb).2 fun hx => ?_
    simp at hx
    subst hx
    exact own_ne h4 h1.row (by decide) hb
  · refine owns_keep h5 fun b hb => k.block b (owns_ge h5 hb).2 fun hx => ?_
    simp at hx
    subst hx
    exact own_ne h5 h1.row (by decide) hb
theorem GmSt.leaf {w' : World} {a' : Nat} (h : GmSt w base g gs A c T a G seen Va Vt Vs) (k : Kept [g] w w') (hp : PkIn w' g A c T a' (.map (some gs) :: gmV G Va Vt)) (ha : a ≤ a') : GmSt w' base g gs A c T a' G seen Va Vt Vs :=
  h.step (n' := G.n) k hp ha h.days
theorem GmSt.once {w' : World} {seen' : List (List Nat)} (h : GmSt w base g gs A c T a G seen Va Vt Vs) (k : Kept [gs] w w') (hs : SeenIn w' gs seen') (hp : PkIn w' g A c T a (.map (some gs) :: gmV G Va Vt)) (h9 : asc "days" ∉ seen' → asc "days" ∉ seen) : GmSt w' base g gs A c T a G seen' Va Vt Vs := by
  obtain ⟨h1, h2, h3, h4, h5, h6, h7, h8, h9', h10⟩ := h
  refine ⟨hp, hs, h3.mono fun v L hv => hv.kt (KT.of_kept k) (fun x hx => by simp at hx; subst hx; exact not_int_seen h2), ?_, ?_, h6, h7, fun e => h8 (h9 e), h9', h10⟩
  · refine owns_keep h4 fun b hb => k.block b (owns_ge h4 hb).2 fun hx => ?_
    simp at hx
    subst hx
    exact own_ne_seen h4 h2 hb
  · refine owns_keep h5 fun b hb => k.block b (owns_ge h5 hb).2 fun hx => ?_
    simp at hx
    subst hx
    exact own_ne_seen h5 h2 hb
theorem GmSt.below {w' : World} (h : GmSt w base g gs A c T a G seen Va Vt Vs) (k : Below w.heap.size w w') : GmSt w' base g gs A c T a G seen Va Vt Vs :=
  h.leaf (Kept.of_below k) (h.pk.below k) (Nat.le_refl _)
theorem GmSt.keptB {X : List Nat} {w' : World} (h : GmSt w base g gs A c T a G seen Va Vt Vs) (k : Kept X w w') (hX : ∀ x ∈ X, base ≤ x) : Below base w w' :=
  ⟨k.os, k.tape, k.output, k.size, fun i hi => k.block i (by have := h.pk.row.lt; have := h.hg; omega) fun hx => by have := hX i hx; omega⟩
/-- What a part of the reader gives: the game so far. -/
def ResG (base g gs : Nat) (A : Option Addr) (c : Nat) (T : List Tk) (w : World) (r : Except (Int × List Tk) ((Gm × List (List Nat)) × List Tk)) (e : Ending) (w' : World) : Prop := Below base w w' ∧ match r with
  | .ok x => e = .returned (.tuple #[]) ∧ ∃ a' Va Vt Vs, x.2 = T.drop a' ∧ GmSt w' base g gs A c T a' x.1.1 x.1.2 Va Vt Vs
  | .error x => e = .panicked [{ v := failV x.1 (hdT x.2).line, recovered := false }]
theorem ResG.ok {r : Except (Int × List Tk) ((Gm × List (List Nat)) × List Tk)} {w' : World} {G' : Gm} {seen' : List (List Nat)} {a' : Nat} (hr : r = .ok ((G', seen'), T.drop a')) (k : Below base w w') (h : GmSt w' base g gs A c T a' G' seen' Va Vt Vs) : ResG base g gs A c T w r (.returned (.tuple #[])) w' := by
  subst hr; exact ⟨k, rfl, a', Va, Vt, Vs, rfl, h⟩
theorem ResG.err {r : Except (Int × List Tk) ((Gm × List (List Nat)) × List Tk)} {w' : World} {e : Int} {L : List Tk} (hr : r = .error (e, L)) (k : Below base w w') : ResG base g gs A c T w r (.panicked [{ v := failV e (hdT L).line, recovered := false }]) w' := by
  subst hr; exact ⟨k, rfl⟩
theorem ResG.use {P : Program} {f : FuncId} {args : Array Value} {r : Except (Int × List Tk) ((Gm × List (List Nat)) × List Tk)} {R : Value → World → Prop} {X : List PanicEntry → World → Prop} (hc : Calls P f args w (ResG base g gs A c T w r))
    (h1 : ∀ G' seen' a' Va Vt Vs w', r = .ok ((G', seen'), T.drop a') → Below base w w' → GmSt w' base g gs A c T a' G' seen' Va Vt Vs → R (.tuple #[]) w')
    (h2 : ∀ e L w', r = .error (e, L) → Below base w w' → X [{ v := failV e (hdT L).line, recovered := false }] w') : Calls P f args w (Ends R X) := by
  refine hc.mono fun e w' h => ?_
  obtain ⟨k, h⟩ := h
  cases hr : r with
  | ok x =>
    rw [hr] at h
    obtain ⟨⟨G', seen'⟩, L⟩ := x
    obtain ⟨rfl, a', Va', Vt', Vs', ha, hp⟩ := h
    dsimp only at ha
    subst ha
    exact h1 G' seen' a' Va' Vt' Vs' w' hr k hp
  | error x =>
    rw [hr] at h
    obtain ⟨e', L⟩ := x
    have h : e = _ := h
    subst h
    exact h2 e' L w' hr k
/-- One record more in a row of the call's own: what else stands. -/
theorem push2 {P : Program} {sz e n cp T2 ty bytes : Nat} {A0 : Option Addr} {xs news : List Value} (h : w.ownsRow base e sz (.slice A0 n cp) n xs) (hb : base ≤ w.heap.size) (hI : sliceI P T2 = some (e, sz, bytes)) (hn : news.length = sz) (h1 : ∀ u ∈ news, u.oneCell' = true)
    (h63 : n + 1 ≤ 1000000000) (hby : bytes ≤ 10000) :
    ∃ A' c' w2, vAppend P T2 T2 ty (.slice A0 n cp) (.slice (some ⟨w.heap.size, 0, none⟩) 1 1) (w.alloc (.cells news.toArray e)) = .ok (.value (.slice A' (n + 1) c')) w2 ∧
      w2.ownsRow base e sz (.slice A' (n + 1) c') (n + 1) (xs ++ news) ∧ Below base w w2 ∧ w.heap.size ≤ w2.heap.size ∧ ∀ k, k < w.heap.size → (Value.slice A0 n cp).ownBlock ≠ some k → w2.heap[k]? = w.heap[k]? := by
  have hba := below_alloc w (.cells news.toArray e)
  obtain ⟨A', c', w2, he, ho, hg', hbk⟩ := vAppend_own (P := P) (ty := ty) (m := 1) (c := 1) (b := w.heap.size) (o := 0) (news := news) hI (owns_below h hba) (by rw [hn, Nat.one_mul])
    (fun j u hu => by rw [Nat.zero_add, (new_block w news.toArray e).1 j]; simpa using hu) h1 h63 hby (by rw [World.size_alloc]; omega)
  have hgrow : Below base (w.alloc (.cells news.toArray e)) w2 := grown_below hg' (fun g hg => (owns_ge h hg).1) (by rw [World.size_alloc]; omega)
  have hB := (hba.mono hb).trans hgrow
  refine ⟨A', c', w2, he, ho, hB, hB.size, fun k hk hne => ?_⟩
  exact (hg'.block k (by rw [World.size_alloc]; omega) (fun e => hne e.symm)).trans (hba.block k hk)
end
end Go.Proofs.YtbdkggnajipdhaaGreatDoor
/- The printer's steps beside a value that it reads: one state, one lemma a step. -/
namespace Go.Proofs.YtbdkggnajipdhaaGreatDoor
open Go.RowKit
set_option maxRecDepth 100000
/-- The printer at block g; the value that is read at block b; B bounds the text. -/
structure Pst (g b : Nat) (T : TypeId) (cs : List Value) (w wi : World) (p : Pr) (B : Nat) : Prop where
  pb : PbIn g wi p
  kb : KB g w wi
  row : Row wi b T cs
  laid : Laid wi
  le : p.X.length ≤ B
  lo : 32768 ≤ B
  hg : 9 ≤ g
  ne : b ≠ g
  nt : T ≠ 5
section
variable {g b B : Nat} {T : TypeId} {cs : List Value} {w wi w' : World} {p p' : Pr}
theorem Pst.next (h : Pst g b T cs w wi p B) {B' : Nat} (h1 : PbIn g w' p') (k1 : KB g wi w') (hl : p'.X.length ≤ B') (hB : B ≤ B') : Pst g b T cs w w' p' B' :=
  ⟨h1, h.kb.trans k1, h.row.kb k1 h.ne h.nt, h.laid.kb k1 h.hg, hl, Nat.le_trans h.lo hB, h.hg, h.ne, h.nt⟩
theorem Pst.of_box (h : PbIn g w p) (hW : Laid w) (hg : 9 ≤ g) (hT : T ≠ 5) (hl : p.X.length ≤ B) (hB : 32768 ≤ B) : Pst g w.heap.size T cs w (w.alloc (.cells cs.toArray T)) p B :=
  ⟨h.alloc _, (KB.refl g w).alloc (by have := h.lt; omega) _, Row.new w T cs, hW.below (below_alloc w _) hW.size, hl, hB, hg, by have := h.lt; omega, hT⟩
theorem ws1_len (p : Pr) (s : ByteArray) : (p.ws [bs s]).X.length = p.X.length + (1 + s.size) := by
  rw [ws_len]; simp [bs_len]; omega
theorem begin_len (p : Pr) (s : ByteArray) : (p.begin (bs s)).X.length = p.X.length + (2 + s.size) := by
  unfold Pr.begin
  rw [ws1_len, add_len]
  simp; omega
theorem fin_len (p : Pr) : p.fin.X.length = p.X.length + 2 := by
  show (p.add (asc ";\n")).X.length = _
  rw [add_len]; rfl
theorem opt_len (p : Pr) (s : ByteArray) (n std : Int) (hs : s.size ≤ 100) (hl : p.X.length ≤ B) (hB : 32768 ≤ B) : (p.opt (bs s) n std).X.length ≤ B + 200 := by
  unfold Pr.opt
  split
  · omega
  · rw [fin_len]
    have := nums_max [n] (p.begin (bs s))
    rw [begin_len] at this
    omega
theorem hits_len (p : Pr) (s : ByteArray) (n : Int) (hs : s.size ≤ 100) (hl : p.X.length ≤ B) (hB : 32768 ≤ B) : (p.hits (bs s) n).X.length ≤ B + 200 := by
  unfold Pr.hits
  split
  · omega
  · have := nums_max [n] (p.ws [bs s])
    rw [ws1_len] at this
    omega
theorem nm_len (p : Pr) (s : ByteArray) : (p.nm s).X.length ≤ p.X.length + (1 + s.size) := by
  unfold Pr.nm
  split
  · exact Nat.le_add_right _ _
  · rw [ws1_len]; exact Nat.le_refl _
theorem qReq (h : Pst g b T cs w wi p B) (c : Bool) : Calls Tryz.prog 37 #[.pointer (some ⟨g, 0, none⟩), .bool c] wi fun e w' => e = .returned (.tuple #[]) ∧ Pst g b T cs w w' (p.req c) B := by
  refine (pbRequire_any h.pb c).mono ?_
  rintro e w1 ⟨rfl, h1, k1⟩
  exact ⟨rfl, h.next h1 k1 h.le (Nat.le_refl _)⟩
theorem qBegin (h : Pst g b T cs w wi p B) (s : ByteArray) (hs : s.size ≤ 100) (hB : B ≤ 400000000) : Calls Tryz.prog 74 #[.pointer (some ⟨g, 0, none⟩), .string s] wi fun e w' => e = .returned (.tuple #[]) ∧ Pst g b T cs w w' (p.begin (bs s)) (B + 102) := by
  have hl := h.le
  refine (pbBegin_any h.pb s (by omega)).mono ?_
  rintro e w1 ⟨rfl, h1, k1⟩
  exact ⟨rfl, h.next h1 k1 (by rw [begin_len]; omega) (by omega)⟩
theorem qEnd (h : Pst g b T cs w wi p B) (hB : B ≤ 400000000) : Calls Tryz.prog 76 #[.pointer (some ⟨g, 0, none⟩)] wi fun e w' => e = .returned (.tuple #[]) ∧ Pst g b T cs w w' p.fin (B + 2) := by
  have hl := h.le
  refine (pbEnd_any h.pb (by omega)).mono ?_
  rintro e w1 ⟨rfl, h1, k1⟩
  exact ⟨rfl, h.next h1 k1 (by rw [fin_len]; omega) (by omega)⟩
theorem qWord (h : Pst g b T cs w wi p B) (s : ByteArray) (hs : s.size ≤ 300) (hB : B ≤ 400000000) :
    Calls Tryz.prog 73 #[.pointer (some ⟨g, 0, none⟩), .slice (some ⟨wi.heap.size, 0, none⟩) 1 1] (wi.alloc (.cells #[.string s] 9)) fun e w' => e = .returned (.tuple #[]) ∧ Pst g b T cs w w' (p.ws [bs s]) (B + 301) := by
  have hl := h.le
  have hl1 := ws1_len p s
  refine (pbWords_any h.pb [s] (by simp) (by simp only [List.map_cons, List.map_nil]; omega)).mono ?_
  rintro e w1 ⟨rfl, h1, k1⟩
  exact ⟨rfl, h.next h1 k1 (by omega) (by omega)⟩
theorem qNum (h : Pst g b T cs w wi p B) (n : Int) (hB : B ≤ 400000000) :
    Calls Tryz.prog 75 #[.pointer (some ⟨g, 0, none⟩), .slice (some ⟨wi.heap.size, 0, none⟩) 1 1] (wi.alloc (.cells #[.int .i64 n] 3)) fun e w' => e = .returned (.tuple #[]) ∧ Pst g b T cs w w' (p.nums [n]) (B + 19) := by
  have hl := h.le
  have hlo := h.lo
  refine (pbNums_any h.pb [n] h.laid h.hg (by simp) (by omega)).mono ?_
  rintro e w1 ⟨rfl, h1, k1⟩
  exact ⟨rfl, h.next h1 k1 (by have := nums_max [n] p; omega) (by omega)⟩
theorem qNum2 (h : Pst g b T cs w wi p B) (n m : Int) (hB : B ≤ 400000000) :
    Calls Tryz.prog 75 #[.pointer (some ⟨g, 0, none⟩), .slice (some ⟨wi.heap.size, 0, none⟩) 2 2] (wi.alloc (.cells #[.int .i64 n, .int .i64 m] 3)) fun e w' => e = .returned (.tuple #[]) ∧ Pst g b T cs w w' (p.nums [n, m]) (B + 19) := by
  have hl := h.le
  have hlo := h.lo
  refine (pbNums_any h.pb [n, m] h.laid h.hg (by simp) (by omega)).mono ?_
  rintro e w1 ⟨rfl, h1, k1⟩
  exact ⟨rfl, h.next h1 k1 (by have := nums_max [n, m] p; omega) (by omega)⟩
theorem qNumbers {L : List Int} {A : Option Addr} {c : Nat} (h : Pst g b T cs w wi p B) (hA : ∀ w', KB g wi w' → Arr w' A 1 (L.map fun n => [Value.int .i64 n])) (hl : L.length ≤ 1000000000) (hB : B ≤ 400000000) :
    Calls Tryz.prog 75 #[.pointer (some ⟨g, 0, none⟩), .slice A L.length c] wi fun e w' => e = .returned (.tuple #[]) ∧ Pst g b T cs w w' (p.nums L) (B + 19) := by
  have hl := h.le
  have hlo := h.lo
  refine (pbNumbers_any h.pb hA h.laid h.hg (by omega) (by omega)).mono ?_
  rintro e w1 ⟨rfl, h1, k1⟩
  exact ⟨rfl, h.next h1 k1 (by have := nums_max L p; omega) (by omega)⟩
theorem qOpt (h : Pst g b T cs w wi p B) (s : ByteArray) (n std : Int) (hs : s.size ≤ 100) (hB : B ≤ 400000000) : Calls Tryz.prog 34 #[.pointer (some ⟨g, 0, none⟩), .string s, .int .i64 n, .int .i64 std] wi fun e w' =>
    e = .returned (.tuple #[]) ∧ Pst g b T cs w w' (p.opt (bs s) n std) (B + 200) := by
  have hl := h.le
  refine (pbOption_any h.pb s n std h.laid h.hg hs (by omega)).mono ?_
  rintro e w1 ⟨rfl, h1, k1⟩
  exact ⟨rfl, h.next h1 k1 (opt_len p s n std hs h.le h.lo) (by omega)⟩
theorem qHits (h : Pst g b T cs w wi p B) (s : ByteArray) (n : Int) (hs : s.size ≤ 100) (hB : B ≤ 400000000) : Calls Tryz.prog 77 #[.pointer (some ⟨g, 0, none⟩), .string s, .int .i64 n] wi fun e w' =>
    e = .returned (.tuple #[]) ∧ Pst g b T cs w w' (p.hits (bs s) n) (B + 200) := by
  have hl := h.le
  refine (pbHits_any h.pb s n h.laid h.hg hs (by omega)).mono ?_
  rintro e w1 ⟨rfl, h1, k1⟩
  exact ⟨rfl, h.next h1 k1 (hits_len p s n hs h.le h.lo) (by omega)⟩
theorem qName (h : Pst g b T cs w wi p B) (s : ByteArray) (hs : s.size ≤ 1000000) (hB : B ≤ 400000000) : Calls Tryz.prog 31 #[.pointer (some ⟨g, 0, none⟩), .string s] wi fun e w' => e = .returned (.tuple #[]) ∧ Pst g b T cs w w' (p.nm s) (B + 1000001) := by
  have hl := h.le
  refine (pbName_any h.pb s (by omega)).mono ?_
  rintro e w1 ⟨rfl, h1, k1⟩
  exact ⟨rfl, h.next h1 k1 (by have := nm_len p s; omega) (by omega)⟩
theorem qStr (h : Pst g b T cs w wi p B) (s : ByteArray) (hs : s.size ≤ 300) (hB : B ≤ 400000000) : Calls Tryz.prog 30 #[.pointer (some ⟨g, 0, none⟩), .string s] wi fun e w' => e = .returned (.tuple #[.int .i64 s.size, .nilIface]) ∧ Pst g b T cs w w' (p.add (bs s)) (B + 300) := by
  have hl := h.le
  refine (pbStr_any h.pb s (by omega)).mono ?_
  rintro e w1 ⟨rfl, h1, k1⟩
  exact ⟨rfl, h.next h1 k1 (by rw [add_len, bs_len]; omega) (by omega)⟩
/-- The printer gets bad. -/
theorem Pst.spoil (h : Pst g b T cs w wi p B) : ∃ c2, wi.cell? ⟨g, 2, none⟩ = some c2 ∧ wi.frozen? ⟨g, 2, none⟩ = false ∧ Pst g b T cs w (wi.setCell ⟨g, 2, none⟩ (.bool true)) ⟨p.X, true⟩ B := by
  obtain ⟨q, A, c, h1⟩ := id h.pb
  refine ⟨_, h1.row.cell (i := 2) rfl, h1.row.frozen 2, ?_⟩
  exact h.next ⟨q, A, c, bad_set h1 true⟩ ⟨(Below.refl _ wi).setCell (p := ⟨g, 2, none⟩) (Nat.le_refl _) _, Keeps.setCell _ _ _ _⟩ h.le (Nat.le_refl _)
theorem Pst.bad (h : Pst g b T cs w wi p B) : wi.cell? ⟨g, 2, none⟩ = some (.bool p.bad) := by
  obtain ⟨q, A, c, h1⟩ := id h.pb
  exact h1.row.cell (i := 2) rfl
theorem Pst.cell (h : Pst g b T cs w wi p B) (i : Nat) {v : Value} (hv : cs[i]? = some v) : wi.cell? ⟨b, i, none⟩ = some v := h.row.cell hv
end
end Go.Proofs.YtbdkggnajipdhaaGreatDoor
