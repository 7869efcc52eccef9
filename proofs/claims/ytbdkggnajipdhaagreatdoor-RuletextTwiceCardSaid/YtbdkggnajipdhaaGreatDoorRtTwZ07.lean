/- Texts laid one behind the other: LexA, LexB, LexD, PaA, PaB. Each says at its head what it proves. -/
import Derived.Test.YtbdkggnajipdhaaGreatDoorRtTwZ06
set_option linter.unusedSimpArgs false
/- Walks: kinds of bytes, span, piece. -/
namespace Go.Proofs.YtbdkggnajipdhaaGreatDoor
open Nat (reduceAdd reduceMul reduceSub reduceEqDiff reduceLT reduceLeDiff)
open Go.RowKit
set_option maxRecDepth 100000
def blankI (c : Int) : Bool := decide (c = 32) || decide (c = 9) || decide (c = 13) || decide (c = 10)
def letterI (c : Int) : Bool := decide (97 ≤ c) && decide (c ≤ 122)
def digitI (c : Int) : Bool := decide (48 ≤ c) && decide (c ≤ 57)
def wordI (c : Int) : Bool := letterI c || digitI c || decide (c = 45)
def remI (c : Int) : Bool := !decide (c = 10)
def markI (c : Int) : Bool := decide (c = 123) || decide (c = 125) || decide (c = 59) || decide (c = 58)
theorem isBlank_any (c : Int) (w : World) : Calls Tryz.prog 91 #[.int .i32 c] w fun e w' => e = .returned (.bool (blankI c)) ∧ w = w' := by
  refine calls_W (l := [_]) Tryz.func91 rfl _ Tryz.ntmps91 (by simp) ?_
  simp +contextual (maxSteps := 2000000) (disch := first | omega | (simp only [SZ]; first | done | omega) | (simp only [TS] at *; omega)) only [RZ, ovw, oneC, reduceAdd, reduceMul, reduceSub, reduceEqDiff, reduceLT, ↓reduceIte, Int.reduceToNat, reduceLeDiff]
  exact rfl
theorem isDigit_any (c : Int) (w : World) : Calls Tryz.prog 96 #[.int .i32 c] w fun e w' => e = .returned (.bool (digitI c)) ∧ w = w' := by
  refine calls_W (l := [_]) Tryz.func96 rfl _ Tryz.ntmps96 (by simp) ?_
  simp +contextual (maxSteps := 2000000) (disch := first | omega | (simp only [SZ]; first | done | omega) | (simp only [TS] at *; omega)) only [RZ, ovw, oneC, reduceAdd, reduceMul, reduceSub, reduceEqDiff, reduceLT, ↓reduceIte, Int.reduceToNat, reduceLeDiff]
  exact rfl
theorem isLetter_any (c : Int) (w : World) : Calls Tryz.prog 94 #[.int .i32 c] w fun e w' => e = .returned (.bool (letterI c)) ∧ w = w' := by
  refine calls_W (l := [_]) Tryz.func94 rfl _ Tryz.ntmps94 (by simp) ?_
  simp +contextual (maxSteps := 2000000) (disch := first | omega | (simp only [SZ]; first | done | omega) | (simp only [TS] at *; omega)) only [RZ, ovw, oneC, reduceAdd, reduceMul, reduceSub, reduceEqDiff, reduceLT, ↓reduceIte, Int.reduceToNat, reduceLeDiff]
  exact rfl
theorem inRemark_any (c : Int) (w : World) : Calls Tryz.prog 93 #[.int .i32 c] w fun e w' => e = .returned (.bool (remI c)) ∧ w = w' := by
  refine calls_W (l := [_]) Tryz.func93 rfl _ Tryz.ntmps93 (by simp) ?_
  simp +contextual (maxSteps := 2000000) (disch := first | omega | (simp only [SZ]; first | done | omega) | (simp only [TS] at *; omega)) only [RZ, ovw, oneC, reduceAdd, reduceMul, reduceSub, reduceEqDiff, reduceLT, ↓reduceIte, Int.reduceToNat, reduceLeDiff]
  exact rfl
theorem isMark_any (c : Int) (w : World) : Calls Tryz.prog 98 #[.int .i32 c] w fun e w' => e = .returned (.bool (markI c)) ∧ w = w' := by
  refine calls_W (l := [_]) Tryz.func98 rfl _ Tryz.ntmps98 (by simp) ?_
  simp +contextual (maxSteps := 2000000) (disch := first | omega | (simp only [SZ]; first | done | omega) | (simp only [TS] at *; omega)) only [RZ, ovw, oneC, reduceAdd, reduceMul, reduceSub, reduceEqDiff, reduceLT, ↓reduceIte, Int.reduceToNat, reduceLeDiff]
  exact rfl
theorem inWord_any (c : Int) (w : World) : Calls Tryz.prog 95 #[.int .i32 c] w fun e w' => e = .returned (.bool (wordI c)) ∧ w = w' := by
  refine calls_W (l := [_]) Tryz.func95 rfl _ Tryz.ntmps95 (by simp) ?_
  simp +contextual (maxSteps := 2000000) (disch := first | omega | (simp only [SZ]; first | done | omega) | (simp only [TS] at *; omega)) only [RZ, ovw, oneC, reduceAdd, reduceMul, reduceSub, reduceEqDiff, reduceLT, ↓reduceIte, Int.reduceToNat, reduceLeDiff]
  refine (isLetter_any c _).mono ?_
  rintro e w' ⟨rfl, rfl⟩
  refine ⟨_, rfl, ?_⟩
  simp +contextual (maxSteps := 2000000) (disch := first | omega | (simp only [SZ]; first | done | omega) | (simp only [TS] at *; omega)) only [RZ, ovw, oneC, reduceAdd, reduceMul, reduceSub, reduceEqDiff, reduceLT, ↓reduceIte, Int.reduceToNat, reduceLeDiff]
  refine GB_call (fun _ => isDigit_any c _) ?_
  simp +contextual (maxSteps := 2000000) (disch := first | omega | (simp only [SZ]; first | done | omega) | (simp only [TS] at *; omega)) only [RZ, ovw, oneC, reduceAdd, reduceMul, reduceSub, reduceEqDiff, reduceLT, ↓reduceIte, Int.reduceToNat, reduceLeDiff]
  exact rfl
theorem badNumber_any (s : ByteArray) (w : World) (hs : s.size ≤ 9223372036854775807) : Calls Tryz.prog 97 #[.string s] w fun e w' => e = .returned (.bool (badN s.size (bt s 0))) ∧ w = w' := by
  refine calls_W (l := [_]) Tryz.func97 rfl _ Tryz.ntmps97 (by simp) ?_
  simp +contextual (maxSteps := 2000000) (disch := first | omega | (simp only [SZ]; first | done | omega) | (simp only [TS] at *; omega)) only [RZ, ovw, oneC, reduceAdd, reduceMul, reduceSub, reduceEqDiff, reduceLT, ↓reduceIte, Int.reduceToNat, reduceLeDiff]
  refine ret_bool ?_
  unfold badN
  rw [Bool.eq_iff_iff]
  simp only [Bool.or_eq_true, Bool.and_eq_true, decide_eq_true_eq, beq_iff_eq]
  omega
theorem blankIB (c : Nat) : blankI c = blankB c := by
  unfold blankI blankB; rw [Bool.eq_iff_iff]; simp only [Bool.or_eq_true, Bool.and_eq_true, decide_eq_true_eq, beq_iff_eq]; omega
theorem letterIB (c : Nat) : letterI c = letterB c := by
  unfold letterI letterB; rw [Bool.eq_iff_iff]; simp only [Bool.or_eq_true, Bool.and_eq_true, decide_eq_true_eq, beq_iff_eq]; omega
theorem digitIB (c : Nat) : digitI c = digitB c := by
  unfold digitI digitB; rw [Bool.eq_iff_iff]; simp only [Bool.or_eq_true, Bool.and_eq_true, decide_eq_true_eq, beq_iff_eq]; omega
theorem wordIB (c : Nat) : wordI c = wordB c := by
  have e : decide ((c : Int) = 45) = (c == 45) := by rw [Bool.eq_iff_iff]; simp only [decide_eq_true_eq, beq_iff_eq]; omega
  unfold wordI wordB; rw [letterIB, digitIB, e]
theorem remIB (c : Nat) : remI c = remB c := by
  unfold remI remB; rw [Bool.eq_iff_iff]; simp only [Bool.not_eq_true', decide_eq_false_iff_not, beq_eq_false_iff_ne, ne_eq]; omega
theorem markIB (c : Nat) : markI c = markB c := by
  unfold markI markB; rw [Bool.eq_iff_iff]; simp only [Bool.or_eq_true, Bool.and_eq_true, decide_eq_true_eq, beq_iff_eq]; omega
/-- A rune at a place: its bytes. -/
theorem get_bt {s : ByteArray} {i : Nat} (h : i < s.size) : (s.get! i).toNat = bt s i := by
  unfold bt
  have : s.get! i = s.data.toList.getD i 0 := by
    show s.data[i]! = _
    have h' : i < s.data.size := h
    rw [getElem!_pos s.data i h', List.getD_eq_getElem?_getD, List.getElem?_eq_getElem (by simpa using h')]
    simp
  rw [this]
theorem decode_lo {s : ByteArray} {i : Nat} (h : i < s.size) (hb : bt s i < 128) : Utf8.decode s i = (bt s i, 1) := by
  have e := get_bt h
  unfold Utf8.decode
  simp only [Nat.add_zero, e]
  rw [if_pos hb]
theorem decode_hi {s : ByteArray} {i : Nat} (h : i < s.size) (hb : 128 ≤ bt s i) : 128 ≤ (Utf8.decode s i).1 ∧ 1 ≤ (Utf8.decode s i).2 ∧ i + (Utf8.decode s i).2 ≤ s.size ∧ ∀ j, j < (Utf8.decode s i).2 → 128 ≤ bt s (i + j) := by
  have e := get_bt h
  have c : ∀ k, (decide (i + k < s.size) && (s.get! (i + k)).toNat / 64 == 2) = true → i + k < s.size ∧ 128 ≤ bt s (i + k) := by
    intro k hk
    rw [Bool.and_eq_true, decide_eq_true_eq, beq_iff_eq] at hk
    rw [get_bt hk.1] at hk
    exact ⟨hk.1, by omega⟩
  have one : ∀ j, j < 1 → 128 ≤ bt s (i + j) := by
    intro j hj
    obtain rfl : j = 0 := by omega
    exact hb
  unfold Utf8.decode Utf8.runeError
  simp only [Nat.add_zero, e]
  rw [if_neg (by omega)]
  split
  · rename_i h1
    rw [Bool.and_eq_true] at h1
    have c1 := c 1 h1.2
    split
    · refine ⟨by simp only; omega, by simp, by simp only; omega, fun j hj => ?_⟩
      simp only at hj
      match j, hj with
      | 0, _ => exact hb
      | 1, _ => exact c1.2
    · exact ⟨by simp, by simp, by simp only; omega, one⟩
  split
  · rename_i h1
    rw [Bool.and_eq_true, Bool.and_eq_true] at h1
    have c1 := c 1 h1.1.2
    have c2 := c 2 h1.2
    split
    · rename_i h2
      rw [Bool.and_eq_true, decide_eq_true_eq] at h2
      refine ⟨by simp only; omega, by simp, by simp only; omega, fun j hj => ?_⟩
      simp only at hj
      match j, hj with
      | 0, _ => exact hb
      | 1, _ => exact c1.2
      | 2, _ => exact c2.2
    · exact ⟨by simp, by simp, by simp only; omega, one⟩
  split
  · rename_i h1
    rw [Bool.and_eq_true, Bool.and_eq_true, Bool.and_eq_true] at h1
    have c1 := c 1 h1.1.1.2
    have c2 := c 2 h1.1.2
    have c3 := c 3 h1.2
    split
    · rename_i h2
      rw [Bool.and_eq_true, decide_eq_true_eq] at h2
      refine ⟨by simp only; omega, by simp, by simp only; omega, fun j hj => ?_⟩
      simp only at hj
      match j, hj with
      | 0, _ => exact hb
      | 1, _ => exact c1.2
      | 2, _ => exact c2.2
      | 3, _ => exact c3.2
    · exact ⟨by simp, by simp, by simp only; omega, one⟩
  exact ⟨by simp, by simp, by simp only; omega, one⟩
theorem decode_top (s : ByteArray) (i : Nat) : (Utf8.decode s i).1 ≤ 1114111 := by
  have hb := UInt8.toNat_lt (s.get! i)
  have hb' : (s.get! (i + 0)).toNat < 256 := by rw [Nat.add_zero]; exact hb
  unfold Utf8.decode Utf8.runeError
  simp only
  repeat' split
  all_goals first
    | (simp only; omega)
    | (rename_i h; simp only [Utf8.valid, Bool.and_eq_true, Bool.or_eq_true, decide_eq_true_eq] at h; simp only; omega)
def iterPos (w : World) (g : Nat) : Nat := match w.heap[g]? with
  | some (.stringIter _ p) => p
  | _ => 0
theorem span_any (s : ByteArray) (f : FuncId) (p : Int → Bool) (q : Nat → Bool) (hi : Bool) (w : World) (hs : s.size ≤ 9223372036854775807) (hb : bodyB Tryz.prog f = true)
    (hf : ∀ c w, Calls Tryz.prog f #[.int .i32 c] w fun e w' => e = .returned (.bool (p c)) ∧ w = w')
    (h1 : ∀ c : Nat, p c = q c) (h2 : ∀ c : Nat, 128 ≤ c → q c = hi) :
    Calls Tryz.prog 92 #[.string s, .func (.func f) #[] #[]] w fun e w' => e = .returned (.int .i64 (spn q (bs s))) ∧ Below w.heap.size w w' := by
  refine calls_W (l := [_, _]) Tryz.func92 rfl _ Tryz.ntmps92 (by simp) ?_
  simp +contextual (maxSteps := 2000000) (disch := first | omega | (simp only [SZ]; first | done | omega) | (simp only [TS] at *; omega)) only [RZ, ovw, oneC, reduceAdd, reduceMul, reduceSub, reduceEqDiff, reduceLT, ↓reduceIte, Int.reduceToNat, reduceLeDiff]
  refine Raw_loop (fun σ w' => Below w.heap.size w w' ∧ w.heap.size < w'.heap.size ∧ σ 0 = .string s ∧ σ 1 = .func (.func f) #[] #[] ∧ σ 8 = .pointer (some ⟨w.heap.size, 0, none⟩) ∧ ∃ pos, pos ≤ s.size ∧ w'.heap[w.heap.size]? = some (.stringIter s pos) ∧ ∀ j, j < pos → q (bt s j) = true)
    (fun _ w' => s.size - iterPos w' w.heap.size) ?_ ?_
  · simp +contextual (maxSteps := 2000000) (disch := first | omega | (simp only [SZ]; first | done | omega) | (simp only [TS] at *; omega)) only [RZ, ovw, oneC, reduceAdd, reduceMul, reduceSub, reduceEqDiff, reduceLT, ↓reduceIte, Int.reduceToNat, reduceLeDiff]
    exact ⟨below_alloc _ _, by simp, 0, Nat.zero_le _, heap_alloc_new _ _, fun j h => absurd h (Nat.not_lt_zero _)⟩
  rintro σ w' ⟨hB, hsz, e0, e1, e8, pos, hp, hit, hq⟩ K hK
  by_cases hps : pos < s.size
  · have hn := vNext_some (P := Tryz.prog) (ty := 0) hit hps
    have hdec : (Utf8.decode s pos).1 ≤ 1114111 ∧ 1 ≤ (Utf8.decode s pos).2 ∧ pos + (Utf8.decode s pos).2 ≤ s.size ∧ (p (Utf8.decode s pos).1 = q (bt s pos)) ∧ ∀ j, j < (Utf8.decode s pos).2 → q (bt s (pos + j)) = q (bt s pos) := by
      by_cases hlo : bt s pos < 128
      · rw [decode_lo hps hlo]
        refine ⟨by simp only; omega, Nat.le_refl _, hps, h1 _, fun j hj => ?_⟩
        obtain rfl : j = 0 := by simp only at hj; omega
        rfl
      · obtain ⟨d1, d2, d3, d4⟩ := decode_hi hps (by omega)
        refine ⟨decode_top s pos, d2, d3, ?_, fun j hj => ?_⟩
        · rw [h1, h2 _ d1, h2 _ (by omega)]
        · rw [h2 _ (d4 j hj), h2 _ (by omega)]
    obtain ⟨hd0, hd1, hd2, hd3, hd4⟩ := hdec
    generalize Utf8.decode s pos = cd at *
    have hb2 : Below w.heap.size w (setO w' w.heap.size (.stringIter s (pos + cd.2))) := setO_below hB (Nat.le_refl _) _
    have hi2 : (setO w' w.heap.size (.stringIter s (pos + cd.2))).heap[w.heap.size]? = some (.stringIter s (pos + cd.2)) := setO_at _ hsz
    have hs2 : w.heap.size < (setO w' w.heap.size (.stringIter s (pos + cd.2))).heap.size := by rw [setO_size]; exact hsz
    have hmu : iterPos w' w.heap.size = pos := by unfold iterPos; rw [hit]
    simp +contextual (maxSteps := 2000000) (disch := first | omega | (simp only [SZ]; first | done | omega) | (simp only [TS] at *; omega)) only [RZ, ovw, oneC, reduceAdd, reduceMul, reduceSub, reduceEqDiff, reduceLT, ↓reduceIte, Int.reduceToNat, reduceLeDiff,  e0, e1, e8, hn]
    generalize setO w' w.heap.size (.stringIter s (pos + cd.2)) = w2 at *
    have hmu2 : iterPos w2 w.heap.size = pos + cd.2 := by unfold iterPos; rw [hi2]
    refine W_if_t rfl ?_
    simp +contextual (maxSteps := 2000000) (disch := first | omega | (simp only [SZ]; first | done | omega) | (simp only [TS] at *; omega)) only [RZ, ovw, oneC, reduceAdd, reduceMul, reduceSub, reduceEqDiff, reduceLT, ↓reduceIte, Int.reduceToNat, reduceLeDiff,  e0, e1, e8, hb]
    refine (hf _ _).mono ?_
    rintro e w3 ⟨rfl, rfl⟩
    refine ⟨_, rfl, ?_⟩
    rw [hd3]
    simp +contextual (maxSteps := 2000000) (disch := first | omega | (simp only [SZ]; first | done | omega) | (simp only [TS] at *; omega)) only [RZ, ovw, oneC, reduceAdd, reduceMul, reduceSub, reduceEqDiff, reduceLT, ↓reduceIte, Int.reduceToNat, reduceLeDiff,  e0, e1, e8]
    (refine W_if rfl (fun hc => ?_) (fun hc => ?_) <;> (try simp only [TS] at hc))
    · simp +contextual (maxSteps := 2000000) (disch := first | omega | (simp only [SZ]; first | done | omega) | (simp only [TS] at *; omega)) only [RZ, ovw, oneC, reduceAdd, reduceMul, reduceSub, reduceEqDiff, reduceLT, ↓reduceIte, Int.reduceToNat, reduceLeDiff]
      refine ⟨?_, hb2⟩
      rw [show spn q (bs s) = pos from spn_is _ _ (fun j hj => ⟨_, bs_get (by omega), hq j hj⟩) (fun c hc' => by rw [bs_get hps] at hc'; injection hc' with hc'; rw [← hc']; exact hc)]
    · simp +contextual (maxSteps := 2000000) (disch := first | omega | (simp only [SZ]; first | done | omega) | (simp only [TS] at *; omega)) only [RZ, ovw, oneC, reduceAdd, reduceMul, reduceSub, reduceEqDiff, reduceLT, ↓reduceIte, Int.reduceToNat, reduceLeDiff]
      refine hK _ _ ⟨hb2, hs2, e0, e1, e8, pos + cd.2, hd2, hi2, fun j hj => ?_⟩ ?_
      · by_cases hj2 : j < pos
        · exact hq j hj2
        · have := hd4 (j - pos) (by omega)
          rw [show pos + (j - pos) = j from by omega] at this
          rw [this]; exact hc
      · rw [hmu, hmu2]; omega
  · have hn := vNext_end (P := Tryz.prog) (ty := 0) hit hps
    simp +contextual (maxSteps := 2000000) (disch := first | omega | (simp only [SZ]; first | done | omega) | (simp only [TS] at *; omega)) only [RZ, ovw, oneC, reduceAdd, reduceMul, reduceSub, reduceEqDiff, reduceLT, ↓reduceIte, Int.reduceToNat, reduceLeDiff,  e0, e1, e8, hn]
    refine W_if_f rfl ?_
    simp +contextual (maxSteps := 2000000) (disch := first | omega | (simp only [SZ]; first | done | omega) | (simp only [TS] at *; omega)) only [RZ, ovw, oneC, reduceAdd, reduceMul, reduceSub, reduceEqDiff, reduceLT, ↓reduceIte, Int.reduceToNat, reduceLeDiff,  e0]
    refine ⟨?_, hB⟩
    rw [show spn q (bs s) = s.size from spn_is _ _ (fun j hj => ⟨_, bs_get (by omega), hq j (by omega)⟩) (fun c hc' => by rw [List.getElem?_eq_none (by rw [bs_len]; omega)] at hc'; cases hc')]
end Go.Proofs.YtbdkggnajipdhaaGreatDoor
/- Walks: piece. -/
namespace Go.Proofs.YtbdkggnajipdhaaGreatDoor
open Nat (reduceAdd reduceMul reduceSub reduceEqDiff reduceLT reduceLeDiff)
open Go.RowKit
set_option maxRecDepth 100000
theorem span_blank (s : ByteArray) (w : World) (hs : s.size ≤ 9223372036854775807) : Calls Tryz.prog 92 #[.string s, .func (.func 91) #[] #[]] w fun e w' => e = .returned (.int .i64 (spn blankB (bs s))) ∧ Below w.heap.size w w' :=
  span_any s _ blankI blankB false w hs (by kernel_rfl) (fun c w => isBlank_any c w) blankIB (fun c h => by unfold blankB; simp only [Bool.or_eq_false_iff, beq_eq_false_iff_ne]; omega)
theorem span_word (s : ByteArray) (w : World) (hs : s.size ≤ 9223372036854775807) : Calls Tryz.prog 92 #[.string s, .func (.func 95) #[] #[]] w fun e w' => e = .returned (.int .i64 (spn wordB (bs s))) ∧ Below w.heap.size w w' :=
  span_any s _ wordI wordB false w hs (by kernel_rfl) (fun c w => inWord_any c w) wordIB (fun c h => by unfold wordB letterB digitB; simp only [Bool.or_eq_false_iff, Bool.and_eq_false_iff, decide_eq_false_iff_not, beq_eq_false_iff_ne]; omega)
theorem span_digit (s : ByteArray) (w : World) (hs : s.size ≤ 9223372036854775807) : Calls Tryz.prog 92 #[.string s, .func (.func 96) #[] #[]] w fun e w' => e = .returned (.int .i64 (spn digitB (bs s))) ∧ Below w.heap.size w w' :=
  span_any s _ digitI digitB false w hs (by kernel_rfl) (fun c w => isDigit_any c w) digitIB (fun c h => by unfold digitB; simp only [Bool.and_eq_false_iff, decide_eq_false_iff_not]; omega)
theorem span_remark (s : ByteArray) (w : World) (hs : s.size ≤ 9223372036854775807) : Calls Tryz.prog 92 #[.string s, .func (.func 93) #[] #[]] w fun e w' => e = .returned (.int .i64 (spn remB (bs s))) ∧ Below w.heap.size w w' :=
  span_any s _ remI remB true w hs (by kernel_rfl) (fun c w => inRemark_any c w) remIB (fun c h => by unfold remB; simp only [Bool.not_eq_true', beq_eq_false_iff_ne]; omega)
theorem piece_any (s : ByteArray) (w : World) (hs : s.size ≤ 9223372036854775807) (h0 : 0 < s.size) :
    Calls Tryz.prog 50 #[.string s] w fun e w' => e = .returned (.tuple #[.int .i64 (piece (bs s)).1, .int .i64 (piece (bs s)).2]) ∧ Below w.heap.size w w' := by
  refine calls_W (l := [_]) Tryz.func50 rfl _ Tryz.ntmps50 (by simp) ?_
  have hlt := bt_lt s 0
  obtain ⟨r, hr⟩ : ∃ r, bs s = bt s 0 :: r := by
    have h1 := bs_get h0
    cases hb : bs s with
    | nil => rw [hb] at h1; simp at h1
    | cons c r => rw [hb] at h1; simp only [List.getElem?_cons_zero, Option.some.injEq] at h1; exact ⟨r, by rw [h1]⟩
  have hle := spn_le digitB (bs s)
  rw [bs_len] at hle
  generalize hc0 : bt s 0 = c0 at *
  have hP : piece (bs s) = if blankB c0 then (0, spn blankB (bs s)) else if c0 = 35 then (0, spn remB (bs s)) else if letterB c0 then (1, spn wordB (bs s)) else if digitB c0 then (if badN (spn digitB (bs s)) c0 then (2, 0) else (2, spn digitB (bs s))) else if markB c0 then (3, 1) else (0, 0) := by rw [hr, piece]
  rw [hP]
  simp +contextual (maxSteps := 2000000) (disch := first | omega | (simp only [SZ]; first | done | omega) | (simp only [TS] at *; omega)) only [RZ, ovw, oneC, reduceAdd, reduceMul, reduceSub, reduceEqDiff, reduceLT, ↓reduceIte, Int.reduceToNat, reduceLeDiff,  hc0]
  refine (isBlank_any _ _).mono ?_
  rintro e w1 ⟨rfl, rfl⟩
  refine ⟨_, rfl, ?_⟩
  rw [blankIB]
  simp +contextual (maxSteps := 2000000) (disch := first | omega | (simp only [SZ]; first | done | omega) | (simp only [TS] at *; omega)) only [RZ, ovw, oneC, reduceAdd, reduceMul, reduceSub, reduceEqDiff, reduceLT, ↓reduceIte, Int.reduceToNat, reduceLeDiff]
  (refine W_if rfl (fun hc => ?_) (fun hc => ?_) <;> (try simp only [TS] at hc))
  · rw [if_pos hc]
    simp +contextual (maxSteps := 2000000) (disch := first | omega | (simp only [SZ]; first | done | omega) | (simp only [TS] at *; omega)) only [RZ, ovw, oneC, reduceAdd, reduceMul, reduceSub, reduceEqDiff, reduceLT, ↓reduceIte, Int.reduceToNat, reduceLeDiff]
    refine (span_blank s _ hs).mono ?_
    rintro e w2 ⟨rfl, hb⟩
    refine ⟨_, rfl, ?_⟩
    simp +contextual (maxSteps := 2000000) (disch := first | omega | (simp only [SZ]; first | done | omega) | (simp only [TS] at *; omega)) only [RZ, ovw, oneC, reduceAdd, reduceMul, reduceSub, reduceEqDiff, reduceLT, ↓reduceIte, Int.reduceToNat, reduceLeDiff]
    exact ⟨rfl, hb⟩
  rw [if_neg (by rw [hc]; simp)]
  clear hc
  simp +contextual (maxSteps := 2000000) (disch := first | omega | (simp only [SZ]; first | done | omega) | (simp only [TS] at *; omega)) only [RZ, ovw, oneC, reduceAdd, reduceMul, reduceSub, reduceEqDiff, reduceLT, ↓reduceIte, Int.reduceToNat, reduceLeDiff]
  (refine W_if rfl (fun hc => ?_) (fun hc => ?_) <;> (try simp only [TS] at hc))
  · rw [if_pos (by omega)]
    simp +contextual (maxSteps := 2000000) (disch := first | omega | (simp only [SZ]; first | done | omega) | (simp only [TS] at *; omega)) only [RZ, ovw, oneC, reduceAdd, reduceMul, reduceSub, reduceEqDiff, reduceLT, ↓reduceIte, Int.reduceToNat, reduceLeDiff]
    refine (span_remark s _ hs).mono ?_
    rintro e w2 ⟨rfl, hb⟩
    refine ⟨_, rfl, ?_⟩
    simp +contextual (maxSteps := 2000000) (disch := first | omega | (simp only [SZ]; first | done | omega) | (simp only [TS] at *; omega)) only [RZ, ovw, oneC, reduceAdd, reduceMul, reduceSub, reduceEqDiff, reduceLT, ↓reduceIte, Int.reduceToNat, reduceLeDiff]
    exact ⟨rfl, hb⟩
  rw [if_neg (by omega)]
  clear hc
  simp +contextual (maxSteps := 2000000) (disch := first | omega | (simp only [SZ]; first | done | omega) | (simp only [TS] at *; omega)) only [RZ, ovw, oneC, reduceAdd, reduceMul, reduceSub, reduceEqDiff, reduceLT, ↓reduceIte, Int.reduceToNat, reduceLeDiff]
  refine (isLetter_any _ _).mono ?_
  rintro e w1 ⟨rfl, rfl⟩
  refine ⟨_, rfl, ?_⟩
  rw [letterIB]
  simp +contextual (maxSteps := 2000000) (disch := first | omega | (simp only [SZ]; first | done | omega) | (simp only [TS] at *; omega)) only [RZ, ovw, oneC, reduceAdd, reduceMul, reduceSub, reduceEqDiff, reduceLT, ↓reduceIte, Int.reduceToNat, reduceLeDiff]
  (refine W_if rfl (fun hc => ?_) (fun hc => ?_) <;> (try simp only [TS] at hc))
  · rw [if_pos hc]
    simp +contextual (maxSteps := 2000000) (disch := first | omega | (simp only [SZ]; first | done | omega) | (simp only [TS] at *; omega)) only [RZ, ovw, oneC, reduceAdd, reduceMul, reduceSub, reduceEqDiff, reduceLT, ↓reduceIte, Int.reduceToNat, reduceLeDiff]
    refine (span_word s _ hs).mono ?_
    rintro e w2 ⟨rfl, hb⟩
    refine ⟨_, rfl, ?_⟩
    simp +contextual (maxSteps := 2000000) (disch := first | omega | (simp only [SZ]; first | done | omega) | (simp only [TS] at *; omega)) only [RZ, ovw, oneC, reduceAdd, reduceMul, reduceSub, reduceEqDiff, reduceLT, ↓reduceIte, Int.reduceToNat, reduceLeDiff]
    exact ⟨rfl, hb⟩
  rw [if_neg (by rw [hc]; simp)]
  clear hc
  simp +contextual (maxSteps := 2000000) (disch := first | omega | (simp only [SZ]; first | done | omega) | (simp only [TS] at *; omega)) only [RZ, ovw, oneC, reduceAdd, reduceMul, reduceSub, reduceEqDiff, reduceLT, ↓reduceIte, Int.reduceToNat, reduceLeDiff]
  refine (isDigit_any _ _).mono ?_
  rintro e w1 ⟨rfl, rfl⟩
  refine ⟨_, rfl, ?_⟩
  rw [digitIB]
  simp +contextual (maxSteps := 2000000) (disch := first | omega | (simp only [SZ]; first | done | omega) | (simp only [TS] at *; omega)) only [RZ, ovw, oneC, reduceAdd, reduceMul, reduceSub, reduceEqDiff, reduceLT, ↓reduceIte, Int.reduceToNat, reduceLeDiff]
  (refine W_if rfl (fun hc => ?_) (fun hc => ?_) <;> (try simp only [TS] at hc))
  · rw [if_pos hc]
    have hcd := hc
    clear hc
    simp +contextual (maxSteps := 2000000) (disch := first | omega | (simp only [SZ]; first | done | omega) | (simp only [TS] at *; omega)) only [RZ, ovw, oneC, reduceAdd, reduceMul, reduceSub, reduceEqDiff, reduceLT, ↓reduceIte, Int.reduceToNat, reduceLeDiff]
    refine (span_digit s _ hs).mono ?_
    rintro e w2 ⟨rfl, hb⟩
    refine ⟨_, rfl, ?_⟩
    have hn1 : 1 ≤ spn digitB (bs s) := by rw [hr]; exact spn_pos hcd
    have hsz : (s.extract 0 (spn digitB (bs s))).size = spn digitB (bs s) := by rw [← bs_len, bs_extract, List.length_take, List.drop_zero, bs_len]; omega
    have hbt : bt (s.extract 0 (spn digitB (bs s))) 0 = c0 := by
      rw [bt_bs, bs_extract, List.drop_zero, hr, List.getD_eq_getElem?_getD, List.getElem?_take_of_lt (by rw [← hr]; omega)]; rfl
    simp +contextual (maxSteps := 2000000) (disch := first | omega | (simp only [SZ]; first | done | omega) | (simp only [TS] at *; omega)) only [RZ, ovw, oneC, reduceAdd, reduceMul, reduceSub, reduceEqDiff, reduceLT, ↓reduceIte, Int.reduceToNat, reduceLeDiff]
    refine (badNumber_any _ _ (by rw [hsz]; omega)).mono ?_
    rintro e w3 ⟨rfl, rfl⟩
    refine ⟨_, rfl, ?_⟩
    rw [hsz, hbt]
    simp +contextual (maxSteps := 2000000) (disch := first | omega | (simp only [SZ]; first | done | omega) | (simp only [TS] at *; omega)) only [RZ, ovw, oneC, reduceAdd, reduceMul, reduceSub, reduceEqDiff, reduceLT, ↓reduceIte, Int.reduceToNat, reduceLeDiff]
    (refine W_if rfl (fun hc => ?_) (fun hc => ?_) <;> (try simp only [TS] at hc))
    · rw [if_pos hc]
      simp +contextual (maxSteps := 2000000) (disch := first | omega | (simp only [SZ]; first | done | omega) | (simp only [TS] at *; omega)) only [RZ, ovw, oneC, reduceAdd, reduceMul, reduceSub, reduceEqDiff, reduceLT, ↓reduceIte, Int.reduceToNat, reduceLeDiff]
      exact ⟨rfl, hb⟩
    · rw [if_neg (by rw [hc]; simp)]
      simp +contextual (maxSteps := 2000000) (disch := first | omega | (simp only [SZ]; first | done | omega) | (simp only [TS] at *; omega)) only [RZ, ovw, oneC, reduceAdd, reduceMul, reduceSub, reduceEqDiff, reduceLT, ↓reduceIte, Int.reduceToNat, reduceLeDiff]
      exact ⟨rfl, hb⟩
  rw [if_neg (by rw [hc]; simp)]
  clear hc
  simp +contextual (maxSteps := 2000000) (disch := first | omega | (simp only [SZ]; first | done | omega) | (simp only [TS] at *; omega)) only [RZ, ovw, oneC, reduceAdd, reduceMul, reduceSub, reduceEqDiff, reduceLT, ↓reduceIte, Int.reduceToNat, reduceLeDiff]
  refine (isMark_any _ _).mono ?_
  rintro e w1 ⟨rfl, rfl⟩
  refine ⟨_, rfl, ?_⟩
  rw [markIB]
  simp +contextual (maxSteps := 2000000) (disch := first | omega | (simp only [SZ]; first | done | omega) | (simp only [TS] at *; omega)) only [RZ, ovw, oneC, reduceAdd, reduceMul, reduceSub, reduceEqDiff, reduceLT, ↓reduceIte, Int.reduceToNat, reduceLeDiff]
  (refine W_if rfl (fun hc => ?_) (fun hc => ?_) <;> (try simp only [TS] at hc))
  · rw [if_pos hc]
    simp +contextual (maxSteps := 2000000) (disch := first | omega | (simp only [SZ]; first | done | omega) | (simp only [TS] at *; omega)) only [RZ, ovw, oneC, reduceAdd, reduceMul, reduceSub, reduceEqDiff, reduceLT, ↓reduceIte, Int.reduceToNat, reduceLeDiff]
    exact ⟨rfl, Below.refl _ _⟩
  rw [if_neg (by rw [hc]; simp)]
  simp +contextual (maxSteps := 2000000) (disch := first | omega | (simp only [SZ]; first | done | omega) | (simp only [TS] at *; omega)) only [RZ, ovw, oneC, reduceAdd, reduceMul, reduceSub, reduceEqDiff, reduceLT, ↓reduceIte, Int.reduceToNat, reduceLeDiff]
  exact ⟨rfl, Below.refl _ _⟩
end Go.Proofs.YtbdkggnajipdhaaGreatDoor
/- Walk: lex.Scan. -/
namespace Go.Proofs.YtbdkggnajipdhaaGreatDoor
open Nat (reduceAdd reduceMul reduceSub reduceEqDiff reduceLT reduceLeDiff)
open Go.RowKit
set_option maxRecDepth 100000
def encTk (t : Tk) : List Value := [.int .i64 t.kind, .int .i64 t.line, .int .i64 t.col, .string t.text]
/-- A list of tokens in memory that is nobody else's. -/
def TokIn (base : Nat) (w : World) (v : Value) (L : List Tk) : Prop := ∃ A c, v = .slice A L.length c ∧ w.ownsRow base 62 4 (.slice A L.length c) L.length (L.flatMap encTk)
theorem step1_bd {p : Int × Int} {c : Nat} (h : 1 ≤ p.1 ∧ 1 ≤ p.2) : 1 ≤ (step1 p c).1 ∧ (step1 p c).1 ≤ p.1 + 1 ∧ 1 ≤ (step1 p c).2 ∧ (step1 p c).2 ≤ p.2 + 1 := by
  unfold step1
  split <;> simp only <;> omega
theorem fold_bd : ∀ (b : List Nat) (p : Int × Int), 1 ≤ p.1 ∧ 1 ≤ p.2 → 1 ≤ (b.foldl step1 p).1 ∧ (b.foldl step1 p).1 ≤ p.1 + b.length ∧ 1 ≤ (b.foldl step1 p).2 ∧ (b.foldl step1 p).2 ≤ p.2 + b.length
  | [], p, h => by simp; omega
  | c :: r, p, h => by
    have h1 := step1_bd (c := c) h
    have h2 := fold_bd r (step1 p c) ⟨h1.1, h1.2.2.1⟩
    rw [List.foldl_cons, List.length_cons]
    omega
theorem place_bd (l : List Nat) : 1 ≤ (place l).1 ∧ (place l).1 ≤ l.length + 1 ∧ 1 ≤ (place l).2 ∧ (place l).2 ≤ l.length + 1 := by
  have := fold_bd l (1, 1) ⟨by decide, by decide⟩
  unfold place
  simp only at this
  omega
theorem take_piece (l : List Nat) (a n : Nat) : l.take (a + n) = l.take a ++ (l.drop a).take n := List.take_add
theorem count_bs (s : ByteArray) : Lib.countByte s.data.toList 10 = (bs s).count 10 := by
  unfold Lib.countByte bs
  induction s.data.toList with
  | nil => rfl
  | cons c r ih =>
    rw [List.map_cons, List.count_cons, List.count_cons, ih]
    congr 1
    by_cases h : c = 10
    · subst h; rfl
    · have h' : ¬ c.toNat = 10 := fun e => h (UInt8.toNat_inj.1 e)
      simp [h, h']
theorem data_bt {s : ByteArray} {j : Nat} (h : j < s.size) : (s.data[j]!).toNat = bt s j := get_bt h
theorem last_bs (s : ByteArray) : (Lib.lastIndexByte s 10 = -1 ∧ ∀ c ∈ bs s, c ≠ 10) ∨ (∃ i : Nat, i < s.size ∧ Lib.lastIndexByte s 10 = i ∧ (bs s)[i]? = some 10 ∧ ∀ j, i < j → (bs s)[j]? ≠ some 10) := by
  rcases Lib.lastIdx_spec s 10 s.size with ⟨h1, h2⟩ | ⟨i, hi, h1, h2, h3⟩
  · refine .inl ⟨h1, fun c hc e => ?_⟩
    subst e
    obtain ⟨j, hj⟩ := List.mem_iff_getElem?.1 hc
    have hjl := (List.getElem?_eq_some_iff.1 hj).1
    rw [bs_len] at hjl
    rw [bs_get hjl] at hj
    injection hj with hj
    exact h2 j hjl (by rw [data_bt hjl, hj]; rfl)
  · refine .inr ⟨i, hi, h1, ?_, fun j hij hj => ?_⟩
    · rw [bs_get hi]
      rw [data_bt hi] at h2
      congr 1
      omega
    · have hjl := (List.getElem?_eq_some_iff.1 hj).1
      rw [bs_len] at hjl
      rw [bs_get hjl] at hj
      injection hj with hj
      exact h3 j hij hjl (by rw [data_bt hjl, hj]; rfl)
theorem tok_len (D : List (Nat × Nat × Nat)) (s : ByteArray) : (D.map (tokOf s)).length = D.length := List.length_map ..
set_option maxHeartbeats 1000000 in
theorem scan_any (s : ByteArray) (w : World) (hs : s.size ≤ 1000000) :
    Calls Tryz.prog 19 #[.string s] w fun e w' => Below w.heap.size w w' ∧ ∃ v, e = .returned (.tuple #[v, .int .i64 (scanE s).1, .int .i64 (scanE s).2.1]) ∧ TokIn w.heap.size w' v (scanE s).2.2 := by
  refine calls_W (l := [_]) Tryz.func19 rfl _ Tryz.ntmps19 (by simp) ?_
  have hI : sliceI Tryz.prog 46 = some (62, 4, 40) := by kernel_rfl
  unfold scanE
  simp +contextual (maxSteps := 2000000) (disch := first | omega | (simp only [SZ]; first | done | omega) | (simp only [TS] at *; omega)) only [RZ, ovw, oneC, reduceAdd, reduceMul, reduceSub, reduceEqDiff, reduceLT, ↓reduceIte, Int.reduceToNat, reduceLeDiff]
  (refine W_if rfl (fun hc => ?_) (fun hc => ?_) <;> (try simp only [TS] at hc))
  · rw [if_pos (by omega)]
    simp +contextual (maxSteps := 2000000) (disch := first | omega | (simp only [SZ]; first | done | omega) | (simp only [TS] at *; omega)) only [RZ, ovw, oneC, reduceAdd, reduceMul, reduceSub, reduceEqDiff, reduceLT, ↓reduceIte, Int.reduceToNat, reduceLeDiff]
    exact ⟨Below.refl _ _, _, rfl, none, 0, rfl, owns_nil _ _ _ _⟩
  rw [if_neg (by omega)]
  clear hc
  simp +contextual (maxSteps := 2000000) (disch := first | omega | (simp only [SZ]; first | done | omega) | (simp only [TS] at *; omega)) only [RZ, ovw, oneC, reduceAdd, reduceMul, reduceSub, reduceEqDiff, reduceLT, ↓reduceIte, Int.reduceToNat, reduceLeDiff]
  generalize hR : lexR 0 (bs s) = R
  refine Raw_loop (fun σ w' => Below w.heap.size w w' ∧ ∃ (at_ : Nat) (D : List (Nat × Nat × Nat)) (A : Option Addr) (c : Nat), at_ ≤ s.size ∧ D.length ≤ at_ ∧ joinR D (lexR at_ ((bs s).drop at_)) = R ∧
      w'.ownsRow w.heap.size 62 4 (.slice A D.length c) D.length ((D.map (tokOf s)).flatMap encTk) ∧
      σ 0 = .string s ∧ σ 5 = .slice A D.length c ∧ σ 6 = .int .i64 (place ((bs s).take at_)).1 ∧ σ 7 = .int .i64 (at_ + 1 - (place ((bs s).take at_)).2) ∧ σ 8 = .int .i64 at_) (fun σ _ => s.size - (intOf (σ 8)).toNat) ?_ ?_
  · simp +contextual (maxSteps := 2000000) (disch := first | omega | (simp only [SZ]; first | done | omega) | (simp only [TS] at *; omega)) only [RZ, ovw, oneC, reduceAdd, reduceMul, reduceSub, reduceEqDiff, reduceLT, ↓reduceIte, Int.reduceToNat, reduceLeDiff]
    exact ⟨Below.refl _ _, 0, [], none, 0, Nat.zero_le _, Nat.le_refl _, by rw [List.drop_zero, hR]; cases R <;> rfl, owns_nil _ _ _ _, rfl, rfl, rfl, rfl⟩
  rintro σ w1 ⟨hB, at_, D, A, c, ha, hDa, hj, hown, e0, e5, e6, e7, e8⟩ K hK
  have hpb := place_bd ((bs s).take at_)
  rw [List.length_take, bs_len] at hpb
  simp +contextual (maxSteps := 2000000) (disch := first | omega | (simp only [SZ]; first | done | omega) | (simp only [TS] at *; omega)) only [RZ, ovw, oneC, reduceAdd, reduceMul, reduceSub, reduceEqDiff, reduceLT, ↓reduceIte, Int.reduceToNat, reduceLeDiff,  e0, e5, e6, e7, e8]
  (refine W_if rfl (fun hc => ?_) (fun hc => ?_) <;> (try simp only [TS] at hc))
  · have hal : at_ < s.size := by omega
    clear hc
    simp +contextual (maxSteps := 2000000) (disch := first | omega | (simp only [SZ]; first | done | omega) | (simp only [TS] at *; omega)) only [RZ, ovw, oneC, reduceAdd, reduceMul, reduceSub, reduceEqDiff, reduceLT, ↓reduceIte, Int.reduceToNat, reduceLeDiff,  e0, e5, e6, e7, e8]
    have hx : bs (s.extract at_ s.size) = (bs s).drop at_ := by rw [bs_extract, List.take_of_length_le]; rw [List.length_drop, bs_len]; omega
    have hxs : (s.extract at_ s.size).size = s.size - at_ := by rw [← bs_len, hx, List.length_drop, bs_len]
    have hll : ((bs s).drop at_).length = s.size - at_ := by rw [List.length_drop, bs_len]
    obtain ⟨c0, r0, hl⟩ : ∃ c r, (bs s).drop at_ = c :: r := by
      cases hd : (bs s).drop at_ with
      | nil => rw [hd] at hll; simp at hll; omega
      | cons c r => exact ⟨c, r, rfl⟩
    rw [hl, lexR_cons, ← hl] at hj
    have hpl := piece_le ((bs s).drop at_)
    have hpp := piece_plain ((bs s).drop at_)
    refine (piece_any _ w1 (by omega) (by omega)).mono ?_
    rintro e w2 ⟨rfl, hb2⟩
    refine ⟨_, rfl, ?_⟩
    rw [hx]
    generalize piece ((bs s).drop at_) = pc at *
    obtain ⟨k, n⟩ := pc
    simp only at *
    have hB2 := hB.trans (hb2.mono hB.size)
    have hown2 := owns_below hown hb2
    simp +contextual (maxSteps := 2000000) (disch := first | omega | (simp only [SZ]; first | done | omega) | (simp only [TS] at *; omega)) only [RZ, ovw, oneC, reduceAdd, reduceMul, reduceSub, reduceEqDiff, reduceLT, ↓reduceIte, Int.reduceToNat, reduceLeDiff,  e0, e5, e6, e7, e8]
    (refine W_if rfl (fun hc => ?_) (fun hc => ?_) <;> (try simp only [TS] at hc))
    · rw [if_pos (by omega)] at hj
      have hR2 : R = .error at_ := hj.symm
      subst hR2
      simp +contextual (maxSteps := 2000000) (disch := first | omega | (simp only [SZ]; first | done | omega) | (simp only [TS] at *; omega)) only [RZ, ovw, oneC, reduceAdd, reduceMul, reduceSub, reduceEqDiff, reduceLT, ↓reduceIte, Int.reduceToNat, reduceLeDiff,  e0, e5, e6, e7, e8]
      exact ⟨hB2, _, rfl, none, 0, rfl, owns_nil _ _ _ _⟩
    have hn0 : ¬ n = 0 := by omega
    clear hc
    rw [if_neg hn0] at hj
    have htn : ((at_ : Int) + n).toNat = at_ + n := by omega
    have hpt : place ((bs s).take (at_ + n)) = (((bs s).drop at_).take n).foldl step1 (place ((bs s).take at_)) := by rw [take_piece, place_append]
    have hxt : bs (s.extract at_ (at_ + n)) = ((bs s).drop at_).take n := by rw [bs_extract]; congr 1; omega
    have hxz : (s.extract at_ (at_ + n)).size = n := by rw [← bs_len, hxt, List.length_take, hll]; omega
    rw [List.drop_drop] at hj
    simp +contextual (maxSteps := 2000000) (disch := first | omega | (simp only [SZ]; first | done | omega) | (simp only [TS] at *; omega)) only [RZ, ovw, oneC, reduceAdd, reduceMul, reduceSub, reduceEqDiff, reduceLT, ↓reduceIte, Int.reduceToNat, reduceLeDiff,  e0, e5, e6, e7, e8, htn]
    (refine W_if rfl (fun hc => ?_) (fun hc => ?_) <;> (try simp only [TS] at hc))
    · have hk0 : k ≠ 0 := by omega
      clear hc
      rw [if_neg hk0, joinR_cons] at hj
      rw [fold_plain _ _ (hpp hk0), List.length_take, hll, Nat.min_eq_left (by omega)] at hpt
      obtain ⟨A', c', w3, he, hown3, hb3, hs3⟩ := push1 (P := Tryz.prog) (T := 46) (ty := 46) (news := encTk (tokOf s (k, at_, n))) hown2 hB2.size hI rfl (fun u hu => by simp only [encTk, List.mem_cons, List.not_mem_nil, or_false] at hu; rcases hu with rfl | rfl | rfl | rfl <;> rfl) (by omega) (by omega)
      have hB3 := hB2.trans hb3
      have hown3' : w3.ownsRow w.heap.size 62 4 (.slice A' (D ++ [(k, at_, n)]).length c') (D ++ [(k, at_, n)]).length (((D ++ [(k, at_, n)]).map (tokOf s)).flatMap encTk) := by
        rw [List.length_append, List.map_append, List.flatMap_append]; simpa using hown3
      have ecol : (at_ : Int) - (at_ + 1 - (place ((bs s).take at_)).2) + 1 = (place ((bs s).take at_)).2 := by omega
      have he' := he
      simp only [encTk, tokOf] at he'
      simp +contextual (maxSteps := 2000000) (disch := first | omega | (simp only [SZ]; first | done | omega) | (simp only [TS] at *; omega)) only [RZ, ovw, oneC, reduceAdd, reduceMul, reduceSub, reduceEqDiff, reduceLT, ↓reduceIte, Int.reduceToNat, reduceLeDiff,  e0, e5, e6, e7, e8, ecol, he']
      refine hK _ _ ⟨hB3, at_ + n, D ++ [(k, at_, n)], A', c', by omega, by simp; omega, hj, hown3', e0, ?_, ?_, ?_, ?_⟩ ?_
      · rw [List.length_append]; rfl
      · rw [hpt]; exact e6
      · rw [hpt]; show σ 7 = _; rw [e7]; simp only; congr 1; omega
      · simp only [upd_apply]; simp
      · show s.size - (intOf (.int .i64 ((at_ : Int) + n))).toNat < s.size - (intOf (σ 8)).toNat; rw [e8]; simp only [intOf]; omega
    · have hk0 : k = 0 := by omega
      clear hc
      rw [if_pos hk0] at hj
      have hcnt := count_bs (s.extract at_ (at_ + n))
      rw [hxt] at hcnt
      have hfl := fold_line (((bs s).drop at_).take n) (place ((bs s).take at_))
      rw [← hpt, ← hcnt] at hfl
      have hpb2 := place_bd ((bs s).take (at_ + n))
      rw [List.length_take, bs_len] at hpb2
      have hlast := last_bs (s.extract at_ (at_ + n))
      rw [hxt, hxz] at hlast
      simp +contextual (maxSteps := 2000000) (disch := first | omega | (simp only [SZ]; first | done | omega) | (simp only [TS] at *; omega)) only [RZ, ovw, oneC, reduceAdd, reduceMul, reduceSub, reduceEqDiff, reduceLT, ↓reduceIte, Int.reduceToNat, reduceLeDiff,  e0, e5, e6, e7, e8]
      refine (Tryz.strings_LastIndexByte (s.extract at_ (at_ + n)) 10 (by omega) w2).mono ?_
      rintro e w3 ⟨rfl, rfl⟩
      refine ⟨_, rfl, ?_⟩
      generalize Lib.lastIndexByte (s.extract at_ (at_ + n)) 10 = li at *
      simp +contextual (maxSteps := 2000000) (disch := first | omega | (simp only [SZ]; first | done | omega) | (simp only [TS] at *; omega)) only [RZ, ovw, oneC, reduceAdd, reduceMul, reduceSub, reduceEqDiff, reduceLT, ↓reduceIte, Int.reduceToNat, reduceLeDiff,  e0, e5, e6, e7, e8]
      (refine W_if rfl (fun hc => ?_) (fun hc => ?_) <;> (try simp only [TS] at hc))
      · obtain ⟨i, hi, rfl, h10, hlst⟩ : ∃ i : Nat, i < n ∧ li = i ∧ (((bs s).drop at_).take n)[i]? = some 10 ∧ ∀ j, i < j → (((bs s).drop at_).take n)[j]? ≠ some 10 := by
          rcases hlast with ⟨h, _⟩ | h
          · omega
          · exact h
        clear hc hlast
        have hfc := fold_col _ (place ((bs s).take at_)) i h10 hlst
        rw [← hpt, List.length_take, hll, Nat.min_eq_left (by omega)] at hfc
        simp +contextual (maxSteps := 2000000) (disch := first | omega | (simp only [SZ]; first | done | omega) | (simp only [TS] at *; omega)) only [RZ, ovw, oneC, reduceAdd, reduceMul, reduceSub, reduceEqDiff, reduceLT, ↓reduceIte, Int.reduceToNat, reduceLeDiff,  e0, e5, e6, e7, e8]
        refine (Tryz.strings_Count_one (s.extract at_ (at_ + n)) 10 w3).mono ?_
        rintro e w4 ⟨rfl, rfl⟩
        refine ⟨_, rfl, ?_⟩
        generalize Lib.countByte (s.extract at_ (at_ + n)).data.toList 10 = cnt at *
        simp +contextual (maxSteps := 2000000) (disch := first | omega | (simp only [SZ]; first | done | omega) | (simp only [TS] at *; omega)) only [RZ, ovw, oneC, reduceAdd, reduceMul, reduceSub, reduceEqDiff, reduceLT, ↓reduceIte, Int.reduceToNat, reduceLeDiff,  e0, e5, e6, e7, e8]
        refine hK _ _ ⟨hB2, at_ + n, D, A, c, by omega, by omega, hj, hown2, e0, e5, ?_, ?_, ?_⟩ ?_
        · rw [hfl]; rfl
        · rw [hfc]; simp only [upd_apply]; simp; omega
        · simp only [upd_apply]; simp
        · show s.size - (intOf (.int .i64 ((at_ : Int) + n))).toNat < s.size - (intOf (σ 8)).toNat; rw [e8]; simp only [intOf]; omega
      · have hno : ∀ c ∈ ((bs s).drop at_).take n, c ≠ 10 := by
          rcases hlast with ⟨_, h⟩ | ⟨i, _, h, _⟩
          · exact h
          · omega
        clear hc hlast
        rw [fold_plain _ _ hno, List.length_take, hll, Nat.min_eq_left (by omega)] at hpt
        simp +contextual (maxSteps := 2000000) (disch := first | omega | (simp only [SZ]; first | done | omega) | (simp only [TS] at *; omega)) only [RZ, ovw, oneC, reduceAdd, reduceMul, reduceSub, reduceEqDiff, reduceLT, ↓reduceIte, Int.reduceToNat, reduceLeDiff,  e0, e5, e6, e7, e8]
        refine hK _ _ ⟨hB2, at_ + n, D, A, c, by omega, by omega, hj, hown2, e0, e5, ?_, ?_, ?_⟩ ?_
        · rw [hpt]; exact e6
        · rw [hpt]; show σ 7 = _; rw [e7]; simp only; congr 1; omega
        · simp only [upd_apply]; simp
        · show s.size - (intOf (.int .i64 ((at_ : Int) + n))).toNat < s.size - (intOf (σ 8)).toNat; rw [e8]; simp only [intOf]; omega
  have hae : at_ = s.size := by omega
  clear hc
  subst hae
  rw [List.drop_eq_nil_of_le (by rw [bs_len]; omega), lexR_nil] at hj
  simp only [joinR, List.append_nil] at hj
  subst hj
  simp only
  have htk : (bs s).take s.size = bs s := List.take_of_length_le (by rw [bs_len]; omega)
  rw [htk] at e6 e7 hpb
  obtain ⟨A', c', w3, he, hown3, hb3, hs3⟩ := push1 (P := Tryz.prog) (T := 46) (ty := 46) (news := encTk (endTok s)) hown hB.size hI rfl (fun u hu => by simp only [encTk, List.mem_cons, List.not_mem_nil, or_false] at hu; rcases hu with rfl | rfl | rfl | rfl <;> rfl) (by omega) (by omega)
  have ecol : (s.size : Int) - (s.size + 1 - (place (bs s)).2) + 1 = (place (bs s)).2 := by omega
  simp only [encTk, endTok] at he
  simp +contextual (maxSteps := 2000000) (disch := first | omega | (simp only [SZ]; first | done | omega) | (simp only [TS] at *; omega)) only [RZ, ovw, oneC, reduceAdd, reduceMul, reduceSub, reduceEqDiff, reduceLT, ↓reduceIte, Int.reduceToNat, reduceLeDiff,  e0, e5, e6, e7, e8, ecol, he]
  refine ⟨hB.trans hb3, _, rfl, A', c', ?_, ?_⟩
  · rw [List.length_append, tok_len]; rfl
  · rw [List.length_append, tok_len, List.flatMap_append]; simpa using hown3
end Go.Proofs.YtbdkggnajipdhaaGreatDoor
/- Walks: the reader of a game's tokens: fail, peek, take. -/
namespace Go.Proofs.YtbdkggnajipdhaaGreatDoor
open Nat (reduceAdd reduceMul reduceSub reduceEqDiff reduceLT reduceLeDiff)
open Go.RowKit
set_option maxRecDepth 100000
/-- What the reader panics with. -/
def failV (e line : Int) : Value := .iface 51 (.agg #[.int .i64 e, .int .i64 line])
theorem cncF : cncB Tryz.prog 51 = true := by kernel_rfl
theorem paFail_any (g : Nat) (e : Int) (t : Tk) (w : World) : Calls Tryz.prog 101 #[.pointer (some ⟨g, 0, none⟩), .int .i64 e, .agg (encTk t).toArray] w fun en w' => en = .panicked [{ v := failV e t.line, recovered := false }] ∧ Below w.heap.size w w' := by
  refine calls_WX (l := [_, _, _]) Tryz.func101 rfl _ Tryz.ntmps101 (by simp) ?_
  rw [show (encTk t).toArray = #[.int .i64 t.kind, .int .i64 t.line, .int .i64 t.col, .string t.text] from rfl]
  simp +contextual (maxSteps := 2000000) (disch := first | omega | (simp only [SZ]; first | done | omega) | (simp only [TS] at *; omega)) only [PZ, RZ, ovw, oneC, reduceAdd, reduceMul, reduceSub, reduceEqDiff, reduceLT, ↓reduceIte, Int.reduceToNat, reduceLeDiff,  cncF]
  exact ⟨rfl, below_alloc _ _⟩
/-- The reader's tokens: what they are, and that the last one, and no other, is the end. -/
structure TokOk (T : List Tk) : Prop where
  big : T.length ≤ 1000000
  szs : ∀ t ∈ T, t.text.size ≤ 1000000
  num : ∀ t ∈ T, t.kind = 2 → (numE (bs t.text)).2 = 0 ∧ 0 ≤ (numE (bs t.text)).1 ∧ (numE (bs t.text)).1 ≤ 999999999999999999
  last : ∀ a t, T[a]? = some t → t.kind ≠ 0 → a + 1 < T.length
  fin : ∀ a t, T[a]? = some t → t.kind = 0 → a + 1 = T.length
  kinds : ∀ t ∈ T, 0 ≤ t.kind ∧ t.kind ≤ 3
  lines : ∀ t ∈ T, 0 ≤ t.line ∧ t.line ≤ 1000000
theorem nxT_drop {T : List Tk} {a : Nat} (h : a + 1 < T.length) : nxT (T.drop a) = T.drop (a + 1) := by
  rw [List.drop_eq_getElem_cons (show a < T.length by omega), List.drop_eq_getElem_cons h]
  rfl
theorem hdT_drop {T : List Tk} {a : Nat} {t : Tk} (h : T[a]? = some t) : hdT (T.drop a) = t := by
  obtain ⟨hk, rfl⟩ := List.getElem?_eq_some_iff.1 h
  rw [List.drop_eq_getElem_cons hk]
  rfl
/-- A reader at the a-th of its tokens; behind these two cells: rest. -/
structure PkIn (w : World) (g : Nat) (A : Option Addr) (c : Nat) (T : List Tk) (a : Nat) (rest : List Value) : Prop where
  lt : a < T.length
  arr : Arr w A 4 (T.map encTk)
  off : ∀ b o, A = some ⟨b, o, none⟩ → b ≠ g
  row : Row w g 55 (.slice A T.length c :: .int .i64 a :: rest)
theorem PkIn.kept {X : List Nat} {w w' : World} {g : Nat} {A : Option Addr} {c : Nat} {T : List Tk} {a : Nat} {rest : List Value} (h : PkIn w g A c T a rest) (k : Kept X w w') (hg : g ∉ X) (hA : ∀ b o, A = some ⟨b, o, none⟩ → b ∉ X) : PkIn w' g A c T a rest :=
  ⟨h.lt, h.arr.kept k hA, h.off, h.row.kept k hg⟩
theorem PkIn.below {w w' : World} {g : Nat} {A : Option Addr} {c : Nat} {T : List Tk} {a : Nat} {rest : List Value} (h : PkIn w g A c T a rest) (k : Below w.heap.size w w') : PkIn w' g A c T a rest :=
  ⟨h.lt, h.arr.below k, h.off, h.row.below k⟩
section
variable {g c a : Nat} {A : Option Addr} {T : List Tk} {w : World} {rest : List Value}
theorem paPeek_any (h : PkIn w g A c T a rest) (hT : TokOk T) : Calls Tryz.prog 57 #[.pointer (some ⟨g, 0, none⟩)] w fun e w' => e = .returned (.agg (encTk (hdT (T.drop a))).toArray) ∧ Below w.heap.size w w' := by
  refine calls_W (l := [_]) Tryz.func57 rfl _ Tryz.ntmps57 (by simp) ?_
  obtain ⟨h1, h2, h3, h4⟩ := h
  have hbig := hT.big
  obtain ⟨t, ht⟩ : ∃ t, T[a]? = some t := ⟨_, List.getElem?_eq_getElem h1⟩
  rw [hdT_drop ht]
  obtain ⟨b, o, rfl, hb, hcell⟩ := h2.at_ ht
  have l0 := hcell 0 _ rfl
  rw [Nat.add_zero] at l0
  have l1 := hcell 1 _ rfl
  have l2 := hcell 2 _ rfl
  have l3 := hcell 3 _ rfl
  have c0 := h4.cell (i := 0) rfl
  have c1 := h4.cell (i := 1) rfl
  have hgl := h4.lt
  simp +contextual (maxSteps := 2000000) (disch := first | omega | (simp only [SZ]; first | done | omega) | (simp only [TS] at *; omega)) only [RZ, ovw, oneC, reduceAdd, reduceMul, reduceSub, reduceEqDiff, reduceLT, ↓reduceIte, Int.reduceToNat, reduceLeDiff]
  have hB := below_alloc w (.cells #[.int .i64 0, .int .i64 0, .int .i64 0, .string ByteArray.empty] 62)
  have hr := Row.new w 62 [.int .i64 0, .int .i64 0, .int .i64 0, .string ByteArray.empty]
  replace hr : Row (w.alloc (.cells #[.int .i64 0, .int .i64 0, .int .i64 0, .string ByteArray.empty] 62)) _ _ _ := hr
  have hz : (w.alloc (.cells #[.int .i64 0, .int .i64 0, .int .i64 0, .string ByteArray.empty] 62)).heap.size = w.heap.size + 1 := World.size_alloc _ _
  generalize w.alloc (.cells #[.int .i64 0, .int .i64 0, .int .i64 0, .string ByteArray.empty] 62) = w1 at *
  have r0 := hr.cell (i := 0) rfl
  have r1 := hr.cell (i := 1) rfl
  have r2 := hr.cell (i := 2) rfl
  have r3 := hr.cell (i := 3) rfl
  have y0 := hr.frozen 0
  have y1 := hr.frozen 1
  have y2 := hr.frozen 2
  have y3 := hr.frozen 3
  have hBd : Below w.heap.size w w1.drew := ⟨hB.os, hB.tape, hB.output, hB.size, hB.block⟩
  refine Raw_rcS (τ := ?ta) (fun w' => Below w.heap.size w w') [0, 1, 2, 3, 4, 5, 6, 7, 8, 9] [10] MX rfl (by kernel_rfl) (by kernel_rfl) (by kernel_rfl) (fun _ _ _ h => h) hBd (fun w7 h7 => ?_) ?_; rotate_left
  · have k := (bcell h7).1
    have l0 := (k _ _ hb).trans l0
    have l1 := (k _ _ hb).trans l1
    have l2 := (k _ _ hb).trans l2
    have l3 := (k _ _ hb).trans l3
    have c0 := (k _ _ hgl).trans c0
    have c1 := (k _ _ hgl).trans c1
    simp only [opsL_cons, opsL_nil, List.getElem?_toArray, List.getElem?_cons_zero, List.getElem?_cons_succ, optL_some]
    simp +contextual (maxSteps := 2000000) (disch := first | omega | (simp only [SZ]; first | done | omega) | (simp only [TS] at *; omega)) only [RZ, ovw, oneC, reduceAdd, reduceMul, reduceSub, reduceEqDiff, reduceLT, ↓reduceIte, Int.reduceToNat, reduceLeDiff,  c0, c1, l0, l1, l2, l3]
    exact rfl
  simp only [opsL_cons, opsL_nil, List.getElem?_toArray, List.getElem?_cons_zero, List.getElem?_cons_succ, optL_some]
  simp +contextual (maxSteps := 2000000) (disch := first | omega | (simp only [SZ]; first | done | omega) | (simp only [TS] at *; omega)) only [RZ, ovw, oneC, reduceAdd, reduceMul, reduceSub, reduceEqDiff, reduceLT, ↓reduceIte, Int.reduceToNat, reduceLeDiff,  EC_op, EC_nil, r0, r1, r2, r3, y0, y1, y2, y3]
  have hf : Below w.heap.size w ((((w1.setCell ⟨w.heap.size, 0, none⟩ (.int .i64 t.kind)).setCell ⟨w.heap.size, 1, none⟩ (.int .i64 t.line)).setCell ⟨w.heap.size, 2, none⟩ (.int .i64 t.col)).setCell ⟨w.heap.size, 3, none⟩ (.string t.text)).drew := by
    have h4 := (((hB.setCell (p := ⟨w.heap.size, 0, none⟩) (Nat.le_refl _) (.int .i64 t.kind)).setCell (p := ⟨w.heap.size, 1, none⟩) (Nat.le_refl _) (.int .i64 t.line)).setCell (p := ⟨w.heap.size, 2, none⟩) (Nat.le_refl _) (.int .i64 t.col)).setCell (p := ⟨w.heap.size, 3, none⟩) (Nat.le_refl _) (.string t.text)
    exact ⟨h4.os, h4.tape, h4.output, h4.size, h4.block⟩
  exact ⟨hf, rfl, hf⟩
end
/-- What a reader's call gives: a value and what is left, or an error and where. -/
def Res {α : Type} (g : Nat) (A : Option Addr) (c : Nat) (T : List Tk) (rest : List Value) (w : World) (r : Except (Int × List Tk) (α × List Tk)) (val : α → Value) (e : Ending) (w' : World) : Prop := Kept [g] w w' ∧ match r with
  | .ok x => e = .returned (val x.1) ∧ ∃ a', x.2 = T.drop a' ∧ PkIn w' g A c T a' rest
  | .error x => e = .panicked [{ v := failV x.1 (hdT x.2).line, recovered := false }]
def takeT (k : Int) (L : List Tk) : Except (Int × List Tk) (Tk × List Tk) := if (hdT L).kind = k then .ok (hdT L, nxT L) else .error (1, L)
/-- A token's box: new, and then filled. -/
def boxW (w : World) (b : Nat) (t : Tk) : World := (((w.setCell ⟨b, 0, none⟩ (.int .i64 t.kind)).setCell ⟨b, 1, none⟩ (.int .i64 t.line)).setCell ⟨b, 2, none⟩ (.int .i64 t.col)).setCell ⟨b, 3, none⟩ (.string t.text)
theorem box_kept {X : List Nat} {b : Nat} {w w' : World} (h : Kept X w w') (hb : b ∈ X ∨ w.heap.size ≤ b) (t : Tk) : Kept X w (boxW w' b t) := by
  have : Kept (b :: X) w (boxW w' b t) := ((((h.less fun k hk _ => List.mem_cons_of_mem _ hk).setCell (p := ⟨b, 0, none⟩) (by simp) (.int .i64 t.kind)).setCell (p := ⟨b, 1, none⟩) (by simp) (.int .i64 t.line)).setCell (p := ⟨b, 2, none⟩) (by simp) (.int .i64 t.col)).setCell (p := ⟨b, 3, none⟩) (by simp) (.string t.text)
  refine this.less fun k hk hl => ?_
  rcases List.mem_cons.1 hk with rfl | hk
  · rcases hb with hb | hb
    · exact hb
    · omega
  · exact hk
section
variable {g c a : Nat} {A : Option Addr} {T : List Tk} {w : World} {rest : List Value}
theorem PkIn.kept1 {w' : World} {rest' : List Value} (h : PkIn w g A c T a rest) (k : Kept [g] w w') {a' : Nat} (ha : a' < T.length) (hR : Row w' g 55 (.slice A T.length c :: .int .i64 a' :: rest')) : PkIn w' g A c T a' rest' :=
  ⟨ha, h.arr.kept k (fun b o hb => by have := h.off b o hb; simpa using this), h.off, hR⟩
theorem paTake_any (k : Int) (h : PkIn w g A c T a rest) (hT : TokOk T) : Calls Tryz.prog 59 #[.pointer (some ⟨g, 0, none⟩), .int .i64 k] w (Res g A c T rest w (takeT k (T.drop a)) fun t => .agg (encTk t).toArray) := by
  refine calls_WX (l := [_, _]) Tryz.func59 rfl _ Tryz.ntmps59 (by simp) ?_
  generalize hRes : (Res g A c T rest w (takeT k (T.drop a)) fun t => .agg (encTk t).toArray) = R
  have hlt := h.lt
  have hbig := hT.big
  have hgl := h.row.lt
  obtain ⟨t, ht⟩ : ∃ t, T[a]? = some t := ⟨_, List.getElem?_eq_getElem hlt⟩
  have htd := hdT_drop ht
  unfold takeT at hRes
  rw [htd] at hRes
  simp +contextual (maxSteps := 2000000) (disch := first | omega | (simp only [SZ]; first | done | omega) | (simp only [TS] at *; omega)) only [PZ, RZ, ovw, oneC, reduceAdd, reduceMul, reduceSub, reduceEqDiff, reduceLT, ↓reduceIte, Int.reduceToNat, reduceLeDiff]
  have h0 := h.below (below_alloc w (.cells #[Value.int .i64 0, .int .i64 0, .int .i64 0, .string ByteArray.empty] 62))
  have k0 : Kept [g] w _ := Kept.of_below (below_alloc w (.cells #[Value.int .i64 0, .int .i64 0, .int .i64 0, .string ByteArray.empty] 62))
  have r0 := Row.new w 62 [Value.int .i64 0, .int .i64 0, .int .i64 0, .string ByteArray.empty]
  have z0 : (w.alloc (.cells #[Value.int .i64 0, .int .i64 0, .int .i64 0, .string ByteArray.empty] 62)).heap.size = w.heap.size + 1 := World.size_alloc _ _
  change Calls _ _ _ (w.alloc (.cells #[Value.int .i64 0, .int .i64 0, .int .i64 0, .string ByteArray.empty] 62)) _
  generalize w.alloc (.cells #[Value.int .i64 0, .int .i64 0, .int .i64 0, .string ByteArray.empty] 62) = w0 at *
  refine (paPeek_any h0 hT).mono ?_
  rintro e w1 ⟨rfl, hB1⟩
  rw [htd, show (encTk t).toArray = #[.int .i64 t.kind, .int .i64 t.line, .int .i64 t.col, .string t.text] from rfl]
  have h1 := h0.below hB1
  have k1 := k0.trans (Kept.of_below hB1)
  have r1 := r0.below hB1
  have z1 := hB1.size
  replace r0 : Row w0 w.heap.size 62 _ := r0
  simp +contextual (maxSteps := 2000000) (disch := first | omega | (simp only [SZ]; first | done | omega) | (simp only [TS] at *; omega)) only [PZ, RZ, ovw, oneC, reduceAdd, reduceMul, reduceSub, reduceEqDiff, reduceLT, ↓reduceIte, Int.reduceToNat, reduceLeDiff]
  have h2 := h1.below (below_alloc w1 (.cells #[Value.int .i64 t.kind, .int .i64 t.line, .int .i64 t.col, .string t.text] 62))
  have k2 := k1.alloc (.cells #[Value.int .i64 t.kind, .int .i64 t.line, .int .i64 t.col, .string t.text] 62)
  have r2 := r1.alloc (.cells #[Value.int .i64 t.kind, .int .i64 t.line, .int .i64 t.col, .string t.text] 62)
  have q2 := Row.new w1 62 [Value.int .i64 t.kind, .int .i64 t.line, .int .i64 t.col, .string t.text]
  have z2 : (w1.alloc (.cells #[Value.int .i64 t.kind, .int .i64 t.line, .int .i64 t.col, .string t.text] 62)).heap.size = w1.heap.size + 1 := World.size_alloc _ _
  replace q2 : Row (w1.alloc (.cells #[Value.int .i64 t.kind, .int .i64 t.line, .int .i64 t.col, .string t.text] 62)) _ _ _ := q2
  generalize w1.alloc (.cells #[Value.int .i64 t.kind, .int .i64 t.line, .int .i64 t.col, .string t.text] 62) = w2 at *
  have c0 := q2.cell (i := 0) rfl
  have c1 := q2.cell (i := 1) rfl
  have c2 := q2.cell (i := 2) rfl
  have c3 := q2.cell (i := 3) rfl
  have d0 := r2.cell (i := 0) rfl
  have d1 := r2.cell (i := 1) rfl
  have d2 := r2.cell (i := 2) rfl
  have d3 := r2.cell (i := 3) rfl
  have e0 := r2.frozen 0
  have e1 := r2.frozen 1
  have e2 := r2.frozen 2
  have e3 := r2.frozen 3
  (refine WX_if rfl (fun hc => ?_) (fun hc => ?_) <;> (try simp only [TS] at hc))
  · simp +contextual (maxSteps := 2000000) (disch := first | omega | (simp only [SZ]; first | done | omega) | (simp only [TS] at *; omega)) only [PZ, RZ, ovw, oneC, reduceAdd, reduceMul, reduceSub, reduceEqDiff, reduceLT, ↓reduceIte, Int.reduceToNat, reduceLeDiff,  c0, c1, c2, c3]
    refine (paFail_any g 1 t w2).mono ?_
    rintro e w3 ⟨rfl, hB3⟩
    have hc' : ¬ t.kind = k := by simpa using hc
    subst hRes
    rw [if_neg hc', Ends_pan]
    refine ⟨k2.trans (Kept.of_below hB3), ?_⟩
    dsimp only
    rw [htd]
  · have hc' : t.kind = k := by simpa using hc
    simp +contextual (maxSteps := 2000000) (disch := first | omega | (simp only [SZ]; first | done | omega) | (simp only [TS] at *; omega)) only [PZ, RZ, ovw, oneC, reduceAdd, reduceMul, reduceSub, reduceEqDiff, reduceLT, ↓reduceIte, Int.reduceToNat, reduceLeDiff,  c0]
    (refine WX_if rfl (fun hc => ?_) (fun hc => ?_) <;> (try simp only [TS] at hc))
    · have p1 := h2.row.cell (i := 1) rfl
      have p1z := h2.row.frozen 1
      have hk0 : ¬ k = 0 := by simpa using hc
      have hlast := hT.last a t ht (by omega)
      simp +contextual (maxSteps := 2000000) (disch := first | omega | (simp only [SZ]; first | done | omega) | (simp only [TS] at *; omega)) only [PZ, RZ, ovw, oneC, reduceAdd, reduceMul, reduceSub, reduceEqDiff, reduceLT, ↓reduceIte, Int.reduceToNat, reduceLeDiff,  c0, c1, c2, c3, p1, p1z, d0, d1, d2, d3, e0, e1, e2, e3]
      subst hRes
      rw [if_pos hc']
      have k3 := k2.setCell (p := ⟨g, 1, none⟩) (by simp) (.int .i64 ((a : Int) + 1))
      have h3 := h2.kept1 ((Kept.refl [g] w2).setCell (p := ⟨g, 1, none⟩) (by simp) (.int .i64 ((a : Int) + 1))) hlast (h2.row.set_ (i := 1) (by simp) _)
      refine ⟨box_kept k3 (Or.inr (Nat.le_refl _)) t, rfl, a + 1, nxT_drop hlast, ?_⟩
      exact h3.kept (box_kept (X := [w.heap.size]) (Kept.refl _ _) (Or.inl (by simp)) t) (by simp; omega) (fun b o hb => by have := (h.arr (by simp; omega)); obtain ⟨b', o', e', hb', _⟩ := this; rw [hb] at e'; injection e' with e'; injection e' with e'; simp; omega)
    · simp +contextual (maxSteps := 2000000) (disch := first | omega | (simp only [SZ]; first | done | omega) | (simp only [TS] at *; omega)) only [PZ, RZ, ovw, oneC, reduceAdd, reduceMul, reduceSub, reduceEqDiff, reduceLT, ↓reduceIte, Int.reduceToNat, reduceLeDiff,  c0, c1, c2, c3, d0, d1, d2, d3, e0, e1, e2, e3]
      subst hRes
      rw [if_pos hc']
      have hk0 : k = 0 := by simpa using hc
      have hfin := hT.fin a t ht (by omega)
      refine ⟨box_kept k2 (Or.inr (Nat.le_refl _)) t, rfl, a, ?_, ?_⟩
      · rw [List.drop_eq_getElem_cons hlt, List.drop_eq_nil_of_le (by omega)]
        rfl
      exact h2.kept (box_kept (X := [w.heap.size]) (Kept.refl _ _) (Or.inl (by simp)) t) (by simp; omega) (fun b o hb => by have := (h.arr (by simp; omega)); obtain ⟨b', o', e', hb', _⟩ := this; rw [hb] at e'; injection e' with e'; injection e' with e'; simp; omega)
end
end Go.Proofs.YtbdkggnajipdhaaGreatDoor
/- Walks: the reader of a game's tokens: expect, word, number, any, follows, pair. -/
namespace Go.Proofs.YtbdkggnajipdhaaGreatDoor
open Nat (reduceAdd reduceMul reduceSub reduceEqDiff reduceLT reduceLeDiff)
open Go.RowKit
set_option maxRecDepth 100000
def expectT (k : Int) (s : ByteArray) (L : List Tk) : Except (Int × List Tk) (Unit × List Tk) := thenT (isT k (bs s) L) L fun L' => .ok ((), L')
def wordT (L : List Tk) : Except (Int × List Tk) (ByteArray × List Tk) := if (hdT L).kind = 1 then .ok ((hdT L).text, nxT L) else .error (1, L)
def numberT (m : Int) (L : List Tk) : Except (Int × List Tk) (Int × List Tk) := thenT (lessT m L) L fun x => .ok x
def anyT (L : List Tk) : Except (Int × List Tk) (Int × List Tk) := thenT (numT L) L fun x => .ok x
section
variable {g c a : Nat} {A : Option Addr} {T : List Tk} {w : World} {rest : List Value}
theorem Res.after {α : Type} {r : Except (Int × List Tk) (α × List Tk)} {val : α → Value} {e : Ending} {w0 w1 : World} (h : Res g A c T rest w1 r val e w0) (k : Kept [g] w w1) : Res g A c T rest w r val e w0 := ⟨k.trans h.1, h.2⟩
theorem paExpect_any (k : Int) (s : ByteArray) (h : PkIn w g A c T a rest) (hT : TokOk T) : Calls Tryz.prog 55 #[.pointer (some ⟨g, 0, none⟩), .int .i64 k, .string s] w (Res g A c T rest w (expectT k s (T.drop a)) fun _ => .tuple #[]) := by
  refine calls_WX (l := [_, _, _]) Tryz.func55 rfl _ Tryz.ntmps55 (by simp) ?_
  generalize hRes : (Res g A c T rest w (expectT k s (T.drop a)) fun _ => .tuple #[]) = R
  have hlt := h.lt
  simp +contextual (maxSteps := 2000000) (disch := first | omega | (simp only [SZ]; first | done | omega) | (simp only [TS] at *; omega)) only [PZ, RZ, ovw, oneC, reduceAdd, reduceMul, reduceSub, reduceEqDiff, reduceLT, ↓reduceIte, Int.reduceToNat, reduceLeDiff]
  refine (paPeek_any h hT).mono ?_
  rintro e w1 ⟨rfl, hB1⟩
  generalize htd : hdT (T.drop a) = t
  rw [show (encTk t).toArray = #[.int .i64 t.kind, .int .i64 t.line, .int .i64 t.col, .string t.text] from rfl]
  have h1 := h.below hB1
  have k1 : Kept [g] w w1 := Kept.of_below hB1
  simp +contextual (maxSteps := 2000000) (disch := first | omega | (simp only [SZ]; first | done | omega) | (simp only [TS] at *; omega)) only [PZ, RZ, ovw, oneC, reduceAdd, reduceMul, reduceSub, reduceEqDiff, reduceLT, ↓reduceIte, Int.reduceToNat, reduceLeDiff]
  have h2 := h1.below (below_alloc w1 (.cells #[Value.int .i64 t.kind, .int .i64 t.line, .int .i64 t.col, .string t.text] 62))
  have k2 := k1.alloc (.cells #[Value.int .i64 t.kind, .int .i64 t.line, .int .i64 t.col, .string t.text] 62)
  have q2 := Row.new w1 62 [Value.int .i64 t.kind, .int .i64 t.line, .int .i64 t.col, .string t.text]
  replace q2 : Row (w1.alloc (.cells #[Value.int .i64 t.kind, .int .i64 t.line, .int .i64 t.col, .string t.text] 62)) _ _ _ := q2
  generalize w1.alloc (.cells #[Value.int .i64 t.kind, .int .i64 t.line, .int .i64 t.col, .string t.text] 62) = w2 at *
  have c0 := q2.cell (i := 0) rfl
  have c1 := q2.cell (i := 1) rfl
  have c2 := q2.cell (i := 2) rfl
  have c3 := q2.cell (i := 3) rfl
  (refine WX_if rfl (fun hc => ?_) (fun hc => ?_) <;> (try simp only [TS] at hc))
  · simp +contextual (maxSteps := 2000000) (disch := first | omega | (simp only [SZ]; first | done | omega) | (simp only [TS] at *; omega)) only [PZ, RZ, ovw, oneC, reduceAdd, reduceMul, reduceSub, reduceEqDiff, reduceLT, ↓reduceIte, Int.reduceToNat, reduceLeDiff,  c0, c1, c2, c3]
    refine (paFail_any g 1 t w2).mono ?_
    rintro e w3 ⟨rfl, hB3⟩
    have hc' : ¬ t.text = s := by simpa using hc
    have hI : isT k (bs s) (T.drop a) = none := isT_no (by rw [htd]; exact fun h => hc' (bs_inj h.2))
    subst hRes
    rw [Ends_pan, expectT, hI]
    refine ⟨k2.trans (Kept.of_below hB3), ?_⟩
    dsimp only [thenT]
    rw [htd]
  · have hc' : t.text = s := by simpa using hc
    simp +contextual (maxSteps := 2000000) (disch := first | omega | (simp only [SZ]; first | done | omega) | (simp only [TS] at *; omega)) only [PZ, RZ, ovw, oneC, reduceAdd, reduceMul, reduceSub, reduceEqDiff, reduceLT, ↓reduceIte, Int.reduceToNat, reduceLeDiff,  c0]
    refine (paTake_any k h2 hT).mono ?_
    rintro e w3 h3
    have h4 := h3.after k2
    subst hRes
    by_cases hk : t.kind = k
    · rw [takeT, htd, if_pos hk] at h4
      obtain ⟨k4, rfl, h5⟩ := h4
      simp +contextual (maxSteps := 2000000) (disch := first | omega | (simp only [SZ]; first | done | omega) | (simp only [TS] at *; omega)) only [PZ, RZ, ovw, oneC, reduceAdd, reduceMul, reduceSub, reduceEqDiff, reduceLT, ↓reduceIte, Int.reduceToNat, reduceLeDiff]
      rw [expectT, isT_yes (by rw [htd]; exact hk) (by rw [htd, hc'])]
      exact ⟨k4, rfl, h5⟩
    · rw [takeT, htd, if_neg hk] at h4
      obtain ⟨k4, rfl⟩ := h4
      simp +contextual (maxSteps := 2000000) (disch := first | omega | (simp only [SZ]; first | done | omega) | (simp only [TS] at *; omega)) only [PZ, RZ, ovw, oneC, reduceAdd, reduceMul, reduceSub, reduceEqDiff, reduceLT, ↓reduceIte, Int.reduceToNat, reduceLeDiff]
      rw [expectT, isT_no (by rw [htd]; exact fun h => hk h.1)]
      exact ⟨k4, rfl⟩
theorem paWord_any (h : PkIn w g A c T a rest) (hT : TokOk T) : Calls Tryz.prog 56 #[.pointer (some ⟨g, 0, none⟩)] w (Res g A c T rest w (wordT (T.drop a)) fun s => .string s) := by
  refine calls_WX (l := [_]) Tryz.func56 rfl _ Tryz.ntmps56 (by simp) ?_
  generalize hRes : (Res g A c T rest w (wordT (T.drop a)) fun s => .string s) = R
  simp +contextual (maxSteps := 2000000) (disch := first | omega | (simp only [SZ]; first | done | omega) | (simp only [TS] at *; omega)) only [PZ, RZ, ovw, oneC, reduceAdd, reduceMul, reduceSub, reduceEqDiff, reduceLT, ↓reduceIte, Int.reduceToNat, reduceLeDiff]
  refine (paTake_any 1 h hT).mono ?_
  rintro e w1 h1
  subst hRes
  by_cases hk : (hdT (T.drop a)).kind = 1
  · rw [takeT, if_pos hk] at h1
    obtain ⟨k1, rfl, h2⟩ := h1
    generalize htd : hdT (T.drop a) = t at *
    dsimp only
    rw [show (encTk t).toArray = #[.int .i64 t.kind, .int .i64 t.line, .int .i64 t.col, .string t.text] from rfl]
    simp +contextual (maxSteps := 2000000) (disch := first | omega | (simp only [SZ]; first | done | omega) | (simp only [TS] at *; omega)) only [PZ, RZ, ovw, oneC, reduceAdd, reduceMul, reduceSub, reduceEqDiff, reduceLT, ↓reduceIte, Int.reduceToNat, reduceLeDiff]
    rw [wordT, htd, if_pos hk]
    exact ⟨k1, rfl, h2⟩
  · rw [takeT, if_neg hk] at h1
    obtain ⟨k1, rfl⟩ := h1
    simp +contextual (maxSteps := 2000000) (disch := first | omega | (simp only [SZ]; first | done | omega) | (simp only [TS] at *; omega)) only [PZ, RZ, ovw, oneC, reduceAdd, reduceMul, reduceSub, reduceEqDiff, reduceLT, ↓reduceIte, Int.reduceToNat, reduceLeDiff]
    rw [wordT, if_neg hk]
    exact ⟨k1, rfl⟩
theorem tok_mem (h : a < T.length) : hdT (T.drop a) ∈ T := by
  rw [hdT_drop (List.getElem?_eq_getElem h)]; exact List.getElem_mem h
theorem paNumber_any (m : Int) (h : PkIn w g A c T a rest) (hT : TokOk T) : Calls Tryz.prog 133 #[.pointer (some ⟨g, 0, none⟩), .int .i64 m] w (Res g A c T rest w (numberT m (T.drop a)) fun n => .int .i64 n) := by
  refine calls_WX (l := [_, _]) Tryz.func133 rfl _ Tryz.ntmps133 (by simp) ?_
  generalize hRes : (Res g A c T rest w (numberT m (T.drop a)) fun n => .int .i64 n) = R
  have hlt := h.lt
  have htm := tok_mem h.lt
  simp +contextual (maxSteps := 2000000) (disch := first | omega | (simp only [SZ]; first | done | omega) | (simp only [TS] at *; omega)) only [PZ, RZ, ovw, oneC, reduceAdd, reduceMul, reduceSub, reduceEqDiff, reduceLT, ↓reduceIte, Int.reduceToNat, reduceLeDiff]
  refine (paTake_any 2 h hT).mono ?_
  rintro e w1 h1
  by_cases hk : (hdT (T.drop a)).kind = 2
  · rw [takeT, if_pos hk] at h1
    obtain ⟨k1, rfl, a1, ha1, h2⟩ := h1
    generalize htd : hdT (T.drop a) = t at *
    have hnum := hT.num t htm hk
    have hsz := hT.szs t htm
    dsimp only
    rw [show (encTk t).toArray = #[.int .i64 t.kind, .int .i64 t.line, .int .i64 t.col, .string t.text] from rfl]
    simp +contextual (maxSteps := 2000000) (disch := first | omega | (simp only [SZ]; first | done | omega) | (simp only [TS] at *; omega)) only [PZ, RZ, ovw, oneC, reduceAdd, reduceMul, reduceSub, reduceEqDiff, reduceLT, ↓reduceIte, Int.reduceToNat, reduceLeDiff]
    have h3 := h2.below (below_alloc w1 (.cells #[Value.int .i64 t.kind, .int .i64 t.line, .int .i64 t.col, .string t.text] 62))
    have k3 := k1.alloc (.cells #[Value.int .i64 t.kind, .int .i64 t.line, .int .i64 t.col, .string t.text] 62)
    have q3 := Row.new w1 62 [Value.int .i64 t.kind, .int .i64 t.line, .int .i64 t.col, .string t.text]
    replace q3 : Row (w1.alloc (.cells #[Value.int .i64 t.kind, .int .i64 t.line, .int .i64 t.col, .string t.text] 62)) _ _ _ := q3
    generalize w1.alloc (.cells #[Value.int .i64 t.kind, .int .i64 t.line, .int .i64 t.col, .string t.text] 62) = w3 at *
    have c0 := q3.cell (i := 0) rfl
    have c1 := q3.cell (i := 1) rfl
    have c2 := q3.cell (i := 2) rfl
    have c3 := q3.cell (i := 3) rfl
    refine (numParse_any t.text w3 (by omega)).mono ?_
    rintro e w4 ⟨rfl, rfl⟩
    have hnT : numT (T.drop a) = some ((numE (bs t.text)).1, nxT (T.drop a)) := by unfold numT; rw [htd, if_pos ⟨hk, hnum.1⟩]
    generalize numE (bs t.text) = NE at *
    obtain ⟨n0, n1, n2⟩ := hnum
    simp +contextual (maxSteps := 2000000) (disch := first | omega | (simp only [SZ]; first | done | omega) | (simp only [TS] at *; omega)) only [PZ, RZ, ovw, oneC, reduceAdd, reduceMul, reduceSub, reduceEqDiff, reduceLT, ↓reduceIte, Int.reduceToNat, reduceLeDiff,  n0]
    by_cases hm : NE.1 ≤ m
    · have hd1 : decide (m < NE.1) = false := by simpa using hm
      simp +contextual (maxSteps := 2000000) (disch := first | omega | (simp only [SZ]; first | done | omega) | (simp only [TS] at *; omega)) only [PZ, RZ, ovw, oneC, reduceAdd, reduceMul, reduceSub, reduceEqDiff, reduceLT, ↓reduceIte, Int.reduceToNat, reduceLeDiff,  hd1]
      refine WX_if_f rfl ?_
      simp +contextual (maxSteps := 2000000) (disch := first | omega | (simp only [SZ]; first | done | omega) | (simp only [TS] at *; omega)) only [PZ, RZ, ovw, oneC, reduceAdd, reduceMul, reduceSub, reduceEqDiff, reduceLT, ↓reduceIte, Int.reduceToNat, reduceLeDiff]
      subst hRes
      rw [numberT, lessT, hnT]
      dsimp only
      rw [if_pos hm]
      exact ⟨k3, rfl, a1, ha1, h3⟩
    · have hd1 : decide (m < NE.1) = true := by simpa using hm
      simp +contextual (maxSteps := 2000000) (disch := first | omega | (simp only [SZ]; first | done | omega) | (simp only [TS] at *; omega)) only [PZ, RZ, ovw, oneC, reduceAdd, reduceMul, reduceSub, reduceEqDiff, reduceLT, ↓reduceIte, Int.reduceToNat, reduceLeDiff,  hd1]
      refine WX_if_t rfl ?_
      simp +contextual (maxSteps := 2000000) (disch := first | omega | (simp only [SZ]; first | done | omega) | (simp only [TS] at *; omega)) only [PZ, RZ, ovw, oneC, reduceAdd, reduceMul, reduceSub, reduceEqDiff, reduceLT, ↓reduceIte, Int.reduceToNat, reduceLeDiff,  c0, c1, c2, c3]
      refine (paFail_any g 1 t w3).mono ?_
      rintro e w4 ⟨rfl, hB4⟩
      subst hRes
      rw [Ends_pan, numberT, lessT, hnT]
      dsimp only
      rw [if_neg hm]
      refine ⟨k3.trans (Kept.of_below hB4), ?_⟩
      dsimp only [thenT]
      rw [htd]
  · rw [takeT, if_neg hk] at h1
    obtain ⟨k1, rfl⟩ := h1
    simp +contextual (maxSteps := 2000000) (disch := first | omega | (simp only [SZ]; first | done | omega) | (simp only [TS] at *; omega)) only [PZ, RZ, ovw, oneC, reduceAdd, reduceMul, reduceSub, reduceEqDiff, reduceLT, ↓reduceIte, Int.reduceToNat, reduceLeDiff]
    subst hRes
    have hnT : numT (T.drop a) = none := by unfold numT; rw [if_neg (fun h => hk h.1)]
    rw [numberT, lessT, hnT]
    exact ⟨k1, rfl⟩
theorem num_small (h : PkIn w g A c T a rest) (hT : TokOk T) {x : Int × List Tk} (hx : numT (T.drop a) = some x) : 0 ≤ x.1 ∧ x.1 ≤ 999999999999999999 := by
  obtain ⟨h1, _, h3, _⟩ := num_some (x := x.1) (L' := x.2) hx
  rw [h3]
  exact (hT.num _ (tok_mem h.lt) h1).2
theorem anyT_is (h : PkIn w g A c T a rest) (hT : TokOk T) : numberT 999999999999999999 (T.drop a) = anyT (T.drop a) := by
  unfold numberT anyT lessT
  cases hx : numT (T.drop a) with
  | none => rfl
  | some x => simp only [if_pos (num_small h hT hx).2]
theorem paAny_any (h : PkIn w g A c T a rest) (hT : TokOk T) : Calls Tryz.prog 108 #[.pointer (some ⟨g, 0, none⟩)] w (Res g A c T rest w (anyT (T.drop a)) fun n => .int .i64 n) := by
  refine calls_WX (l := [_]) Tryz.func108 rfl _ Tryz.ntmps108 (by simp) ?_
  generalize hRes : (Res g A c T rest w (anyT (T.drop a)) fun n => .int .i64 n) = R
  simp +contextual (maxSteps := 2000000) (disch := first | omega | (simp only [SZ]; first | done | omega) | (simp only [TS] at *; omega)) only [PZ, RZ, ovw, oneC, reduceAdd, reduceMul, reduceSub, reduceEqDiff, reduceLT, ↓reduceIte, Int.reduceToNat, reduceLeDiff]
  refine (paNumber_any 999999999999999999 h hT).mono ?_
  rintro e w1 h1
  rw [anyT_is h hT] at h1
  subst hRes
  cases hr : anyT (T.drop a) with
  | ok x =>
    rw [hr] at h1
    obtain ⟨k1, rfl, h2⟩ := h1
    simp +contextual (maxSteps := 2000000) (disch := first | omega | (simp only [SZ]; first | done | omega) | (simp only [TS] at *; omega)) only [PZ, RZ, ovw, oneC, reduceAdd, reduceMul, reduceSub, reduceEqDiff, reduceLT, ↓reduceIte, Int.reduceToNat, reduceLeDiff]
    exact ⟨k1, rfl, h2⟩
  | error x =>
    rw [hr] at h1
    obtain ⟨k1, rfl⟩ := h1
    simp +contextual (maxSteps := 2000000) (disch := first | omega | (simp only [SZ]; first | done | omega) | (simp only [TS] at *; omega)) only [PZ, RZ, ovw, oneC, reduceAdd, reduceMul, reduceSub, reduceEqDiff, reduceLT, ↓reduceIte, Int.reduceToNat, reduceLeDiff]
    exact ⟨k1, rfl⟩
theorem paFollows_any (s : ByteArray) (h : PkIn w g A c T a rest) (hT : TokOk T) : Calls Tryz.prog 131 #[.pointer (some ⟨g, 0, none⟩), .string s] w fun e w' =>
    e = .returned (.bool (isT 1 (bs s) (T.drop a)).isSome) ∧ PkIn w' g A c T (if (isT 1 (bs s) (T.drop a)).isSome then a + 1 else a) rest ∧ Kept [g] w w' ∧ ((isT 1 (bs s) (T.drop a)).isSome = true → isT 1 (bs s) (T.drop a) = some (T.drop (a + 1))) := by
  refine calls_W (l := [_, _]) Tryz.func131 rfl _ Tryz.ntmps131 (by simp) ?_
  have hlt := h.lt
  have hbig := hT.big
  simp +contextual (maxSteps := 2000000) (disch := first | omega | (simp only [SZ]; first | done | omega) | (simp only [TS] at *; omega)) only [RZ, ovw, oneC, reduceAdd, reduceMul, reduceSub, reduceEqDiff, reduceLT, ↓reduceIte, Int.reduceToNat, reduceLeDiff]
  refine (paPeek_any h hT).mono ?_
  rintro e w1 ⟨rfl, hB1⟩
  refine ⟨_, rfl, ?_⟩
  generalize htd : hdT (T.drop a) = t
  rw [show (encTk t).toArray = #[.int .i64 t.kind, .int .i64 t.line, .int .i64 t.col, .string t.text] from rfl]
  have h1 := h.below hB1
  have k1 : Kept [g] w w1 := Kept.of_below hB1
  simp +contextual (maxSteps := 2000000) (disch := first | omega | (simp only [SZ]; first | done | omega) | (simp only [TS] at *; omega)) only [RZ, ovw, oneC, reduceAdd, reduceMul, reduceSub, reduceEqDiff, reduceLT, ↓reduceIte, Int.reduceToNat, reduceLeDiff]
  have h2 := h1.below (below_alloc w1 (.cells #[Value.int .i64 t.kind, .int .i64 t.line, .int .i64 t.col, .string t.text] 62))
  have k2 := k1.alloc (.cells #[Value.int .i64 t.kind, .int .i64 t.line, .int .i64 t.col, .string t.text] 62)
  have q2 := Row.new w1 62 [Value.int .i64 t.kind, .int .i64 t.line, .int .i64 t.col, .string t.text]
  replace q2 : Row (w1.alloc (.cells #[Value.int .i64 t.kind, .int .i64 t.line, .int .i64 t.col, .string t.text] 62)) _ _ _ := q2
  generalize w1.alloc (.cells #[Value.int .i64 t.kind, .int .i64 t.line, .int .i64 t.col, .string t.text] 62) = w2 at *
  have c0 := q2.cell (i := 0) rfl
  have c3 := q2.cell (i := 3) rfl
  have p1 := h2.row.cell (i := 1) rfl
  have p1z := h2.row.frozen 1
  have htm := hdT_drop (List.getElem?_eq_getElem hlt)
  (refine W_if rfl (fun hc => ?_) (fun hc => ?_) <;> (try simp only [TS] at hc))
  · have hI : isT 1 (bs s) (T.drop a) = none := isT_no (by
      rw [htd]
      rintro ⟨h1, h2⟩
      rw [h1, bs_inj h2] at hc
      simp at hc)
    rw [hI]
    simp +contextual (maxSteps := 2000000) (disch := first | omega | (simp only [SZ]; first | done | omega) | (simp only [TS] at *; omega)) only [RZ, ovw, oneC, reduceAdd, reduceMul, reduceSub, reduceEqDiff, reduceLT, ↓reduceIte, Int.reduceToNat, reduceLeDiff]
    exact ⟨h2, k2, fun h => (by cases h)⟩
  · have hkt : t.kind = 1 ∧ t.text = s := by simpa using hc
    have hI : isT 1 (bs s) (T.drop a) = some (nxT (T.drop a)) := isT_yes (by rw [htd]; exact hkt.1) (by rw [htd, hkt.2])
    have hat : T[a]? = some t := by rw [List.getElem?_eq_getElem hlt, ← htm, htd]
    have hlast := hT.last a t hat (by omega)
    rw [hI]
    simp +contextual (maxSteps := 2000000) (disch := first | omega | (simp only [SZ]; first | done | omega) | (simp only [TS] at *; omega)) only [RZ, ovw, oneC, reduceAdd, reduceMul, reduceSub, reduceEqDiff, reduceLT, ↓reduceIte, Int.reduceToNat, reduceLeDiff,  p1, p1z]
    have k3 := k2.setCell (p := ⟨g, 1, none⟩) (by simp) (.int .i64 ((a : Int) + 1))
    have h3 := h2.kept1 ((Kept.refl [g] w2).setCell (p := ⟨g, 1, none⟩) (by simp) (.int .i64 ((a : Int) + 1))) hlast (h2.row.set_ (i := 1) (by simp) _)
    exact ⟨h3, k3, by rw [nxT_drop hlast]; exact fun _ => rfl⟩
/-- A reader's call, and what stands behind it. -/
theorem Res.use {α : Type} {P : Program} {f : FuncId} {args : Array Value} {r : Except (Int × List Tk) (α × List Tk)} {val : α → Value} {R : Value → World → Prop} {X : List PanicEntry → World → Prop} (hc : Calls P f args w (Res g A c T rest w r val))
    (h1 : ∀ x a' w', r = .ok (x, T.drop a') → Kept [g] w w' → PkIn w' g A c T a' rest → R (val x) w')
    (h2 : ∀ e L w', r = .error (e, L) → Kept [g] w w' → X [{ v := failV e (hdT L).line, recovered := false }] w') : Calls P f args w (Ends R X) := by
  refine hc.mono fun e w' h => ?_
  obtain ⟨k, h⟩ := h
  cases hr : r with
  | ok x =>
    rw [hr] at h
    obtain ⟨x, L⟩ := x
    obtain ⟨rfl, a', ha, hp⟩ := h
    dsimp only at ha
    subst ha
    exact h1 x a' w' hr k hp
  | error x =>
    rw [hr] at h
    obtain ⟨e', L⟩ := x
    have h : e = _ := h
    subst h
    exact h2 e' L w' hr k
theorem anyT_ok {L L' : List Tk} {n : Int} (h : anyT L = .ok (n, L')) : numT L = some (n, L') := by
  unfold anyT at h
  cases hn : numT L with
  | none => rw [hn] at h; cases h
  | some x => rw [hn] at h; dsimp only [thenT] at h; rw [Except.ok.inj h]
theorem anyT_err {L L' : List Tk} {e : Int} (h : anyT L = .error (e, L')) : numT L = none ∧ e = 1 ∧ L' = L := by
  unfold anyT at h
  cases hn : numT L with
  | none => rw [hn] at h; dsimp only [thenT] at h; have := Except.error.inj h; injection this with h1 h2; exact ⟨rfl, h1.symm, h2.symm⟩
  | some x => rw [hn] at h; cases h
theorem expT_ok {k : Int} {s : ByteArray} {L L' : List Tk} {u : Unit} (h : expectT k s L = .ok (u, L')) : isT k (bs s) L = some L' := by
  unfold expectT at h
  cases hn : isT k (bs s) L with
  | none => rw [hn] at h; cases h
  | some x => rw [hn] at h; dsimp only [thenT] at h; have := Except.ok.inj h; injection this with h1 h2; rw [h2]
theorem expT_err {k : Int} {s : ByteArray} {L L' : List Tk} {e : Int} (h : expectT k s L = .error (e, L')) : isT k (bs s) L = none ∧ e = 1 ∧ L' = L := by
  unfold expectT at h
  cases hn : isT k (bs s) L with
  | none => rw [hn] at h; dsimp only [thenT] at h; have := Except.error.inj h; injection this with h1 h2; exact ⟨rfl, h1.symm, h2.symm⟩
  | some x => rw [hn] at h; cases h
theorem numbT_ok {m : Int} {L L' : List Tk} {n : Int} (h : numberT m L = .ok (n, L')) : lessT m L = some (n, L') := by
  unfold numberT at h
  cases hn : lessT m L with
  | none => rw [hn] at h; cases h
  | some x => rw [hn] at h; dsimp only [thenT] at h; rw [Except.ok.inj h]
theorem numbT_err {m : Int} {L L' : List Tk} {e : Int} (h : numberT m L = .error (e, L')) : lessT m L = none ∧ e = 1 ∧ L' = L := by
  unfold numberT at h
  cases hn : lessT m L with
  | none => rw [hn] at h; dsimp only [thenT] at h; have := Except.error.inj h; injection this with h1 h2; exact ⟨rfl, h1.symm, h2.symm⟩
  | some x => rw [hn] at h; cases h
theorem Res.ok {α : Type} {r : Except (Int × List Tk) (α × List Tk)} {val : α → Value} {w' : World} {x : α} {a' : Nat} (hr : r = .ok (x, T.drop a')) (k : Kept [g] w w') (h : PkIn w' g A c T a' rest) : Res g A c T rest w r val (.returned (val x)) w' := by
  subst hr; exact ⟨k, rfl, a', rfl, h⟩
theorem Res.err {α : Type} {r : Except (Int × List Tk) (α × List Tk)} {val : α → Value} {w' : World} {e : Int} {L : List Tk} (hr : r = .error (e, L)) (k : Kept [g] w w') : Res g A c T rest w r val (.panicked [{ v := failV e (hdT L).line, recovered := false }]) w' := by
  subst hr; exact ⟨k, rfl⟩
theorem paPair_any (h : PkIn w g A c T a rest) (hT : TokOk T) : Calls Tryz.prog 103 #[.pointer (some ⟨g, 0, none⟩)] w (Res g A c T rest w (pairT (T.drop a)) fun x => .tuple #[.int .i64 x.1, .int .i64 x.2]) := by
  refine calls_WX (l := [_]) Tryz.func103 rfl _ Tryz.ntmps103 (by simp) ?_
  generalize hr : pairT (T.drop a) = r
  unfold pairT at hr
  simp +contextual (maxSteps := 2000000) (disch := first | omega | (simp only [SZ]; first | done | omega) | (simp only [TS] at *; omega)) only [PZ, RZ, ovw, oneC, reduceAdd, reduceMul, reduceSub, reduceEqDiff, reduceLT, ↓reduceIte, Int.reduceToNat, reduceLeDiff]
  refine Res.use (paAny_any h hT) (fun x a1 w1 e1 k1 h1 => ?_) (fun e L w1 e1 k1 => ?_); rotate_left
  · obtain ⟨q1, rfl, rfl⟩ := anyT_err e1
    rw [q1] at hr
    exact Res.err hr.symm k1
  have q1 := anyT_ok e1
  rw [q1] at hr
  dsimp only [thenT] at hr
  try simp +contextual (maxSteps := 2000000) (disch := first | omega | (simp only [SZ]; first | done | omega) | (simp only [TS] at *; omega)) only [PZ, RZ, ovw, oneC, reduceAdd, reduceMul, reduceSub, reduceEqDiff, reduceLT, ↓reduceIte, Int.reduceToNat, reduceLeDiff]
  have ho : bs ⟨#[111, 102]⟩ = asc "of" := by decide +kernel
  refine Res.use (paExpect_any 1 _ h1 hT) (fun u a2 w2 e2 k2 h2 => ?_) (fun e L w2 e2 k2 => ?_); rotate_left
  · obtain ⟨q2, rfl, rfl⟩ := expT_err e2
    rw [ho] at q2
    rw [q2] at hr
    exact Res.err hr.symm (k1.trans k2)
  have q2 := expT_ok e2
  rw [ho] at q2
  rw [q2] at hr
  dsimp only [thenT] at hr
  try simp +contextual (maxSteps := 2000000) (disch := first | omega | (simp only [SZ]; first | done | omega) | (simp only [TS] at *; omega)) only [PZ, RZ, ovw, oneC, reduceAdd, reduceMul, reduceSub, reduceEqDiff, reduceLT, ↓reduceIte, Int.reduceToNat, reduceLeDiff]
  refine Res.use (paAny_any h2 hT) (fun y a3 w3 e3 k3 h3 => ?_) (fun e L w3 e3 k3 => ?_); rotate_left
  · obtain ⟨q3, rfl, rfl⟩ := anyT_err e3
    rw [q3] at hr
    exact Res.err hr.symm ((k1.trans k2).trans k3)
  have q3 := anyT_ok e3
  rw [q3] at hr
  dsimp only [thenT] at hr
  try simp +contextual (maxSteps := 2000000) (disch := first | omega | (simp only [SZ]; first | done | omega) | (simp only [TS] at *; omega)) only [PZ, RZ, ovw, oneC, reduceAdd, reduceMul, reduceSub, reduceEqDiff, reduceLT, ↓reduceIte, Int.reduceToNat, reduceLeDiff]
  exact Res.ok hr.symm ((k1.trans k2).trans k3) h3
end
end Go.Proofs.YtbdkggnajipdhaaGreatDoor
