/- Texts laid one behind the other: PaR, ScrQ, ArG, Arr, PaC, PaD. Each says at its head what it proves. -/
import Derived.Test.YtbdkggnajipdhaaDoorY07
set_option linter.unusedSimpArgs false
/- The engine's rules for this chapter: bits of ints, lookups, a set of strings. No function of the program in sight. -/
namespace Go.Proofs.YtbdkggnajipdhaaDoor
open Go.RowKit
set_option maxRecDepth 100000
section
variable {P : Program} {T : TypeId} {x y : Operand} {w : World}
theorem bits_nat {n a : Nat} (h : a < 2 ^ n) : (BitVec.ofInt n (a : Int)).toNat = a := by
  rw [BitVec.toNat_ofInt, Int.emod_eq_of_lt (Int.natCast_nonneg a) (by exact_mod_cast h), Int.toNat_natCast]
theorem vBin_andN {a b : Nat} (ha : a < 4611686018427387904) (hb : b < 4611686018427387904) : vBin P .and T x y (.int .i64 a) (.int .i64 b) w = .ok (.value (.int .i64 ((a &&& b : Nat) : Int))) w := by
  have hbits : (2 : Nat) ^ IntKind.i64.bits = 18446744073709551616 := by decide
  have e : ((BitVec.ofInt IntKind.i64.bits (a : Int) &&& BitVec.ofInt IntKind.i64.bits (b : Int)).toNat : Int) = ((a &&& b : Nat) : Int) := by
    rw [BitVec.toNat_and, bits_nat (by omega), bits_nat (by omega)]
  have hle : a &&& b ≤ a := Nat.and_le_left
  have e2 : IntKind.i64.wrap ((a &&& b : Nat) : Int) = ((a &&& b : Nat) : Int) := IntWalk.i64_in _ (by omega)
  simp [vBin, eqGuard, binOp, Op.intBits, -BitVec.toNat_and, -BitVec.toNat_or, -BitVec.toNat_ofInt, -BitVec.ofInt_ofNat, -BitVec.ofInt_natCast, e, e2]
theorem vBin_orN {a b : Nat} (ha : a < 4611686018427387904) (hb : b < 4611686018427387904) : vBin P .or T x y (.int .i64 a) (.int .i64 b) w = .ok (.value (.int .i64 ((a ||| b : Nat) : Int))) w := by
  have hbits : (2 : Nat) ^ IntKind.i64.bits = 18446744073709551616 := by decide
  have e : ((BitVec.ofInt IntKind.i64.bits (a : Int) ||| BitVec.ofInt IntKind.i64.bits (b : Int)).toNat : Int) = ((a ||| b : Nat) : Int) := by
    rw [BitVec.toNat_or, bits_nat (by omega), bits_nat (by omega)]
  have hle : a ||| b < 2 ^ 62 := Nat.or_lt_two_pow (by omega) (by omega)
  have e2 : IntKind.i64.wrap ((a ||| b : Nat) : Int) = ((a ||| b : Nat) : Int) := IntWalk.i64_in _ (by omega)
  simp [vBin, eqGuard, binOp, Op.intBits, -BitVec.toNat_and, -BitVec.toNat_or, -BitVec.toNat_ofInt, -BitVec.ofInt_ofNat, -BitVec.ofInt_natCast, e, e2]
theorem vBin_shlN {k : IntKind} {i : Nat} (hi : i < 7) : vBin P .shl T x y (.int .i64 1) (.int k i) w = .ok (.value (.int .i64 ((2 ^ i : Nat) : Int))) w := by
  have e : IntKind.i64.wrap (1 * 2 ^ (min (i : Int).toNat IntKind.i64.bits)) = ((2 ^ i : Nat) : Int) := by
    have : ∀ i : Fin 7, IntKind.i64.wrap (1 * 2 ^ (min (i.1 : Int).toNat IntKind.i64.bits)) = ((2 ^ i.1 : Nat) : Int) := by decide +kernel
    exact this ⟨i, hi⟩
  simp only [vBin, eqGuard, binOp, Op.shift]
  simp [show ¬ ((i : Int) < 0) by omega]
  first | done | (simpa using e)
theorem vLookup_str0 {l : List (ByteArray × Value × Nat)} {clk g : Nat} {k : ByteArray} {z : Value} (hz : mapZ P T = some z) (hg : w.heap[g]? = some (.map (mkS l) clk)) :
    vLookup P T (.map (some g)) (.string k) false w = .ok (.value ((sget k l).getD z)) w := by
  obtain ⟨K, E, inf, hT, hK, hE, hzz⟩ := mapZ_is hz
  have hf := findNow_str (k := k) l 0
  cases hs : sfind k 0 l with
  | none =>
    rw [hs] at hf
    simp [vLookup, Instr.lookup, Sem.run_bind, run_underlying hT w, getObj, Sem.run, hg, run_checkKey_str hK, run_underlying hK w, Instr.findKey, mkS, hf, zeroValue, typeInfo, hE, hzz, sget, hs]
  | some p =>
    rw [hs] at hf
    simp [vLookup, Instr.lookup, Sem.run_bind, run_underlying hT w, getObj, Sem.run, hg, run_checkKey_str hK, run_underlying hK w, Instr.findKey, mkS, hf, sget, hs]
end
/-- The map at g holds the words seen. -/
def SeenIn (w : World) (g : Nat) (seen : List (List Nat)) : Prop := ∃ (l : List (ByteArray × Value × Nat)) (clk : Nat), w.heap[g]? = some (.map (mkS l) clk) ∧ ∀ k, (bs k ∈ seen → sget k l = some (.bool true)) ∧ (bs k ∉ seen → sget k l = none)
theorem SeenIn.kept {X : List Nat} {w w' : World} {g : Nat} {seen : List (List Nat)} (h : SeenIn w g seen) (k : Kept X w w') (hg : g ∉ X) : SeenIn w' g seen := by
  obtain ⟨l, clk, h1, h2⟩ := h
  exact ⟨l, clk, (k.block g (Array.getElem?_eq_some_iff.1 h1).1 hg).trans h1, h2⟩
theorem SeenIn.lt {w : World} {g : Nat} {seen : List (List Nat)} (h : SeenIn w g seen) : g < w.heap.size := by
  obtain ⟨l, clk, h1, h2⟩ := h
  exact (Array.getElem?_eq_some_iff.1 h1).1
theorem SeenIn.new (w : World) : SeenIn (w.alloc (.map #[] 0)) w.heap.size [] := ⟨[], 0, heap_alloc_new w _, fun k => ⟨fun h => (by cases h), fun _ => rfl⟩⟩
theorem sfind_app (k : ByteArray) (x : ByteArray × Value × Nat) : ∀ (l : List (ByteArray × Value × Nat)) (i : Nat), sfind k i (l ++ [x]) = match sfind k i l with
    | some p => some p
    | none => if k = x.1 then some (i + l.length, x.2.1) else none
  | [], i => by
    obtain ⟨k', v, b⟩ := x
    rw [List.nil_append, sfind, sfind, sfind]; rfl
  | (k', v, b) :: r, i => by
    rw [List.cons_append, sfind, sfind]
    by_cases h : k = k'
    · rw [if_pos h, if_pos h]
    · rw [if_neg h, if_neg h, sfind_app k x r (i + 1)]
      cases sfind k (i + 1) r with
      | some p => rfl
      | none => simp only [List.length_cons]; split <;> simp <;> omega
theorem SeenIn.add {w : World} {g : Nat} {seen : List (List Nat)} {s : ByteArray} {l : List (ByteArray × Value × Nat)} {clk : Nat} (h1 : w.heap[g]? = some (.map (mkS l) clk)) (h2 : ∀ k, (bs k ∈ seen → sget k l = some (.bool true)) ∧ (bs k ∉ seen → sget k l = none)) (hs : bs s ∉ seen) :
    SeenIn (setO w g (.map (mkS (l ++ [(s, .bool true, clk)])) (clk + 1))) g (bs s :: seen) := by
  refine ⟨_, _, setO_at _ (Array.getElem?_eq_some_iff.1 h1).1, fun k => ?_⟩
  unfold sget
  rw [sfind_app]
  by_cases hk : k = s
  · subst hk
    refine ⟨fun _ => ?_, fun h => absurd List.mem_cons_self h⟩
    have := (h2 k).2 hs
    unfold sget at this
    cases hf : sfind k 0 l with
    | some p => rw [hf] at this; cases this
    | none => simp
  · constructor
    · intro h
      rcases List.mem_cons.1 h with h | h
      · exact absurd (bs_inj h) hk
      · have := (h2 k).1 h
        unfold sget at this
        cases hf : sfind k 0 l with
        | some p => rw [hf] at this; exact this
        | none => rw [hf] at this; cases this
    · intro h
      have := (h2 k).2 (fun e => h (List.mem_cons_of_mem _ e))
      unfold sget at this
      cases hf : sfind k 0 l with
      | some p => rw [hf] at this; cases this
      | none => simp [hk]
theorem setO_kept {X : List Nat} {a w : World} {g : Nat} (h : Kept X a w) (hg : g ∈ X) (o : Obj) : Kept X a (setO w g o) :=
  h.trans ⟨rfl, rfl, rfl, by rw [setO_size]; exact Nat.le_refl _, fun k hk hx => setO_block o (fun e => hx (e ▸ hg))⟩
/-- Numbers as values. -/
def iW (l : List Int) : List Value := l.map fun n => Value.int .i64 n
/-! Days. -/
theorem day_bits (d i : Nat) (hd : d < 128) (hi : i < 7) : (d &&& 2 ^ i = 0 ↔ ¬ d / 2 ^ i % 2 = 1) ∧ (¬ d / 2 ^ i % 2 = 1 → d ||| 2 ^ i = d + 2 ^ i ∧ d + 2 ^ i < 128) := by
  have : ∀ (d : Fin 128) (i : Fin 7), (d.1 &&& 2 ^ i.1 = 0 ↔ ¬ d.1 / 2 ^ i.1 % 2 = 1) ∧ (¬ d.1 / 2 ^ i.1 % 2 = 1 → d.1 ||| 2 ^ i.1 = d.1 + 2 ^ i.1 ∧ d.1 + 2 ^ i.1 < 128) := by decide +kernel
  exact this ⟨d, hd⟩ ⟨i, hi⟩
theorem dayI_lt {w : List Nat} {i : Nat} (h : dayI w = some i) : i < 7 ∧ dayW[i]? = some w ∧ ∀ j, j < i → dayW[j]? ≠ some w := by
  unfold dayI at h
  rw [List.findIdx?_eq_some_iff_getElem] at h
  obtain ⟨h1, h2, h3⟩ := h
  refine ⟨h1, ?_, fun j hj e => ?_⟩
  · rw [List.getElem?_eq_getElem h1]; simpa using h2
  · have := h3 j hj
    rw [List.getElem?_eq_getElem (by omega)] at e
    simp only [Option.some.injEq] at e
    simp [e] at this
theorem dayI_at {w : List Nat} {i : Nat} (h1 : dayW[i]? = some w) (h2 : ∀ j d, j < i → dayW[j]? = some d → d ≠ w) : dayI w = some i := by
  unfold dayI
  rw [List.findIdx?_eq_some_iff_getElem]
  obtain ⟨hi, he⟩ := List.getElem?_eq_some_iff.1 h1
  refine ⟨hi, by simpa using he, fun j hj => ?_⟩
  have := h2 j _ hj (List.getElem?_eq_getElem (by omega))
  simpa using this
theorem dayI_none {w : List Nat} (h2 : ∀ j d, j < 7 → dayW[j]? = some d → d ≠ w) : dayI w = none := by
  unfold dayI
  rw [List.findIdx?_eq_none_iff]
  intro d hd
  obtain ⟨j, hj⟩ := List.mem_iff_getElem?.1 hd
  have hl := (List.getElem?_eq_some_iff.1 hj).1
  have := h2 j d hl hj
  simpa using this
end Go.Proofs.YtbdkggnajipdhaaDoor
/- Plain: numbers, digits of sixteen and quoted texts are read as they were written. No program in sight. -/
namespace Go.Proofs.YtbdkggnajipdhaaDoor
theorem bs_toBA {l : List Nat} (h : ∀ c ∈ l, c < 256) : bs (toBA l) = l := by
  unfold bs toBA
  simp only [List.map_map]
  conv => rhs; rw [← List.map_id l]
  refine List.map_congr_left fun c hc => ?_
  have := h c hc
  simp only [Function.comp, id]
  simp only [UInt8.toNat_ofNat']
  omega
theorem toBA_bs (s : ByteArray) : toBA (bs s) = s := bs_inj (bs_toBA (bs_lt s))
/-! Digits of sixteen. -/
theorem hexv_d {d : Nat} (h : d < 16) : hexv (hexd d) = some d := by
  unfold hexv hexd
  by_cases h1 : d < 10
  · rw [if_pos h1, if_pos (by omega)]
    congr 1
    omega
  · rw [if_neg h1, if_neg (by omega), if_pos (by omega)]
    congr 1
    omega
theorem hexd_bd {d : Nat} (h : d < 16) : (48 ≤ hexd d ∧ hexd d ≤ 57) ∨ (97 ≤ hexd d ∧ hexd d ≤ 102) := by unfold hexd; split <;> omega
theorem hexT_len : ∀ (k x : Nat), (hexT k x).length = k
  | 0, _ => rfl
  | k + 1, x => by rw [hexT, List.length_cons, hexT_len k x]
theorem hexT_all : ∀ (k x : Nat), ∀ c ∈ hexT k x, (48 ≤ c ∧ c ≤ 57) ∨ (97 ≤ c ∧ c ≤ 102)
  | 0, _, c, h => by simp [hexT] at h
  | k + 1, x, c, h => by
    rw [hexT, List.mem_cons] at h
    rcases h with rfl | h
    · exact hexd_bd (Nat.mod_lt _ (by decide))
    · exact hexT_all k x c h
theorem hexV_T : ∀ (k acc x : Nat), hexV acc (hexT k x) = some (acc * 16 ^ k + x % 16 ^ k)
  | 0, acc, x => by simp [hexT, hexV, Nat.mod_one]
  | k + 1, acc, x => by
    rw [hexT, hexV, hexv_d (Nat.mod_lt _ (by decide))]
    simp only
    rw [hexV_T k]
    congr 1
    have e : x % 16 ^ (k + 1) = 16 ^ k * (x / 16 ^ k % 16) + x % 16 ^ k := by
      rw [Nat.pow_succ, Nat.mod_mul]; omega
    rw [e, Nat.pow_succ, Nat.add_mul, ← Nat.mul_assoc]
    have : acc * 16 * 16 ^ k = acc * 16 ^ k * 16 := by rw [Nat.mul_assoc, Nat.mul_comm 16, Nat.mul_assoc]
    rw [this]
    have h2 : x / 16 ^ k % 16 * 16 ^ k = 16 ^ k * (x / 16 ^ k % 16) := Nat.mul_comm ..
    omega
theorem hexE_T {x : Nat} (h : x < 18446744073709551616) : hexE (hexT 16 x) = some x := by
  unfold hexE
  rw [if_pos (hexT_len _ _), hexV_T]
  congr 1
  rw [Nat.mod_eq_of_lt (by simpa using h)]
  omega
/-! Texts in quotes. -/
theorem plain_bd {c : Nat} (h : plainB c = true) : 32 ≤ c ∧ c ≤ 126 ∧ c ≠ 34 ∧ c ≠ 92 := by
  unfold plainB at h
  simp at h
  omega
theorem escS_self {c : Nat} (r : List Nat) (h : c = 34 ∨ c = 92) : escS (c :: r) = some (c, 1) := by unfold escS; exact if_pos h
theorem escS_n (r : List Nat) : escS (110 :: r) = some (10, 1) := rfl
theorem escS_x {x y : Nat} (h l : Nat) (r : List Nat) (hx : hexv h = some x) (hy : hexv l = some y) : escS (120 :: h :: l :: r) = if (32 ≤ x * 16 + y ∧ x * 16 + y ≤ 126) ∨ x * 16 + y = 10 then none else some (x * 16 + y, 3) := by
  have e : escS (120 :: h :: l :: r) = (match hexv h, hexv l with
        | some x, some y => if (32 ≤ x * 16 + y ∧ x * 16 + y ≤ 126) ∨ x * 16 + y = 10 then none else some (x * 16 + y, 3)
        | _, _ => none) := rfl
  rw [e, hx, hy]
theorem unq_q (c : Nat) (r : List Nat) (h : c < 256) : unq (qB c ++ r) = (unq r).map (c :: ·) := by
  unfold qB
  by_cases hp : plainB c = true
  · rw [if_pos hp]
    obtain ⟨h1, h2, h3, h4⟩ := plain_bd hp
    rw [List.cons_append, unq, if_neg h3, if_neg h4, if_pos hp]
    rfl
  · rw [if_neg hp]
    by_cases h1 : c = 34 ∨ c = 92
    · rw [if_pos h1, List.cons_append, List.cons_append, unq, if_neg (by decide), if_pos rfl, escS_self _ h1]
      rfl
    · rw [if_neg h1]
      by_cases h2 : c = 10
      · subst h2
        rw [if_pos rfl, List.cons_append, List.cons_append, unq, if_neg (by decide), if_pos rfl, escS_n]
        rfl
      · rw [if_neg h2, List.cons_append, List.cons_append, List.cons_append, List.cons_append, unq, if_neg (by decide), if_pos rfl, escS_x _ _ _ (hexv_d (show c / 16 < 16 by omega)) (hexv_d (show c % 16 < 16 by omega))]
        have e : c / 16 * 16 + c % 16 = c := by omega
        rw [e, if_neg]
        · rfl
        · intro hh
          rcases hh with hh | hh
          · refine hp ?_
            unfold plainB
            simp
            omega
          · exact h2 hh
theorem unq_quote : ∀ (l : List Nat), (∀ c ∈ l, c < 256) → unq (l.flatMap qB ++ [34]) = some l
  | [], _ => by
    rw [List.flatMap_nil, List.nil_append, unq, if_pos rfl, if_pos rfl]
  | c :: l, h => by
    rw [List.flatMap_cons, List.append_assoc, unq_q c _ (h c (by simp)), unq_quote l fun d hd => h d (by simp [hd])]
    rfl
theorem textS_quote {l : List Nat} (h : ∀ c ∈ l, c < 256) : textS (32 :: quoteL l) = some l := by
  unfold textS quoteL
  simp only [and_self, if_true]
  exact unq_quote l h
theorem qB_all {c : Nat} (h : c < 256) : ∀ d ∈ qB c, 32 ≤ d ∧ d ≤ 126 := by
  intro d hd
  unfold qB at hd
  split at hd
  · rename_i hp
    have := plain_bd hp
    simp at hd
    omega
  · split at hd
    · rename_i h1
      simp at hd
      omega
    · split at hd
      · simp at hd
        omega
      · have h1 := hexd_bd (show c / 16 < 16 by omega)
        have h2 := hexd_bd (show c % 16 < 16 by omega)
        simp at hd
        omega
theorem quote_all {l : List Nat} (h : ∀ c ∈ l, c < 256) : ∀ d ∈ quoteL l, 32 ≤ d ∧ d ≤ 126 := by
  intro d hd
  unfold quoteL at hd
  rw [List.mem_cons, List.mem_append, List.mem_flatMap] at hd
  rcases hd with rfl | ⟨c, hc, hd⟩ | hd
  · decide
  · exact qB_all (h c hc) d hd
  · simp at hd; omega
end Go.Proofs.YtbdkggnajipdhaaDoor
/- The engine's rules for arrays. -/
namespace Go.Proofs.YtbdkggnajipdhaaDoor
open Go.RowKit
set_option maxRecDepth 100000
theorem vLoad_arr {P : Program} {T e : TypeId} {n N b o : Nat} {w : World} {l : List Value} (hd : P.underlying T = some (.array n e)) (hs : (P.info? T).map (·.size) = some N) (h : ldN w b o N = some l) :
    vLoad P T (.pointer (some ⟨b, o, none⟩)) w = .ok (.value (.agg l.toArray)) w := by
  obtain ⟨inf, hq, hz⟩ := Option.map_eq_some_iff.1 hs
  have hagg : (isAgg T).run P w = .ok true w := by
    unfold isAgg
    rw [Sem.run_bind, run_underlying hd w]
    simp
  have hl := run_loadCells_ldN P w b N o 0 l #[] h
  simp [vLoad, Instr.loadAt, Instr.sureAddr, loadVar, Sem.run_bind, hagg, sizeOf, typeInfo, hq, hz, loadCells, hl]
theorem ldN_of {w : World} {b : Nat} : ∀ (l : List Value) (o : Nat), (∀ i v, l[i]? = some v → w.cell? ⟨b, o + i, none⟩ = some v) → ldN w b o l.length = some l
  | [], o, _ => rfl
  | v :: l, o, h => by
    have h0 := h 0 v rfl
    rw [Nat.add_zero] at h0
    rw [List.length_cons, ldN, h0, ldN_of l (o + 1) fun i u hu => by rw [show o + 1 + i = o + (i + 1) by omega]; exact h (i + 1) u hu]
theorem vIndex_arr {P : Program} {T e : TypeId} {n sz : Nat} {fs : Array Field} {w : World} {cs : Array Value} {k : IntKind} {i : Nat} (hd : P.underlying T = some (.array n e)) (he : P.underlying e = some (.struct fs)) (hs : (P.info? e).map (·.size) = some sz) (hi : i < n) :
    vIndex P T (.agg cs) (.int k i) w = .ok (.value (.agg (cs.extract (i * sz) (i * sz + sz)))) w := by
  obtain ⟨inf, hq, hz⟩ := Option.map_eq_some_iff.1 hs
  have hagg : (isAgg e).run P w = .ok true w := by
    unfold isAgg
    rw [Sem.run_bind, run_underlying he w]
    simp
  have h2 : (0 : Int) ≤ i ∧ (i : Int) < n := by omega
  simp [vIndex, Instr.index, asIntOf, Sem.run_bind, run_underlying hd, h2, sizeOf, typeInfo, hq, hz, part, hagg]
  omega
theorem vIndex_arr1 {P : Program} {T e : TypeId} {n : Nat} {k2 : IntKind} {w : World} {cs : Array Value} {k : IntKind} {i : Nat} {v : Value} (hd : P.underlying T = some (.array n e)) (he : P.underlying e = some (.int k2)) (hs : (P.info? e).map (·.size) = some 1) (hi : i < n) (hv : cs[i]? = some v) :
    vIndex P T (.agg cs) (.int k i) w = .ok (.value v) w := by
  obtain ⟨inf, hq, hz⟩ := Option.map_eq_some_iff.1 hs
  have hagg : (isAgg e).run P w = .ok false w := by
    unfold isAgg
    rw [Sem.run_bind, run_underlying he w]
    simp
  have h2 : (0 : Int) ≤ i ∧ (i : Int) < n := by omega
  simp [vIndex, Instr.index, asIntOf, Sem.run_bind, run_underlying hd, h2, sizeOf, typeInfo, hq, hz, part, hagg, hv]
  omega
theorem flat_piece {α : Type} {enc : α → List Value} {sz : Nat} (he : ∀ x, (enc x).length = sz) {x : α} : ∀ (L : List α) (i : Nat), L[i]? = some x → ((L.flatMap enc).drop (i * sz)).take sz = enc x
  | [], i, h => by simp at h
  | y :: r, i, h => by
    rw [List.flatMap_cons]
    cases i with
    | zero =>
      simp only [List.getElem?_cons_zero, Option.some.injEq] at h
      subst h
      rw [Nat.zero_mul, List.drop_zero, ← he y, List.take_left']
      rfl
    | succ i =>
      rw [List.getElem?_cons_succ] at h
      rw [Nat.succ_mul, Nat.add_comm, ← List.drop_drop, ← he y, List.drop_left' rfl, he y]
      exact flat_piece he r i h
/-- make([]T, l, c). -/
theorem vMakeSlice_lc {P : Program} {T : TypeId} {w : World} {e : TypeId} {size bytes : Nat} {z : Value} {l c : Int} (hI : sliceI P T = some (e, size, bytes)) (hz : zeroV P e = some z) (h0 : 0 ≤ l) (h1 : l ≤ c) (h2 : bytes * c ≤ 281474976710656) (h3 : c ≤ 9223372036854775807) :
    vMakeSlice P T (.int .i64 l) (.int .i64 c) w = .ok (.value (.slice (some ⟨w.heap.size, 0, none⟩) l.toNat c.toNat)) (w.alloc (.cells (madeCells z.cells (c.toNat * size)) e)) := by
  obtain ⟨inf, z', hT, hi, hz', rfl, rfl, hzs, hpos⟩ := sliceI_is hI
  have : z' = z := by unfold zeroV at hz; rw [hi] at hz; rw [show (some inf).bind (·.zero) = inf.zero from rfl, hz'] at hz; injection hz
  subst this
  have hr := run_make (P := P) w T e inf z' hT hi hz' .i64 .i64 l c h0 h1 h2 h3
  simp [vMakeSlice, hr]
theorem vIndexAddr_arr {P : Program} {T e : TypeId} {n sz b o : Nat} {k : IntKind} {i : Int} {w : World} (hd : P.underlying T = some (.array n e)) (hs : (P.info? e).map (·.size) = some sz) (h0 : 0 ≤ i) (h1 : i < n) :
    vIndexAddr P T (.pointer (some ⟨b, o, none⟩)) (.int k i) w = .ok (.value (.pointer (some ⟨b, o + i.toNat * sz, none⟩))) w := by
  obtain ⟨inf, hq, hz⟩ := Option.map_eq_some_iff.1 hs
  simp [vIndexAddr, Instr.indexAt, Instr.sureAddr, asIntOf, Sem.run_bind, run_underlying hd w, h0, h1, sizeOf, typeInfo, hq, hz, addr_add]
theorem vSlice_arr {P : Program} {T e : TypeId} {n sz b o : Nat} {w : World} (hd : P.underlying T = some (.array n e)) (hs : (P.info? e).map (·.size) = some sz) :
    vSlice P T (.pointer (some ⟨b, o, none⟩)) none none none w = .ok (.value (.slice (some ⟨b, o, none⟩) n n)) w := by
  obtain ⟨inf, hq, hz⟩ := Option.map_eq_some_iff.1 hs
  simp [vSlice, Instr.sliceAt, Instr.sureAddr, Instr.sliceBounds, Sem.run_bind, run_underlying hd w, sizeOf, typeInfo, hq, hz]
  exact fun _ => add_zero _
theorem make_own (w : World) (base : Nat) (e : TypeId) (z : Value) (c : Nat) (hb : base ≤ w.heap.size) (hc : c ≤ maxLen) :
    (w.alloc (.cells (madeCells #[z] (c * 1)) e)).ownsRow base e 1 (.slice (some ⟨w.heap.size, 0, none⟩) 0 c) 0 [] :=
  ⟨rfl, .inr ⟨w.heap.size, c, _, rfl, hb, heap_alloc_new w _, Nat.zero_le _, hc, by simp [madeCells], by simp⟩⟩
end Go.Proofs.YtbdkggnajipdhaaDoor
/- What the listed variables hold. -/
namespace Go.Proofs.YtbdkggnajipdhaaDoor
open Go.RowKit
set_option maxRecDepth 100000
def dayC : List Value := dayW.map fun d => .string (toBA d)
theorem vIndex_arrS {P : Program} {T e : TypeId} {n : Nat} {w : World} {cs : Array Value} {k : IntKind} {i : Nat} {v : Value} (hd : P.underlying T = some (.array n e)) (he : P.underlying e = some .string) (hs : (P.info? e).map (·.size) = some 1) (hi : i < n) (hv : cs[i]? = some v) :
    vIndex P T (.agg cs) (.int k i) w = .ok (.value v) w := by
  obtain ⟨inf, hq, hz⟩ := Option.map_eq_some_iff.1 hs
  have hagg : (isAgg e).run P w = .ok false w := by
    unfold isAgg
    rw [Sem.run_bind, run_underlying he w]
    simp
  have h2 : (0 : Int) ≤ i ∧ (i : Int) < n := by omega
  simp [vIndex, Instr.index, asIntOf, Sem.run_bind, run_underlying hd, h2, sizeOf, typeInfo, hq, hz, part, hagg, hv]
  omega
theorem day_index {d : List Nat} {i : Nat} (h : dayW[i]? = some d) (w : World) : vIndex Tryd.prog 79 (.agg dayC.toArray) (.int .i64 i) w = .ok (.value (.string (toBA d))) w := by
  have hi : i < 7 := by have := (List.getElem?_eq_some_iff.1 h).1; exact this
  refine vIndex_arrS Tryd.underlying79 Tryd.underlying9 (by kernel_rfl) hi ?_
  rw [List.getElem?_toArray]
  unfold dayC
  rw [List.getElem?_map, h]
  rfl
/-- What the listed variables hold. -/
structure Laid (w : World) : Prop where
  size : 5 ≤ w.heap.size
  day : ∀ i v, dayC[i]? = some v → w.cell? ⟨0, i, none⟩ = some v
  pow : Lib.TabIs Tryd.prog w "internal/strconv.uint64pow10" .u64 Lib.pow10Tab
theorem Laid.below {B : Nat} {w w' : World} (h : Laid w) (hb : Below B w w') (hB : 5 ≤ B) : Laid w' :=
  ⟨Nat.le_trans h.size hb.size, fun i v hv => (hb.cell (p := ⟨0, i, none⟩) (by show 0 < B; omega)).trans (h.day i v hv), by
    have hg : Tryd.prog.globalNamed "internal/strconv.uint64pow10" = some 2 := by kernel_rfl
    have h2 := h.pow
    unfold Lib.TabIs World.var? at h2 ⊢
    rw [hg] at h2 ⊢
    simp only [Option.bind_some] at h2 ⊢
    rw [hb.block 2 (by omega)]
    exact h2⟩
theorem Laid.kept {X : List Nat} {w w' : World} (h : Laid w) (k : Kept X w w') (hX : ∀ x ∈ X, 5 ≤ x) : Laid w' := by
  have hs := h.size
  refine h.below (B := min 5 w.heap.size) ⟨k.os, k.tape, k.output, k.size, fun i hi => k.block i (by omega) (fun hx => by have := hX i hx; omega)⟩ (by omega)
theorem Laid.load {w : World} (h : Laid w) : vLoad Tryd.prog 79 (.pointer (some ⟨0, 0, none⟩)) w = .ok (.value (.agg dayC.toArray)) w :=
  vLoad_arr Tryd.underlying79 (by kernel_rfl) (ldN_of (b := 0) dayC 0 (fun i v hv => by rw [Nat.zero_add]; exact h.day i v hv))
end Go.Proofs.YtbdkggnajipdhaaDoor
/- Walks: the reader of a game's tokens: numbers, once, weekday. -/
namespace Go.Proofs.YtbdkggnajipdhaaDoor
open Go.RowKit
set_option maxRecDepth 100000
def slcLen : Value → Nat
  | .slice _ n _ => n
  | _ => 0
theorem isAgg_int {P : Program} {e : TypeId} {k : IntKind} {w : World} (he : P.underlying e = some (.int k)) : (isAgg e).run P w = .ok false w := by
  unfold isAgg
  rw [Sem.run_bind, run_underlying he w]
  simp
theorem isAgg_str {P : Program} {e : TypeId} {w : World} (he : P.underlying e = some .string) : (isAgg e).run P w = .ok false w := by
  unfold isAgg
  rw [Sem.run_bind, run_underlying he w]
  simp
theorem tkKind (t : Tk) (w : World) : vField Tryd.prog 38 (.agg #[.int .i64 t.kind, .int .i64 t.line, .int .i64 t.col, .string t.text]) 0 w = .ok (.value (.int .i64 t.kind)) w := by
  simp [vField, Instr.field, Sem.run_bind, run_underlying Tryd.underlying38 w, part, isAgg_int Tryd.underlying3, asAgg]
theorem tkText (t : Tk) (w : World) : vField Tryd.prog 38 (.agg #[.int .i64 t.kind, .int .i64 t.line, .int .i64 t.col, .string t.text]) 3 w = .ok (.value (.string t.text)) w := by
  simp [vField, Instr.field, Sem.run_bind, run_underlying Tryd.underlying38 w, part, isAgg_str Tryd.underlying9, asAgg]
section
variable {g c a : Nat} {A : Option Addr} {T : List Tk} {w : World} {rest : List Value}
theorem numT_next (hT : TokOk T) (ha : a < T.length) : numT (T.drop a) = if (hdT (T.drop a)).kind = 2 then some ((numE (bs (hdT (T.drop a)).text)).1, T.drop (a + 1)) else none := by
  have hat := List.getElem?_eq_getElem ha
  have ht := hdT_drop hat
  unfold numT
  by_cases hk : (hdT (T.drop a)).kind = 2
  · have hn := hT.num _ (tok_mem ha) hk
    rw [if_pos ⟨hk, hn.1⟩, if_pos hk, nxT_drop (hT.last a _ hat (by rw [← ht]; omega))]
  · rw [if_neg (fun h => hk h.1), if_neg hk]
theorem paNumbers_any (h : PkIn w g A c T a rest) (hT : TokOk T) : Calls Tryd.prog 83 #[.pointer (some ⟨g, 0, none⟩)] w fun e w' => Kept [g] w w' ∧ ∃ (A1 : Option Addr) (c1 a' : Nat),
    e = .returned (.slice A1 (numsT (T.drop a).length (T.drop a)).1.length c1) ∧ (numsT (T.drop a).length (T.drop a)).2 = T.drop a' ∧ PkIn w' g A c T a' rest ∧
    w'.ownsRow w.heap.size 3 1 (.slice A1 (numsT (T.drop a).length (T.drop a)).1.length c1) (numsT (T.drop a).length (T.drop a)).1.length (iW (numsT (T.drop a).length (T.drop a)).1) := by
  refine calls_WX (l := [_]) Tryd.func83 rfl _ Tryd.ntmps83 (by simp) ?_
  generalize hr : numsT (T.drop a).length (T.drop a) = r
  rw [List.length_drop] at hr
  have hlt := h.lt
  have hbig := hT.big
  have hI : sliceI Tryd.prog 41 = some (3, 1, 8) := by kernel_rfl
  simp +contextual (maxSteps := 2000000) (disch := (first | omega | (simp only [SZ]; done) | (simp only [SZ]; omega) | (simp only [TS] at *; omega))) only [PZ, RZ, gval, gslot, fillL, ovw, numb, catL, ldN, agL, okC, oneC, init, Nat.reduceAdd, Nat.reduceMul, Nat.reduceSub, Nat.reduceEqDiff, Nat.reduceLT, ↓reduceIte, Int.reduceToNat, Int.reduceAdd, Int.reduceSub, Int.reduceMul, Int.reduceLT, Int.reduceLE, Int.reduceEq, Nat.reduceLeDiff]
  refine RawD_loop (fun σ w1 => ∃ (Z : List Int) (A1 : Option Addr) (c1 a1 : Nat), a1 = a + Z.length ∧ PkIn w1 g A c T a1 rest ∧ Kept [g] w w1 ∧ w1.ownsRow w.heap.size 3 1 (.slice A1 Z.length c1) Z.length (iW Z) ∧
    (Z ++ (numsT (T.length - a1) (T.drop a1)).1, (numsT (T.length - a1) (T.drop a1)).2) = r ∧ σ 0 = .pointer (some ⟨g, 0, none⟩) ∧ σ 3 = .slice A1 Z.length c1) (fun σ _ => T.length - slcLen (σ 3)) ?_ ?_
  · simp +contextual (maxSteps := 2000000) (disch := (first | omega | (simp only [SZ]; done) | (simp only [SZ]; omega) | (simp only [TS] at *; omega))) only [RZ, gval, gslot, fillL, ovw, numb, catL, ldN, agL, okC, oneC, init, Nat.reduceAdd, Nat.reduceMul, Nat.reduceSub, Nat.reduceEqDiff, Nat.reduceLT, ↓reduceIte, Int.reduceToNat, Int.reduceAdd, Int.reduceSub, Int.reduceMul, Int.reduceLT, Int.reduceLE, Int.reduceEq, Nat.reduceLeDiff]
    exact ⟨[], none, 0, a, rfl, h, Kept.refl _ _, owns_nil _ _ _ _, by rw [List.nil_append]; exact hr, rfl⟩
  rintro σ w1 ⟨Z, A1, c1, a1, ha1, h1, k1, ho1, hr1, f0, f3⟩ K hK
  have hlt1 := h1.lt
  have hgl := h1.row.lt
  simp +contextual (maxSteps := 2000000) (disch := (first | omega | (simp only [SZ]; done) | (simp only [SZ]; omega) | (simp only [TS] at *; omega))) only [PZ, RZ, gval, gslot, fillL, ovw, numb, catL, ldN, agL, okC, oneC, init, Nat.reduceAdd, Nat.reduceMul, Nat.reduceSub, Nat.reduceEqDiff, Nat.reduceLT, ↓reduceIte, Int.reduceToNat, Int.reduceAdd, Int.reduceSub, Int.reduceMul, Int.reduceLT, Int.reduceLE, Int.reduceEq, Nat.reduceLeDiff,  f0, f3]
  refine (paPeek_any h1 hT).mono ?_
  rintro e w2 ⟨rfl, hB2⟩
  have h2 := h1.below hB2
  have k2 := k1.trans (Kept.of_below hB2)
  have ho2 := owns_below ho1 hB2
  have hnt := numT_next hT hlt1
  have hany : anyT (T.drop a1) = if (hdT (T.drop a1)).kind = 2 then .ok ((numE (bs (hdT (T.drop a1)).text)).1, T.drop (a1 + 1)) else .error (1, T.drop a1) := by
    unfold anyT; rw [hnt]; split <;> rfl
  have hnm := hT.num _ (tok_mem hlt1)
  have hfu : T.length - a1 = (T.length - (a1 + 1)) + 1 := by omega
  rw [hfu] at hr1
  unfold numsT at hr1
  rw [hnt] at hr1
  generalize htd : hdT (T.drop a1) = t at *
  rw [show (encTk t).toArray = #[.int .i64 t.kind, .int .i64 t.line, .int .i64 t.col, .string t.text] from rfl]
  by_cases hk : t.kind = 2
  · have e1 : (t.kind = 2) = True := eq_true hk
    rw [if_pos hk] at hany hr1
    dsimp only at hr1
    have hv := hnm hk
    generalize (numE (bs t.text)).1 = x at *
    simp +contextual (maxSteps := 2000000) (disch := (first | omega | (simp only [SZ]; done) | (simp only [SZ]; omega) | (simp only [TS] at *; omega))) only [PZ, RZ, gval, gslot, fillL, ovw, numb, catL, ldN, agL, okC, oneC, init, Nat.reduceAdd, Nat.reduceMul, Nat.reduceSub, Nat.reduceEqDiff, Nat.reduceLT, ↓reduceIte, Int.reduceToNat, Int.reduceAdd, Int.reduceSub, Int.reduceMul, Int.reduceLT, Int.reduceLE, Int.reduceEq, Nat.reduceLeDiff,  f0, f3, tkKind, e1]
    refine WX_if_t rfl ?_
    simp +contextual (maxSteps := 2000000) (disch := (first | omega | (simp only [SZ]; done) | (simp only [SZ]; omega) | (simp only [TS] at *; omega))) only [PZ, RZ, gval, gslot, fillL, ovw, numb, catL, ldN, agL, okC, oneC, init, Nat.reduceAdd, Nat.reduceMul, Nat.reduceSub, Nat.reduceEqDiff, Nat.reduceLT, ↓reduceIte, Int.reduceToNat, Int.reduceAdd, Int.reduceSub, Int.reduceMul, Int.reduceLT, Int.reduceLE, Int.reduceEq, Nat.reduceLeDiff,  f0, f3]
    refine Res.use (paAny_any h2 hT) (fun y a3 w3 e3 k3 h3 => ?_) (fun e L w3 e3 k3 => ?_); rotate_left
    · rw [hany] at e3; cases e3
    rw [hany] at e3
    injection e3 with e3
    injection e3 with e3 e4
    subst e3
    have ho3 : w3.ownsRow w.heap.size 3 1 (.slice A1 Z.length c1) Z.length (iW Z) := owns_keep ho2 fun b hb => k3.block b (owns_ge ho2 hb).2 (by have := (owns_ge ho2 hb).1; have := h.row.lt; simp; omega)
    have h3' : PkIn w3 g A c T (a1 + 1) rest := by
      have hl := congrArg List.length e4
      rw [List.length_drop, List.length_drop] at hl
      have := h3.lt
      have : a3 = a1 + 1 := by omega
      subst this; exact h3
    have k23 := k2.trans k3
    obtain ⟨A', c', w5, he, ho5, hb5, hs5⟩ := push1 (P := Tryd.prog) (T := 41) (ty := 41) (news := [.int .i64 x]) ho3 k23.size hI rfl (fun u hu => by simp at hu; subst hu; rfl) (by omega) (by decide)
    try simp +contextual (maxSteps := 2000000) (disch := (first | omega | (simp only [SZ]; done) | (simp only [SZ]; omega) | (simp only [TS] at *; omega))) only [PZ, RZ, gval, gslot, fillL, ovw, numb, catL, ldN, agL, okC, oneC, init, Nat.reduceAdd, Nat.reduceMul, Nat.reduceSub, Nat.reduceEqDiff, Nat.reduceLT, ↓reduceIte, Int.reduceToNat, Int.reduceAdd, Int.reduceSub, Int.reduceMul, Int.reduceLT, Int.reduceLE, Int.reduceEq, Nat.reduceLeDiff,  f0, f3, he]
    have k5 : Kept [g] w w5 := ⟨hb5.os.trans k23.os, hb5.tape.trans k23.tape, hb5.output.trans k23.output, Nat.le_trans k23.size hb5.size, fun k hk hx => (hb5.block k hk).trans (k23.block k hk hx)⟩
    have h5 : PkIn w5 g A c T (a1 + 1) rest := by
      have hgl0 := h.row.lt
      refine ⟨h3'.lt, ?_, h.off, h3'.row.of_block (hb5.block g hgl0)⟩
      exact h.arr.kept k5 (fun b o hb => by have := h.off b o hb; simpa using this)
    refine hK _ _ ⟨Z ++ [x], A', c', a1 + 1, by rw [List.length_append, ha1]; rfl, h5, k5, ?_, ?_, ?_⟩ ?_
    · rw [List.length_append]
      unfold iW at ho5 ⊢
      rw [List.map_append]
      exact ho5
    · rw [List.append_assoc]; exact hr1
    · simp +contextual (maxSteps := 2000000) (disch := (first | omega | (simp only [SZ]; done) | (simp only [SZ]; omega) | (simp only [TS] at *; omega))) only [RZ, gval, gslot, fillL, ovw, numb, catL, ldN, agL, okC, oneC, init, Nat.reduceAdd, Nat.reduceMul, Nat.reduceSub, Nat.reduceEqDiff, Nat.reduceLT, ↓reduceIte, Int.reduceToNat, Int.reduceAdd, Int.reduceSub, Int.reduceMul, Int.reduceLT, Int.reduceLE, Int.reduceEq, Nat.reduceLeDiff,  f0, f3, List.length_append]
    · simp +contextual (maxSteps := 2000000) (disch := (first | omega | (simp only [SZ]; done) | (simp only [SZ]; omega) | (simp only [TS] at *; omega))) only [RZ, gval, gslot, fillL, ovw, numb, catL, ldN, agL, okC, oneC, init, Nat.reduceAdd, Nat.reduceMul, Nat.reduceSub, Nat.reduceEqDiff, Nat.reduceLT, ↓reduceIte, Int.reduceToNat, Int.reduceAdd, Int.reduceSub, Int.reduceMul, Int.reduceLT, Int.reduceLE, Int.reduceEq, Nat.reduceLeDiff,  slcLen, f3]
      omega
  · have e1 : (t.kind = 2) = False := eq_false hk
    rw [if_neg hk] at hr1
    dsimp only at hr1
    rw [List.append_nil] at hr1
    subst hr1
    simp +contextual (maxSteps := 2000000) (disch := (first | omega | (simp only [SZ]; done) | (simp only [SZ]; omega) | (simp only [TS] at *; omega))) only [PZ, RZ, gval, gslot, fillL, ovw, numb, catL, ldN, agL, okC, oneC, init, Nat.reduceAdd, Nat.reduceMul, Nat.reduceSub, Nat.reduceEqDiff, Nat.reduceLT, ↓reduceIte, Int.reduceToNat, Int.reduceAdd, Int.reduceSub, Int.reduceMul, Int.reduceLT, Int.reduceLE, Int.reduceEq, Nat.reduceLeDiff,  f0, f3, tkKind, e1]
    refine WX_if_f rfl ?_
    simp +contextual (maxSteps := 2000000) (disch := (first | omega | (simp only [SZ]; done) | (simp only [SZ]; omega) | (simp only [TS] at *; omega))) only [PZ, RZ, gval, gslot, fillL, ovw, numb, catL, ldN, agL, okC, oneC, init, Nat.reduceAdd, Nat.reduceMul, Nat.reduceSub, Nat.reduceEqDiff, Nat.reduceLT, ↓reduceIte, Int.reduceToNat, Int.reduceAdd, Int.reduceSub, Int.reduceMul, Int.reduceLT, Int.reduceLE, Int.reduceEq, Nat.reduceLeDiff,  f0, f3]
    exact ⟨k2, A1, c1, a1, rfl, rfl, h2, ho2⟩
theorem paOnce_any {gs : Nat} {seen : List (List Nat)} (h : PkIn w g A c T a (.map (some gs) :: rest)) (hT : TokOk T) (hS : SeenIn w gs seen) (hgs : gs ≠ g) (hA : ∀ b o, A = some ⟨b, o, none⟩ → b ≠ gs) (t : Tk) (s : ByteArray) :
    Calls Tryd.prog 67 #[.pointer (some ⟨g, 0, none⟩), .string s, .agg (encTk t).toArray] w fun e w' =>
      if bs s ∈ seen then e = .panicked [{ v := failV 6 t.line, recovered := false }] ∧ Kept [gs] w w'
      else e = .returned (.tuple #[]) ∧ PkIn w' g A c T a (.map (some gs) :: rest) ∧ SeenIn w' gs (bs s :: seen) ∧ Kept [gs] w w' := by
  refine calls_WX (l := [_, _, _]) Tryd.func67 rfl _ Tryd.ntmps67 (by simp) ?_
  have hz : mapZ Tryd.prog 69 = some (.bool false) := by kernel_rfl
  rw [show (encTk t).toArray = #[.int .i64 t.kind, .int .i64 t.line, .int .i64 t.col, .string t.text] from rfl]
  have h2 := h.below (below_alloc w (.cells #[Value.int .i64 t.kind, .int .i64 t.line, .int .i64 t.col, .string t.text] 38))
  have k2 := (Kept.refl [gs] w).alloc (.cells #[Value.int .i64 t.kind, .int .i64 t.line, .int .i64 t.col, .string t.text] 38)
  have s2 := hS.kept ((Kept.refl [] w).alloc (.cells #[Value.int .i64 t.kind, .int .i64 t.line, .int .i64 t.col, .string t.text] 38)) (by simp)
  have q2 := Row.new w 38 [Value.int .i64 t.kind, .int .i64 t.line, .int .i64 t.col, .string t.text]
  replace q2 : Row (w.alloc (.cells #[Value.int .i64 t.kind, .int .i64 t.line, .int .i64 t.col, .string t.text] 38)) _ _ _ := q2
  have p2 := h2.row.cell (i := 2) rfl
  have c0 := q2.cell (i := 0) rfl
  have c1 := q2.cell (i := 1) rfl
  have c2 := q2.cell (i := 2) rfl
  have c3 := q2.cell (i := 3) rfl
  simp +contextual (maxSteps := 2000000) (disch := (first | omega | (simp only [SZ]; done) | (simp only [SZ]; omega) | (simp only [TS] at *; omega))) only [PZ, RZ, gval, gslot, fillL, ovw, numb, catL, ldN, agL, okC, oneC, init, Nat.reduceAdd, Nat.reduceMul, Nat.reduceSub, Nat.reduceEqDiff, Nat.reduceLT, ↓reduceIte, Int.reduceToNat, Int.reduceAdd, Int.reduceSub, Int.reduceMul, Int.reduceLT, Int.reduceLE, Int.reduceEq, Nat.reduceLeDiff,  p2]
  generalize w.alloc (.cells #[Value.int .i64 t.kind, .int .i64 t.line, .int .i64 t.col, .string t.text] 38) = w2 at *
  obtain ⟨l, clk, hl, hk⟩ := s2
  by_cases hs : bs s ∈ seen
  · have hg := (hk s).1 hs
    simp only [if_pos hs]
    have e1 := vLookup_str0 (P := Tryd.prog) (T := 69) (k := s) hz hl
    rw [hg] at e1
    dsimp only [Option.getD] at e1
    simp +contextual (maxSteps := 2000000) (disch := (first | omega | (simp only [SZ]; done) | (simp only [SZ]; omega) | (simp only [TS] at *; omega))) only [PZ, RZ, gval, gslot, fillL, ovw, numb, catL, ldN, agL, okC, oneC, init, Nat.reduceAdd, Nat.reduceMul, Nat.reduceSub, Nat.reduceEqDiff, Nat.reduceLT, ↓reduceIte, Int.reduceToNat, Int.reduceAdd, Int.reduceSub, Int.reduceMul, Int.reduceLT, Int.reduceLE, Int.reduceEq, Nat.reduceLeDiff,  p2, e1]
    refine WX_if_t rfl ?_
    simp +contextual (maxSteps := 2000000) (disch := (first | omega | (simp only [SZ]; done) | (simp only [SZ]; omega) | (simp only [TS] at *; omega))) only [PZ, RZ, gval, gslot, fillL, ovw, numb, catL, ldN, agL, okC, oneC, init, Nat.reduceAdd, Nat.reduceMul, Nat.reduceSub, Nat.reduceEqDiff, Nat.reduceLT, ↓reduceIte, Int.reduceToNat, Int.reduceAdd, Int.reduceSub, Int.reduceMul, Int.reduceLT, Int.reduceLE, Int.reduceEq, Nat.reduceLeDiff,  c0, c1, c2, c3]
    refine (paFail_any g 6 t w2).mono ?_
    rintro e w3 ⟨rfl, hB3⟩
    exact ⟨rfl, k2.trans (Kept.of_below hB3)⟩
  · have hg := (hk s).2 hs
    simp only [if_neg hs]
    have e1 := vLookup_str0 (P := Tryd.prog) (T := 69) (k := s) hz hl
    rw [hg] at e1
    dsimp only [Option.getD] at e1
    have e2 := vMapUpdate_new (P := Tryd.prog) (T := 69) (k := s) (v := .bool true) hz hl hg
    simp +contextual (maxSteps := 2000000) (disch := (first | omega | (simp only [SZ]; done) | (simp only [SZ]; omega) | (simp only [TS] at *; omega))) only [PZ, RZ, gval, gslot, fillL, ovw, numb, catL, ldN, agL, okC, oneC, init, Nat.reduceAdd, Nat.reduceMul, Nat.reduceSub, Nat.reduceEqDiff, Nat.reduceLT, ↓reduceIte, Int.reduceToNat, Int.reduceAdd, Int.reduceSub, Int.reduceMul, Int.reduceLT, Int.reduceLE, Int.reduceEq, Nat.reduceLeDiff,  p2, e1]
    refine WX_if_f rfl ?_
    simp +contextual (maxSteps := 2000000) (disch := (first | omega | (simp only [SZ]; done) | (simp only [SZ]; omega) | (simp only [TS] at *; omega))) only [PZ, RZ, gval, gslot, fillL, ovw, numb, catL, ldN, agL, okC, oneC, init, Nat.reduceAdd, Nat.reduceMul, Nat.reduceSub, Nat.reduceEqDiff, Nat.reduceLT, ↓reduceIte, Int.reduceToNat, Int.reduceAdd, Int.reduceSub, Int.reduceMul, Int.reduceLT, Int.reduceLE, Int.reduceEq, Nat.reduceLeDiff,  p2, e2]
    refine ⟨?_, SeenIn.add hl hk hs, setO_kept k2 (by simp) _⟩
    exact h2.kept (setO_kept (Kept.refl [gs] _) (by simp) _) (by simpa using Ne.symm hgs) (fun b o hb => by simpa using hA b o hb)
end
theorem paWeekday_any (s : ByteArray) (w : World) (hW : Laid w) : Calls Tryd.prog 81 #[.string s] w fun e w' => e = .returned (.int .i64 (match dayI (bs s) with | some i => ((2 ^ i : Nat) : Int) | none => 0)) ∧ w = w' := by
  refine calls_W (l := [_]) Tryd.func81 rfl _ Tryd.ntmps81 (by simp) ?_
  have hl := hW.load
  simp +contextual (maxSteps := 2000000) (disch := (first | omega | (simp only [SZ]; done) | (simp only [SZ]; omega) | (simp only [TS] at *; omega))) only [RZ, gval, gslot, fillL, ovw, numb, catL, ldN, agL, okC, oneC, init, Nat.reduceAdd, Nat.reduceMul, Nat.reduceSub, Nat.reduceEqDiff, Nat.reduceLT, ↓reduceIte, Int.reduceToNat, Int.reduceAdd, Int.reduceSub, Int.reduceMul, Int.reduceLT, Int.reduceLE, Int.reduceEq, Nat.reduceLeDiff,  hl]
  refine Raw_loop (fun σ w1 => ∃ k : Nat, k ≤ 7 ∧ (∀ j d, j < k → dayW[j]? = some d → d ≠ bs s) ∧ w = w1 ∧ σ 0 = .string s ∧ σ 5 = .agg dayC.toArray ∧ σ 6 = .int .i64 k) (fun σ _ => 7 - (intOf (σ 6)).toNat) ?_ ?_
  · simp +contextual (maxSteps := 2000000) (disch := (first | omega | (simp only [SZ]; done) | (simp only [SZ]; omega) | (simp only [TS] at *; omega))) only [RZ, gval, gslot, fillL, ovw, numb, catL, ldN, agL, okC, oneC, init, Nat.reduceAdd, Nat.reduceMul, Nat.reduceSub, Nat.reduceEqDiff, Nat.reduceLT, ↓reduceIte, Int.reduceToNat, Int.reduceAdd, Int.reduceSub, Int.reduceMul, Int.reduceLT, Int.reduceLE, Int.reduceEq, Nat.reduceLeDiff]
    exact ⟨0, by omega, fun j d hj => absurd hj (Nat.not_lt_zero _), rfl⟩
  rintro σ w1 ⟨k, hk, hn, rfl, f0, f5, f6⟩ K hK
  simp +contextual (maxSteps := 2000000) (disch := (first | omega | (simp only [SZ]; done) | (simp only [SZ]; omega) | (simp only [TS] at *; omega))) only [RZ, gval, gslot, fillL, ovw, numb, catL, ldN, agL, okC, oneC, init, Nat.reduceAdd, Nat.reduceMul, Nat.reduceSub, Nat.reduceEqDiff, Nat.reduceLT, ↓reduceIte, Int.reduceToNat, Int.reduceAdd, Int.reduceSub, Int.reduceMul, Int.reduceLT, Int.reduceLE, Int.reduceEq, Nat.reduceLeDiff,  f0, f5, f6]
  (refine W_if rfl (fun hc => ?_) (fun hc => ?_) <;> (try simp only [TS] at hc))
  · obtain ⟨d, hd⟩ : ∃ d, dayW[k]? = some d := ⟨_, List.getElem?_eq_getElem (show k < 7 by omega)⟩
    have hx := day_index hd w
    have hdb : bs (toBA d) = d := by
      have hall : dayW.all (fun d => d.all fun c => decide (c < 256)) = true := by decide +kernel
      have := List.all_eq_true.1 hall d (List.mem_of_getElem? hd)
      exact bs_toBA fun c hc => by have := List.all_eq_true.1 this c hc; simpa using this
    simp +contextual (maxSteps := 2000000) (disch := (first | omega | (simp only [SZ]; done) | (simp only [SZ]; omega) | (simp only [TS] at *; omega))) only [RZ, gval, gslot, fillL, ovw, numb, catL, ldN, agL, okC, oneC, init, Nat.reduceAdd, Nat.reduceMul, Nat.reduceSub, Nat.reduceEqDiff, Nat.reduceLT, ↓reduceIte, Int.reduceToNat, Int.reduceAdd, Int.reduceSub, Int.reduceMul, Int.reduceLT, Int.reduceLE, Int.reduceEq, Nat.reduceLeDiff,  f0, f5, f6, hx]
    by_cases he : s = toBA d
    · have e1 : (s = toBA d) = True := eq_true he
      have hs := vBin_shlN (P := Tryd.prog) (T := 3) (x := .const (.int .i64 1)) (y := .tmp 13) (w := w) (k := .i64) (show k < 7 by omega)
      have hI : dayI (bs s) = some k := dayI_at (by rw [he, hdb]; exact hd) (fun j d' hj hd' => hn j d' hj hd')
      rw [hI]
      simp +contextual (maxSteps := 2000000) (disch := (first | omega | (simp only [SZ]; done) | (simp only [SZ]; omega) | (simp only [TS] at *; omega))) only [RZ, gval, gslot, fillL, ovw, numb, catL, ldN, agL, okC, oneC, init, Nat.reduceAdd, Nat.reduceMul, Nat.reduceSub, Nat.reduceEqDiff, Nat.reduceLT, ↓reduceIte, Int.reduceToNat, Int.reduceAdd, Int.reduceSub, Int.reduceMul, Int.reduceLT, Int.reduceLE, Int.reduceEq, Nat.reduceLeDiff,  f0, f5, f6, e1]
      refine W_if_t rfl ?_
      simp +contextual (maxSteps := 2000000) (disch := (first | omega | (simp only [SZ]; done) | (simp only [SZ]; omega) | (simp only [TS] at *; omega))) only [RZ, gval, gslot, fillL, ovw, numb, catL, ldN, agL, okC, oneC, init, Nat.reduceAdd, Nat.reduceMul, Nat.reduceSub, Nat.reduceEqDiff, Nat.reduceLT, ↓reduceIte, Int.reduceToNat, Int.reduceAdd, Int.reduceSub, Int.reduceMul, Int.reduceLT, Int.reduceLE, Int.reduceEq, Nat.reduceLeDiff,  f0, f5, f6, hs]
    · have e1 : (s = toBA d) = False := eq_false he
      simp +contextual (maxSteps := 2000000) (disch := (first | omega | (simp only [SZ]; done) | (simp only [SZ]; omega) | (simp only [TS] at *; omega))) only [RZ, gval, gslot, fillL, ovw, numb, catL, ldN, agL, okC, oneC, init, Nat.reduceAdd, Nat.reduceMul, Nat.reduceSub, Nat.reduceEqDiff, Nat.reduceLT, ↓reduceIte, Int.reduceToNat, Int.reduceAdd, Int.reduceSub, Int.reduceMul, Int.reduceLT, Int.reduceLE, Int.reduceEq, Nat.reduceLeDiff,  f0, f5, f6, e1]
      refine W_if_f rfl ?_
      simp +contextual (maxSteps := 2000000) (disch := (first | omega | (simp only [SZ]; done) | (simp only [SZ]; omega) | (simp only [TS] at *; omega))) only [RZ, gval, gslot, fillL, ovw, numb, catL, ldN, agL, okC, oneC, init, Nat.reduceAdd, Nat.reduceMul, Nat.reduceSub, Nat.reduceEqDiff, Nat.reduceLT, ↓reduceIte, Int.reduceToNat, Int.reduceAdd, Int.reduceSub, Int.reduceMul, Int.reduceLT, Int.reduceLE, Int.reduceEq, Nat.reduceLeDiff,  f0, f5, f6]
      refine hK _ _ ⟨k + 1, by omega, fun j d' hj hd' => ?_, rfl, ?_⟩ ?_
      · by_cases hjk : j = k
        · subst hjk
          rw [hd] at hd'
          injection hd' with hd'
          subst hd'
          intro e
          exact he (bs_inj (by rw [hdb]; exact e.symm))
        · exact hn j d' (by omega) hd'
      · simp +contextual (maxSteps := 2000000) (disch := (first | omega | (simp only [SZ]; done) | (simp only [SZ]; omega) | (simp only [TS] at *; omega))) only [RZ, gval, gslot, fillL, ovw, numb, catL, ldN, agL, okC, oneC, init, Nat.reduceAdd, Nat.reduceMul, Nat.reduceSub, Nat.reduceEqDiff, Nat.reduceLT, ↓reduceIte, Int.reduceToNat, Int.reduceAdd, Int.reduceSub, Int.reduceMul, Int.reduceLT, Int.reduceLE, Int.reduceEq, Nat.reduceLeDiff,  f0, f5, f6]
      · simp +contextual (maxSteps := 2000000) (disch := (first | omega | (simp only [SZ]; done) | (simp only [SZ]; omega) | (simp only [TS] at *; omega))) only [RZ, gval, gslot, fillL, ovw, numb, catL, ldN, agL, okC, oneC, init, Nat.reduceAdd, Nat.reduceMul, Nat.reduceSub, Nat.reduceEqDiff, Nat.reduceLT, ↓reduceIte, Int.reduceToNat, Int.reduceAdd, Int.reduceSub, Int.reduceMul, Int.reduceLT, Int.reduceLE, Int.reduceEq, Nat.reduceLeDiff,  intOf, f6]
        omega
  · have hk7 : k = 7 := by omega
    subst hk7
    have hI : dayI (bs s) = none := dayI_none hn
    rw [hI]
    simp +contextual (maxSteps := 2000000) (disch := (first | omega | (simp only [SZ]; done) | (simp only [SZ]; omega) | (simp only [TS] at *; omega))) only [RZ, gval, gslot, fillL, ovw, numb, catL, ldN, agL, okC, oneC, init, Nat.reduceAdd, Nat.reduceMul, Nat.reduceSub, Nat.reduceEqDiff, Nat.reduceLT, ↓reduceIte, Int.reduceToNat, Int.reduceAdd, Int.reduceSub, Int.reduceMul, Int.reduceLT, Int.reduceLE, Int.reduceEq, Nat.reduceLeDiff,  f0, f5, f6]
end Go.Proofs.YtbdkggnajipdhaaDoor
/- Walks: the reader of a game's tokens: days. -/
namespace Go.Proofs.YtbdkggnajipdhaaDoor
open Go.RowKit
set_option maxRecDepth 100000
/-- A game's cells. -/
def gmV (G : Gm) (Va Vt : Value) : List Value := [.string G.name, .int .i64 (G.n 0), .int .i64 (G.n 1), .int .i64 (G.n 2), .int .i64 (G.n 3), .int .i64 (G.n 4), .int .i64 (G.n 5), .int .i64 (G.n 6), .int .i64 (G.n 7), .int .i64 (G.n 8), .int .i64 (G.n 9),
  .int .i64 (G.n 10), .int .i64 (G.n 11), .int .i64 (G.n 12), .int .i64 (G.n 13), .int .i64 (G.n 14), .int .i64 (G.n 15), .int .i64 (G.n 16), .int .i64 (G.n 17), .int .i64 (G.n 18), Va, Vt]
theorem gmV_set (G : Gm) (Va Vt : Value) {i : Nat} (hi : i < 19) (v : Int) : (gmV G Va Vt).set (i + 1) (.int .i64 v) = gmV { G with n := putN G.n i v } Va Vt := by
  have : i = 0 ∨ i = 1 ∨ i = 2 ∨ i = 3 ∨ i = 4 ∨ i = 5 ∨ i = 6 ∨ i = 7 ∨ i = 8 ∨ i = 9 ∨ i = 10 ∨ i = 11 ∨ i = 12 ∨ i = 13 ∨ i = 14 ∨ i = 15 ∨ i = 16 ∨ i = 17 ∨ i = 18 := by omega
  rcases this with rfl | rfl | rfl | rfl | rfl | rfl | rfl | rfl | rfl | rfl | rfl | rfl | rfl | rfl | rfl | rfl | rfl | rfl | rfl <;> rfl
theorem gmV_get (G : Gm) (Va Vt : Value) {i : Nat} (hi : i < 19) : (gmV G Va Vt)[i + 1]? = some (.int .i64 (G.n i)) := by
  have : i = 0 ∨ i = 1 ∨ i = 2 ∨ i = 3 ∨ i = 4 ∨ i = 5 ∨ i = 6 ∨ i = 7 ∨ i = 8 ∨ i = 9 ∨ i = 10 ∨ i = 11 ∨ i = 12 ∨ i = 13 ∨ i = 14 ∨ i = 15 ∨ i = 16 ∨ i = 17 ∨ i = 18 := by omega
  rcases this with rfl | rfl | rfl | rfl | rfl | rfl | rfl | rfl | rfl | rfl | rfl | rfl | rfl | rfl | rfl | rfl | rfl | rfl | rfl <;> rfl
/-- A number of the game is set. -/
theorem PkIn.setN {g c a : Nat} {A : Option Addr} {T : List Tk} {w : World} {m : Value} {G : Gm} {Va Vt : Value} (h : PkIn w g A c T a (m :: gmV G Va Vt)) {i : Nat} (hi : i < 19) (v : Int) :
    PkIn (w.setCell ⟨g, i + 4, none⟩ (.int .i64 v)) g A c T a (m :: gmV { G with n := putN G.n i v } Va Vt) := by
  refine h.kept1 ((Kept.refl [g] w).setCell (p := ⟨g, i + 4, none⟩) (by simp) _) h.lt ?_
  have := h.row.set_ (i := i + 4) (by simp [gmV]; omega) (.int .i64 v)
  rw [show i + 4 = i + 1 + 1 + 1 + 1 from rfl, List.set_cons_succ, List.set_cons_succ, List.set_cons_succ, gmV_set G Va Vt hi] at this
  exact this
/-- The same as Res, where the cells behind the first two turn. -/
def ResQ {α : Type} (g : Nat) (A : Option Addr) (c : Nat) (T : List Tk) (rest : α → List Value) (w : World) (r : Except (Int × List Tk) (α × List Tk)) (val : α → Value) (e : Ending) (w' : World) : Prop := Kept [g] w w' ∧ match r with
  | .ok x => e = .returned (val x.1) ∧ ∃ a', x.2 = T.drop a' ∧ PkIn w' g A c T a' (rest x.1)
  | .error x => e = .panicked [{ v := failV x.1 (hdT x.2).line, recovered := false }]
def atOf (w : World) (g : Nat) : Nat := match w.cell? ⟨g, 1, none⟩ with
  | some v => (intOf v).toNat
  | none => 0
section
variable {g c a : Nat} {A : Option Addr} {T : List Tk} {w : World}
theorem ResQ.use {α : Type} {rest : α → List Value} {P : Program} {f : FuncId} {args : Array Value} {r : Except (Int × List Tk) (α × List Tk)} {val : α → Value} {R : Value → World → Prop} {X : List PanicEntry → World → Prop} (hc : Calls P f args w (ResQ g A c T rest w r val))
    (h1 : ∀ x a' w', r = .ok (x, T.drop a') → Kept [g] w w' → PkIn w' g A c T a' (rest x) → R (val x) w')
    (h2 : ∀ e L w', r = .error (e, L) → Kept [g] w w' → X [{ v := failV e (hdT L).line, recovered := false }] w') : Calls P f args w (Ends R X) := by
  refine hc.mono fun e w' h => ?_
  obtain ⟨k, h⟩ := h
  cases hr : r with
  | ok x =>
    rw [hr] at h
    obtain ⟨x, L⟩ := x
    obtain ⟨rfl, a', ha, hp⟩ := h
    dsimp only at ha
    subst ha
    exact h1 x a' w' hr k hp
  | error x =>
    rw [hr] at h
    obtain ⟨e', L⟩ := x
    have h : e = _ := h
    subst h
    exact h2 e' L w' hr k
theorem ResQ.ok {α : Type} {rest : α → List Value} {r : Except (Int × List Tk) (α × List Tk)} {val : α → Value} {w' : World} {x : α} {a' : Nat} (hr : r = .ok (x, T.drop a')) (k : Kept [g] w w') (h : PkIn w' g A c T a' (rest x)) : ResQ g A c T rest w r val (.returned (val x)) w' := by
  subst hr; exact ⟨k, rfl, a', rfl, h⟩
theorem ResQ.err {α : Type} {rest : α → List Value} {r : Except (Int × List Tk) (α × List Tk)} {val : α → Value} {w' : World} {e : Int} {L : List Tk} (hr : r = .error (e, L)) (k : Kept [g] w w') : ResQ g A c T rest w r val (.panicked [{ v := failV e (hdT L).line, recovered := false }]) w' := by
  subst hr; exact ⟨k, rfl⟩
theorem PkIn.atOf {rest : List Value} (h : PkIn w g A c T a rest) : Go.Proofs.YtbdkggnajipdhaaDoor.atOf w g = a := by
  have c1 := h.row.cell (i := 1) rfl
  unfold Go.Proofs.YtbdkggnajipdhaaDoor.atOf
  rw [c1]
  simp [intOf]
theorem takeT_ok {k : Int} {L L' : List Tk} {t : Tk} (h : takeT k L = .ok (t, L')) : (hdT L).kind = k ∧ t = hdT L ∧ L' = nxT L := by
  unfold takeT at h
  split at h
  · rename_i hk; injection h with h; injection h with h1 h2; exact ⟨hk, h1.symm, h2.symm⟩
  · cases h
theorem takeT_err {k e : Int} {L L' : List Tk} (h : takeT k L = .error (e, L')) : ¬ (hdT L).kind = k ∧ e = 1 ∧ L' = L := by
  unfold takeT at h
  split at h
  · cases h
  · rename_i hk; injection h with h; injection h with h1 h2; exact ⟨hk, h1.symm, h2.symm⟩
theorem drop_same {a a' : Nat} (h : T.drop a = T.drop a') (ha' : a' < T.length) (ha : a < T.length) : a' = a := by
  have hl := congrArg List.length h
  rw [List.length_drop, List.length_drop] at hl
  omega
theorem less_bd {rest : List Value} (h : PkIn w g A c T a rest) (hT : TokOk T) {m : Int} {x : Int × List Tk} (hx : lessT m (T.drop a) = some x) : 0 ≤ x.1 ∧ x.1 ≤ m := by
  unfold lessT at hx
  cases hn : numT (T.drop a) with
  | none => rw [hn] at hx; cases hx
  | some y =>
    rw [hn] at hx
    dsimp only at hx
    split at hx
    · rename_i hle
      injection hx with hx
      subst hx
      exact ⟨(num_small h hT hn).1, hle⟩
    · cases hx
set_option maxHeartbeats 1000000 in
theorem paDays_any {gs : Nat} {G : Gm} {Va Vt : Value} (h : PkIn w g A c T a (.map (some gs) :: gmV G Va Vt)) (hT : TokOk T) (h9 : G.n 9 = 0) (hW : Laid w) (hWg : w.heap.size ≤ w.heap.size) (hg : 5 ≤ g) :
    Calls Tryd.prog 69 #[.pointer (some ⟨g, 0, none⟩)] w
      (ResQ g A c T (fun x => .map (some gs) :: gmV { G with n := putN (putN G.n 9 x.1) 10 x.2 } Va Vt) w (dayT (T.drop a)) fun _ => .tuple #[]) := by
  refine calls_WX (l := [_]) Tryd.func69 rfl _ Tryd.ntmps69 (by simp) ?_
  generalize hr : dayT (T.drop a) = r
  unfold dayT at hr
  rw [List.length_drop] at hr
  have hlt := h.lt
  have hbig := hT.big
  have hgl := h.row.lt
  generalize hF : (fun (d : Nat × List Tk) => thenT (lessT 23 d.2) d.2 fun h => thenT (isT 3 (asc ":") h.2) h.2 fun L3 => thenT (lessT 59 L3) L3 fun m => Except.ok (((d.1 : Int), 60 * h.1 + m.1), m.2)) = F at hr
  simp +contextual (maxSteps := 2000000) (disch := (first | omega | (simp only [SZ]; done) | (simp only [SZ]; omega) | (simp only [TS] at *; omega))) only [PZ, RZ, gval, gslot, fillL, ovw, numb, catL, ldN, agL, okC, oneC, init, Nat.reduceAdd, Nat.reduceMul, Nat.reduceSub, Nat.reduceEqDiff, Nat.reduceLT, ↓reduceIte, Int.reduceToNat, Int.reduceAdd, Int.reduceSub, Int.reduceMul, Int.reduceLT, Int.reduceLE, Int.reduceEq, Nat.reduceLeDiff]
  refine RawD_loop (fun σ w1 => ∃ (d a1 : Nat), a ≤ a1 ∧ d < 128 ∧ PkIn w1 g A c T a1 (.map (some gs) :: gmV { G with n := putN G.n 9 d } Va Vt) ∧ Kept [g] w w1 ∧ bindT (daysT (T.length - a1) (T.drop a1) d) F = r ∧
    σ 0 = .pointer (some ⟨g, 0, none⟩) ∧ σ 2 = .pointer (some ⟨g, 3, none⟩)) (fun σ w1 => T.length - atOf w1 g) ?_ ?_
  · simp +contextual (maxSteps := 2000000) (disch := (first | omega | (simp only [SZ]; done) | (simp only [SZ]; omega) | (simp only [TS] at *; omega))) only [RZ, gval, gslot, fillL, ovw, numb, catL, ldN, agL, okC, oneC, init, Nat.reduceAdd, Nat.reduceMul, Nat.reduceSub, Nat.reduceEqDiff, Nat.reduceLT, ↓reduceIte, Int.reduceToNat, Int.reduceAdd, Int.reduceSub, Int.reduceMul, Int.reduceLT, Int.reduceLE, Int.reduceEq, Nat.reduceLeDiff]
    refine ⟨0, a, Nat.le_refl _, by omega, ?_, Kept.refl _ _, hr⟩
    have : ({ G with n := putN G.n 9 ((0 : Nat) : Int) } : Gm) = G := by
      obtain ⟨nm, n, ad, ti⟩ := G
      congr 1
      funext j
      unfold putN
      split
      · rename_i e; subst e; exact h9.symm
      · rfl
    rw [this]
    exact h
  rintro σ w1 ⟨d, a1, haa, hd, h1, k1, hr1, f0, f2⟩ K hK
  have hlt1 := h1.lt
  have hat := h1.atOf
  have c13 := h1.row.cell (i := 13) rfl
  have hfu : T.length - a1 = (T.length - (a1 + 1)) + 1 := by omega
  rw [hfu] at hr1
  unfold daysT at hr1
  have n9 : ({ G with n := putN G.n 9 d } : Gm).n 9 = d := rfl
  rw [n9] at c13
  have htm := tok_mem hlt1
  have ha2 : bs ⟨#[97, 116]⟩ = asc "at" := by decide +kernel
  have ho : bs ⟨#[58]⟩ = asc ":" := by decide +kernel
  refine WX_cut (fun σ' w2 => σ' 0 = .pointer (some ⟨g, 0, none⟩) ∧ σ' 2 = .pointer (some ⟨g, 3, none⟩) ∧ PkIn w2 g A c T a1 (.map (some gs) :: gmV { G with n := putN G.n 9 d } Va Vt) ∧ Kept [g] w w2 ∧ ¬ (d ≠ 0 ∧ (hdT (T.drop a1)).kind = 1 ∧ bs (hdT (T.drop a1)).text = asc "at")) ?_ ?_; rotate_left
  · by_cases hd0 : d = 0
    · have e0 : ((d : Int) = 0) = True := eq_true (by omega)
      simp +contextual (maxSteps := 2000000) (disch := (first | omega | (simp only [SZ]; done) | (simp only [SZ]; omega) | (simp only [TS] at *; omega))) only [PZ, RZ, gval, gslot, fillL, ovw, numb, catL, ldN, agL, okC, oneC, init, Nat.reduceAdd, Nat.reduceMul, Nat.reduceSub, Nat.reduceEqDiff, Nat.reduceLT, ↓reduceIte, Int.reduceToNat, Int.reduceAdd, Int.reduceSub, Int.reduceMul, Int.reduceLT, Int.reduceLE, Int.reduceEq, Nat.reduceLeDiff,  f0, f2, c13, e0]
      refine WX_if_t rfl ?_
      simp +contextual (maxSteps := 2000000) (disch := (first | omega | (simp only [SZ]; done) | (simp only [SZ]; omega) | (simp only [TS] at *; omega))) only [PZ, RZ, gval, gslot, fillL, ovw, numb, catL, ldN, agL, okC, oneC, init, Nat.reduceAdd, Nat.reduceMul, Nat.reduceSub, Nat.reduceEqDiff, Nat.reduceLT, ↓reduceIte, Int.reduceToNat, Int.reduceAdd, Int.reduceSub, Int.reduceMul, Int.reduceLT, Int.reduceLE, Int.reduceEq, Nat.reduceLeDiff,  f0, f2]
      exact ⟨h1, k1, fun h => h.1 hd0⟩
    · have e0 : ((d : Int) = 0) = False := eq_false (by omega)
      simp +contextual (maxSteps := 2000000) (disch := (first | omega | (simp only [SZ]; done) | (simp only [SZ]; omega) | (simp only [TS] at *; omega))) only [PZ, RZ, gval, gslot, fillL, ovw, numb, catL, ldN, agL, okC, oneC, init, Nat.reduceAdd, Nat.reduceMul, Nat.reduceSub, Nat.reduceEqDiff, Nat.reduceLT, ↓reduceIte, Int.reduceToNat, Int.reduceAdd, Int.reduceSub, Int.reduceMul, Int.reduceLT, Int.reduceLE, Int.reduceEq, Nat.reduceLeDiff,  f0, f2, c13, e0]
      refine (paFollows_any _ h1 hT).mono ?_
      rintro e w2 ⟨rfl, h2, k2, hI⟩
      rw [ha2] at h2 hI ⊢
      by_cases hat2 : (isT 1 (asc "at") (T.drop a1)).isSome = true
      · have hI2 := hI hat2
        rw [if_pos hat2] at h2
        obtain ⟨q1, q2, q3⟩ := is_some hI2
        rw [if_pos ⟨hd0, q1, q2⟩, ← q3] at hr1
        dsimp only [bindT] at hr1
        rw [← hF] at hr1
        dsimp only at hr1
        rw [hat2]
        simp +contextual (maxSteps := 2000000) (disch := (first | omega | (simp only [SZ]; done) | (simp only [SZ]; omega) | (simp only [TS] at *; omega))) only [PZ, RZ, gval, gslot, fillL, ovw, numb, catL, ldN, agL, okC, oneC, init, Nat.reduceAdd, Nat.reduceMul, Nat.reduceSub, Nat.reduceEqDiff, Nat.reduceLT, ↓reduceIte, Int.reduceToNat, Int.reduceAdd, Int.reduceSub, Int.reduceMul, Int.reduceLT, Int.reduceLE, Int.reduceEq, Nat.reduceLeDiff,  f0, f2]
        refine WX_if_f rfl ?_
        simp +contextual (maxSteps := 2000000) (disch := (first | omega | (simp only [SZ]; done) | (simp only [SZ]; omega) | (simp only [TS] at *; omega))) only [PZ, RZ, gval, gslot, fillL, ovw, numb, catL, ldN, agL, okC, oneC, init, Nat.reduceAdd, Nat.reduceMul, Nat.reduceSub, Nat.reduceEqDiff, Nat.reduceLT, ↓reduceIte, Int.reduceToNat, Int.reduceAdd, Int.reduceSub, Int.reduceMul, Int.reduceLT, Int.reduceLE, Int.reduceEq, Nat.reduceLeDiff,  f0, f2]
        refine Res.use (paNumber_any 23 h2 hT) (fun x a3 w3 e3 k3 h3 => ?_) (fun e L w3 e3 k3 => ?_); rotate_left
        · obtain ⟨u1, rfl, rfl⟩ := numbT_err e3
          rw [u1] at hr1
          exact ResQ.err hr1.symm ((k1.trans k2).trans k3)
        have u1 := numbT_ok e3
        rw [u1] at hr1
        dsimp only [thenT] at hr1
        have x0 := less_bd h2 hT u1
        try simp +contextual (maxSteps := 2000000) (disch := (first | omega | (simp only [SZ]; done) | (simp only [SZ]; omega) | (simp only [TS] at *; omega))) only [PZ, RZ, gval, gslot, fillL, ovw, numb, catL, ldN, agL, okC, oneC, init, Nat.reduceAdd, Nat.reduceMul, Nat.reduceSub, Nat.reduceEqDiff, Nat.reduceLT, ↓reduceIte, Int.reduceToNat, Int.reduceAdd, Int.reduceSub, Int.reduceMul, Int.reduceLT, Int.reduceLE, Int.reduceEq, Nat.reduceLeDiff,  f0, f2]
        refine Res.use (paExpect_any 3 _ h3 hT) (fun u a4 w4 e4 k4 h4 => ?_) (fun e L w4 e4 k4 => ?_); rotate_left
        · obtain ⟨u2, rfl, rfl⟩ := expT_err e4
          rw [ho] at u2
          rw [u2] at hr1
          exact ResQ.err hr1.symm (((k1.trans k2).trans k3).trans k4)
        have u2 := expT_ok e4
        rw [ho] at u2
        rw [u2] at hr1
        dsimp only [thenT] at hr1
        try simp +contextual (maxSteps := 2000000) (disch := (first | omega | (simp only [SZ]; done) | (simp only [SZ]; omega) | (simp only [TS] at *; omega))) only [PZ, RZ, gval, gslot, fillL, ovw, numb, catL, ldN, agL, okC, oneC, init, Nat.reduceAdd, Nat.reduceMul, Nat.reduceSub, Nat.reduceEqDiff, Nat.reduceLT, ↓reduceIte, Int.reduceToNat, Int.reduceAdd, Int.reduceSub, Int.reduceMul, Int.reduceLT, Int.reduceLE, Int.reduceEq, Nat.reduceLeDiff,  f0, f2]
        refine Res.use (paNumber_any 59 h4 hT) (fun y a5 w5 e5 k5 h5 => ?_) (fun e L w5 e5 k5 => ?_); rotate_left
        · obtain ⟨u3, rfl, rfl⟩ := numbT_err e5
          rw [u3] at hr1
          exact ResQ.err hr1.symm ((((k1.trans k2).trans k3).trans k4).trans k5)
        have u3 := numbT_ok e5
        rw [u3] at hr1
        dsimp only [thenT] at hr1
        have y0 := less_bd h4 hT u3
        have k15 := (((k1.trans k2).trans k3).trans k4).trans k5
        have d14 := h5.row.cell (i := 14) rfl
        have d14z := h5.row.frozen 14
        try simp +contextual (maxSteps := 2000000) (disch := (first | omega | (simp only [SZ]; done) | (simp only [SZ]; omega) | (simp only [TS] at *; omega))) only [PZ, RZ, gval, gslot, fillL, ovw, numb, catL, ldN, agL, okC, oneC, init, Nat.reduceAdd, Nat.reduceMul, Nat.reduceSub, Nat.reduceEqDiff, Nat.reduceLT, ↓reduceIte, Int.reduceToNat, Int.reduceAdd, Int.reduceSub, Int.reduceMul, Int.reduceLT, Int.reduceLE, Int.reduceEq, Nat.reduceLeDiff,  f0, f2, d14, d14z]
        refine ResQ.ok hr1.symm (k15.setCell (p := ⟨g, 14, none⟩) (by simp) _) ?_
        exact h5.setN (i := 10) (by omega) _
      · have hI2 : isT 1 (asc "at") (T.drop a1) = none := by
          cases hx : isT 1 (asc "at") (T.drop a1) with
          | none => rfl
          | some x => rw [hx] at hat2; exact absurd rfl hat2
        rw [if_neg hat2] at h2
        rw [hI2]
        simp +contextual (maxSteps := 2000000) (disch := (first | omega | (simp only [SZ]; done) | (simp only [SZ]; omega) | (simp only [TS] at *; omega))) only [PZ, RZ, gval, gslot, fillL, ovw, numb, catL, ldN, agL, okC, oneC, init, Nat.reduceAdd, Nat.reduceMul, Nat.reduceSub, Nat.reduceEqDiff, Nat.reduceLT, ↓reduceIte, Int.reduceToNat, Int.reduceAdd, Int.reduceSub, Int.reduceMul, Int.reduceLT, Int.reduceLE, Int.reduceEq, Nat.reduceLeDiff,  f0, f2]
        refine WX_if_t rfl ?_
        simp +contextual (maxSteps := 2000000) (disch := (first | omega | (simp only [SZ]; done) | (simp only [SZ]; omega) | (simp only [TS] at *; omega))) only [PZ, RZ, gval, gslot, fillL, ovw, numb, catL, ldN, agL, okC, oneC, init, Nat.reduceAdd, Nat.reduceMul, Nat.reduceSub, Nat.reduceEqDiff, Nat.reduceLT, ↓reduceIte, Int.reduceToNat, Int.reduceAdd, Int.reduceSub, Int.reduceMul, Int.reduceLT, Int.reduceLE, Int.reduceEq, Nat.reduceLeDiff,  f0, f2]
        exact ⟨h2, k1.trans k2, fun h => is_none hI2 h.2⟩
  rintro σ2 w2 ⟨g0, g2, h2, k2, hno⟩
  rw [if_neg hno] at hr1
  have hgl2 := h2.row.lt
  simp +contextual (maxSteps := 2000000) (disch := (first | omega | (simp only [SZ]; done) | (simp only [SZ]; omega) | (simp only [TS] at *; omega))) only [PZ, RZ, gval, gslot, fillL, ovw, numb, catL, ldN, agL, okC, oneC, init, Nat.reduceAdd, Nat.reduceMul, Nat.reduceSub, Nat.reduceEqDiff, Nat.reduceLT, ↓reduceIte, Int.reduceToNat, Int.reduceAdd, Int.reduceSub, Int.reduceMul, Int.reduceLT, Int.reduceLE, Int.reduceEq, Nat.reduceLeDiff,  g0, g2]
  refine Res.use (paTake_any 1 h2 hT) (fun t a3 w3 e3 k3 h3 => ?_) (fun e L w3 e3 k3 => ?_); rotate_left
  · obtain ⟨q1, rfl, rfl⟩ := takeT_err e3
    rw [if_pos q1] at hr1
    exact ResQ.err hr1.symm (k2.trans k3)
  obtain ⟨q1, rfl, q3⟩ := takeT_ok e3
  rw [if_neg (fun h => h q1)] at hr1
  have hst := List.getElem?_eq_getElem hlt1
  have hhd := hdT_drop hst
  have hnx := nxT_drop (hT.last a1 _ hst (by rw [← hhd]; omega))
  rw [hnx] at q3 hr1
  obtain rfl : a3 = a1 + 1 := drop_same q3.symm h3.lt (hT.last a1 _ hst (by rw [← hhd]; omega))
  generalize htd : hdT (T.drop a1) = t at *
  rw [show (encTk t).toArray = #[.int .i64 t.kind, .int .i64 t.line, .int .i64 t.col, .string t.text] from rfl]
  have k3 := k2.trans k3
  simp +contextual (maxSteps := 2000000) (disch := (first | omega | (simp only [SZ]; done) | (simp only [SZ]; omega) | (simp only [TS] at *; omega))) only [PZ, RZ, gval, gslot, fillL, ovw, numb, catL, ldN, agL, okC, oneC, init, Nat.reduceAdd, Nat.reduceMul, Nat.reduceSub, Nat.reduceEqDiff, Nat.reduceLT, ↓reduceIte, Int.reduceToNat, Int.reduceAdd, Int.reduceSub, Int.reduceMul, Int.reduceLT, Int.reduceLE, Int.reduceEq, Nat.reduceLeDiff,  g0, g2]
  have h4 := h3.below (below_alloc w3 (.cells #[Value.int .i64 t.kind, .int .i64 t.line, .int .i64 t.col, .string t.text] 38))
  have k4 := k3.alloc (.cells #[Value.int .i64 t.kind, .int .i64 t.line, .int .i64 t.col, .string t.text] 38)
  have q4 := Row.new w3 38 [Value.int .i64 t.kind, .int .i64 t.line, .int .i64 t.col, .string t.text]
  replace q4 : Row (w3.alloc (.cells #[Value.int .i64 t.kind, .int .i64 t.line, .int .i64 t.col, .string t.text] 38)) _ _ _ := q4
  generalize w3.alloc (.cells #[Value.int .i64 t.kind, .int .i64 t.line, .int .i64 t.col, .string t.text] 38) = w4 at *
  have c0 := q4.cell (i := 0) rfl
  have c1 := q4.cell (i := 1) rfl
  have c2 := q4.cell (i := 2) rfl
  have c3 := q4.cell (i := 3) rfl
  try simp +contextual (maxSteps := 2000000) (disch := (first | omega | (simp only [SZ]; done) | (simp only [SZ]; omega) | (simp only [TS] at *; omega))) only [PZ, RZ, gval, gslot, fillL, ovw, numb, catL, ldN, agL, okC, oneC, init, Nat.reduceAdd, Nat.reduceMul, Nat.reduceSub, Nat.reduceEqDiff, Nat.reduceLT, ↓reduceIte, Int.reduceToNat, Int.reduceAdd, Int.reduceSub, Int.reduceMul, Int.reduceLT, Int.reduceLE, Int.reduceEq, Nat.reduceLeDiff,  g0, g2, c3]
  have hW4 := hW.kept k4 (by simpa using hg)
  refine (paWeekday_any t.text w4 hW4).mono ?_
  rintro e w5 ⟨rfl, rfl⟩
  have d13 := h4.row.cell (i := 13) rfl
  have d13z := h4.row.frozen 13
  rw [n9] at d13
  cases hdy : dayI (bs t.text) with
  | none =>
    rw [hdy] at hr1
    dsimp only [bindT] at hr1
    simp +contextual (maxSteps := 2000000) (disch := (first | omega | (simp only [SZ]; done) | (simp only [SZ]; omega) | (simp only [TS] at *; omega))) only [PZ, RZ, gval, gslot, fillL, ovw, numb, catL, ldN, agL, okC, oneC, init, Nat.reduceAdd, Nat.reduceMul, Nat.reduceSub, Nat.reduceEqDiff, Nat.reduceLT, ↓reduceIte, Int.reduceToNat, Int.reduceAdd, Int.reduceSub, Int.reduceMul, Int.reduceLT, Int.reduceLE, Int.reduceEq, Nat.reduceLeDiff,  g0, g2]
    refine WX_if_t rfl ?_
    simp +contextual (maxSteps := 2000000) (disch := (first | omega | (simp only [SZ]; done) | (simp only [SZ]; omega) | (simp only [TS] at *; omega))) only [PZ, RZ, gval, gslot, fillL, ovw, numb, catL, ldN, agL, okC, oneC, init, Nat.reduceAdd, Nat.reduceMul, Nat.reduceSub, Nat.reduceEqDiff, Nat.reduceLT, ↓reduceIte, Int.reduceToNat, Int.reduceAdd, Int.reduceSub, Int.reduceMul, Int.reduceLT, Int.reduceLE, Int.reduceEq, Nat.reduceLeDiff,  g0, g2, c0, c1, c2, c3]
    refine (paFail_any g 1 t w4).mono ?_
    rintro e w5 ⟨rfl, hB5⟩
    rw [Ends_pan]
    have := ResQ.err (g := g) (A := A) (c := c) (T := T) (val := fun _ => .tuple #[]) (rest := fun x => .map (some gs) :: gmV { G with n := putN (putN G.n 9 x.1) 10 x.2 } Va Vt) (w := w) hr1.symm (k4.trans (Kept.of_below hB5))
    rw [htd] at this
    exact this
  | some i =>
    rw [hdy] at hr1
    dsimp only at hr1 ⊢
    have hi7 := (dayI_lt hdy).1
    obtain ⟨b1, b2⟩ := day_bits d i hd hi7
    have hp : 2 ^ i < 128 := by
      have : ∀ i : Fin 7, 2 ^ i.1 < 128 := by decide
      exact this ⟨i, hi7⟩
    have hp0 : 0 < 2 ^ i := Nat.two_pow_pos i
    generalize hpi : 2 ^ i = p2 at *
    have e0 : ((p2 : Int) = 0) = False := eq_false (by omega)
    have ea := vBin_andN (P := Tryd.prog) (T := 3) (x := .tmp 30) (y := .tmp 31) (w := w4) (a := d) (b := p2) (by omega) (by omega)
    have eo := vBin_orN (P := Tryd.prog) (T := 3) (x := .tmp 41) (y := .tmp 42) (w := w4) (a := d) (b := p2) (by omega) (by omega)
    by_cases hb : d / p2 % 2 = 1
    · rw [if_pos hb] at hr1
      dsimp only [bindT] at hr1
      have e1 : (((d &&& p2 : Nat) : Int) = 0) = False := eq_false (fun h => (b1.1 (by omega)) hb)
      simp +contextual (maxSteps := 2000000) (disch := (first | omega | (simp only [SZ]; done) | (simp only [SZ]; omega) | (simp only [TS] at *; omega))) only [PZ, RZ, gval, gslot, fillL, ovw, numb, catL, ldN, agL, okC, oneC, init, Nat.reduceAdd, Nat.reduceMul, Nat.reduceSub, Nat.reduceEqDiff, Nat.reduceLT, ↓reduceIte, Int.reduceToNat, Int.reduceAdd, Int.reduceSub, Int.reduceMul, Int.reduceLT, Int.reduceLE, Int.reduceEq, Nat.reduceLeDiff,  g0, g2, e0, d13, ea, e1]
      refine WX_if_t rfl ?_
      simp +contextual (maxSteps := 2000000) (disch := (first | omega | (simp only [SZ]; done) | (simp only [SZ]; omega) | (simp only [TS] at *; omega))) only [PZ, RZ, gval, gslot, fillL, ovw, numb, catL, ldN, agL, okC, oneC, init, Nat.reduceAdd, Nat.reduceMul, Nat.reduceSub, Nat.reduceEqDiff, Nat.reduceLT, ↓reduceIte, Int.reduceToNat, Int.reduceAdd, Int.reduceSub, Int.reduceMul, Int.reduceLT, Int.reduceLE, Int.reduceEq, Nat.reduceLeDiff,  g0, g2, c0, c1, c2, c3]
      refine (paFail_any g 1 t w4).mono ?_
      rintro e w5 ⟨rfl, hB5⟩
      rw [Ends_pan]
      have := ResQ.err (g := g) (A := A) (c := c) (T := T) (val := fun _ => .tuple #[]) (rest := fun x => .map (some gs) :: gmV { G with n := putN (putN G.n 9 x.1) 10 x.2 } Va Vt) (w := w) hr1.symm (k4.trans (Kept.of_below hB5))
      rw [htd] at this
      exact this
    · rw [if_neg hb] at hr1
      have e1 : (((d &&& p2 : Nat) : Int) = 0) = True := eq_true (by have := b1.2 hb; omega)
      obtain ⟨b3, b4⟩ := b2 hb
      rw [b3] at eo
      simp +contextual (maxSteps := 2000000) (disch := (first | omega | (simp only [SZ]; done) | (simp only [SZ]; omega) | (simp only [TS] at *; omega))) only [PZ, RZ, gval, gslot, fillL, ovw, numb, catL, ldN, agL, okC, oneC, init, Nat.reduceAdd, Nat.reduceMul, Nat.reduceSub, Nat.reduceEqDiff, Nat.reduceLT, ↓reduceIte, Int.reduceToNat, Int.reduceAdd, Int.reduceSub, Int.reduceMul, Int.reduceLT, Int.reduceLE, Int.reduceEq, Nat.reduceLeDiff,  g0, g2, e0, d13, ea, e1]
      refine WX_if_f rfl ?_
      simp +contextual (maxSteps := 2000000) (disch := (first | omega | (simp only [SZ]; done) | (simp only [SZ]; omega) | (simp only [TS] at *; omega))) only [PZ, RZ, gval, gslot, fillL, ovw, numb, catL, ldN, agL, okC, oneC, init, Nat.reduceAdd, Nat.reduceMul, Nat.reduceSub, Nat.reduceEqDiff, Nat.reduceLT, ↓reduceIte, Int.reduceToNat, Int.reduceAdd, Int.reduceSub, Int.reduceMul, Int.reduceLT, Int.reduceLE, Int.reduceEq, Nat.reduceLeDiff,  g0, g2, d13, d13z, eo]
      refine hK _ _ ⟨d + p2, a1 + 1, by omega, by omega, ?_, k4.setCell (p := ⟨g, 13, none⟩) (by simp) _, hr1, ?_⟩ ?_
      · have := h4.setN (i := 9) (by omega) ((d + p2 : Nat) : Int)
        exact this
      · simp +contextual (maxSteps := 2000000) (disch := (first | omega | (simp only [SZ]; done) | (simp only [SZ]; omega) | (simp only [TS] at *; omega))) only [RZ, gval, gslot, fillL, ovw, numb, catL, ldN, agL, okC, oneC, init, Nat.reduceAdd, Nat.reduceMul, Nat.reduceSub, Nat.reduceEqDiff, Nat.reduceLT, ↓reduceIte, Int.reduceToNat, Int.reduceAdd, Int.reduceSub, Int.reduceMul, Int.reduceLT, Int.reduceLE, Int.reduceEq, Nat.reduceLeDiff,  g0, g2]
      · have := (h4.setN (i := 9) (by omega) ((d + p2 : Nat) : Int)).atOf
        rw [show (9 + 4 : Nat) = 13 from rfl] at this
        rw [this, hat]
        omega
end
end Go.Proofs.YtbdkggnajipdhaaDoor
