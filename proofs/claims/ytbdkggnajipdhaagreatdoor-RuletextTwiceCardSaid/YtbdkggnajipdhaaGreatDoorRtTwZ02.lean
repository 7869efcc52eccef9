/- Texts laid one behind the other: Build, Str, Bit. Each says at its head what it proves. -/
import Derived.Test.YtbdkggnajipdhaaGreatDoorRtTwZ01
import Derived.Maps.AppendAt
import Derived.Laws.RangeString
import Derived.Laws.Slices
set_option linter.unusedSimpArgs false
/- The engine's rules for struct literals, slice literals, make, append. -/
namespace Go.Proofs.YtbdkggnajipdhaaGreatDoor
open Go.RowKit
section
variable {P : Program} {T : TypeId} {w : World}
/-- Cells laid over a list from place k on. -/
def ovw : List Value → Nat → List Value → List Value
  | cs, 0, [] => cs
  | [], _, _ => []
  | _ :: cs, 0, v :: vs => v :: ovw cs 0 vs
  | c :: cs, k + 1, vs => c :: ovw cs k vs
theorem ovw_nil : ∀ (cs : List Value) (k : Nat), ovw cs k [] = cs
  | [], 0 => rfl
  | [], _ + 1 => rfl
  | _ :: _, 0 => rfl
  | c :: cs, k + 1 => by rw [ovw, ovw_nil cs k]
theorem ovw_cons : ∀ (cs : List Value) (k : Nat) (v : Value) (vs : List Value), ovw cs k (v :: vs) = ovw (cs.set k v) (k + 1) vs
  | [], 0, v, vs => by simp [ovw]
  | [], k + 1, v, vs => by simp [ovw]
  | c :: cs, 0, v, vs => by simp [ovw]
  | c :: cs, k + 1, v, vs => by simp only [List.set_cons_succ, ovw]; rw [ovw_cons cs k v vs]
theorem foldl_ovw : ∀ (vs : List Value) (j off : Nat) (cells : Array Value), ((vs.zipIdx j).foldl (fun cs (p : Value × Nat) => cs.setIfInBounds (off + p.2) p.1) cells).toList = ovw cells.toList (off + j) vs
  | [], j, off, cells => by simp [ovw_nil]
  | v :: vs, j, off, cells => by
    rw [List.zipIdx_cons, List.foldl_cons, foldl_ovw vs (j + 1) off, ovw_cons, Array.toList_setIfInBounds]; rfl
def fillL (pl : Nat → Option (Nat × Nat)) : List Value → List (Nat × Value) → Option (List Value)
  | cs, [] => some cs
  | cs, (i, v) :: r => match pl i with
    | none => none
    | some (off, size) => if v.cells.size = size ∧ off + size ≤ cs.length then fillL pl (ovw cs off v.cells.toList) r else none
theorem fill_is (pl : Nat → Option (Nat × Nat)) : ∀ (l : List (Nat × Value)) (cells : Array Value) (cs : List Value), fillL pl cells.toList l = some cs → Instr.fill pl cells l = some cs.toArray
  | [], cells, cs, h => by
    simp only [fillL, Option.some.injEq] at h
    subst h; simp [Instr.fill]
  | (i, v) :: r, cells, cs, h => by
    rw [fillL] at h
    rw [Instr.fill]
    cases hp : pl i with
    | none => rw [hp] at h; cases h
    | some q =>
      obtain ⟨off, size⟩ := q
      rw [hp] at h
      simp only at h
      by_cases hc : v.cells.size = size ∧ off + size ≤ cells.toList.length
      · rw [if_pos hc] at h
        obtain ⟨h1, h2⟩ := hc
        have h3 : ¬ (v.cells.size ≠ size || decide (off + v.cells.size > cells.size)) = true := by
          simp only [ne_eq, h1, Bool.or_eq_true, decide_eq_true_eq, not_true, false_or, decide_not, decide_true, Bool.not_true, Bool.false_eq_true]
          simp at h2; omega
        simp only [h3]
        refine fill_is pl r _ cs ?_
        rw [← h]
        congr 1
        have := foldl_ovw v.cells.toList 0 off cells
        simp only [Nat.add_zero] at this
        rw [← this, ← Array.foldl_toList]
        congr 1
        simp
      · rw [if_neg hc] at h; cases h
def vBuild (P : Program) (T : TypeId) (l : List (Nat × Value)) (w : World) : Result Next := (do pure (.value (← Instr.build T l.toArray)) : Sem Next).run P w
theorem r_build (ty : TypeId) (σ : Sl) (l : List (Nat × Operand)) : run1 P (.build T l.toArray) ty σ w = vBuild P T (l.map fun p => (p.1, ev σ p.2)) w := by
  simp [run1, execOp, vBuild]
/-- The places of a struct's fields: offset and size of each. -/
def plT (P : Program) (T : TypeId) : Option (List (Nat × Nat)) := match P.underlying T with
  | some (.struct fs) => fs.toList.mapM fun f => (P.info? f.type).map fun i => (f.offset, i.size)
  | _ => none
def bldT (z : Option Value) (pl : Option (List (Nat × Nat))) (l : List (Nat × Value)) (w : World) (j : Result Next) : Result Next := match z, pl with
  | some (.agg zs), some pl => match fillL (fun i => pl[i]?) zs.toList l with
    | some cs => .ok (.value (.agg cs.toArray)) w
    | none => j
  | _, _ => j
theorem bldT_some {zs : List Value} {pl : List (Nat × Nat)} {l : List (Nat × Value)} (j : Result Next) : bldT (some (.agg zs.toArray)) (some pl) l w j = match fillL (fun i => pl[i]?) zs l with
    | some cs => .ok (.value (.agg cs.toArray)) w
    | none => j := nr rfl
def jBuild (P : Program) (T : TypeId) (l : List (Nat × Value)) (w : World) : Result Next := vBuild P T l w
theorem run_mapM_places (fs : List Field) (pl : List (Nat × Nat)) (h : fs.mapM (fun f => (P.info? f.type).map fun i => (f.offset, i.size)) = some pl) :
    (fs.mapM (fun f => Prod.mk f.offset <$> sizeOf f.type)).run P w = .ok pl w := by
  induction fs generalizing pl with
  | nil => simp only [List.mapM_nil] at h ⊢; injection h with h; subst h; rfl
  | cons f r ih =>
    rw [List.mapM_cons] at h ⊢
    cases hi : P.info? f.type with
    | none => rw [hi] at h; cases h
    | some i =>
      rw [hi] at h
      cases hr : r.mapM (fun f => (P.info? f.type).map fun i => (f.offset, i.size)) with
      | none => rw [hr] at h; cases h
      | some pr =>
        rw [hr] at h
        injection h with h
        subst h
        have hs : (sizeOf f.type).run P w = .ok i.size w := by simp [sizeOf, typeInfo, hi]
        simp [Sem.run_bind, hs, ih pr hr]
theorem vBuild_at {l : List (Nat × Value)} : vBuild P T l w = bldT (zeroV P T) (plT P T) l w (jBuild P T l w) := by
  unfold jBuild bldT
  split
  · rename_i zs pl hz hp
    split
    · rename_i cs hc
      unfold zeroV at hz
      cases hq : P.info? T with
      | none => rw [hq] at hz; cases hz
      | some inf =>
        rw [hq] at hz
        have hz' : inf.zero = some (.agg zs) := hz
        unfold plT at hp
        cases hd : P.underlying T with
        | none => rw [hd] at hp; cases hp
        | some d =>
          rw [hd] at hp
          cases d with
          | struct fs =>
            have h1 := run_mapM_places (P := P) (w := w) fs.toList pl hp
            have h2 := fill_is (fun i => pl[i]?) l zs cs hc
            have h3 : Instr.fill (fun i => pl.toArray[i]?) zs l = some cs.toArray := by rw [← h2]; congr 1; funext i; simp
            simp [vBuild, Instr.build, Sem.run_bind, zeroValue, typeInfo, hq, hz', run_underlying hd w, Array.mapM_eq_mapM_toList, h1, h2, Value.cells]
          | _ => cases hp
    · rfl
  · rfl
/-- A slice literal with all its elements, or none. -/
def catL (n : Nat) : List Value → Option (List Value)
  | [] => some []
  | v :: r => if v.cells.size = n then (catL n r).map (v.cells.toList ++ ·) else none
def sliceI (P : Program) (T : TypeId) : Option (TypeId × Nat × Nat) := match P.underlying T with
  | some (.slice e) => (P.info? e).bind fun i => i.zero.bind fun z => if z.cells.size = i.size ∧ 0 < i.size then some (e, i.size, i.bytes) else none
  | _ => none
theorem sliceI_is {e : TypeId} {size bytes : Nat} (h : sliceI P T = some (e, size, bytes)) : ∃ inf z, P.underlying T = some (.slice e) ∧ P.info? e = some inf ∧ inf.zero = some z ∧ inf.size = size ∧ inf.bytes = bytes ∧ z.cells.size = size ∧ 0 < size := by
  unfold sliceI at h
  cases hd : P.underlying T with
  | none => rw [hd] at h; cases h
  | some d =>
    rw [hd] at h
    cases d with
    | slice e' =>
      cases hi : P.info? e' with
      | none => simp [hi] at h
      | some inf =>
        cases hz : inf.zero with
        | none => simp [hi, hz] at h
        | some z =>
          simp only [hi, hz, Option.bind_some] at h
          split at h
          · rename_i hc
            simp only [Option.some.injEq, Prod.mk.injEq] at h
            obtain ⟨rfl, rfl, rfl⟩ := h
            exact ⟨inf, z, rfl, hi, hz, rfl, rfl, hc.1, hc.2⟩
          · cases h
    | _ => cases h
theorem ovw_cat : ∀ (pre cs vs : List Value), vs.length ≤ cs.length → ovw (pre ++ cs) pre.length vs = pre ++ vs ++ cs.drop vs.length
  | [], cs, [], _ => by simp [ovw_nil]
  | [], [], _ :: _, h => by simp at h
  | [], c :: cs, v :: vs, h => by
    have := ovw_cat [] cs vs (by simpa using h)
    simp only [List.nil_append, List.length_nil, ovw] at this ⊢
    rw [this]; rfl
  | p :: pre, cs, vs, h => by
    have := ovw_cat pre cs vs h
    simp only [List.cons_append, List.length_cons, ovw]
    rw [this]
theorem fillL_cat (n : Nat) (hn : 0 < n) : ∀ (l : List Value) (i : Nat) (pre cs : List Value) (out : List Value), pre.length = i * n → cs.length = l.length * n → catL n l = some out →
    fillL (fun i => some (i * n, n)) (pre ++ cs) ((l.zipIdx i).map fun p => (p.2, p.1)) = some (pre ++ out)
  | [], i, pre, cs, out, h1, h2, h3 => by
    simp only [catL, Option.some.injEq] at h3
    subst h3
    have : cs = [] := List.eq_nil_of_length_eq_zero (by simpa using h2)
    subst this
    simp [fillL]
  | v :: l, i, pre, cs, out, h1, h2, h3 => by
    rw [catL] at h3
    split at h3
    · rename_i hv
      cases hr : catL n l with
      | none => rw [hr] at h3; cases h3
      | some o2 =>
        rw [hr] at h3
        simp only [Option.map_some, Option.some.injEq] at h3
        subst h3
        simp only [List.zipIdx_cons, List.map_cons, fillL]
        have hlen : n ≤ cs.length := by rw [h2, List.length_cons, Nat.succ_mul]; omega
        rw [if_pos ⟨hv, by rw [List.length_append]; omega⟩]
        have e1 : ovw (pre ++ cs) (i * n) v.cells.toList = (pre ++ v.cells.toList) ++ cs.drop n := by
          have := ovw_cat pre cs v.cells.toList (by simpa [hv] using hlen)
          rw [h1] at this
          rw [this]; simp [hv]
        rw [e1, fillL_cat n hn l (i + 1) (pre ++ v.cells.toList) (cs.drop n) o2 (by simp [h1, hv, Nat.succ_mul]) (by rw [List.length_drop, h2, List.length_cons, Nat.succ_mul]; omega) hr]
        simp
    · cases h3
def vBuildSlice (P : Program) (T : TypeId) (n : Nat) (l : List (Nat × Value)) (w : World) : Result Next := (do pure (.value (← Instr.buildSlice T n l.toArray)) : Sem Next).run P w
theorem r_buildSlice (ty : TypeId) (σ : Sl) (n : Nat) (l : List (Nat × Operand)) : run1 P (.buildSlice T n l.toArray) ty σ w = vBuildSlice P T n (l.map fun p => (p.1, ev σ p.2)) w := by
  simp [run1, execOp, vBuildSlice]
/-- l is numbered 0, 1, .. -/
def numb : Nat → List (Nat × Value) → Option (List Value)
  | _, [] => some []
  | i, (k, v) :: r => if k = i then (numb (i + 1) r).map (v :: ·) else none
theorem numb_is : ∀ (l : List (Nat × Value)) (i : Nat) (vs : List Value), numb i l = some vs → l = (vs.zipIdx i).map fun p => (p.2, p.1)
  | [], i, vs, h => by simp only [numb, Option.some.injEq] at h; subst h; rfl
  | (k, v) :: r, i, vs, h => by
    rw [numb] at h
    split at h
    · rename_i hk
      subst hk
      cases hr : numb (k + 1) r with
      | none => rw [hr] at h; cases h
      | some o =>
        rw [hr] at h
        simp only [Option.map_some, Option.some.injEq] at h
        subst h
        rw [numb_is r (k + 1) o hr]; rfl
    · cases h
def bslT (I : Option (TypeId × Nat × Nat)) (n : Nat) (l : List (Nat × Value)) (w : World) (j : Result Next) : Result Next := match I with
  | some (e, size, _) => match numb 0 l with
    | some vs => match catL size vs with
      | some cs => if vs.length = n ∧ n * size ≤ 1000000 then .ok (.value (.slice (some ⟨w.heap.size, 0, none⟩) n n)) (w.alloc (.cells cs.toArray e)) else j
      | none => j
    | none => j
  | none => j
def jBuildSlice (P : Program) (T : TypeId) (n : Nat) (l : List (Nat × Value)) (w : World) : Result Next := vBuildSlice P T n l w
theorem bslT_some (e : TypeId) (size bytes n : Nat) (l : List (Nat × Value)) (j : Result Next) : bslT (some (e, size, bytes)) n l w j = match numb 0 l with
    | some vs => match catL size vs with
      | some cs => if vs.length = n ∧ n * size ≤ 1000000 then .ok (.value (.slice (some ⟨w.heap.size, 0, none⟩) n n)) (w.alloc (.cells cs.toArray e)) else j
      | none => j
    | none => j := nr rfl
theorem vBuildSlice_at {n : Nat} {l : List (Nat × Value)} : vBuildSlice P T n l w = bslT (sliceI P T) n l w (jBuildSlice P T n l w) := by
  unfold jBuildSlice
  cases hI : sliceI P T with
  | none => rfl
  | some q =>
    obtain ⟨e, size, bytes⟩ := q
    rw [bslT_some]
    split
    · rename_i vs hv
      split
      · rename_i cs hc
        split
        · rename_i hn
          obtain ⟨hn, hn2⟩ := hn
          obtain ⟨inf, z, hT, hi, hz, rfl, rfl, hzs, hpos⟩ := sliceI_is hI
          have hl := numb_is l 0 vs hv
          have hbig : ¬ (n * inf.size > 2 ^ 24) := by omega
          have hfill : ∀ zs : Array Value, zs.size = n * inf.size → Instr.fill (fun i => some (i * inf.size, inf.size)) zs l = some cs.toArray := fun zs hzs' => by
            refine fill_is _ l zs cs ?_
            have := fillL_cat inf.size hpos vs 0 [] zs.toList cs (by simp) (by simp [hzs', hn]) hc
            rw [hl]
            simpa using this
          by_cases h0 : n = 0
          · subst h0
            simp only [vBuildSlice, Instr.buildSlice, Sem.run_bind, run_underlying hT w, Result.andThen, sizeOf, typeInfo, run_program, hi, Sem.run_pure]
            simp [newRow, newObj, Sem.run]
            rw [hfill _ (by simp)]
            simp [Sem.run]
          · have hne : ¬ (n * inf.size = 0) := by
              have := Nat.mul_pos (Nat.pos_of_ne_zero h0) hpos
              omega
            have := hfill ((Array.range (n * inf.size)).map (z.cells[· % z.cells.size]!)) (by simp)
            simp only [vBuildSlice, Instr.buildSlice, Sem.run_bind, run_underlying hT w, Result.andThen, sizeOf, typeInfo, run_program, hi, Sem.run_pure, hbig, if_false, hne, zeroValue, hz, this]
            simp [newRow, newObj, Sem.run]
        · rfl
      · rfl
    · rfl
/-- make([]T, n). -/
def vMakeSlice (P : Program) (T : TypeId) (l c : Value) (w : World) : Result Next := (do pure (.value (← Instr.makeSlice T l c)) : Sem Next).run P w
theorem r_makeSlice (ty : TypeId) (σ : Sl) (l c : Operand) : run1 P (.makeSlice T l c) ty σ w = vMakeSlice P T (ev σ l) (ev σ c) w := nr rfl
/-- append. -/
def vAppend (P : Program) (T T2 ty : TypeId) (s x : Value) (w : World) : Result Next := (do pure (.value (← Builtin.append_ #[T, T2] ty #[s, x])) : Sem Next).run P w
theorem r_append (ty T2 : TypeId) (σ : Sl) (s x : Operand) : run1 P (.call ⟨.builtin .append, #[s, x], #[T, T2]⟩) ty σ w = vAppend P T T2 ty (ev σ s) (ev σ x) w := by simp [run1, execOp, resolve, invoke, builtin, vAppend]
theorem vAppend_own {e ty : TypeId} {size bytes base n m c b o : Nat} {v : Value} {xs news : List Value} (hI : sliceI P T = some (e, size, bytes)) (hown : w.ownsRow base e size v n xs)
    (hl : news.length = m * size) (hnews : ∀ j u, news[j]? = some u → w.cell? ⟨b, o + j, none⟩ = some u) (h1 : ∀ u ∈ news, u.oneCell' = true)
    (h63 : n + m ≤ 1000000000) (hbytes : bytes ≤ 10000) (hbase : base ≤ w.heap.size) :
    ∃ A c' w', vAppend P T T ty v (.slice (some ⟨b, o, none⟩) m c) w = .ok (.value (.slice A (n + m) c')) w' ∧ w'.ownsRow base e size (.slice A (n + m) c') (n + m) (xs ++ news) ∧ w.grownBy w' v.ownBlock ∧
      ((Value.slice A (n + m) c').ownBlock = v.ownBlock ∨ (Value.slice A (n + m) c').ownBlock = some w.heap.size) := by
  obtain ⟨inf, z, hT, hi, hz, rfl, rfl, hzs, hpos⟩ := sliceI_is hI
  have hb : (n + m) * inf.bytes ≤ 140737488355328 := Nat.le_trans (Nat.mul_le_mul h63 hbytes) (by decide)
  obtain ⟨v', w', hr, ho, hg, _, hbk⟩ := run_append_own_at (P := P) w base T ty e inf z inf.size inf.bytes hT hi hz rfl rfl hzs hpos v n xs hown ⟨b, o, none⟩ m c news hl
    (fun j u hu => by rw [addr_add]; exact hnews j u hu) h1 (by unfold maxLen; omega) hb hbase
  have hv : ∃ A c', v' = .slice A (n + m) c' := by
    rcases ho.2 with ⟨rfl, h0⟩ | ⟨g, cap, cur, rfl, _⟩
    · exact ⟨none, 0, by rw [h0]⟩
    · exact ⟨_, _, rfl⟩
  obtain ⟨A, c', rfl⟩ := hv
  exact ⟨A, c', w', by simp [vAppend, hr], ho, hg, hbk⟩
end
end Go.Proofs.YtbdkggnajipdhaaGreatDoor
/- The engine's rules for strings: cutting, joining, ranges; conversions; calls of a value; small kinds of integers. -/
namespace Go.Proofs.YtbdkggnajipdhaaGreatDoor
open Go.RowKit
section
variable {P : Program} {T : TypeId} {w : World}
/-- A call of a function that lies in a slot. -/
def vCallv (P : Program) (v : Value) (args : Array Value) (w : World) : Result Next := (do let d ← Deferred.ofValue v args; invoke d.target d.args : Sem Next).run P w
theorem r_callv (ty : TypeId) (σ : Sl) (t : Nat) (xs : List Operand) (ts : Array TypeId) : run1 P (.call ⟨.value (.tmp t), xs.toArray, ts⟩) ty σ w = vCallv P (σ t) (xs.map (ev σ)).toArray w := by
  simp [run1, execOp, resolve, ev, vCallv]
theorem vCallv_func {f : FuncId} {args : Array Value} : vCallv P (.func (.func f) #[] #[]) args w = vCall P f args w := by
  simp [vCallv, Deferred.ofValue, invoke, vCall]
/-- Cutting. -/
def vSlice (P : Program) (T : TypeId) (x : Value) (lo hi mx : Option Value) (w : World) : Result Next := (do pure (.value (← Instr.sliceAt T x lo hi mx)) : Sem Next).run P w
theorem r_slice (ty : TypeId) (σ : Sl) (x : Operand) (lo hi mx : Option Operand) : run1 P (.slice T x lo hi mx) ty σ w = vSlice P T (ev σ x) (lo.map (ev σ)) (hi.map (ev σ)) (mx.map (ev σ)) w := nr rfl
def slT (x : Bool) (s : ByteArray) (a b : Int) (w : World) (j : Result Next) : Result Next := match x with
  | true => if 0 ≤ a ∧ a ≤ b ∧ b ≤ s.size then .ok (.value (.string (s.extract a.toNat b.toNat))) w else j
  | false => j
theorem slT_true {s : ByteArray} {a b : Int} (h0 : 0 ≤ a) (h1 : a ≤ b) (h2 : b ≤ s.size) (j : Result Next) : slT true s a b w j = .ok (.value (.string (s.extract a.toNat b.toNat))) w := by
  simp only [slT]; rw [if_pos ⟨h0, h1, h2⟩]
def jSlice (P : Program) (T : TypeId) (x : Value) (lo hi : Option Value) (w : World) : Result Next := vSlice P T x lo hi none w
theorem strB_is (h : strB P T = true) : P.underlying T = some .string := by
  unfold strB at h
  cases hd : P.underlying T with
  | none => rw [hd] at h; cases h
  | some d => rw [hd] at h; cases d <;> first | rfl | cases h
theorem slice_str {s : ByteArray} {lo hi : Option Value} {a b : Int} (hT : strB P T = true) (hlo : (match lo with | some v => ∃ k, v = .int k a | none => a = 0)) (hhi : (match hi with | some v => ∃ k, v = .int k b | none => b = s.size))
    (h0 : 0 ≤ a) (h1 : a ≤ b) (h2 : b ≤ s.size) : vSlice P T (.string s) lo hi none w = .ok (.value (.string (s.extract a.toNat b.toNat))) w := by
  have hu := strB_is hT
  have key : ∀ (x y : Nat) (k : IntKind) (i : Int) (code : BoundsCode), 0 ≤ i → i ≤ y → (Instr.sliceBound (.int k i) y code).run P w = .ok i.toNat w := fun x y k i code h h' => by
    simp [Instr.sliceBound, asIntOf, h, h']
  cases lo with
  | none =>
    subst hlo
    cases hi with
    | none =>
      subst hhi
      simp [vSlice, Instr.sliceAt, Instr.slice, run_underlying hu, Instr.sliceBounds]
    | some v =>
      obtain ⟨k, rfl⟩ := hhi
      simp [vSlice, Instr.sliceAt, Instr.slice, run_underlying hu, Instr.sliceBounds, key 0 s.size k b _ (by omega) h2]
  | some u =>
    obtain ⟨k', rfl⟩ := hlo
    cases hi with
    | none =>
      subst hhi
      simp [vSlice, Instr.sliceAt, Instr.slice, run_underlying hu, Instr.sliceBounds, key 0 s.size k' a _ h0 h1]
    | some v =>
      obtain ⟨k, rfl⟩ := hhi
      simp [vSlice, Instr.sliceAt, Instr.slice, run_underlying hu, Instr.sliceBounds, key 0 s.size k b _ (by omega) h2, key 0 b.toNat k' a _ h0 (by omega)]
theorem vSlice_lh {s : ByteArray} {k k' : IntKind} {a b : Int} : vSlice P T (.string s) (some (.int k a)) (some (.int k' b)) none w = slT (strB P T) s a b w (jSlice P T (.string s) (some (.int k a)) (some (.int k' b)) w) := by
  unfold slT jSlice
  cases hT : strB P T with
  | false => rfl
  | true =>
    simp only
    split
    · rename_i h; exact slice_str hT ⟨_, rfl⟩ ⟨_, rfl⟩ h.1 h.2.1 h.2.2
    · rfl
theorem vSlice_l {s : ByteArray} {k : IntKind} {a : Int} : vSlice P T (.string s) (some (.int k a)) none none w = slT (strB P T) s a s.size w (jSlice P T (.string s) (some (.int k a)) none w) := by
  unfold slT jSlice
  cases hT : strB P T with
  | false => rfl
  | true =>
    simp only
    split
    · rename_i h; exact slice_str hT ⟨_, rfl⟩ rfl h.1 h.2.1 h.2.2
    · rfl
theorem vSlice_h {s : ByteArray} {k : IntKind} {b : Int} : vSlice P T (.string s) none (some (.int k b)) none w = slT (strB P T) s 0 b w (jSlice P T (.string s) none (some (.int k b)) w) := by
  unfold slT jSlice
  cases hT : strB P T with
  | false => rfl
  | true =>
    simp only
    split
    · rename_i h; exact slice_str hT rfl ⟨_, rfl⟩ h.1 h.2.1 h.2.2
    · rfl
/-- The head of a slice. -/
def shT (x : Option Nat) (A : Option Addr) (c : Nat) (b : Int) (w : World) (j : Result Next) : Result Next := match x with
  | some _ => if 0 ≤ b ∧ b ≤ c then .ok (.value (.slice A b.toNat c)) w else j
  | none => j
theorem shT_some {A : Option Addr} {c : Nat} {b : Int} (h0 : 0 ≤ b) (h1 : b ≤ c) (s : Nat) (j : Result Next) : shT (some s) A c b w j = .ok (.value (.slice A b.toNat c)) w := by
  simp only [shT]; rw [if_pos ⟨h0, h1⟩]
theorem add_zero (a : Addr) : a.add 0 = a := if_pos rfl
theorem vSlice_sh {A : Option Addr} {n c : Nat} {k : IntKind} {b : Int} : vSlice P T (.slice A n c) none (some (.int k b)) none w = shT (eSz P T) A c b w (jSlice P T (.slice A n c) none (some (.int k b)) w) := by
  unfold shT jSlice
  cases hT : eSz P T with
  | none => rfl
  | some s =>
    simp only
    split
    · rename_i h
      unfold eSz at hT
      cases hd : P.underlying T with
      | none => rw [hd] at hT; cases hT
      | some d =>
        rw [hd] at hT
        cases d with
        | slice e =>
          simp only at hT
          cases hi : P.info? e with
          | none => rw [hi] at hT; cases hT
          | some inf =>
            have key : (Instr.sliceBound (.int k b) c .sliceAcap).run P w = .ok b.toNat w := by simp [Instr.sliceBound, asIntOf, h.1, h.2]
            have hA : (A.map fun a => a.add 0) = A := by cases A <;> simp [add_zero]
            simp [vSlice, Instr.sliceAt, Instr.slice, run_underlying hd, Instr.sliceBounds, key, sizeOf, typeInfo, hi, hA]
        | _ => cases hT
    · rfl
/-- Joining. -/
theorem vBin_adds {x y : Operand} {s t : ByteArray} (h : (s.size : Int) + t.size ≤ 9223372036854775807) : vBin P .add T x y (.string s) (.string t) w = .ok (.value (.string (s ++ t))) w := by
  have e : ¬ (IntKind.i64.max < (s.size : Int) + t.size) := by
    have : IntKind.i64.max = 9223372036854775807 := by decide
    omega
  simp [vBin, eqGuard, binOp, Op.stringOp, e]
  exact h
/-- Conversions to an integer. -/
def okT (P : Program) (T : TypeId) : Bool := (P.underlying T).isSome
def ikT (P : Program) (T : TypeId) : Option IntKind := match P.underlying T with
  | some (.int k) => some k
  | _ => none
def cvT (x : Bool) (y : Option IntKind) (n : Int) (w : World) (j : Result Next) : Result Next := match x, y with
  | true, some k => .ok (.value (.int k (k.wrap n))) w
  | _, _ => j
theorem cvT_ok (k : IntKind) (n : Int) (j : Result Next) : cvT true (some k) n w j = .ok (.value (.int k (k.wrap n))) w := nr rfl
def jConv (P : Program) (a b : TypeId) (v : Value) (w : World) : Result Next := vConvert P a b v w
theorem vConvert_int {a b : TypeId} {k' : IntKind} {n : Int} : vConvert P a b (.int k' n) w = cvT (okT P a) (ikT P b) n w (jConv P a b (.int k' n) w) := by
  unfold jConv
  cases h1 : okT P a with
  | false => rfl
  | true =>
    cases h2 : ikT P b with
    | none => rfl
    | some k =>
      rw [cvT_ok]
      unfold okT at h1
      unfold ikT at h2
      obtain ⟨d, hd⟩ := Option.isSome_iff_exists.1 h1
      cases hb : P.underlying b with
      | none => rw [hb] at h2; cases h2
      | some e =>
        rw [hb] at h2
        cases e with
        | int k2 =>
          simp only [Option.some.injEq] at h2
          subst h2
          simp [vConvert, convert, run_underlying hd, run_underlying hb, Conv.intToInt]
        | _ => cases h2
theorem wrap_i32 {n : Int} (h0 : -2147483648 ≤ n) (h1 : n ≤ 2147483647) : IntKind.i32.wrap n = n := IntWalk.i32_in n ⟨h0, h1⟩
theorem wrap_i64 {n : Int} (h0 : -9223372036854775808 ≤ n) (h1 : n ≤ 9223372036854775807) : IntKind.i64.wrap n = n := IntWalk.i64_in n ⟨h0, h1⟩
theorem wrap_u8 {n : Int} (h0 : 0 ≤ n) (h1 : n ≤ 255) : IntKind.u8.wrap n = n := IntWalk.u8_in n ⟨h0, h1⟩
theorem vBin_rem8 {x y : Operand} {a b : Int} (h0 : 0 ≤ a) (h1 : 0 < b) : vBin P .rem T x y (.int .u8 a) (.int .u8 b) w = .ok (.value (.int .u8 (a % b))) w := by
  simp [vBin, eqGuard, binOp, Op.intDiv, show ¬ b = 0 by omega, Int.tmod_eq_emod_of_nonneg h0]
theorem vBin_add8 {x y : Operand} {a b : Int} (h1 : 0 ≤ a + b) (h2 : a + b ≤ 255) : vBin P .add T x y (.int .u8 a) (.int .u8 b) w = .ok (.value (.int .u8 (a + b))) w := by
  simp [vBin, eqGuard, binOp, Op.intArith, IntWalk.u8_in _ ⟨h1, h2⟩]
/-- A range over a string. -/
def vRange (P : Program) (T : TypeId) (u : Value) (w : World) : Result Next := (do pure (.value (← Instr.range T u)) : Sem Next).run P w
theorem r_range (ty : TypeId) (σ : Sl) (x : Operand) : run1 P (.range T x) ty σ w = vRange P T (ev σ x) w := nr rfl
def jRange (P : Program) (T : TypeId) (u : Value) (w : World) : Result Next := vRange P T u w
theorem vRange_str {s : ByteArray} : vRange P T (.string s) w = ifB (strB P T) (.ok (.value (.pointer (some ⟨w.heap.size, 0, none⟩))) (w.alloc (.stringIter s 0))) (jRange P T (.string s) w) := by
  refine ifB_of (fun h => ?_) rfl
  have := run_range_string w T s (strB_is h)
  simp only [vRange, Sem.run_bind, this, Result.andThen, Sem.run_pure]
  rfl
def vNext (P : Program) (u : Value) (b : Bool) (ty : TypeId) (w : World) : Result Next := (do pure (.value (← Instr.next u b ty)) : Sem Next).run P w
theorem r_next (ty : TypeId) (σ : Sl) (x : Operand) (b : Bool) : run1 P (.next x b) ty σ w = vNext P (ev σ x) b ty w := nr rfl
theorem vNext_some {s : ByteArray} {pos g : Nat} {ty : TypeId} (hg : w.heap[g]? = some (.stringIter s pos)) (h : pos < s.size) :
    vNext P (.pointer (some ⟨g, 0, none⟩)) true ty w = .ok (.value (.tuple #[.bool true, .int .i64 pos, .int .i32 (Utf8.decode s pos).1])) (setO w g (.stringIter s (pos + (Utf8.decode s pos).2))) := by
  simp [vNext, Instr.next, getObj, setObj, Sem.run_bind, Sem.run, hg, h, goInt, setO]
theorem vNext_end {s : ByteArray} {pos g : Nat} {ty : TypeId} (hg : w.heap[g]? = some (.stringIter s pos)) (h : ¬ pos < s.size) :
    vNext P (.pointer (some ⟨g, 0, none⟩)) true ty w = .ok (.value (.tuple #[.bool false])) w := by
  simp [vNext, Instr.next, getObj, Sem.run_bind, Sem.run, hg, h]
end
end Go.Proofs.YtbdkggnajipdhaaGreatDoor
/- The engine's rules for unsigned integers, shifts, bits; functions that hold captured values. -/
namespace Go.Proofs.YtbdkggnajipdhaaGreatDoor
open Go.RowKit
section
variable {P : Program} {T : TypeId} {w : World} {x y : Operand} {a b : Int}
theorem wrap_u64 {n : Int} (h0 : 0 ≤ n) (h1 : n ≤ 18446744073709551615) : IntKind.u64.wrap n = n := IntWalk.u64_in n ⟨h0, h1⟩
theorem vBin_addU (h1 : 0 ≤ a + b) (h2 : a + b ≤ 18446744073709551615) : vBin P .add T x y (.int .u64 a) (.int .u64 b) w = .ok (.value (.int .u64 (a + b))) w := by
  simp [vBin, eqGuard, binOp, Op.intArith, IntWalk.u64_in _ ⟨h1, h2⟩]
theorem vBin_subU (h1 : 0 ≤ a - b) (h2 : a - b ≤ 18446744073709551615) : vBin P .sub T x y (.int .u64 a) (.int .u64 b) w = .ok (.value (.int .u64 (a - b))) w := by
  simp [vBin, eqGuard, binOp, Op.intArith, IntWalk.u64_in _ ⟨h1, h2⟩]
theorem vBin_mulU (h1 : 0 ≤ a * b) (h2 : a * b ≤ 18446744073709551615) : vBin P .mul T x y (.int .u64 a) (.int .u64 b) w = .ok (.value (.int .u64 (a * b))) w := by
  simp [vBin, eqGuard, binOp, Op.intArith, IntWalk.u64_in _ ⟨h1, h2⟩]
theorem vBin_quoU (h0 : 0 ≤ a) (h1 : 0 < b) (h2 : a ≤ 18446744073709551615) : vBin P .quo T x y (.int .u64 a) (.int .u64 b) w = .ok (.value (.int .u64 (a / b))) w := by
  simp [vBin, eqGuard, binOp, Op.intDiv, show ¬ b = 0 by omega, IntWalk.u64_quo a b ⟨h0, h2, h1⟩]
theorem vBin_remU (h0 : 0 ≤ a) (h1 : 0 < b) : vBin P .rem T x y (.int .u64 a) (.int .u64 b) w = .ok (.value (.int .u64 (a % b))) w := by
  simp [vBin, eqGuard, binOp, Op.intDiv, show ¬ b = 0 by omega, Int.tmod_eq_emod_of_nonneg h0]
theorem vBin_sub8 (h1 : 0 ≤ a - b) (h2 : a - b ≤ 255) : vBin P .sub T x y (.int .u8 a) (.int .u8 b) w = .ok (.value (.int .u8 (a - b))) w := by
  simp [vBin, eqGuard, binOp, Op.intArith, IntWalk.u8_in _ ⟨h1, h2⟩]
theorem vBin_quo8 (h0 : 0 ≤ a) (h1 : 0 < b) (h2 : a ≤ 255) : vBin P .quo T x y (.int .u8 a) (.int .u8 b) w = .ok (.value (.int .u8 (a / b))) w := by
  simp [vBin, eqGuard, binOp, Op.intDiv, show ¬ b = 0 by omega, IntWalk.u8_quo a b ⟨h0, h2, h1⟩]
theorem vBin_shl4U {k : IntKind} (h0 : 0 ≤ a) (h1 : a ≤ 1152921504606846975) : vBin P .shl T x y (.int .u64 a) (.int k 4) w = .ok (.value (.int .u64 (a * 16))) w := by
  have e : IntKind.u64.wrap (a * 2 ^ (min (4 : Int).toNat IntKind.u64.bits)) = a * 16 := IntWalk.u64_in _ (by rw [show (2 : Int) ^ (min (4 : Int).toNat IntKind.u64.bits) = 16 by decide]; omega)
  simp only [vBin, eqGuard, binOp, Op.shift]
  first | (simp; done) | (simp; exact e)
theorem vBin_shl48 {k : IntKind} (h0 : 0 ≤ a) (h1 : a ≤ 15) : vBin P .shl T x y (.int .u8 a) (.int k 4) w = .ok (.value (.int .u8 (a * 16))) w := by
  have e : IntKind.u8.wrap (a * 2 ^ (min (4 : Int).toNat IntKind.u8.bits)) = a * 16 := IntWalk.u8_in _ (by rw [show (2 : Int) ^ (min (4 : Int).toNat IntKind.u8.bits) = 16 by decide]; omega)
  simp only [vBin, eqGuard, binOp, Op.shift]
  first | (simp; done) | (simp; exact e)
theorem vBin_shr48 {k : IntKind} (_ : 0 ≤ a) : vBin P .shr T x y (.int .u8 a) (.int k 4) w = .ok (.value (.int .u8 (a / 16))) w := by
  have e : a.fdiv (2 ^ (min (4 : Int).toNat IntKind.u8.bits)) = a / 16 := by
    rw [show (2 : Int) ^ (min (4 : Int).toNat IntKind.u8.bits) = 16 by decide, Int.fdiv_eq_ediv_of_nonneg _ (by decide)]
  simp only [vBin, eqGuard, binOp, Op.shift]
  first | (simp; done) | (simp; exact e)
theorem vBin_shrU {k : IntKind} (h0 : 0 ≤ b) (h1 : b < 64) : vBin P .shr T x y (.int .u64 a) (.int k b) w = .ok (.value (.int .u64 (a / 2 ^ b.toNat))) w := by
  have e : a.fdiv (2 ^ (min b.toNat IntKind.u64.bits)) = a / 2 ^ b.toNat := by
    rw [show min b.toNat IntKind.u64.bits = b.toNat from Nat.min_eq_left (by have : IntKind.u64.bits = 64 := by decide
                                                                             omega)]
    exact Int.fdiv_eq_ediv_of_nonneg _ (Int.le_of_lt (Int.pow_pos (by decide)))
  simp [vBin, eqGuard, binOp, Op.shift, show ¬ b < 0 by omega]
  first | done | exact e
theorem bits_and15 (n : Nat) (h0 : 0 ≤ a) (h1 : a < 2 ^ n) (hn : 16 ≤ 2 ^ n) : ((BitVec.ofInt n a &&& BitVec.ofInt n 15).toNat : Int) = a % 16 := by
  rw [BitVec.toNat_and, BitVec.toNat_ofInt, BitVec.toNat_ofInt]
  have e1 : (a % ((2 ^ n : Nat) : Int)).toNat = a.toNat := by rw [Int.emod_eq_of_lt h0 (by push_cast; exact h1)]
  have e2 : ((15 : Int) % ((2 ^ n : Nat) : Int)).toNat = 15 := by rw [Int.emod_eq_of_lt (by decide) (by omega)]; rfl
  rw [e1, e2, show (15 : Nat) = 2 ^ 4 - 1 by decide, Nat.and_two_pow_sub_one_eq_mod]
  omega
theorem bits_or16 (n : Nat) (h0 : 0 ≤ a) (h1 : a % 16 = 0) (h2 : 0 ≤ b) (h3 : b < 16) (ha : a + 16 ≤ 2 ^ n) : ((BitVec.ofInt n a ||| BitVec.ofInt n b).toNat : Int) = a + b := by
  rw [BitVec.toNat_or, BitVec.toNat_ofInt, BitVec.toNat_ofInt]
  have e1 : (a % ((2 ^ n : Nat) : Int)).toNat = 2 ^ 4 * (a.toNat / 16) := by rw [Int.emod_eq_of_lt h0 (by push_cast; omega)]; omega
  have e2 : (b % ((2 ^ n : Nat) : Int)).toNat = b.toNat := by rw [Int.emod_eq_of_lt h2 (by push_cast; omega)]
  rw [e1, e2, ← Nat.two_pow_add_eq_or_of_lt (by omega)]
  omega
theorem vBin_and15U (h0 : 0 ≤ a) (h1 : a ≤ 18446744073709551615) : vBin P .and T x y (.int .u64 a) (.int .u64 15) w = .ok (.value (.int .u64 (a % 16))) w := by
  have e := bits_and15 (a := a) IntKind.u64.bits h0 (by rw [show (2 : Int) ^ IntKind.u64.bits = 18446744073709551616 by decide]; omega) (by decide)
  have e2 : IntKind.u64.wrap (a % 16) = a % 16 := IntWalk.u64_in _ (by omega)
  simp [vBin, eqGuard, binOp, Op.intBits, -BitVec.toNat_and, -BitVec.toNat_or, -BitVec.toNat_ofInt, -BitVec.ofInt_ofNat, e, e2]
theorem vBin_and158 (h0 : 0 ≤ a) (h1 : a ≤ 255) : vBin P .and T x y (.int .u8 a) (.int .u8 15) w = .ok (.value (.int .u8 (a % 16))) w := by
  have e := bits_and15 (a := a) IntKind.u8.bits h0 (by rw [show (2 : Int) ^ IntKind.u8.bits = 256 by decide]; omega) (by decide)
  have e2 : IntKind.u8.wrap (a % 16) = a % 16 := IntWalk.u8_in _ (by omega)
  simp [vBin, eqGuard, binOp, Op.intBits, -BitVec.toNat_and, -BitVec.toNat_or, -BitVec.toNat_ofInt, -BitVec.ofInt_ofNat, e, e2]
theorem vBin_or16U (h0 : 0 ≤ a) (h1 : a % 16 = 0) (h2 : 0 ≤ b) (h3 : b < 16) (h4 : a ≤ 18446744073709551600) : vBin P .or T x y (.int .u64 a) (.int .u64 b) w = .ok (.value (.int .u64 (a + b))) w := by
  have e := bits_or16 (a := a) (b := b) IntKind.u64.bits h0 h1 h2 h3 (by rw [show (2 : Int) ^ IntKind.u64.bits = 18446744073709551616 by decide]; omega)
  have e2 : IntKind.u64.wrap (a + b) = a + b := IntWalk.u64_in _ (by omega)
  simp [vBin, eqGuard, binOp, Op.intBits, -BitVec.toNat_and, -BitVec.toNat_or, -BitVec.toNat_ofInt, -BitVec.ofInt_ofNat, e, e2]
theorem vBin_or168 (h0 : 0 ≤ a) (h1 : a % 16 = 0) (h2 : 0 ≤ b) (h3 : b < 16) (h4 : a ≤ 240) : vBin P .or T x y (.int .u8 a) (.int .u8 b) w = .ok (.value (.int .u8 (a + b))) w := by
  have e := bits_or16 (a := a) (b := b) IntKind.u8.bits h0 h1 h2 h3 (by rw [show (2 : Int) ^ IntKind.u8.bits = 256 by decide]; omega)
  have e2 : IntKind.u8.wrap (a + b) = a + b := IntWalk.u8_in _ (by omega)
  simp [vBin, eqGuard, binOp, Op.intBits, -BitVec.toNat_and, -BitVec.toNat_or, -BitVec.toNat_ofInt, -BitVec.ofInt_ofNat, e, e2]
theorem vUn_negI (h1 : -9223372036854775808 ≤ -a) (h2 : -a ≤ 9223372036854775807) : vUn P .neg (.int .i64 a) w = .ok (.value (.int .i64 (-a))) w := by
  simp [vUn, Op.unary, Op.intArith, IntWalk.i64_in _ ⟨h1, h2⟩]
/-- A function with the values that it holds. -/
theorem r_makeFunc (ty : TypeId) (σ : Sl) (f : Fn) (xs ys : List Operand) : run1 P (.makeFunc f xs.toArray ys.toArray) ty σ w = .ok (.value (.func f (xs.map (ev σ)).toArray (ys.map (ev σ)).toArray)) w := by
  simp [run1, execOp, Instr.makeFunc, ev]
theorem vCallv_caps {f : FuncId} {caps args : List Value} : vCallv P (.func (.func f) #[] caps.toArray) args.toArray w = vCall P f (args ++ caps).toArray w := by
  simp [vCallv, Deferred.ofValue, invoke, vCall]
/-- The lesser of two. -/
def vMin (P : Program) (u v : Value) (w : World) : Result Next := (do pure (.value (← Builtin.min2 u v)) : Sem Next).run P w
theorem r_min (ty : TypeId) (σ : Sl) (ts : Array TypeId) (a b : Operand) : run1 P (.call ⟨.builtin .min, #[a, b], ts⟩) ty σ w = vMin P (ev σ a) (ev σ b) w := by
  simp [run1, execOp, resolve, invoke, builtin, vMin, Builtin.min_]
theorem vMin_int {k k' : IntKind} : vMin P (.int k a) (.int k' b) w = .ok (.value (.int k (min a b))) w := by
  have e : (if b < a then b else a) = min a b := by omega
  simp [vMin, Builtin.min2, e]
theorem ba_lit (l : List UInt8) : (ByteArray.mk l.toArray).size = l.length := rfl
end
end Go.Proofs.YtbdkggnajipdhaaGreatDoor
