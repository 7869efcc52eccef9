/- Texts laid one behind the other: Build, Str, Bit, Types. Each says at its head what it proves. -/
import Derived.Test.YtjaeiiiniohloaaDoorY01
import Derived.Maps.AppendAt
import Derived.Laws.RangeString
import Derived.Laws.Slices
set_option linter.unusedSimpArgs false
/- The engine's rules for struct literals, slice literals, make, append. -/
namespace Go.Proofs.YtjaeiiiniohloaaDoor
open Go.RowKit
section
variable {P : Program} {T : TypeId} {w : World}
/-- Cells laid over a list from place k on. -/
def ovw : List Value → Nat → List Value → List Value
  | cs, 0, [] => cs
  | [], _, _ => []
  | _ :: cs, 0, v :: vs => v :: ovw cs 0 vs
  | c :: cs, k + 1, vs => c :: ovw cs k vs
theorem ovw_nil : ∀ (cs : List Value) (k : Nat), ovw cs k [] = cs
  | [], 0 => rfl
  | [], _ + 1 => rfl
  | _ :: _, 0 => rfl
  | c :: cs, k + 1 => by rw [ovw, ovw_nil cs k]
theorem ovw_length : ∀ (cs : List Value) (k : Nat) (vs : List Value), (ovw cs k vs).length = cs.length
  | [], 0, [] => rfl
  | [], 0, _ :: _ => rfl
  | [], _ + 1, _ => rfl
  | _ :: _, 0, [] => rfl
  | _ :: cs, 0, v :: vs => by rw [ovw, List.length_cons, List.length_cons, ovw_length cs 0 vs]
  | c :: cs, k + 1, vs => by rw [ovw, List.length_cons, List.length_cons, ovw_length cs k vs]
theorem ovw_cons : ∀ (cs : List Value) (k : Nat) (v : Value) (vs : List Value), ovw cs k (v :: vs) = ovw (cs.set k v) (k + 1) vs
  | [], 0, v, vs => by simp [ovw]
  | [], k + 1, v, vs => by simp [ovw]
  | c :: cs, 0, v, vs => by simp [ovw]
  | c :: cs, k + 1, v, vs => by simp only [List.set_cons_succ, ovw]; rw [ovw_cons cs k v vs]
theorem foldl_ovw : ∀ (vs : List Value) (j off : Nat) (cells : Array Value), ((vs.zipIdx j).foldl (fun cs (p : Value × Nat) => cs.setIfInBounds (off + p.2) p.1) cells).toList = ovw cells.toList (off + j) vs
  | [], j, off, cells => by simp [ovw_nil]
  | v :: vs, j, off, cells => by
    rw [List.zipIdx_cons, List.foldl_cons, foldl_ovw vs (j + 1) off, ovw_cons, Array.toList_setIfInBounds]; rfl
def fillL (pl : Nat → Option (Nat × Nat)) : List Value → List (Nat × Value) → Option (List Value)
  | cs, [] => some cs
  | cs, (i, v) :: r => match pl i with
    | none => none
    | some (off, size) => if v.cells.size = size ∧ off + size ≤ cs.length then fillL pl (ovw cs off v.cells.toList) r else none
theorem fill_is (pl : Nat → Option (Nat × Nat)) : ∀ (l : List (Nat × Value)) (cells : Array Value) (cs : List Value), fillL pl cells.toList l = some cs → Instr.fill pl cells l = some cs.toArray
  | [], cells, cs, h => by
    simp only [fillL, Option.some.injEq] at h
    subst h; simp [Instr.fill]
  | (i, v) :: r, cells, cs, h => by
    rw [fillL] at h
    rw [Instr.fill]
    cases hp : pl i with
    | none => rw [hp] at h; cases h
    | some q =>
      obtain ⟨off, size⟩ := q
      rw [hp] at h
      simp only at h
      by_cases hc : v.cells.size = size ∧ off + size ≤ cells.toList.length
      · rw [if_pos hc] at h
        obtain ⟨h1, h2⟩ := hc
        have h3 : ¬ (v.cells.size ≠ size || decide (off + v.cells.size > cells.size)) = true := by
          simp only [ne_eq, h1, Bool.or_eq_true, decide_eq_true_eq, not_true, false_or, decide_not, decide_true, Bool.not_true, Bool.false_eq_true]
          simp at h2; omega
        simp only [h3]
        refine fill_is pl r _ cs ?_
        rw [← h]
        congr 1
        have := foldl_ovw v.cells.toList 0 off cells
        simp only [Nat.add_zero] at this
        rw [← this, ← Array.foldl_toList]
        congr 1
        simp
      · rw [if_neg hc] at h; cases h
def vBuild (P : Program) (T : TypeId) (l : List (Nat × Value)) (w : World) : Result Next := (do pure (.value (← Instr.build T l.toArray)) : Sem Next).run P w
theorem r_build (ty : TypeId) (σ : Sl) (l : List (Nat × Operand)) : run1 P (.build T l.toArray) ty σ w = vBuild P T (l.map fun p => (p.1, ev σ p.2)) w := by
  simp [run1, execOp, vBuild]
/-- The places of a struct's fields: offset and size of each. -/
def plT (P : Program) (T : TypeId) : Option (List (Nat × Nat)) := match P.underlying T with
  | some (.struct fs) => fs.toList.mapM fun f => (P.info? f.type).map fun i => (f.offset, i.size)
  | _ => none
def bldT (z : Option Value) (pl : Option (List (Nat × Nat))) (l : List (Nat × Value)) (w : World) (j : Result Next) : Result Next := match z, pl with
  | some (.agg zs), some pl => match fillL (fun i => pl[i]?) zs.toList l with
    | some cs => .ok (.value (.agg cs.toArray)) w
    | none => j
  | _, _ => j
theorem bldT_some {zs : List Value} {pl : List (Nat × Nat)} {l : List (Nat × Value)} (j : Result Next) : bldT (some (.agg zs.toArray)) (some pl) l w j = match fillL (fun i => pl[i]?) zs l with
    | some cs => .ok (.value (.agg cs.toArray)) w
    | none => j := nr rfl
def jBuild (P : Program) (T : TypeId) (l : List (Nat × Value)) (w : World) : Result Next := vBuild P T l w
theorem run_mapM_places (fs : List Field) (pl : List (Nat × Nat)) (h : fs.mapM (fun f => (P.info? f.type).map fun i => (f.offset, i.size)) = some pl) :
    (fs.mapM (fun f => Prod.mk f.offset <$> sizeOf f.type)).run P w = .ok pl w := by
  induction fs generalizing pl with
  | nil => simp only [List.mapM_nil] at h ⊢; injection h with h; subst h; rfl
  | cons f r ih =>
    rw [List.mapM_cons] at h ⊢
    cases hi : P.info? f.type with
    | none => rw [hi] at h; cases h
    | some i =>
      rw [hi] at h
      cases hr : r.mapM (fun f => (P.info? f.type).map fun i => (f.offset, i.size)) with
      | none => rw [hr] at h; cases h
      | some pr =>
        rw [hr] at h
        injection h with h
        subst h
        have hs : (sizeOf f.type).run P w = .ok i.size w := by simp [sizeOf, typeInfo, hi]
        simp [Sem.run_bind, hs, ih pr hr]
theorem vBuild_at {l : List (Nat × Value)} : vBuild P T l w = bldT (zeroV P T) (plT P T) l w (jBuild P T l w) := by
  unfold jBuild bldT
  split
  · rename_i zs pl hz hp
    split
    · rename_i cs hc
      unfold zeroV at hz
      cases hq : P.info? T with
      | none => rw [hq] at hz; cases hz
      | some inf =>
        rw [hq] at hz
        have hz' : inf.zero = some (.agg zs) := hz
        unfold plT at hp
        cases hd : P.underlying T with
        | none => rw [hd] at hp; cases hp
        | some d =>
          rw [hd] at hp
          cases d with
          | struct fs =>
            have h1 := run_mapM_places (P := P) (w := w) fs.toList pl hp
            have h2 := fill_is (fun i => pl[i]?) l zs cs hc
            have h3 : Instr.fill (fun i => pl.toArray[i]?) zs l = some cs.toArray := by rw [← h2]; congr 1; funext i; simp
            simp [vBuild, Instr.build, Sem.run_bind, zeroValue, typeInfo, hq, hz', run_underlying hd w, Array.mapM_eq_mapM_toList, h1, h2, Value.cells]
          | _ => cases hp
    · rfl
  · rfl
/-- A slice literal with all its elements, or none. -/
def catL (n : Nat) : List Value → Option (List Value)
  | [] => some []
  | v :: r => if v.cells.size = n then (catL n r).map (v.cells.toList ++ ·) else none
def sliceI (P : Program) (T : TypeId) : Option (TypeId × Nat × Nat) := match P.underlying T with
  | some (.slice e) => (P.info? e).bind fun i => i.zero.bind fun z => if z.cells.size = i.size ∧ 0 < i.size then some (e, i.size, i.bytes) else none
  | _ => none
theorem sliceI_is {e : TypeId} {size bytes : Nat} (h : sliceI P T = some (e, size, bytes)) : ∃ inf z, P.underlying T = some (.slice e) ∧ P.info? e = some inf ∧ inf.zero = some z ∧ inf.size = size ∧ inf.bytes = bytes ∧ z.cells.size = size ∧ 0 < size := by
  unfold sliceI at h
  cases hd : P.underlying T with
  | none => rw [hd] at h; cases h
  | some d =>
    rw [hd] at h
    cases d with
    | slice e' =>
      cases hi : P.info? e' with
      | none => simp [hi] at h
      | some inf =>
        cases hz : inf.zero with
        | none => simp [hi, hz] at h
        | some z =>
          simp only [hi, hz, Option.bind_some] at h
          split at h
          · rename_i hc
            simp only [Option.some.injEq, Prod.mk.injEq] at h
            obtain ⟨rfl, rfl, rfl⟩ := h
            exact ⟨inf, z, rfl, hi, hz, rfl, rfl, hc.1, hc.2⟩
          · cases h
    | _ => cases h
theorem ovw_cat : ∀ (pre cs vs : List Value), vs.length ≤ cs.length → ovw (pre ++ cs) pre.length vs = pre ++ vs ++ cs.drop vs.length
  | [], cs, [], _ => by simp [ovw_nil]
  | [], [], _ :: _, h => by simp at h
  | [], c :: cs, v :: vs, h => by
    have := ovw_cat [] cs vs (by simpa using h)
    simp only [List.nil_append, List.length_nil, ovw] at this ⊢
    rw [this]; rfl
  | p :: pre, cs, vs, h => by
    have := ovw_cat pre cs vs h
    simp only [List.cons_append, List.length_cons, ovw]
    rw [this]
theorem fillL_cat (n : Nat) (hn : 0 < n) : ∀ (l : List Value) (i : Nat) (pre cs : List Value) (out : List Value), pre.length = i * n → cs.length = l.length * n → catL n l = some out →
    fillL (fun i => some (i * n, n)) (pre ++ cs) ((l.zipIdx i).map fun p => (p.2, p.1)) = some (pre ++ out)
  | [], i, pre, cs, out, h1, h2, h3 => by
    simp only [catL, Option.some.injEq] at h3
    subst h3
    have : cs = [] := List.eq_nil_of_length_eq_zero (by simpa using h2)
    subst this
    simp [fillL]
  | v :: l, i, pre, cs, out, h1, h2, h3 => by
    rw [catL] at h3
    split at h3
    · rename_i hv
      cases hr : catL n l with
      | none => rw [hr] at h3; cases h3
      | some o2 =>
        rw [hr] at h3
        simp only [Option.map_some, Option.some.injEq] at h3
        subst h3
        simp only [List.zipIdx_cons, List.map_cons, fillL]
        have hlen : n ≤ cs.length := by rw [h2, List.length_cons, Nat.succ_mul]; omega
        rw [if_pos ⟨hv, by rw [List.length_append]; omega⟩]
        have e1 : ovw (pre ++ cs) (i * n) v.cells.toList = (pre ++ v.cells.toList) ++ cs.drop n := by
          have := ovw_cat pre cs v.cells.toList (by simpa [hv] using hlen)
          rw [h1] at this
          rw [this]; simp [hv]
        rw [e1, fillL_cat n hn l (i + 1) (pre ++ v.cells.toList) (cs.drop n) o2 (by simp [h1, hv, Nat.succ_mul]) (by rw [List.length_drop, h2, List.length_cons, Nat.succ_mul]; omega) hr]
        simp
    · cases h3
def vBuildSlice (P : Program) (T : TypeId) (n : Nat) (l : List (Nat × Value)) (w : World) : Result Next := (do pure (.value (← Instr.buildSlice T n l.toArray)) : Sem Next).run P w
theorem r_buildSlice (ty : TypeId) (σ : Sl) (n : Nat) (l : List (Nat × Operand)) : run1 P (.buildSlice T n l.toArray) ty σ w = vBuildSlice P T n (l.map fun p => (p.1, ev σ p.2)) w := by
  simp [run1, execOp, vBuildSlice]
/-- l is numbered 0, 1, .. -/
def numb : Nat → List (Nat × Value) → Option (List Value)
  | _, [] => some []
  | i, (k, v) :: r => if k = i then (numb (i + 1) r).map (v :: ·) else none
theorem numb_is : ∀ (l : List (Nat × Value)) (i : Nat) (vs : List Value), numb i l = some vs → l = (vs.zipIdx i).map fun p => (p.2, p.1)
  | [], i, vs, h => by simp only [numb, Option.some.injEq] at h; subst h; rfl
  | (k, v) :: r, i, vs, h => by
    rw [numb] at h
    split at h
    · rename_i hk
      subst hk
      cases hr : numb (k + 1) r with
      | none => rw [hr] at h; cases h
      | some o =>
        rw [hr] at h
        simp only [Option.map_some, Option.some.injEq] at h
        subst h
        rw [numb_is r (k + 1) o hr]; rfl
    · cases h
def bslT (I : Option (TypeId × Nat × Nat)) (n : Nat) (l : List (Nat × Value)) (w : World) (j : Result Next) : Result Next := match I with
  | some (e, size, _) => match numb 0 l with
    | some vs => match catL size vs with
      | some cs => if vs.length = n ∧ n * size ≤ 1000000 then .ok (.value (.slice (some ⟨w.heap.size, 0, none⟩) n n)) (w.alloc (.cells cs.toArray e)) else j
      | none => j
    | none => j
  | none => j
def jBuildSlice (P : Program) (T : TypeId) (n : Nat) (l : List (Nat × Value)) (w : World) : Result Next := vBuildSlice P T n l w
theorem bslT_some (e : TypeId) (size bytes n : Nat) (l : List (Nat × Value)) (j : Result Next) : bslT (some (e, size, bytes)) n l w j = match numb 0 l with
    | some vs => match catL size vs with
      | some cs => if vs.length = n ∧ n * size ≤ 1000000 then .ok (.value (.slice (some ⟨w.heap.size, 0, none⟩) n n)) (w.alloc (.cells cs.toArray e)) else j
      | none => j
    | none => j := nr rfl
theorem vBuildSlice_at {n : Nat} {l : List (Nat × Value)} : vBuildSlice P T n l w = bslT (sliceI P T) n l w (jBuildSlice P T n l w) := by
  unfold jBuildSlice
  cases hI : sliceI P T with
  | none => rfl
  | some q =>
    obtain ⟨e, size, bytes⟩ := q
    rw [bslT_some]
    split
    · rename_i vs hv
      split
      · rename_i cs hc
        split
        · rename_i hn
          obtain ⟨hn, hn2⟩ := hn
          obtain ⟨inf, z, hT, hi, hz, rfl, rfl, hzs, hpos⟩ := sliceI_is hI
          have hl := numb_is l 0 vs hv
          have hbig : ¬ (n * inf.size > 2 ^ 24) := by omega
          have hfill : ∀ zs : Array Value, zs.size = n * inf.size → Instr.fill (fun i => some (i * inf.size, inf.size)) zs l = some cs.toArray := fun zs hzs' => by
            refine fill_is _ l zs cs ?_
            have := fillL_cat inf.size hpos vs 0 [] zs.toList cs (by simp) (by simp [hzs', hn]) hc
            rw [hl]
            simpa using this
          by_cases h0 : n = 0
          · subst h0
            simp only [vBuildSlice, Instr.buildSlice, Sem.run_bind, run_underlying hT w, Result.andThen, sizeOf, typeInfo, run_program, hi, Sem.run_pure]
            simp [newRow, newObj, Sem.run]
            rw [hfill _ (by simp)]
            simp [Sem.run]
          · have hne : ¬ (n * inf.size = 0) := by
              have := Nat.mul_pos (Nat.pos_of_ne_zero h0) hpos
              omega
            have := hfill ((Array.range (n * inf.size)).map (z.cells[· % z.cells.size]!)) (by simp)
            simp only [vBuildSlice, Instr.buildSlice, Sem.run_bind, run_underlying hT w, Result.andThen, sizeOf, typeInfo, run_program, hi, Sem.run_pure, hbig, if_false, hne, zeroValue, hz, this]
            simp [newRow, newObj, Sem.run]
        · rfl
      · rfl
    · rfl
/-- make([]T, n). -/
def vMakeSlice (P : Program) (T : TypeId) (l c : Value) (w : World) : Result Next := (do pure (.value (← Instr.makeSlice T l c)) : Sem Next).run P w
theorem r_makeSlice (ty : TypeId) (σ : Sl) (l c : Operand) : run1 P (.makeSlice T l c) ty σ w = vMakeSlice P T (ev σ l) (ev σ c) w := nr rfl
theorem vMakeSlice_at {e : TypeId} {size bytes : Nat} {z : Value} {n : Int} (hI : sliceI P T = some (e, size, bytes)) (hz : zeroV P e = some z) (h0 : 0 ≤ n) (h1 : bytes * n ≤ 281474976710656) (h2 : n ≤ 9223372036854775807) :
    vMakeSlice P T (.int .i64 n) (.int .i64 n) w = .ok (.value (.slice (some ⟨w.heap.size, 0, none⟩) n.toNat n.toNat)) (w.alloc (.cells (madeCells z.cells (n.toNat * size)) e)) := by
  obtain ⟨inf, z', hT, hi, hz', rfl, rfl, hzs, hpos⟩ := sliceI_is hI
  have : z' = z := by unfold zeroV at hz; rw [hi] at hz; rw [show (some inf).bind (·.zero) = inf.zero from rfl, hz'] at hz; injection hz
  subst this
  have hr := run_make (P := P) w T e inf z' hT hi hz' .i64 .i64 n n h0 (Int.le_refl _) h1 h2
  simp [vMakeSlice, hr]
theorem flat_at (z : List Value) : ∀ (n i : Nat), i < n * z.length → ((List.replicate n z).flatten)[i]? = z[i % z.length]?
  | 0, i, h => by simp at h
  | n + 1, i, h => by
    rw [List.replicate_succ, List.flatten_cons]
    by_cases hi : i < z.length
    · rw [List.getElem?_append_left hi, Nat.mod_eq_of_lt hi]
    · rw [List.getElem?_append_right (by omega), flat_at z n (i - z.length) (by rw [Nat.succ_mul] at h; omega), Nat.mod_eq_sub_mod (by omega : i ≥ z.length)]
theorem madeCells_flat (z : List Value) (n : Nat) (hz : 0 < z.length) : (madeCells z.toArray (n * z.length)).toList = (List.replicate n z).flatten := by
  apply List.ext_getElem?
  intro i
  by_cases hi : i < n * z.length
  · rw [flat_at z n i hi]
    have hm := Nat.mod_lt i hz
    simp [madeCells, hi, List.getElem?_eq_getElem hm]
  · rw [List.getElem?_eq_none (by simpa [madeCells] using Nat.le_of_not_lt hi), List.getElem?_eq_none (by simpa using Nat.le_of_not_lt hi)]
/-- append. -/
def vAppend (P : Program) (T T2 ty : TypeId) (s x : Value) (w : World) : Result Next := (do pure (.value (← Builtin.append_ #[T, T2] ty #[s, x])) : Sem Next).run P w
theorem r_append (ty T2 : TypeId) (σ : Sl) (s x : Operand) : run1 P (.call ⟨.builtin .append, #[s, x], #[T, T2]⟩) ty σ w = vAppend P T T2 ty (ev σ s) (ev σ x) w := by simp [run1, execOp, resolve, invoke, builtin, vAppend]
theorem vAppend_own {e ty : TypeId} {size bytes base n m c b o : Nat} {v : Value} {xs news : List Value} (hI : sliceI P T = some (e, size, bytes)) (hown : w.ownsRow base e size v n xs)
    (hl : news.length = m * size) (hnews : ∀ j u, news[j]? = some u → w.cell? ⟨b, o + j, none⟩ = some u) (h1 : ∀ u ∈ news, u.oneCell' = true)
    (h63 : n + m ≤ 1000000000) (hbytes : bytes ≤ 10000) (hbase : base ≤ w.heap.size) :
    ∃ A c' w', vAppend P T T ty v (.slice (some ⟨b, o, none⟩) m c) w = .ok (.value (.slice A (n + m) c')) w' ∧ w'.ownsRow base e size (.slice A (n + m) c') (n + m) (xs ++ news) ∧ w.grownBy w' v.ownBlock ∧
      ((Value.slice A (n + m) c').ownBlock = v.ownBlock ∨ (Value.slice A (n + m) c').ownBlock = some w.heap.size) := by
  obtain ⟨inf, z, hT, hi, hz, rfl, rfl, hzs, hpos⟩ := sliceI_is hI
  have hb : (n + m) * inf.bytes ≤ 140737488355328 := Nat.le_trans (Nat.mul_le_mul h63 hbytes) (by decide)
  obtain ⟨v', w', hr, ho, hg, _, hbk⟩ := run_append_own_at (P := P) w base T ty e inf z inf.size inf.bytes hT hi hz rfl rfl hzs hpos v n xs hown ⟨b, o, none⟩ m c news hl
    (fun j u hu => by rw [addr_add]; exact hnews j u hu) h1 (by unfold maxLen; omega) hb hbase
  have hv : ∃ A c', v' = .slice A (n + m) c' := by
    rcases ho.2 with ⟨rfl, h0⟩ | ⟨g, cap, cur, rfl, _⟩
    · exact ⟨none, 0, by rw [h0]⟩
    · exact ⟨_, _, rfl⟩
  obtain ⟨A, c', rfl⟩ := hv
  exact ⟨A, c', w', by simp [vAppend, hr], ho, hg, hbk⟩
end
end Go.Proofs.YtjaeiiiniohloaaDoor
/- The engine's rules for strings: cutting, joining, ranges; conversions; calls of a value; small kinds of integers. -/
namespace Go.Proofs.YtjaeiiiniohloaaDoor
open Go.RowKit
section
variable {P : Program} {T : TypeId} {w : World}
/-- A call of a function that lies in a slot. -/
def vCallv (P : Program) (v : Value) (args : Array Value) (w : World) : Result Next := (do let d ← Deferred.ofValue v args; invoke d.target d.args : Sem Next).run P w
theorem r_callv (ty : TypeId) (σ : Sl) (t : Nat) (xs : List Operand) (ts : Array TypeId) : run1 P (.call ⟨.value (.tmp t), xs.toArray, ts⟩) ty σ w = vCallv P (σ t) (xs.map (ev σ)).toArray w := by
  simp [run1, execOp, resolve, ev, vCallv]
theorem vCallv_func {f : FuncId} {args : Array Value} : vCallv P (.func (.func f) #[] #[]) args w = vCall P f args w := by
  simp [vCallv, Deferred.ofValue, invoke, vCall]
/-- Cutting. -/
def vSlice (P : Program) (T : TypeId) (x : Value) (lo hi mx : Option Value) (w : World) : Result Next := (do pure (.value (← Instr.sliceAt T x lo hi mx)) : Sem Next).run P w
theorem r_slice (ty : TypeId) (σ : Sl) (x : Operand) (lo hi mx : Option Operand) : run1 P (.slice T x lo hi mx) ty σ w = vSlice P T (ev σ x) (lo.map (ev σ)) (hi.map (ev σ)) (mx.map (ev σ)) w := nr rfl
def slT (x : Bool) (s : ByteArray) (a b : Int) (w : World) (j : Result Next) : Result Next := match x with
  | true => if 0 ≤ a ∧ a ≤ b ∧ b ≤ s.size then .ok (.value (.string (s.extract a.toNat b.toNat))) w else j
  | false => j
theorem slT_true {s : ByteArray} {a b : Int} (h0 : 0 ≤ a) (h1 : a ≤ b) (h2 : b ≤ s.size) (j : Result Next) : slT true s a b w j = .ok (.value (.string (s.extract a.toNat b.toNat))) w := by
  simp only [slT]; rw [if_pos ⟨h0, h1, h2⟩]
def jSlice (P : Program) (T : TypeId) (x : Value) (lo hi : Option Value) (w : World) : Result Next := vSlice P T x lo hi none w
theorem strB_is (h : strB P T = true) : P.underlying T = some .string := by
  unfold strB at h
  cases hd : P.underlying T with
  | none => rw [hd] at h; cases h
  | some d => rw [hd] at h; cases d <;> first | rfl | cases h
theorem slice_str {s : ByteArray} {lo hi : Option Value} {a b : Int} (hT : strB P T = true) (hlo : (match lo with | some v => ∃ k, v = .int k a | none => a = 0)) (hhi : (match hi with | some v => ∃ k, v = .int k b | none => b = s.size))
    (h0 : 0 ≤ a) (h1 : a ≤ b) (h2 : b ≤ s.size) : vSlice P T (.string s) lo hi none w = .ok (.value (.string (s.extract a.toNat b.toNat))) w := by
  have hu := strB_is hT
  have key : ∀ (x y : Nat) (k : IntKind) (i : Int) (code : BoundsCode), 0 ≤ i → i ≤ y → (Instr.sliceBound (.int k i) y code).run P w = .ok i.toNat w := fun x y k i code h h' => by
    simp [Instr.sliceBound, asIntOf, h, h']
  cases lo with
  | none =>
    subst hlo
    cases hi with
    | none =>
      subst hhi
      simp [vSlice, Instr.sliceAt, Instr.slice, run_underlying hu, Instr.sliceBounds]
    | some v =>
      obtain ⟨k, rfl⟩ := hhi
      simp [vSlice, Instr.sliceAt, Instr.slice, run_underlying hu, Instr.sliceBounds, key 0 s.size k b _ (by omega) h2]
  | some u =>
    obtain ⟨k', rfl⟩ := hlo
    cases hi with
    | none =>
      subst hhi
      simp [vSlice, Instr.sliceAt, Instr.slice, run_underlying hu, Instr.sliceBounds, key 0 s.size k' a _ h0 h1]
    | some v =>
      obtain ⟨k, rfl⟩ := hhi
      simp [vSlice, Instr.sliceAt, Instr.slice, run_underlying hu, Instr.sliceBounds, key 0 s.size k b _ (by omega) h2, key 0 b.toNat k' a _ h0 (by omega)]
theorem vSlice_lh {s : ByteArray} {k k' : IntKind} {a b : Int} : vSlice P T (.string s) (some (.int k a)) (some (.int k' b)) none w = slT (strB P T) s a b w (jSlice P T (.string s) (some (.int k a)) (some (.int k' b)) w) := by
  unfold slT jSlice
  cases hT : strB P T with
  | false => rfl
  | true =>
    simp only
    split
    · rename_i h; exact slice_str hT ⟨_, rfl⟩ ⟨_, rfl⟩ h.1 h.2.1 h.2.2
    · rfl
theorem vSlice_l {s : ByteArray} {k : IntKind} {a : Int} : vSlice P T (.string s) (some (.int k a)) none none w = slT (strB P T) s a s.size w (jSlice P T (.string s) (some (.int k a)) none w) := by
  unfold slT jSlice
  cases hT : strB P T with
  | false => rfl
  | true =>
    simp only
    split
    · rename_i h; exact slice_str hT ⟨_, rfl⟩ rfl h.1 h.2.1 h.2.2
    · rfl
theorem vSlice_h {s : ByteArray} {k : IntKind} {b : Int} : vSlice P T (.string s) none (some (.int k b)) none w = slT (strB P T) s 0 b w (jSlice P T (.string s) none (some (.int k b)) w) := by
  unfold slT jSlice
  cases hT : strB P T with
  | false => rfl
  | true =>
    simp only
    split
    · rename_i h; exact slice_str hT rfl ⟨_, rfl⟩ h.1 h.2.1 h.2.2
    · rfl
/-- The head of a slice. -/
def shT (x : Option Nat) (A : Option Addr) (c : Nat) (b : Int) (w : World) (j : Result Next) : Result Next := match x with
  | some _ => if 0 ≤ b ∧ b ≤ c then .ok (.value (.slice A b.toNat c)) w else j
  | none => j
theorem shT_some {A : Option Addr} {c : Nat} {b : Int} (h0 : 0 ≤ b) (h1 : b ≤ c) (s : Nat) (j : Result Next) : shT (some s) A c b w j = .ok (.value (.slice A b.toNat c)) w := by
  simp only [shT]; rw [if_pos ⟨h0, h1⟩]
theorem add_zero (a : Addr) : a.add 0 = a := if_pos rfl
theorem vSlice_sh {A : Option Addr} {n c : Nat} {k : IntKind} {b : Int} : vSlice P T (.slice A n c) none (some (.int k b)) none w = shT (eSz P T) A c b w (jSlice P T (.slice A n c) none (some (.int k b)) w) := by
  unfold shT jSlice
  cases hT : eSz P T with
  | none => rfl
  | some s =>
    simp only
    split
    · rename_i h
      unfold eSz at hT
      cases hd : P.underlying T with
      | none => rw [hd] at hT; cases hT
      | some d =>
        rw [hd] at hT
        cases d with
        | slice e =>
          simp only at hT
          cases hi : P.info? e with
          | none => rw [hi] at hT; cases hT
          | some inf =>
            have key : (Instr.sliceBound (.int k b) c .sliceAcap).run P w = .ok b.toNat w := by simp [Instr.sliceBound, asIntOf, h.1, h.2]
            have hA : (A.map fun a => a.add 0) = A := by cases A <;> simp [add_zero]
            simp [vSlice, Instr.sliceAt, Instr.slice, run_underlying hd, Instr.sliceBounds, key, sizeOf, typeInfo, hi, hA]
        | _ => cases hT
    · rfl
/-- Joining. -/
theorem vBin_adds {x y : Operand} {s t : ByteArray} (h : (s.size : Int) + t.size ≤ 9223372036854775807) : vBin P .add T x y (.string s) (.string t) w = .ok (.value (.string (s ++ t))) w := by
  have e : ¬ (IntKind.i64.max < (s.size : Int) + t.size) := by
    have : IntKind.i64.max = 9223372036854775807 := by decide
    omega
  simp [vBin, eqGuard, binOp, Op.stringOp, e]
  exact h
/-- Conversions to an integer. -/
def okT (P : Program) (T : TypeId) : Bool := (P.underlying T).isSome
def ikT (P : Program) (T : TypeId) : Option IntKind := match P.underlying T with
  | some (.int k) => some k
  | _ => none
def cvT (x : Bool) (y : Option IntKind) (n : Int) (w : World) (j : Result Next) : Result Next := match x, y with
  | true, some k => .ok (.value (.int k (k.wrap n))) w
  | _, _ => j
theorem cvT_ok (k : IntKind) (n : Int) (j : Result Next) : cvT true (some k) n w j = .ok (.value (.int k (k.wrap n))) w := nr rfl
def jConv (P : Program) (a b : TypeId) (v : Value) (w : World) : Result Next := vConvert P a b v w
theorem vConvert_int {a b : TypeId} {k' : IntKind} {n : Int} : vConvert P a b (.int k' n) w = cvT (okT P a) (ikT P b) n w (jConv P a b (.int k' n) w) := by
  unfold jConv
  cases h1 : okT P a with
  | false => rfl
  | true =>
    cases h2 : ikT P b with
    | none => rfl
    | some k =>
      rw [cvT_ok]
      unfold okT at h1
      unfold ikT at h2
      obtain ⟨d, hd⟩ := Option.isSome_iff_exists.1 h1
      cases hb : P.underlying b with
      | none => rw [hb] at h2; cases h2
      | some e =>
        rw [hb] at h2
        cases e with
        | int k2 =>
          simp only [Option.some.injEq] at h2
          subst h2
          simp [vConvert, convert, run_underlying hd, run_underlying hb, Conv.intToInt]
        | _ => cases h2
theorem wrap_i32 {n : Int} (h0 : -2147483648 ≤ n) (h1 : n ≤ 2147483647) : IntKind.i32.wrap n = n := IntWalk.i32_in n ⟨h0, h1⟩
theorem wrap_i64 {n : Int} (h0 : -9223372036854775808 ≤ n) (h1 : n ≤ 9223372036854775807) : IntKind.i64.wrap n = n := IntWalk.i64_in n ⟨h0, h1⟩
theorem wrap_u8 {n : Int} (h0 : 0 ≤ n) (h1 : n ≤ 255) : IntKind.u8.wrap n = n := IntWalk.u8_in n ⟨h0, h1⟩
theorem vBin_rem8 {x y : Operand} {a b : Int} (h0 : 0 ≤ a) (h1 : 0 < b) : vBin P .rem T x y (.int .u8 a) (.int .u8 b) w = .ok (.value (.int .u8 (a % b))) w := by
  simp [vBin, eqGuard, binOp, Op.intDiv, show ¬ b = 0 by omega, Int.tmod_eq_emod_of_nonneg h0]
theorem vBin_add8 {x y : Operand} {a b : Int} (h1 : 0 ≤ a + b) (h2 : a + b ≤ 255) : vBin P .add T x y (.int .u8 a) (.int .u8 b) w = .ok (.value (.int .u8 (a + b))) w := by
  simp [vBin, eqGuard, binOp, Op.intArith, IntWalk.u8_in _ ⟨h1, h2⟩]
/-- A range over a string. -/
def vRange (P : Program) (T : TypeId) (u : Value) (w : World) : Result Next := (do pure (.value (← Instr.range T u)) : Sem Next).run P w
theorem r_range (ty : TypeId) (σ : Sl) (x : Operand) : run1 P (.range T x) ty σ w = vRange P T (ev σ x) w := nr rfl
def jRange (P : Program) (T : TypeId) (u : Value) (w : World) : Result Next := vRange P T u w
theorem vRange_str {s : ByteArray} : vRange P T (.string s) w = ifB (strB P T) (.ok (.value (.pointer (some ⟨w.heap.size, 0, none⟩))) (w.alloc (.stringIter s 0))) (jRange P T (.string s) w) := by
  refine ifB_of (fun h => ?_) rfl
  have := run_range_string w T s (strB_is h)
  simp only [vRange, Sem.run_bind, this, Result.andThen, Sem.run_pure]
  rfl
def vNext (P : Program) (u : Value) (b : Bool) (ty : TypeId) (w : World) : Result Next := (do pure (.value (← Instr.next u b ty)) : Sem Next).run P w
theorem r_next (ty : TypeId) (σ : Sl) (x : Operand) (b : Bool) : run1 P (.next x b) ty σ w = vNext P (ev σ x) b ty w := nr rfl
theorem vNext_some {s : ByteArray} {pos g : Nat} {ty : TypeId} (hg : w.heap[g]? = some (.stringIter s pos)) (h : pos < s.size) :
    vNext P (.pointer (some ⟨g, 0, none⟩)) true ty w = .ok (.value (.tuple #[.bool true, .int .i64 pos, .int .i32 (Utf8.decode s pos).1])) (setO w g (.stringIter s (pos + (Utf8.decode s pos).2))) := by
  simp [vNext, Instr.next, getObj, setObj, Sem.run_bind, Sem.run, hg, h, goInt, setO]
theorem vNext_end {s : ByteArray} {pos g : Nat} {ty : TypeId} (hg : w.heap[g]? = some (.stringIter s pos)) (h : ¬ pos < s.size) :
    vNext P (.pointer (some ⟨g, 0, none⟩)) true ty w = .ok (.value (.tuple #[.bool false])) w := by
  simp [vNext, Instr.next, getObj, Sem.run_bind, Sem.run, hg, h]
end
end Go.Proofs.YtjaeiiiniohloaaDoor
/- The engine's rules for unsigned integers, shifts, bits; functions that hold captured values. -/
namespace Go.Proofs.YtjaeiiiniohloaaDoor
open Go.RowKit
section
variable {P : Program} {T : TypeId} {w : World} {x y : Operand} {a b : Int}
theorem wrap_u64 {n : Int} (h0 : 0 ≤ n) (h1 : n ≤ 18446744073709551615) : IntKind.u64.wrap n = n := IntWalk.u64_in n ⟨h0, h1⟩
theorem vBin_addU (h1 : 0 ≤ a + b) (h2 : a + b ≤ 18446744073709551615) : vBin P .add T x y (.int .u64 a) (.int .u64 b) w = .ok (.value (.int .u64 (a + b))) w := by
  simp [vBin, eqGuard, binOp, Op.intArith, IntWalk.u64_in _ ⟨h1, h2⟩]
theorem vBin_subU (h1 : 0 ≤ a - b) (h2 : a - b ≤ 18446744073709551615) : vBin P .sub T x y (.int .u64 a) (.int .u64 b) w = .ok (.value (.int .u64 (a - b))) w := by
  simp [vBin, eqGuard, binOp, Op.intArith, IntWalk.u64_in _ ⟨h1, h2⟩]
theorem vBin_mulU (h1 : 0 ≤ a * b) (h2 : a * b ≤ 18446744073709551615) : vBin P .mul T x y (.int .u64 a) (.int .u64 b) w = .ok (.value (.int .u64 (a * b))) w := by
  simp [vBin, eqGuard, binOp, Op.intArith, IntWalk.u64_in _ ⟨h1, h2⟩]
theorem vBin_quoU (h0 : 0 ≤ a) (h1 : 0 < b) (h2 : a ≤ 18446744073709551615) : vBin P .quo T x y (.int .u64 a) (.int .u64 b) w = .ok (.value (.int .u64 (a / b))) w := by
  simp [vBin, eqGuard, binOp, Op.intDiv, show ¬ b = 0 by omega, IntWalk.u64_quo a b ⟨h0, h2, h1⟩]
theorem vBin_remU (h0 : 0 ≤ a) (h1 : 0 < b) : vBin P .rem T x y (.int .u64 a) (.int .u64 b) w = .ok (.value (.int .u64 (a % b))) w := by
  simp [vBin, eqGuard, binOp, Op.intDiv, show ¬ b = 0 by omega, Int.tmod_eq_emod_of_nonneg h0]
theorem vBin_sub8 (h1 : 0 ≤ a - b) (h2 : a - b ≤ 255) : vBin P .sub T x y (.int .u8 a) (.int .u8 b) w = .ok (.value (.int .u8 (a - b))) w := by
  simp [vBin, eqGuard, binOp, Op.intArith, IntWalk.u8_in _ ⟨h1, h2⟩]
theorem vBin_quo8 (h0 : 0 ≤ a) (h1 : 0 < b) (h2 : a ≤ 255) : vBin P .quo T x y (.int .u8 a) (.int .u8 b) w = .ok (.value (.int .u8 (a / b))) w := by
  simp [vBin, eqGuard, binOp, Op.intDiv, show ¬ b = 0 by omega, IntWalk.u8_quo a b ⟨h0, h2, h1⟩]
theorem vBin_shl4U {k : IntKind} (h0 : 0 ≤ a) (h1 : a ≤ 1152921504606846975) : vBin P .shl T x y (.int .u64 a) (.int k 4) w = .ok (.value (.int .u64 (a * 16))) w := by
  have e : IntKind.u64.wrap (a * 2 ^ (min (4 : Int).toNat IntKind.u64.bits)) = a * 16 := IntWalk.u64_in _ (by rw [show (2 : Int) ^ (min (4 : Int).toNat IntKind.u64.bits) = 16 by decide]; omega)
  simp only [vBin, eqGuard, binOp, Op.shift]
  first | (simp; done) | (simp; exact e)
theorem vBin_shl48 {k : IntKind} (h0 : 0 ≤ a) (h1 : a ≤ 15) : vBin P .shl T x y (.int .u8 a) (.int k 4) w = .ok (.value (.int .u8 (a * 16))) w := by
  have e : IntKind.u8.wrap (a * 2 ^ (min (4 : Int).toNat IntKind.u8.bits)) = a * 16 := IntWalk.u8_in _ (by rw [show (2 : Int) ^ (min (4 : Int).toNat IntKind.u8.bits) = 16 by decide]; omega)
  simp only [vBin, eqGuard, binOp, Op.shift]
  first | (simp; done) | (simp; exact e)
theorem vBin_shr48 {k : IntKind} (_ : 0 ≤ a) : vBin P .shr T x y (.int .u8 a) (.int k 4) w = .ok (.value (.int .u8 (a / 16))) w := by
  have e : a.fdiv (2 ^ (min (4 : Int).toNat IntKind.u8.bits)) = a / 16 := by
    rw [show (2 : Int) ^ (min (4 : Int).toNat IntKind.u8.bits) = 16 by decide, Int.fdiv_eq_ediv_of_nonneg _ (by decide)]
  simp only [vBin, eqGuard, binOp, Op.shift]
  first | (simp; done) | (simp; exact e)
theorem vBin_shrU {k : IntKind} (h0 : 0 ≤ b) (h1 : b < 64) : vBin P .shr T x y (.int .u64 a) (.int k b) w = .ok (.value (.int .u64 (a / 2 ^ b.toNat))) w := by
  have e : a.fdiv (2 ^ (min b.toNat IntKind.u64.bits)) = a / 2 ^ b.toNat := by
    rw [show min b.toNat IntKind.u64.bits = b.toNat from Nat.min_eq_left (by have : IntKind.u64.bits = 64 := by decide
                                                                             omega)]
    exact Int.fdiv_eq_ediv_of_nonneg _ (Int.le_of_lt (Int.pow_pos (by decide)))
  simp [vBin, eqGuard, binOp, Op.shift, show ¬ b < 0 by omega]
  first | done | exact e
theorem bits_and15 (n : Nat) (h0 : 0 ≤ a) (h1 : a < 2 ^ n) (hn : 16 ≤ 2 ^ n) : ((BitVec.ofInt n a &&& BitVec.ofInt n 15).toNat : Int) = a % 16 := by
  rw [BitVec.toNat_and, BitVec.toNat_ofInt, BitVec.toNat_ofInt]
  have e1 : (a % ((2 ^ n : Nat) : Int)).toNat = a.toNat := by rw [Int.emod_eq_of_lt h0 (by push_cast; exact h1)]
  have e2 : ((15 : Int) % ((2 ^ n : Nat) : Int)).toNat = 15 := by rw [Int.emod_eq_of_lt (by decide) (by omega)]; rfl
  rw [e1, e2, show (15 : Nat) = 2 ^ 4 - 1 by decide, Nat.and_two_pow_sub_one_eq_mod]
  omega
theorem bits_or16 (n : Nat) (h0 : 0 ≤ a) (h1 : a % 16 = 0) (h2 : 0 ≤ b) (h3 : b < 16) (ha : a + 16 ≤ 2 ^ n) : ((BitVec.ofInt n a ||| BitVec.ofInt n b).toNat : Int) = a + b := by
  rw [BitVec.toNat_or, BitVec.toNat_ofInt, BitVec.toNat_ofInt]
  have e1 : (a % ((2 ^ n : Nat) : Int)).toNat = 2 ^ 4 * (a.toNat / 16) := by rw [Int.emod_eq_of_lt h0 (by push_cast; omega)]; omega
  have e2 : (b % ((2 ^ n : Nat) : Int)).toNat = b.toNat := by rw [Int.emod_eq_of_lt h2 (by push_cast; omega)]
  rw [e1, e2, ← Nat.two_pow_add_eq_or_of_lt (by omega)]
  omega
theorem vBin_and15U (h0 : 0 ≤ a) (h1 : a ≤ 18446744073709551615) : vBin P .and T x y (.int .u64 a) (.int .u64 15) w = .ok (.value (.int .u64 (a % 16))) w := by
  have e := bits_and15 (a := a) IntKind.u64.bits h0 (by rw [show (2 : Int) ^ IntKind.u64.bits = 18446744073709551616 by decide]; omega) (by decide)
  have e2 : IntKind.u64.wrap (a % 16) = a % 16 := IntWalk.u64_in _ (by omega)
  simp [vBin, eqGuard, binOp, Op.intBits, -BitVec.toNat_and, -BitVec.toNat_or, -BitVec.toNat_ofInt, -BitVec.ofInt_ofNat, e, e2]
theorem vBin_and158 (h0 : 0 ≤ a) (h1 : a ≤ 255) : vBin P .and T x y (.int .u8 a) (.int .u8 15) w = .ok (.value (.int .u8 (a % 16))) w := by
  have e := bits_and15 (a := a) IntKind.u8.bits h0 (by rw [show (2 : Int) ^ IntKind.u8.bits = 256 by decide]; omega) (by decide)
  have e2 : IntKind.u8.wrap (a % 16) = a % 16 := IntWalk.u8_in _ (by omega)
  simp [vBin, eqGuard, binOp, Op.intBits, -BitVec.toNat_and, -BitVec.toNat_or, -BitVec.toNat_ofInt, -BitVec.ofInt_ofNat, e, e2]
theorem vBin_or16U (h0 : 0 ≤ a) (h1 : a % 16 = 0) (h2 : 0 ≤ b) (h3 : b < 16) (h4 : a ≤ 18446744073709551600) : vBin P .or T x y (.int .u64 a) (.int .u64 b) w = .ok (.value (.int .u64 (a + b))) w := by
  have e := bits_or16 (a := a) (b := b) IntKind.u64.bits h0 h1 h2 h3 (by rw [show (2 : Int) ^ IntKind.u64.bits = 18446744073709551616 by decide]; omega)
  have e2 : IntKind.u64.wrap (a + b) = a + b := IntWalk.u64_in _ (by omega)
  simp [vBin, eqGuard, binOp, Op.intBits, -BitVec.toNat_and, -BitVec.toNat_or, -BitVec.toNat_ofInt, -BitVec.ofInt_ofNat, e, e2]
theorem vBin_or168 (h0 : 0 ≤ a) (h1 : a % 16 = 0) (h2 : 0 ≤ b) (h3 : b < 16) (h4 : a ≤ 240) : vBin P .or T x y (.int .u8 a) (.int .u8 b) w = .ok (.value (.int .u8 (a + b))) w := by
  have e := bits_or16 (a := a) (b := b) IntKind.u8.bits h0 h1 h2 h3 (by rw [show (2 : Int) ^ IntKind.u8.bits = 256 by decide]; omega)
  have e2 : IntKind.u8.wrap (a + b) = a + b := IntWalk.u8_in _ (by omega)
  simp [vBin, eqGuard, binOp, Op.intBits, -BitVec.toNat_and, -BitVec.toNat_or, -BitVec.toNat_ofInt, -BitVec.ofInt_ofNat, e, e2]
theorem vUn_negI (h1 : -9223372036854775808 ≤ -a) (h2 : -a ≤ 9223372036854775807) : vUn P .neg (.int .i64 a) w = .ok (.value (.int .i64 (-a))) w := by
  simp [vUn, Op.unary, Op.intArith, IntWalk.i64_in _ ⟨h1, h2⟩]
/-- A function with the values that it holds. -/
theorem r_makeFunc (ty : TypeId) (σ : Sl) (f : Fn) (xs ys : List Operand) : run1 P (.makeFunc f xs.toArray ys.toArray) ty σ w = .ok (.value (.func f (xs.map (ev σ)).toArray (ys.map (ev σ)).toArray)) w := by
  simp [run1, execOp, Instr.makeFunc, ev]
theorem vCallv_caps {f : FuncId} {caps args : List Value} : vCallv P (.func (.func f) #[] caps.toArray) args.toArray w = vCall P f (args ++ caps).toArray w := by
  simp [vCallv, Deferred.ofValue, invoke, vCall]
/-- The lesser of two. -/
def vMin (P : Program) (u v : Value) (w : World) : Result Next := (do pure (.value (← Builtin.min2 u v)) : Sem Next).run P w
theorem r_min (ty : TypeId) (σ : Sl) (ts : Array TypeId) (a b : Operand) : run1 P (.call ⟨.builtin .min, #[a, b], ts⟩) ty σ w = vMin P (ev σ a) (ev σ b) w := by
  simp [run1, execOp, resolve, invoke, builtin, vMin, Builtin.min_]
theorem vMin_int {k k' : IntKind} : vMin P (.int k a) (.int k' b) w = .ok (.value (.int k (min a b))) w := by
  have e : (if b < a then b else a) = min a b := by omega
  simp [vMin, Builtin.min2, e]
end
end Go.Proofs.YtjaeiiiniohloaaDoor
/- Closed facts on the types and the functions of this translation, laid by program (wip/types.py). -/
namespace Go.Proofs.YtjaeiiiniohloaaDoor
theorem TY0 : okT Tryd.prog 1 = true ∧ oneB Tryd.prog 1 = true ∧ okT Tryd.prog 2 = true ∧ ikT Tryd.prog 2 = some .i64 ∧ oneB Tryd.prog 2 = true ∧ szOf Tryd.prog 2 = 1 ∧ zeroV Tryd.prog 2 = some (.int .i64 0) ∧ okT Tryd.prog 3 = true ∧ ikT Tryd.prog 3 = some .i64 ∧ oneB Tryd.prog 3 = true ∧ szOf Tryd.prog 3 = 1 ∧ zeroV Tryd.prog 3 = some (.int .i64 0) ∧ okT Tryd.prog 4 = true ∧ oneB Tryd.prog 4 = true ∧ szOf Tryd.prog 4 = 1 ∧ zeroV Tryd.prog 4 = some (.bool false) ∧ booB Tryd.prog 4 = true ∧ okT Tryd.prog 5 = true ∧ ikT Tryd.prog 5 = some .u8 ∧ oneB Tryd.prog 5 = true ∧ szOf Tryd.prog 5 = 1 ∧ zeroV Tryd.prog 5 = some (.int .u8 0) ∧ okT Tryd.prog 6 = true ∧ ikT Tryd.prog 6 = some .u8 ∧ oneB Tryd.prog 6 = true ∧ szOf Tryd.prog 6 = 1 ∧ zeroV Tryd.prog 6 = some (.int .u8 0) ∧ okT Tryd.prog 7 = true ∧ oneB Tryd.prog 7 = false ∧ szOf Tryd.prog 7 = 4 ∧ zeroV Tryd.prog 7 = some (.agg #[.int .i64 0, .int .i64 0, .bool false, .int .u8 0]) ∧ aggN Tryd.prog 7 = some 4 ∧ plT Tryd.prog 7 = some [(0, 1), (1, 1), (2, 1), (3, 1)] ∧ fOff Tryd.prog 7 0 = some 0 ∧ fOff Tryd.prog 7 1 = some 1 ∧ fOff Tryd.prog 7 2 = some 2 ∧ fOff Tryd.prog 7 3 = some 3 ∧ okT Tryd.prog 8 = true ∧ oneB Tryd.prog 8 = false ∧ szOf Tryd.prog 8 = 4 ∧ True := ⟨by kernel_rfl, by kernel_rfl, by kernel_rfl, by kernel_rfl, by kernel_rfl, by kernel_rfl, by kernel_rfl, by kernel_rfl, by kernel_rfl, by kernel_rfl, by kernel_rfl, by kernel_rfl, by kernel_rfl, by kernel_rfl, by kernel_rfl, by kernel_rfl, by kernel_rfl, by kernel_rfl, by kernel_rfl, by kernel_rfl, by kernel_rfl, by kernel_rfl, by kernel_rfl, by kernel_rfl, by kernel_rfl, by kernel_rfl, by kernel_rfl, by kernel_rfl, by kernel_rfl, by kernel_rfl, by kernel_rfl, by kernel_rfl, by kernel_rfl, by kernel_rfl, by kernel_rfl, by kernel_rfl, by kernel_rfl, by kernel_rfl, by kernel_rfl, by kernel_rfl, trivial⟩
theorem TY1 : zeroV Tryd.prog 8 = some (.agg #[.int .i64 0, .int .i64 0, .bool false, .int .u8 0]) ∧ aggN Tryd.prog 8 = some 4 ∧ plT Tryd.prog 8 = some [(0, 1), (1, 1), (2, 1), (3, 1)] ∧ fOff Tryd.prog 8 0 = some 0 ∧ fOff Tryd.prog 8 1 = some 1 ∧ fOff Tryd.prog 8 2 = some 2 ∧ fOff Tryd.prog 8 3 = some 3 ∧ okT Tryd.prog 9 = true ∧ oneB Tryd.prog 9 = true ∧ szOf Tryd.prog 9 = 1 ∧ zeroV Tryd.prog 9 = some (.string .empty) ∧ strB Tryd.prog 9 = true ∧ okT Tryd.prog 10 = true ∧ oneB Tryd.prog 10 = true ∧ szOf Tryd.prog 10 = 1 ∧ zeroV Tryd.prog 10 = some (.string .empty) ∧ strB Tryd.prog 10 = true ∧ okT Tryd.prog 11 = true ∧ oneB Tryd.prog 11 = true ∧ szOf Tryd.prog 11 = 1 ∧ zeroV Tryd.prog 11 = some (.string .empty) ∧ strB Tryd.prog 11 = true ∧ okT Tryd.prog 12 = true ∧ ikT Tryd.prog 12 = some .u64 ∧ oneB Tryd.prog 12 = true ∧ szOf Tryd.prog 12 = 1 ∧ zeroV Tryd.prog 12 = some (.int .u64 0) ∧ okT Tryd.prog 13 = true ∧ oneB Tryd.prog 13 = false ∧ szOf Tryd.prog 13 = 2 ∧ zeroV Tryd.prog 13 = some (.agg #[.string .empty, .int .u64 0]) ∧ aggN Tryd.prog 13 = some 2 ∧ plT Tryd.prog 13 = some [(0, 1), (1, 1)] ∧ fOff Tryd.prog 13 0 = some 0 ∧ fOff Tryd.prog 13 1 = some 1 ∧ okT Tryd.prog 14 = true ∧ oneB Tryd.prog 14 = false ∧ szOf Tryd.prog 14 = 2 ∧ zeroV Tryd.prog 14 = some (.agg #[.string .empty, .int .u64 0]) ∧ aggN Tryd.prog 14 = some 2 ∧ True := ⟨by kernel_rfl, by kernel_rfl, by kernel_rfl, by kernel_rfl, by kernel_rfl, by kernel_rfl, by kernel_rfl, by kernel_rfl, by kernel_rfl, by kernel_rfl, by kernel_rfl, by kernel_rfl, by kernel_rfl, by kernel_rfl, by kernel_rfl, by kernel_rfl, by kernel_rfl, by kernel_rfl, by kernel_rfl, by kernel_rfl, by kernel_rfl, by kernel_rfl, by kernel_rfl, by kernel_rfl, by kernel_rfl, by kernel_rfl, by kernel_rfl, by kernel_rfl, by kernel_rfl, by kernel_rfl, by kernel_rfl, by kernel_rfl, by kernel_rfl, by kernel_rfl, by kernel_rfl, by kernel_rfl, by kernel_rfl, by kernel_rfl, by kernel_rfl, by kernel_rfl, trivial⟩
theorem TY2 : plT Tryd.prog 14 = some [(0, 1), (1, 1)] ∧ fOff Tryd.prog 14 0 = some 0 ∧ fOff Tryd.prog 14 1 = some 1 ∧ okT Tryd.prog 15 = true ∧ oneB Tryd.prog 15 = true ∧ szOf Tryd.prog 15 = 1 ∧ zeroV Tryd.prog 15 = some (.pointer none) ∧ ptB Tryd.prog 15 = true ∧ okT Tryd.prog 16 = true ∧ oneB Tryd.prog 16 = true ∧ szOf Tryd.prog 16 = 1 ∧ zeroV Tryd.prog 16 = some (.pointer none) ∧ ptB Tryd.prog 16 = true ∧ okT Tryd.prog 17 = true ∧ oneB Tryd.prog 17 = true ∧ szOf Tryd.prog 17 = 1 ∧ zeroV Tryd.prog 17 = some (.pointer none) ∧ ptB Tryd.prog 17 = true ∧ okT Tryd.prog 18 = true ∧ oneB Tryd.prog 18 = false ∧ szOf Tryd.prog 18 = 1 ∧ zeroV Tryd.prog 18 = some (.agg #[.pointer none]) ∧ aggN Tryd.prog 18 = some 1 ∧ plT Tryd.prog 18 = some [(0, 1)] ∧ fOff Tryd.prog 18 0 = some 0 ∧ okT Tryd.prog 19 = true ∧ oneB Tryd.prog 19 = false ∧ szOf Tryd.prog 19 = 1 ∧ zeroV Tryd.prog 19 = some (.agg #[.pointer none]) ∧ aggN Tryd.prog 19 = some 1 ∧ plT Tryd.prog 19 = some [(0, 1)] ∧ fOff Tryd.prog 19 0 = some 0 ∧ okT Tryd.prog 20 = true ∧ oneB Tryd.prog 20 = true ∧ okT Tryd.prog 21 = true ∧ ikT Tryd.prog 21 = some .i32 ∧ oneB Tryd.prog 21 = true ∧ szOf Tryd.prog 21 = 1 ∧ zeroV Tryd.prog 21 = some (.int .i32 0) ∧ okT Tryd.prog 22 = true ∧ True := ⟨by kernel_rfl, by kernel_rfl, by kernel_rfl, by kernel_rfl, by kernel_rfl, by kernel_rfl, by kernel_rfl, by kernel_rfl, by kernel_rfl, by kernel_rfl, by kernel_rfl, by kernel_rfl, by kernel_rfl, by kernel_rfl, by kernel_rfl, by kernel_rfl, by kernel_rfl, by kernel_rfl, by kernel_rfl, by kernel_rfl, by kernel_rfl, by kernel_rfl, by kernel_rfl, by kernel_rfl, by kernel_rfl, by kernel_rfl, by kernel_rfl, by kernel_rfl, by kernel_rfl, by kernel_rfl, by kernel_rfl, by kernel_rfl, by kernel_rfl, by kernel_rfl, by kernel_rfl, by kernel_rfl, by kernel_rfl, by kernel_rfl, by kernel_rfl, by kernel_rfl, trivial⟩
theorem TY3 : oneB Tryd.prog 22 = true ∧ szOf Tryd.prog 22 = 1 ∧ zeroV Tryd.prog 22 = some (.slice none 0 0) ∧ slcB Tryd.prog 22 = true ∧ eSz Tryd.prog 22 = some 1 ∧ sliceI Tryd.prog 22 = some (3, 1, 8) ∧ okT Tryd.prog 23 = true ∧ ikT Tryd.prog 23 = some .u64 ∧ oneB Tryd.prog 23 = true ∧ szOf Tryd.prog 23 = 1 ∧ zeroV Tryd.prog 23 = some (.int .u64 0) ∧ okT Tryd.prog 24 = true ∧ oneB Tryd.prog 24 = false ∧ szOf Tryd.prog 24 = 10 ∧ zeroV Tryd.prog 24 = some (.agg #[.int .i64 0, .int .i64 0, .int .i64 0, .int .i64 0, .int .i64 0, .string .empty, .string .empty, .slice none 0 0, .int .u64 0, .int .u64 0]) ∧ aggN Tryd.prog 24 = some 10 ∧ plT Tryd.prog 24 = some [(0, 1), (1, 1), (2, 1), (3, 1), (4, 1), (5, 1), (6, 1), (7, 1), (8, 1), (9, 1)] ∧ fOff Tryd.prog 24 0 = some 0 ∧ fOff Tryd.prog 24 1 = some 1 ∧ fOff Tryd.prog 24 2 = some 2 ∧ fOff Tryd.prog 24 3 = some 3 ∧ fOff Tryd.prog 24 4 = some 4 ∧ fOff Tryd.prog 24 5 = some 5 ∧ fOff Tryd.prog 24 6 = some 6 ∧ fOff Tryd.prog 24 7 = some 7 ∧ fOff Tryd.prog 24 8 = some 8 ∧ fOff Tryd.prog 24 9 = some 9 ∧ okT Tryd.prog 25 = true ∧ oneB Tryd.prog 25 = false ∧ szOf Tryd.prog 25 = 10 ∧ zeroV Tryd.prog 25 = some (.agg #[.int .i64 0, .int .i64 0, .int .i64 0, .int .i64 0, .int .i64 0, .string .empty, .string .empty, .slice none 0 0, .int .u64 0, .int .u64 0]) ∧ aggN Tryd.prog 25 = some 10 ∧ plT Tryd.prog 25 = some [(0, 1), (1, 1), (2, 1), (3, 1), (4, 1), (5, 1), (6, 1), (7, 1), (8, 1), (9, 1)] ∧ fOff Tryd.prog 25 0 = some 0 ∧ fOff Tryd.prog 25 1 = some 1 ∧ fOff Tryd.prog 25 2 = some 2 ∧ fOff Tryd.prog 25 3 = some 3 ∧ fOff Tryd.prog 25 4 = some 4 ∧ fOff Tryd.prog 25 5 = some 5 ∧ fOff Tryd.prog 25 6 = some 6 ∧ True := ⟨by kernel_rfl, by kernel_rfl, by kernel_rfl, by kernel_rfl, by kernel_rfl, by kernel_rfl, by kernel_rfl, by kernel_rfl, by kernel_rfl, by kernel_rfl, by kernel_rfl, by kernel_rfl, by kernel_rfl, by kernel_rfl, by kernel_rfl, by kernel_rfl, by kernel_rfl, by kernel_rfl, by kernel_rfl, by kernel_rfl, by kernel_rfl, by kernel_rfl, by kernel_rfl, by kernel_rfl, by kernel_rfl, by kernel_rfl, by kernel_rfl, by kernel_rfl, by kernel_rfl, by kernel_rfl, by kernel_rfl, by kernel_rfl, by kernel_rfl, by kernel_rfl, by kernel_rfl, by kernel_rfl, by kernel_rfl, by kernel_rfl, by kernel_rfl, by kernel_rfl, trivial⟩
theorem TY4 : fOff Tryd.prog 25 7 = some 7 ∧ fOff Tryd.prog 25 8 = some 8 ∧ fOff Tryd.prog 25 9 = some 9 ∧ okT Tryd.prog 26 = true ∧ oneB Tryd.prog 26 = true ∧ okT Tryd.prog 27 = true ∧ ikT Tryd.prog 27 = some .i64 ∧ oneB Tryd.prog 27 = true ∧ szOf Tryd.prog 27 = 1 ∧ zeroV Tryd.prog 27 = some (.int .i64 0) ∧ okT Tryd.prog 28 = true ∧ oneB Tryd.prog 28 = true ∧ okT Tryd.prog 29 = true ∧ oneB Tryd.prog 29 = true ∧ okT Tryd.prog 30 = true ∧ oneB Tryd.prog 30 = true ∧ okT Tryd.prog 31 = true ∧ oneB Tryd.prog 31 = true ∧ szOf Tryd.prog 31 = 1 ∧ zeroV Tryd.prog 31 = some (.slice none 0 0) ∧ slcB Tryd.prog 31 = true ∧ eSz Tryd.prog 31 = some 10 ∧ sliceI Tryd.prog 31 = some (25, 10, 112) ∧ okT Tryd.prog 32 = true ∧ oneB Tryd.prog 32 = true ∧ okT Tryd.prog 34 = true ∧ oneB Tryd.prog 34 = true ∧ okT Tryd.prog 35 = true ∧ oneB Tryd.prog 35 = true ∧ okT Tryd.prog 37 = true ∧ oneB Tryd.prog 37 = true ∧ okT Tryd.prog 38 = true ∧ oneB Tryd.prog 38 = true ∧ okT Tryd.prog 39 = true ∧ oneB Tryd.prog 39 = true ∧ okT Tryd.prog 40 = true ∧ oneB Tryd.prog 40 = true ∧ szOf Tryd.prog 40 = 1 ∧ zeroV Tryd.prog 40 = some (.slice none 0 0) ∧ slcB Tryd.prog 40 = true ∧ True := ⟨by kernel_rfl, by kernel_rfl, by kernel_rfl, by kernel_rfl, by kernel_rfl, by kernel_rfl, by kernel_rfl, by kernel_rfl, by kernel_rfl, by kernel_rfl, by kernel_rfl, by kernel_rfl, by kernel_rfl, by kernel_rfl, by kernel_rfl, by kernel_rfl, by kernel_rfl, by kernel_rfl, by kernel_rfl, by kernel_rfl, by kernel_rfl, by kernel_rfl, by kernel_rfl, by kernel_rfl, by kernel_rfl, by kernel_rfl, by kernel_rfl, by kernel_rfl, by kernel_rfl, by kernel_rfl, by kernel_rfl, by kernel_rfl, by kernel_rfl, by kernel_rfl, by kernel_rfl, by kernel_rfl, by kernel_rfl, by kernel_rfl, by kernel_rfl, by kernel_rfl, trivial⟩
theorem TY5 : eSz Tryd.prog 40 = some 1 ∧ sliceI Tryd.prog 40 = some (5, 1, 1) ∧ okT Tryd.prog 41 = true ∧ oneB Tryd.prog 41 = true ∧ okT Tryd.prog 42 = true ∧ oneB Tryd.prog 42 = true ∧ okT Tryd.prog 43 = true ∧ oneB Tryd.prog 43 = true ∧ okT Tryd.prog 44 = true ∧ oneB Tryd.prog 44 = false ∧ szOf Tryd.prog 44 = 4 ∧ zeroV Tryd.prog 44 = some (.agg #[.int .i64 0, .string .empty, .string .empty, .int .i64 0]) ∧ aggN Tryd.prog 44 = some 4 ∧ plT Tryd.prog 44 = some [(0, 1), (1, 1), (2, 1), (3, 1)] ∧ fOff Tryd.prog 44 0 = some 0 ∧ fOff Tryd.prog 44 1 = some 1 ∧ fOff Tryd.prog 44 2 = some 2 ∧ fOff Tryd.prog 44 3 = some 3 ∧ okT Tryd.prog 45 = true ∧ oneB Tryd.prog 45 = false ∧ szOf Tryd.prog 45 = 4 ∧ zeroV Tryd.prog 45 = some (.agg #[.int .i64 0, .string .empty, .string .empty, .int .i64 0]) ∧ aggN Tryd.prog 45 = some 4 ∧ plT Tryd.prog 45 = some [(0, 1), (1, 1), (2, 1), (3, 1)] ∧ fOff Tryd.prog 45 0 = some 0 ∧ fOff Tryd.prog 45 1 = some 1 ∧ fOff Tryd.prog 45 2 = some 2 ∧ fOff Tryd.prog 45 3 = some 3 ∧ okT Tryd.prog 47 = true ∧ oneB Tryd.prog 47 = true ∧ okT Tryd.prog 48 = true ∧ oneB Tryd.prog 48 = true ∧ okT Tryd.prog 49 = true ∧ oneB Tryd.prog 49 = true ∧ okT Tryd.prog 51 = true ∧ oneB Tryd.prog 51 = true ∧ okT Tryd.prog 52 = true ∧ oneB Tryd.prog 52 = true ∧ okT Tryd.prog 53 = true ∧ oneB Tryd.prog 53 = true ∧ True := ⟨by kernel_rfl, by kernel_rfl, by kernel_rfl, by kernel_rfl, by kernel_rfl, by kernel_rfl, by kernel_rfl, by kernel_rfl, by kernel_rfl, by kernel_rfl, by kernel_rfl, by kernel_rfl, by kernel_rfl, by kernel_rfl, by kernel_rfl, by kernel_rfl, by kernel_rfl, by kernel_rfl, by kernel_rfl, by kernel_rfl, by kernel_rfl, by kernel_rfl, by kernel_rfl, by kernel_rfl, by kernel_rfl, by kernel_rfl, by kernel_rfl, by kernel_rfl, by kernel_rfl, by kernel_rfl, by kernel_rfl, by kernel_rfl, by kernel_rfl, by kernel_rfl, by kernel_rfl, by kernel_rfl, by kernel_rfl, by kernel_rfl, by kernel_rfl, by kernel_rfl, trivial⟩
theorem TY6 : okT Tryd.prog 54 = true ∧ oneB Tryd.prog 54 = true ∧ szOf Tryd.prog 54 = 1 ∧ zeroV Tryd.prog 54 = some (.pointer none) ∧ ptB Tryd.prog 54 = true ∧ okT Tryd.prog 55 = true ∧ oneB Tryd.prog 55 = false ∧ szOf Tryd.prog 55 = 2 ∧ zeroV Tryd.prog 55 = some (.agg #[.pointer none, .slice none 0 0]) ∧ aggN Tryd.prog 55 = some 2 ∧ plT Tryd.prog 55 = some [(0, 1), (1, 1)] ∧ fOff Tryd.prog 55 0 = some 0 ∧ fOff Tryd.prog 55 1 = some 1 ∧ okT Tryd.prog 56 = true ∧ oneB Tryd.prog 56 = false ∧ szOf Tryd.prog 56 = 2 ∧ zeroV Tryd.prog 56 = some (.agg #[.pointer none, .slice none 0 0]) ∧ aggN Tryd.prog 56 = some 2 ∧ plT Tryd.prog 56 = some [(0, 1), (1, 1)] ∧ fOff Tryd.prog 56 0 = some 0 ∧ fOff Tryd.prog 56 1 = some 1 ∧ okT Tryd.prog 57 = true ∧ oneB Tryd.prog 57 = true ∧ okT Tryd.prog 58 = true ∧ oneB Tryd.prog 58 = true ∧ okT Tryd.prog 60 = true ∧ oneB Tryd.prog 60 = true ∧ okT Tryd.prog 61 = true ∧ oneB Tryd.prog 61 = true ∧ okT Tryd.prog 62 = true ∧ oneB Tryd.prog 62 = true ∧ okT Tryd.prog 63 = true ∧ oneB Tryd.prog 63 = true ∧ okT Tryd.prog 64 = true ∧ oneB Tryd.prog 64 = true ∧ okT Tryd.prog 65 = true ∧ oneB Tryd.prog 65 = true ∧ okT Tryd.prog 67 = true ∧ oneB Tryd.prog 67 = true ∧ okT Tryd.prog 69 = true ∧ True := ⟨by kernel_rfl, by kernel_rfl, by kernel_rfl, by kernel_rfl, by kernel_rfl, by kernel_rfl, by kernel_rfl, by kernel_rfl, by kernel_rfl, by kernel_rfl, by kernel_rfl, by kernel_rfl, by kernel_rfl, by kernel_rfl, by kernel_rfl, by kernel_rfl, by kernel_rfl, by kernel_rfl, by kernel_rfl, by kernel_rfl, by kernel_rfl, by kernel_rfl, by kernel_rfl, by kernel_rfl, by kernel_rfl, by kernel_rfl, by kernel_rfl, by kernel_rfl, by kernel_rfl, by kernel_rfl, by kernel_rfl, by kernel_rfl, by kernel_rfl, by kernel_rfl, by kernel_rfl, by kernel_rfl, by kernel_rfl, by kernel_rfl, by kernel_rfl, by kernel_rfl, trivial⟩
theorem TY7 : oneB Tryd.prog 69 = true ∧ okT Tryd.prog 70 = true ∧ okT Tryd.prog 71 = true ∧ oneB Tryd.prog 71 = true ∧ okT Tryd.prog 72 = true ∧ oneB Tryd.prog 72 = true ∧ okT Tryd.prog 73 = true ∧ oneB Tryd.prog 73 = true ∧ szOf Tryd.prog 73 = 1 ∧ zeroV Tryd.prog 73 = some (.pointer none) ∧ ptB Tryd.prog 73 = true ∧ okT Tryd.prog 74 = true ∧ oneB Tryd.prog 74 = true ∧ okT Tryd.prog 75 = true ∧ oneB Tryd.prog 75 = true ∧ okT Tryd.prog 76 = true ∧ oneB Tryd.prog 76 = true ∧ okT Tryd.prog 78 = true ∧ oneB Tryd.prog 78 = true ∧ okT Tryd.prog 79 = true ∧ oneB Tryd.prog 79 = true ∧ okT Tryd.prog 80 = true ∧ oneB Tryd.prog 80 = true ∧ szOf Tryd.prog 80 = 1 ∧ zeroV Tryd.prog 80 = some (.pointer none) ∧ ptB Tryd.prog 80 = true ∧ okT Tryd.prog 81 = true ∧ oneB Tryd.prog 81 = true ∧ szOf Tryd.prog 81 = 1 ∧ zeroV Tryd.prog 81 = some (.pointer none) ∧ okT Tryd.prog 82 = true ∧ oneB Tryd.prog 82 = true ∧ okT Tryd.prog 83 = true ∧ ikT Tryd.prog 83 = some .u64 ∧ oneB Tryd.prog 83 = true ∧ szOf Tryd.prog 83 = 1 ∧ zeroV Tryd.prog 83 = some (.int .u64 0) ∧ okT Tryd.prog 84 = true ∧ zeroV Tryd.prog 84 = some (.agg #[.int .u8 0, .int .u8 0, .int .u8 0, .int .u8 0, .int .u8 0, .int .u8 0, .int .u8 0, .int .u8 0, .int .u8 0, .int .u8 0, .int .u8 0, .int .u8 0, .int .u8 0, .int .u8 0, .int .u8 0, .int .u8 0]) ∧ okT Tryd.prog 85 = true ∧ True := ⟨by kernel_rfl, by kernel_rfl, by kernel_rfl, by kernel_rfl, by kernel_rfl, by kernel_rfl, by kernel_rfl, by kernel_rfl, by kernel_rfl, by kernel_rfl, by kernel_rfl, by kernel_rfl, by kernel_rfl, by kernel_rfl, by kernel_rfl, by kernel_rfl, by kernel_rfl, by kernel_rfl, by kernel_rfl, by kernel_rfl, by kernel_rfl, by kernel_rfl, by kernel_rfl, by kernel_rfl, by kernel_rfl, by kernel_rfl, by kernel_rfl, by kernel_rfl, by kernel_rfl, by kernel_rfl, by kernel_rfl, by kernel_rfl, by kernel_rfl, by kernel_rfl, by kernel_rfl, by kernel_rfl, by kernel_rfl, by kernel_rfl, by kernel_rfl, by kernel_rfl, trivial⟩
theorem TY8 : oneB Tryd.prog 85 = true ∧ okT Tryd.prog 87 = true ∧ oneB Tryd.prog 87 = true ∧ okT Tryd.prog 89 = true ∧ oneB Tryd.prog 89 = true ∧ okT Tryd.prog 90 = true ∧ oneB Tryd.prog 90 = true ∧ okT Tryd.prog 91 = true ∧ oneB Tryd.prog 91 = true ∧ okT Tryd.prog 92 = true ∧ oneB Tryd.prog 92 = true ∧ okT Tryd.prog 93 = true ∧ oneB Tryd.prog 93 = true ∧ okT Tryd.prog 94 = true ∧ oneB Tryd.prog 94 = true ∧ szOf Tryd.prog 94 = 1 ∧ zeroV Tryd.prog 94 = some (.pointer none) ∧ ptB Tryd.prog 94 = true ∧ okT Tryd.prog 95 = true ∧ oneB Tryd.prog 95 = true ∧ okT Tryd.prog 96 = true ∧ oneB Tryd.prog 96 = true ∧ szOf Tryd.prog 96 = 1 ∧ zeroV Tryd.prog 96 = some (.pointer none) ∧ ptB Tryd.prog 96 = true ∧ okT Tryd.prog 98 = true ∧ oneB Tryd.prog 98 = true ∧ okT Tryd.prog 99 = true ∧ oneB Tryd.prog 99 = true ∧ okT Tryd.prog 100 = true ∧ zeroV Tryd.prog 100 = some (.agg #[.int .u8 0, .int .u8 0, .int .u8 0, .int .u8 0, .int .u8 0, .int .u8 0, .int .u8 0, .int .u8 0, .int .u8 0, .int .u8 0, .int .u8 0, .int .u8 0, .int .u8 0, .int .u8 0, .int .u8 0, .int .u8 0, .int .u8 0, .int .u8 0, .int .u8 0, .int .u8 0, .int .u8 0, .int .u8 0, .int .u8 0, .int .u8 0]) ∧ okT Tryd.prog 101 = true ∧ oneB Tryd.prog 101 = true ∧ okT Tryd.prog 102 = true ∧ oneB Tryd.prog 102 = true ∧ okT Tryd.prog 104 = true ∧ oneB Tryd.prog 104 = true ∧ okT Tryd.prog 105 = true ∧ ikT Tryd.prog 105 = some .u32 ∧ oneB Tryd.prog 105 = true ∧ True := ⟨by kernel_rfl, by kernel_rfl, by kernel_rfl, by kernel_rfl, by kernel_rfl, by kernel_rfl, by kernel_rfl, by kernel_rfl, by kernel_rfl, by kernel_rfl, by kernel_rfl, by kernel_rfl, by kernel_rfl, by kernel_rfl, by kernel_rfl, by kernel_rfl, by kernel_rfl, by kernel_rfl, by kernel_rfl, by kernel_rfl, by kernel_rfl, by kernel_rfl, by kernel_rfl, by kernel_rfl, by kernel_rfl, by kernel_rfl, by kernel_rfl, by kernel_rfl, by kernel_rfl, by kernel_rfl, by kernel_rfl, by kernel_rfl, by kernel_rfl, by kernel_rfl, by kernel_rfl, by kernel_rfl, by kernel_rfl, by kernel_rfl, by kernel_rfl, by kernel_rfl, trivial⟩
theorem TY9 : szOf Tryd.prog 105 = 1 ∧ zeroV Tryd.prog 105 = some (.int .u32 0) ∧ okT Tryd.prog 107 = true ∧ oneB Tryd.prog 107 = true ∧ okT Tryd.prog 109 = true ∧ oneB Tryd.prog 109 = true ∧ okT Tryd.prog 110 = true ∧ oneB Tryd.prog 110 = true ∧ okT Tryd.prog 111 = true ∧ zeroV Tryd.prog 111 = some (.agg #[.int .u64 0, .int .u64 0, .int .u64 0, .int .u64 0, .int .u64 0, .int .u64 0, .int .u64 0, .int .u64 0, .int .u64 0, .int .u64 0, .int .u64 0, .int .u64 0, .int .u64 0, .int .u64 0, .int .u64 0, .int .u64 0, .int .u64 0, .int .u64 0, .int .u64 0, .int .u64 0]) ∧ okT Tryd.prog 112 = true ∧ okT Tryd.prog 113 = true ∧ oneB Tryd.prog 113 = true ∧ okT Tryd.prog 114 = true ∧ oneB Tryd.prog 114 = true ∧ okT Tryd.prog 116 = true ∧ oneB Tryd.prog 116 = true ∧ okT Tryd.prog 117 = true ∧ oneB Tryd.prog 117 = true ∧ okT Tryd.prog 118 = true ∧ zeroV Tryd.prog 118 = some (.agg #[.int .u8 0, .int .u8 0, .int .u8 0, .int .u8 0, .int .u8 0, .int .u8 0, .int .u8 0, .int .u8 0, .int .u8 0, .int .u8 0, .int .u8 0, .int .u8 0, .int .u8 0, .int .u8 0, .int .u8 0, .int .u8 0, .int .u8 0, .int .u8 0, .int .u8 0, .int .u8 0, .int .u8 0, .int .u8 0, .int .u8 0, .int .u8 0, .int .u8 0, .int .u8 0, .int .u8 0, .int .u8 0, .int .u8 0, .int .u8 0, .int .u8 0, .int .u8 0]) ∧ okT Tryd.prog 119 = true ∧ okT Tryd.prog 120 = true ∧ oneB Tryd.prog 120 = false ∧ szOf Tryd.prog 120 = 4 ∧ zeroV Tryd.prog 120 = some (.agg #[.pointer none, .pointer none, .pointer none, .string .empty]) ∧ aggN Tryd.prog 120 = some 4 ∧ plT Tryd.prog 120 = some [(0, 1), (1, 1), (2, 1), (3, 1)] ∧ fOff Tryd.prog 120 0 = some 0 ∧ fOff Tryd.prog 120 1 = some 1 ∧ fOff Tryd.prog 120 2 = some 2 ∧ fOff Tryd.prog 120 3 = some 3 ∧ okT Tryd.prog 121 = true ∧ oneB Tryd.prog 121 = false ∧ szOf Tryd.prog 121 = 4 ∧ zeroV Tryd.prog 121 = some (.agg #[.pointer none, .pointer none, .pointer none, .string .empty]) ∧ aggN Tryd.prog 121 = some 4 ∧ plT Tryd.prog 121 = some [(0, 1), (1, 1), (2, 1), (3, 1)] ∧ fOff Tryd.prog 121 0 = some 0 ∧ fOff Tryd.prog 121 1 = some 1 ∧ True := ⟨by kernel_rfl, by kernel_rfl, by kernel_rfl, by kernel_rfl, by kernel_rfl, by kernel_rfl, by kernel_rfl, by kernel_rfl, by kernel_rfl, by kernel_rfl, by kernel_rfl, by kernel_rfl, by kernel_rfl, by kernel_rfl, by kernel_rfl, by kernel_rfl, by kernel_rfl, by kernel_rfl, by kernel_rfl, by kernel_rfl, by kernel_rfl, by kernel_rfl, by kernel_rfl, by kernel_rfl, by kernel_rfl, by kernel_rfl, by kernel_rfl, by kernel_rfl, by kernel_rfl, by kernel_rfl, by kernel_rfl, by kernel_rfl, by kernel_rfl, by kernel_rfl, by kernel_rfl, by kernel_rfl, by kernel_rfl, by kernel_rfl, by kernel_rfl, by kernel_rfl, trivial⟩
theorem TY10 : fOff Tryd.prog 121 2 = some 2 ∧ fOff Tryd.prog 121 3 = some 3 ∧ okT Tryd.prog 122 = true ∧ zeroV Tryd.prog 122 = some (.agg #[]) ∧ okT Tryd.prog 123 = true ∧ oneB Tryd.prog 123 = false ∧ szOf Tryd.prog 123 = 0 ∧ zeroV Tryd.prog 123 = some (.agg #[]) ∧ aggN Tryd.prog 123 = some 0 ∧ plT Tryd.prog 123 = some [(0, 0)] ∧ okT Tryd.prog 124 = true ∧ oneB Tryd.prog 124 = false ∧ szOf Tryd.prog 124 = 0 ∧ zeroV Tryd.prog 124 = some (.agg #[]) ∧ aggN Tryd.prog 124 = some 0 ∧ plT Tryd.prog 124 = some [(0, 0)] ∧ okT Tryd.prog 125 = true ∧ oneB Tryd.prog 125 = true ∧ okT Tryd.prog 126 = true ∧ ikT Tryd.prog 126 = some .u8 ∧ oneB Tryd.prog 126 = true ∧ szOf Tryd.prog 126 = 1 ∧ zeroV Tryd.prog 126 = some (.int .u8 0) ∧ okT Tryd.prog 127 = true ∧ ikT Tryd.prog 127 = some .u8 ∧ oneB Tryd.prog 127 = true ∧ szOf Tryd.prog 127 = 1 ∧ zeroV Tryd.prog 127 = some (.int .u8 0) ∧ okT Tryd.prog 128 = true ∧ oneB Tryd.prog 128 = true ∧ okT Tryd.prog 129 = true ∧ ikT Tryd.prog 129 = some .i32 ∧ oneB Tryd.prog 129 = true ∧ szOf Tryd.prog 129 = 1 ∧ zeroV Tryd.prog 129 = some (.int .i32 0) ∧ okT Tryd.prog 130 = true ∧ ikT Tryd.prog 130 = some .i32 ∧ oneB Tryd.prog 130 = true ∧ szOf Tryd.prog 130 = 1 ∧ zeroV Tryd.prog 130 = some (.int .i32 0) ∧ True := ⟨by kernel_rfl, by kernel_rfl, by kernel_rfl, by kernel_rfl, by kernel_rfl, by kernel_rfl, by kernel_rfl, by kernel_rfl, by kernel_rfl, by kernel_rfl, by kernel_rfl, by kernel_rfl, by kernel_rfl, by kernel_rfl, by kernel_rfl, by kernel_rfl, by kernel_rfl, by kernel_rfl, by kernel_rfl, by kernel_rfl, by kernel_rfl, by kernel_rfl, by kernel_rfl, by kernel_rfl, by kernel_rfl, by kernel_rfl, by kernel_rfl, by kernel_rfl, by kernel_rfl, by kernel_rfl, by kernel_rfl, by kernel_rfl, by kernel_rfl, by kernel_rfl, by kernel_rfl, by kernel_rfl, by kernel_rfl, by kernel_rfl, by kernel_rfl, by kernel_rfl, trivial⟩
theorem TY11 : okT Tryd.prog 131 = true ∧ oneB Tryd.prog 131 = false ∧ szOf Tryd.prog 131 = 11 ∧ zeroV Tryd.prog 131 = some (.agg #[.int .u64 0, .int .u64 0, .int .u32 0, .int .u8 0, .int .u8 0, .int .u8 0, .int .u8 0, .nilFunc, .pointer none, .int .i32 0, .int .i32 0]) ∧ aggN Tryd.prog 131 = some 11 ∧ plT Tryd.prog 131 = some [(0, 1), (1, 1), (2, 1), (3, 1), (4, 1), (5, 1), (6, 1), (7, 1), (8, 1), (9, 1), (10, 1)] ∧ fOff Tryd.prog 131 0 = some 0 ∧ fOff Tryd.prog 131 1 = some 1 ∧ fOff Tryd.prog 131 2 = some 2 ∧ fOff Tryd.prog 131 3 = some 3 ∧ fOff Tryd.prog 131 4 = some 4 ∧ fOff Tryd.prog 131 5 = some 5 ∧ fOff Tryd.prog 131 6 = some 6 ∧ fOff Tryd.prog 131 7 = some 7 ∧ fOff Tryd.prog 131 8 = some 8 ∧ fOff Tryd.prog 131 9 = some 9 ∧ fOff Tryd.prog 131 10 = some 10 ∧ okT Tryd.prog 132 = true ∧ oneB Tryd.prog 132 = false ∧ szOf Tryd.prog 132 = 11 ∧ zeroV Tryd.prog 132 = some (.agg #[.int .u64 0, .int .u64 0, .int .u32 0, .int .u8 0, .int .u8 0, .int .u8 0, .int .u8 0, .nilFunc, .pointer none, .int .i32 0, .int .i32 0]) ∧ aggN Tryd.prog 132 = some 11 ∧ plT Tryd.prog 132 = some [(0, 1), (1, 1), (2, 1), (3, 1), (4, 1), (5, 1), (6, 1), (7, 1), (8, 1), (9, 1), (10, 1)] ∧ fOff Tryd.prog 132 0 = some 0 ∧ fOff Tryd.prog 132 1 = some 1 ∧ fOff Tryd.prog 132 2 = some 2 ∧ fOff Tryd.prog 132 3 = some 3 ∧ fOff Tryd.prog 132 4 = some 4 ∧ fOff Tryd.prog 132 5 = some 5 ∧ fOff Tryd.prog 132 6 = some 6 ∧ fOff Tryd.prog 132 7 = some 7 ∧ fOff Tryd.prog 132 8 = some 8 ∧ fOff Tryd.prog 132 9 = some 9 ∧ fOff Tryd.prog 132 10 = some 10 ∧ True := ⟨by kernel_rfl, by kernel_rfl, by kernel_rfl, by kernel_rfl, by kernel_rfl, by kernel_rfl, by kernel_rfl, by kernel_rfl, by kernel_rfl, by kernel_rfl, by kernel_rfl, by kernel_rfl, by kernel_rfl, by kernel_rfl, by kernel_rfl, by kernel_rfl, by kernel_rfl, by kernel_rfl, by kernel_rfl, by kernel_rfl, by kernel_rfl, by kernel_rfl, by kernel_rfl, by kernel_rfl, by kernel_rfl, by kernel_rfl, by kernel_rfl, by kernel_rfl, by kernel_rfl, by kernel_rfl, by kernel_rfl, by kernel_rfl, by kernel_rfl, by kernel_rfl, trivial⟩
theorem BF : bodyB Tryd.prog 2 = true ∧ bodyB Tryd.prog 3 = true ∧ bodyB Tryd.prog 4 = true ∧ bodyB Tryd.prog 5 = true ∧ bodyB Tryd.prog 6 = true ∧ bodyB Tryd.prog 7 = true ∧ bodyB Tryd.prog 8 = true ∧ bodyB Tryd.prog 9 = true ∧ bodyB Tryd.prog 10 = true ∧ bodyB Tryd.prog 11 = true ∧ bodyB Tryd.prog 12 = true ∧ bodyB Tryd.prog 13 = true ∧ bodyB Tryd.prog 14 = true ∧ bodyB Tryd.prog 15 = true ∧ bodyB Tryd.prog 16 = true ∧ bodyB Tryd.prog 17 = true ∧ bodyB Tryd.prog 18 = true ∧ bodyB Tryd.prog 19 = true ∧ bodyB Tryd.prog 20 = true ∧ bodyB Tryd.prog 21 = true ∧ bodyB Tryd.prog 22 = true ∧ bodyB Tryd.prog 23 = true ∧ bodyB Tryd.prog 24 = true ∧ bodyB Tryd.prog 25 = true ∧ bodyB Tryd.prog 26 = true ∧ bodyB Tryd.prog 27 = true ∧ bodyB Tryd.prog 28 = true ∧ bodyB Tryd.prog 29 = true ∧ bodyB Tryd.prog 30 = true ∧ bodyB Tryd.prog 31 = true ∧ bodyB Tryd.prog 32 = true ∧ bodyB Tryd.prog 33 = true ∧ bodyB Tryd.prog 34 = true ∧ bodyB Tryd.prog 35 = true ∧ bodyB Tryd.prog 36 = true ∧ bodyB Tryd.prog 37 = true ∧ bodyB Tryd.prog 38 = true ∧ bodyB Tryd.prog 39 = true ∧ bodyB Tryd.prog 40 = true ∧ bodyB Tryd.prog 41 = true ∧ bodyB Tryd.prog 42 = true ∧ bodyB Tryd.prog 43 = true ∧ bodyB Tryd.prog 44 = true ∧ bodyB Tryd.prog 45 = true ∧ bodyB Tryd.prog 46 = true ∧ bodyB Tryd.prog 47 = true ∧ bodyB Tryd.prog 48 = true ∧ bodyB Tryd.prog 49 = true ∧ bodyB Tryd.prog 50 = true ∧ bodyB Tryd.prog 53 = true ∧ bodyB Tryd.prog 54 = true ∧ bodyB Tryd.prog 55 = true ∧ bodyB Tryd.prog 56 = true ∧ bodyB Tryd.prog 57 = true ∧ bodyB Tryd.prog 58 = true ∧ bodyB Tryd.prog 59 = true ∧ bodyB Tryd.prog 60 = true ∧ bodyB Tryd.prog 61 = true ∧ bodyB Tryd.prog 63 = true ∧ bodyB Tryd.prog 64 = true ∧ bodyB Tryd.prog 65 = true ∧ bodyB Tryd.prog 66 = true ∧ bodyB Tryd.prog 67 = true ∧ bodyB Tryd.prog 68 = true ∧ bodyB Tryd.prog 69 = true ∧ bodyB Tryd.prog 70 = true ∧ bodyB Tryd.prog 71 = true ∧ bodyB Tryd.prog 72 = true ∧ bodyB Tryd.prog 73 = true ∧ bodyB Tryd.prog 74 = true ∧ bodyB Tryd.prog 75 = true ∧ bodyB Tryd.prog 76 = true ∧ bodyB Tryd.prog 77 = true ∧ bodyB Tryd.prog 78 = true ∧ bodyB Tryd.prog 79 = true ∧ bodyB Tryd.prog 80 = true ∧ bodyB Tryd.prog 81 = true ∧ bodyB Tryd.prog 82 = true ∧ bodyB Tryd.prog 108 = true ∧ True := ⟨by kernel_rfl, by kernel_rfl, by kernel_rfl, by kernel_rfl, by kernel_rfl, by kernel_rfl, by kernel_rfl, by kernel_rfl, by kernel_rfl, by kernel_rfl, by kernel_rfl, by kernel_rfl, by kernel_rfl, by kernel_rfl, by kernel_rfl, by kernel_rfl, by kernel_rfl, by kernel_rfl, by kernel_rfl, by kernel_rfl, by kernel_rfl, by kernel_rfl, by kernel_rfl, by kernel_rfl, by kernel_rfl, by kernel_rfl, by kernel_rfl, by kernel_rfl, by kernel_rfl, by kernel_rfl, by kernel_rfl, by kernel_rfl, by kernel_rfl, by kernel_rfl, by kernel_rfl, by kernel_rfl, by kernel_rfl, by kernel_rfl, by kernel_rfl, by kernel_rfl, by kernel_rfl, by kernel_rfl, by kernel_rfl, by kernel_rfl, by kernel_rfl, by kernel_rfl, by kernel_rfl, by kernel_rfl, by kernel_rfl, by kernel_rfl, by kernel_rfl, by kernel_rfl, by kernel_rfl, by kernel_rfl, by kernel_rfl, by kernel_rfl, by kernel_rfl, by kernel_rfl, by kernel_rfl, by kernel_rfl, by kernel_rfl, by kernel_rfl, by kernel_rfl, by kernel_rfl, by kernel_rfl, by kernel_rfl, by kernel_rfl, by kernel_rfl, by kernel_rfl, by kernel_rfl, by kernel_rfl, by kernel_rfl, by kernel_rfl, by kernel_rfl, by kernel_rfl, by kernel_rfl, by kernel_rfl, by kernel_rfl, by kernel_rfl, trivial⟩
theorem MX : Tryd.prog.follows .mixedOrders = true := by kernel_rfl
theorem RB0 : (type_of% @one_0) ∧ (type_of% @V_nil) ∧ (type_of% @V_op) ∧ (type_of% @Okr_value) ∧ (type_of% @E_nil) ∧ (type_of% @E_op) ∧ (type_of% @E_opg) ∧ (type_of% @S_nil) ∧ (type_of% @S_op) ∧ (type_of% @S_opg) ∧ (type_of% @W_skip) ∧ (type_of% @W_region) ∧ (type_of% @trivial) := ⟨@one_0, @V_nil, @V_op, @Okr_value, @E_nil, @E_op, @E_opg, @S_nil, @S_op, @S_opg, @W_skip, @W_region, @trivial⟩
theorem RB1 : (type_of% @W_draw) ∧ (type_of% @W_seq) ∧ (type_of% @W_block) ∧ (type_of% @W_exit) ∧ (type_of% @W_ret) ∧ (type_of% @W_loop) ∧ (type_of% @W_goto) ∧ (type_of% @W_label) ∧ (type_of% @W_scope) ∧ (type_of% @thenX_goto) ∧ (type_of% @inX_goto) ∧ (type_of% @jumpX_normal) ∧ (type_of% @trivial) := ⟨@W_draw, @W_seq, @W_block, @W_exit, @W_ret, @W_loop, @W_goto, @W_label, @W_scope, @thenX_goto, @inX_goto, @jumpX_normal, @trivial⟩
theorem RB2 : (type_of% @jumpX_ret) ∧ (type_of% @jumpX_exit) ∧ (type_of% @jumpX_goto) ∧ (type_of% @thenX_normal) ∧ (type_of% @thenX_ret) ∧ (type_of% @thenX_exit) ∧ (type_of% @inX_normal) ∧ (type_of% @inX_ret) ∧ (type_of% @inX_exit_same) ∧ (type_of% @inX_exit_ne) ∧ (type_of% @Okv_value) ∧ (type_of% @Okv_skip) ∧ (type_of% @trivial) := ⟨@jumpX_ret, @jumpX_exit, @jumpX_goto, @thenX_normal, @thenX_ret, @thenX_exit, @inX_normal, @inX_ret, @inX_exit_same, @inX_exit_ne, @Okv_value, @Okv_skip, @trivial⟩
theorem RB3 : (type_of% @Oks_value) ∧ (type_of% @GB_true) ∧ (type_of% @GB_false) ∧ (type_of% @GB_value) ∧ (type_of% @GS_true) ∧ (type_of% @GS_false) ∧ (type_of% @GS_value) ∧ (type_of% @put_none) ∧ (type_of% @put_some) ∧ (type_of% @upd_apply) ∧ (type_of% @ev_tmp) ∧ (type_of% @ev_const) ∧ (type_of% @trivial) := ⟨@Oks_value, @GB_true, @GB_false, @GB_value, @GS_true, @GS_false, @GS_value, @put_none, @put_some, @upd_apply, @ev_tmp, @ev_const, @trivial⟩
theorem RB4 : (type_of% @ev_global) ∧ (type_of% @ev_func) ∧ (type_of% @isB_bool) ∧ (type_of% @isB_cv) ∧ (type_of% @isB_undef) ∧ (type_of% @beq_t) ∧ (type_of% @beq_f) ∧ (type_of% @cv_true) ∧ (type_of% @cv_false) ∧ (type_of% @pk_true) ∧ (type_of% @pk_false) ∧ (type_of% @pk_or) ∧ (type_of% @trivial) := ⟨@ev_global, @ev_func, @isB_bool, @isB_cv, @isB_undef, @beq_t, @beq_f, @cv_true, @cv_false, @pk_true, @pk_false, @pk_or, @trivial⟩
theorem RB5 : (type_of% @pk_and) ∧ (type_of% @pk_bool) ∧ (type_of% @r_move) ∧ (type_of% @r_assign) ∧ (type_of% @r_pick) ∧ (type_of% @r_bin) ∧ (type_of% @r_un) ∧ (type_of% @r_load) ∧ (type_of% @r_store) ∧ (type_of% @r_fieldAddr) ∧ (type_of% @r_indexAddr) ∧ (type_of% @r_index) ∧ (type_of% @trivial) := ⟨@pk_and, @pk_bool, @r_move, @r_assign, @r_pick, @r_bin, @r_un, @r_load, @r_store, @r_fieldAddr, @r_indexAddr, @r_index, @trivial⟩
theorem RB6 : (type_of% @r_field) ∧ (type_of% @r_box) ∧ (type_of% @r_alloc) ∧ (type_of% @r_extract) ∧ (type_of% @r_convert) ∧ (type_of% @r_nil) ∧ (type_of% @r_len) ∧ (type_of% @r_call) ∧ (type_of% @vPick_bool) ∧ (type_of% @vNil_some) ∧ (type_of% @vBin_lss) ∧ (type_of% @vBin_leq) ∧ (type_of% @trivial) := ⟨@r_field, @r_box, @r_alloc, @r_extract, @r_convert, @r_nil, @r_len, @r_call, @vPick_bool, @vNil_some, @vBin_lss, @vBin_leq, @trivial⟩
theorem RB7 : (type_of% @vBin_gtr) ∧ (type_of% @vBin_geq) ∧ (type_of% @vBin_eql) ∧ (type_of% @vBin_neq) ∧ (type_of% @vBin_add) ∧ (type_of% @vBin_sub) ∧ (type_of% @vBin_mul) ∧ (type_of% @vBin_eqls) ∧ (type_of% @vBin_neqs) ∧ (type_of% @vBin_quo) ∧ (type_of% @vBin_rem) ∧ (type_of% @vBin_enil) ∧ (type_of% @trivial) := ⟨@vBin_gtr, @vBin_geq, @vBin_eql, @vBin_neq, @vBin_add, @vBin_sub, @vBin_mul, @vBin_eqls, @vBin_neqs, @vBin_quo, @vBin_rem, @vBin_enil, @trivial⟩
theorem RB8 : (type_of% @vBin_nnil) ∧ (type_of% @vBin_eqlb) ∧ (type_of% @vBin_neqb) ∧ (type_of% @r_makeMap) ∧ (type_of% @r_lookup) ∧ (type_of% @r_mapUpdate) ∧ (type_of% @vMakeMap_at) ∧ (type_of% @r_build) ∧ (type_of% @vBuild_at) ∧ (type_of% @bldT_some) ∧ (type_of% @r_buildSlice) ∧ (type_of% @vBuildSlice_at) ∧ (type_of% @trivial) := ⟨@vBin_nnil, @vBin_eqlb, @vBin_neqb, @r_makeMap, @r_lookup, @r_mapUpdate, @vMakeMap_at, @r_build, @vBuild_at, @bldT_some, @r_buildSlice, @vBuildSlice_at, @trivial⟩
theorem RB9 : (type_of% @bslT_some) ∧ (type_of% @r_makeSlice) ∧ (type_of% @r_append) ∧ (type_of% @vUn_not) ∧ (type_of% @vLoad_at) ∧ (type_of% @lk_some) ∧ (type_of% @lkA_some) ∧ (type_of% @ldT_one) ∧ (type_of% @ldT_agg) ∧ (type_of% @vFieldAddr_at) ∧ (type_of% @faT_some) ∧ (type_of% @vIndexAddr_at) ∧ (type_of% @trivial) := ⟨@bslT_some, @r_makeSlice, @r_append, @vUn_not, @vLoad_at, @lk_some, @lkA_some, @ldT_one, @ldT_agg, @vFieldAddr_at, @faT_some, @vIndexAddr_at, @trivial⟩
theorem RB10 : (type_of% @iaT_some) ∧ (type_of% @vIndex_str) ∧ (type_of% @stT_true) ∧ (type_of% @vStore_int) ∧ (type_of% @vStore_bool) ∧ (type_of% @vStore_str) ∧ (type_of% @vStore_ptr) ∧ (type_of% @vStore_slc) ∧ (type_of% @vStore_map) ∧ (type_of% @soT_ok) ∧ (type_of% @vStore_agg) ∧ (type_of% @vStore_aggN) ∧ (type_of% @trivial) := ⟨@iaT_some, @vIndex_str, @stT_true, @vStore_int, @vStore_bool, @vStore_str, @vStore_ptr, @vStore_slc, @vStore_map, @soT_ok, @vStore_agg, @vStore_aggN, @trivial⟩
theorem RB11 : (type_of% @setCells_nil) ∧ (type_of% @setCells_cons) ∧ (type_of% @cS_same) ∧ (type_of% @cS_other) ∧ (type_of% @World.frozen?_setCell) ∧ (type_of% @World.frozen?_drew) ∧ (type_of% @World.frozen?_alloc_at) ∧ (type_of% @World.frozen?_alloc_past) ∧ (type_of% @vLen_str) ∧ (type_of% @vLen_slc) ∧ (type_of% @ifB_true) ∧ (type_of% @vBox_at) ∧ (type_of% @trivial) := ⟨@setCells_nil, @setCells_cons, @cS_same, @cS_other, @World.frozen?_setCell, @World.frozen?_drew, @World.frozen?_alloc_at, @World.frozen?_alloc_past, @vLen_str, @vLen_slc, @ifB_true, @vBox_at, @trivial⟩
theorem RB12 : (type_of% @vAlloc_at) ∧ (type_of% @alT_some) ∧ (type_of% @vCall_at) ∧ (type_of% @vExtract_0) ∧ (type_of% @vExtract_1) ∧ (type_of% @vExtract_2) ∧ (type_of% @post_normal) ∧ (type_of% @post_ret) ∧ (type_of% @resE_list) ∧ (type_of% @resL_nil) ∧ (type_of% @resL_tmp) ∧ (type_of% @resL_cell) ∧ (type_of% @trivial) := ⟨@vAlloc_at, @alT_some, @vCall_at, @vExtract_0, @vExtract_1, @vExtract_2, @post_normal, @post_ret, @resE_list, @resL_nil, @resL_tmp, @resL_cell, @trivial⟩
theorem RB13 : (type_of% @one_1) ∧ (type_of% @one_2) ∧ (type_of% @resC_at) ∧ (type_of% @resV_value) ∧ (type_of% @condX_bool) ∧ (type_of% @cast1) ∧ (type_of% @World.size_alloc) ∧ (type_of% @World.size_setCell) ∧ (type_of% @World.size_drew) ∧ (type_of% @World.cell?_alloc_at) ∧ (type_of% @World.cell?_alloc_past) ∧ (type_of% @World.setCell_alloc_at) ∧ (type_of% @trivial) := ⟨@one_1, @one_2, @resC_at, @resV_value, @condX_bool, @cast1, @World.size_alloc, @World.size_setCell, @World.size_drew, @World.cell?_alloc_at, @World.cell?_alloc_past, @World.setCell_alloc_at, @trivial⟩
theorem RB14 : (type_of% @World.setCell_alloc_past) ∧ (type_of% @World.cell?_drew) ∧ (type_of% @World.alloc_drew) ∧ (type_of% @World.setCell_drew) ∧ (type_of% @cells_int) ∧ (type_of% @cells_bool) ∧ (type_of% @cells_str) ∧ (type_of% @cells_ptr) ∧ (type_of% @cells_slc) ∧ (type_of% @cells_map) ∧ (type_of% @cells_agg) ∧ (type_of% @Nat.add_zero) ∧ (type_of% @trivial) := ⟨@World.setCell_alloc_past, @World.cell?_drew, @World.alloc_drew, @World.setCell_drew, @cells_int, @cells_bool, @cells_str, @cells_ptr, @cells_slc, @cells_map, @cells_agg, @Nat.add_zero, @trivial⟩
theorem RB15 : (type_of% @Nat.zero_add) ∧ (type_of% @Nat.mul_one) ∧ (type_of% @Nat.zero_mul) ∧ (type_of% @Bool.false_eq_true) ∧ (type_of% @Bool.true_and) ∧ (type_of% @Bool.and_true) ∧ (type_of% @Bool.false_and) ∧ (type_of% @Bool.and_false) ∧ (type_of% @Bool.or_true) ∧ (type_of% @Bool.true_or) ∧ (type_of% @Bool.false_or) ∧ (type_of% @Bool.or_false) ∧ (type_of% @trivial) := ⟨@Nat.zero_add, @Nat.mul_one, @Nat.zero_mul, @Bool.false_eq_true, @Bool.true_and, @Bool.and_true, @Bool.false_and, @Bool.and_false, @Bool.or_true, @Bool.true_or, @Bool.false_or, @Bool.or_false, @trivial⟩
theorem RB16 : (type_of% @Bool.not_true) ∧ (type_of% @Bool.not_false) ∧ (type_of% @true_and) ∧ (type_of% @and_true) ∧ (type_of% @Int.toNat_natCast) ∧ (type_of% @r_callv) ∧ (type_of% @vCallv_func) ∧ (type_of% @r_slice) ∧ (type_of% @slT_true) ∧ (type_of% @vSlice_lh) ∧ (type_of% @vSlice_l) ∧ (type_of% @vSlice_h) ∧ (type_of% @trivial) := ⟨@Bool.not_true, @Bool.not_false, @true_and, @and_true, @Int.toNat_natCast, @r_callv, @vCallv_func, @r_slice, @slT_true, @vSlice_lh, @vSlice_l, @vSlice_h, @trivial⟩
theorem RB17 : (type_of% @shT_some) ∧ (type_of% @vSlice_sh) ∧ (type_of% @vBin_adds) ∧ (type_of% @cvT_ok) ∧ (type_of% @vConvert_int) ∧ (type_of% @wrap_i32) ∧ (type_of% @wrap_i64) ∧ (type_of% @wrap_u8) ∧ (type_of% @vBin_rem8) ∧ (type_of% @vBin_add8) ∧ (type_of% @r_range) ∧ (type_of% @vRange_str) ∧ (type_of% @trivial) := ⟨@shT_some, @vSlice_sh, @vBin_adds, @cvT_ok, @vConvert_int, @wrap_i32, @wrap_i64, @wrap_u8, @vBin_rem8, @vBin_add8, @r_range, @vRange_str, @trivial⟩
theorem RB18 : (type_of% @r_next) ∧ (type_of% @wrap_u64) ∧ (type_of% @vBin_addU) ∧ (type_of% @vBin_subU) ∧ (type_of% @vBin_mulU) ∧ (type_of% @vBin_quoU) ∧ (type_of% @vBin_remU) ∧ (type_of% @vBin_sub8) ∧ (type_of% @vBin_quo8) ∧ (type_of% @vBin_shl4U) ∧ (type_of% @vBin_shl48) ∧ (type_of% @vBin_shr48) ∧ (type_of% @trivial) := ⟨@r_next, @wrap_u64, @vBin_addU, @vBin_subU, @vBin_mulU, @vBin_quoU, @vBin_remU, @vBin_sub8, @vBin_quo8, @vBin_shl4U, @vBin_shl48, @vBin_shr48, @trivial⟩
theorem RB19 : (type_of% @vBin_shrU) ∧ (type_of% @vBin_and15U) ∧ (type_of% @vBin_and158) ∧ (type_of% @vBin_or16U) ∧ (type_of% @vBin_or168) ∧ (type_of% @r_makeFunc) ∧ (type_of% @vCallv_caps) ∧ (type_of% @vUn_negI) ∧ (type_of% @r_min) ∧ (type_of% @vMin_int) ∧ (type_of% @Tryd.results2) ∧ (type_of% @Tryd.results3) ∧ (type_of% @trivial) := ⟨@vBin_shrU, @vBin_and15U, @vBin_and158, @vBin_or16U, @vBin_or168, @r_makeFunc, @vCallv_caps, @vUn_negI, @r_min, @vMin_int, @Tryd.results2, @Tryd.results3, @trivial⟩
theorem RB20 : (type_of% @Tryd.results4) ∧ (type_of% @Tryd.results5) ∧ (type_of% @Tryd.results6) ∧ (type_of% @Tryd.results7) ∧ (type_of% @Tryd.results8) ∧ (type_of% @Tryd.results9) ∧ (type_of% @Tryd.results10) ∧ (type_of% @Tryd.results11) ∧ (type_of% @Tryd.results12) ∧ (type_of% @Tryd.results13) ∧ (type_of% @Tryd.results14) ∧ (type_of% @Tryd.results15) ∧ (type_of% @trivial) := ⟨@Tryd.results4, @Tryd.results5, @Tryd.results6, @Tryd.results7, @Tryd.results8, @Tryd.results9, @Tryd.results10, @Tryd.results11, @Tryd.results12, @Tryd.results13, @Tryd.results14, @Tryd.results15, @trivial⟩
theorem RB21 : (type_of% @Tryd.results16) ∧ (type_of% @Tryd.results17) ∧ (type_of% @Tryd.results18) ∧ (type_of% @Tryd.results19) ∧ (type_of% @Tryd.results20) ∧ (type_of% @Tryd.results21) ∧ (type_of% @Tryd.results22) ∧ (type_of% @Tryd.results23) ∧ (type_of% @Tryd.results24) ∧ (type_of% @Tryd.results25) ∧ (type_of% @Tryd.results26) ∧ (type_of% @Tryd.results27) ∧ (type_of% @trivial) := ⟨@Tryd.results16, @Tryd.results17, @Tryd.results18, @Tryd.results19, @Tryd.results20, @Tryd.results21, @Tryd.results22, @Tryd.results23, @Tryd.results24, @Tryd.results25, @Tryd.results26, @Tryd.results27, @trivial⟩
theorem RB22 : (type_of% @Tryd.results28) ∧ (type_of% @Tryd.results29) ∧ (type_of% @Tryd.results30) ∧ (type_of% @Tryd.results31) ∧ (type_of% @Tryd.results32) ∧ (type_of% @Tryd.results33) ∧ (type_of% @Tryd.results34) ∧ (type_of% @Tryd.results35) ∧ (type_of% @Tryd.results36) ∧ (type_of% @Tryd.results37) ∧ (type_of% @Tryd.results38) ∧ (type_of% @Tryd.results39) ∧ (type_of% @trivial) := ⟨@Tryd.results28, @Tryd.results29, @Tryd.results30, @Tryd.results31, @Tryd.results32, @Tryd.results33, @Tryd.results34, @Tryd.results35, @Tryd.results36, @Tryd.results37, @Tryd.results38, @Tryd.results39, @trivial⟩
theorem RB23 : (type_of% @Tryd.results40) ∧ (type_of% @Tryd.results41) ∧ (type_of% @Tryd.results42) ∧ (type_of% @Tryd.results43) ∧ (type_of% @Tryd.results44) ∧ (type_of% @Tryd.results45) ∧ (type_of% @Tryd.results46) ∧ (type_of% @Tryd.results47) ∧ (type_of% @Tryd.results48) ∧ (type_of% @Tryd.results49) ∧ (type_of% @Tryd.results50) ∧ (type_of% @Tryd.results53) ∧ (type_of% @trivial) := ⟨@Tryd.results40, @Tryd.results41, @Tryd.results42, @Tryd.results43, @Tryd.results44, @Tryd.results45, @Tryd.results46, @Tryd.results47, @Tryd.results48, @Tryd.results49, @Tryd.results50, @Tryd.results53, @trivial⟩
theorem RB24 : (type_of% @Tryd.results54) ∧ (type_of% @Tryd.results55) ∧ (type_of% @Tryd.results56) ∧ (type_of% @Tryd.results57) ∧ (type_of% @Tryd.results58) ∧ (type_of% @Tryd.results59) ∧ (type_of% @Tryd.results60) ∧ (type_of% @Tryd.results61) ∧ (type_of% @Tryd.results63) ∧ (type_of% @Tryd.results64) ∧ (type_of% @Tryd.results65) ∧ (type_of% @Tryd.results66) ∧ (type_of% @trivial) := ⟨@Tryd.results54, @Tryd.results55, @Tryd.results56, @Tryd.results57, @Tryd.results58, @Tryd.results59, @Tryd.results60, @Tryd.results61, @Tryd.results63, @Tryd.results64, @Tryd.results65, @Tryd.results66, @trivial⟩
theorem RB25 : (type_of% @Tryd.results67) ∧ (type_of% @Tryd.results68) ∧ (type_of% @Tryd.results69) ∧ (type_of% @Tryd.results70) ∧ (type_of% @Tryd.results71) ∧ (type_of% @Tryd.results72) ∧ (type_of% @Tryd.results73) ∧ (type_of% @Tryd.results74) ∧ (type_of% @Tryd.results75) ∧ (type_of% @Tryd.results76) ∧ (type_of% @Tryd.results77) ∧ (type_of% @Tryd.results78) ∧ (type_of% @trivial) := ⟨@Tryd.results67, @Tryd.results68, @Tryd.results69, @Tryd.results70, @Tryd.results71, @Tryd.results72, @Tryd.results73, @Tryd.results74, @Tryd.results75, @Tryd.results76, @Tryd.results77, @Tryd.results78, @trivial⟩
theorem RB26 : (type_of% @Tryd.results79) ∧ (type_of% @Tryd.results80) ∧ (type_of% @Tryd.results81) ∧ (type_of% @Tryd.results82) ∧ (type_of% @Tryd.results108) ∧ (type_of% @trivial) := ⟨@Tryd.results79, @Tryd.results80, @Tryd.results81, @Tryd.results82, @Tryd.results108, @trivial⟩
theorem SB0 : (type_of% @decide_true) ∧ (type_of% @decide_false) ∧ (type_of% @Option.isNone_some.{0}) ∧ (type_of% @Option.isNone_none.{0}) ∧ (type_of% @Option.isSome_some.{0}) ∧ (type_of% @Option.isSome_none.{0}) ∧ (type_of% @List.length_cons.{0}) ∧ (type_of% @List.length_nil.{0}) ∧ (type_of% @List.cons_append.{0}) ∧ (type_of% @List.nil_append.{0}) ∧ (type_of% @List.size_toArray.{0}) ∧ (type_of% @List.setIfInBounds_toArray.{0}) ∧ (type_of% @trivial) := ⟨@decide_true, @decide_false, @Option.isNone_some.{0}, @Option.isNone_none.{0}, @Option.isSome_some.{0}, @Option.isSome_none.{0}, @List.length_cons.{0}, @List.length_nil.{0}, @List.cons_append.{0}, @List.nil_append.{0}, @List.size_toArray.{0}, @List.setIfInBounds_toArray.{0}, @trivial⟩
theorem SB1 : (type_of% @List.set_cons_zero.{0}) ∧ (type_of% @List.set_cons_succ.{0}) ∧ (type_of% @Option.map_some.{0,0}) ∧ (type_of% @Option.map_none.{0,0}) ∧ (type_of% @List.getElem?_toArray.{0}) ∧ (type_of% @List.getElem?_cons_zero.{0}) ∧ (type_of% @List.getElem?_cons_succ.{0}) ∧ (type_of% @Option.bind_some.{0,0}) ∧ (type_of% @Option.bind_none.{0,0}) ∧ (type_of% @List.map_cons.{0,0}) ∧ (type_of% @List.map_nil.{0,0}) ∧ (type_of% @trivial) := ⟨@List.set_cons_zero.{0}, @List.set_cons_succ.{0}, @Option.map_some.{0,0}, @Option.map_none.{0,0}, @List.getElem?_toArray.{0}, @List.getElem?_cons_zero.{0}, @List.getElem?_cons_succ.{0}, @Option.bind_some.{0,0}, @Option.bind_none.{0,0}, @List.map_cons.{0,0}, @List.map_nil.{0,0}, @trivial⟩
theorem TS : (type_of% @Bool.false_eq_true) ∧ (type_of% @false_or) ∧ (type_of% @or_false) ∧ (type_of% @true_and) ∧ (type_of% @and_true) ∧ (type_of% @not_false_eq_true) ∧ (type_of% @Bool.true_eq_false) ∧ (type_of% @decide_eq_true_eq) ∧ (type_of% @decide_eq_false_iff_not) ∧ (type_of% @Bool.not_eq_true') ∧ (type_of% @Bool.not_eq_false') ∧ (type_of% @Bool.and_eq_true) ∧ (type_of% @Bool.or_eq_true) ∧ (type_of% @Bool.and_eq_false_iff) ∧ (type_of% @Bool.or_eq_false_iff) ∧ (type_of% @Bool.not_not) ∧ (type_of% @Classical.not_not) ∧ (type_of% @trivial) := ⟨@Bool.false_eq_true, @false_or, @or_false, @true_and, @and_true, @not_false_eq_true, @Bool.true_eq_false, @decide_eq_true_eq, @decide_eq_false_iff_not, @Bool.not_eq_true', @Bool.not_eq_false', @Bool.and_eq_true, @Bool.or_eq_true, @Bool.and_eq_false_iff, @Bool.or_eq_false_iff, @Bool.not_not, @Classical.not_not, @trivial⟩
theorem SZ : (type_of% @World.size_alloc) ∧ (type_of% @World.size_setCell) ∧ (type_of% @World.size_drew) ∧ (type_of% @trivial) := ⟨@World.size_alloc, @World.size_setCell, @World.size_drew, @trivial⟩
theorem RZ : (type_of% @RB0) ∧ (type_of% @RB1) ∧ (type_of% @RB2) ∧ (type_of% @RB3) ∧ (type_of% @RB4) ∧ (type_of% @RB5) ∧ (type_of% @RB6) ∧ (type_of% @RB7) ∧ (type_of% @RB8) ∧ (type_of% @RB9) ∧ (type_of% @RB10) ∧ (type_of% @RB11) ∧ (type_of% @RB12) ∧ (type_of% @RB13) ∧ (type_of% @RB14) ∧ (type_of% @RB15) ∧ (type_of% @RB16) ∧ (type_of% @RB17) ∧ (type_of% @RB18) ∧ (type_of% @RB19) ∧ (type_of% @RB20) ∧ (type_of% @RB21) ∧ (type_of% @RB22) ∧ (type_of% @RB23) ∧ (type_of% @RB24) ∧ (type_of% @RB25) ∧ (type_of% @RB26) ∧ (type_of% @SB0) ∧ (type_of% @SB1) ∧ (type_of% @MX) ∧ (type_of% @BF) ∧ (type_of% @TY0) ∧ (type_of% @TY1) ∧ (type_of% @TY2) ∧ (type_of% @TY3) ∧ (type_of% @TY4) ∧ (type_of% @TY5) ∧ (type_of% @TY6) ∧ (type_of% @TY7) ∧ (type_of% @TY8) ∧ (type_of% @TY9) ∧ (type_of% @TY10) ∧ (type_of% @TY11) ∧ (type_of% @trivial) := ⟨@RB0, @RB1, @RB2, @RB3, @RB4, @RB5, @RB6, @RB7, @RB8, @RB9, @RB10, @RB11, @RB12, @RB13, @RB14, @RB15, @RB16, @RB17, @RB18, @RB19, @RB20, @RB21, @RB22, @RB23, @RB24, @RB25, @RB26, @SB0, @SB1, @MX, @BF, @TY0, @TY1, @TY2, @TY3, @TY4, @TY5, @TY6, @TY7, @TY8, @TY9, @TY10, @TY11, @trivial⟩
end Go.Proofs.YtjaeiiiniohloaaDoor
