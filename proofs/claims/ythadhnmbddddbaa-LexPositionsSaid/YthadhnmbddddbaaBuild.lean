/- The engine's rules for struct literals, slice literals, make, append. -/
import Derived.Test.YthadhnmbddddbaaMap
import Derived.Maps.AppendAt
namespace Go.Proofs.Ythadhnmbddddbaa
open Go.RowKit
section
variable {P : Program} {T : TypeId} {w : World}
/-- Cells laid over a list from place k on. -/
def ovw : List Value → Nat → List Value → List Value
  | cs, 0, [] => cs
  | [], _, _ => []
  | _ :: cs, 0, v :: vs => v :: ovw cs 0 vs
  | c :: cs, k + 1, vs => c :: ovw cs k vs
theorem ovw_nil : ∀ (cs : List Value) (k : Nat), ovw cs k [] = cs
  | [], 0 => rfl
  | [], _ + 1 => rfl
  | _ :: _, 0 => rfl
  | c :: cs, k + 1 => by rw [ovw, ovw_nil cs k]
theorem ovw_length : ∀ (cs : List Value) (k : Nat) (vs : List Value), (ovw cs k vs).length = cs.length
  | [], 0, [] => rfl
  | [], 0, _ :: _ => rfl
  | [], _ + 1, _ => rfl
  | _ :: _, 0, [] => rfl
  | _ :: cs, 0, v :: vs => by rw [ovw, List.length_cons, List.length_cons, ovw_length cs 0 vs]
  | c :: cs, k + 1, vs => by rw [ovw, List.length_cons, List.length_cons, ovw_length cs k vs]
theorem ovw_cons : ∀ (cs : List Value) (k : Nat) (v : Value) (vs : List Value), ovw cs k (v :: vs) = ovw (cs.set k v) (k + 1) vs
  | [], 0, v, vs => by simp [ovw]
  | [], k + 1, v, vs => by simp [ovw]
  | c :: cs, 0, v, vs => by simp [ovw]
  | c :: cs, k + 1, v, vs => by simp only [List.set_cons_succ, ovw]; rw [ovw_cons cs k v vs]
theorem foldl_ovw : ∀ (vs : List Value) (j off : Nat) (cells : Array Value), ((vs.zipIdx j).foldl (fun cs (p : Value × Nat) => cs.setIfInBounds (off + p.2) p.1) cells).toList = ovw cells.toList (off + j) vs
  | [], j, off, cells => by simp [ovw_nil]
  | v :: vs, j, off, cells => by
    rw [List.zipIdx_cons, List.foldl_cons, foldl_ovw vs (j + 1) off, ovw_cons, Array.toList_setIfInBounds]; rfl
def fillL (pl : Nat → Option (Nat × Nat)) : List Value → List (Nat × Value) → Option (List Value)
  | cs, [] => some cs
  | cs, (i, v) :: r => match pl i with
    | none => none
    | some (off, size) => if v.cells.size = size ∧ off + size ≤ cs.length then fillL pl (ovw cs off v.cells.toList) r else none
theorem fill_is (pl : Nat → Option (Nat × Nat)) : ∀ (l : List (Nat × Value)) (cells : Array Value) (cs : List Value), fillL pl cells.toList l = some cs → Instr.fill pl cells l = some cs.toArray
  | [], cells, cs, h => by
    simp only [fillL, Option.some.injEq] at h
    subst h; simp [Instr.fill]
  | (i, v) :: r, cells, cs, h => by
    rw [fillL] at h
    rw [Instr.fill]
    cases hp : pl i with
    | none => rw [hp] at h; cases h
    | some q =>
      obtain ⟨off, size⟩ := q
      rw [hp] at h
      simp only at h
      by_cases hc : v.cells.size = size ∧ off + size ≤ cells.toList.length
      · rw [if_pos hc] at h
        obtain ⟨h1, h2⟩ := hc
        have h3 : ¬ (v.cells.size ≠ size || decide (off + v.cells.size > cells.size)) = true := by
          simp only [ne_eq, h1, Bool.or_eq_true, decide_eq_true_eq, not_true, false_or, decide_not, decide_true, Bool.not_true, Bool.false_eq_true]
          simp at h2; omega
        simp only [h3]
        refine fill_is pl r _ cs ?_
        rw [← h]
        congr 1
        have := foldl_ovw v.cells.toList 0 off cells
        simp only [Nat.add_zero] at this
        rw [← this, ← Array.foldl_toList]
        congr 1
        simp
      · rw [if_neg hc] at h; cases h
def vBuild (P : Program) (T : TypeId) (l : List (Nat × Value)) (w : World) : Result Next := (do pure (.value (← Instr.build T l.toArray)) : Sem Next).run P w
theorem r_build (ty : TypeId) (σ : Sl) (l : List (Nat × Operand)) : run1 P (.build T l.toArray) ty σ w = vBuild P T (l.map fun p => (p.1, ev σ p.2)) w := by
  simp [run1, execOp, vBuild]
/-- The places of a struct's fields: offset and size of each. -/
def plT (P : Program) (T : TypeId) : Option (List (Nat × Nat)) := match P.underlying T with
  | some (.struct fs) => fs.toList.mapM fun f => (P.info? f.type).map fun i => (f.offset, i.size)
  | _ => none
def bldT (z : Option Value) (pl : Option (List (Nat × Nat))) (l : List (Nat × Value)) (w : World) (j : Result Next) : Result Next := match z, pl with
  | some (.agg zs), some pl => match fillL (fun i => pl[i]?) zs.toList l with
    | some cs => .ok (.value (.agg cs.toArray)) w
    | none => j
  | _, _ => j
theorem bldT_some {zs : List Value} {pl : List (Nat × Nat)} {l : List (Nat × Value)} (j : Result Next) : bldT (some (.agg zs.toArray)) (some pl) l w j = match fillL (fun i => pl[i]?) zs l with
    | some cs => .ok (.value (.agg cs.toArray)) w
    | none => j := nr rfl
def jBuild (P : Program) (T : TypeId) (l : List (Nat × Value)) (w : World) : Result Next := vBuild P T l w
theorem run_mapM_places (fs : List Field) (pl : List (Nat × Nat)) (h : fs.mapM (fun f => (P.info? f.type).map fun i => (f.offset, i.size)) = some pl) :
    (fs.mapM (fun f => Prod.mk f.offset <$> sizeOf f.type)).run P w = .ok pl w := by
  induction fs generalizing pl with
  | nil => simp only [List.mapM_nil] at h ⊢; injection h with h; subst h; rfl
  | cons f r ih =>
    rw [List.mapM_cons] at h ⊢
    cases hi : P.info? f.type with
    | none => rw [hi] at h; cases h
    | some i =>
      rw [hi] at h
      cases hr : r.mapM (fun f => (P.info? f.type).map fun i => (f.offset, i.size)) with
      | none => rw [hr] at h; cases h
      | some pr =>
        rw [hr] at h
        injection h with h
        subst h
        have hs : (sizeOf f.type).run P w = .ok i.size w := by simp [sizeOf, typeInfo, hi]
        simp [Sem.run_bind, hs, ih pr hr]
theorem vBuild_at {l : List (Nat × Value)} : vBuild P T l w = bldT (zeroV P T) (plT P T) l w (jBuild P T l w) := by
  unfold jBuild bldT
  split
  · rename_i zs pl hz hp
    split
    · rename_i cs hc
      unfold zeroV at hz
      cases hq : P.info? T with
      | none => rw [hq] at hz; cases hz
      | some inf =>
        rw [hq] at hz
        have hz' : inf.zero = some (.agg zs) := hz
        unfold plT at hp
        cases hd : P.underlying T with
        | none => rw [hd] at hp; cases hp
        | some d =>
          rw [hd] at hp
          cases d with
          | struct fs =>
            have h1 := run_mapM_places (P := P) (w := w) fs.toList pl hp
            have h2 := fill_is (fun i => pl[i]?) l zs cs hc
            have h3 : Instr.fill (fun i => pl.toArray[i]?) zs l = some cs.toArray := by rw [← h2]; congr 1; funext i; simp
            simp [vBuild, Instr.build, Sem.run_bind, zeroValue, typeInfo, hq, hz', run_underlying hd w, Array.mapM_eq_mapM_toList, h1, h2, Value.cells]
          | _ => cases hp
    · rfl
  · rfl
/-- A slice literal with all its elements, or none. -/
def catL (n : Nat) : List Value → Option (List Value)
  | [] => some []
  | v :: r => if v.cells.size = n then (catL n r).map (v.cells.toList ++ ·) else none
def sliceI (P : Program) (T : TypeId) : Option (TypeId × Nat × Nat) := match P.underlying T with
  | some (.slice e) => (P.info? e).bind fun i => i.zero.bind fun z => if z.cells.size = i.size ∧ 0 < i.size then some (e, i.size, i.bytes) else none
  | _ => none
theorem sliceI_is {e : TypeId} {size bytes : Nat} (h : sliceI P T = some (e, size, bytes)) : ∃ inf z, P.underlying T = some (.slice e) ∧ P.info? e = some inf ∧ inf.zero = some z ∧ inf.size = size ∧ inf.bytes = bytes ∧ z.cells.size = size ∧ 0 < size := by
  unfold sliceI at h
  cases hd : P.underlying T with
  | none => rw [hd] at h; cases h
  | some d =>
    rw [hd] at h
    cases d with
    | slice e' =>
      cases hi : P.info? e' with
      | none => simp [hi] at h
      | some inf =>
        cases hz : inf.zero with
        | none => simp [hi, hz] at h
        | some z =>
          simp only [hi, hz, Option.bind_some] at h
          split at h
          · rename_i hc
            simp only [Option.some.injEq, Prod.mk.injEq] at h
            obtain ⟨rfl, rfl, rfl⟩ := h
            exact ⟨inf, z, rfl, hi, hz, rfl, rfl, hc.1, hc.2⟩
          · cases h
    | _ => cases h
theorem ovw_cat : ∀ (pre cs vs : List Value), vs.length ≤ cs.length → ovw (pre ++ cs) pre.length vs = pre ++ vs ++ cs.drop vs.length
  | [], cs, [], _ => by simp [ovw_nil]
  | [], [], _ :: _, h => by simp at h
  | [], c :: cs, v :: vs, h => by
    have := ovw_cat [] cs vs (by simpa using h)
    simp only [List.nil_append, List.length_nil, ovw] at this ⊢
    rw [this]; rfl
  | p :: pre, cs, vs, h => by
    have := ovw_cat pre cs vs h
    simp only [List.cons_append, List.length_cons, ovw]
    rw [this]
theorem fillL_cat (n : Nat) (hn : 0 < n) : ∀ (l : List Value) (i : Nat) (pre cs : List Value) (out : List Value), pre.length = i * n → cs.length = l.length * n → catL n l = some out →
    fillL (fun i => some (i * n, n)) (pre ++ cs) ((l.zipIdx i).map fun p => (p.2, p.1)) = some (pre ++ out)
  | [], i, pre, cs, out, h1, h2, h3 => by
    simp only [catL, Option.some.injEq] at h3
    subst h3
    have : cs = [] := List.eq_nil_of_length_eq_zero (by simpa using h2)
    subst this
    simp [fillL]
  | v :: l, i, pre, cs, out, h1, h2, h3 => by
    rw [catL] at h3
    split at h3
    · rename_i hv
      cases hr : catL n l with
      | none => rw [hr] at h3; cases h3
      | some o2 =>
        rw [hr] at h3
        simp only [Option.map_some, Option.some.injEq] at h3
        subst h3
        simp only [List.zipIdx_cons, List.map_cons, fillL]
        have hlen : n ≤ cs.length := by rw [h2, List.length_cons, Nat.succ_mul]; omega
        rw [if_pos ⟨hv, by rw [List.length_append]; omega⟩]
        have e1 : ovw (pre ++ cs) (i * n) v.cells.toList = (pre ++ v.cells.toList) ++ cs.drop n := by
          have := ovw_cat pre cs v.cells.toList (by simpa [hv] using hlen)
          rw [h1] at this
          rw [this]; simp [hv]
        rw [e1, fillL_cat n hn l (i + 1) (pre ++ v.cells.toList) (cs.drop n) o2 (by simp [h1, hv, Nat.succ_mul]) (by rw [List.length_drop, h2, List.length_cons, Nat.succ_mul]; omega) hr]
        simp
    · cases h3
def vBuildSlice (P : Program) (T : TypeId) (n : Nat) (l : List (Nat × Value)) (w : World) : Result Next := (do pure (.value (← Instr.buildSlice T n l.toArray)) : Sem Next).run P w
theorem r_buildSlice (ty : TypeId) (σ : Sl) (n : Nat) (l : List (Nat × Operand)) : run1 P (.buildSlice T n l.toArray) ty σ w = vBuildSlice P T n (l.map fun p => (p.1, ev σ p.2)) w := by
  simp [run1, execOp, vBuildSlice]
/-- l is numbered 0, 1, .. -/
def numb : Nat → List (Nat × Value) → Option (List Value)
  | _, [] => some []
  | i, (k, v) :: r => if k = i then (numb (i + 1) r).map (v :: ·) else none
theorem numb_is : ∀ (l : List (Nat × Value)) (i : Nat) (vs : List Value), numb i l = some vs → l = (vs.zipIdx i).map fun p => (p.2, p.1)
  | [], i, vs, h => by simp only [numb, Option.some.injEq] at h; subst h; rfl
  | (k, v) :: r, i, vs, h => by
    rw [numb] at h
    split at h
    · rename_i hk
      subst hk
      cases hr : numb (k + 1) r with
      | none => rw [hr] at h; cases h
      | some o =>
        rw [hr] at h
        simp only [Option.map_some, Option.some.injEq] at h
        subst h
        rw [numb_is r (k + 1) o hr]; rfl
    · cases h
def bslT (I : Option (TypeId × Nat × Nat)) (n : Nat) (l : List (Nat × Value)) (w : World) (j : Result Next) : Result Next := match I with
  | some (e, size, _) => match numb 0 l with
    | some vs => match catL size vs with
      | some cs => if vs.length = n ∧ n * size ≤ 1000000 then .ok (.value (.slice (some ⟨w.heap.size, 0, none⟩) n n)) (w.alloc (.cells cs.toArray e)) else j
      | none => j
    | none => j
  | none => j
def jBuildSlice (P : Program) (T : TypeId) (n : Nat) (l : List (Nat × Value)) (w : World) : Result Next := vBuildSlice P T n l w
theorem bslT_some (e : TypeId) (size bytes n : Nat) (l : List (Nat × Value)) (j : Result Next) : bslT (some (e, size, bytes)) n l w j = match numb 0 l with
    | some vs => match catL size vs with
      | some cs => if vs.length = n ∧ n * size ≤ 1000000 then .ok (.value (.slice (some ⟨w.heap.size, 0, none⟩) n n)) (w.alloc (.cells cs.toArray e)) else j
      | none => j
    | none => j := nr rfl
theorem vBuildSlice_at {n : Nat} {l : List (Nat × Value)} : vBuildSlice P T n l w = bslT (sliceI P T) n l w (jBuildSlice P T n l w) := by
  unfold jBuildSlice
  cases hI : sliceI P T with
  | none => rfl
  | some q =>
    obtain ⟨e, size, bytes⟩ := q
    rw [bslT_some]
    split
    · rename_i vs hv
      split
      · rename_i cs hc
        split
        · rename_i hn
          obtain ⟨hn, hn2⟩ := hn
          obtain ⟨inf, z, hT, hi, hz, rfl, rfl, hzs, hpos⟩ := sliceI_is hI
          have hl := numb_is l 0 vs hv
          have hbig : ¬ (n * inf.size > 2 ^ 24) := by omega
          have hfill : ∀ zs : Array Value, zs.size = n * inf.size → Instr.fill (fun i => some (i * inf.size, inf.size)) zs l = some cs.toArray := fun zs hzs' => by
            refine fill_is _ l zs cs ?_
            have := fillL_cat inf.size hpos vs 0 [] zs.toList cs (by simp) (by simp [hzs', hn]) hc
            rw [hl]
            simpa using this
          by_cases h0 : n = 0
          · subst h0
            simp only [vBuildSlice, Instr.buildSlice, Sem.run_bind, run_underlying hT w, Result.andThen, sizeOf, typeInfo, run_program, hi, Sem.run_pure]
            simp [newRow, newObj, Sem.run]
            rw [hfill _ (by simp)]
            simp [Sem.run]
          · have hne : ¬ (n * inf.size = 0) := by
              have := Nat.mul_pos (Nat.pos_of_ne_zero h0) hpos
              omega
            have := hfill ((Array.range (n * inf.size)).map (z.cells[· % z.cells.size]!)) (by simp)
            simp only [vBuildSlice, Instr.buildSlice, Sem.run_bind, run_underlying hT w, Result.andThen, sizeOf, typeInfo, run_program, hi, Sem.run_pure, hbig, if_false, hne, zeroValue, hz, this]
            simp [newRow, newObj, Sem.run]
        · rfl
      · rfl
    · rfl
/-- make([]T, n). -/
def vMakeSlice (P : Program) (T : TypeId) (l c : Value) (w : World) : Result Next := (do pure (.value (← Instr.makeSlice T l c)) : Sem Next).run P w
theorem r_makeSlice (ty : TypeId) (σ : Sl) (l c : Operand) : run1 P (.makeSlice T l c) ty σ w = vMakeSlice P T (ev σ l) (ev σ c) w := nr rfl
theorem vMakeSlice_at {e : TypeId} {size bytes : Nat} {z : Value} {n : Int} (hI : sliceI P T = some (e, size, bytes)) (hz : zeroV P e = some z) (h0 : 0 ≤ n) (h1 : bytes * n ≤ 281474976710656) (h2 : n ≤ 9223372036854775807) :
    vMakeSlice P T (.int .i64 n) (.int .i64 n) w = .ok (.value (.slice (some ⟨w.heap.size, 0, none⟩) n.toNat n.toNat)) (w.alloc (.cells (madeCells z.cells (n.toNat * size)) e)) := by
  obtain ⟨inf, z', hT, hi, hz', rfl, rfl, hzs, hpos⟩ := sliceI_is hI
  have : z' = z := by unfold zeroV at hz; rw [hi] at hz; rw [show (some inf).bind (·.zero) = inf.zero from rfl, hz'] at hz; injection hz
  subst this
  have hr := run_make (P := P) w T e inf z' hT hi hz' .i64 .i64 n n h0 (Int.le_refl _) h1 h2
  simp [vMakeSlice, hr]
theorem flat_at (z : List Value) : ∀ (n i : Nat), i < n * z.length → ((List.replicate n z).flatten)[i]? = z[i % z.length]?
  | 0, i, h => by simp at h
  | n + 1, i, h => by
    rw [List.replicate_succ, List.flatten_cons]
    by_cases hi : i < z.length
    · rw [List.getElem?_append_left hi, Nat.mod_eq_of_lt hi]
    · rw [List.getElem?_append_right (by omega), flat_at z n (i - z.length) (by rw [Nat.succ_mul] at h; omega), Nat.mod_eq_sub_mod (by omega : i ≥ z.length)]
theorem madeCells_flat (z : List Value) (n : Nat) (hz : 0 < z.length) : (madeCells z.toArray (n * z.length)).toList = (List.replicate n z).flatten := by
  apply List.ext_getElem?
  intro i
  by_cases hi : i < n * z.length
  · rw [flat_at z n i hi]
    have hm := Nat.mod_lt i hz
    simp [madeCells, hi, List.getElem?_eq_getElem hm]
  · rw [List.getElem?_eq_none (by simpa [madeCells] using Nat.le_of_not_lt hi), List.getElem?_eq_none (by simpa using Nat.le_of_not_lt hi)]
/-- append. -/
def vAppend (P : Program) (T T2 ty : TypeId) (s x : Value) (w : World) : Result Next := (do pure (.value (← Builtin.append_ #[T, T2] ty #[s, x])) : Sem Next).run P w
theorem r_append (ty T2 : TypeId) (σ : Sl) (s x : Operand) : run1 P (.call ⟨.builtin .append, #[s, x], #[T, T2]⟩) ty σ w = vAppend P T T2 ty (ev σ s) (ev σ x) w := by simp [run1, execOp, resolve, invoke, builtin, vAppend]
theorem vAppend_own {e ty : TypeId} {size bytes base n m c b o : Nat} {v : Value} {xs news : List Value} (hI : sliceI P T = some (e, size, bytes)) (hown : w.ownsRow base e size v n xs)
    (hl : news.length = m * size) (hnews : ∀ j u, news[j]? = some u → w.cell? ⟨b, o + j, none⟩ = some u) (h1 : ∀ u ∈ news, u.oneCell' = true)
    (h63 : n + m ≤ 1000000000) (hbytes : bytes ≤ 10000) (hbase : base ≤ w.heap.size) :
    ∃ A c' w', vAppend P T T ty v (.slice (some ⟨b, o, none⟩) m c) w = .ok (.value (.slice A (n + m) c')) w' ∧ w'.ownsRow base e size (.slice A (n + m) c') (n + m) (xs ++ news) ∧ w.grownBy w' v.ownBlock ∧
      ((Value.slice A (n + m) c').ownBlock = v.ownBlock ∨ (Value.slice A (n + m) c').ownBlock = some w.heap.size) := by
  obtain ⟨inf, z, hT, hi, hz, rfl, rfl, hzs, hpos⟩ := sliceI_is hI
  have hb : (n + m) * inf.bytes ≤ 140737488355328 := Nat.le_trans (Nat.mul_le_mul h63 hbytes) (by decide)
  obtain ⟨v', w', hr, ho, hg, _, hbk⟩ := run_append_own_at (P := P) w base T ty e inf z inf.size inf.bytes hT hi hz rfl rfl hzs hpos v n xs hown ⟨b, o, none⟩ m c news hl
    (fun j u hu => by rw [addr_add]; exact hnews j u hu) h1 (by unfold maxLen; omega) hb hbase
  have hv : ∃ A c', v' = .slice A (n + m) c' := by
    rcases ho.2 with ⟨rfl, h0⟩ | ⟨g, cap, cur, rfl, _⟩
    · exact ⟨none, 0, by rw [h0]⟩
    · exact ⟨_, _, rfl⟩
  obtain ⟨A, c', rfl⟩ := hv
  exact ⟨A, c', w', by simp [vAppend, hr], ho, hg, hbk⟩
end
end Go.Proofs.Ythadhnmbddddbaa
