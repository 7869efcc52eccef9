/- Texts laid one behind the other: CmdArgs, Laid. Each says at its head what it proves. -/
import Derived.Test.YtjaeiiiniohloaaDoorY11
import Derived.ChangeMaps5
import Derived.LaidMore
import Derived.OpenShut
import Derived.Stop.Joined
import Derived.Lib.LaidTab
import Derived.MakeChecks
set_option linter.unusedSimpArgs false
/- Arguments of chapter 57: a command, a list of commands. -/
namespace Go.Proofs.YtjaeiiiniohloaaDoor
open Go.ChangeShapes Go.WideShapes Go.ChangeAt Go.RowKit Go.Joins Go.Deep
set_option maxRecDepth 100000
theorem u64_wf {n : Int} (h : (Lit.int .u64 n).wf = true) : 0 ≤ n ∧ n ≤ 18446744073709551615 := by
  have e1 : IntKind.u64.min = 0 := by decide
  have e2 : IntKind.u64.max = 18446744073709551615 := by decide
  simp only [Lit.wf, Bool.and_eq_true, decide_eq_true_eq, e1, e2] at h
  exact h
theorem i64_wf {n : Int} (h : (Lit.int .i64 n).wf = true) : -9223372036854775808 ≤ n ∧ n ≤ 9223372036854775807 := by
  have e1 : IntKind.i64.min = -9223372036854775808 := by decide
  have e2 : IntKind.i64.max = 9223372036854775807 := by decide
  simp only [Lit.wf, Bool.and_eq_true, decide_eq_true_eq, e1, e2] at h
  exact h
theorem list_of {α : Type} {P : Nat → α → Prop} : ∀ n, (∀ i, i < n → ∃ x, P i x) → ∃ L : List α, L.length = n ∧ ∀ i x, L[i]? = some x → P i x
  | 0, _ => ⟨[], rfl, fun i x h => by simp at h⟩
  | n + 1, h => by
    obtain ⟨L, h1, h2⟩ := list_of n fun i hi => h i (by omega)
    obtain ⟨x, hx⟩ := h n (by omega)
    refine ⟨L ++ [x], by simp [h1], fun i y hy => ?_⟩
    by_cases hi : i < n
    · rw [List.getElem?_append_left (by omega)] at hy; exact h2 i y hy
    · rw [List.getElem?_append_right (by omega)] at hy
      have : i - L.length = 0 := by have := (List.getElem?_eq_some_iff.1 hy).1; simp at this; omega
      rw [this] at hy
      simp only [List.getElem?_cons_zero, Option.some.injEq] at hy
      subst hy
      have : i = n := by omega
      subst this; exact hx
theorem arr_of {α : Type} {enc : α → List Value} {sz n : Nat} {W : World} {a : Addr} (Q : α → Prop) (hne : ∀ x, ∃ v, (enc x)[0]? = some v) (h : ∀ i, i < n → ∃ x : α, Q x ∧ ∀ j v, (enc x)[j]? = some v → W.cell? (a.add (i * sz + j)) = some v) :
    ∃ L : List α, L.length = n ∧ Arr W (some a) sz (L.map enc) ∧ ∀ x ∈ L, Q x := by
  obtain ⟨L, h1, h2⟩ := list_of n h
  refine ⟨L, h1, fun hpos => ?_, fun x hx => by obtain ⟨i, hi⟩ := List.mem_iff_getElem?.1 hx; exact (h2 i x hi).1⟩
  rw [List.length_map] at hpos
  obtain ⟨b, o, s⟩ := a
  obtain ⟨x, hx⟩ : ∃ x, L[0]? = some x := ⟨_, List.getElem?_eq_getElem hpos⟩
  obtain ⟨v, hv⟩ := hne x
  have hc := (h2 0 x hx).2 0 v hv
  rw [Nat.zero_mul, Nat.add_zero] at hc
  cases s with
  | some s =>
    have e : Addr.add ⟨b, o, some s⟩ 0 = ⟨b, o, some s⟩ := if_pos rfl
    rw [e] at hc
    simp only [World.cell?] at hc
    split at hc <;> simp at hc
  | none =>
    rw [addr_add, Nat.add_zero] at hc
    refine ⟨b, o, rfl, ?_, fun i l hl j u hu => ?_⟩
    · simp only [World.cell?] at hc
      cases hb : W.heap[b]? with
      | none => rw [hb] at hc; cases hc
      | some ob => exact (Array.getElem?_eq_some_iff.1 hb).1
    · rw [List.getElem?_map] at hl
      cases hy : L[i]? with
      | none => rw [hy] at hl; cases hl
      | some y =>
        rw [hy] at hl
        simp only [Option.map_some, Option.some.injEq] at hl
        subst hl
        have := (h2 i y hy).2 j u hu
        rw [addr_add] at this
        rw [Nat.add_assoc]; exact this
section
variable {H : Type} {enc : TypeId × Value → H} {W : World} {base n : Nat} {sp : Nat → Bool} {held : Bool}
theorem open_nums {cs : List Value} {y : DataW H × List MemPlace} (h : DataW.trod enc Tryd.prog W base sp held n 22 cs = some y) :
    ∃ (v : Value) (L : List Int), cs = [v] ∧ NumR W v L ∧ (∀ A n k, v = .slice A n k → n ≤ k) ∧ (∀ x ∈ L, -9223372036854775808 ≤ x ∧ x ≤ 9223372036854775807) ∧ L.length ≤ 9223372036854775807 := by
  have hC : Tryd.prog.cellsOf 3 = 1 := by kernel_rfl
  rcases open_slice Tryd.underlying22 h with ⟨rfl, _⟩ | ⟨a, len, cap, m, k, D, Pl, rfl, _, hl, hc, hm, _, hi⟩
  · refine ⟨_, [], rfl, ⟨none, 0, rfl, fun h => by simp at h⟩, ?_, fun x h => (by simp at h), by simp⟩
    intro A n k e
    injection e with _ e1 e2
    omega
  · rw [hC] at hi
    obtain ⟨L, h1, h2, h3⟩ := arr_of (enc := fun x : Int => [Value.int .i64 x]) (sz := 1) (n := len) (W := W) (a := a) (fun x => -9223372036854775808 ≤ x ∧ x ≤ 9223372036854775807) (fun x => ⟨_, rfl⟩) fun i him => by
      obtain ⟨cs', hcs, ht⟩ := hi i (by rw [hm]; split <;> omega)
      obtain ⟨x, rfl, _, hwf⟩ := DataW.trod_int Tryd.underlying3 ht
      obtain ⟨_, _, hat⟩ := World.cells?_some hcs
      refine ⟨x, i64_wf hwf, fun j v hv => ?_⟩
      match j, hv with
      | 0, hv => exact (hat 0 (by omega)).trans hv
      | j + 1, hv => simp at hv
    unfold maxLen at hc
    refine ⟨_, L, rfl, ⟨some a, cap, by rw [h1], h2⟩, ?_, h3, by omega⟩
    intro A n k e
    injection e with _ e1 e2
    omega
/-- The ten cells of a command, opened one by one. -/
theorem cmd_of {v0 v1 v2 v3 v4 v5 v6 v7 v8 v9 : Value} {y0 y1 y2 y3 y4 y5 y6 y7 y8 y9 : DataW H × List MemPlace}
    (t0 : DataW.trod enc Tryd.prog W base sp held n 3 [v0] = some y0) (t1 : DataW.trod enc Tryd.prog W base sp held n 3 [v1] = some y1) (t2 : DataW.trod enc Tryd.prog W base sp held n 3 [v2] = some y2)
    (t3 : DataW.trod enc Tryd.prog W base sp held n 3 [v3] = some y3) (t4 : DataW.trod enc Tryd.prog W base sp held n 3 [v4] = some y4) (t5 : DataW.trod enc Tryd.prog W base sp held n 9 [v5] = some y5)
    (t6 : DataW.trod enc Tryd.prog W base sp held n 9 [v6] = some y6) (t7 : DataW.trod enc Tryd.prog W base sp held n 22 [v7] = some y7) (t8 : DataW.trod enc Tryd.prog W base sp held n 23 [v8] = some y8)
    (t9 : DataW.trod enc Tryd.prog W base sp held n 23 [v9] = some y9) :
    ∃ c : Cm, [v0, v1, v2, v3, v4, v5, v6, v7, v8, v9] = cmV c v7 ∧ c.came ∧ NumR W v7 c.nums ∧ ∀ A n k, v7 = .slice A n k → n ≤ k := by
  obtain ⟨a0, e0, _, w0⟩ := DataW.trod_int Tryd.underlying3 t0
  obtain ⟨a1, e1, _, w1⟩ := DataW.trod_int Tryd.underlying3 t1
  obtain ⟨a2, e2, _, w2⟩ := DataW.trod_int Tryd.underlying3 t2
  obtain ⟨a3, e3, _, w3⟩ := DataW.trod_int Tryd.underlying3 t3
  obtain ⟨a4, e4, _, w4⟩ := DataW.trod_int Tryd.underlying3 t4
  obtain ⟨a5, e5, _, w5⟩ := DataW.trod_string Tryd.underlying9 t5
  obtain ⟨a6, e6, _, w6⟩ := DataW.trod_string Tryd.underlying9 t6
  obtain ⟨v, L, e7, hN, hk, hL, hLn⟩ := open_nums t7
  obtain ⟨a8, e8, _, w8⟩ := DataW.trod_int Tryd.underlying23 t8
  obtain ⟨a9, e9, _, w9⟩ := DataW.trod_int Tryd.underlying23 t9
  simp only [List.cons.injEq, and_true] at e0 e1 e2 e3 e4 e5 e6 e7 e8 e9
  subst e0 e1 e2 e3 e4 e5 e6 e7 e8 e9
  exact ⟨⟨a0, a1, a2, a3, a4, a5, a6, L, a8, a9⟩, rfl, ⟨⟨i64_wf w0, i64_wf w1, i64_wf w2, i64_wf w3, i64_wf w4, hL, u64_wf w8, u64_wf w9⟩, w5, w6, hLn⟩, hN, hk⟩
theorem open_cmds {cs : List Value} {y : DataW H × List MemPlace} (h : DataW.trod enc Tryd.prog W base sp held n 31 cs = some y) :
    ∃ (v : Value) (L : List Cm), cs = [v] ∧ CmsC W v L ∧ (∀ c ∈ L, c.came) ∧ L.length ≤ 9223372036854775807 := by
  rcases open_slice_fields Tryd.underlying31 Tryd.underlying25 (by kernel_rfl) (by kernel_rfl) h with ⟨rfl, _⟩ | ⟨a, len, cap, m, D, Pl, rfl, _, hl, hc, hm, _, hi⟩
  · exact ⟨_, [], rfl, ⟨[], none, 0, rfl, rfl, (fun h => by simp at h), fun p h => by simp at h⟩, fun c h => (by simp at h), by simp⟩
  · obtain ⟨P, h1, h2, h3⟩ := arr_of (enc := encP) (sz := 10) (n := len) (W := W) (a := a) (fun p => p.1.came ∧ NumR W p.2 p.1.nums ∧ ∀ A n k, p.2 = .slice A n k → n ≤ k) (fun x => ⟨_, rfl⟩) fun i him => by
      obtain ⟨ys, k, _, _, _, hf⟩ := hi i (by rw [hm]; split <;> omega)
      obtain ⟨v0, y0, c0, _, t0⟩ := hf 0 _ rfl
      obtain ⟨v1, y1, c1, _, t1⟩ := hf 1 _ rfl
      obtain ⟨v2, y2, c2, _, t2⟩ := hf 2 _ rfl
      obtain ⟨v3, y3, c3, _, t3⟩ := hf 3 _ rfl
      obtain ⟨v4, y4, c4, _, t4⟩ := hf 4 _ rfl
      obtain ⟨v5, y5, c5, _, t5⟩ := hf 5 _ rfl
      obtain ⟨v6, y6, c6, _, t6⟩ := hf 6 _ rfl
      obtain ⟨v7, y7, c7, _, t7⟩ := hf 7 _ rfl
      obtain ⟨v8, y8, c8, _, t8⟩ := hf 8 _ rfl
      obtain ⟨v9, y9, c9, _, t9⟩ := hf 9 _ rfl
      obtain ⟨c, he, hcame, hN, hk⟩ := cmd_of t0 t1 t2 t3 t4 t5 t6 t7 t8 t9
      refine ⟨(c, v7), ⟨hcame, hN, hk⟩, fun j v hv => ?_⟩
      have hv' : ([v0, v1, v2, v3, v4, v5, v6, v7, v8, v9] : List Value)[j]? = some v := by rw [he]; exact hv
      match j, hv' with
      | 0, hv => injection hv with hv; subst hv; exact c0
      | 1, hv => injection hv with hv; subst hv; exact c1
      | 2, hv => injection hv with hv; subst hv; exact c2
      | 3, hv => injection hv with hv; subst hv; exact c3
      | 4, hv => injection hv with hv; subst hv; exact c4
      | 5, hv => injection hv with hv; subst hv; exact c5
      | 6, hv => injection hv with hv; subst hv; exact c6
      | 7, hv => injection hv with hv; subst hv; exact c7
      | 8, hv => injection hv with hv; subst hv; exact c8
      | 9, hv => injection hv with hv; subst hv; exact c9
      | j + 10, hv => simp at hv
    unfold maxLen at hc
    refine ⟨_, P.map (·.1), rfl, ⟨P, some a, cap, by rw [List.length_map, h1], rfl, h2, fun p hp => (h3 p hp).2⟩, fun c hc => ?_, by rw [List.length_map]; omega⟩
    obtain ⟨p, hp, rfl⟩ := List.mem_map.1 hc
    exact (h3 p hp).1
end
section
variable {H : Type} {enc : TypeId × Value → H} {w : World} {base : Nat} {sp : Nat → Bool} {held : Bool}
theorem open_cmd {r : Reach} {b0 : Nat} {v : Value} {d : DataW H} {p : List MemPlace} (hv : Value.okWide Tryd.prog w r b0 25 v) (h : DataW.Trod enc Tryd.prog w base sp held 25 v d p) :
    ∃ (c : Cm) (u : Value), v = .agg (cmV c u).toArray ∧ c.came ∧ NumR w u c.nums ∧ ∀ A n k, u = .slice A n k → n ≤ k := by
  obtain ⟨cs, rfl, hsz⟩ := okWide_struct Tryd.underlying25 hv
  have hC : Tryd.prog.cellsOf 25 = 10 := by kernel_rfl
  obtain ⟨l⟩ := cs
  match l, hsz.trans hC with
  | [v0, v1, v2, v3, v4, v5, v6, v7, v8, v9], _ =>
    obtain ⟨fuel, hf⟩ := h
    obtain ⟨xs, n, _, hx, _, hlen, hg⟩ := DataW.trod_struct Tryd.underlying25 hf
    match xs, hlen with
    | [y0, y1, y2, y3, y4, y5, y6, y7, y8, y9], _ =>
      obtain ⟨c, he, hcame, hN, hk⟩ := cmd_of (W := w) ((hg 0 _ rfl).trans rfl) ((hg 1 _ rfl).trans rfl) ((hg 2 _ rfl).trans rfl) ((hg 3 _ rfl).trans rfl) ((hg 4 _ rfl).trans rfl) ((hg 5 _ rfl).trans rfl) ((hg 6 _ rfl).trans rfl) ((hg 7 _ rfl).trans rfl) ((hg 8 _ rfl).trans rfl) ((hg 9 _ rfl).trans rfl)
      exact ⟨c, v7, congrArg (fun l => Value.agg l.toArray) he, hcame, hN, hk⟩
end
end Go.Proofs.YtjaeiiiniohloaaDoor
/- What the row says of the listed variables, as the walks ask it; the witness's world. -/
namespace Go.Proofs.YtjaeiiiniohloaaDoor
open Go.ChangeShapes Go.WideShapes Go.ChangeAt Go.WideMaps Go.WideElems Go.RowKit Go.Joins Go.Deep
set_option maxRecDepth 100000
def laidL : List (String × DataW Unit) := Rows.scriptChecksRow.laid
def fmD (f : Fm) : DataW Unit := .agg [.lit (.int .i64 f.kind), .lit (.string (f.word.map UInt8.ofNat)), .lit (.string (f.fields.map UInt8.ofNat)), .lit (.int .i64 f.nums)]
theorem forms_data : (Rows.laid_lottery_script_forms : DataW Unit) = .agg (fmT.map fmD) := by kernel_rfl
theorem trod_struct1 {H : Type} {enc : TypeId × Value → H} {P : Program} {w : World} {base : Nat} {spare : Nat → Bool} {held : Bool} {t : TypeId} {fs : Array Field} {fuel : Nat} {cs : List Value} {x : DataW H × List MemPlace} (ht : P.underlying t = some (.struct fs)) (hone : oneCellFields P fs = true)
    (h : DataW.trod enc P w base spare held fuel t cs = some x) : ∃ (ys : List (DataW H × List MemPlace)) (n : Nat), x = (.agg (ys.map (·.1)), ys.flatMap (·.2)) ∧ ys.length = fs.size ∧
      ∀ (j : Nat) (f : Field), fs[j]? = some f → DataW.trod enc P w base spare held n f.type ((cs.drop j).take 1) = ys[j]? := by
  obtain ⟨ys, n, _, hy, _, hyl, hf⟩ := DataW.trod_struct ht h
  refine ⟨ys, n, hy, hyl, fun j f hj => ?_⟩
  obtain ⟨ho, hk⟩ := hone_of hone j f hj
  have := hf j f hj
  rw [ho, hk] at this
  exact this
theorem encFm_len (f : Fm) : (encFm f).length = 4 := rfl
theorem forms_cells {W : World} {fuel : Nat} {cs : List Value} {p : List MemPlace} (h : DataW.trod (fun _ => ()) Tryd.prog W 0 (fun _ => true) false fuel 70 cs = some (Rows.laid_lottery_script_forms, p)) :
    ∀ (i : Nat) (v : Value), fmCells[i]? = some v → cs[i]? = some v := by
  rw [forms_data] at h
  obtain ⟨xs, m, rfl, hx, hlen, hn, hel⟩ := DataW.trod_array Tryd.underlying70 h
  have hC : Tryd.prog.cellsOf 45 = 4 := by kernel_rfl
  rw [hC] at hel
  simp only [Prod.mk.injEq, DataW.agg.injEq] at hx
  have hel2 : ∀ (i : Nat) (f : Fm), fmT[i]? = some f → ∀ (j : Nat) (u : Value), (encFm f)[j]? = some u → cs[i * 4 + j]? = some u := by
    intro i f hf
    have hi : i < 20 := (List.getElem?_eq_some_iff.1 hf).1
    have h1 := hel i hi
    have h2 : (xs.map (·.1))[i]? = some (fmD f) := by rw [← hx.1, List.getElem?_map, hf]; rfl
    rw [List.getElem?_map] at h2
    obtain ⟨x, hxi, hx2⟩ := Option.map_eq_some_iff.1 h2
    rw [hxi] at h1
    obtain ⟨ys, k, hy, hyn, hf4⟩ := trod_struct1 Tryd.underlying45 (by kernel_rfl) h1
    rw [hy] at hx2
    simp only [fmD, DataW.agg.injEq] at hx2
    have g0 := hf4 0 _ rfl
    have g1 := hf4 1 _ rfl
    have g2 := hf4 2 _ rfl
    have g3 := hf4 3 _ rfl
    match ys, hyn, hx2, g0, g1, g2, g3 with
    | [y0, y1, y2, y3], _, hx2, g0, g1, g2, g3 =>
      simp only [List.map_cons, List.map_nil, List.cons.injEq, and_true] at hx2
      obtain ⟨n0, e0, d0, _⟩ := DataW.trod_int Tryd.underlying3 (g0.trans rfl)
      obtain ⟨s1, e1, d1, _⟩ := DataW.trod_string Tryd.underlying9 (g1.trans rfl)
      obtain ⟨s2, e2, d2, _⟩ := DataW.trod_string Tryd.underlying9 (g2.trans rfl)
      obtain ⟨n3, e3, d3, _⟩ := DataW.trod_int Tryd.underlying3 (g3.trans rfl)
      subst d0 d1 d2 d3
      simp only [DataW.lit.injEq, Lit.int.injEq, Lit.string.injEq, true_and] at hx2
      obtain ⟨rfl, h1', h2', rfl⟩ := hx2
      have t1 : s1 = toBA f.word := by
        apply ByteArray.ext; apply Array.ext'; rw [h1']; rfl
      have t2 : s2 = toBA f.fields := by
        apply ByteArray.ext; apply Array.ext'; rw [h2']; rfl
      subst t1 t2
      have at_ : ∀ (o : Nat) (v : Value), ((((cs.drop (i * 4)).take 4).drop o).take 1) = [v] → o < 4 → cs[i * 4 + o]? = some v := fun o v hv ho => by
        have := congrArg (·[0]?) hv
        simp only [List.getElem?_cons_zero] at this
        rw [List.getElem?_take_of_lt (by decide), List.getElem?_drop, List.getElem?_take_of_lt (by omega), List.getElem?_drop] at this
        simpa using this
      intro j u hu
      match j, hu with
      | 0, hu => simp only [encFm, List.getElem?_cons_zero, Option.some.injEq] at hu; subst hu; exact at_ 0 _ e0 (by decide)
      | 1, hu => simp only [encFm, List.getElem?_cons_succ, List.getElem?_cons_zero, Option.some.injEq] at hu; subst hu; exact at_ 1 _ e1 (by decide)
      | 2, hu => simp only [encFm, List.getElem?_cons_succ, List.getElem?_cons_zero, Option.some.injEq] at hu; subst hu; exact at_ 2 _ e2 (by decide)
      | 3, hu => simp only [encFm, List.getElem?_cons_succ, List.getElem?_cons_zero, Option.some.injEq] at hu; subst hu; exact at_ 3 _ e3 (by decide)
      | j + 4, hu => simp [encFm] at hu
  intro q v hv
  have hq := (List.getElem?_eq_some_iff.1 hv).1
  rw [fmCells_len] at hq
  obtain ⟨f, hf⟩ : ∃ f, fmT[q / 4]? = some f := ⟨_, List.getElem?_eq_getElem (show q / 4 < 20 by omega)⟩
  have hj : q % 4 < (encFm f).length := by rw [encFm_len]; omega
  have hu : (encFm f)[q % 4]? = some ((encFm f)[q % 4]'hj) := List.getElem?_eq_getElem hj
  have h3 := flat_cell encFm_len hu fmT (q / 4) hf
  rw [show q / 4 * 4 + q % 4 = q by omega] at h3
  have h4 := hel2 _ _ hf _ _ hu
  rw [show q / 4 * 4 + q % 4 = q by omega] at h4
  unfold fmCells at hv
  rw [hv] at h3
  injection h3 with h3
  rw [h4, h3]
theorem laid_of {W : World} (h : laidMetH Tryd.prog laidL W) : Laid W := by
  rw [MakeChecks.laidMetH_plain _ _ _ (by kernel_rfl)] at h
  obtain ⟨ps, hv, _⟩ := h
  obtain ⟨g0, t0, cs0, f0, p0, q0, hg0, ht0, hv0, hd0, hr0, _⟩ := hv
  obtain ⟨g1, t1, cs1, f1, p1, q1, hg1, ht1, hv1, hd1, hr1, _⟩ := hr0
  obtain ⟨g2, t2, cs2, f2, p2, q2, hg2, ht2, hv2, hd2, hr2, _⟩ := hr1
  obtain ⟨g3, t3, cs3, f3, p3, q3, hg3, ht3, hv3, hd3, hr3, _⟩ := hr2
  obtain ⟨g4, t4, cs4, f4, p4, q4, hg4, ht4, hv4, hd4, hr4, _⟩ := hr3
  obtain rfl := Option.some.inj ((show Tryd.prog.globalNamed "lottery/digest.hexDigits" = some 1 by kernel_rfl).symm.trans hg0)
  obtain rfl := Option.some.inj ((show Tryd.prog.globalNamed "math/bits.deBruijn64tab" = some 5 by kernel_rfl).symm.trans hg2)
  obtain rfl := Option.some.inj ((show Tryd.prog.globalNamed "internal/strconv.uint64pow10" = some 3 by kernel_rfl).symm.trans hg3)
  obtain rfl := Option.some.inj ((show Tryd.prog.globalNamed "lottery/script.forms" = some 0 by kernel_rfl).symm.trans hg4)
  obtain rfl := Option.some.inj ((show (Tryd.prog.globals[1]?).map (·.type) = some 84 by kernel_rfl).symm.trans ht0)
  obtain rfl := Option.some.inj ((show (Tryd.prog.globals[3]?).map (·.type) = some 111 by kernel_rfl).symm.trans ht3)
  obtain rfl := Option.some.inj ((show (Tryd.prog.globals[0]?).map (·.type) = some 70 by kernel_rfl).symm.trans ht4)
  refine ⟨?_, fun i v hi => ?_, fun i hi => ?_, ?_⟩
  · have : W.heap[5]?.isSome = true := by
      unfold World.var? at hv2
      rw [hg2] at hv2
      simp only [Option.bind_some] at hv2
      cases hh : W.heap[5]? with
      | none => rw [hh] at hv2; simp at hv2
      | some o => rfl
    obtain ⟨o, ho⟩ := Option.isSome_iff_exists.1 this
    exact (Array.getElem?_eq_some_iff.1 ho).1
  · rw [World.var?_cell hg4 hv4 i]
    have := forms_cells hd4 i v hi
    simpa using this
  · have hc := Lib.cells_of_tab (k := .u8) (zs := (List.range 16).map fun i => (hexd i : Int)) Tryd.underlying84 Tryd.underlying5 (by kernel_rfl) (by kernel_rfl) (show DataW.trod _ _ _ _ _ _ _ _ _ = some (Lib.tabData .u8 ((List.range 16).map fun i => (hexd i : Int)), p0) from hd0)
    rw [World.var?_cell hg0 hv0 i, ← Array.getElem?_toList, hc, List.getElem?_map, List.getElem?_map, List.getElem?_range hi]
    rfl
  · have hc := Lib.cells_of_tab (k := .u64) (zs := Lib.pow10Tab) Tryd.underlying111 Tryd.underlying23 (by kernel_rfl) (by kernel_rfl) (show DataW.trod _ _ _ _ _ _ _ _ _ = some (Lib.tabData .u64 Lib.pow10Tab, p3) from hd3)
    unfold Lib.TabIs
    rw [hv3, ← hc]
/-- The door's own heap meets the condition. -/
theorem door_met (os : Os) (args : Array Value) : laidMetH Tryd.prog laidL ((World.doorLaid Tryd.prog 4000 os).forCall (fun _ _ => 0) ⟨#[], args, []⟩).memory :=
  laidMetH_of_parts3 (fuel := 8) (laidMet_of_run' 8 (by kernel_rfl) (by kernel_rfl)) (by kernel_rfl) (by kernel_rfl)
end Go.Proofs.YtjaeiiiniohloaaDoor
