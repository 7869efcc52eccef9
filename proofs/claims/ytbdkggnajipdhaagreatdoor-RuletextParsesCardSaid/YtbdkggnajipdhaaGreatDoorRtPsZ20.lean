/- Texts laid one behind the other: RwG, Row, GmArgs, Laid. Each says at its head what it proves. -/
import Derived.Test.YtbdkggnajipdhaaGreatDoorRtPsZ19
import Derived.ProofKit
import Derived.Lib.SmallJoins
import Derived.Deep.Slices
import Derived.Deep.Fields
import Derived.ChangeMaps5
import Derived.LaidMore
import Derived.OpenShut
import Derived.Stop.Joined
import Derived.Lib.LaidTab
import Derived.MakeChecks
set_option linter.unusedSimpArgs false
/- Walk: the law RuletextParses. -/
namespace Go.Proofs.YtbdkggnajipdhaaGreatDoor
open Nat (reduceAdd reduceMul reduceSub reduceEqDiff reduceLT reduceLeDiff)
open Go.RowKit
set_option maxRecDepth 100000
set_option maxHeartbeats 4000000 in
theorem ruletextParses_any (s : ByteArray) (w : World) (hW : Laid w) : Calls Tryz.prog 3 #[.string s] w fun e w' => e = .returned (.bool true) ∧ Below w.heap.size w w' := by
  refine calls_W (l := [_]) Tryz.func3 rfl _ Tryz.ntmps3 (by simp) ?_
  have hw5 := hW.size
  refine W_piece fun K hK hX => ?_
  simp +contextual (maxSteps := 2000000) (disch := first | omega | (simp only [SZ]; first | done | omega) | (simp only [TS] at *; omega)) only [RZ, ovw, oneC, reduceAdd, reduceMul, reduceSub, reduceEqDiff, reduceLT, ↓reduceIte, Int.reduceToNat, reduceLeDiff]
  refine hK _ _ ?_
  clear hK hX K
  refine W_piece fun K hK hX => ?_
  refine W_piece fun K2 hK2 hX2 => ?_
  simp +contextual (maxSteps := 2000000) (disch := first | omega | (simp only [SZ]; first | done | omega) | (simp only [TS] at *; omega)) only [RZ, ovw, oneC, reduceAdd, reduceMul, reduceSub, reduceEqDiff, reduceLT, ↓reduceIte, Int.reduceToNat, reduceLeDiff]
  refine hK2 _ _ ?_
  clear hK2 hX2 K2
  by_cases hsz : 40000 < s.size
  · refine W_if_t (by rw [show decide ((40000 : Int) < (s.size : Int)) = true from decide_eq_true (by omega)]; rfl) ?_
    refine W_piece fun K2 hK2 hX2 => ?_
    simp +contextual (maxSteps := 2000000) (disch := first | omega | (simp only [SZ]; first | done | omega) | (simp only [TS] at *; omega)) only [RZ, ovw, oneC, reduceAdd, reduceMul, reduceSub, reduceEqDiff, reduceLT, ↓reduceIte, Int.reduceToNat, reduceLeDiff]
    refine (awake_any w hW hw5).mono ?_
    rintro e w1 ⟨rfl, hB1⟩
    refine ⟨_, rfl, ?_⟩
    try simp +contextual (maxSteps := 2000000) (disch := first | omega | (simp only [SZ]; first | done | omega) | (simp only [TS] at *; omega)) only [RZ, ovw, oneC, reduceAdd, reduceMul, reduceSub, reduceEqDiff, reduceLT, ↓reduceIte, Int.reduceToNat, reduceLeDiff]
    refine hK2 _ _ ?_
    clear hK2 hX2 K2
    rw [W_ret]
    refine hX _ _ _ (fun h => by cases h) ?_
    simp +contextual (maxSteps := 2000000) (disch := first | omega | (simp only [SZ]; first | done | omega) | (simp only [TS] at *; omega)) only [RZ, ovw, oneC, reduceAdd, reduceMul, reduceSub, reduceEqDiff, reduceLT, ↓reduceIte, Int.reduceToNat, reduceLeDiff]
    exact hB1
  refine W_if_f (by rw [show decide ((40000 : Int) < (s.size : Int)) = false from decide_eq_false (by omega)]; rfl) ?_
  rw [W_skip]
  refine hK _ _ ?_
  clear hK hX K
  refine W_piece fun K hK hX => ?_
  simp +contextual (maxSteps := 2000000) (disch := first | omega | (simp only [SZ]; first | done | omega) | (simp only [TS] at *; omega)) only [RZ, ovw, oneC, reduceAdd, reduceMul, reduceSub, reduceEqDiff, reduceLT, ↓reduceIte, Int.reduceToNat, reduceLeDiff]
  have hlit := parse_little s
  refine (parse_any s w (by omega) hW hw5).mono ?_
  rintro e w1 ⟨hB1, Va1, Vt1, rfl, hG1⟩
  refine ⟨_, rfl, ?_⟩
  generalize hPG : parseG s = PG at *
  obtain ⟨G, er, ln⟩ := PG
  dsimp only at hG1 hlit ⊢
  have hz1 := hB1.size
  obtain ⟨⟨Aa1, ca1, Vs1, rfl, _⟩, At1, ct1, rfl, _⟩ := id hG1
  simp only [gmV]
  simp +contextual (maxSteps := 2000000) (disch := first | omega | (simp only [SZ]; first | done | omega) | (simp only [TS] at *; omega)) only [RZ, ovw, oneC, reduceAdd, reduceMul, reduceSub, reduceEqDiff, reduceLT, ↓reduceIte, Int.reduceToNat, reduceLeDiff]
  refine hK _ _ ?_
  clear hK hX K
  refine W_gen fun w2 hw2 => ?_
  have hB2 : Below w1.heap.size w1 w2 := by rw [hw2]; exact below_alloc w1 _
  have q2 : Row w2 w1.heap.size 26 (gmV G (.slice Aa1 G.addons.length ca1) (.slice At1 G.tiers.length ct1)) := by rw [hw2]; exact Row.new w1 _ _
  clear hw2
  have hF2 := hB1.trans (hB2.mono hz1)
  have hz2 := hF2.size
  have hGa := hG1.below hB2
  refine W_piece fun K hK hX => ?_
  simp +contextual (maxSteps := 2000000) (disch := first | omega | (simp only [SZ]; first | done | omega) | (simp only [TS] at *; omega)) only [RZ, ovw, oneC, reduceAdd, reduceMul, reduceSub, reduceEqDiff, reduceLT, ↓reduceIte, Int.reduceToNat, reduceLeDiff]
  refine (rgParse_any s w2 (by omega)).mono ?_
  rintro e w3 ⟨hB3, Va3, Vt3, rfl, hG3⟩
  refine ⟨_, rfl, ?_⟩
  rw [hPG] at hG3 ⊢
  dsimp only at hG3 ⊢
  have hF3 := hF2.trans (hB3.mono hz2)
  have hz3 := hF3.size
  have q3 := q2.below hB3
  have hGb := hGa.below hB3
  obtain ⟨⟨Aa3, ca3, Vs3, rfl, _⟩, At3, ct3, rfl, _⟩ := id hG3
  simp only [gmV]
  simp +contextual (maxSteps := 2000000) (disch := first | omega | (simp only [SZ]; first | done | omega) | (simp only [TS] at *; omega)) only [RZ, ovw, oneC, reduceAdd, reduceMul, reduceSub, reduceEqDiff, reduceLT, ↓reduceIte, Int.reduceToNat, reduceLeDiff]
  refine hK _ _ ?_
  clear hK hX K
  refine W_gen fun w4 hw4 => ?_
  have hB4 : Below w3.heap.size w3 w4 := by rw [hw4]; exact below_alloc w3 _
  have p4 : Row w4 w3.heap.size 26 (gmV G (.slice Aa3 G.addons.length ca3) (.slice At3 G.tiers.length ct3)) := by rw [hw4]; exact Row.new w3 _ _
  clear hw4
  have hF4 := hF3.trans (hB4.mono hz3)
  have hz4 := hF4.size
  have q4 := q3.below hB4
  have hGc := hGb.below hB4
  have hGd := hG3.below hB4
  have lA := load_game q4
  have lB := load_game p4
  refine W_piece fun K hK hX => ?_
  simp +contextual (maxSteps := 2000000) (disch := first | omega | (simp only [SZ]; first | done | omega) | (simp only [TS] at *; omega)) only [RZ, ovw, oneC, reduceAdd, reduceMul, reduceSub, reduceEqDiff, reduceLT, ↓reduceIte, Int.reduceToNat, reduceLeDiff,  lA, lB]
  refine (same_any G (.slice Aa1 G.addons.length ca1) (.slice At1 G.tiers.length ct1) (.slice Aa3 G.addons.length ca3) (.slice At3 G.tiers.length ct3) w4 hGc hGd hlit).mono ?_
  rintro e w5 ⟨rfl, hB5⟩
  refine ⟨_, rfl, ?_⟩
  have hF5 := hF4.trans (hB5.mono hz4)
  have hz5 := hF5.size
  try simp +contextual (maxSteps := 2000000) (disch := first | omega | (simp only [SZ]; first | done | omega) | (simp only [TS] at *; omega)) only [RZ, ovw, oneC, reduceAdd, reduceMul, reduceSub, reduceEqDiff, reduceLT, ↓reduceIte, Int.reduceToNat, reduceLeDiff]
  refine (awake_any w5 (hW.below hF5 hw5) (by omega)).mono ?_
  rintro e w6 ⟨rfl, hB6⟩
  refine ⟨_, rfl, ?_⟩
  try simp +contextual (maxSteps := 2000000) (disch := first | omega | (simp only [SZ]; first | done | omega) | (simp only [TS] at *; omega)) only [RZ, ovw, oneC, reduceAdd, reduceMul, reduceSub, reduceEqDiff, reduceLT, ↓reduceIte, Int.reduceToNat, reduceLeDiff]
  refine hK _ _ ?_
  clear hK hX K
  simp +contextual (maxSteps := 2000000) (disch := first | omega | (simp only [SZ]; first | done | omega) | (simp only [TS] at *; omega)) only [RZ, ovw, oneC, reduceAdd, reduceMul, reduceSub, reduceEqDiff, reduceLT, ↓reduceIte, Int.reduceToNat, reduceLeDiff]
  exact hF5.trans (hB6.mono hz5)
end Go.Proofs.YtbdkggnajipdhaaGreatDoor
/- From a contract to a row: the arguments are opened; behind the call they read as before, for nothing below has turned. -/
namespace Go.Proofs.YtbdkggnajipdhaaGreatDoor
open Go.ChangeShapes Go.WideShapes Go.ChangeAt Go.RowKit Go.Joins Go.Deep
theorem ownNone : ownKnob Tryz.prog.godebug = none := by kernel_rfl
theorem laidAll : laidOutB Tryz.prog = true := by kernel_rfl
section
variable {H : Type} {enc : TypeId × Value → H} {P : Program} {W W' : World} {sp : Nat → Bool}
theorem trodAll_stay (hl : laidOutB P = true) : ∀ (ts : List TypeId) (vs : List Value) (ds : List (DataW H)) (ps : List MemPlace), (∀ t ∈ ts, P.readableRec t = true ∧ t < P.types.size) →
    DataW.TrodAll enc P W 0 (fun _ => true) true ts vs ds ps → (∀ p ∈ ps, W.sameAt W' p) → (∀ p ∈ ps, sp p.block = true) → DataW.TrodAll enc P W' 0 sp true ts vs ds ps
  | [], [], [], ps, _, h, _, _ => h
  | t :: ts, v :: vs, d :: ds, ps, ht, ⟨p, q, h1, h2, e⟩, hs, hp =>
    ⟨p, q, WideElems.Trod_stays hl (ht t (by simp)).1 (ht t (by simp)).2 h1 (fun x hx => hs x (by rw [e]; simp [hx])) (fun x hx => hp x (by rw [e]; simp [hx])),
      trodAll_stay hl ts vs ds q (fun t' h' => ht t' (by simp [h'])) h2 (fun x hx => hs x (by rw [e]; simp [hx])) (fun x hx => hp x (by rw [e]; simp [hx])), e⟩
  | [], _ :: _, _, _, _, h, _, _ => h.elim
  | [], [], _ :: _, _, _, h, _, _ => h.elim
  | _ :: _, [], _, _, _, h, _, _ => h.elim
  | _ :: _, _ :: _, [], _, _, h, _, _ => h.elim
/-- The closing of a law's row: true is returned, and nothing that was there has turned. -/
theorem row_close {f : Func} {s : ChangeSpec} {fid : FuncId} {args : Array Value} {ds gs : List (DataW H)} {before : List MemPlace} {tb : TypeId} (hl : laidOutB P = true)
    (hts : f.params.toList.all (fun t => P.readableRec t && decide (t < P.types.size)) = true) (hvars : s.vars = []) (hres : f.resultTypes = #[tb]) (hb : P.underlying tb = some .bool)
    (hW : DataW.Whole enc P f.params.toList s.vars false W args.toList ds gs before)
    (h1 : (s.fn H ds).results = [.lit (.bool true)]) (h2 : (s.fn H ds).args = ds) (h3 : (s.fn H ds).vars = [])
    (walk : Calls P fid args W fun e W' => e = .returned (.bool true) ∧ Below W.heap.size W W') :
    Calls P fid args W fun e W' => ∃ v, e = .returned v ∧ s.post enc P f false true false false W args v W' := by
  have ht : ∀ t ∈ f.params.toList, P.readableRec t = true ∧ t < P.types.size := fun t h => by simpa using List.all_eq_true.1 hts t h
  refine walk.mono fun e W' ⟨he, hg⟩ => ⟨_, he, ?_⟩
  have hW' := hW
  obtain ⟨p, q, hA, hV, e, hfz, hnd⟩ := hW
  rw [hvars] at hV
  obtain ⟨rfl, rfl⟩ := trodVars_none hV
  have hlt := hW'.lt
  rw [List.append_nil] at e
  subst e
  have hnil : ds ++ ([] : List (DataW H)) = ds := List.append_nil ds
  have res : ∀ (b : Nat) (sp : Nat → Bool) (hd : Bool), DataW.TrodAll enc P W' b sp hd f.resultTypes.toList ((Value.bool true).resultList f.resultTypes.size) (s.fn H (ds ++ [])).results [] := fun b sp hd => by
    rw [hnil, h1, hres]; exact trodAll_mk1 (shut_bool hb _)
  have arg : ∀ sp : Nat → Bool, (∀ x ∈ before, sp x.block = true) → DataW.TrodAll enc P W' 0 sp true f.params.toList args.toList (s.fn H (ds ++ [])).args before := fun sp hsp => by
    rw [hnil, h2]; exact trodAll_stay hl _ _ _ _ ht hA (fun x hx => hg.same (hlt x hx)) hsp
  have vars : ∀ sp : Nat → Bool, DataW.TrodVars enc P W' sp s.vars (s.fn H (ds ++ [])).vars [] := fun sp => by
    rw [hnil, h3, hvars]; rfl
  have old : ∀ x ∈ before, (fun b => decide (b < W.heap.size)) x.block = true := fun x hx => by simpa using hlt x hx
  exact ⟨ds, [], before, [], before, [], hW', res _ _ _, arg _ old, vars _, hg.frame _, fun h => by cases h⟩
end
end Go.Proofs.YtbdkggnajipdhaaGreatDoor
/- Arguments of chapter 11: a game. -/
namespace Go.Proofs.YtbdkggnajipdhaaGreatDoor
open Go.ChangeShapes Go.WideShapes Go.ChangeAt Go.RowKit Go.Joins Go.Deep
set_option maxRecDepth 100000
end Go.Proofs.YtbdkggnajipdhaaGreatDoor
/- What the row says of the listed variables, as the walks ask it; the witness's world. -/
namespace Go.Proofs.YtbdkggnajipdhaaGreatDoor
open Go.ChangeShapes Go.WideShapes Go.ChangeAt Go.WideMaps Go.WideElems Go.RowKit Go.Joins Go.Deep
set_option maxRecDepth 100000
def laidL : List (String × DataW Unit) := Rows.ruletextPrintsRow.laid
theorem days_data : (Rows.laid_lottery_ruletext_dayNames : DataW Unit) = .agg (dayW.map fun d => .lit (.string (d.map UInt8.ofNat))) := by kernel_rfl
theorem days_cells {W : World} {fuel : Nat} {cs : List Value} {p : List MemPlace} (h : DataW.trod (fun _ => ()) Tryz.prog W 0 (fun _ => true) false fuel 102 cs = some (Rows.laid_lottery_ruletext_dayNames, p)) :
    ∀ (i : Nat) (v : Value), dayC[i]? = some v → cs[i]? = some v := by
  rw [days_data] at h
  obtain ⟨xs, m, rfl, hx, hlen, hn, hel⟩ := DataW.trod_array Tryz.underlying102 h
  have hC : Tryz.prog.cellsOf 9 = 1 := by kernel_rfl
  rw [hC] at hel
  simp only [Prod.mk.injEq, DataW.agg.injEq] at hx
  intro i v hv
  unfold dayC at hv
  rw [List.getElem?_map] at hv
  obtain ⟨d, hd, rfl⟩ := Option.map_eq_some_iff.1 hv
  have hi : i < 7 := (List.getElem?_eq_some_iff.1 hd).1
  have h1 := hel i hi
  have h2 : (xs.map (·.1))[i]? = some (.lit (.string (d.map UInt8.ofNat))) := by rw [← hx.1, List.getElem?_map, hd]; rfl
  rw [List.getElem?_map] at h2
  obtain ⟨x, hxi, hx2⟩ := Option.map_eq_some_iff.1 h2
  rw [hxi] at h1
  obtain ⟨s1, e1, d1, _⟩ := DataW.trod_string Tryz.underlying9 h1
  subst d1
  simp only [DataW.lit.injEq, Lit.string.injEq] at hx2
  have t1 : s1 = toBA d := by
    apply ByteArray.ext; apply Array.ext'; rw [hx2]; rfl
  subst t1
  have := congrArg (·[0]?) e1
  simp only [List.getElem?_cons_zero] at this
  rw [List.getElem?_take_of_lt (by decide), List.getElem?_drop] at this
  simpa using this
theorem laid_of {W : World} (h : laidMetH Tryz.prog laidL W) : Laid W := by
  rw [MakeChecks.laidMetH_plain _ _ _ (by kernel_rfl)] at h
  obtain ⟨ps, hv, _⟩ := h
  obtain ⟨g0, t0, cs0, f0, p0, q0, hg0, ht0, hv0, hd0, hr0, _⟩ := hv
  obtain ⟨g1, t1, cs1, f1, p1, q1, hg1, ht1, hv1, hd1, hr1, _⟩ := hr0
  obtain ⟨g2, t2, cs2, f2, p2, q2, hg2, ht2, hv2, hd2, hr2, _⟩ := hr1
  obtain ⟨g3, t3, cs3, f3, p3, q3, hg3, ht3, hv3, hd3, hr3, _⟩ := hr2
  obtain rfl := Option.some.inj ((show Tryz.prog.globalNamed "math/bits.deBruijn64tab" = some 8 by kernel_rfl).symm.trans hg1)
  obtain rfl := Option.some.inj ((show Tryz.prog.globalNamed "internal/strconv.uint64pow10" = some 6 by kernel_rfl).symm.trans hg2)
  obtain rfl := Option.some.inj ((show Tryz.prog.globalNamed "lottery/ruletext.dayNames" = some 0 by kernel_rfl).symm.trans hg3)
  obtain rfl := Option.some.inj ((show (Tryz.prog.globals[6]?).map (·.type) = some 167 by kernel_rfl).symm.trans ht2)
  obtain rfl := Option.some.inj ((show (Tryz.prog.globals[0]?).map (·.type) = some 102 by kernel_rfl).symm.trans ht3)
  refine ⟨?_, fun i v hi => ?_, ?_⟩
  · have : W.heap[8]?.isSome = true := by
      unfold World.var? at hv1
      rw [hg1] at hv1
      simp only [Option.bind_some] at hv1
      cases hh : W.heap[8]? with
      | none => rw [hh] at hv1; simp at hv1
      | some o => rfl
    obtain ⟨o, ho⟩ := Option.isSome_iff_exists.1 this
    exact (Array.getElem?_eq_some_iff.1 ho).1
  · rw [World.var?_cell hg3 hv3 i]
    have := days_cells hd3 i v hi
    simpa using this
  · have hc := Lib.cells_of_tab (k := .u64) (zs := Lib.pow10Tab) Tryz.underlying167 Tryz.underlying128 (by kernel_rfl) (by kernel_rfl) (show DataW.trod _ _ _ _ _ _ _ _ _ = some (Lib.tabData .u64 Lib.pow10Tab, p2) from hd2)
    unfold Lib.TabIs
    rw [hv2, ← hc]
/-- The door's own heap meets the condition. -/
theorem door_met (os : Os) (args : Array Value) : laidMetH Tryz.prog laidL ((World.doorLaid Tryz.prog 4000 os).forCall (fun _ _ => 0) ⟨#[], args, []⟩).memory :=
  laidMetH_of_parts3 (fuel := 8) (laidMet_of_run' 8 (by kernel_rfl) (by kernel_rfl)) (by kernel_rfl) (by kernel_rfl)
end Go.Proofs.YtbdkggnajipdhaaGreatDoor
