/- Texts laid one behind the other: PaF, PaG. Each says at its head what it proves. -/
import Derived.Test.YtbdkggnajipdhaaGreatDoorRtTwZ09
set_option linter.unusedSimpArgs false
/- Walks: the reader of a game's tokens: addon. -/
namespace Go.Proofs.YtbdkggnajipdhaaGreatDoor
open Nat (reduceAdd reduceMul reduceSub reduceEqDiff reduceLT reduceLeDiff)
open Go.RowKit
set_option maxRecDepth 100000
theorem wordT_ok {L L' : List Tk} {s : ByteArray} (h : wordT L = .ok (s, L')) : (hdT L).kind = 1 ∧ s = (hdT L).text ∧ L' = nxT L := by
  unfold wordT at h
  split at h
  · rename_i hk; injection h with h; injection h with h1 h2; exact ⟨hk, h1.symm, h2.symm⟩
  · cases h
theorem wordT_err {L L' : List Tk} {e : Int} (h : wordT L = .error (e, L')) : ¬ (hdT L).kind = 1 ∧ e = 1 ∧ L' = L := by
  unfold wordT at h
  split at h
  · cases h
  · rename_i hk; injection h with h; injection h with h1 h2; exact ⟨hk, h1.symm, h2.symm⟩
theorem nums_len : ∀ (f : Nat) (L : List Tk), (numsT f L).2.length ≤ L.length
  | 0, L => Nat.le_refl _
  | f + 1, L => by
    unfold numsT
    cases h : numT L with
    | none => exact Nat.le_refl _
    | some a => exact Nat.le_trans (nums_len f a.2) (num_len h)
section
variable {base g gs c a : Nat} {A : Option Addr} {T : List Tk} {w : World} {G : Gm} {seen : List (List Nat)} {Va Vt : Value} {Vs : List (List Value)}
theorem drop_mono {a a' : Nat} {L : List Tk} (h : L.length ≤ (T.drop a).length) (e : L = T.drop a') (ha' : a' < T.length) (ha : a < T.length) : a ≤ a' := by
  subst e
  rw [List.length_drop, List.length_drop] at h
  omega
theorem nx_at (hT : TokOk T) (ha : a < T.length) (hk : (hdT (T.drop a)).kind ≠ 0) : a + 1 < T.length ∧ nxT (T.drop a) = T.drop (a + 1) := by
  have hst := List.getElem?_eq_getElem ha
  have hhd := hdT_drop hst
  have hl := hT.last a _ hst (by rw [← hhd]; exact hk)
  exact ⟨hl, nxT_drop hl⟩
/-- A box of the part's own is written. -/
theorem stBox {w' : World} {ga : Nat} {cs : List Value} {Ty : TypeId} (h : GmSt w base g gs A c T a G seen Va Vt Vs) (k : Kept [ga] w w') (hr : Row w ga Ty cs) (h1 : Ty ≠ 3) (hg : base ≤ ga) (hgn : ga ≠ g) (hgs : ga ≠ gs) (hva : Va.ownBlock ≠ some ga) (hvt : Vt.ownBlock ≠ some ga) : GmSt w' base g gs A c T a G seen Va Vt Vs := by
  obtain ⟨q1, q2, q3, q4, q5, q6, q7, q8, q9, q10⟩ := h
  refine ⟨q1.kept k (by simpa using Ne.symm hgn) (fun b o e => by have := q9 b o e; simp; omega), q2.kept k (by simpa using Ne.symm hgs), q3.mono fun v L hv => hv.of_blocks fun b cs' hb => k.block b hb.lt (fun hx => ?_), ?_, ?_, q6, q7, q8, q9, q10⟩
  · simp at hx
    subst hx
    obtain ⟨c1, e1, _⟩ := hr
    obtain ⟨c2, e2, _⟩ := hb
    rw [e1] at e2
    injection e2 with e2
    injection e2 with _ e2
    exact h1 e2
  · exact owns_keep q4 fun b hb => k.block b (owns_ge q4 hb).2 (fun hx => by simp at hx; subst hx; exact hva hb)
  · exact owns_keep q5 fun b hb => k.block b (owns_ge q5 hb).2 (fun hx => by simp at hx; subst hx; exact hvt hb)
theorem stSet {w0 : World} {ga i : Nat} {cs : List Value} {Ty : TypeId} {v : Value} (h : GmSt w base g gs A c T a G seen Va Vt Vs) (K : Below base w0 w) (hr : Row w ga Ty cs) (h1 : Ty ≠ 3) (hg : base ≤ ga) (hgn : ga ≠ g) (hgs : ga ≠ gs) (hva : Va.ownBlock ≠ some ga) (hvt : Vt.ownBlock ≠ some ga) (hi : i < cs.length) :
    GmSt (w.setCell ⟨ga, i, none⟩ v) base g gs A c T a G seen Va Vt Vs ∧ Below base w0 (w.setCell ⟨ga, i, none⟩ v) ∧ Row (w.setCell ⟨ga, i, none⟩ v) ga Ty (cs.set i v) :=
  ⟨stBox h ((Kept.refl [ga] w).setCell (p := ⟨ga, i, none⟩) (by simp) v) hr h1 hg hgn hgs hva hvt, K.setCell (p := ⟨ga, i, none⟩) hg v, hr.set_ hi v⟩
set_option maxHeartbeats 1000000 in
theorem paAddon_any (h : GmSt w base g gs A c T a G seen Va Vt Vs) (hT : TokOk T) : Calls Tryz.prog 105 #[.pointer (some ⟨g, 0, none⟩)] w
    (ResG base g gs A c T w (bindT (addonT (T.drop a)) fun x => .ok (({ G with addons := G.addons ++ [x.1] }, seen), x.2))) := by
  refine calls_WX (l := [_]) Tryz.func105 rfl _ Tryz.ntmps105 (by simp) ?_
  generalize hr : (bindT (addonT (T.drop a)) fun x => Except.ok (({ G with addons := G.addons ++ [x.1] }, seen), x.2)) = r
  unfold addonT at hr
  have hlt := h.pk.lt
  have hbig := hT.big
  obtain ⟨hb9, hbg, hbs, hne⟩ := h.hg
  simp +contextual (maxSteps := 2000000) (disch := first | omega | (simp only [SZ]; first | done | omega) | (simp only [TS] at *; omega)) only [PZ, RZ, ovw, oneC, reduceAdd, reduceMul, reduceSub, reduceEqDiff, reduceLT, ↓reduceIte, Int.reduceToNat, reduceLeDiff]
  refine Res.use (paWord_any h.pk hT) (fun nm a1 w1 e1 k1 p1 => ?_) (fun e L w1 e1 k1 => ?_); rotate_left
  · obtain ⟨q1, rfl, rfl⟩ := wordT_err e1
    rw [if_pos q1] at hr
    exact ResG.err hr.symm (h.keptB k1 (by simpa using hbg))
  obtain ⟨q1, rfl, q3⟩ := wordT_ok e1
  obtain ⟨l1, n1⟩ := nx_at hT hlt (by omega)
  rw [if_neg (fun h => h q1), n1] at hr
  rw [n1] at q3
  obtain rfl : a1 = a + 1 := drop_same q3.symm p1.lt l1
  have h1 := h.leaf k1 p1 (by omega)
  have K1 := h.keptB k1 (by simpa using hbg)
  generalize (hdT (T.drop a)).text = nm at *
  clear e1
  try simp +contextual (maxSteps := 2000000) (disch := first | omega | (simp only [SZ]; first | done | omega) | (simp only [TS] at *; omega)) only [PZ, RZ, ovw, oneC, reduceAdd, reduceMul, reduceSub, reduceEqDiff, reduceLT, ↓reduceIte, Int.reduceToNat, reduceLeDiff]
  have h2 := h1.below (below_alloc w1 (.cells #[Value.string nm, .int .i64 0, .int .i64 0, .slice none 0 0, .int .i64 0, .slice none 0 0] 45))
  have K2 := K1.trans ((below_alloc w1 (.cells #[Value.string nm, .int .i64 0, .int .i64 0, .slice none 0 0, .int .i64 0, .slice none 0 0] 45)).mono (by have := h1.pk.row.lt; omega))
  have r2 := Row.new w1 45 [Value.string nm, .int .i64 0, .int .i64 0, .slice none 0 0, .int .i64 0, .slice none 0 0]
  replace r2 : Row (w1.alloc (.cells #[Value.string nm, .int .i64 0, .int .i64 0, .slice none 0 0, .int .i64 0, .slice none 0 0] 45)) _ _ _ := r2
  have hgl : g < w1.heap.size := h1.pk.row.lt
  generalize hga : w1.heap.size = ga at *
  generalize w1.alloc (.cells #[Value.string nm, .int .i64 0, .int .i64 0, .slice none 0 0, .int .i64 0, .slice none 0 0] 45) = w2 at *
  refine Res.use (paTake_any 1 h2.pk hT) (fun t a2 w3 e3 k3 p3 => ?_) (fun e L w3 e3 k3 => ?_); rotate_left
  · obtain ⟨q1, rfl, rfl⟩ := takeT_err e3
    rw [if_pos q1] at hr
    exact ResG.err hr.symm (K2.trans (h2.keptB k3 (by simpa using hbg)))
  obtain ⟨u1, ht, u3⟩ := takeT_ok e3
  obtain ⟨l2, n2⟩ := nx_at hT l1 (by omega)
  rw [if_neg (fun h => h u1), n2] at hr
  rw [n2] at u3
  obtain rfl : a2 = a + 1 + 1 := drop_same u3.symm p3.lt l2
  have h3 := h2.leaf k3 p3 (by omega)
  have K3 := K2.trans (h2.keptB k3 (by simpa using hbg))
  have r3 := r2.kept k3 (by simp; omega)
  rw [← ht] at hr u1
  have hlnT : (hdT (T.drop (a + 1))).line = t.line := by rw [← ht]
  clear e3 ht
  rw [show (encTk t).toArray = #[.int .i64 t.kind, .int .i64 t.line, .int .i64 t.col, .string t.text] from rfl]
  try simp +contextual (maxSteps := 2000000) (disch := first | omega | (simp only [SZ]; first | done | omega) | (simp only [TS] at *; omega)) only [PZ, RZ, ovw, oneC, reduceAdd, reduceMul, reduceSub, reduceEqDiff, reduceLT, ↓reduceIte, Int.reduceToNat, reduceLeDiff]
  have h4 := h3.below (below_alloc w3 (.cells #[Value.int .i64 t.kind, .int .i64 t.line, .int .i64 t.col, .string t.text] 62))
  have K4 := K3.trans ((below_alloc w3 (.cells #[Value.int .i64 t.kind, .int .i64 t.line, .int .i64 t.col, .string t.text] 62)).mono (by have := h3.pk.row.lt; omega))
  have r4 := r3.alloc (.cells #[Value.int .i64 t.kind, .int .i64 t.line, .int .i64 t.col, .string t.text] 62)
  have q4 := Row.new w3 62 [Value.int .i64 t.kind, .int .i64 t.line, .int .i64 t.col, .string t.text]
  replace q4 : Row (w3.alloc (.cells #[Value.int .i64 t.kind, .int .i64 t.line, .int .i64 t.col, .string t.text] 62)) _ _ _ := q4
  generalize w3.alloc (.cells #[Value.int .i64 t.kind, .int .i64 t.line, .int .i64 t.col, .string t.text] 62) = w4 at *
  have c0 := q4.cell (i := 0) rfl
  have c1 := q4.cell (i := 1) rfl
  have c2 := q4.cell (i := 2) rfl
  have c3 := q4.cell (i := 3) rfl
  try simp +contextual (maxSteps := 2000000) (disch := first | omega | (simp only [SZ]; first | done | omega) | (simp only [TS] at *; omega)) only [PZ, RZ, ovw, oneC, reduceAdd, reduceMul, reduceSub, reduceEqDiff, reduceLT, ↓reduceIte, Int.reduceToNat, reduceLeDiff,  c3]
  have hf : bs ⟨#[102, 97, 99, 116, 111, 114]⟩ = asc "factor" := by decide +kernel
  have hs : bs ⟨#[115, 101, 114, 105, 97, 108]⟩ = asc "serial" := by decide +kernel
  refine WX_joinX (fun σ w5 => ∃ (x : Ad) (a3 : Nat) (cs : List Value), r = .ok (({ G with addons := G.addons ++ [x] }, seen), T.drop a3) ∧ a < a3 ∧ σ 0 = .pointer (some ⟨g, 0, none⟩) ∧ σ 2 = .pointer (some ⟨ga, 0, none⟩) ∧ Row w5 ga 45 cs ∧ AdC (IntsT base w5) cs x ∧ GmSt w5 base g gs A c T a3 G seen Va Vt Vs ∧ Below base w w5)
    (fun ch w5 => ResG base g gs A c T w r (.panicked ch) w5) ?_ (fun _ _ _ h => h) ?_
  · rintro σ w5 ⟨x, a3, cs, hrx, ha3, f0, f2, r5, hx, h5, K5⟩
    have hgl5 := h5.pk.row.lt
    have hra := r5.lt
    have hlt5 := h5.pk.lt
    have hva : ∀ b, Va.ownBlock = some b → b < ga := fun b hb => by have := (owns_ge h1.own hb).2; omega
    obtain ⟨vf, vs, rfl, hx1, hx2⟩ := hx
    obtain ⟨Aa, na, ca, hVa, hna⟩ : ∃ Aa na ca, Va = .slice Aa na ca ∧ na = G.addons.length := by
      rcases h5.own.2 with ⟨hv, h0⟩ | ⟨g', cap, cur, hv, _⟩
      · exact ⟨none, 0, 0, hv, h0.symm⟩
      · exact ⟨_, _, _, hv, rfl⟩
    subst hVa hna
    have hI : sliceI Tryz.prog 23 = some (45, 6, 88) := by kernel_rfl
    have p23 := h5.pk.row.cell (i := 23) rfl
    have p23z := h5.pk.row.frozen 23
    have x0 := r5.cell (i := 0) rfl
    have x1 := r5.cell (i := 1) rfl
    have x2 := r5.cell (i := 2) rfl
    have x3 := r5.cell (i := 3) rfl
    have x4 := r5.cell (i := 4) rfl
    have x5 := r5.cell (i := 5) rfl
    try simp +contextual (maxSteps := 2000000) (disch := first | omega | (simp only [SZ]; first | done | omega) | (simp only [TS] at *; omega)) only [PZ, RZ, ovw, oneC, reduceAdd, reduceMul, reduceSub, reduceEqDiff, reduceLT, ↓reduceIte, Int.reduceToNat, reduceLeDiff]
    refine RawD_np (Raw_ordX [1, 2, 3, 4, 5, 6, 7] (fun w' => w'.cell? ⟨g, 23, none⟩ = some (.slice Aa G.addons.length ca) ∧ Row w' ga 45 [.string x.name, .int .i64 x.kind, .int .i64 x.price, vf, .int .i64 x.digits, vs]) 13 rfl MX ?_)
    have h6 := h5.leaf (w' := w5.drew) (Kept.refl [g] w5).drew (h5.pk.kept (X := []) (Kept.refl [] w5).drew (by simp) (by simp)) (Nat.le_refl _)
    have K6 : Below base w w5.drew := below_drew K5
    have r6 : Row w5.drew ga 45 _ := r5
    have d23 : w5.drew.cell? _ = _ := p23
    have d23z : w5.drew.frozen? ⟨g, 23, none⟩ = false := p23z
    have hx1' := hx1.kt (KT.of_kept (Kept.refl [] w5).drew) (by simp)
    have hx2' := hx2.kt (KT.of_kept (Kept.refl [] w5).drew) (by simp)
    have hgl6 : g < w5.drew.heap.size := hgl5
    have hra6 : ga < w5.drew.heap.size := hra
    generalize w5.drew = w6 at *
    have hvf1 : vf.oneCell' = true := by obtain ⟨_, _, e, _⟩ := hx1; rw [e]; rfl
    have hvs1 : vs.oneCell' = true := by obtain ⟨_, _, e, _⟩ := hx2; rw [e]; rfl
    obtain ⟨A', c', w7, he, hown7, hb7, hs7, hk7⟩ := push2 (P := Tryz.prog) (T2 := 23) (ty := 23) (news := [.string x.name, .int .i64 x.kind, .int .i64 x.price, vf, .int .i64 x.digits, vs]) h6.own (by omega) hI rfl
      (fun u hu => by simp only [List.mem_cons, List.not_mem_nil, or_false] at hu; rcases hu with rfl | rfl | rfl | rfl | rfl | rfl <;> first | rfl | assumption) (by have := h6.fewA; omega) (by decide)
    refine OrdX_readsU (τ := ?tz) [0] 12 rfl (by kernel_rfl) (by kernel_rfl) (by kernel_rfl) noP_pan (fun w' => ?_) ?_; rotate_left
    · simp only [opsL_cons, opsL_nil, List.getElem?_toArray, List.getElem?_cons_zero, List.getElem?_cons_succ, optL_some]
      simp +contextual (maxSteps := 2000000) (disch := first | omega | (simp only [SZ]; first | done | omega) | (simp only [TS] at *; omega)) only [RZ, ovw, oneC, reduceAdd, reduceMul, reduceSub, reduceEqDiff, reduceLT, ↓reduceIte, Int.reduceToNat, reduceLeDiff,  f0]
      exact rfl
    refine OrdX_reads (τ := ?ta) [1, 2, 3, 4, 5, 6] 6 rfl (by kernel_rfl) (by kernel_rfl) noP_pan ⟨d23, r6⟩ (fun w8 h8 => ?_) ?_; rotate_left
    · obtain ⟨h8a, h8r⟩ := h8
      have x0 := h8r.cell (i := 0) rfl
      have x1 := h8r.cell (i := 1) rfl
      have x2 := h8r.cell (i := 2) rfl
      have x3 := h8r.cell (i := 3) rfl
      have x4 := h8r.cell (i := 4) rfl
      have x5 := h8r.cell (i := 5) rfl
      simp only [opsL_cons, opsL_nil, List.getElem?_toArray, List.getElem?_cons_zero, List.getElem?_cons_succ, optL_some]
      simp +contextual (maxSteps := 2000000) (disch := first | omega | (simp only [SZ]; first | done | omega) | (simp only [TS] at *; omega)) only [RZ, ovw, oneC, reduceAdd, reduceMul, reduceSub, reduceEqDiff, reduceLT, ↓reduceIte, Int.reduceToNat, reduceLeDiff,  f0, f2, h8a, x0, x1, x2, x3, x4, x5]
      exact rfl
    refine OrdX_one 7 (by kernel_rfl) rfl ?_
    simp +contextual (maxSteps := 2000000) (disch := first | omega | (simp only [SZ]; first | done | omega) | (simp only [TS] at *; omega)) only [RZ, ovw, oneC, reduceAdd, reduceMul, reduceSub, reduceEqDiff, reduceLT, ↓reduceIte, Int.reduceToNat, reduceLeDiff]
    refine ⟨⟨d23, r6.alloc _⟩, ?_⟩
    refine OrdX_chain [8, 9, 10, 11, 12] _ _ _ (by kernel_rfl) (by kernel_rfl) ?_
    simp only [opsL_cons, opsL_nil, List.getElem?_toArray, List.getElem?_cons_zero, List.getElem?_cons_succ, optL_some]
    have hb7g := hk7 g hgl6 (own_ne h6.own h6.pk.row (by decide))
    have d7 : w7.cell? ⟨g, 23, none⟩ = some (.slice Aa G.addons.length ca) := (World.cell?_of_block (w := w6) hb7g).trans d23
    have y7 : w7.frozen? ⟨g, 23, none⟩ = false := (World.frozen?_of_block (w := w6) hb7g).trans d23z
    simp +contextual (maxSteps := 2000000) (disch := first | omega | (simp only [SZ]; first | done | omega) | (simp only [TS] at *; omega)) only [RZ, ovw, oneC, reduceAdd, reduceMul, reduceSub, reduceEqDiff, reduceLT, ↓reduceIte, Int.reduceToNat, reduceLeDiff,  f0, f2, he, d7, y7]
    have hR7 := h6.pk.row.of_block hb7g
    have hS7 : SeenIn w7 gs seen := by
      obtain ⟨l, clk, hl, hk⟩ := h6.sn
      exact ⟨l, clk, (hk7 gs (Array.getElem?_eq_some_iff.1 hl).1 (own_ne_seen h6.own h6.sn)).trans hl, hk⟩
    have hI7 : ∀ {v : Value} {L : List Int}, IntsT base w6 v L → IntsT base (w7.setCell ⟨g, 23, none⟩ (.slice A' (G.addons.length + 1) c')) v L := fun hv => hv.of_blocks fun b cs hr => by
      have hbg : b ≠ g := fun e => by subst e; obtain ⟨cur, hc, _⟩ := hr; exact not_int_parser h6.pk.row _ hc _ _ rfl
      rw [Below.heap_setCell _ _ _ _ (by exact hbg)]
      exact hk7 b hr.lt (own_ne h6.own hr (by decide))
    refine ResG.ok (Va := .slice A' (G.addons.length + 1) c') (Vt := Vt) (Vs := Vs ++ [[.string x.name, .int .i64 x.kind, .int .i64 x.price, vf, .int .i64 x.digits, vs]]) hrx ((K6.trans hb7).setCell (p := ⟨g, 23, none⟩) hbg _) ?_
    refine ⟨?_, ?_, ?_, ?_, ?_, ?_, ?_, h6.days, h6.toks, h6.hg⟩
    · refine ⟨h6.pk.lt, ?_, h6.pk.off, hR7.set_ (i := 23) (by simp [gmV]) _⟩
      have hkt : Kept [g] w6 w6 := Kept.refl _ _
      intro hn
      obtain ⟨b, o, e, hb, hc⟩ := h6.pk.arr hn
      have hbb := h6.toks b o e
      refine ⟨b, o, e, by simp; omega, fun i l hl j v hv => ?_⟩
      have hne : b ≠ g := by omega
      rw [World.cell?_of_block (w := w7) (Below.heap_setCell _ _ _ _ (by exact hne)), World.cell?_of_block (w := w6) (hb7.block b hbb)]
      exact hc i l hl j v hv
    · obtain ⟨l, clk, hl, hk⟩ := hS7
      exact ⟨l, clk, (Below.heap_setCell _ _ _ _ (by exact hne)).trans hl, hk⟩
    · exact (h6.ads.mono fun v L hv => hI7 hv).snoc ⟨vf, vs, rfl, hI7 hx1', hI7 hx2'⟩
    · have := owns_keep (w' := w7.setCell ⟨g, 23, none⟩ (.slice A' (G.addons.length + 1) c')) hown7 (fun b hb => Below.heap_setCell _ _ _ _ (by
        intro e
        rw [show b = g from e] at hb
        exact own_ne hown7 hR7 (by decide) hb))
      rw [List.length_append, List.flatten_append]
      simpa using this
    · refine owns_keep h6.tis fun b hb => ?_
      have hbg : b ≠ g := fun e => own_ne h6.tis h6.pk.row (by decide) (e ▸ hb)
      rw [Below.heap_setCell _ _ _ _ (by exact hbg)]
      exact hk7 b (owns_ge h6.tis hb).2 (own_ne_own h6.own h6.tis (by decide) hb)
    · rw [List.length_append]; have := h.fewA; simp; omega
    · exact h6.fewT
  · have hgn : g ≠ ga := by omega
    have hgsl := h1.sn.lt
    have hva : Va.ownBlock ≠ some ga := fun hb => by have := (owns_ge h1.own hb).2; omega
    have hvt : Vt.ownBlock ≠ some ga := fun hb => by have := (owns_ge h1.tis hb).2; omega
    by_cases hx : t.text = ⟨#[102, 97, 99, 116, 111, 114]⟩
    · have e1 : (t.text = ⟨#[102, 97, 99, 116, 111, 114]⟩) = True := eq_true hx
      rw [hx, hf, if_pos rfl] at hr
      simp +contextual (maxSteps := 2000000) (disch := first | omega | (simp only [SZ]; first | done | omega) | (simp only [TS] at *; omega)) only [PZ, RZ, ovw, oneC, reduceAdd, reduceMul, reduceSub, reduceEqDiff, reduceLT, ↓reduceIte, Int.reduceToNat, reduceLeDiff,  e1]
      refine WX_if_t rfl ?_
      have z1 := r4.cell (i := 1) rfl
      have z1z := r4.frozen 1
      simp +contextual (maxSteps := 2000000) (disch := first | omega | (simp only [SZ]; first | done | omega) | (simp only [TS] at *; omega)) only [PZ, RZ, ovw, oneC, reduceAdd, reduceMul, reduceSub, reduceEqDiff, reduceLT, ↓reduceIte, Int.reduceToNat, reduceLeDiff,  z1, z1z]
      obtain ⟨h5, K5, r5⟩ := stSet (v := .int .i64 1) (i := 1) h4 K4 r4 (by decide) (by omega) (by omega) (by omega) hva hvt (by simp)
      replace r5 : Row (w4.setCell ⟨ga, 1, none⟩ (.int .i64 1)) ga 45 [Value.string nm, .int .i64 1, .int .i64 0, .slice none 0 0, .int .i64 0, .slice none 0 0] := r5
      generalize w4.setCell ⟨ga, 1, none⟩ (.int .i64 1) = w5 at *
      refine Res.use (paAny_any h5.pk hT) (fun x1 a6 w6 e6 k6 p6 => ?_) (fun e L w6 e6 k6 => ?_); rotate_left
      · obtain ⟨q, rfl, rfl⟩ := anyT_err e6
        rw [q] at hr
        exact ResG.err hr.symm (K5.trans (h5.keptB k6 (by simpa using hbg)))
      have q6 := anyT_ok e6
      rw [q6] at hr
      dsimp only [thenT] at hr
      have m6 := drop_mono (num_len q6) rfl p6.lt h5.pk.lt
      have h6 := h5.leaf k6 p6 m6
      have K6 := K5.trans (h5.keptB k6 (by simpa using hbg))
      have r6 := r5.kept k6 (by simp; omega)
      have z2 := r6.cell (i := 2) rfl
      have z2z := r6.frozen 2
      try simp +contextual (maxSteps := 2000000) (disch := first | omega | (simp only [SZ]; first | done | omega) | (simp only [TS] at *; omega)) only [PZ, RZ, ovw, oneC, reduceAdd, reduceMul, reduceSub, reduceEqDiff, reduceLT, ↓reduceIte, Int.reduceToNat, reduceLeDiff,  z2, z2z]
      obtain ⟨h7, K7, r7⟩ := stSet (v := .int .i64 x1) (i := 2) h6 K6 r6 (by decide) (by omega) (by omega) (by omega) hva hvt (by simp)
      replace r7 : Row (w6.setCell ⟨ga, 2, none⟩ (.int .i64 x1)) ga 45 [Value.string nm, .int .i64 1, .int .i64 x1, .slice none 0 0, .int .i64 0, .slice none 0 0] := r7
      generalize w6.setCell ⟨ga, 2, none⟩ (.int .i64 x1) = w7 at *
      refine (paNumbers_any h7.pk hT).mono ?_
      rintro e w8 ⟨k8, A8, c8, a8, rfl, q8, p8, o8⟩
      generalize hZ : numsT (T.drop a6).length (T.drop a6) = Z at *
      have m8 := drop_mono (T := T) (a := a6) (L := Z.2) (by rw [← hZ]; exact nums_len _ _) q8 p8.lt h7.pk.lt
      rw [q8] at hr
      have h8 := h7.leaf k8 p8 m8
      have K8 := K7.trans (h7.keptB k8 (by simpa using hbg))
      have r8 := r7.kept k8 (by simp; omega)
      have i8 := IntsT.of_owns (lo := base) o8 (by have := h7.pk.row.lt; omega)
      have z3 := r8.cell (i := 3) rfl
      have z3z := r8.frozen 3
      simp +contextual (maxSteps := 2000000) (disch := first | omega | (simp only [SZ]; first | done | omega) | (simp only [TS] at *; omega)) only [PZ, RZ, ovw, oneC, reduceAdd, reduceMul, reduceSub, reduceEqDiff, reduceLT, ↓reduceIte, Int.reduceToNat, reduceLeDiff,  z3, z3z]
      obtain ⟨h9, K9, r9⟩ := stSet (v := .slice A8 Z.1.length c8) (i := 3) h8 K8 r8 (by decide) (by omega) (by omega) (by omega) hva hvt (by simp)
      have i9 := i8.of_blocks (w' := w8.setCell ⟨ga, 3, none⟩ (.slice A8 Z.1.length c8)) (fun b cs hb => Below.heap_setCell _ _ _ _ (by
        intro e
        have e : b = ga := e
        subst e
        obtain ⟨c1, e1, _⟩ := r8
        obtain ⟨c2, e2, _⟩ := hb
        rw [e1] at e2
        injection e2 with e2
        injection e2 with _ e2
        exact absurd e2 (by decide)))
      exact ⟨_, a8, _, hr.symm, by omega, r9, ⟨_, _, rfl, i9, IntsT.nil _⟩, h9, K9⟩
    · have e1 : (t.text = ⟨#[102, 97, 99, 116, 111, 114]⟩) = False := eq_false hx
      rw [if_neg (fun h => hx (bs_inj (h.trans hf.symm)))] at hr
      simp +contextual (maxSteps := 2000000) (disch := first | omega | (simp only [SZ]; first | done | omega) | (simp only [TS] at *; omega)) only [PZ, RZ, ovw, oneC, reduceAdd, reduceMul, reduceSub, reduceEqDiff, reduceLT, ↓reduceIte, Int.reduceToNat, reduceLeDiff,  e1]
      refine WX_if_f rfl ?_
      by_cases hy : t.text = ⟨#[115, 101, 114, 105, 97, 108]⟩
      · have e2 : (t.text = ⟨#[115, 101, 114, 105, 97, 108]⟩) = True := eq_true hy
        rw [hy, hs, if_pos rfl] at hr
        simp +contextual (maxSteps := 2000000) (disch := first | omega | (simp only [SZ]; first | done | omega) | (simp only [TS] at *; omega)) only [PZ, RZ, ovw, oneC, reduceAdd, reduceMul, reduceSub, reduceEqDiff, reduceLT, ↓reduceIte, Int.reduceToNat, reduceLeDiff,  e2]
        refine WX_if_t rfl ?_
        have z1 := r4.cell (i := 1) rfl
        have z1z := r4.frozen 1
        simp +contextual (maxSteps := 2000000) (disch := first | omega | (simp only [SZ]; first | done | omega) | (simp only [TS] at *; omega)) only [PZ, RZ, ovw, oneC, reduceAdd, reduceMul, reduceSub, reduceEqDiff, reduceLT, ↓reduceIte, Int.reduceToNat, reduceLeDiff,  z1, z1z]
        obtain ⟨h5, K5, r5⟩ := stSet (v := .int .i64 2) (i := 1) h4 K4 r4 (by decide) (by omega) (by omega) (by omega) hva hvt (by simp)
        replace r5 : Row (w4.setCell ⟨ga, 1, none⟩ (.int .i64 2)) ga 45 [Value.string nm, .int .i64 2, .int .i64 0, .slice none 0 0, .int .i64 0, .slice none 0 0] := r5
        generalize w4.setCell ⟨ga, 1, none⟩ (.int .i64 2) = w5 at *
        refine Res.use (paAny_any h5.pk hT) (fun x1 a6 w6 e6 k6 p6 => ?_) (fun e L w6 e6 k6 => ?_); rotate_left
        · obtain ⟨q, rfl, rfl⟩ := anyT_err e6
          rw [q] at hr
          exact ResG.err hr.symm (K5.trans (h5.keptB k6 (by simpa using hbg)))
        have q6 := anyT_ok e6
        rw [q6] at hr
        dsimp only [thenT] at hr
        have m6 := drop_mono (num_len q6) rfl p6.lt h5.pk.lt
        have h6 := h5.leaf k6 p6 m6
        have K6 := K5.trans (h5.keptB k6 (by simpa using hbg))
        have r6 := r5.kept k6 (by simp; omega)
        have z2 := r6.cell (i := 2) rfl
        have z2z := r6.frozen 2
        try simp +contextual (maxSteps := 2000000) (disch := first | omega | (simp only [SZ]; first | done | omega) | (simp only [TS] at *; omega)) only [PZ, RZ, ovw, oneC, reduceAdd, reduceMul, reduceSub, reduceEqDiff, reduceLT, ↓reduceIte, Int.reduceToNat, reduceLeDiff,  z2, z2z]
        obtain ⟨h7, K7, r7⟩ := stSet (v := .int .i64 x1) (i := 2) h6 K6 r6 (by decide) (by omega) (by omega) (by omega) hva hvt (by simp)
        replace r7 : Row (w6.setCell ⟨ga, 2, none⟩ (.int .i64 x1)) ga 45 [Value.string nm, .int .i64 2, .int .i64 x1, .slice none 0 0, .int .i64 0, .slice none 0 0] := r7
        generalize w6.setCell ⟨ga, 2, none⟩ (.int .i64 x1) = w7 at *
        refine Res.use (paAny_any h7.pk hT) (fun x2 a8 w8 e8 k8 p8 => ?_) (fun e L w8 e8 k8 => ?_); rotate_left
        · obtain ⟨q, rfl, rfl⟩ := anyT_err e8
          rw [q] at hr
          exact ResG.err hr.symm (K7.trans (h7.keptB k8 (by simpa using hbg)))
        have q8 := anyT_ok e8
        rw [q8] at hr
        dsimp only at hr
        have m8 := drop_mono (num_len q8) rfl p8.lt h7.pk.lt
        have h8 := h7.leaf k8 p8 m8
        have K8 := K7.trans (h7.keptB k8 (by simpa using hbg))
        have r8 := r7.kept k8 (by simp; omega)
        have z4 := r8.cell (i := 4) rfl
        have z4z := r8.frozen 4
        try simp +contextual (maxSteps := 2000000) (disch := first | omega | (simp only [SZ]; first | done | omega) | (simp only [TS] at *; omega)) only [PZ, RZ, ovw, oneC, reduceAdd, reduceMul, reduceSub, reduceEqDiff, reduceLT, ↓reduceIte, Int.reduceToNat, reduceLeDiff,  z4, z4z]
        obtain ⟨h9, K9, r9⟩ := stSet (v := .int .i64 x2) (i := 4) h8 K8 r8 (by decide) (by omega) (by omega) (by omega) hva hvt (by simp)
        replace r9 : Row (w8.setCell ⟨ga, 4, none⟩ (.int .i64 x2)) ga 45 [Value.string nm, .int .i64 2, .int .i64 x1, .slice none 0 0, .int .i64 x2, .slice none 0 0] := r9
        generalize w8.setCell ⟨ga, 4, none⟩ (.int .i64 x2) = w9 at *
        refine (paNumbers_any h9.pk hT).mono ?_
        rintro e w10 ⟨k10, A10, c10, a10, rfl, q10, p10, o10⟩
        generalize hZ : numsT (T.drop a8).length (T.drop a8) = Z at *
        have m10 := drop_mono (T := T) (a := a8) (L := Z.2) (by rw [← hZ]; exact nums_len _ _) q10 p10.lt h9.pk.lt
        rw [q10] at hr
        have h10 := h9.leaf k10 p10 m10
        have K10 := K9.trans (h9.keptB k10 (by simpa using hbg))
        have r10 := r9.kept k10 (by simp; omega)
        have i10 := IntsT.of_owns (lo := base) o10 (by have := h9.pk.row.lt; omega)
        have z5 := r10.cell (i := 5) rfl
        have z5z := r10.frozen 5
        simp +contextual (maxSteps := 2000000) (disch := first | omega | (simp only [SZ]; first | done | omega) | (simp only [TS] at *; omega)) only [PZ, RZ, ovw, oneC, reduceAdd, reduceMul, reduceSub, reduceEqDiff, reduceLT, ↓reduceIte, Int.reduceToNat, reduceLeDiff,  z5, z5z]
        obtain ⟨h11, K11, r11⟩ := stSet (v := .slice A10 Z.1.length c10) (i := 5) h10 K10 r10 (by decide) (by omega) (by omega) (by omega) hva hvt (by simp)
        have i11 := i10.of_blocks (w' := w10.setCell ⟨ga, 5, none⟩ (.slice A10 Z.1.length c10)) (fun b cs hb => Below.heap_setCell _ _ _ _ (by
          intro e
          have e : b = ga := e
          subst e
          obtain ⟨c1, e1, _⟩ := r10
          obtain ⟨c2, e2, _⟩ := hb
          rw [e1] at e2
          injection e2 with e2
          injection e2 with _ e2
          exact absurd e2 (by decide)))
        exact ⟨_, a10, _, hr.symm, by omega, r11, ⟨_, _, rfl, IntsT.nil _, i11⟩, h11, K11⟩
      · have e2 : (t.text = ⟨#[115, 101, 114, 105, 97, 108]⟩) = False := eq_false hy
        rw [if_neg (fun h => hy (bs_inj (h.trans hs.symm)))] at hr
        simp +contextual (maxSteps := 2000000) (disch := first | omega | (simp only [SZ]; first | done | omega) | (simp only [TS] at *; omega)) only [PZ, RZ, ovw, oneC, reduceAdd, reduceMul, reduceSub, reduceEqDiff, reduceLT, ↓reduceIte, Int.reduceToNat, reduceLeDiff,  e2]
        refine WX_if_f rfl ?_
        simp +contextual (maxSteps := 2000000) (disch := first | omega | (simp only [SZ]; first | done | omega) | (simp only [TS] at *; omega)) only [PZ, RZ, ovw, oneC, reduceAdd, reduceMul, reduceSub, reduceEqDiff, reduceLT, ↓reduceIte, Int.reduceToNat, reduceLeDiff,  c0, c1, c2, c3]
        refine (paFail_any g 1 t w4).mono ?_
        rintro e w5 ⟨rfl, hB5⟩
        rw [Ends_pan]
        have := ResG.err (base := base) (g := g) (gs := gs) (A := A) (c := c) (T := T) hr.symm (K4.trans (hB5.mono (by have := h4.pk.row.lt; omega)))
        rw [hlnT] at this
        exact this
end
end Go.Proofs.YtbdkggnajipdhaaGreatDoor
/- Walks: the reader of a game's tokens: tier. -/
namespace Go.Proofs.YtbdkggnajipdhaaGreatDoor
open Nat (reduceAdd reduceMul reduceSub reduceEqDiff reduceLT reduceLeDiff)
open Go.RowKit
set_option maxRecDepth 100000
section
variable {base g gs c a : Nat} {A : Option Addr} {T : List Tk} {w : World} {G : Gm} {seen : List (List Nat)} {Va Vt : Value} {Vs : List (List Value)}
theorem paFollows2 {rest : List Value} (s : ByteArray) (h : PkIn w g A c T a rest) (hT : TokOk T) : Calls Tryz.prog 131 #[.pointer (some ⟨g, 0, none⟩), .string s] w fun e w' =>
    Kept [g] w w' ∧ ((isT 1 (bs s) (T.drop a) = some (T.drop (a + 1)) ∧ e = .returned (.bool true) ∧ PkIn w' g A c T (a + 1) rest) ∨ (isT 1 (bs s) (T.drop a) = none ∧ e = .returned (.bool false) ∧ PkIn w' g A c T a rest)) := by
  refine (paFollows_any s h hT).mono fun e w' ⟨h1, h2, h3, h4⟩ => ⟨h3, ?_⟩
  cases hq : isT 1 (bs s) (T.drop a) with
  | some L =>
    rw [hq] at h1 h2 h4
    exact .inl ⟨h4 rfl, h1, h2⟩
  | none =>
    rw [hq] at h1 h2
    exact .inr ⟨rfl, h1, h2⟩
set_option maxHeartbeats 4000000 in
theorem paTier_any (h : GmSt w base g gs A c T a G seen Va Vt Vs) (hT : TokOk T) : Calls Tryz.prog 106 #[.pointer (some ⟨g, 0, none⟩)] w
    (ResG base g gs A c T w (bindT (tierT (T.drop a)) fun x => .ok (({ G with tiers := G.tiers ++ [x.1] }, seen), x.2))) := by
  refine calls_WX (l := [_]) Tryz.func106 rfl _ Tryz.ntmps106 (by simp) ?_
  generalize hr : (bindT (tierT (T.drop a)) fun x => Except.ok (({ G with tiers := G.tiers ++ [x.1] }, seen), x.2)) = r
  unfold tierT at hr
  have hlt := h.pk.lt
  have hbig := hT.big
  obtain ⟨hb9, hbg, hbs, hne⟩ := h.hg
  have hgl0 := h.pk.row.lt
  have hgs0 := h.sn.lt
  refine WX_piece fun K hK hX => ?_
  simp +contextual (maxSteps := 2000000) (disch := first | omega | (simp only [SZ]; first | done | omega) | (simp only [TS] at *; omega)) only [PZ, RZ, ovw, oneC, reduceAdd, reduceMul, reduceSub, reduceEqDiff, reduceLT, ↓reduceIte, Int.reduceToNat, reduceLeDiff]
  refine hK _ _ ?_
  clear hK hX K
  have h1 := h.below (below_alloc w (.cells #[Value.int .i64 0, .int .i64 0, .int .i64 0, .int .i64 0, .int .i64 0, .int .i64 0] 41))
  have K1 : Below base w _ := (below_alloc w (.cells #[Value.int .i64 0, .int .i64 0, .int .i64 0, .int .i64 0, .int .i64 0, .int .i64 0] 41)).mono (by omega)
  have r1 := Row.new w 41 [Value.int .i64 0, .int .i64 0, .int .i64 0, .int .i64 0, .int .i64 0, .int .i64 0]
  replace r1 : Row (w.alloc (.cells #[Value.int .i64 0, .int .i64 0, .int .i64 0, .int .i64 0, .int .i64 0, .int .i64 0] 41)) _ _ _ := r1
  generalize hga : w.heap.size = ga at *
  have hva : Va.ownBlock ≠ some ga := fun hb => by have := (owns_ge h.own hb).2; omega
  have hvt : Vt.ownBlock ≠ some ga := fun hb => by have := (owns_ge h.tis hb).2; omega
  generalize w.alloc (.cells #[Value.int .i64 0, .int .i64 0, .int .i64 0, .int .i64 0, .int .i64 0, .int .i64 0] 41) = w1 at *
  generalize hM : modeT (T.drop a) = M at hr
  have hfin : ∀ {e : Int} {L : List Tk} {w' : World}, M = .error (e, L) → Below base w w' → ResG base g gs A c T w r (.panicked [{ v := failV e (hdT L).line, recovered := false }]) w' := fun hm hB => by
    rw [hm] at hr
    exact ResG.err hr.symm hB
  have hbga : base ≤ ga := by omega
  have hgag : ga ≠ g := by omega
  have hgas : ga ≠ gs := by omega
  refine WX_cut (fun σ w2 => ∃ (m : Int × Int × Int × Int) (a1 : Nat), M = .ok (m, T.drop a1) ∧ a ≤ a1 ∧ σ 0 = .pointer (some ⟨g, 0, none⟩) ∧ σ 2 = .pointer (some ⟨ga, 0, none⟩) ∧
    Row w2 ga 41 [Value.int .i64 m.2.1, .int .i64 m.2.2.1, .int .i64 m.2.2.2, .int .i64 m.1, .int .i64 0, .int .i64 0] ∧ GmSt w2 base g gs A c T a1 G seen Va Vt Vs ∧ Below base w w2) ?_ ?_; rotate_left
  · clear hr
    unfold modeT at hM
    rw [WX_block]
    have s0 : (upd (init [Value.pointer (some ⟨g, 0, none⟩)] 0 bot) 2 (.pointer (some ⟨ga, 0, none⟩))) 0 = .pointer (some ⟨g, 0, none⟩) := rfl
    have s2 : (upd (init [Value.pointer (some ⟨g, 0, none⟩)] 0 bot) 2 (.pointer (some ⟨ga, 0, none⟩))) 2 = .pointer (some ⟨ga, 0, none⟩) := rfl
    have hq2 : bs ⟨#[101, 120, 97, 99, 116]⟩ = asc "exact" := by decide +kernel
    refine WX_piece fun K hK hX => ?_
    simp +contextual (maxSteps := 2000000) (disch := first | omega | (simp only [SZ]; first | done | omega) | (simp only [TS] at *; omega)) only [PZ, RZ, ovw, oneC, reduceAdd, reduceMul, reduceSub, reduceEqDiff, reduceLT, ↓reduceIte, Int.reduceToNat, reduceLeDiff]
    refine (paFollows2 _ h1.pk hT).mono ?_
    rintro e w2 ⟨k2, hk2⟩
    rw [hq2] at hk2
    have r2 := r1.kept k2 (by simp; omega)
    have K2 := K1.trans (h1.keptB k2 (by simpa using hbg))
    rcases hk2 with ⟨q2, rfl, p2⟩ | ⟨q2, rfl, p2⟩
    · have h2 := h1.leaf k2 p2 (by omega)
      rw [q2] at hM
      dsimp only at hM
      try simp +contextual (maxSteps := 2000000) (disch := first | omega | (simp only [SZ]; first | done | omega) | (simp only [TS] at *; omega)) only [PZ, RZ, ovw, oneC, reduceAdd, reduceMul, reduceSub, reduceEqDiff, reduceLT, ↓reduceIte, Int.reduceToNat, reduceLeDiff,  s0, s2]
      refine hK _ _ ?_
      clear hK hX K
      refine WX_if_t rfl ?_
      have z3 := r2.cell (i := 3) rfl
      have z3z := r2.frozen 3
      simp +contextual (maxSteps := 2000000) (disch := first | omega | (simp only [SZ]; first | done | omega) | (simp only [TS] at *; omega)) only [PZ, RZ, ovw, oneC, reduceAdd, reduceMul, reduceSub, reduceEqDiff, reduceLT, ↓reduceIte, Int.reduceToNat, reduceLeDiff,  s0, s2, z3, z3z]
      obtain ⟨h9, K9, r9⟩ := stSet (v := .int .i64 1) (i := 3) h2 K2 r2 (by decide) hbga hgag hgas hva hvt (by simp)
      exact ⟨(1, 0, 0, 0), a + 1, hM.symm, by omega, r9, h9, K9⟩
    have h2 := h1.leaf k2 p2 (Nat.le_refl _)
    rw [q2] at hM
    dsimp only at hM
    try simp +contextual (maxSteps := 2000000) (disch := first | omega | (simp only [SZ]; first | done | omega) | (simp only [TS] at *; omega)) only [PZ, RZ, ovw, oneC, reduceAdd, reduceMul, reduceSub, reduceEqDiff, reduceLT, ↓reduceIte, Int.reduceToNat, reduceLeDiff,  s0, s2]
    refine hK _ _ ?_
    clear hK hX K
    refine WX_if_f rfl ?_
    have hq3 : bs ⟨#[98, 111, 120]⟩ = asc "box" := by decide +kernel
    refine WX_piece fun K hK hX => ?_
    simp +contextual (maxSteps := 2000000) (disch := first | omega | (simp only [SZ]; first | done | omega) | (simp only [TS] at *; omega)) only [PZ, RZ, ovw, oneC, reduceAdd, reduceMul, reduceSub, reduceEqDiff, reduceLT, ↓reduceIte, Int.reduceToNat, reduceLeDiff,  s0, s2]
    refine (paFollows2 _ h2.pk hT).mono ?_
    rintro e w3 ⟨k3, hk3⟩
    rw [hq3] at hk3
    have r3 := r2.kept k3 (by simp; omega)
    have K3 := K2.trans (h2.keptB k3 (by simpa using hbg))
    rcases hk3 with ⟨q3, rfl, p3⟩ | ⟨q3, rfl, p3⟩
    · have h3 := h2.leaf k3 p3 (by omega)
      rw [q3] at hM
      dsimp only at hM
      try simp +contextual (maxSteps := 2000000) (disch := first | omega | (simp only [SZ]; first | done | omega) | (simp only [TS] at *; omega)) only [PZ, RZ, ovw, oneC, reduceAdd, reduceMul, reduceSub, reduceEqDiff, reduceLT, ↓reduceIte, Int.reduceToNat, reduceLeDiff,  s0, s2]
      refine hK _ _ ?_
      clear hK hX K
      refine WX_if_t rfl ?_
      have z3 := r3.cell (i := 3) rfl
      have z3z := r3.frozen 3
      simp +contextual (maxSteps := 2000000) (disch := first | omega | (simp only [SZ]; first | done | omega) | (simp only [TS] at *; omega)) only [PZ, RZ, ovw, oneC, reduceAdd, reduceMul, reduceSub, reduceEqDiff, reduceLT, ↓reduceIte, Int.reduceToNat, reduceLeDiff,  s0, s2, z3, z3z]
      obtain ⟨h9, K9, r9⟩ := stSet (v := .int .i64 2) (i := 3) h3 K3 r3 (by decide) hbga hgag hgas hva hvt (by simp)
      exact ⟨(2, 0, 0, 0), a + 1, hM.symm, by omega, r9, h9, K9⟩
    have h3 := h2.leaf k3 p3 (Nat.le_refl _)
    rw [q3] at hM
    dsimp only at hM
    try simp +contextual (maxSteps := 2000000) (disch := first | omega | (simp only [SZ]; first | done | omega) | (simp only [TS] at *; omega)) only [PZ, RZ, ovw, oneC, reduceAdd, reduceMul, reduceSub, reduceEqDiff, reduceLT, ↓reduceIte, Int.reduceToNat, reduceLeDiff,  s0, s2]
    refine hK _ _ ?_
    clear hK hX K
    refine WX_if_f rfl ?_
    have hq4 : bs ⟨#[102, 114, 111, 110, 116]⟩ = asc "front" := by decide +kernel
    refine WX_piece fun K hK hX => ?_
    simp +contextual (maxSteps := 2000000) (disch := first | omega | (simp only [SZ]; first | done | omega) | (simp only [TS] at *; omega)) only [PZ, RZ, ovw, oneC, reduceAdd, reduceMul, reduceSub, reduceEqDiff, reduceLT, ↓reduceIte, Int.reduceToNat, reduceLeDiff,  s0, s2]
    refine (paFollows2 _ h3.pk hT).mono ?_
    rintro e w4 ⟨k4, hk4⟩
    rw [hq4] at hk4
    have r4 := r3.kept k4 (by simp; omega)
    have K4 := K3.trans (h3.keptB k4 (by simpa using hbg))
    rcases hk4 with ⟨q4, rfl, p4⟩ | ⟨q4, rfl, p4⟩
    · have h4 := h3.leaf k4 p4 (by omega)
      rw [q4] at hM
      dsimp only at hM
      try simp +contextual (maxSteps := 2000000) (disch := first | omega | (simp only [SZ]; first | done | omega) | (simp only [TS] at *; omega)) only [PZ, RZ, ovw, oneC, reduceAdd, reduceMul, reduceSub, reduceEqDiff, reduceLT, ↓reduceIte, Int.reduceToNat, reduceLeDiff,  s0, s2]
      refine hK _ _ ?_
      clear hK hX K
      refine WX_if_t rfl ?_
      try simp +contextual (maxSteps := 2000000) (disch := first | omega | (simp only [SZ]; first | done | omega) | (simp only [TS] at *; omega)) only [PZ, RZ, ovw, oneC, reduceAdd, reduceMul, reduceSub, reduceEqDiff, reduceLT, ↓reduceIte, Int.reduceToNat, reduceLeDiff,  s0, s2]
      refine Res.use (paAny_any h4.pk hT) (fun x a8 w8 e8 k8 p8 => ?_) (fun e L w8 e8 k8 => ?_); rotate_left
      · obtain ⟨q8, rfl, rfl⟩ := anyT_err e8
        rw [q8] at hM
        exact hfin hM.symm (K4.trans (h4.keptB k8 (by simpa using hbg)))
      have q8 := anyT_ok e8
      rw [q8] at hM
      have m8 := drop_mono (num_len q8) rfl p8.lt h4.pk.lt
      have h8 := h4.leaf k8 p8 m8
      have K8 := K4.trans (h4.keptB k8 (by simpa using hbg))
      have r8 := r4.kept k8 (by simp; omega)
      have z3 := r8.cell (i := 3) rfl
      have z3z := r8.frozen 3
      have z0 := r8.cell (i := 0) rfl
      have z0z := r8.frozen 0
      try simp +contextual (maxSteps := 2000000) (disch := first | omega | (simp only [SZ]; first | done | omega) | (simp only [TS] at *; omega)) only [PZ, RZ, ovw, oneC, reduceAdd, reduceMul, reduceSub, reduceEqDiff, reduceLT, ↓reduceIte, Int.reduceToNat, reduceLeDiff,  s0, s2, z3, z3z, z0, z0z]
      obtain ⟨h9, K9, r9⟩ := stSet (v := .int .i64 3) (i := 3) h8 K8 r8 (by decide) hbga hgag hgas hva hvt (by simp)
      obtain ⟨h10, K10, r10⟩ := stSet (v := .int .i64 x) (i := 0) h9 K9 r9 (by decide) hbga hgag hgas hva hvt (by simp)
      exact ⟨(3, x, 0, 0), a8, hM.symm, by omega, r10, h10, K10⟩
    have h4 := h3.leaf k4 p4 (Nat.le_refl _)
    rw [q4] at hM
    dsimp only at hM
    try simp +contextual (maxSteps := 2000000) (disch := first | omega | (simp only [SZ]; first | done | omega) | (simp only [TS] at *; omega)) only [PZ, RZ, ovw, oneC, reduceAdd, reduceMul, reduceSub, reduceEqDiff, reduceLT, ↓reduceIte, Int.reduceToNat, reduceLeDiff,  s0, s2]
    refine hK _ _ ?_
    clear hK hX K
    refine WX_if_f rfl ?_
    have hq5 : bs ⟨#[98, 97, 99, 107]⟩ = asc "back" := by decide +kernel
    refine WX_piece fun K hK hX => ?_
    simp +contextual (maxSteps := 2000000) (disch := first | omega | (simp only [SZ]; first | done | omega) | (simp only [TS] at *; omega)) only [PZ, RZ, ovw, oneC, reduceAdd, reduceMul, reduceSub, reduceEqDiff, reduceLT, ↓reduceIte, Int.reduceToNat, reduceLeDiff,  s0, s2]
    refine (paFollows2 _ h4.pk hT).mono ?_
    rintro e w5 ⟨k5, hk5⟩
    rw [hq5] at hk5
    have r5 := r4.kept k5 (by simp; omega)
    have K5 := K4.trans (h4.keptB k5 (by simpa using hbg))
    rcases hk5 with ⟨q5, rfl, p5⟩ | ⟨q5, rfl, p5⟩
    · have h5 := h4.leaf k5 p5 (by omega)
      rw [q5] at hM
      dsimp only at hM
      try simp +contextual (maxSteps := 2000000) (disch := first | omega | (simp only [SZ]; first | done | omega) | (simp only [TS] at *; omega)) only [PZ, RZ, ovw, oneC, reduceAdd, reduceMul, reduceSub, reduceEqDiff, reduceLT, ↓reduceIte, Int.reduceToNat, reduceLeDiff,  s0, s2]
      refine hK _ _ ?_
      clear hK hX K
      refine WX_if_t rfl ?_
      try simp +contextual (maxSteps := 2000000) (disch := first | omega | (simp only [SZ]; first | done | omega) | (simp only [TS] at *; omega)) only [PZ, RZ, ovw, oneC, reduceAdd, reduceMul, reduceSub, reduceEqDiff, reduceLT, ↓reduceIte, Int.reduceToNat, reduceLeDiff,  s0, s2]
      refine Res.use (paAny_any h5.pk hT) (fun x a8 w8 e8 k8 p8 => ?_) (fun e L w8 e8 k8 => ?_); rotate_left
      · obtain ⟨q8, rfl, rfl⟩ := anyT_err e8
        rw [q8] at hM
        exact hfin hM.symm (K5.trans (h5.keptB k8 (by simpa using hbg)))
      have q8 := anyT_ok e8
      rw [q8] at hM
      have m8 := drop_mono (num_len q8) rfl p8.lt h5.pk.lt
      have h8 := h5.leaf k8 p8 m8
      have K8 := K5.trans (h5.keptB k8 (by simpa using hbg))
      have r8 := r5.kept k8 (by simp; omega)
      have z3 := r8.cell (i := 3) rfl
      have z3z := r8.frozen 3
      have z0 := r8.cell (i := 0) rfl
      have z0z := r8.frozen 0
      try simp +contextual (maxSteps := 2000000) (disch := first | omega | (simp only [SZ]; first | done | omega) | (simp only [TS] at *; omega)) only [PZ, RZ, ovw, oneC, reduceAdd, reduceMul, reduceSub, reduceEqDiff, reduceLT, ↓reduceIte, Int.reduceToNat, reduceLeDiff,  s0, s2, z3, z3z, z0, z0z]
      obtain ⟨h9, K9, r9⟩ := stSet (v := .int .i64 4) (i := 3) h8 K8 r8 (by decide) hbga hgag hgas hva hvt (by simp)
      obtain ⟨h10, K10, r10⟩ := stSet (v := .int .i64 x) (i := 0) h9 K9 r9 (by decide) hbga hgag hgas hva hvt (by simp)
      exact ⟨(4, x, 0, 0), a8, hM.symm, by omega, r10, h10, K10⟩
    have h5 := h4.leaf k5 p5 (Nat.le_refl _)
    rw [q5] at hM
    dsimp only at hM
    try simp +contextual (maxSteps := 2000000) (disch := first | omega | (simp only [SZ]; first | done | omega) | (simp only [TS] at *; omega)) only [PZ, RZ, ovw, oneC, reduceAdd, reduceMul, reduceSub, reduceEqDiff, reduceLT, ↓reduceIte, Int.reduceToNat, reduceLeDiff,  s0, s2]
    refine hK _ _ ?_
    clear hK hX K
    refine WX_if_f rfl ?_
    refine WX_cut (fun σ w2 => ∃ (x1 : Int) (b1 : Nat), (bindT (hitT (asc "bonus") (T.drop b1)) fun b => bindT (hitT (asc "extra") b.2) fun c => Except.ok ((0, x1, b.1, c.1), c.2)) = M ∧ a ≤ b1 ∧ σ 0 = .pointer (some ⟨g, 0, none⟩) ∧ σ 2 = .pointer (some ⟨ga, 0, none⟩) ∧
      Row w2 ga 41 [Value.int .i64 x1, .int .i64 0, .int .i64 0, .int .i64 0, .int .i64 0, .int .i64 0] ∧ GmSt w2 base g gs A c T b1 G seen Va Vt Vs ∧ Below base w w2) ?_ ?_; rotate_left
    · have hw : bs ⟨#[109, 97, 105, 110]⟩ = asc "main" := by decide +kernel
      refine WX_piece fun K hK hX => ?_
      simp +contextual (maxSteps := 2000000) (disch := first | omega | (simp only [SZ]; first | done | omega) | (simp only [TS] at *; omega)) only [PZ, RZ, ovw, oneC, reduceAdd, reduceMul, reduceSub, reduceEqDiff, reduceLT, ↓reduceIte, Int.reduceToNat, reduceLeDiff,  s0, s2]
      refine (paFollows2 _ h5.pk hT).mono ?_
      rintro e w8 ⟨k8, hk8⟩
      rw [hw] at hk8
      have r8 := r5.kept k8 (by simp; omega)
      have K8 := K5.trans (h5.keptB k8 (by simpa using hbg))
      rcases hk8 with ⟨q8, rfl, p8⟩ | ⟨q8, rfl, p8⟩
      · have h8 := h5.leaf k8 p8 (by omega)
        have hh : hitT (asc "main") (T.drop a) = thenT (numT (T.drop (a + 1))) (T.drop (a + 1)) fun x => .ok x := by unfold hitT; rw [q8]
        rw [hh] at hM
        try simp +contextual (maxSteps := 2000000) (disch := first | omega | (simp only [SZ]; first | done | omega) | (simp only [TS] at *; omega)) only [PZ, RZ, ovw, oneC, reduceAdd, reduceMul, reduceSub, reduceEqDiff, reduceLT, ↓reduceIte, Int.reduceToNat, reduceLeDiff,  s0, s2]
        refine hK _ _ ?_
        clear hK hX K
        refine WX_if_t rfl ?_
        try simp +contextual (maxSteps := 2000000) (disch := first | omega | (simp only [SZ]; first | done | omega) | (simp only [TS] at *; omega)) only [PZ, RZ, ovw, oneC, reduceAdd, reduceMul, reduceSub, reduceEqDiff, reduceLT, ↓reduceIte, Int.reduceToNat, reduceLeDiff,  s0, s2]
        refine Res.use (paAny_any h8.pk hT) (fun x b9 w9 e9 k9 p9 => ?_) (fun e L w9 e9 k9 => ?_); rotate_left
        · obtain ⟨q9, rfl, rfl⟩ := anyT_err e9
          rw [q9] at hM
          exact hfin hM.symm (K8.trans (h8.keptB k9 (by simpa using hbg)))
        have q9 := anyT_ok e9
        rw [q9] at hM
        dsimp only [thenT, bindT] at hM
        have m9 := drop_mono (num_len q9) rfl p9.lt h8.pk.lt
        have h9 := h8.leaf k9 p9 m9
        have K9 := K8.trans (h8.keptB k9 (by simpa using hbg))
        have r9 := r8.kept k9 (by simp; omega)
        have z0 := r9.cell (i := 0) rfl
        have z0z := r9.frozen 0
        try simp +contextual (maxSteps := 2000000) (disch := first | omega | (simp only [SZ]; first | done | omega) | (simp only [TS] at *; omega)) only [PZ, RZ, ovw, oneC, reduceAdd, reduceMul, reduceSub, reduceEqDiff, reduceLT, ↓reduceIte, Int.reduceToNat, reduceLeDiff,  s0, s2, z0, z0z]
        obtain ⟨h10, K10, r10⟩ := stSet (v := .int .i64 x) (i := 0) h9 K9 r9 (by decide) hbga hgag hgas hva hvt (by simp)
        exact ⟨x, b9, hM, by omega, r10, h10, K10⟩
      · have h8 := h5.leaf k8 p8 (Nat.le_refl _)
        have hh : hitT (asc "main") (T.drop a) = .ok (0, T.drop a) := by unfold hitT; rw [q8]
        rw [hh] at hM
        dsimp only [bindT] at hM
        try simp +contextual (maxSteps := 2000000) (disch := first | omega | (simp only [SZ]; first | done | omega) | (simp only [TS] at *; omega)) only [PZ, RZ, ovw, oneC, reduceAdd, reduceMul, reduceSub, reduceEqDiff, reduceLT, ↓reduceIte, Int.reduceToNat, reduceLeDiff,  s0, s2]
        refine hK _ _ ?_
        clear hK hX K
        refine WX_if_f rfl ?_
        try simp +contextual (maxSteps := 2000000) (disch := first | omega | (simp only [SZ]; first | done | omega) | (simp only [TS] at *; omega)) only [PZ, RZ, ovw, oneC, reduceAdd, reduceMul, reduceSub, reduceEqDiff, reduceLT, ↓reduceIte, Int.reduceToNat, reduceLeDiff,  s0, s2]
        exact ⟨0, a, hM, by omega, r8, h8, K8⟩
    clear hM
    rintro σ0 v0 ⟨x1, b1, hM, hab0, g0, g2, y0, t0, L0⟩
    refine WX_cut (fun σ w2 => ∃ (x2 : Int) (b2 : Nat), (bindT (hitT (asc "extra") (T.drop b2)) fun c => Except.ok ((0, x1, x2, c.1), c.2)) = M ∧ a ≤ b2 ∧ σ 0 = .pointer (some ⟨g, 0, none⟩) ∧ σ 2 = .pointer (some ⟨ga, 0, none⟩) ∧
      Row w2 ga 41 [Value.int .i64 x1, .int .i64 x2, .int .i64 0, .int .i64 0, .int .i64 0, .int .i64 0] ∧ GmSt w2 base g gs A c T b2 G seen Va Vt Vs ∧ Below base w w2) ?_ ?_; rotate_left
    · have hw : bs ⟨#[98, 111, 110, 117, 115]⟩ = asc "bonus" := by decide +kernel
      refine WX_piece fun K hK hX => ?_
      simp +contextual (maxSteps := 2000000) (disch := first | omega | (simp only [SZ]; first | done | omega) | (simp only [TS] at *; omega)) only [PZ, RZ, ovw, oneC, reduceAdd, reduceMul, reduceSub, reduceEqDiff, reduceLT, ↓reduceIte, Int.reduceToNat, reduceLeDiff,  g0, g2]
      refine (paFollows2 _ t0.pk hT).mono ?_
      rintro e w8 ⟨k8, hk8⟩
      rw [hw] at hk8
      have r8 := y0.kept k8 (by simp; omega)
      have K8 := L0.trans (t0.keptB k8 (by simpa using hbg))
      rcases hk8 with ⟨q8, rfl, p8⟩ | ⟨q8, rfl, p8⟩
      · have h8 := t0.leaf k8 p8 (by omega)
        have hh : hitT (asc "bonus") (T.drop b1) = thenT (numT (T.drop (b1 + 1))) (T.drop (b1 + 1)) fun x => .ok x := by unfold hitT; rw [q8]
        rw [hh] at hM
        try simp +contextual (maxSteps := 2000000) (disch := first | omega | (simp only [SZ]; first | done | omega) | (simp only [TS] at *; omega)) only [PZ, RZ, ovw, oneC, reduceAdd, reduceMul, reduceSub, reduceEqDiff, reduceLT, ↓reduceIte, Int.reduceToNat, reduceLeDiff,  g0, g2]
        refine hK _ _ ?_
        clear hK hX K
        refine WX_if_t rfl ?_
        try simp +contextual (maxSteps := 2000000) (disch := first | omega | (simp only [SZ]; first | done | omega) | (simp only [TS] at *; omega)) only [PZ, RZ, ovw, oneC, reduceAdd, reduceMul, reduceSub, reduceEqDiff, reduceLT, ↓reduceIte, Int.reduceToNat, reduceLeDiff,  g0, g2]
        refine Res.use (paAny_any h8.pk hT) (fun x b9 w9 e9 k9 p9 => ?_) (fun e L w9 e9 k9 => ?_); rotate_left
        · obtain ⟨q9, rfl, rfl⟩ := anyT_err e9
          rw [q9] at hM
          exact hfin hM.symm (K8.trans (h8.keptB k9 (by simpa using hbg)))
        have q9 := anyT_ok e9
        rw [q9] at hM
        dsimp only [thenT, bindT] at hM
        have m9 := drop_mono (num_len q9) rfl p9.lt h8.pk.lt
        have h9 := h8.leaf k9 p9 m9
        have K9 := K8.trans (h8.keptB k9 (by simpa using hbg))
        have r9 := r8.kept k9 (by simp; omega)
        have z0 := r9.cell (i := 1) rfl
        have z0z := r9.frozen 1
        try simp +contextual (maxSteps := 2000000) (disch := first | omega | (simp only [SZ]; first | done | omega) | (simp only [TS] at *; omega)) only [PZ, RZ, ovw, oneC, reduceAdd, reduceMul, reduceSub, reduceEqDiff, reduceLT, ↓reduceIte, Int.reduceToNat, reduceLeDiff,  g0, g2, z0, z0z]
        obtain ⟨h10, K10, r10⟩ := stSet (v := .int .i64 x) (i := 1) h9 K9 r9 (by decide) hbga hgag hgas hva hvt (by simp)
        exact ⟨x, b9, hM, by omega, r10, h10, K10⟩
      · have h8 := t0.leaf k8 p8 (Nat.le_refl _)
        have hh : hitT (asc "bonus") (T.drop b1) = .ok (0, T.drop b1) := by unfold hitT; rw [q8]
        rw [hh] at hM
        dsimp only [bindT] at hM
        try simp +contextual (maxSteps := 2000000) (disch := first | omega | (simp only [SZ]; first | done | omega) | (simp only [TS] at *; omega)) only [PZ, RZ, ovw, oneC, reduceAdd, reduceMul, reduceSub, reduceEqDiff, reduceLT, ↓reduceIte, Int.reduceToNat, reduceLeDiff,  g0, g2]
        refine hK _ _ ?_
        clear hK hX K
        refine WX_if_f rfl ?_
        try simp +contextual (maxSteps := 2000000) (disch := first | omega | (simp only [SZ]; first | done | omega) | (simp only [TS] at *; omega)) only [PZ, RZ, ovw, oneC, reduceAdd, reduceMul, reduceSub, reduceEqDiff, reduceLT, ↓reduceIte, Int.reduceToNat, reduceLeDiff,  g0, g2]
        exact ⟨0, b1, hM, by omega, r8, h8, K8⟩
    clear hM
    rintro σ1 v1 ⟨x2, b2, hM, hab1, g0, g2, y1, t1, L1⟩
    have hw : bs ⟨#[101, 120, 116, 114, 97]⟩ = asc "extra" := by decide +kernel
    refine WX_piece fun K hK hX => ?_
    simp +contextual (maxSteps := 2000000) (disch := first | omega | (simp only [SZ]; first | done | omega) | (simp only [TS] at *; omega)) only [PZ, RZ, ovw, oneC, reduceAdd, reduceMul, reduceSub, reduceEqDiff, reduceLT, ↓reduceIte, Int.reduceToNat, reduceLeDiff,  g0, g2]
    refine (paFollows2 _ t1.pk hT).mono ?_
    rintro e w8 ⟨k8, hk8⟩
    rw [hw] at hk8
    have r8 := y1.kept k8 (by simp; omega)
    have K8 := L1.trans (t1.keptB k8 (by simpa using hbg))
    rcases hk8 with ⟨q8, rfl, p8⟩ | ⟨q8, rfl, p8⟩
    · have h8 := t1.leaf k8 p8 (by omega)
      have hh : hitT (asc "extra") (T.drop b2) = thenT (numT (T.drop (b2 + 1))) (T.drop (b2 + 1)) fun x => .ok x := by unfold hitT; rw [q8]
      rw [hh] at hM
      try simp +contextual (maxSteps := 2000000) (disch := first | omega | (simp only [SZ]; first | done | omega) | (simp only [TS] at *; omega)) only [PZ, RZ, ovw, oneC, reduceAdd, reduceMul, reduceSub, reduceEqDiff, reduceLT, ↓reduceIte, Int.reduceToNat, reduceLeDiff,  g0, g2]
      refine hK _ _ ?_
      clear hK hX K
      refine WX_if_t rfl ?_
      try simp +contextual (maxSteps := 2000000) (disch := first | omega | (simp only [SZ]; first | done | omega) | (simp only [TS] at *; omega)) only [PZ, RZ, ovw, oneC, reduceAdd, reduceMul, reduceSub, reduceEqDiff, reduceLT, ↓reduceIte, Int.reduceToNat, reduceLeDiff,  g0, g2]
      refine Res.use (paAny_any h8.pk hT) (fun x b9 w9 e9 k9 p9 => ?_) (fun e L w9 e9 k9 => ?_); rotate_left
      · obtain ⟨q9, rfl, rfl⟩ := anyT_err e9
        rw [q9] at hM
        exact hfin hM.symm (K8.trans (h8.keptB k9 (by simpa using hbg)))
      have q9 := anyT_ok e9
      rw [q9] at hM
      dsimp only [thenT, bindT] at hM
      have m9 := drop_mono (num_len q9) rfl p9.lt h8.pk.lt
      have h9 := h8.leaf k9 p9 m9
      have K9 := K8.trans (h8.keptB k9 (by simpa using hbg))
      have r9 := r8.kept k9 (by simp; omega)
      have z0 := r9.cell (i := 2) rfl
      have z0z := r9.frozen 2
      try simp +contextual (maxSteps := 2000000) (disch := first | omega | (simp only [SZ]; first | done | omega) | (simp only [TS] at *; omega)) only [PZ, RZ, ovw, oneC, reduceAdd, reduceMul, reduceSub, reduceEqDiff, reduceLT, ↓reduceIte, Int.reduceToNat, reduceLeDiff,  g0, g2, z0, z0z]
      obtain ⟨h10, K10, r10⟩ := stSet (v := .int .i64 x) (i := 2) h9 K9 r9 (by decide) hbga hgag hgas hva hvt (by simp)
      exact ⟨(0, x1, x2, x), b9, hM.symm, by omega, r10, h10, K10⟩
    · have h8 := t1.leaf k8 p8 (Nat.le_refl _)
      have hh : hitT (asc "extra") (T.drop b2) = .ok (0, T.drop b2) := by unfold hitT; rw [q8]
      rw [hh] at hM
      dsimp only [bindT] at hM
      try simp +contextual (maxSteps := 2000000) (disch := first | omega | (simp only [SZ]; first | done | omega) | (simp only [TS] at *; omega)) only [PZ, RZ, ovw, oneC, reduceAdd, reduceMul, reduceSub, reduceEqDiff, reduceLT, ↓reduceIte, Int.reduceToNat, reduceLeDiff,  g0, g2]
      refine hK _ _ ?_
      clear hK hX K
      refine WX_if_f rfl ?_
      try simp +contextual (maxSteps := 2000000) (disch := first | omega | (simp only [SZ]; first | done | omega) | (simp only [TS] at *; omega)) only [PZ, RZ, ovw, oneC, reduceAdd, reduceMul, reduceSub, reduceEqDiff, reduceLT, ↓reduceIte, Int.reduceToNat, reduceLeDiff,  g0, g2]
      exact ⟨(0, x1, x2, 0), b2, hM.symm, by omega, r8, h8, K8⟩
  clear hM hfin
  rintro σ2 w2 ⟨m, a1, rfl, ha1, g0, g2, r2, h2, K2⟩
  dsimp only [bindT] at hr
  refine WX_cut (fun σ w3 => ∃ (k : Int), a1 + 1 < T.length ∧ (thenT (numT (T.drop (a1 + 1))) (T.drop (a1 + 1)) fun v => Except.ok (({ G with tiers := G.tiers ++ [(⟨m.2.1, m.2.2.1, m.2.2.2, m.1, k, v.1⟩ : Ti)] }, seen), v.2)) = r ∧ σ 0 = .pointer (some ⟨g, 0, none⟩) ∧ σ 2 = .pointer (some ⟨ga, 0, none⟩) ∧
    Row w3 ga 41 [Value.int .i64 m.2.1, .int .i64 m.2.2.1, .int .i64 m.2.2.2, .int .i64 m.1, .int .i64 k, .int .i64 0] ∧ GmSt w3 base g gs A c T (a1 + 1) G seen Va Vt Vs ∧ Below base w w3) ?_ ?_; rotate_left
  · refine WX_piece fun K hK hX => ?_
    simp +contextual (maxSteps := 2000000) (disch := first | omega | (simp only [SZ]; first | done | omega) | (simp only [TS] at *; omega)) only [PZ, RZ, ovw, oneC, reduceAdd, reduceMul, reduceSub, reduceEqDiff, reduceLT, ↓reduceIte, Int.reduceToNat, reduceLeDiff,  g0, g2]
    refine Res.use (paTake_any 1 h2.pk hT) (fun t a3 w3 e3 k3 p3 => ?_) (fun e L w3 e3 k3 => ?_); rotate_left
    · obtain ⟨u1, rfl, rfl⟩ := takeT_err e3
      rw [if_pos u1] at hr
      refine hX _ _ _ (fun h => by cases h) ?_
      exact ResG.err hr.symm (K2.trans (h2.keptB k3 (by simpa using hbg)))
    obtain ⟨u1, ht, u3⟩ := takeT_ok e3
    obtain ⟨l2, n2⟩ := nx_at hT h2.pk.lt (by omega)
    rw [if_neg (fun h => h u1), n2] at hr
    rw [n2] at u3
    obtain rfl : a3 = a1 + 1 := drop_same u3.symm p3.lt l2
    have h3 := h2.leaf k3 p3 (by omega)
    have K3 := K2.trans (h2.keptB k3 (by simpa using hbg))
    have r3 := r2.kept k3 (by simp; omega)
    rw [← ht] at hr u1
    have hlnT : (hdT (T.drop a1)).line = t.line := by rw [← ht]
    clear e3 ht
    rw [show (encTk t).toArray = #[.int .i64 t.kind, .int .i64 t.line, .int .i64 t.col, .string t.text] from rfl]
    try simp +contextual (maxSteps := 2000000) (disch := first | omega | (simp only [SZ]; first | done | omega) | (simp only [TS] at *; omega)) only [PZ, RZ, ovw, oneC, reduceAdd, reduceMul, reduceSub, reduceEqDiff, reduceLT, ↓reduceIte, Int.reduceToNat, reduceLeDiff,  g0, g2]
    have h4 := h3.below (below_alloc w3 (.cells #[Value.int .i64 t.kind, .int .i64 t.line, .int .i64 t.col, .string t.text] 62))
    have K4 := K3.trans ((below_alloc w3 (.cells #[Value.int .i64 t.kind, .int .i64 t.line, .int .i64 t.col, .string t.text] 62)).mono (by have := h3.pk.row.lt; omega))
    have r4 := r3.alloc (.cells #[Value.int .i64 t.kind, .int .i64 t.line, .int .i64 t.col, .string t.text] 62)
    have q4 := Row.new w3 62 [Value.int .i64 t.kind, .int .i64 t.line, .int .i64 t.col, .string t.text]
    replace q4 : Row (w3.alloc (.cells #[Value.int .i64 t.kind, .int .i64 t.line, .int .i64 t.col, .string t.text] 62)) _ _ _ := q4
    generalize w3.alloc (.cells #[Value.int .i64 t.kind, .int .i64 t.line, .int .i64 t.col, .string t.text] 62) = w4 at *
    have c0 := q4.cell (i := 0) rfl
    have c1 := q4.cell (i := 1) rfl
    have c2 := q4.cell (i := 2) rfl
    have c3 := q4.cell (i := 3) rfl
    refine hK _ _ ?_
    clear hK hX K
    refine WX_piece fun K hK hX => ?_
    simp +contextual (maxSteps := 2000000) (disch := first | omega | (simp only [SZ]; first | done | omega) | (simp only [TS] at *; omega)) only [PZ, RZ, ovw, oneC, reduceAdd, reduceMul, reduceSub, reduceEqDiff, reduceLT, ↓reduceIte, Int.reduceToNat, reduceLeDiff,  g0, g2, c3]
    refine hK _ _ ?_
    clear hK hX K
    rw [WX_block]
    have z4 := r4.cell (i := 4) rfl
    have z4z := r4.frozen 4
    have hb1 : bs ⟨#[102, 105, 120, 101, 100]⟩ = asc "fixed" := by decide +kernel
    have hb2 : bs ⟨#[115, 104, 97, 114, 101]⟩ = asc "share" := by decide +kernel
    have hb3 : bs ⟨#[106, 97, 99, 107, 112, 111, 116]⟩ = asc "jackpot" := by decide +kernel
    refine WX_piece fun K hK hX => ?_
    by_cases hx1 : t.text = ⟨#[102, 105, 120, 101, 100]⟩
    · have e1 : (t.text = ⟨#[102, 105, 120, 101, 100]⟩) = True := eq_true hx1
      simp +contextual (maxSteps := 2000000) (disch := first | omega | (simp only [SZ]; first | done | omega) | (simp only [TS] at *; omega)) only [PZ, RZ, ovw, oneC, reduceAdd, reduceMul, reduceSub, reduceEqDiff, reduceLT, ↓reduceIte, Int.reduceToNat, reduceLeDiff,  g0, g2, e1]
      refine hK _ _ ?_
      clear hK hX K
      refine WX_if_t rfl ?_
      simp +contextual (maxSteps := 2000000) (disch := first | omega | (simp only [SZ]; first | done | omega) | (simp only [TS] at *; omega)) only [PZ, RZ, ovw, oneC, reduceAdd, reduceMul, reduceSub, reduceEqDiff, reduceLT, ↓reduceIte, Int.reduceToNat, reduceLeDiff,  g0, g2, z4, z4z]
      have hp : prizeK (bs t.text) = some 1 := by rw [hx1, hb1]; decide +kernel
      rw [hp] at hr
      obtain ⟨h5, K5, r5⟩ := stSet (v := .int .i64 1) (i := 4) h4 K4 r4 (by decide) hbga hgag hgas hva hvt (by simp)
      exact ⟨1, l2, by rw [← hr]; dsimp only; cases numT (T.drop (a1 + 1)) <;> rfl, r5, h5, K5⟩
    have f1 : (t.text = ⟨#[102, 105, 120, 101, 100]⟩) = False := eq_false hx1
    simp +contextual (maxSteps := 2000000) (disch := first | omega | (simp only [SZ]; first | done | omega) | (simp only [TS] at *; omega)) only [PZ, RZ, ovw, oneC, reduceAdd, reduceMul, reduceSub, reduceEqDiff, reduceLT, ↓reduceIte, Int.reduceToNat, reduceLeDiff,  g0, g2, f1]
    refine hK _ _ ?_
    clear hK hX K
    refine WX_if_f rfl ?_
    refine WX_piece fun K hK hX => ?_
    by_cases hx2 : t.text = ⟨#[115, 104, 97, 114, 101]⟩
    · have e1 : (t.text = ⟨#[115, 104, 97, 114, 101]⟩) = True := eq_true hx2
      simp +contextual (maxSteps := 2000000) (disch := first | omega | (simp only [SZ]; first | done | omega) | (simp only [TS] at *; omega)) only [PZ, RZ, ovw, oneC, reduceAdd, reduceMul, reduceSub, reduceEqDiff, reduceLT, ↓reduceIte, Int.reduceToNat, reduceLeDiff,  g0, g2, e1]
      refine hK _ _ ?_
      clear hK hX K
      refine WX_if_t rfl ?_
      simp +contextual (maxSteps := 2000000) (disch := first | omega | (simp only [SZ]; first | done | omega) | (simp only [TS] at *; omega)) only [PZ, RZ, ovw, oneC, reduceAdd, reduceMul, reduceSub, reduceEqDiff, reduceLT, ↓reduceIte, Int.reduceToNat, reduceLeDiff,  g0, g2, z4, z4z]
      have hp : prizeK (bs t.text) = some 2 := by rw [hx2, hb2]; decide +kernel
      rw [hp] at hr
      obtain ⟨h5, K5, r5⟩ := stSet (v := .int .i64 2) (i := 4) h4 K4 r4 (by decide) hbga hgag hgas hva hvt (by simp)
      exact ⟨2, l2, by rw [← hr]; dsimp only; cases numT (T.drop (a1 + 1)) <;> rfl, r5, h5, K5⟩
    have f2 : (t.text = ⟨#[115, 104, 97, 114, 101]⟩) = False := eq_false hx2
    simp +contextual (maxSteps := 2000000) (disch := first | omega | (simp only [SZ]; first | done | omega) | (simp only [TS] at *; omega)) only [PZ, RZ, ovw, oneC, reduceAdd, reduceMul, reduceSub, reduceEqDiff, reduceLT, ↓reduceIte, Int.reduceToNat, reduceLeDiff,  g0, g2, f2]
    refine hK _ _ ?_
    clear hK hX K
    refine WX_if_f rfl ?_
    refine WX_piece fun K hK hX => ?_
    by_cases hx3 : t.text = ⟨#[106, 97, 99, 107, 112, 111, 116]⟩
    · have e1 : (t.text = ⟨#[106, 97, 99, 107, 112, 111, 116]⟩) = True := eq_true hx3
      simp +contextual (maxSteps := 2000000) (disch := first | omega | (simp only [SZ]; first | done | omega) | (simp only [TS] at *; omega)) only [PZ, RZ, ovw, oneC, reduceAdd, reduceMul, reduceSub, reduceEqDiff, reduceLT, ↓reduceIte, Int.reduceToNat, reduceLeDiff,  g0, g2, e1]
      refine hK _ _ ?_
      clear hK hX K
      refine WX_if_t rfl ?_
      simp +contextual (maxSteps := 2000000) (disch := first | omega | (simp only [SZ]; first | done | omega) | (simp only [TS] at *; omega)) only [PZ, RZ, ovw, oneC, reduceAdd, reduceMul, reduceSub, reduceEqDiff, reduceLT, ↓reduceIte, Int.reduceToNat, reduceLeDiff,  g0, g2, z4, z4z]
      have hp : prizeK (bs t.text) = some 3 := by rw [hx3, hb3]; decide +kernel
      rw [hp] at hr
      obtain ⟨h5, K5, r5⟩ := stSet (v := .int .i64 3) (i := 4) h4 K4 r4 (by decide) hbga hgag hgas hva hvt (by simp)
      exact ⟨3, l2, by rw [← hr]; dsimp only; cases numT (T.drop (a1 + 1)) <;> rfl, r5, h5, K5⟩
    have f3 : (t.text = ⟨#[106, 97, 99, 107, 112, 111, 116]⟩) = False := eq_false hx3
    simp +contextual (maxSteps := 2000000) (disch := first | omega | (simp only [SZ]; first | done | omega) | (simp only [TS] at *; omega)) only [PZ, RZ, ovw, oneC, reduceAdd, reduceMul, reduceSub, reduceEqDiff, reduceLT, ↓reduceIte, Int.reduceToNat, reduceLeDiff,  g0, g2, f3]
    refine hK _ _ ?_
    clear hK hX K
    refine WX_if_f rfl ?_
    have hp : prizeK (bs t.text) = none := by unfold prizeK; rw [if_neg (fun h => hx1 (bs_inj (h.trans hb1.symm))), if_neg (fun h => hx2 (bs_inj (h.trans hb2.symm))), if_neg (fun h => hx3 (bs_inj (h.trans hb3.symm)))]
    rw [hp] at hr
    simp +contextual (maxSteps := 2000000) (disch := first | omega | (simp only [SZ]; first | done | omega) | (simp only [TS] at *; omega)) only [PZ, RZ, ovw, oneC, reduceAdd, reduceMul, reduceSub, reduceEqDiff, reduceLT, ↓reduceIte, Int.reduceToNat, reduceLeDiff,  g0, g2, c0, c1, c2, c3]
    refine (paFail_any g 1 t w4).mono ?_
    rintro e w5 ⟨rfl, hB5⟩
    rw [Ends_pan]
    have := ResG.err (base := base) (g := g) (gs := gs) (A := A) (c := c) (T := T) hr.symm (K4.trans (hB5.mono (by have := h4.pk.row.lt; omega)))
    rw [hlnT] at this
    exact this
  clear g0 g2 r2 hr
  rintro σ3 w3 ⟨k, hl3, hr, g0, g2, r3, h3, K3⟩
  refine WX_piece fun K hK hX => ?_
  simp +contextual (maxSteps := 2000000) (disch := first | omega | (simp only [SZ]; first | done | omega) | (simp only [TS] at *; omega)) only [PZ, RZ, ovw, oneC, reduceAdd, reduceMul, reduceSub, reduceEqDiff, reduceLT, ↓reduceIte, Int.reduceToNat, reduceLeDiff,  g0, g2]
  refine Res.use (paAny_any h3.pk hT) (fun x a3 w5 e5 k5 p5 => ?_) (fun e L w5 e5 k5 => ?_); rotate_left
  · obtain ⟨q5, rfl, rfl⟩ := anyT_err e5
    rw [q5] at hr
    refine hX _ _ _ (fun h => by cases h) ?_
    exact ResG.err hr.symm (K3.trans (h3.keptB k5 (by simpa using hbg)))
  have q5 := anyT_ok e5
  rw [q5] at hr
  dsimp only [thenT] at hr
  have m5 := drop_mono (num_len q5) rfl p5.lt h3.pk.lt
  have h5 := h3.leaf k5 p5 m5
  have K5 := K3.trans (h3.keptB k5 (by simpa using hbg))
  have r5 := r3.kept k5 (by simp; omega)
  have z5 := r5.cell (i := 5) rfl
  have z5z := r5.frozen 5
  try simp +contextual (maxSteps := 2000000) (disch := first | omega | (simp only [SZ]; first | done | omega) | (simp only [TS] at *; omega)) only [PZ, RZ, ovw, oneC, reduceAdd, reduceMul, reduceSub, reduceEqDiff, reduceLT, ↓reduceIte, Int.reduceToNat, reduceLeDiff,  g0, g2, z5, z5z]
  obtain ⟨h6, K6, r6⟩ := stSet (v := .int .i64 x) (i := 5) h5 K5 r5 (by decide) hbga hgag hgas hva hvt (by simp)
  replace r6 : Row (w5.setCell ⟨ga, 5, none⟩ (.int .i64 x)) ga 41 (encTi ⟨m.2.1, m.2.2.1, m.2.2.2, m.1, k, x⟩) := r6
  generalize w5.setCell ⟨ga, 5, none⟩ (.int .i64 x) = w6 at *
  refine hK _ _ ?_
  clear hK hX K
  generalize hti : (⟨m.2.1, m.2.2.1, m.2.2.2, m.1, k, x⟩ : Ti) = ti at *
  have hgl6 := h6.pk.row.lt
  have hra := r6.lt
  have hlt6 := h6.pk.lt
  obtain ⟨At, na, ca, hVt, hna⟩ : ∃ At na ca, Vt = .slice At na ca ∧ na = G.tiers.length := by
    rcases h6.tis.2 with ⟨hv, h0⟩ | ⟨g', cap, cur, hv, _⟩
    · exact ⟨none, 0, 0, hv, h0.symm⟩
    · exact ⟨_, _, _, hv, rfl⟩
  subst hVt hna
  have hI : sliceI Tryz.prog 24 = some (41, 6, 48) := by kernel_rfl
  have p24 := h6.pk.row.cell (i := 24) rfl
  have p24z := h6.pk.row.frozen 24
  try simp +contextual (maxSteps := 2000000) (disch := first | omega | (simp only [SZ]; first | done | omega) | (simp only [TS] at *; omega)) only [PZ, RZ, ovw, oneC, reduceAdd, reduceMul, reduceSub, reduceEqDiff, reduceLT, ↓reduceIte, Int.reduceToNat, reduceLeDiff,  g0, g2]
  refine RawD_np (Raw_ordX [1, 2, 3, 4, 5, 6, 7] (fun w' => w'.cell? ⟨g, 24, none⟩ = some (.slice At G.tiers.length ca) ∧ Row w' ga 41 (encTi ti)) 13 rfl MX ?_)
  have h7 := h6.leaf (w' := w6.drew) (Kept.refl [g] w6).drew (h6.pk.kept (X := []) (Kept.refl [] w6).drew (by simp) (by simp)) (Nat.le_refl _)
  have K7 : Below base w w6.drew := below_drew K6
  have r7 : Row w6.drew ga 41 _ := r6
  have d24 : w6.drew.cell? _ = _ := p24
  have d24z : w6.drew.frozen? ⟨g, 24, none⟩ = false := p24z
  have hgl7 : g < w6.drew.heap.size := hgl6
  have hra7 : ga < w6.drew.heap.size := hra
  clear h6 K6 r6 p24 p24z h5 K5 r5
  generalize w6.drew = w7 at *
  obtain ⟨A', c', w8, he, hown8, hb8, hs8, hk8⟩ := push2 (P := Tryz.prog) (T2 := 24) (ty := 24) (news := encTi ti) h7.tis (by omega) hI rfl
    (fun u hu => by simp only [encTi, List.mem_cons, List.not_mem_nil, or_false] at hu; rcases hu with rfl | rfl | rfl | rfl | rfl | rfl <;> rfl) (by have := h7.fewT; omega) (by decide)
  rw [show (encTi ti).toArray = #[.int .i64 ti.main, .int .i64 ti.bonus, .int .i64 ti.extra, .int .i64 ti.mode, .int .i64 ti.kind, .int .i64 ti.value] from rfl] at he
  refine OrdX_readsU (τ := ?tz) [0] 12 rfl (by kernel_rfl) (by kernel_rfl) (by kernel_rfl) noP_pan (fun w' => ?_) ?_; rotate_left
  · simp only [opsL_cons, opsL_nil, List.getElem?_toArray, List.getElem?_cons_zero, List.getElem?_cons_succ, optL_some]
    simp +contextual (maxSteps := 2000000) (disch := first | omega | (simp only [SZ]; first | done | omega) | (simp only [TS] at *; omega)) only [RZ, ovw, oneC, reduceAdd, reduceMul, reduceSub, reduceEqDiff, reduceLT, ↓reduceIte, Int.reduceToNat, reduceLeDiff,  g0]
    exact rfl
  refine OrdX_reads (τ := ?ta) [1, 2, 3, 4, 5, 6] 6 rfl (by kernel_rfl) (by kernel_rfl) noP_pan ⟨d24, r7⟩ (fun w9 h9 => ?_) ?_; rotate_left
  · obtain ⟨h9a, h9r⟩ := h9
    have x0 := h9r.cell (i := 0) rfl
    have x1 := h9r.cell (i := 1) rfl
    have x2 := h9r.cell (i := 2) rfl
    have x3 := h9r.cell (i := 3) rfl
    have x4 := h9r.cell (i := 4) rfl
    have x5 := h9r.cell (i := 5) rfl
    simp only [opsL_cons, opsL_nil, List.getElem?_toArray, List.getElem?_cons_zero, List.getElem?_cons_succ, optL_some]
    simp +contextual (maxSteps := 2000000) (disch := first | omega | (simp only [SZ]; first | done | omega) | (simp only [TS] at *; omega)) only [RZ, ovw, oneC, reduceAdd, reduceMul, reduceSub, reduceEqDiff, reduceLT, ↓reduceIte, Int.reduceToNat, reduceLeDiff,  g0, g2, h9a, x0, x1, x2, x3, x4, x5]
    exact rfl
  refine OrdX_one 7 (by kernel_rfl) rfl ?_
  simp +contextual (maxSteps := 2000000) (disch := first | omega | (simp only [SZ]; first | done | omega) | (simp only [TS] at *; omega)) only [RZ, ovw, oneC, reduceAdd, reduceMul, reduceSub, reduceEqDiff, reduceLT, ↓reduceIte, Int.reduceToNat, reduceLeDiff]
  refine ⟨⟨d24, r7.alloc _⟩, ?_⟩
  refine OrdX_chain [8, 9, 10, 11, 12] _ _ _ (by kernel_rfl) (by kernel_rfl) ?_
  simp only [opsL_cons, opsL_nil, List.getElem?_toArray, List.getElem?_cons_zero, List.getElem?_cons_succ, optL_some]
  have hb8g := hk8 g hgl7 (own_ne h7.tis h7.pk.row (by decide))
  have d8 : w8.cell? ⟨g, 24, none⟩ = some (.slice At G.tiers.length ca) := (World.cell?_of_block (w := w7) hb8g).trans d24
  have y8 : w8.frozen? ⟨g, 24, none⟩ = false := (World.frozen?_of_block (w := w7) hb8g).trans d24z
  simp +contextual (maxSteps := 2000000) (disch := first | omega | (simp only [SZ]; first | done | omega) | (simp only [TS] at *; omega)) only [RZ, ovw, oneC, reduceAdd, reduceMul, reduceSub, reduceEqDiff, reduceLT, ↓reduceIte, Int.reduceToNat, reduceLeDiff,  g0, g2, he, d8, y8]
  have hR8 := h7.pk.row.of_block hb8g
  have hS8 : SeenIn w8 gs seen := by
    obtain ⟨l, clk, hl, hk⟩ := h7.sn
    exact ⟨l, clk, (hk8 gs (Array.getElem?_eq_some_iff.1 hl).1 (own_ne_seen h7.tis h7.sn)).trans hl, hk⟩
  have hI8 : ∀ {v : Value} {L : List Int}, IntsT base w7 v L → IntsT base (w8.setCell ⟨g, 24, none⟩ (.slice A' (G.tiers.length + 1) c')) v L := fun hv => hv.of_blocks fun b cs hr => by
    have hbg : b ≠ g := fun e => by subst e; obtain ⟨cur, hc, _⟩ := hr; exact not_int_parser h7.pk.row _ hc _ _ rfl
    rw [Below.heap_setCell _ _ _ _ (by exact hbg)]
    exact hk8 b hr.lt (own_ne h7.tis hr (by decide))
  refine ResG.ok (Va := Va) (Vt := .slice A' (G.tiers.length + 1) c') (Vs := Vs) hr.symm ((K7.trans hb8).setCell (p := ⟨g, 24, none⟩) hbg _) ?_
  refine ⟨?_, ?_, ?_, ?_, ?_, ?_, ?_, h7.days, h7.toks, h7.hg⟩
  · refine ⟨h7.pk.lt, ?_, h7.pk.off, hR8.set_ (i := 24) (by simp [gmV]) _⟩
    intro hn
    obtain ⟨b, o, e, hb, hc⟩ := h7.pk.arr hn
    have hbb := h7.toks b o e
    refine ⟨b, o, e, by simp; omega, fun i l hl j v hv => ?_⟩
    have hne : b ≠ g := by omega
    rw [World.cell?_of_block (w := w8) (Below.heap_setCell _ _ _ _ (by exact hne)), World.cell?_of_block (w := w7) (hb8.block b hbb)]
    exact hc i l hl j v hv
  · obtain ⟨l, clk, hl, hk⟩ := hS8
    exact ⟨l, clk, (Below.heap_setCell _ _ _ _ (by exact hne)).trans hl, hk⟩
  · exact h7.ads.mono fun v L hv => hI8 hv
  · refine owns_keep h7.own fun b hb => ?_
    have hbg : b ≠ g := fun e => own_ne h7.own h7.pk.row (by decide) (e ▸ hb)
    rw [Below.heap_setCell _ _ _ _ (by exact hbg)]
    exact hk8 b (owns_ge h7.own hb).2 (own_ne_own h7.tis h7.own (by decide) hb)
  · have := owns_keep (w' := w8.setCell ⟨g, 24, none⟩ (.slice A' (G.tiers.length + 1) c')) hown8 (fun b hb => Below.heap_setCell _ _ _ _ (by
      intro e
      rw [show b = g from e] at hb
      exact own_ne hown8 hR8 (by decide) hb))
    rw [List.length_append, List.flatMap_append, List.flatMap_cons, List.flatMap_nil, List.append_nil]
    exact this
  · have := h7.fewA; exact this
  · rw [List.length_append]; have := h.fewT; simp; omega
end
end Go.Proofs.YtbdkggnajipdhaaGreatDoor
