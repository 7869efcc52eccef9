/- Texts laid one behind the other: RtS, PaK, PbI. Each says at its head what it proves. -/
import Derived.Test.YtbdkggnajipdhaaDoorRtBkZ11
set_option linter.unusedSimpArgs false
/- Plain: chapter 11, what the tokens of a text are. -/
namespace Go.Proofs.YtbdkggnajipdhaaDoor
open Go.RowKit
theorem sum_ge : ∀ (T : List (Nat × Nat × Nat)), (∀ t ∈ T, 1 ≤ t.2.2) → T.length ≤ (T.map (·.2.2)).sum
  | [], _ => Nat.le_refl _
  | t :: T, h => by
    have := sum_ge T fun x hx => h x (by simp [hx])
    have := h t (by simp)
    rw [List.map_cons, List.sum_cons, List.length_cons]
    omega
theorem scan_off {s : ByteArray} (h : (scanE s).1 ≠ 0) : 0 ≤ (scanE s).2.1 ∧ (scanE s).2.1 ≤ s.size := by
  unfold scanE at h ⊢
  split
  · exact ⟨Int.le_refl _, Int.natCast_nonneg _⟩
  · rename_i hs
    rw [if_neg hs] at h
    cases hl : lexR 0 (bs s) with
    | error e =>
      have := lexR_err _ _ 0 e (Nat.le_refl _) hl
      rw [bs_len] at this
      dsimp only
      omega
    | ok T => rw [hl] at h; exact absurd rfl h
theorem num_good2 {t : List Nat} (h : good 2 t) : (numE t).2 = 0 ∧ 0 ≤ (numE t).1 ∧ (numE t).1 ≤ 999999999999999999 := by
  rcases h with ⟨h, _⟩ | ⟨_, ⟨c, r, rfl, hb⟩, hall⟩ | ⟨h, _⟩
  · cases h
  · have hc := hall c (by simp)
    unfold digitB at hc
    simp only [Bool.and_eq_true, decide_eq_true_eq] at hc
    unfold badN at hb
    simp only [Bool.or_eq_false_iff, decide_eq_false_iff_not, Bool.and_eq_false_iff, beq_eq_false_iff_ne] at hb
    have hn : negB (c :: r) = false := by
      unfold negB
      split
      · rename_i e; injection e with e _; omega
      · rfl
    have hm : magL (c :: r) = c :: r := by unfold magL; rw [hn]; rfl
    have hd : decOK (c :: r) = true := by
      show ((c != 48 || r.isEmpty) && (c :: r).all digitB) = true
      rw [List.all_eq_true.2 hall, Bool.and_true]
      rcases hb.2 with h1 | h1
      · cases r with
        | nil => simp
        | cons d r => simp at h1
      · simp [h1]
    have hv : valD 0 (c :: r) < 1000000000000000000 := by
      have h1 := valD_bd (c :: r) 0 hall
      have h2 : 10 ^ (c :: r).length ≤ 10 ^ 18 := Nat.pow_le_pow_right (by decide) (by omega)
      have h3 : (10 : Nat) ^ 18 = 1000000000000000000 := by decide
      omega
    unfold numE
    rw [hm, hn, hd, if_neg (by simp), if_neg (by simp), if_neg (by omega)]
    dsimp only
    omega
  · cases h
theorem scan_tokOk {s : ByteArray} (h : (scanE s).1 = 0) : TokOk (scanE s).2.2 ∧ 0 < (scanE s).2.2.length := by
  unfold scanE at h ⊢
  split at h
  · cases h
  · rename_i hs
    rw [if_neg hs]
    cases hl : lexR 0 (bs s) with
    | error e => rw [hl] at h; cases h
    | ok T =>
      have hg := lexR_good _ _ 0 T (Nat.le_refl _) hl
      have hsum := lexR_sum _ _ 0 T (Nat.le_refl _) hl
      have hge := sum_ge T fun t ht => (hg t ht).2.1
      rw [bs_len] at hsum
      have key : ∀ x ∈ T, good x.1 (bs (tokOf s x).text) := fun x hx => by
        have := (hg x hx).2.2.2
        show good x.1 (bs (s.extract x.2.1 (x.2.1 + x.2.2)))
        rw [bs_extract, Nat.add_sub_cancel_left]
        simpa using this
      have hline : ∀ l : List Nat, l.length ≤ s.size → 0 ≤ (place l).1 ∧ (place l).1 ≤ 1000000 := fun l hl => by
        have := place_bd l
        omega
      refine ⟨⟨?_, ?_, ?_, ?_, ?_, ?_, ?_⟩, by simp⟩
      · simp; omega
      · intro t ht
        rcases List.mem_append.1 ht with ht | ht
        · obtain ⟨x, hx, rfl⟩ := List.mem_map.1 ht
          have := (hg x hx).2.2.1
          rw [bs_len] at this
          unfold tokOf
          rw [ByteArray.size_extract]
          omega
        · rw [List.mem_singleton.1 ht]
          show ByteArray.size ByteArray.empty ≤ _
          rw [ByteArray.size_empty]
          omega
      · intro t ht hk
        rcases List.mem_append.1 ht with ht | ht
        · obtain ⟨x, hx, rfl⟩ := List.mem_map.1 ht
          have hk' : (x.1 : Int) = 2 := hk
          have hx2 : x.1 = 2 := by omega
          have := key x hx
          rw [hx2] at this
          exact num_good2 this
        · rw [List.mem_singleton.1 ht] at hk
          cases hk
      · intro a t ha hk
        rw [List.length_append, List.length_map, List.length_singleton]
        rw [List.getElem?_append, List.length_map] at ha
        split at ha
        · omega
        · rename_i hn
          cases hd : a - T.length with
          | zero =>
            rw [hd] at ha
            simp only [List.getElem?_cons_zero, Option.some.injEq] at ha
            subst ha
            exact absurd rfl hk
          | succ n => rw [hd] at ha; simp at ha
      · intro a t ha hk
        rw [List.length_append, List.length_map, List.length_singleton]
        rw [List.getElem?_append, List.length_map] at ha
        split at ha
        · rename_i hn
          rw [List.getElem?_map] at ha
          obtain ⟨x, hx, rfl⟩ := Option.map_eq_some_iff.1 ha
          have := (good_kind (key x (List.mem_of_getElem? hx))).1
          have hk' : (x.1 : Int) = 0 := hk
          omega
        · rename_i hn
          cases hd : a - T.length with
          | zero => omega
          | succ n => rw [hd] at ha; simp at ha
      · intro t ht
        rcases List.mem_append.1 ht with ht | ht
        · obtain ⟨x, hx, rfl⟩ := List.mem_map.1 ht
          have := (good_kind (key x hx)).2
          show 0 ≤ (x.1 : Int) ∧ (x.1 : Int) ≤ 3
          omega
        · rw [List.mem_singleton.1 ht]
          show (0 : Int) ≤ 0 ∧ (0 : Int) ≤ 3
          omega
      · intro t ht
        rcases List.mem_append.1 ht with ht | ht
        · obtain ⟨x, hx, rfl⟩ := List.mem_map.1 ht
          refine hline _ ?_
          rw [List.length_take, bs_len]
          omega
        · rw [List.mem_singleton.1 ht]
          exact hline _ (by rw [bs_len]; omega)
end Go.Proofs.YtbdkggnajipdhaaDoor
/- Walks: ruletext.Parse. -/
namespace Go.Proofs.YtbdkggnajipdhaaDoor
open Go.RowKit
set_option maxRecDepth 100000
/-- Code in a frame that has deferred calls. -/
def WpD (ds : List Deferred) (P : Program) (n : Nat) (c : Code) (QQ : Exit → Act → World → Prop) (σ : Sl) (w : World) : Prop := ∀ a, FrD ds n σ a → c.wp P QQ a w
theorem WpD_seq {ds : List Deferred} {P : Program} {n : Nat} {x y : Code} {QQ : Exit → Act → World → Prop} {σ : Sl} {w : World} (Q : Exit → Sl → World → Prop) (hQ : ∀ e σ w a, FrD ds n σ a → Q e σ w → QQ e a w) (h : WX ds P n x (thenX (fun σ w => WpD ds P n y QQ σ w) Q) σ w) : WpD ds P n (x.seq y) QQ σ w := by
  intro a hf
  refine wp_seq (wp_mono (WX_sound _ _ _ _ h a hf) ?_)
  rintro e a' w' ⟨σ', hf', hq⟩
  cases e
  case normal => exact hq a' hf'
  all_goals exact hQ _ _ _ _ hf' hq
theorem WpD_of {ds : List Deferred} {P : Program} {n : Nat} {x : Code} {QQ : Exit → Act → World → Prop} {σ : Sl} {w : World} (Q : Exit → Sl → World → Prop) (hQ : ∀ e σ w a, FrD ds n σ a → Q e σ w → QQ e a w) (h : WX ds P n x Q σ w) : WpD ds P n x QQ σ w := by
  intro a hf
  refine wp_mono (WX_sound _ _ _ _ h a hf) ?_
  rintro e a' w' ⟨σ', hf', hq⟩
  exact hQ _ _ _ _ hf' hq
theorem calls_WpD {P : Program} {f : FuncId} {fn : Func} {c : Code} {l : List Value} {w : World} {R : Ending → World → Prop} (hf : P.funcs[f]? = some fn) (hb : fn.body = some c) (n : Nat) (hn : fn.ntmps = n) (hl : l.length ≤ n)
    (h : WpD [] P n c (bodyPostD P fn R) (init l 0 bot) w) : Calls P f l.toArray w R := by
  refine calls_of_wp_defers hf hb (h _ ⟨by simp [hn]; omega, rfl, fun i => ?_⟩)
  rw [getD_append_undef, init_at]
  by_cases hi : i < l.length
  · rw [if_pos ⟨Nat.zero_le _, by simpa using hi⟩]; rfl
  · rw [if_neg (by omega)]
    simp [bot, List.getD_eq_getElem?_getD, List.getElem?_eq_none (Nat.le_of_not_lt hi)]
/-- A closure is made and its call deferred. -/
theorem wp_mkdefer {P : Program} {n : Nat} {σ : Sl} {a : Act} {w : World} {ops : Array Oper} {Q : Exit → Act → World → Prop} {d : Nat} {f : FuncId} {caps : List Operand} {ty1 ty2 : TypeId} {p1 p2 : String} {af1 af2 : Array Edge} {ats : Array TypeId} (hf : FrD [] n σ a) (hd : d < n)
    (h : ∀ a', FrD [{ target := .fn (.func f) (caps.map (ev σ)).toArray, args := #[] }] n (upd σ d (.func (.func f) #[] (caps.map (ev σ)).toArray)) a' → Q .normal a' w) :
    wpList P ops Q [⟨some d, .makeFunc (.func f) #[] caps.toArray, ty1, p1, af1, none⟩, ⟨none, .defer ⟨.value (.tmp d), #[], ats⟩, ty2, p2, af2, none⟩] a w := by
  unfold wpList
  rw [if_pos (wanted_none rfl)]
  refine .inl ?_
  unfold Oper.wp
  have e1 : (execOp a.eval ⟨some d, .makeFunc (.func f) #[] caps.toArray, ty1, p1, af1, none⟩).run P w = .ok (.value (.func (.func f) #[] (caps.map (ev σ)).toArray)) w := by
    rw [hf.eval]
    exact r_makeFunc (P := P) (w := w) ty1 σ (.func f) [] caps
  rw [e1, Oper.upon_value]
  have hf2 := hf.put (some d) (.func (.func f) #[] (caps.map (ev σ)).toArray)
  rw [put_some, if_pos hd] at hf2
  unfold wpList
  rw [if_pos (wanted_none rfl)]
  refine .inl ?_
  unfold Oper.wp
  have e2 : (execOp (a.put (some d) (.func (.func f) #[] (caps.map (ev σ)).toArray)).eval ⟨none, .defer ⟨.value (.tmp d), #[], ats⟩, ty2, p2, af2, none⟩).run P w = .ok (.defer { target := .fn (.func f) (caps.map (ev σ)).toArray, args := #[] }) w := by
    rw [hf2.eval]
    simp [execOp, resolve, Deferred.ofValue, ev, upd_same]
  rw [e2, Oper.upon_defer]
  unfold wpList
  refine h _ ⟨hf2.size, ?_, hf2.at_⟩
  show _ :: (a.put (some d) _).defers = _
  rw [hf2.defers]
/-- The end without deferred calls. -/
theorem end_nil {P : Program} {fn : Func} {R : Ending → World → Prop} {n : Nat} : ∀ e σ w a, FrD [] n σ a → postX P fn R e σ w → bodyPostD P fn R e a w := by
  intro e σ w a hf hq
  have ht : (fun i => a.tmps.getD i undef) = σ := funext hf.at_
  cases e <;> simp only [postX] at hq
  case normal =>
    obtain ⟨v, hv, hR⟩ := resE_is hq ht
    show Leaves P fn a.tmps R a.defers .returning w
    rw [hf.defers]
    exact ⟨v, hv, hR⟩
  case ret =>
    obtain ⟨v, hv, hR⟩ := resE_is hq ht
    show Leaves P fn a.tmps R a.defers .returning w
    rw [hf.defers]
    exact ⟨v, hv, hR⟩
  case panic ch =>
    show Leaves P fn a.tmps R a.defers (.panicking ch) w
    rw [hf.defers]
    exact hq
/-- What is asked at the door: the deferred call, and then the results. -/
def doorX (P : Program) (fn : Func) (R : Ending → World → Prop) (f : FuncId) (args : Array Value) (u : FrameMode) (σ : Sl) (w : World) : Prop :=
  CallsD P f args u w fun e u' w' => (∃ v, e = .returned v) ∧ settle u' = .returning ∧ resE P fn.results σ w' fun v => R (.returned v) w'
def postD (P : Program) (fn : Func) (R : Ending → World → Prop) (f : FuncId) (args : Array Value) : Exit → Sl → World → Prop
  | .normal, σ, w | .ret, σ, w => doorX P fn R f args .returning σ w
  | .panic c, σ, w => doorX P fn R f args (.panicking c) σ w
  | _, _, _ => False
theorem postD_ret {P : Program} {fn : Func} {R : Ending → World → Prop} {f : FuncId} {args : Array Value} {σ : Sl} {w : World} : postD P fn R f args .ret σ w = doorX P fn R f args .returning σ w := nr rfl
theorem postD_pan {P : Program} {fn : Func} {R : Ending → World → Prop} {f : FuncId} {args : Array Value} {c : List PanicEntry} {σ : Sl} {w : World} : postD P fn R f args (.panic c) σ w = doorX P fn R f args (.panicking c) σ w := nr rfl
theorem door_leaves {P : Program} {fn : Func} {R : Ending → World → Prop} {f : FuncId} {args cap dargs : Array Value} {fv : Fn} {u : FrameMode} {σ : Sl} {w : World} {tmps : Array Value} (hu : u ≠ .run) (hi : (invoke (.fn fv cap) dargs).run P w = .ok (.enter f args) w)
    (ht : (fun i => tmps.getD i undef) = σ) (h : doorX P fn R f args u σ w) : Leaves P fn tmps R [{ target := .fn fv cap, args := dargs }] u w := by
  refine leaves_cons hu hi (h.mono fun e u' w' ⟨⟨v, he⟩, hs, hr⟩ => ?_)
  subst he
  show Leaves P fn tmps R [] (settle u') w'
  rw [hs]
  obtain ⟨v', hv, hR⟩ := resE_is hr ht
  exact ⟨v', hv, hR⟩
theorem end_one {P : Program} {fn : Func} {R : Ending → World → Prop} {n : Nat} {f : FuncId} {args cap dargs : Array Value} {fv : Fn} (hi : ∀ w, (invoke (.fn fv cap) dargs).run P w = .ok (.enter f args) w) :
    ∀ e σ w a, FrD [{ target := .fn fv cap, args := dargs }] n σ a → postD P fn R f args e σ w → bodyPostD P fn R e a w := by
  intro e σ w a hf hq
  have ht : (fun i => a.tmps.getD i undef) = σ := funext hf.at_
  cases e <;> simp only [postD] at hq
  case normal =>
    show Leaves P fn a.tmps R a.defers .returning w
    rw [hf.defers]
    exact door_leaves (by simp) (hi w) ht hq
  case ret =>
    show Leaves P fn a.tmps R a.defers .returning w
    rw [hf.defers]
    exact door_leaves (by simp) (hi w) ht hq
  case panic ch =>
    show Leaves P fn a.tmps R a.defers (.panicking ch) w
    rw [hf.defers]
    exact door_leaves (by simp) (hi w) ht hq
/-- Numbers that lie in memory. -/
def IntsR (w : World) (v : Value) (L : List Int) : Prop := ∃ (A : Option Addr) (c : Nat), v = .slice A L.length c ∧ Arr w A 1 (L.map fun n => [Value.int .i64 n])
theorem IntsT.read {lo : Nat} {w : World} {v : Value} {L : List Int} (h : IntsT lo w v L) : IntsR w v L := by
  obtain ⟨A, c, e, h⟩ := h
  refine ⟨A, c, e, fun hn => ?_⟩
  rw [List.length_map] at hn
  obtain ⟨b, hb, hr, _⟩ := h hn
  refine ⟨b, 0, hb, hr.lt, fun i l hl j u hu => ?_⟩
  rw [List.getElem?_map] at hl
  obtain ⟨n, hni, rfl⟩ := Option.map_eq_some_iff.1 hl
  cases j with
  | zero =>
    simp only [List.getElem?_cons_zero, Option.some.injEq] at hu
    subst hu
    rw [show 0 + i * 1 + 0 = i by omega]
    exact hr.cell (by unfold iW; rw [List.getElem?_map, hni]; rfl)
  | succ j => simp at hu
theorem IntsR.below {w w' : World} {v : Value} {L : List Int} (h : IntsR w v L) (k : Below w.heap.size w w') : IntsR w' v L := by
  obtain ⟨A, c, e, h⟩ := h
  exact ⟨A, c, e, h.below k⟩
/-- A game that lies in memory: its add-ons and tiers. -/
def GmIn (w : World) (Va Vt : Value) (G : Gm) : Prop := (∃ (A : Option Addr) (c : Nat) (Vs : List (List Value)), Va = .slice A G.addons.length c ∧ Arr w A 6 Vs ∧ AdsC (IntsR w) Vs G.addons) ∧ ∃ (A : Option Addr) (c : Nat), Vt = .slice A G.tiers.length c ∧ Arr w A 6 (G.tiers.map encTi)
theorem GmIn.below {w w' : World} {Va Vt : Value} {G : Gm} (h : GmIn w Va Vt G) (k : Below w.heap.size w w') : GmIn w' Va Vt G := by
  obtain ⟨⟨A, c, Vs, e, h1, h2⟩, A', c', e', h3⟩ := h
  exact ⟨⟨A, c, Vs, e, h1.below k, h2.mono fun v L hv => hv.below k⟩, A', c', e', h3.below k⟩
theorem GmIn.nil (w : World) : GmIn w (.slice none 0 0) (.slice none 0 0) noGm := ⟨⟨none, 0, [], rfl, fun h => absurd h (Nat.lt_irrefl _), rfl, fun i cs x h => by simp at h⟩, none, 0, rfl, fun h => absurd h (Nat.lt_irrefl _)⟩
theorem arr_row {w : World} {g sz : Nat} {T : TypeId} : ∀ {Vs : List (List Value)}, Row w g T Vs.flatten → (∀ v ∈ Vs, v.length = sz) → Arr w (some ⟨g, 0, none⟩) sz Vs := by
  intro Vs h hl hn
  refine ⟨g, 0, rfl, h.lt, fun i l hi j v hv => h.cell ?_⟩
  have key : ∀ (Vs : List (List Value)) (i : Nat), (∀ v ∈ Vs, v.length = sz) → Vs[i]? = some l → Vs.flatten[0 + i * sz + j]? = some v := by
    intro Vs
    induction Vs with
    | nil => intro i _ h; simp at h
    | cons x r ih =>
      intro i hl hi
      rw [List.flatten_cons]
      have hx := hl x (by simp)
      cases i with
      | zero =>
        simp only [List.getElem?_cons_zero, Option.some.injEq] at hi
        subst hi
        have hj := (List.getElem?_eq_some_iff.1 hv).1
        rw [List.getElem?_append_left (by omega), show 0 + 0 * sz + j = j by omega]
        exact hv
      | succ i =>
        rw [List.getElem?_cons_succ] at hi
        have := ih i (fun v hv => hl v (by simp [hv])) hi
        rw [List.getElem?_append_right (by rw [Nat.succ_mul]; omega), hx, show 0 + (i + 1) * sz + j - sz = 0 + i * sz + j by rw [Nat.succ_mul]; omega]
        exact this
  exact key Vs i hl hi
theorem AdsC.len {P : Value → List Int → Prop} {Vs : List (List Value)} {L : List Ad} (h : AdsC P Vs L) : ∀ v ∈ Vs, v.length = 6 := fun v hv => by
  obtain ⟨i, hi⟩ := List.mem_iff_getElem?.1 hv
  have hl := (List.getElem?_eq_some_iff.1 hi).1
  obtain ⟨_, _, rfl, _⟩ := h.2 i v _ hi (List.getElem?_eq_getElem (by rw [← h.1]; exact hl))
  rfl
theorem GmSt.game {base g gs c a : Nat} {A : Option Addr} {T : List Tk} {w : World} {G : Gm} {seen : List (List Nat)} {Va Vt : Value} {Vs : List (List Value)} (h : GmSt w base g gs A c T a G seen Va Vt Vs) : GmIn w Va Vt G := by
  constructor
  · rcases h.own.2 with ⟨hv, h0⟩ | ⟨g', cap, cur, hv, _⟩
    · refine ⟨none, 0, Vs, by rw [hv, ← h0], fun hn => ?_, h.ads.mono fun v L hv => hv.read⟩
      have := h.ads.1
      omega
    · refine ⟨_, _, Vs, hv, ?_, h.ads.mono fun v L hv => hv.read⟩
      have ho := h.own
      rw [hv] at ho
      intro hn
      have hl := h.ads.1
      obtain ⟨g2, e, _, hr, _⟩ := owns_row ho (by omega)
      injection e with e
      injection e with e
      subst e
      exact arr_row hr h.ads.len hn
  · rcases h.tis.2 with ⟨hv, h0⟩ | ⟨g', cap, cur, hv, _⟩
    · refine ⟨none, 0, by rw [hv, ← h0], fun hn => ?_⟩
      rw [List.length_map] at hn
      omega
    · refine ⟨_, _, hv, ?_⟩
      have ho := h.tis
      rw [hv] at ho
      intro hn
      rw [List.length_map] at hn
      obtain ⟨g2, e, _, hr, _⟩ := owns_row ho hn
      injection e with e
      injection e with e
      subst e
      exact hr.arr (fun _ => rfl) (by rw [List.length_map]; exact hn)
/-- A game whose cells stand. -/
theorem GmSt.game2 {base g gs c a : Nat} {A : Option Addr} {T : List Tk} {w w' : World} {G : Gm} {seen : List (List Nat)} {Va Vt : Value} {Vs : List (List Value)} (h : GmSt w base g gs A c T a G seen Va Vt Vs) (hsz : w.heap.size ≤ w'.heap.size) (hk : ∀ k, base ≤ k → k < w.heap.size → w'.heap[k]? = w.heap[k]?) (htk : Arr w' A 4 (T.map encTk)) : GmIn w' Va Vt G := by
  have hS : GmSt w' base g gs A c T a G seen Va Vt Vs := by
    obtain ⟨h1, h2, h3, h4, h5, h6, h7, h8, h9, h10⟩ := h
    refine ⟨⟨h1.lt, htk, h1.off, h1.row.of_block (hk g h10.2.1 h1.row.lt)⟩, ?_, h3.mono fun v L hv => hv.of_blocksL fun b cs hlo hr => hk b hlo hr.lt, ?_, ?_, h6, h7, h8, h9, h10⟩
    · obtain ⟨l, clk, hl, hkk⟩ := h2
      exact ⟨l, clk, (hk gs h10.2.2.1 (Array.getElem?_eq_some_iff.1 hl).1).trans hl, hkk⟩
    · exact owns_keep h4 fun b hb => hk b (owns_ge h4 hb).1 (owns_ge h4 hb).2
    · exact owns_keep h5 fun b hb => hk b (owns_ge h5 hb).1 (owns_ge h5 hb).2
  exact hS.game
end Go.Proofs.YtbdkggnajipdhaaDoor
/- Walk: ruletext.Print. -/
namespace Go.Proofs.YtbdkggnajipdhaaDoor
open Nat (reduceAdd reduceMul reduceSub reduceEqDiff reduceLT reduceLeDiff)
open Go.RowKit
set_option maxRecDepth 100000
theorem vLoad_all {P : Program} {T : TypeId} {w : World} {b o : Nat} {cs : List Value} (h1 : oneB P T = false) (h2 : aggN P T = some cs.length) (h : ∀ i v, cs[i]? = some v → w.cell? ⟨b, o + i, none⟩ = some v) :
    vLoad P T (.pointer (some ⟨b, o, none⟩)) w = .ok (.value (.agg cs.toArray)) w := by
  rw [vLoad_at, h1, h2, ldT_agg, ldN_of cs o h]
  rfl
theorem gmV_len (G : Gm) (Va Vt : Value) : (gmV G Va Vt).length = 22 := rfl
theorem all_cons {α : Type} (f : Pr → α → Pr) (p : Pr) (a : α) (r : List α) : Pr.all f p (a :: r) = if p.bad then p else Pr.all f (f p a) r := rfl
theorem all_bad {α : Type} (f : Pr → α → Pr) (p : Pr) (l : List α) (h : p.bad = true) : Pr.all f p l = p := by
  cases l with
  | nil => rfl
  | cons a r => rw [all_cons, if_pos h]
section
variable {g b B : Nat} {T : TypeId} {cs : List Value} {w wi : World} {p : Pr}
/-- Where the printer is not bad, its text is short. -/
theorem Pst.short (h : Pst g b T cs w wi p B) (ho : p.Ok) (hb : p.bad = false) : Pst g b T cs w wi p 32768 := ⟨h.pb, h.kb, h.row, h.laid, ho hb, Nat.le_refl _, h.hg, h.ne, h.nt⟩
theorem qHead {G : Gm} {Va Vt : Value} (h : Pst g b T cs w wi p B) (hB : B ≤ 300000000) :
    Calls Tryd.prog 15 #[.pointer (some ⟨g, 0, none⟩), .agg (gmV G Va Vt).toArray] wi fun e w' => e = .returned (.tuple #[]) ∧ Pst g b T cs w w' (p.head G.n) (B + 3000) := by
  refine (pbHead_any h.pb G Va Vt h.laid h.hg h.le h.lo hB).mono ?_
  rintro e w1 ⟨rfl, h1⟩
  exact ⟨rfl, h.next h1.pb h1.kb h1.le (by omega)⟩
theorem qDays {G : Gm} {Va Vt : Value} (h : Pst g b T cs w wi p B) (hB : B ≤ 300000000) :
    Calls Tryd.prog 16 #[.pointer (some ⟨g, 0, none⟩), .agg (gmV G Va Vt).toArray] wi fun e w' => e = .returned (.tuple #[]) ∧ Pst g b T cs w w' (p.days G.n) (B + 4000) := by
  refine (pbDays_any h.pb G Va Vt h.laid h.hg h.le h.lo hB).mono ?_
  rintro e w1 ⟨rfl, h1⟩
  exact ⟨rfl, h.next h1.pb h1.kb h1.le (by omega)⟩
theorem qTier (h : Pst g b T cs w wi p B) (t : Ti) (hB : B ≤ 300000000) :
    Calls Tryd.prog 19 #[.pointer (some ⟨g, 0, none⟩), .agg (encTi t).toArray] wi fun e w' => e = .returned (.tuple #[]) ∧ Pst g b T cs w w' (p.tier t) (B + 2000) := by
  refine (pbTier_any h.pb t h.laid h.hg h.le h.lo hB).mono ?_
  rintro e w1 ⟨rfl, h1⟩
  exact ⟨rfl, h.next h1.pb h1.kb h1.le (by omega)⟩
theorem qAddon (h : Pst g b T cs w wi p B) (a : Ad) (vf vs : Value) (hf : Kin g wi vf a.factors) (hs : Kin g wi vs a.serials) (hnl : a.name.size ≤ 1000000) (hfl : a.factors.length ≤ 1000000) (hsl : a.serials.length ≤ 1000000) (hB : B ≤ 300000000) :
    Calls Tryd.prog 18 #[.pointer (some ⟨g, 0, none⟩), .agg (encAd a vf vs).toArray] wi fun e w' => e = .returned (.tuple #[]) ∧ Pst g b T cs w w' (p.addon a) (B + 1002000) := by
  refine (pbAddon_any h.pb a vf vs hf hs hnl hfl hsl h.laid h.hg h.le h.lo hB).mono ?_
  rintro e w1 ⟨rfl, h1⟩
  exact ⟨rfl, h.next h1.pb h1.kb h1.le (by omega)⟩
end
/-- A game whose parts are not too long. -/
def Gm.little (G : Gm) : Prop := G.name.size ≤ 1000000 ∧ G.addons.length ≤ 1000000 ∧ G.tiers.length ≤ 1000000 ∧ ∀ a ∈ G.addons, a.name.size ≤ 1000000 ∧ a.factors.length ≤ 1000000 ∧ a.serials.length ≤ 1000000
theorem ints_kin {g : Nat} {w wi : World} {v : Value} {L : List Int} (h : IntsR w v L) (hB : ∀ w', KB g wi w' → Below w.heap.size w w') : Kin g wi v L := by
  obtain ⟨A, c, e, h⟩ := h
  exact ⟨A, c, e, fun w' k => h.below (hB w' k)⟩
theorem game_is (G : Gm) : Pr.game G = ((Pr.all Pr.tier (Pr.all Pr.addon ((((((⟨asc "game", false⟩ : Pr).nm G.name).add (asc " {
")).head G.n).days G.n).opts G.n) G.addons) G.tiers).add (asc "}
")).lim := rfl
set_option maxHeartbeats 8000000 in
theorem print_any (G : Gm) (Va Vt : Value) (w : World) (hW : Laid w) (hw9 : 5 ≤ w.heap.size) (hG : GmIn w Va Vt G) (hL : G.little) :
    Calls Tryd.prog 7 #[.agg (gmV G Va Vt).toArray] w fun e w' => e = .returned (.string (toBA (printG G))) ∧ Below w.heap.size w w' := by
  refine calls_W (l := [_]) Tryd.func7 rfl _ Tryd.ntmps7 (by simp) ?_
  obtain ⟨hnl, hal, htl, hadl⟩ := hL
  obtain ⟨⟨Aa, ca, Vs, rfl, hAa, hads⟩, At, ct, rfl, hAt⟩ := hG
  generalize hr : printG G = r
  unfold printG at hr
  rw [game_is] at hr
  have hst : Pr.Ok (((((⟨asc "game", false⟩ : Pr).nm G.name).add (asc " {\n")).head G.n).days G.n |>.opts G.n) :=
    ((((Pr.Step.nm _ G.name).trans (Pr.Step.head _ (asc " {\n") G.n)).trans (Pr.Step.daysI _ G.n)).trans (Pr.Step.opts _ G.n) (show Pr.Ok ⟨asc "game", false⟩ from fun _ => by decide)).1
  have hrow0 := Row.new w 25 (gmV G (.slice Aa G.addons.length ca) (.slice At G.tiers.length ct))
  have hb0 := below_alloc w (.cells (gmV G (.slice Aa G.addons.length ca) (.slice At G.tiers.length ct)).toArray 25)
  have hs0 := World.size_alloc w (.cells (gmV G (.slice Aa G.addons.length ca) (.slice At G.tiers.length ct)).toArray 25)
  refine W_piece fun K hK hX => ?_
  simp +contextual (maxSteps := 2000000) (disch := first | omega | (simp only [SZ]; first | done | omega) | (simp only [TS] at *; omega)) only [RZ, ovw, oneC, reduceAdd, reduceMul, reduceSub, reduceEqDiff, reduceLT, ↓reduceIte, Int.reduceToNat, reduceLeDiff]
  refine hK _ _ ?_
  clear hK hX K
  generalize w.alloc (.cells (gmV G (.slice Aa G.addons.length ca) (.slice At G.tiers.length ct)).toArray 25) = wb at hrow0 hb0 hs0 ⊢
  have hp0 : PbIn wb.heap.size (wb.alloc (.cells #[.pointer none, .slice none 0 0, .bool false] 52)) ⟨[], false⟩ :=
    ⟨none, none, 0, heap_alloc_new wb _, .inl rfl, ⟨rfl, .inl ⟨rfl, rfl⟩⟩, fun n hn => by cases hn⟩
  have h0 : Pst wb.heap.size w.heap.size 25 (gmV G (.slice Aa G.addons.length ca) (.slice At G.tiers.length ct)) (wb.alloc (.cells #[.pointer none, .slice none 0 0, .bool false] 52)) (wb.alloc (.cells #[.pointer none, .slice none 0 0, .bool false] 52)) ⟨[], false⟩ 32768 :=
    ⟨hp0, KB.refl _ _, hrow0.below (below_alloc wb _), (hW.below hb0 hW.size).below (below_alloc wb _) (by have := hW.size; omega), Nat.zero_le _, Nat.le_refl _, by omega, by omega, by decide⟩
  have hb1 : Below w.heap.size w (wb.alloc (.cells #[.pointer none, .slice none 0 0, .bool false] 52)) := hb0.trans ((below_alloc wb _).mono (by omega))
  refine W_piece fun K hK hX => ?_
  simp +contextual (maxSteps := 2000000) (disch := first | omega | (simp only [SZ]; first | done | omega) | (simp only [TS] at *; omega)) only [RZ, ovw, oneC, reduceAdd, reduceMul, reduceSub, reduceEqDiff, reduceLT, ↓reduceIte, Int.reduceToNat, reduceLeDiff]
  refine hK _ _ ?_
  clear hK hX K
  have hgw : w.heap.size < wb.heap.size := by omega
  generalize wb.alloc (.cells #[.pointer none, .slice none 0 0, .bool false] 52) = w0 at h0 hb1 ⊢
  clear hp0 hrow0 hb0 hs0
  generalize wb.heap.size = g at h0 hgw ⊢
  have hBw : ∀ wi, KB g w0 wi → Below w.heap.size w wi := fun wi k => hb1.trans (k.1.mono (Nat.le_of_lt hgw))
  generalize hgv : gmV G (.slice Aa G.addons.length ca) (.slice At G.tiers.length ct) = cs at h0
  generalize hbb : w.heap.size = b at h0
  have hld : ∀ {wi p B}, Pst g b 25 cs w0 wi p B → vLoad Tryd.prog 25 (.pointer (some ⟨b, 0, none⟩)) wi = .ok (.value (.agg (gmV G (.slice Aa G.addons.length ca) (.slice At G.tiers.length ct)).toArray)) wi := fun {wi p B} h =>
    vLoad_all (by kernel_rfl) (by rw [gmV_len]; kernel_rfl) (fun i v hv => by rw [Nat.zero_add]; exact h.cell i (by rw [← hgv]; exact hv))
  refine W_piece fun K hK hX => ?_
  simp +contextual (maxSteps := 2000000) (disch := first | omega | (simp only [SZ]; first | done | omega) | (simp only [TS] at *; omega)) only [RZ, ovw, oneC, reduceAdd, reduceMul, reduceSub, reduceEqDiff, reduceLT, ↓reduceIte, Int.reduceToNat, reduceLeDiff]
  refine (qStr h0 ⟨#[103, 97, 109, 101]⟩ (by decide) (by omega)).mono ?_
  rintro e w1 ⟨rfl, h1⟩
  refine ⟨_, rfl, ?_⟩
  rw [show bs ⟨#[103, 97, 109, 101]⟩ = asc "game" by decide +kernel] at h1
  try simp +contextual (maxSteps := 2000000) (disch := first | omega | (simp only [SZ]; first | done | omega) | (simp only [TS] at *; omega)) only [RZ, ovw, oneC, reduceAdd, reduceMul, reduceSub, reduceEqDiff, reduceLT, ↓reduceIte, Int.reduceToNat, reduceLeDiff]
  refine hK _ _ ?_
  clear hK hX K
  rw [show (⟨[], false⟩ : Pr).add (asc "game") = ⟨asc "game", false⟩ from rfl] at h1
  have d0 : w1.cell? ⟨b, 0, none⟩ = some (.string G.name) := h1.cell 0 (by rw [← hgv]; rfl)
  refine W_piece fun K hK hX => ?_
  simp +contextual (maxSteps := 2000000) (disch := first | omega | (simp only [SZ]; first | done | omega) | (simp only [TS] at *; omega)) only [RZ, ovw, oneC, reduceAdd, reduceMul, reduceSub, reduceEqDiff, reduceLT, ↓reduceIte, Int.reduceToNat, reduceLeDiff,  d0]
  refine (qName h1 G.name hnl (by omega)).mono ?_
  rintro e w2 ⟨rfl, h2⟩
  refine ⟨_, rfl, ?_⟩
  try simp +contextual (maxSteps := 2000000) (disch := first | omega | (simp only [SZ]; first | done | omega) | (simp only [TS] at *; omega)) only [RZ, ovw, oneC, reduceAdd, reduceMul, reduceSub, reduceEqDiff, reduceLT, ↓reduceIte, Int.reduceToNat, reduceLeDiff,  d0]
  refine hK _ _ ?_
  clear hK hX K
  refine W_piece fun K hK hX => ?_
  simp +contextual (maxSteps := 2000000) (disch := first | omega | (simp only [SZ]; first | done | omega) | (simp only [TS] at *; omega)) only [RZ, ovw, oneC, reduceAdd, reduceMul, reduceSub, reduceEqDiff, reduceLT, ↓reduceIte, Int.reduceToNat, reduceLeDiff]
  refine (qStr h2 ⟨#[32, 123, 10]⟩ (by decide) (by omega)).mono ?_
  rintro e w3 ⟨rfl, h3⟩
  refine ⟨_, rfl, ?_⟩
  rw [show bs ⟨#[32, 123, 10]⟩ = asc " {\n" by decide +kernel] at h3
  try simp +contextual (maxSteps := 2000000) (disch := first | omega | (simp only [SZ]; first | done | omega) | (simp only [TS] at *; omega)) only [RZ, ovw, oneC, reduceAdd, reduceMul, reduceSub, reduceEqDiff, reduceLT, ↓reduceIte, Int.reduceToNat, reduceLeDiff]
  refine hK _ _ ?_
  clear hK hX K
  have l3 := hld h3
  refine W_piece fun K hK hX => ?_
  simp +contextual (maxSteps := 2000000) (disch := first | omega | (simp only [SZ]; first | done | omega) | (simp only [TS] at *; omega)) only [RZ, ovw, oneC, reduceAdd, reduceMul, reduceSub, reduceEqDiff, reduceLT, ↓reduceIte, Int.reduceToNat, reduceLeDiff,  l3]
  refine (qHead (G := G) h3 (by omega)).mono ?_
  rintro e w4 ⟨rfl, h4⟩
  refine ⟨_, rfl, ?_⟩
  try simp +contextual (maxSteps := 2000000) (disch := first | omega | (simp only [SZ]; first | done | omega) | (simp only [TS] at *; omega)) only [RZ, ovw, oneC, reduceAdd, reduceMul, reduceSub, reduceEqDiff, reduceLT, ↓reduceIte, Int.reduceToNat, reduceLeDiff,  l3]
  refine hK _ _ ?_
  clear hK hX K
  have l4 := hld h4
  refine W_piece fun K hK hX => ?_
  simp +contextual (maxSteps := 2000000) (disch := first | omega | (simp only [SZ]; first | done | omega) | (simp only [TS] at *; omega)) only [RZ, ovw, oneC, reduceAdd, reduceMul, reduceSub, reduceEqDiff, reduceLT, ↓reduceIte, Int.reduceToNat, reduceLeDiff,  l4]
  refine (qDays (G := G) h4 (by omega)).mono ?_
  rintro e w5 ⟨rfl, h5⟩
  refine ⟨_, rfl, ?_⟩
  try simp +contextual (maxSteps := 2000000) (disch := first | omega | (simp only [SZ]; first | done | omega) | (simp only [TS] at *; omega)) only [RZ, ovw, oneC, reduceAdd, reduceMul, reduceSub, reduceEqDiff, reduceLT, ↓reduceIte, Int.reduceToNat, reduceLeDiff,  l4]
  refine hK _ _ ?_
  clear hK hX K
  have e11 : w5.cell? ⟨b, 12, none⟩ = some (.int .i64 (G.n 11)) := h5.cell 12 (by rw [← hgv]; rfl)
  refine W_piece fun K hK hX => ?_
  simp +contextual (maxSteps := 2000000) (disch := first | omega | (simp only [SZ]; first | done | omega) | (simp only [TS] at *; omega)) only [RZ, ovw, oneC, reduceAdd, reduceMul, reduceSub, reduceEqDiff, reduceLT, ↓reduceIte, Int.reduceToNat, reduceLeDiff,  e11]
  refine (qOpt h5 ⟨#[99, 108, 111, 115, 101]⟩ (G.n 11) 0 (by decide) (by omega)).mono ?_
  rintro e w6 ⟨rfl, h6⟩
  refine ⟨_, rfl, ?_⟩
  rw [show bs ⟨#[99, 108, 111, 115, 101]⟩ = asc "close" by decide +kernel] at h6
  try simp +contextual (maxSteps := 2000000) (disch := first | omega | (simp only [SZ]; first | done | omega) | (simp only [TS] at *; omega)) only [RZ, ovw, oneC, reduceAdd, reduceMul, reduceSub, reduceEqDiff, reduceLT, ↓reduceIte, Int.reduceToNat, reduceLeDiff,  e11]
  refine hK _ _ ?_
  clear hK hX K
  have e12 : w6.cell? ⟨b, 13, none⟩ = some (.int .i64 (G.n 12)) := h6.cell 13 (by rw [← hgv]; rfl)
  refine W_piece fun K hK hX => ?_
  simp +contextual (maxSteps := 2000000) (disch := first | omega | (simp only [SZ]; first | done | omega) | (simp only [TS] at *; omega)) only [RZ, ovw, oneC, reduceAdd, reduceMul, reduceSub, reduceEqDiff, reduceLT, ↓reduceIte, Int.reduceToNat, reduceLeDiff,  e12]
  refine (qOpt h6 ⟨#[99, 97, 110, 99, 101, 108]⟩ (G.n 12) 0 (by decide) (by omega)).mono ?_
  rintro e w7 ⟨rfl, h7⟩
  refine ⟨_, rfl, ?_⟩
  rw [show bs ⟨#[99, 97, 110, 99, 101, 108]⟩ = asc "cancel" by decide +kernel] at h7
  try simp +contextual (maxSteps := 2000000) (disch := first | omega | (simp only [SZ]; first | done | omega) | (simp only [TS] at *; omega)) only [RZ, ovw, oneC, reduceAdd, reduceMul, reduceSub, reduceEqDiff, reduceLT, ↓reduceIte, Int.reduceToNat, reduceLeDiff,  e12]
  refine hK _ _ ?_
  clear hK hX K
  have e13 : w7.cell? ⟨b, 14, none⟩ = some (.int .i64 (G.n 13)) := h7.cell 14 (by rw [← hgv]; rfl)
  refine W_piece fun K hK hX => ?_
  simp +contextual (maxSteps := 2000000) (disch := first | omega | (simp only [SZ]; first | done | omega) | (simp only [TS] at *; omega)) only [RZ, ovw, oneC, reduceAdd, reduceMul, reduceSub, reduceEqDiff, reduceLT, ↓reduceIte, Int.reduceToNat, reduceLeDiff,  e13]
  refine (qOpt h7 ⟨#[101, 120, 112, 105, 114, 121]⟩ (G.n 13) 0 (by decide) (by omega)).mono ?_
  rintro e w8 ⟨rfl, h8⟩
  refine ⟨_, rfl, ?_⟩
  rw [show bs ⟨#[101, 120, 112, 105, 114, 121]⟩ = asc "expiry" by decide +kernel] at h8
  try simp +contextual (maxSteps := 2000000) (disch := first | omega | (simp only [SZ]; first | done | omega) | (simp only [TS] at *; omega)) only [RZ, ovw, oneC, reduceAdd, reduceMul, reduceSub, reduceEqDiff, reduceLT, ↓reduceIte, Int.reduceToNat, reduceLeDiff,  e13]
  refine hK _ _ ?_
  clear hK hX K
  have e14 : w8.cell? ⟨b, 15, none⟩ = some (.int .i64 (G.n 14)) := h8.cell 15 (by rw [← hgv]; rfl)
  refine W_piece fun K hK hX => ?_
  simp +contextual (maxSteps := 2000000) (disch := first | omega | (simp only [SZ]; first | done | omega) | (simp only [TS] at *; omega)) only [RZ, ovw, oneC, reduceAdd, reduceMul, reduceSub, reduceEqDiff, reduceLT, ↓reduceIte, Int.reduceToNat, reduceLeDiff,  e14]
  refine (qOpt h8 ⟨#[112, 111, 111, 108]⟩ (G.n 14) 0 (by decide) (by omega)).mono ?_
  rintro e w9 ⟨rfl, h9⟩
  refine ⟨_, rfl, ?_⟩
  rw [show bs ⟨#[112, 111, 111, 108]⟩ = asc "pool" by decide +kernel] at h9
  try simp +contextual (maxSteps := 2000000) (disch := first | omega | (simp only [SZ]; first | done | omega) | (simp only [TS] at *; omega)) only [RZ, ovw, oneC, reduceAdd, reduceMul, reduceSub, reduceEqDiff, reduceLT, ↓reduceIte, Int.reduceToNat, reduceLeDiff,  e14]
  refine hK _ _ ?_
  clear hK hX K
  have e15 : w9.cell? ⟨b, 16, none⟩ = some (.int .i64 (G.n 15)) := h9.cell 16 (by rw [← hgv]; rfl)
  refine W_piece fun K hK hX => ?_
  simp +contextual (maxSteps := 2000000) (disch := first | omega | (simp only [SZ]; first | done | omega) | (simp only [TS] at *; omega)) only [RZ, ovw, oneC, reduceAdd, reduceMul, reduceSub, reduceEqDiff, reduceLT, ↓reduceIte, Int.reduceToNat, reduceLeDiff,  e15]
  refine (qOpt h9 ⟨#[114, 101, 115, 101, 114, 118, 101]⟩ (G.n 15) 0 (by decide) (by omega)).mono ?_
  rintro e w10 ⟨rfl, h10⟩
  refine ⟨_, rfl, ?_⟩
  rw [show bs ⟨#[114, 101, 115, 101, 114, 118, 101]⟩ = asc "reserve" by decide +kernel] at h10
  try simp +contextual (maxSteps := 2000000) (disch := first | omega | (simp only [SZ]; first | done | omega) | (simp only [TS] at *; omega)) only [RZ, ovw, oneC, reduceAdd, reduceMul, reduceSub, reduceEqDiff, reduceLT, ↓reduceIte, Int.reduceToNat, reduceLeDiff,  e15]
  refine hK _ _ ?_
  clear hK hX K
  have e16 : w10.cell? ⟨b, 17, none⟩ = some (.int .i64 (G.n 16)) := h10.cell 17 (by rw [← hgv]; rfl)
  refine W_piece fun K hK hX => ?_
  simp +contextual (maxSteps := 2000000) (disch := first | omega | (simp only [SZ]; first | done | omega) | (simp only [TS] at *; omega)) only [RZ, ovw, oneC, reduceAdd, reduceMul, reduceSub, reduceEqDiff, reduceLT, ↓reduceIte, Int.reduceToNat, reduceLeDiff,  e16]
  refine (qOpt h10 ⟨#[114, 111, 117, 110, 100]⟩ (G.n 16) 1 (by decide) (by omega)).mono ?_
  rintro e w11 ⟨rfl, h11⟩
  refine ⟨_, rfl, ?_⟩
  rw [show bs ⟨#[114, 111, 117, 110, 100]⟩ = asc "round" by decide +kernel] at h11
  try simp +contextual (maxSteps := 2000000) (disch := first | omega | (simp only [SZ]; first | done | omega) | (simp only [TS] at *; omega)) only [RZ, ovw, oneC, reduceAdd, reduceMul, reduceSub, reduceEqDiff, reduceLT, ↓reduceIte, Int.reduceToNat, reduceLeDiff,  e16]
  refine hK _ _ ?_
  clear hK hX K
  have e17 : w11.cell? ⟨b, 18, none⟩ = some (.int .i64 (G.n 17)) := h11.cell 18 (by rw [← hgv]; rfl)
  refine W_piece fun K hK hX => ?_
  simp +contextual (maxSteps := 2000000) (disch := first | omega | (simp only [SZ]; first | done | omega) | (simp only [TS] at *; omega)) only [RZ, ovw, oneC, reduceAdd, reduceMul, reduceSub, reduceEqDiff, reduceLT, ↓reduceIte, Int.reduceToNat, reduceLeDiff,  e17]
  refine (qOpt h11 ⟨#[99, 97, 112]⟩ (G.n 17) 0 (by decide) (by omega)).mono ?_
  rintro e w12 ⟨rfl, h12⟩
  refine ⟨_, rfl, ?_⟩
  rw [show bs ⟨#[99, 97, 112]⟩ = asc "cap" by decide +kernel] at h12
  try simp +contextual (maxSteps := 2000000) (disch := first | omega | (simp only [SZ]; first | done | omega) | (simp only [TS] at *; omega)) only [RZ, ovw, oneC, reduceAdd, reduceMul, reduceSub, reduceEqDiff, reduceLT, ↓reduceIte, Int.reduceToNat, reduceLeDiff,  e17]
  refine hK _ _ ?_
  clear hK hX K
  have e18 : w12.cell? ⟨b, 19, none⟩ = some (.int .i64 (G.n 18)) := h12.cell 19 (by rw [← hgv]; rfl)
  refine W_piece fun K hK hX => ?_
  simp +contextual (maxSteps := 2000000) (disch := first | omega | (simp only [SZ]; first | done | omega) | (simp only [TS] at *; omega)) only [RZ, ovw, oneC, reduceAdd, reduceMul, reduceSub, reduceEqDiff, reduceLT, ↓reduceIte, Int.reduceToNat, reduceLeDiff,  e18]
  refine (qOpt h12 ⟨#[114, 111, 108, 108, 115]⟩ (G.n 18) 0 (by decide) (by omega)).mono ?_
  rintro e w13 ⟨rfl, h13⟩
  refine ⟨_, rfl, ?_⟩
  rw [show bs ⟨#[114, 111, 108, 108, 115]⟩ = asc "rolls" by decide +kernel] at h13
  try simp +contextual (maxSteps := 2000000) (disch := first | omega | (simp only [SZ]; first | done | omega) | (simp only [TS] at *; omega)) only [RZ, ovw, oneC, reduceAdd, reduceMul, reduceSub, reduceEqDiff, reduceLT, ↓reduceIte, Int.reduceToNat, reduceLeDiff,  e18]
  refine hK _ _ ?_
  clear hK hX K
  have eo : (((((((((((((⟨asc "game", false⟩ : Pr).nm G.name).add (asc " {\n")).head G.n).days G.n).opt (asc "close") (G.n 11) 0).opt (asc "cancel") (G.n 12) 0).opt (asc "expiry") (G.n 13) 0).opt (asc "pool") (G.n 14) 0).opt (asc "reserve") (G.n 15) 0).opt (asc "round") (G.n 16) 1).opt (asc "cap") (G.n 17) 0).opt (asc "rolls") (G.n 18) 0)
      = (((((⟨asc "game", false⟩ : Pr).nm G.name).add (asc " {\n")).head G.n).days G.n).opts G.n := rfl
  rw [eo] at h13
  clear eo
  generalize (((((⟨asc "game", false⟩ : Pr).nm G.name).add (asc " {\n")).head G.n).days G.n).opts G.n = p0 at h13 hst hr
  have hn := h13.next (B' := 2100000) h13.pb (KB.refl _ _) (Nat.le_trans h13.le (by omega)) (by omega)
  clear h0 h1 h2 h3 h4 h5 h6 h7 h8 h9 h10 h11 h12 h13 d0 l3 l4 e11 e12 e13 e14 e15 e16 e17 e18
  generalize w13 = wn at hn ⊢
  refine W_cutS (fun σ wi => σ 1 = .pointer (some ⟨b, 0, none⟩) ∧ σ 3 = .pointer (some ⟨g, 0, none⟩) ∧ Pst g b 25 cs w0 wi (Pr.all Pr.addon p0 G.addons) 2100000) ?_ ?_
  rotate_left
  · refine W_piece fun K hK hX => ?_
    simp +contextual (maxSteps := 2000000) (disch := first | omega | (simp only [SZ]; first | done | omega) | (simp only [TS] at *; omega)) only [RZ, ovw, oneC, reduceAdd, reduceMul, reduceSub, reduceEqDiff, reduceLT, ↓reduceIte, Int.reduceToNat, reduceLeDiff]
    refine hK _ _ ?_
    clear hK hX K
    rw [W_block, W_loop]
    refine Raw_loop (fun σ wi => ∃ (k : Nat) (pk : Pr), k ≤ G.addons.length ∧ pk.Ok ∧ Pr.all Pr.addon pk (G.addons.drop k) = Pr.all Pr.addon p0 G.addons ∧ Pst g b 25 cs w0 wi pk 2100000 ∧ σ 1 = .pointer (some ⟨b, 0, none⟩) ∧ σ 3 = .pointer (some ⟨g, 0, none⟩) ∧ σ 4 = .int .i64 k) (fun σ _ => G.addons.length - (intOf (σ 4)).toNat) ?_ ?_
    · exact ⟨0, p0, Nat.zero_le _, hst, by rw [List.drop_zero], hn, rfl, rfl, rfl⟩
    clear hn
    rintro σ wi ⟨k, pk, hk, hok, hpk, h1, f1, f3, f4⟩ K hK
    have dA : wi.cell? ⟨b, 20, none⟩ = some (.slice Aa G.addons.length ca) := h1.cell 20 (by rw [← hgv]; rfl)
    have dB := h1.bad
    refine W_piece fun K2 hK2 hX2 => ?_
    refine W_piece fun K3 hK3 hX3 => ?_
    simp +contextual (maxSteps := 2000000) (disch := first | omega | (simp only [SZ]; first | done | omega) | (simp only [TS] at *; omega)) only [RZ, ovw, oneC, reduceAdd, reduceMul, reduceSub, reduceEqDiff, reduceLT, ↓reduceIte, Int.reduceToNat, reduceLeDiff,  f1, f3, f4, dA, dB]
    refine hK3 _ _ ?_
    clear hK3 hX3 K3
    by_cases hc : k < G.addons.length ∧ pk.bad = false
    · refine W_if_t (by show Value.bool (decide ((k : Int) < (G.addons.length : Int)) && !pk.bad) = .bool true; rw [hc.2, show decide ((k : Int) < (G.addons.length : Int)) = true by have := hc.1; simp; omega]; rfl) ?_
      rw [W_skip]
      refine hK2 _ _ ?_
      clear hK2 hX2 K2
      obtain ⟨hkl, hbf⟩ := hc
      obtain ⟨a, ha⟩ : ∃ a, G.addons[k]? = some a := ⟨_, List.getElem?_eq_getElem hkl⟩
      obtain ⟨cv1, hcv⟩ : ∃ c, Vs[k]? = some c := ⟨_, List.getElem?_eq_getElem (by rw [hads.1]; exact hkl)⟩
      obtain ⟨vf, vs, rfl, hvf, hvs⟩ := hads.2 k _ a hcv ha
      have hbi : Below w.heap.size w wi := hBw wi h1.kb
      obtain ⟨b2, o2, rfl, hb2, hcell⟩ := (hAa.below hbi) (by rw [hads.1]; omega)
      have hla : vLoad Tryd.prog 43 (.pointer (some ⟨b2, o2 + k * 6, none⟩)) wi = .ok (.value (.agg (encAd a vf vs).toArray)) wi := vLoad_all (by kernel_rfl) (by show _ = some 6; kernel_rfl) (fun i v hv => hcell k _ hcv i v hv)
      have hdk : G.addons.drop k = a :: G.addons.drop (k + 1) := by
        rw [List.drop_eq_getElem_cons hkl]
        congr 1
        exact (List.getElem?_eq_some_iff.1 ha).2
      rw [hdk, all_cons, if_neg (by rw [hbf]; simp)] at hpk
      obtain ⟨m1, m2, m3⟩ := hadl a (List.mem_of_getElem? ha)
      have hKk : ∀ w', KB g wi w' → Below w.heap.size w w' := fun w' k' => hBw w' (h1.kb.trans k')
      refine W_piece fun K1 hK1 hX1 => ?_
      rw [W_block]
      simp +contextual (maxSteps := 2000000) (disch := first | omega | (simp only [SZ]; first | done | omega) | (simp only [TS] at *; omega)) only [RZ, ovw, oneC, reduceAdd, reduceMul, reduceSub, reduceEqDiff, reduceLT, ↓reduceIte, Int.reduceToNat, reduceLeDiff,  f1, f3, f4, dA, hla]
      refine (qAddon (h1.short hok hbf) a vf vs (ints_kin hvf hKk) (ints_kin hvs hKk) m1 m2 m3 (by omega)).mono ?_
      rintro e w2 ⟨rfl, h2⟩
      refine ⟨_, rfl, ?_⟩
      try simp +contextual (maxSteps := 2000000) (disch := first | omega | (simp only [SZ]; first | done | omega) | (simp only [TS] at *; omega)) only [RZ, ovw, oneC, reduceAdd, reduceMul, reduceSub, reduceEqDiff, reduceLT, ↓reduceIte, Int.reduceToNat, reduceLeDiff,  f1, f3, f4]
      refine hK1 _ _ ?_
      clear hK1 hX1 K1
      simp +contextual (maxSteps := 2000000) (disch := first | omega | (simp only [SZ]; first | done | omega) | (simp only [TS] at *; omega)) only [RZ, ovw, oneC, reduceAdd, reduceMul, reduceSub, reduceEqDiff, reduceLT, ↓reduceIte, Int.reduceToNat, reduceLeDiff,  f1, f3, f4]
      refine hK _ _ ⟨k + 1, pk.addon a, by omega, (Pr.Step.addon pk a hok).1, hpk, h2.next h2.pb (KB.refl _ _) (Nat.le_trans h2.le (by omega)) (by omega), ?_⟩ ?_
      · simp +contextual (maxSteps := 2000000) (disch := first | omega | (simp only [SZ]; first | done | omega) | (simp only [TS] at *; omega)) only [RZ, ovw, oneC, reduceAdd, reduceMul, reduceSub, reduceEqDiff, reduceLT, ↓reduceIte, Int.reduceToNat, reduceLeDiff,  f1, f3, f4]
      · simp +contextual (maxSteps := 2000000) (disch := first | omega | (simp only [SZ]; first | done | omega) | (simp only [TS] at *; omega)) only [RZ, ovw, oneC, reduceAdd, reduceMul, reduceSub, reduceEqDiff, reduceLT, ↓reduceIte, Int.reduceToNat, reduceLeDiff,  intOf, f4]
        omega
    · refine W_if_f (by show Value.bool (decide ((k : Int) < (G.addons.length : Int)) && !pk.bad) = .bool false; rw [show (decide ((k : Int) < (G.addons.length : Int)) && !pk.bad) = false by (rw [Bool.eq_false_iff]; intro e; simp only [Bool.and_eq_true, decide_eq_true_eq, Bool.not_eq_true'] at e; exact hc ⟨by omega, e.2⟩)]) ?_
      have hpk2 : pk = Pr.all Pr.addon p0 G.addons := by
        by_cases hkl : k < G.addons.length
        · have hbt : pk.bad = true := by cases e : pk.bad with | true => rfl | false => exact absurd ⟨hkl, e⟩ hc
          rw [all_bad _ _ _ hbt] at hpk
          exact hpk
        · rw [List.drop_eq_nil_of_le (by omega)] at hpk
          exact hpk
      rw [W_exit]
      refine hX2 _ _ _ (fun h => by cases h) ?_
      rw [hpk2] at h1
      simp +contextual (maxSteps := 2000000) (disch := first | omega | (simp only [SZ]; first | done | omega) | (simp only [TS] at *; omega)) only [RZ, ovw, oneC, reduceAdd, reduceMul, reduceSub, reduceEqDiff, reduceLT, ↓reduceIte, Int.reduceToNat, reduceLeDiff,  f1, f3, f4]
      exact h1
  clear hn
  have hst2 := ((Pr.Step.all (fun p a => Pr.Step.addon p a) G.addons p0) hst).1
  generalize Pr.all Pr.addon p0 G.addons = p1 at hr hst2 ⊢
  rintro σ wn ⟨f1, f3, hn⟩
  refine W_cutS (fun σ wi => σ 1 = .pointer (some ⟨b, 0, none⟩) ∧ σ 3 = .pointer (some ⟨g, 0, none⟩) ∧ Pst g b 25 cs w0 wi (Pr.all Pr.tier p1 G.tiers) 2100000) ?_ ?_
  rotate_left
  · refine W_piece fun K hK hX => ?_
    simp +contextual (maxSteps := 2000000) (disch := first | omega | (simp only [SZ]; first | done | omega) | (simp only [TS] at *; omega)) only [RZ, ovw, oneC, reduceAdd, reduceMul, reduceSub, reduceEqDiff, reduceLT, ↓reduceIte, Int.reduceToNat, reduceLeDiff]
    refine hK _ _ ?_
    clear hK hX K
    rw [W_block, W_loop]
    refine Raw_loop (fun σ wi => ∃ (k : Nat) (pk : Pr), k ≤ G.tiers.length ∧ pk.Ok ∧ Pr.all Pr.tier pk (G.tiers.drop k) = Pr.all Pr.tier p1 G.tiers ∧ Pst g b 25 cs w0 wi pk 2100000 ∧ σ 1 = .pointer (some ⟨b, 0, none⟩) ∧ σ 3 = .pointer (some ⟨g, 0, none⟩) ∧ σ 5 = .int .i64 k) (fun σ _ => G.tiers.length - (intOf (σ 5)).toNat) ?_ ?_
    · refine ⟨0, p1, Nat.zero_le _, hst2, by rw [List.drop_zero], hn, ?_⟩
      simp +contextual (maxSteps := 2000000) (disch := first | omega | (simp only [SZ]; first | done | omega) | (simp only [TS] at *; omega)) only [RZ, ovw, oneC, reduceAdd, reduceMul, reduceSub, reduceEqDiff, reduceLT, ↓reduceIte, Int.reduceToNat, reduceLeDiff,  f1, f3]
      rfl
    clear hn f1 f3
    rintro σ wi ⟨k, pk, hk, hok, hpk, h1, f1, f3, f5⟩ K hK
    have dA : wi.cell? ⟨b, 21, none⟩ = some (.slice At G.tiers.length ct) := h1.cell 21 (by rw [← hgv]; rfl)
    have dB := h1.bad
    refine W_piece fun K2 hK2 hX2 => ?_
    refine W_piece fun K3 hK3 hX3 => ?_
    simp +contextual (maxSteps := 2000000) (disch := first | omega | (simp only [SZ]; first | done | omega) | (simp only [TS] at *; omega)) only [RZ, ovw, oneC, reduceAdd, reduceMul, reduceSub, reduceEqDiff, reduceLT, ↓reduceIte, Int.reduceToNat, reduceLeDiff,  f1, f3, f5, dA, dB]
    refine hK3 _ _ ?_
    clear hK3 hX3 K3
    by_cases hc : k < G.tiers.length ∧ pk.bad = false
    · refine W_if_t (by show Value.bool (decide ((k : Int) < (G.tiers.length : Int)) && !pk.bad) = .bool true; rw [hc.2, show decide ((k : Int) < (G.tiers.length : Int)) = true by have := hc.1; simp; omega]; rfl) ?_
      rw [W_skip]
      refine hK2 _ _ ?_
      clear hK2 hX2 K2
      obtain ⟨hkl, hbf⟩ := hc
      obtain ⟨t, ht⟩ : ∃ t, G.tiers[k]? = some t := ⟨_, List.getElem?_eq_getElem hkl⟩
      have hbi : Below w.heap.size w wi := hBw wi h1.kb
      obtain ⟨b2, o2, rfl, hb2, hcell⟩ := (hAt.below hbi).at_ (enc := encTi) ht
      have hla : vLoad Tryd.prog 45 (.pointer (some ⟨b2, o2 + k * 6, none⟩)) wi = .ok (.value (.agg (encTi t).toArray)) wi := vLoad_all (by kernel_rfl) (by show _ = some 6; kernel_rfl) (fun i v hv => hcell i v hv)
      have hdk : G.tiers.drop k = t :: G.tiers.drop (k + 1) := by
        rw [List.drop_eq_getElem_cons hkl]
        congr 1
        exact (List.getElem?_eq_some_iff.1 ht).2
      rw [hdk, all_cons, if_neg (by rw [hbf]; simp)] at hpk
      refine W_piece fun K1 hK1 hX1 => ?_
      rw [W_block]
      simp +contextual (maxSteps := 2000000) (disch := first | omega | (simp only [SZ]; first | done | omega) | (simp only [TS] at *; omega)) only [RZ, ovw, oneC, reduceAdd, reduceMul, reduceSub, reduceEqDiff, reduceLT, ↓reduceIte, Int.reduceToNat, reduceLeDiff,  f1, f3, f5, dA, hla]
      refine (qTier (h1.short hok hbf) t (by omega)).mono ?_
      rintro e w2 ⟨rfl, h2⟩
      refine ⟨_, rfl, ?_⟩
      try simp +contextual (maxSteps := 2000000) (disch := first | omega | (simp only [SZ]; first | done | omega) | (simp only [TS] at *; omega)) only [RZ, ovw, oneC, reduceAdd, reduceMul, reduceSub, reduceEqDiff, reduceLT, ↓reduceIte, Int.reduceToNat, reduceLeDiff,  f1, f3, f5]
      refine hK1 _ _ ?_
      clear hK1 hX1 K1
      simp +contextual (maxSteps := 2000000) (disch := first | omega | (simp only [SZ]; first | done | omega) | (simp only [TS] at *; omega)) only [RZ, ovw, oneC, reduceAdd, reduceMul, reduceSub, reduceEqDiff, reduceLT, ↓reduceIte, Int.reduceToNat, reduceLeDiff,  f1, f3, f5]
      refine hK _ _ ⟨k + 1, pk.tier t, by omega, (Pr.Step.tier pk t hok).1, hpk, h2.next h2.pb (KB.refl _ _) (Nat.le_trans h2.le (by omega)) (by omega), ?_⟩ ?_
      · simp +contextual (maxSteps := 2000000) (disch := first | omega | (simp only [SZ]; first | done | omega) | (simp only [TS] at *; omega)) only [RZ, ovw, oneC, reduceAdd, reduceMul, reduceSub, reduceEqDiff, reduceLT, ↓reduceIte, Int.reduceToNat, reduceLeDiff,  f1, f3, f5]
      · simp +contextual (maxSteps := 2000000) (disch := first | omega | (simp only [SZ]; first | done | omega) | (simp only [TS] at *; omega)) only [RZ, ovw, oneC, reduceAdd, reduceMul, reduceSub, reduceEqDiff, reduceLT, ↓reduceIte, Int.reduceToNat, reduceLeDiff,  intOf, f5]
        omega
    · refine W_if_f (by show Value.bool (decide ((k : Int) < (G.tiers.length : Int)) && !pk.bad) = .bool false; rw [show (decide ((k : Int) < (G.tiers.length : Int)) && !pk.bad) = false by (rw [Bool.eq_false_iff]; intro e; simp only [Bool.and_eq_true, decide_eq_true_eq, Bool.not_eq_true'] at e; exact hc ⟨by omega, e.2⟩)]) ?_
      have hpk2 : pk = Pr.all Pr.tier p1 G.tiers := by
        by_cases hkl : k < G.tiers.length
        · have hbt : pk.bad = true := by cases e : pk.bad with | true => rfl | false => exact absurd ⟨hkl, e⟩ hc
          rw [all_bad _ _ _ hbt] at hpk
          exact hpk
        · rw [List.drop_eq_nil_of_le (by omega)] at hpk
          exact hpk
      rw [W_exit]
      refine hX2 _ _ _ (fun h => by cases h) ?_
      rw [hpk2] at h1
      simp +contextual (maxSteps := 2000000) (disch := first | omega | (simp only [SZ]; first | done | omega) | (simp only [TS] at *; omega)) only [RZ, ovw, oneC, reduceAdd, reduceMul, reduceSub, reduceEqDiff, reduceLT, ↓reduceIte, Int.reduceToNat, reduceLeDiff,  f1, f3, f5]
      exact h1
  clear hn f1 f3
  generalize Pr.all Pr.tier p1 G.tiers = p2 at hr ⊢
  rintro σ w1 ⟨f1, f3, h1⟩
  refine W_piece fun K hK hX => ?_
  simp +contextual (maxSteps := 2000000) (disch := first | omega | (simp only [SZ]; first | done | omega) | (simp only [TS] at *; omega)) only [RZ, ovw, oneC, reduceAdd, reduceMul, reduceSub, reduceEqDiff, reduceLT, ↓reduceIte, Int.reduceToNat, reduceLeDiff,  f1, f3]
  refine (qStr h1 ⟨#[125, 10]⟩ (by decide) (by omega)).mono ?_
  rintro e w2 ⟨rfl, h2⟩
  refine ⟨_, rfl, ?_⟩
  rw [show bs ⟨#[125, 10]⟩ = asc "}\n" by decide +kernel] at h2
  try simp +contextual (maxSteps := 2000000) (disch := first | omega | (simp only [SZ]; first | done | omega) | (simp only [TS] at *; omega)) only [RZ, ovw, oneC, reduceAdd, reduceMul, reduceSub, reduceEqDiff, reduceLT, ↓reduceIte, Int.reduceToNat, reduceLeDiff,  f1, f3]
  refine hK _ _ ?_
  clear hK hX K
  have hne : (p2.add (asc "}\n")).X ≠ [] := by
    unfold Pr.add
    intro e
    have := congrArg List.length e
    rw [List.length_append] at this
    simp at this
    exact absurd this.2 (by decide +kernel)
  have hd : decide (((p2.add (asc "}\n")).X.length : Int) ≤ 32768) = decide ((p2.add (asc "}\n")).X.length ≤ 32768) := by
    have : (((p2.add (asc "}\n")).X.length : Int) ≤ 32768) = ((p2.add (asc "}\n")).X.length ≤ 32768) := by apply propext; omega
    simp only [this]
  have hrl : (p2.add (asc "}\n")).lim = (p2.add (asc "}\n")).req (decide ((p2.add (asc "}\n")).X.length ≤ 32768)) := rfl
  rw [hrl] at hr
  generalize p2.add (asc "}\n") = p3 at h2 hne hd hr
  refine W_piece fun K hK hX => ?_
  simp +contextual (maxSteps := 2000000) (disch := first | omega | (simp only [SZ]; first | done | omega) | (simp only [TS] at *; omega)) only [RZ, ovw, oneC, reduceAdd, reduceMul, reduceSub, reduceEqDiff, reduceLT, ↓reduceIte, Int.reduceToNat, reduceLeDiff,  f1, f3]
  refine (pbLen_any h2.pb).mono ?_
  rintro e w3 ⟨rfl, rfl⟩
  refine ⟨_, rfl, ?_⟩
  try simp +contextual (maxSteps := 2000000) (disch := first | omega | (simp only [SZ]; first | done | omega) | (simp only [TS] at *; omega)) only [RZ, ovw, oneC, reduceAdd, reduceMul, reduceSub, reduceEqDiff, reduceLT, ↓reduceIte, Int.reduceToNat, reduceLeDiff,  f1, f3]
  rw [hd]
  refine (qReq h2 _).mono ?_
  rintro e w3 ⟨rfl, h3⟩
  refine ⟨_, rfl, ?_⟩
  try simp +contextual (maxSteps := 2000000) (disch := first | omega | (simp only [SZ]; first | done | omega) | (simp only [TS] at *; omega)) only [RZ, ovw, oneC, reduceAdd, reduceMul, reduceSub, reduceEqDiff, reduceLT, ↓reduceIte, Int.reduceToNat, reduceLeDiff,  f1, f3]
  refine hK _ _ ?_
  clear hK hX K
  have hx3 : (p3.req (decide (p3.X.length ≤ 32768))).X ≠ [] := hne
  generalize p3.req (decide (p3.X.length ≤ 32768)) = p4 at hr h3 hx3
  have dB := h3.bad
  refine W_piece fun K hK hX => ?_
  refine W_piece fun K2 hK2 hX2 => ?_
  simp +contextual (maxSteps := 2000000) (disch := first | omega | (simp only [SZ]; first | done | omega) | (simp only [TS] at *; omega)) only [RZ, ovw, oneC, reduceAdd, reduceMul, reduceSub, reduceEqDiff, reduceLT, ↓reduceIte, Int.reduceToNat, reduceLeDiff,  f1, f3, dB]
  refine hK2 _ _ ?_
  clear hK2 hX2 K2
  have hb3 := hBw _ h3.kb
  rw [hbb] at hb3
  cases hbd : p4.bad with
  | true =>
    rw [hbd, if_pos rfl] at hr
    subst hr
    refine W_if_t rfl ?_
    refine W_piece fun K2 hK2 hX2 => ?_
    simp +contextual (maxSteps := 2000000) (disch := first | omega | (simp only [SZ]; first | done | omega) | (simp only [TS] at *; omega)) only [RZ, ovw, oneC, reduceAdd, reduceMul, reduceSub, reduceEqDiff, reduceLT, ↓reduceIte, Int.reduceToNat, reduceLeDiff]
    refine hK2 _ _ ?_
    clear hK2 hX2 K2
    rw [W_ret]
    refine hX _ _ _ (fun h => by cases h) ?_
    simp +contextual (maxSteps := 2000000) (disch := first | omega | (simp only [SZ]; first | done | omega) | (simp only [TS] at *; omega)) only [RZ, ovw, oneC, reduceAdd, reduceMul, reduceSub, reduceEqDiff, reduceLT, ↓reduceIte, Int.reduceToNat, reduceLeDiff]
    exact ⟨rfl, hb3⟩
  | false =>
    rw [hbd, if_neg (by simp)] at hr
    subst hr
    refine W_if_f rfl ?_
    rw [W_skip]
    refine hK _ _ ?_
    clear hK hX K
    have hl3 := h3.le
    refine W_piece fun K hK hX => ?_
    simp +contextual (maxSteps := 2000000) (disch := first | omega | (simp only [SZ]; first | done | omega) | (simp only [TS] at *; omega)) only [RZ, ovw, oneC, reduceAdd, reduceMul, reduceSub, reduceEqDiff, reduceLT, ↓reduceIte, Int.reduceToNat, reduceLeDiff,  f1, f3]
    refine (pbString_any h3.pb hx3 (by omega)).mono ?_
    rintro e w4 ⟨rfl, h4⟩
    refine ⟨_, rfl, ?_⟩
    try simp +contextual (maxSteps := 2000000) (disch := first | omega | (simp only [SZ]; first | done | omega) | (simp only [TS] at *; omega)) only [RZ, ovw, oneC, reduceAdd, reduceMul, reduceSub, reduceEqDiff, reduceLT, ↓reduceIte, Int.reduceToNat, reduceLeDiff,  f1, f3]
    refine hK _ _ ?_
    clear hK hX K
    simp +contextual (maxSteps := 2000000) (disch := first | omega | (simp only [SZ]; first | done | omega) | (simp only [TS] at *; omega)) only [RZ, ovw, oneC, reduceAdd, reduceMul, reduceSub, reduceEqDiff, reduceLT, ↓reduceIte, Int.reduceToNat, reduceLeDiff]
    exact hb3.trans (h4.mono (by omega))
end Go.Proofs.YtbdkggnajipdhaaDoor
