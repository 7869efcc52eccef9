/- Texts laid one behind the other: PbI. Each says at its head what it proves. -/
import Derived.Test.YtbdkggnajipdhaaDoorY16
set_option linter.unusedSimpArgs false
/- Walk: ruletext.Print. -/
namespace Go.Proofs.YtbdkggnajipdhaaDoor
open Go.RowKit
set_option maxRecDepth 100000
theorem vLoad_all {P : Program} {T : TypeId} {w : World} {b o : Nat} {cs : List Value} (h1 : oneB P T = false) (h2 : aggN P T = some cs.length) (h : ∀ i v, cs[i]? = some v → w.cell? ⟨b, o + i, none⟩ = some v) :
    vLoad P T (.pointer (some ⟨b, o, none⟩)) w = .ok (.value (.agg cs.toArray)) w := by
  rw [vLoad_at, h1, h2, ldT_agg, ldN_of cs o h]
  rfl
theorem gmV_len (G : Gm) (Va Vt : Value) : (gmV G Va Vt).length = 22 := rfl
theorem all_cons {α : Type} (f : Pr → α → Pr) (p : Pr) (a : α) (r : List α) : Pr.all f p (a :: r) = if p.bad then p else Pr.all f (f p a) r := rfl
theorem all_bad {α : Type} (f : Pr → α → Pr) (p : Pr) (l : List α) (h : p.bad = true) : Pr.all f p l = p := by
  cases l with
  | nil => rfl
  | cons a r => rw [all_cons, if_pos h]
section
variable {g b B : Nat} {T : TypeId} {cs : List Value} {w wi : World} {p : Pr}
/-- Where the printer is not bad, its text is short. -/
theorem Pst.short (h : Pst g b T cs w wi p B) (ho : p.Ok) (hb : p.bad = false) : Pst g b T cs w wi p 32768 := ⟨h.pb, h.kb, h.row, h.laid, ho hb, Nat.le_refl _, h.hg, h.ne, h.nt⟩
theorem qHead {G : Gm} {Va Vt : Value} (h : Pst g b T cs w wi p B) (hB : B ≤ 300000000) :
    Calls Tryd.prog 15 #[.pointer (some ⟨g, 0, none⟩), .agg (gmV G Va Vt).toArray] wi fun e w' => e = .returned (.tuple #[]) ∧ Pst g b T cs w w' (p.head G.n) (B + 3000) := by
  refine (pbHead_any h.pb G Va Vt h.laid h.hg h.le h.lo hB).mono ?_
  rintro e w1 ⟨rfl, h1⟩
  exact ⟨rfl, h.next h1.pb h1.kb h1.le (by omega)⟩
theorem qDays {G : Gm} {Va Vt : Value} (h : Pst g b T cs w wi p B) (hB : B ≤ 300000000) :
    Calls Tryd.prog 16 #[.pointer (some ⟨g, 0, none⟩), .agg (gmV G Va Vt).toArray] wi fun e w' => e = .returned (.tuple #[]) ∧ Pst g b T cs w w' (p.days G.n) (B + 4000) := by
  refine (pbDays_any h.pb G Va Vt h.laid h.hg h.le h.lo hB).mono ?_
  rintro e w1 ⟨rfl, h1⟩
  exact ⟨rfl, h.next h1.pb h1.kb h1.le (by omega)⟩
theorem qTier (h : Pst g b T cs w wi p B) (t : Ti) (hB : B ≤ 300000000) :
    Calls Tryd.prog 19 #[.pointer (some ⟨g, 0, none⟩), .agg (encTi t).toArray] wi fun e w' => e = .returned (.tuple #[]) ∧ Pst g b T cs w w' (p.tier t) (B + 2000) := by
  refine (pbTier_any h.pb t h.laid h.hg h.le h.lo hB).mono ?_
  rintro e w1 ⟨rfl, h1⟩
  exact ⟨rfl, h.next h1.pb h1.kb h1.le (by omega)⟩
theorem qAddon (h : Pst g b T cs w wi p B) (a : Ad) (vf vs : Value) (hf : Kin g wi vf a.factors) (hs : Kin g wi vs a.serials) (hnl : a.name.size ≤ 1000000) (hfl : a.factors.length ≤ 1000000) (hsl : a.serials.length ≤ 1000000) (hB : B ≤ 300000000) :
    Calls Tryd.prog 18 #[.pointer (some ⟨g, 0, none⟩), .agg (encAd a vf vs).toArray] wi fun e w' => e = .returned (.tuple #[]) ∧ Pst g b T cs w w' (p.addon a) (B + 1002000) := by
  refine (pbAddon_any h.pb a vf vs hf hs hnl hfl hsl h.laid h.hg h.le h.lo hB).mono ?_
  rintro e w1 ⟨rfl, h1⟩
  exact ⟨rfl, h.next h1.pb h1.kb h1.le (by omega)⟩
end
/-- A game whose parts are not too long. -/
def Gm.little (G : Gm) : Prop := G.name.size ≤ 1000000 ∧ G.addons.length ≤ 1000000 ∧ G.tiers.length ≤ 1000000 ∧ ∀ a ∈ G.addons, a.name.size ≤ 1000000 ∧ a.factors.length ≤ 1000000 ∧ a.serials.length ≤ 1000000
theorem ints_kin {g : Nat} {w wi : World} {v : Value} {L : List Int} (h : IntsR w v L) (hB : ∀ w', KB g wi w' → Below w.heap.size w w') : Kin g wi v L := by
  obtain ⟨A, c, e, h⟩ := h
  exact ⟨A, c, e, fun w' k => h.below (hB w' k)⟩
theorem game_is (G : Gm) : Pr.game G = ((Pr.all Pr.tier (Pr.all Pr.addon ((((((⟨asc "game", false⟩ : Pr).nm G.name).add (asc " {
")).head G.n).days G.n).opts G.n) G.addons) G.tiers).add (asc "}
")).lim := rfl
set_option maxHeartbeats 8000000 in
theorem print_any (G : Gm) (Va Vt : Value) (w : World) (hW : Laid w) (hw9 : 5 ≤ w.heap.size) (hG : GmIn w Va Vt G) (hL : G.little) :
    Calls Tryd.prog 7 #[.agg (gmV G Va Vt).toArray] w fun e w' => e = .returned (.string (toBA (printG G))) ∧ Below w.heap.size w w' := by
  refine calls_W (l := [_]) Tryd.func7 rfl _ Tryd.ntmps7 (by simp) ?_
  obtain ⟨hnl, hal, htl, hadl⟩ := hL
  obtain ⟨⟨Aa, ca, Vs, rfl, hAa, hads⟩, At, ct, rfl, hAt⟩ := hG
  generalize hr : printG G = r
  unfold printG at hr
  rw [game_is] at hr
  have hst : Pr.Ok (((((⟨asc "game", false⟩ : Pr).nm G.name).add (asc " {\n")).head G.n).days G.n |>.opts G.n) :=
    ((((Pr.Step.nm _ G.name).trans (Pr.Step.head _ (asc " {\n") G.n)).trans (Pr.Step.daysI _ G.n)).trans (Pr.Step.opts _ G.n) (show Pr.Ok ⟨asc "game", false⟩ from fun _ => by decide)).1
  have hrow0 := Row.new w 25 (gmV G (.slice Aa G.addons.length ca) (.slice At G.tiers.length ct))
  have hb0 := below_alloc w (.cells (gmV G (.slice Aa G.addons.length ca) (.slice At G.tiers.length ct)).toArray 25)
  have hs0 := World.size_alloc w (.cells (gmV G (.slice Aa G.addons.length ca) (.slice At G.tiers.length ct)).toArray 25)
  refine W_piece fun K hK hX => ?_
  simp +contextual (maxSteps := 2000000) (disch := (first | omega | (simp only [SZ]; done) | (simp only [SZ]; omega) | (simp only [TS] at *; omega))) only [RZ, gval, gslot, fillL, ovw, numb, catL, ldN, agL, okC, oneC, init, Nat.reduceAdd, Nat.reduceMul, Nat.reduceSub, Nat.reduceEqDiff, Nat.reduceLT, ↓reduceIte, Int.reduceToNat, Int.reduceAdd, Int.reduceSub, Int.reduceMul, Int.reduceLT, Int.reduceLE, Int.reduceEq, Nat.reduceLeDiff]
  refine hK _ _ ?_
  clear hK hX K
  generalize w.alloc (.cells (gmV G (.slice Aa G.addons.length ca) (.slice At G.tiers.length ct)).toArray 25) = wb at hrow0 hb0 hs0 ⊢
  have hp0 : PbIn wb.heap.size (wb.alloc (.cells #[.pointer none, .slice none 0 0, .bool false] 52)) ⟨[], false⟩ :=
    ⟨none, none, 0, heap_alloc_new wb _, .inl rfl, ⟨rfl, .inl ⟨rfl, rfl⟩⟩, fun n hn => by cases hn⟩
  have h0 : Pst wb.heap.size w.heap.size 25 (gmV G (.slice Aa G.addons.length ca) (.slice At G.tiers.length ct)) (wb.alloc (.cells #[.pointer none, .slice none 0 0, .bool false] 52)) (wb.alloc (.cells #[.pointer none, .slice none 0 0, .bool false] 52)) ⟨[], false⟩ 32768 :=
    ⟨hp0, KB.refl _ _, hrow0.below (below_alloc wb _), (hW.below hb0 hW.size).below (below_alloc wb _) (by have := hW.size; omega), Nat.zero_le _, Nat.le_refl _, by omega, by omega, by decide⟩
  have hb1 : Below w.heap.size w (wb.alloc (.cells #[.pointer none, .slice none 0 0, .bool false] 52)) := hb0.trans ((below_alloc wb _).mono (by omega))
  refine W_piece fun K hK hX => ?_
  simp +contextual (maxSteps := 2000000) (disch := (first | omega | (simp only [SZ]; done) | (simp only [SZ]; omega) | (simp only [TS] at *; omega))) only [RZ, gval, gslot, fillL, ovw, numb, catL, ldN, agL, okC, oneC, init, Nat.reduceAdd, Nat.reduceMul, Nat.reduceSub, Nat.reduceEqDiff, Nat.reduceLT, ↓reduceIte, Int.reduceToNat, Int.reduceAdd, Int.reduceSub, Int.reduceMul, Int.reduceLT, Int.reduceLE, Int.reduceEq, Nat.reduceLeDiff]
  refine hK _ _ ?_
  clear hK hX K
  have hgw : w.heap.size < wb.heap.size := by omega
  generalize wb.alloc (.cells #[.pointer none, .slice none 0 0, .bool false] 52) = w0 at h0 hb1 ⊢
  clear hp0 hrow0 hb0 hs0
  generalize wb.heap.size = g at h0 hgw ⊢
  have hBw : ∀ wi, KB g w0 wi → Below w.heap.size w wi := fun wi k => hb1.trans (k.1.mono (Nat.le_of_lt hgw))
  generalize hgv : gmV G (.slice Aa G.addons.length ca) (.slice At G.tiers.length ct) = cs at h0
  generalize hbb : w.heap.size = b at h0
  have hld : ∀ {wi p B}, Pst g b 25 cs w0 wi p B → vLoad Tryd.prog 25 (.pointer (some ⟨b, 0, none⟩)) wi = .ok (.value (.agg (gmV G (.slice Aa G.addons.length ca) (.slice At G.tiers.length ct)).toArray)) wi := fun {wi p B} h =>
    vLoad_all (by kernel_rfl) (by rw [gmV_len]; kernel_rfl) (fun i v hv => by rw [Nat.zero_add]; exact h.cell i (by rw [← hgv]; exact hv))
  refine W_piece fun K hK hX => ?_
  simp +contextual (maxSteps := 2000000) (disch := (first | omega | (simp only [SZ]; done) | (simp only [SZ]; omega) | (simp only [TS] at *; omega))) only [RZ, gval, gslot, fillL, ovw, numb, catL, ldN, agL, okC, oneC, init, Nat.reduceAdd, Nat.reduceMul, Nat.reduceSub, Nat.reduceEqDiff, Nat.reduceLT, ↓reduceIte, Int.reduceToNat, Int.reduceAdd, Int.reduceSub, Int.reduceMul, Int.reduceLT, Int.reduceLE, Int.reduceEq, Nat.reduceLeDiff]
  refine (qStr h0 ⟨#[103, 97, 109, 101]⟩ (by decide) (by omega)).mono ?_
  rintro e w1 ⟨rfl, h1⟩
  refine ⟨_, rfl, ?_⟩
  rw [show bs ⟨#[103, 97, 109, 101]⟩ = asc "game" by decide +kernel] at h1
  try simp +contextual (maxSteps := 2000000) (disch := (first | omega | (simp only [SZ]; done) | (simp only [SZ]; omega) | (simp only [TS] at *; omega))) only [RZ, gval, gslot, fillL, ovw, numb, catL, ldN, agL, okC, oneC, init, Nat.reduceAdd, Nat.reduceMul, Nat.reduceSub, Nat.reduceEqDiff, Nat.reduceLT, ↓reduceIte, Int.reduceToNat, Int.reduceAdd, Int.reduceSub, Int.reduceMul, Int.reduceLT, Int.reduceLE, Int.reduceEq, Nat.reduceLeDiff]
  refine hK _ _ ?_
  clear hK hX K
  rw [show (⟨[], false⟩ : Pr).add (asc "game") = ⟨asc "game", false⟩ from rfl] at h1
  have d0 : w1.cell? ⟨b, 0, none⟩ = some (.string G.name) := h1.cell 0 (by rw [← hgv]; rfl)
  refine W_piece fun K hK hX => ?_
  simp +contextual (maxSteps := 2000000) (disch := (first | omega | (simp only [SZ]; done) | (simp only [SZ]; omega) | (simp only [TS] at *; omega))) only [RZ, gval, gslot, fillL, ovw, numb, catL, ldN, agL, okC, oneC, init, Nat.reduceAdd, Nat.reduceMul, Nat.reduceSub, Nat.reduceEqDiff, Nat.reduceLT, ↓reduceIte, Int.reduceToNat, Int.reduceAdd, Int.reduceSub, Int.reduceMul, Int.reduceLT, Int.reduceLE, Int.reduceEq, Nat.reduceLeDiff,  d0]
  refine (qName h1 G.name hnl (by omega)).mono ?_
  rintro e w2 ⟨rfl, h2⟩
  refine ⟨_, rfl, ?_⟩
  try simp +contextual (maxSteps := 2000000) (disch := (first | omega | (simp only [SZ]; done) | (simp only [SZ]; omega) | (simp only [TS] at *; omega))) only [RZ, gval, gslot, fillL, ovw, numb, catL, ldN, agL, okC, oneC, init, Nat.reduceAdd, Nat.reduceMul, Nat.reduceSub, Nat.reduceEqDiff, Nat.reduceLT, ↓reduceIte, Int.reduceToNat, Int.reduceAdd, Int.reduceSub, Int.reduceMul, Int.reduceLT, Int.reduceLE, Int.reduceEq, Nat.reduceLeDiff,  d0]
  refine hK _ _ ?_
  clear hK hX K
  refine W_piece fun K hK hX => ?_
  simp +contextual (maxSteps := 2000000) (disch := (first | omega | (simp only [SZ]; done) | (simp only [SZ]; omega) | (simp only [TS] at *; omega))) only [RZ, gval, gslot, fillL, ovw, numb, catL, ldN, agL, okC, oneC, init, Nat.reduceAdd, Nat.reduceMul, Nat.reduceSub, Nat.reduceEqDiff, Nat.reduceLT, ↓reduceIte, Int.reduceToNat, Int.reduceAdd, Int.reduceSub, Int.reduceMul, Int.reduceLT, Int.reduceLE, Int.reduceEq, Nat.reduceLeDiff]
  refine (qStr h2 ⟨#[32, 123, 10]⟩ (by decide) (by omega)).mono ?_
  rintro e w3 ⟨rfl, h3⟩
  refine ⟨_, rfl, ?_⟩
  rw [show bs ⟨#[32, 123, 10]⟩ = asc " {\n" by decide +kernel] at h3
  try simp +contextual (maxSteps := 2000000) (disch := (first | omega | (simp only [SZ]; done) | (simp only [SZ]; omega) | (simp only [TS] at *; omega))) only [RZ, gval, gslot, fillL, ovw, numb, catL, ldN, agL, okC, oneC, init, Nat.reduceAdd, Nat.reduceMul, Nat.reduceSub, Nat.reduceEqDiff, Nat.reduceLT, ↓reduceIte, Int.reduceToNat, Int.reduceAdd, Int.reduceSub, Int.reduceMul, Int.reduceLT, Int.reduceLE, Int.reduceEq, Nat.reduceLeDiff]
  refine hK _ _ ?_
  clear hK hX K
  have l3 := hld h3
  refine W_piece fun K hK hX => ?_
  simp +contextual (maxSteps := 2000000) (disch := (first | omega | (simp only [SZ]; done) | (simp only [SZ]; omega) | (simp only [TS] at *; omega))) only [RZ, gval, gslot, fillL, ovw, numb, catL, ldN, agL, okC, oneC, init, Nat.reduceAdd, Nat.reduceMul, Nat.reduceSub, Nat.reduceEqDiff, Nat.reduceLT, ↓reduceIte, Int.reduceToNat, Int.reduceAdd, Int.reduceSub, Int.reduceMul, Int.reduceLT, Int.reduceLE, Int.reduceEq, Nat.reduceLeDiff,  l3]
  refine (qHead (G := G) h3 (by omega)).mono ?_
  rintro e w4 ⟨rfl, h4⟩
  refine ⟨_, rfl, ?_⟩
  try simp +contextual (maxSteps := 2000000) (disch := (first | omega | (simp only [SZ]; done) | (simp only [SZ]; omega) | (simp only [TS] at *; omega))) only [RZ, gval, gslot, fillL, ovw, numb, catL, ldN, agL, okC, oneC, init, Nat.reduceAdd, Nat.reduceMul, Nat.reduceSub, Nat.reduceEqDiff, Nat.reduceLT, ↓reduceIte, Int.reduceToNat, Int.reduceAdd, Int.reduceSub, Int.reduceMul, Int.reduceLT, Int.reduceLE, Int.reduceEq, Nat.reduceLeDiff,  l3]
  refine hK _ _ ?_
  clear hK hX K
  have l4 := hld h4
  refine W_piece fun K hK hX => ?_
  simp +contextual (maxSteps := 2000000) (disch := (first | omega | (simp only [SZ]; done) | (simp only [SZ]; omega) | (simp only [TS] at *; omega))) only [RZ, gval, gslot, fillL, ovw, numb, catL, ldN, agL, okC, oneC, init, Nat.reduceAdd, Nat.reduceMul, Nat.reduceSub, Nat.reduceEqDiff, Nat.reduceLT, ↓reduceIte, Int.reduceToNat, Int.reduceAdd, Int.reduceSub, Int.reduceMul, Int.reduceLT, Int.reduceLE, Int.reduceEq, Nat.reduceLeDiff,  l4]
  refine (qDays (G := G) h4 (by omega)).mono ?_
  rintro e w5 ⟨rfl, h5⟩
  refine ⟨_, rfl, ?_⟩
  try simp +contextual (maxSteps := 2000000) (disch := (first | omega | (simp only [SZ]; done) | (simp only [SZ]; omega) | (simp only [TS] at *; omega))) only [RZ, gval, gslot, fillL, ovw, numb, catL, ldN, agL, okC, oneC, init, Nat.reduceAdd, Nat.reduceMul, Nat.reduceSub, Nat.reduceEqDiff, Nat.reduceLT, ↓reduceIte, Int.reduceToNat, Int.reduceAdd, Int.reduceSub, Int.reduceMul, Int.reduceLT, Int.reduceLE, Int.reduceEq, Nat.reduceLeDiff,  l4]
  refine hK _ _ ?_
  clear hK hX K
  have e11 : w5.cell? ⟨b, 12, none⟩ = some (.int .i64 (G.n 11)) := h5.cell 12 (by rw [← hgv]; rfl)
  refine W_piece fun K hK hX => ?_
  simp +contextual (maxSteps := 2000000) (disch := (first | omega | (simp only [SZ]; done) | (simp only [SZ]; omega) | (simp only [TS] at *; omega))) only [RZ, gval, gslot, fillL, ovw, numb, catL, ldN, agL, okC, oneC, init, Nat.reduceAdd, Nat.reduceMul, Nat.reduceSub, Nat.reduceEqDiff, Nat.reduceLT, ↓reduceIte, Int.reduceToNat, Int.reduceAdd, Int.reduceSub, Int.reduceMul, Int.reduceLT, Int.reduceLE, Int.reduceEq, Nat.reduceLeDiff,  e11]
  refine (qOpt h5 ⟨#[99, 108, 111, 115, 101]⟩ (G.n 11) 0 (by decide) (by omega)).mono ?_
  rintro e w6 ⟨rfl, h6⟩
  refine ⟨_, rfl, ?_⟩
  rw [show bs ⟨#[99, 108, 111, 115, 101]⟩ = asc "close" by decide +kernel] at h6
  try simp +contextual (maxSteps := 2000000) (disch := (first | omega | (simp only [SZ]; done) | (simp only [SZ]; omega) | (simp only [TS] at *; omega))) only [RZ, gval, gslot, fillL, ovw, numb, catL, ldN, agL, okC, oneC, init, Nat.reduceAdd, Nat.reduceMul, Nat.reduceSub, Nat.reduceEqDiff, Nat.reduceLT, ↓reduceIte, Int.reduceToNat, Int.reduceAdd, Int.reduceSub, Int.reduceMul, Int.reduceLT, Int.reduceLE, Int.reduceEq, Nat.reduceLeDiff,  e11]
  refine hK _ _ ?_
  clear hK hX K
  have e12 : w6.cell? ⟨b, 13, none⟩ = some (.int .i64 (G.n 12)) := h6.cell 13 (by rw [← hgv]; rfl)
  refine W_piece fun K hK hX => ?_
  simp +contextual (maxSteps := 2000000) (disch := (first | omega | (simp only [SZ]; done) | (simp only [SZ]; omega) | (simp only [TS] at *; omega))) only [RZ, gval, gslot, fillL, ovw, numb, catL, ldN, agL, okC, oneC, init, Nat.reduceAdd, Nat.reduceMul, Nat.reduceSub, Nat.reduceEqDiff, Nat.reduceLT, ↓reduceIte, Int.reduceToNat, Int.reduceAdd, Int.reduceSub, Int.reduceMul, Int.reduceLT, Int.reduceLE, Int.reduceEq, Nat.reduceLeDiff,  e12]
  refine (qOpt h6 ⟨#[99, 97, 110, 99, 101, 108]⟩ (G.n 12) 0 (by decide) (by omega)).mono ?_
  rintro e w7 ⟨rfl, h7⟩
  refine ⟨_, rfl, ?_⟩
  rw [show bs ⟨#[99, 97, 110, 99, 101, 108]⟩ = asc "cancel" by decide +kernel] at h7
  try simp +contextual (maxSteps := 2000000) (disch := (first | omega | (simp only [SZ]; done) | (simp only [SZ]; omega) | (simp only [TS] at *; omega))) only [RZ, gval, gslot, fillL, ovw, numb, catL, ldN, agL, okC, oneC, init, Nat.reduceAdd, Nat.reduceMul, Nat.reduceSub, Nat.reduceEqDiff, Nat.reduceLT, ↓reduceIte, Int.reduceToNat, Int.reduceAdd, Int.reduceSub, Int.reduceMul, Int.reduceLT, Int.reduceLE, Int.reduceEq, Nat.reduceLeDiff,  e12]
  refine hK _ _ ?_
  clear hK hX K
  have e13 : w7.cell? ⟨b, 14, none⟩ = some (.int .i64 (G.n 13)) := h7.cell 14 (by rw [← hgv]; rfl)
  refine W_piece fun K hK hX => ?_
  simp +contextual (maxSteps := 2000000) (disch := (first | omega | (simp only [SZ]; done) | (simp only [SZ]; omega) | (simp only [TS] at *; omega))) only [RZ, gval, gslot, fillL, ovw, numb, catL, ldN, agL, okC, oneC, init, Nat.reduceAdd, Nat.reduceMul, Nat.reduceSub, Nat.reduceEqDiff, Nat.reduceLT, ↓reduceIte, Int.reduceToNat, Int.reduceAdd, Int.reduceSub, Int.reduceMul, Int.reduceLT, Int.reduceLE, Int.reduceEq, Nat.reduceLeDiff,  e13]
  refine (qOpt h7 ⟨#[101, 120, 112, 105, 114, 121]⟩ (G.n 13) 0 (by decide) (by omega)).mono ?_
  rintro e w8 ⟨rfl, h8⟩
  refine ⟨_, rfl, ?_⟩
  rw [show bs ⟨#[101, 120, 112, 105, 114, 121]⟩ = asc "expiry" by decide +kernel] at h8
  try simp +contextual (maxSteps := 2000000) (disch := (first | omega | (simp only [SZ]; done) | (simp only [SZ]; omega) | (simp only [TS] at *; omega))) only [RZ, gval, gslot, fillL, ovw, numb, catL, ldN, agL, okC, oneC, init, Nat.reduceAdd, Nat.reduceMul, Nat.reduceSub, Nat.reduceEqDiff, Nat.reduceLT, ↓reduceIte, Int.reduceToNat, Int.reduceAdd, Int.reduceSub, Int.reduceMul, Int.reduceLT, Int.reduceLE, Int.reduceEq, Nat.reduceLeDiff,  e13]
  refine hK _ _ ?_
  clear hK hX K
  have e14 : w8.cell? ⟨b, 15, none⟩ = some (.int .i64 (G.n 14)) := h8.cell 15 (by rw [← hgv]; rfl)
  refine W_piece fun K hK hX => ?_
  simp +contextual (maxSteps := 2000000) (disch := (first | omega | (simp only [SZ]; done) | (simp only [SZ]; omega) | (simp only [TS] at *; omega))) only [RZ, gval, gslot, fillL, ovw, numb, catL, ldN, agL, okC, oneC, init, Nat.reduceAdd, Nat.reduceMul, Nat.reduceSub, Nat.reduceEqDiff, Nat.reduceLT, ↓reduceIte, Int.reduceToNat, Int.reduceAdd, Int.reduceSub, Int.reduceMul, Int.reduceLT, Int.reduceLE, Int.reduceEq, Nat.reduceLeDiff,  e14]
  refine (qOpt h8 ⟨#[112, 111, 111, 108]⟩ (G.n 14) 0 (by decide) (by omega)).mono ?_
  rintro e w9 ⟨rfl, h9⟩
  refine ⟨_, rfl, ?_⟩
  rw [show bs ⟨#[112, 111, 111, 108]⟩ = asc "pool" by decide +kernel] at h9
  try simp +contextual (maxSteps := 2000000) (disch := (first | omega | (simp only [SZ]; done) | (simp only [SZ]; omega) | (simp only [TS] at *; omega))) only [RZ, gval, gslot, fillL, ovw, numb, catL, ldN, agL, okC, oneC, init, Nat.reduceAdd, Nat.reduceMul, Nat.reduceSub, Nat.reduceEqDiff, Nat.reduceLT, ↓reduceIte, Int.reduceToNat, Int.reduceAdd, Int.reduceSub, Int.reduceMul, Int.reduceLT, Int.reduceLE, Int.reduceEq, Nat.reduceLeDiff,  e14]
  refine hK _ _ ?_
  clear hK hX K
  have e15 : w9.cell? ⟨b, 16, none⟩ = some (.int .i64 (G.n 15)) := h9.cell 16 (by rw [← hgv]; rfl)
  refine W_piece fun K hK hX => ?_
  simp +contextual (maxSteps := 2000000) (disch := (first | omega | (simp only [SZ]; done) | (simp only [SZ]; omega) | (simp only [TS] at *; omega))) only [RZ, gval, gslot, fillL, ovw, numb, catL, ldN, agL, okC, oneC, init, Nat.reduceAdd, Nat.reduceMul, Nat.reduceSub, Nat.reduceEqDiff, Nat.reduceLT, ↓reduceIte, Int.reduceToNat, Int.reduceAdd, Int.reduceSub, Int.reduceMul, Int.reduceLT, Int.reduceLE, Int.reduceEq, Nat.reduceLeDiff,  e15]
  refine (qOpt h9 ⟨#[114, 101, 115, 101, 114, 118, 101]⟩ (G.n 15) 0 (by decide) (by omega)).mono ?_
  rintro e w10 ⟨rfl, h10⟩
  refine ⟨_, rfl, ?_⟩
  rw [show bs ⟨#[114, 101, 115, 101, 114, 118, 101]⟩ = asc "reserve" by decide +kernel] at h10
  try simp +contextual (maxSteps := 2000000) (disch := (first | omega | (simp only [SZ]; done) | (simp only [SZ]; omega) | (simp only [TS] at *; omega))) only [RZ, gval, gslot, fillL, ovw, numb, catL, ldN, agL, okC, oneC, init, Nat.reduceAdd, Nat.reduceMul, Nat.reduceSub, Nat.reduceEqDiff, Nat.reduceLT, ↓reduceIte, Int.reduceToNat, Int.reduceAdd, Int.reduceSub, Int.reduceMul, Int.reduceLT, Int.reduceLE, Int.reduceEq, Nat.reduceLeDiff,  e15]
  refine hK _ _ ?_
  clear hK hX K
  have e16 : w10.cell? ⟨b, 17, none⟩ = some (.int .i64 (G.n 16)) := h10.cell 17 (by rw [← hgv]; rfl)
  refine W_piece fun K hK hX => ?_
  simp +contextual (maxSteps := 2000000) (disch := (first | omega | (simp only [SZ]; done) | (simp only [SZ]; omega) | (simp only [TS] at *; omega))) only [RZ, gval, gslot, fillL, ovw, numb, catL, ldN, agL, okC, oneC, init, Nat.reduceAdd, Nat.reduceMul, Nat.reduceSub, Nat.reduceEqDiff, Nat.reduceLT, ↓reduceIte, Int.reduceToNat, Int.reduceAdd, Int.reduceSub, Int.reduceMul, Int.reduceLT, Int.reduceLE, Int.reduceEq, Nat.reduceLeDiff,  e16]
  refine (qOpt h10 ⟨#[114, 111, 117, 110, 100]⟩ (G.n 16) 1 (by decide) (by omega)).mono ?_
  rintro e w11 ⟨rfl, h11⟩
  refine ⟨_, rfl, ?_⟩
  rw [show bs ⟨#[114, 111, 117, 110, 100]⟩ = asc "round" by decide +kernel] at h11
  try simp +contextual (maxSteps := 2000000) (disch := (first | omega | (simp only [SZ]; done) | (simp only [SZ]; omega) | (simp only [TS] at *; omega))) only [RZ, gval, gslot, fillL, ovw, numb, catL, ldN, agL, okC, oneC, init, Nat.reduceAdd, Nat.reduceMul, Nat.reduceSub, Nat.reduceEqDiff, Nat.reduceLT, ↓reduceIte, Int.reduceToNat, Int.reduceAdd, Int.reduceSub, Int.reduceMul, Int.reduceLT, Int.reduceLE, Int.reduceEq, Nat.reduceLeDiff,  e16]
  refine hK _ _ ?_
  clear hK hX K
  have e17 : w11.cell? ⟨b, 18, none⟩ = some (.int .i64 (G.n 17)) := h11.cell 18 (by rw [← hgv]; rfl)
  refine W_piece fun K hK hX => ?_
  simp +contextual (maxSteps := 2000000) (disch := (first | omega | (simp only [SZ]; done) | (simp only [SZ]; omega) | (simp only [TS] at *; omega))) only [RZ, gval, gslot, fillL, ovw, numb, catL, ldN, agL, okC, oneC, init, Nat.reduceAdd, Nat.reduceMul, Nat.reduceSub, Nat.reduceEqDiff, Nat.reduceLT, ↓reduceIte, Int.reduceToNat, Int.reduceAdd, Int.reduceSub, Int.reduceMul, Int.reduceLT, Int.reduceLE, Int.reduceEq, Nat.reduceLeDiff,  e17]
  refine (qOpt h11 ⟨#[99, 97, 112]⟩ (G.n 17) 0 (by decide) (by omega)).mono ?_
  rintro e w12 ⟨rfl, h12⟩
  refine ⟨_, rfl, ?_⟩
  rw [show bs ⟨#[99, 97, 112]⟩ = asc "cap" by decide +kernel] at h12
  try simp +contextual (maxSteps := 2000000) (disch := (first | omega | (simp only [SZ]; done) | (simp only [SZ]; omega) | (simp only [TS] at *; omega))) only [RZ, gval, gslot, fillL, ovw, numb, catL, ldN, agL, okC, oneC, init, Nat.reduceAdd, Nat.reduceMul, Nat.reduceSub, Nat.reduceEqDiff, Nat.reduceLT, ↓reduceIte, Int.reduceToNat, Int.reduceAdd, Int.reduceSub, Int.reduceMul, Int.reduceLT, Int.reduceLE, Int.reduceEq, Nat.reduceLeDiff,  e17]
  refine hK _ _ ?_
  clear hK hX K
  have e18 : w12.cell? ⟨b, 19, none⟩ = some (.int .i64 (G.n 18)) := h12.cell 19 (by rw [← hgv]; rfl)
  refine W_piece fun K hK hX => ?_
  simp +contextual (maxSteps := 2000000) (disch := (first | omega | (simp only [SZ]; done) | (simp only [SZ]; omega) | (simp only [TS] at *; omega))) only [RZ, gval, gslot, fillL, ovw, numb, catL, ldN, agL, okC, oneC, init, Nat.reduceAdd, Nat.reduceMul, Nat.reduceSub, Nat.reduceEqDiff, Nat.reduceLT, ↓reduceIte, Int.reduceToNat, Int.reduceAdd, Int.reduceSub, Int.reduceMul, Int.reduceLT, Int.reduceLE, Int.reduceEq, Nat.reduceLeDiff,  e18]
  refine (qOpt h12 ⟨#[114, 111, 108, 108, 115]⟩ (G.n 18) 0 (by decide) (by omega)).mono ?_
  rintro e w13 ⟨rfl, h13⟩
  refine ⟨_, rfl, ?_⟩
  rw [show bs ⟨#[114, 111, 108, 108, 115]⟩ = asc "rolls" by decide +kernel] at h13
  try simp +contextual (maxSteps := 2000000) (disch := (first | omega | (simp only [SZ]; done) | (simp only [SZ]; omega) | (simp only [TS] at *; omega))) only [RZ, gval, gslot, fillL, ovw, numb, catL, ldN, agL, okC, oneC, init, Nat.reduceAdd, Nat.reduceMul, Nat.reduceSub, Nat.reduceEqDiff, Nat.reduceLT, ↓reduceIte, Int.reduceToNat, Int.reduceAdd, Int.reduceSub, Int.reduceMul, Int.reduceLT, Int.reduceLE, Int.reduceEq, Nat.reduceLeDiff,  e18]
  refine hK _ _ ?_
  clear hK hX K
  have eo : (((((((((((((⟨asc "game", false⟩ : Pr).nm G.name).add (asc " {\n")).head G.n).days G.n).opt (asc "close") (G.n 11) 0).opt (asc "cancel") (G.n 12) 0).opt (asc "expiry") (G.n 13) 0).opt (asc "pool") (G.n 14) 0).opt (asc "reserve") (G.n 15) 0).opt (asc "round") (G.n 16) 1).opt (asc "cap") (G.n 17) 0).opt (asc "rolls") (G.n 18) 0)
      = (((((⟨asc "game", false⟩ : Pr).nm G.name).add (asc " {\n")).head G.n).days G.n).opts G.n := rfl
  rw [eo] at h13
  clear eo
  generalize (((((⟨asc "game", false⟩ : Pr).nm G.name).add (asc " {\n")).head G.n).days G.n).opts G.n = p0 at h13 hst hr
  have hn := h13.next (B' := 2100000) h13.pb (KB.refl _ _) (Nat.le_trans h13.le (by omega)) (by omega)
  clear h0 h1 h2 h3 h4 h5 h6 h7 h8 h9 h10 h11 h12 h13 d0 l3 l4 e11 e12 e13 e14 e15 e16 e17 e18
  generalize w13 = wn at hn ⊢
  refine W_cutS (fun σ wi => σ 1 = .pointer (some ⟨b, 0, none⟩) ∧ σ 3 = .pointer (some ⟨g, 0, none⟩) ∧ Pst g b 25 cs w0 wi (Pr.all Pr.addon p0 G.addons) 2100000) ?_ ?_
  rotate_left
  · refine W_piece fun K hK hX => ?_
    simp +contextual (maxSteps := 2000000) (disch := (first | omega | (simp only [SZ]; done) | (simp only [SZ]; omega) | (simp only [TS] at *; omega))) only [RZ, gval, gslot, fillL, ovw, numb, catL, ldN, agL, okC, oneC, init, Nat.reduceAdd, Nat.reduceMul, Nat.reduceSub, Nat.reduceEqDiff, Nat.reduceLT, ↓reduceIte, Int.reduceToNat, Int.reduceAdd, Int.reduceSub, Int.reduceMul, Int.reduceLT, Int.reduceLE, Int.reduceEq, Nat.reduceLeDiff]
    refine hK _ _ ?_
    clear hK hX K
    rw [W_block, W_loop]
    refine Raw_loop (fun σ wi => ∃ (k : Nat) (pk : Pr), k ≤ G.addons.length ∧ pk.Ok ∧ Pr.all Pr.addon pk (G.addons.drop k) = Pr.all Pr.addon p0 G.addons ∧ Pst g b 25 cs w0 wi pk 2100000 ∧ σ 1 = .pointer (some ⟨b, 0, none⟩) ∧ σ 3 = .pointer (some ⟨g, 0, none⟩) ∧ σ 4 = .int .i64 k) (fun σ _ => G.addons.length - (intOf (σ 4)).toNat) ?_ ?_
    · exact ⟨0, p0, Nat.zero_le _, hst, by rw [List.drop_zero], hn, rfl, rfl, rfl⟩
    clear hn
    rintro σ wi ⟨k, pk, hk, hok, hpk, h1, f1, f3, f4⟩ K hK
    have dA : wi.cell? ⟨b, 20, none⟩ = some (.slice Aa G.addons.length ca) := h1.cell 20 (by rw [← hgv]; rfl)
    have dB := h1.bad
    refine W_piece fun K2 hK2 hX2 => ?_
    refine W_piece fun K3 hK3 hX3 => ?_
    simp +contextual (maxSteps := 2000000) (disch := (first | omega | (simp only [SZ]; done) | (simp only [SZ]; omega) | (simp only [TS] at *; omega))) only [RZ, gval, gslot, fillL, ovw, numb, catL, ldN, agL, okC, oneC, init, Nat.reduceAdd, Nat.reduceMul, Nat.reduceSub, Nat.reduceEqDiff, Nat.reduceLT, ↓reduceIte, Int.reduceToNat, Int.reduceAdd, Int.reduceSub, Int.reduceMul, Int.reduceLT, Int.reduceLE, Int.reduceEq, Nat.reduceLeDiff,  f1, f3, f4, dA, dB]
    refine hK3 _ _ ?_
    clear hK3 hX3 K3
    by_cases hc : k < G.addons.length ∧ pk.bad = false
    · refine W_if_t (by show Value.bool (decide ((k : Int) < (G.addons.length : Int)) && !pk.bad) = .bool true; rw [hc.2, show decide ((k : Int) < (G.addons.length : Int)) = true by have := hc.1; simp; omega]; rfl) ?_
      rw [W_skip]
      refine hK2 _ _ ?_
      clear hK2 hX2 K2
      obtain ⟨hkl, hbf⟩ := hc
      obtain ⟨a, ha⟩ : ∃ a, G.addons[k]? = some a := ⟨_, List.getElem?_eq_getElem hkl⟩
      obtain ⟨cv1, hcv⟩ : ∃ c, Vs[k]? = some c := ⟨_, List.getElem?_eq_getElem (by rw [hads.1]; exact hkl)⟩
      obtain ⟨vf, vs, rfl, hvf, hvs⟩ := hads.2 k _ a hcv ha
      have hbi : Below w.heap.size w wi := hBw wi h1.kb
      obtain ⟨b2, o2, rfl, hb2, hcell⟩ := (hAa.below hbi) (by rw [hads.1]; omega)
      have hla : vLoad Tryd.prog 43 (.pointer (some ⟨b2, o2 + k * 6, none⟩)) wi = .ok (.value (.agg (encAd a vf vs).toArray)) wi := vLoad_all (by kernel_rfl) (by show _ = some 6; kernel_rfl) (fun i v hv => hcell k _ hcv i v hv)
      have hdk : G.addons.drop k = a :: G.addons.drop (k + 1) := by
        rw [List.drop_eq_getElem_cons hkl]
        congr 1
        exact (List.getElem?_eq_some_iff.1 ha).2
      rw [hdk, all_cons, if_neg (by rw [hbf]; simp)] at hpk
      obtain ⟨m1, m2, m3⟩ := hadl a (List.mem_of_getElem? ha)
      have hKk : ∀ w', KB g wi w' → Below w.heap.size w w' := fun w' k' => hBw w' (h1.kb.trans k')
      refine W_piece fun K1 hK1 hX1 => ?_
      rw [W_block]
      simp +contextual (maxSteps := 2000000) (disch := (first | omega | (simp only [SZ]; done) | (simp only [SZ]; omega) | (simp only [TS] at *; omega))) only [RZ, gval, gslot, fillL, ovw, numb, catL, ldN, agL, okC, oneC, init, Nat.reduceAdd, Nat.reduceMul, Nat.reduceSub, Nat.reduceEqDiff, Nat.reduceLT, ↓reduceIte, Int.reduceToNat, Int.reduceAdd, Int.reduceSub, Int.reduceMul, Int.reduceLT, Int.reduceLE, Int.reduceEq, Nat.reduceLeDiff,  f1, f3, f4, dA, hla]
      refine (qAddon (h1.short hok hbf) a vf vs (ints_kin hvf hKk) (ints_kin hvs hKk) m1 m2 m3 (by omega)).mono ?_
      rintro e w2 ⟨rfl, h2⟩
      refine ⟨_, rfl, ?_⟩
      try simp +contextual (maxSteps := 2000000) (disch := (first | omega | (simp only [SZ]; done) | (simp only [SZ]; omega) | (simp only [TS] at *; omega))) only [RZ, gval, gslot, fillL, ovw, numb, catL, ldN, agL, okC, oneC, init, Nat.reduceAdd, Nat.reduceMul, Nat.reduceSub, Nat.reduceEqDiff, Nat.reduceLT, ↓reduceIte, Int.reduceToNat, Int.reduceAdd, Int.reduceSub, Int.reduceMul, Int.reduceLT, Int.reduceLE, Int.reduceEq, Nat.reduceLeDiff,  f1, f3, f4]
      refine hK1 _ _ ?_
      clear hK1 hX1 K1
      simp +contextual (maxSteps := 2000000) (disch := (first | omega | (simp only [SZ]; done) | (simp only [SZ]; omega) | (simp only [TS] at *; omega))) only [RZ, gval, gslot, fillL, ovw, numb, catL, ldN, agL, okC, oneC, init, Nat.reduceAdd, Nat.reduceMul, Nat.reduceSub, Nat.reduceEqDiff, Nat.reduceLT, ↓reduceIte, Int.reduceToNat, Int.reduceAdd, Int.reduceSub, Int.reduceMul, Int.reduceLT, Int.reduceLE, Int.reduceEq, Nat.reduceLeDiff,  f1, f3, f4]
      refine hK _ _ ⟨k + 1, pk.addon a, by omega, (Pr.Step.addon pk a hok).1, hpk, h2.next h2.pb (KB.refl _ _) (Nat.le_trans h2.le (by omega)) (by omega), ?_⟩ ?_
      · simp +contextual (maxSteps := 2000000) (disch := (first | omega | (simp only [SZ]; done) | (simp only [SZ]; omega) | (simp only [TS] at *; omega))) only [RZ, gval, gslot, fillL, ovw, numb, catL, ldN, agL, okC, oneC, init, Nat.reduceAdd, Nat.reduceMul, Nat.reduceSub, Nat.reduceEqDiff, Nat.reduceLT, ↓reduceIte, Int.reduceToNat, Int.reduceAdd, Int.reduceSub, Int.reduceMul, Int.reduceLT, Int.reduceLE, Int.reduceEq, Nat.reduceLeDiff,  f1, f3, f4]
      · simp +contextual (maxSteps := 2000000) (disch := (first | omega | (simp only [SZ]; done) | (simp only [SZ]; omega) | (simp only [TS] at *; omega))) only [RZ, gval, gslot, fillL, ovw, numb, catL, ldN, agL, okC, oneC, init, Nat.reduceAdd, Nat.reduceMul, Nat.reduceSub, Nat.reduceEqDiff, Nat.reduceLT, ↓reduceIte, Int.reduceToNat, Int.reduceAdd, Int.reduceSub, Int.reduceMul, Int.reduceLT, Int.reduceLE, Int.reduceEq, Nat.reduceLeDiff,  intOf, f4]
        omega
    · refine W_if_f (by show Value.bool (decide ((k : Int) < (G.addons.length : Int)) && !pk.bad) = .bool false; rw [show (decide ((k : Int) < (G.addons.length : Int)) && !pk.bad) = false by (rw [Bool.eq_false_iff]; intro e; simp only [Bool.and_eq_true, decide_eq_true_eq, Bool.not_eq_true'] at e; exact hc ⟨by omega, e.2⟩)]) ?_
      have hpk2 : pk = Pr.all Pr.addon p0 G.addons := by
        by_cases hkl : k < G.addons.length
        · have hbt : pk.bad = true := by cases e : pk.bad with | true => rfl | false => exact absurd ⟨hkl, e⟩ hc
          rw [all_bad _ _ _ hbt] at hpk
          exact hpk
        · rw [List.drop_eq_nil_of_le (by omega)] at hpk
          exact hpk
      rw [W_exit]
      refine hX2 _ _ _ (fun h => by cases h) ?_
      rw [hpk2] at h1
      simp +contextual (maxSteps := 2000000) (disch := (first | omega | (simp only [SZ]; done) | (simp only [SZ]; omega) | (simp only [TS] at *; omega))) only [RZ, gval, gslot, fillL, ovw, numb, catL, ldN, agL, okC, oneC, init, Nat.reduceAdd, Nat.reduceMul, Nat.reduceSub, Nat.reduceEqDiff, Nat.reduceLT, ↓reduceIte, Int.reduceToNat, Int.reduceAdd, Int.reduceSub, Int.reduceMul, Int.reduceLT, Int.reduceLE, Int.reduceEq, Nat.reduceLeDiff,  f1, f3, f4]
      exact h1
  clear hn
  have hst2 := ((Pr.Step.all (fun p a => Pr.Step.addon p a) G.addons p0) hst).1
  generalize Pr.all Pr.addon p0 G.addons = p1 at hr hst2 ⊢
  rintro σ wn ⟨f1, f3, hn⟩
  refine W_cutS (fun σ wi => σ 1 = .pointer (some ⟨b, 0, none⟩) ∧ σ 3 = .pointer (some ⟨g, 0, none⟩) ∧ Pst g b 25 cs w0 wi (Pr.all Pr.tier p1 G.tiers) 2100000) ?_ ?_
  rotate_left
  · refine W_piece fun K hK hX => ?_
    simp +contextual (maxSteps := 2000000) (disch := (first | omega | (simp only [SZ]; done) | (simp only [SZ]; omega) | (simp only [TS] at *; omega))) only [RZ, gval, gslot, fillL, ovw, numb, catL, ldN, agL, okC, oneC, init, Nat.reduceAdd, Nat.reduceMul, Nat.reduceSub, Nat.reduceEqDiff, Nat.reduceLT, ↓reduceIte, Int.reduceToNat, Int.reduceAdd, Int.reduceSub, Int.reduceMul, Int.reduceLT, Int.reduceLE, Int.reduceEq, Nat.reduceLeDiff]
    refine hK _ _ ?_
    clear hK hX K
    rw [W_block, W_loop]
    refine Raw_loop (fun σ wi => ∃ (k : Nat) (pk : Pr), k ≤ G.tiers.length ∧ pk.Ok ∧ Pr.all Pr.tier pk (G.tiers.drop k) = Pr.all Pr.tier p1 G.tiers ∧ Pst g b 25 cs w0 wi pk 2100000 ∧ σ 1 = .pointer (some ⟨b, 0, none⟩) ∧ σ 3 = .pointer (some ⟨g, 0, none⟩) ∧ σ 5 = .int .i64 k) (fun σ _ => G.tiers.length - (intOf (σ 5)).toNat) ?_ ?_
    · refine ⟨0, p1, Nat.zero_le _, hst2, by rw [List.drop_zero], hn, ?_⟩
      simp +contextual (maxSteps := 2000000) (disch := (first | omega | (simp only [SZ]; done) | (simp only [SZ]; omega) | (simp only [TS] at *; omega))) only [RZ, gval, gslot, fillL, ovw, numb, catL, ldN, agL, okC, oneC, init, Nat.reduceAdd, Nat.reduceMul, Nat.reduceSub, Nat.reduceEqDiff, Nat.reduceLT, ↓reduceIte, Int.reduceToNat, Int.reduceAdd, Int.reduceSub, Int.reduceMul, Int.reduceLT, Int.reduceLE, Int.reduceEq, Nat.reduceLeDiff,  f1, f3]
      rfl
    clear hn f1 f3
    rintro σ wi ⟨k, pk, hk, hok, hpk, h1, f1, f3, f5⟩ K hK
    have dA : wi.cell? ⟨b, 21, none⟩ = some (.slice At G.tiers.length ct) := h1.cell 21 (by rw [← hgv]; rfl)
    have dB := h1.bad
    refine W_piece fun K2 hK2 hX2 => ?_
    refine W_piece fun K3 hK3 hX3 => ?_
    simp +contextual (maxSteps := 2000000) (disch := (first | omega | (simp only [SZ]; done) | (simp only [SZ]; omega) | (simp only [TS] at *; omega))) only [RZ, gval, gslot, fillL, ovw, numb, catL, ldN, agL, okC, oneC, init, Nat.reduceAdd, Nat.reduceMul, Nat.reduceSub, Nat.reduceEqDiff, Nat.reduceLT, ↓reduceIte, Int.reduceToNat, Int.reduceAdd, Int.reduceSub, Int.reduceMul, Int.reduceLT, Int.reduceLE, Int.reduceEq, Nat.reduceLeDiff,  f1, f3, f5, dA, dB]
    refine hK3 _ _ ?_
    clear hK3 hX3 K3
    by_cases hc : k < G.tiers.length ∧ pk.bad = false
    · refine W_if_t (by show Value.bool (decide ((k : Int) < (G.tiers.length : Int)) && !pk.bad) = .bool true; rw [hc.2, show decide ((k : Int) < (G.tiers.length : Int)) = true by have := hc.1; simp; omega]; rfl) ?_
      rw [W_skip]
      refine hK2 _ _ ?_
      clear hK2 hX2 K2
      obtain ⟨hkl, hbf⟩ := hc
      obtain ⟨t, ht⟩ : ∃ t, G.tiers[k]? = some t := ⟨_, List.getElem?_eq_getElem hkl⟩
      have hbi : Below w.heap.size w wi := hBw wi h1.kb
      obtain ⟨b2, o2, rfl, hb2, hcell⟩ := (hAt.below hbi).at_ (enc := encTi) ht
      have hla : vLoad Tryd.prog 45 (.pointer (some ⟨b2, o2 + k * 6, none⟩)) wi = .ok (.value (.agg (encTi t).toArray)) wi := vLoad_all (by kernel_rfl) (by show _ = some 6; kernel_rfl) (fun i v hv => hcell i v hv)
      have hdk : G.tiers.drop k = t :: G.tiers.drop (k + 1) := by
        rw [List.drop_eq_getElem_cons hkl]
        congr 1
        exact (List.getElem?_eq_some_iff.1 ht).2
      rw [hdk, all_cons, if_neg (by rw [hbf]; simp)] at hpk
      refine W_piece fun K1 hK1 hX1 => ?_
      rw [W_block]
      simp +contextual (maxSteps := 2000000) (disch := (first | omega | (simp only [SZ]; done) | (simp only [SZ]; omega) | (simp only [TS] at *; omega))) only [RZ, gval, gslot, fillL, ovw, numb, catL, ldN, agL, okC, oneC, init, Nat.reduceAdd, Nat.reduceMul, Nat.reduceSub, Nat.reduceEqDiff, Nat.reduceLT, ↓reduceIte, Int.reduceToNat, Int.reduceAdd, Int.reduceSub, Int.reduceMul, Int.reduceLT, Int.reduceLE, Int.reduceEq, Nat.reduceLeDiff,  f1, f3, f5, dA, hla]
      refine (qTier (h1.short hok hbf) t (by omega)).mono ?_
      rintro e w2 ⟨rfl, h2⟩
      refine ⟨_, rfl, ?_⟩
      try simp +contextual (maxSteps := 2000000) (disch := (first | omega | (simp only [SZ]; done) | (simp only [SZ]; omega) | (simp only [TS] at *; omega))) only [RZ, gval, gslot, fillL, ovw, numb, catL, ldN, agL, okC, oneC, init, Nat.reduceAdd, Nat.reduceMul, Nat.reduceSub, Nat.reduceEqDiff, Nat.reduceLT, ↓reduceIte, Int.reduceToNat, Int.reduceAdd, Int.reduceSub, Int.reduceMul, Int.reduceLT, Int.reduceLE, Int.reduceEq, Nat.reduceLeDiff,  f1, f3, f5]
      refine hK1 _ _ ?_
      clear hK1 hX1 K1
      simp +contextual (maxSteps := 2000000) (disch := (first | omega | (simp only [SZ]; done) | (simp only [SZ]; omega) | (simp only [TS] at *; omega))) only [RZ, gval, gslot, fillL, ovw, numb, catL, ldN, agL, okC, oneC, init, Nat.reduceAdd, Nat.reduceMul, Nat.reduceSub, Nat.reduceEqDiff, Nat.reduceLT, ↓reduceIte, Int.reduceToNat, Int.reduceAdd, Int.reduceSub, Int.reduceMul, Int.reduceLT, Int.reduceLE, Int.reduceEq, Nat.reduceLeDiff,  f1, f3, f5]
      refine hK _ _ ⟨k + 1, pk.tier t, by omega, (Pr.Step.tier pk t hok).1, hpk, h2.next h2.pb (KB.refl _ _) (Nat.le_trans h2.le (by omega)) (by omega), ?_⟩ ?_
      · simp +contextual (maxSteps := 2000000) (disch := (first | omega | (simp only [SZ]; done) | (simp only [SZ]; omega) | (simp only [TS] at *; omega))) only [RZ, gval, gslot, fillL, ovw, numb, catL, ldN, agL, okC, oneC, init, Nat.reduceAdd, Nat.reduceMul, Nat.reduceSub, Nat.reduceEqDiff, Nat.reduceLT, ↓reduceIte, Int.reduceToNat, Int.reduceAdd, Int.reduceSub, Int.reduceMul, Int.reduceLT, Int.reduceLE, Int.reduceEq, Nat.reduceLeDiff,  f1, f3, f5]
      · simp +contextual (maxSteps := 2000000) (disch := (first | omega | (simp only [SZ]; done) | (simp only [SZ]; omega) | (simp only [TS] at *; omega))) only [RZ, gval, gslot, fillL, ovw, numb, catL, ldN, agL, okC, oneC, init, Nat.reduceAdd, Nat.reduceMul, Nat.reduceSub, Nat.reduceEqDiff, Nat.reduceLT, ↓reduceIte, Int.reduceToNat, Int.reduceAdd, Int.reduceSub, Int.reduceMul, Int.reduceLT, Int.reduceLE, Int.reduceEq, Nat.reduceLeDiff,  intOf, f5]
        omega
    · refine W_if_f (by show Value.bool (decide ((k : Int) < (G.tiers.length : Int)) && !pk.bad) = .bool false; rw [show (decide ((k : Int) < (G.tiers.length : Int)) && !pk.bad) = false by (rw [Bool.eq_false_iff]; intro e; simp only [Bool.and_eq_true, decide_eq_true_eq, Bool.not_eq_true'] at e; exact hc ⟨by omega, e.2⟩)]) ?_
      have hpk2 : pk = Pr.all Pr.tier p1 G.tiers := by
        by_cases hkl : k < G.tiers.length
        · have hbt : pk.bad = true := by cases e : pk.bad with | true => rfl | false => exact absurd ⟨hkl, e⟩ hc
          rw [all_bad _ _ _ hbt] at hpk
          exact hpk
        · rw [List.drop_eq_nil_of_le (by omega)] at hpk
          exact hpk
      rw [W_exit]
      refine hX2 _ _ _ (fun h => by cases h) ?_
      rw [hpk2] at h1
      simp +contextual (maxSteps := 2000000) (disch := (first | omega | (simp only [SZ]; done) | (simp only [SZ]; omega) | (simp only [TS] at *; omega))) only [RZ, gval, gslot, fillL, ovw, numb, catL, ldN, agL, okC, oneC, init, Nat.reduceAdd, Nat.reduceMul, Nat.reduceSub, Nat.reduceEqDiff, Nat.reduceLT, ↓reduceIte, Int.reduceToNat, Int.reduceAdd, Int.reduceSub, Int.reduceMul, Int.reduceLT, Int.reduceLE, Int.reduceEq, Nat.reduceLeDiff,  f1, f3, f5]
      exact h1
  clear hn f1 f3
  generalize Pr.all Pr.tier p1 G.tiers = p2 at hr ⊢
  rintro σ w1 ⟨f1, f3, h1⟩
  refine W_piece fun K hK hX => ?_
  simp +contextual (maxSteps := 2000000) (disch := (first | omega | (simp only [SZ]; done) | (simp only [SZ]; omega) | (simp only [TS] at *; omega))) only [RZ, gval, gslot, fillL, ovw, numb, catL, ldN, agL, okC, oneC, init, Nat.reduceAdd, Nat.reduceMul, Nat.reduceSub, Nat.reduceEqDiff, Nat.reduceLT, ↓reduceIte, Int.reduceToNat, Int.reduceAdd, Int.reduceSub, Int.reduceMul, Int.reduceLT, Int.reduceLE, Int.reduceEq, Nat.reduceLeDiff,  f1, f3]
  refine (qStr h1 ⟨#[125, 10]⟩ (by decide) (by omega)).mono ?_
  rintro e w2 ⟨rfl, h2⟩
  refine ⟨_, rfl, ?_⟩
  rw [show bs ⟨#[125, 10]⟩ = asc "}\n" by decide +kernel] at h2
  try simp +contextual (maxSteps := 2000000) (disch := (first | omega | (simp only [SZ]; done) | (simp only [SZ]; omega) | (simp only [TS] at *; omega))) only [RZ, gval, gslot, fillL, ovw, numb, catL, ldN, agL, okC, oneC, init, Nat.reduceAdd, Nat.reduceMul, Nat.reduceSub, Nat.reduceEqDiff, Nat.reduceLT, ↓reduceIte, Int.reduceToNat, Int.reduceAdd, Int.reduceSub, Int.reduceMul, Int.reduceLT, Int.reduceLE, Int.reduceEq, Nat.reduceLeDiff,  f1, f3]
  refine hK _ _ ?_
  clear hK hX K
  have hne : (p2.add (asc "}\n")).X ≠ [] := by
    unfold Pr.add
    intro e
    have := congrArg List.length e
    rw [List.length_append] at this
    simp at this
    exact absurd this.2 (by decide +kernel)
  have hd : decide (((p2.add (asc "}\n")).X.length : Int) ≤ 32768) = decide ((p2.add (asc "}\n")).X.length ≤ 32768) := by
    have : (((p2.add (asc "}\n")).X.length : Int) ≤ 32768) = ((p2.add (asc "}\n")).X.length ≤ 32768) := by apply propext; omega
    simp only [this]
  have hrl : (p2.add (asc "}\n")).lim = (p2.add (asc "}\n")).req (decide ((p2.add (asc "}\n")).X.length ≤ 32768)) := rfl
  rw [hrl] at hr
  generalize p2.add (asc "}\n") = p3 at h2 hne hd hr
  refine W_piece fun K hK hX => ?_
  simp +contextual (maxSteps := 2000000) (disch := (first | omega | (simp only [SZ]; done) | (simp only [SZ]; omega) | (simp only [TS] at *; omega))) only [RZ, gval, gslot, fillL, ovw, numb, catL, ldN, agL, okC, oneC, init, Nat.reduceAdd, Nat.reduceMul, Nat.reduceSub, Nat.reduceEqDiff, Nat.reduceLT, ↓reduceIte, Int.reduceToNat, Int.reduceAdd, Int.reduceSub, Int.reduceMul, Int.reduceLT, Int.reduceLE, Int.reduceEq, Nat.reduceLeDiff,  f1, f3]
  refine (pbLen_any h2.pb).mono ?_
  rintro e w3 ⟨rfl, rfl⟩
  refine ⟨_, rfl, ?_⟩
  try simp +contextual (maxSteps := 2000000) (disch := (first | omega | (simp only [SZ]; done) | (simp only [SZ]; omega) | (simp only [TS] at *; omega))) only [RZ, gval, gslot, fillL, ovw, numb, catL, ldN, agL, okC, oneC, init, Nat.reduceAdd, Nat.reduceMul, Nat.reduceSub, Nat.reduceEqDiff, Nat.reduceLT, ↓reduceIte, Int.reduceToNat, Int.reduceAdd, Int.reduceSub, Int.reduceMul, Int.reduceLT, Int.reduceLE, Int.reduceEq, Nat.reduceLeDiff,  f1, f3]
  rw [hd]
  refine (qReq h2 _).mono ?_
  rintro e w3 ⟨rfl, h3⟩
  refine ⟨_, rfl, ?_⟩
  try simp +contextual (maxSteps := 2000000) (disch := (first | omega | (simp only [SZ]; done) | (simp only [SZ]; omega) | (simp only [TS] at *; omega))) only [RZ, gval, gslot, fillL, ovw, numb, catL, ldN, agL, okC, oneC, init, Nat.reduceAdd, Nat.reduceMul, Nat.reduceSub, Nat.reduceEqDiff, Nat.reduceLT, ↓reduceIte, Int.reduceToNat, Int.reduceAdd, Int.reduceSub, Int.reduceMul, Int.reduceLT, Int.reduceLE, Int.reduceEq, Nat.reduceLeDiff,  f1, f3]
  refine hK _ _ ?_
  clear hK hX K
  have hx3 : (p3.req (decide (p3.X.length ≤ 32768))).X ≠ [] := hne
  generalize p3.req (decide (p3.X.length ≤ 32768)) = p4 at hr h3 hx3
  have dB := h3.bad
  refine W_piece fun K hK hX => ?_
  refine W_piece fun K2 hK2 hX2 => ?_
  simp +contextual (maxSteps := 2000000) (disch := (first | omega | (simp only [SZ]; done) | (simp only [SZ]; omega) | (simp only [TS] at *; omega))) only [RZ, gval, gslot, fillL, ovw, numb, catL, ldN, agL, okC, oneC, init, Nat.reduceAdd, Nat.reduceMul, Nat.reduceSub, Nat.reduceEqDiff, Nat.reduceLT, ↓reduceIte, Int.reduceToNat, Int.reduceAdd, Int.reduceSub, Int.reduceMul, Int.reduceLT, Int.reduceLE, Int.reduceEq, Nat.reduceLeDiff,  f1, f3, dB]
  refine hK2 _ _ ?_
  clear hK2 hX2 K2
  have hb3 := hBw _ h3.kb
  rw [hbb] at hb3
  cases hbd : p4.bad with
  | true =>
    rw [hbd, if_pos rfl] at hr
    subst hr
    refine W_if_t rfl ?_
    refine W_piece fun K2 hK2 hX2 => ?_
    simp +contextual (maxSteps := 2000000) (disch := (first | omega | (simp only [SZ]; done) | (simp only [SZ]; omega) | (simp only [TS] at *; omega))) only [RZ, gval, gslot, fillL, ovw, numb, catL, ldN, agL, okC, oneC, init, Nat.reduceAdd, Nat.reduceMul, Nat.reduceSub, Nat.reduceEqDiff, Nat.reduceLT, ↓reduceIte, Int.reduceToNat, Int.reduceAdd, Int.reduceSub, Int.reduceMul, Int.reduceLT, Int.reduceLE, Int.reduceEq, Nat.reduceLeDiff]
    refine hK2 _ _ ?_
    clear hK2 hX2 K2
    rw [W_ret]
    refine hX _ _ _ (fun h => by cases h) ?_
    simp +contextual (maxSteps := 2000000) (disch := (first | omega | (simp only [SZ]; done) | (simp only [SZ]; omega) | (simp only [TS] at *; omega))) only [RZ, gval, gslot, fillL, ovw, numb, catL, ldN, agL, okC, oneC, init, Nat.reduceAdd, Nat.reduceMul, Nat.reduceSub, Nat.reduceEqDiff, Nat.reduceLT, ↓reduceIte, Int.reduceToNat, Int.reduceAdd, Int.reduceSub, Int.reduceMul, Int.reduceLT, Int.reduceLE, Int.reduceEq, Nat.reduceLeDiff]
    exact ⟨rfl, hb3⟩
  | false =>
    rw [hbd, if_neg (by simp)] at hr
    subst hr
    refine W_if_f rfl ?_
    rw [W_skip]
    refine hK _ _ ?_
    clear hK hX K
    have hl3 := h3.le
    refine W_piece fun K hK hX => ?_
    simp +contextual (maxSteps := 2000000) (disch := (first | omega | (simp only [SZ]; done) | (simp only [SZ]; omega) | (simp only [TS] at *; omega))) only [RZ, gval, gslot, fillL, ovw, numb, catL, ldN, agL, okC, oneC, init, Nat.reduceAdd, Nat.reduceMul, Nat.reduceSub, Nat.reduceEqDiff, Nat.reduceLT, ↓reduceIte, Int.reduceToNat, Int.reduceAdd, Int.reduceSub, Int.reduceMul, Int.reduceLT, Int.reduceLE, Int.reduceEq, Nat.reduceLeDiff,  f1, f3]
    refine (pbString_any h3.pb hx3 (by omega)).mono ?_
    rintro e w4 ⟨rfl, h4⟩
    refine ⟨_, rfl, ?_⟩
    try simp +contextual (maxSteps := 2000000) (disch := (first | omega | (simp only [SZ]; done) | (simp only [SZ]; omega) | (simp only [TS] at *; omega))) only [RZ, gval, gslot, fillL, ovw, numb, catL, ldN, agL, okC, oneC, init, Nat.reduceAdd, Nat.reduceMul, Nat.reduceSub, Nat.reduceEqDiff, Nat.reduceLT, ↓reduceIte, Int.reduceToNat, Int.reduceAdd, Int.reduceSub, Int.reduceMul, Int.reduceLT, Int.reduceLE, Int.reduceEq, Nat.reduceLeDiff,  f1, f3]
    refine hK _ _ ?_
    clear hK hX K
    simp +contextual (maxSteps := 2000000) (disch := (first | omega | (simp only [SZ]; done) | (simp only [SZ]; omega) | (simp only [TS] at *; omega))) only [RZ, gval, gslot, fillL, ovw, numb, catL, ldN, agL, okC, oneC, init, Nat.reduceAdd, Nat.reduceMul, Nat.reduceSub, Nat.reduceEqDiff, Nat.reduceLT, ↓reduceIte, Int.reduceToNat, Int.reduceAdd, Int.reduceSub, Int.reduceMul, Int.reduceLT, Int.reduceLE, Int.reduceEq, Nat.reduceLeDiff]
    exact hb3.trans (h4.mono (by omega))
end Go.Proofs.YtbdkggnajipdhaaDoor
