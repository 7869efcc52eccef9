/- Texts laid one behind the other: PbI, PaL, RwA, RwB. Each says at its head what it proves. -/
import Derived.Test.YtbdkggnajipdhaaGreatDoorRtTwZ12
import Derived.ChangeKeysEq
set_option linter.unusedSimpArgs false
/- Walk: ruletext.Print. -/
namespace Go.Proofs.YtbdkggnajipdhaaGreatDoor
open Nat (reduceAdd reduceMul reduceSub reduceEqDiff reduceLT reduceLeDiff)
open Go.RowKit
set_option maxRecDepth 100000
theorem vLoad_all {P : Program} {T : TypeId} {w : World} {b o : Nat} {cs : List Value} (h1 : oneB P T = false) (h2 : aggN P T = some cs.length) (h : ∀ i v, cs[i]? = some v → w.cell? ⟨b, o + i, none⟩ = some v) :
    vLoad P T (.pointer (some ⟨b, o, none⟩)) w = .ok (.value (.agg cs.toArray)) w := by
  rw [vLoad_at, h1, h2, ldT_agg, ldN_of cs o h]
  rfl
theorem gmV_len (G : Gm) (Va Vt : Value) : (gmV G Va Vt).length = 22 := rfl
theorem all_cons {α : Type} (f : Pr → α → Pr) (p : Pr) (a : α) (r : List α) : Pr.all f p (a :: r) = if p.bad then p else Pr.all f (f p a) r := rfl
theorem all_bad {α : Type} (f : Pr → α → Pr) (p : Pr) (l : List α) (h : p.bad = true) : Pr.all f p l = p := by
  cases l with
  | nil => rfl
  | cons a r => rw [all_cons, if_pos h]
section
variable {g b B : Nat} {T : TypeId} {cs : List Value} {w wi : World} {p : Pr}
/-- Where the printer is not bad, its text is short. -/
theorem Pst.short (h : Pst g b T cs w wi p B) (ho : p.Ok) (hb : p.bad = false) : Pst g b T cs w wi p 32768 := ⟨h.pb, h.kb, h.row, h.laid, ho hb, Nat.le_refl _, h.hg, h.ne, h.nt⟩
theorem qHead {G : Gm} {Va Vt : Value} (h : Pst g b T cs w wi p B) (hB : B ≤ 300000000) :
    Calls Tryz.prog 32 #[.pointer (some ⟨g, 0, none⟩), .agg (gmV G Va Vt).toArray] wi fun e w' => e = .returned (.tuple #[]) ∧ Pst g b T cs w w' (p.head G.n) (B + 3000) := by
  refine (pbHead_any h.pb G Va Vt h.laid h.hg h.le h.lo hB).mono ?_
  rintro e w1 ⟨rfl, h1⟩
  exact ⟨rfl, h.next h1.pb h1.kb h1.le (by omega)⟩
theorem qDays {G : Gm} {Va Vt : Value} (h : Pst g b T cs w wi p B) (hB : B ≤ 300000000) :
    Calls Tryz.prog 33 #[.pointer (some ⟨g, 0, none⟩), .agg (gmV G Va Vt).toArray] wi fun e w' => e = .returned (.tuple #[]) ∧ Pst g b T cs w w' (p.days G.n) (B + 4000) := by
  refine (pbDays_any h.pb G Va Vt h.laid h.hg h.le h.lo hB).mono ?_
  rintro e w1 ⟨rfl, h1⟩
  exact ⟨rfl, h.next h1.pb h1.kb h1.le (by omega)⟩
theorem qTier (h : Pst g b T cs w wi p B) (t : Ti) (hB : B ≤ 300000000) :
    Calls Tryz.prog 36 #[.pointer (some ⟨g, 0, none⟩), .agg (encTi t).toArray] wi fun e w' => e = .returned (.tuple #[]) ∧ Pst g b T cs w w' (p.tier t) (B + 2000) := by
  refine (pbTier_any h.pb t h.laid h.hg h.le h.lo hB).mono ?_
  rintro e w1 ⟨rfl, h1⟩
  exact ⟨rfl, h.next h1.pb h1.kb h1.le (by omega)⟩
theorem qAddon (h : Pst g b T cs w wi p B) (a : Ad) (vf vs : Value) (hf : Kin g wi vf a.factors) (hs : Kin g wi vs a.serials) (hnl : a.name.size ≤ 1000000) (hfl : a.factors.length ≤ 1000000) (hsl : a.serials.length ≤ 1000000) (hB : B ≤ 300000000) :
    Calls Tryz.prog 35 #[.pointer (some ⟨g, 0, none⟩), .agg (encAd a vf vs).toArray] wi fun e w' => e = .returned (.tuple #[]) ∧ Pst g b T cs w w' (p.addon a) (B + 1002000) := by
  refine (pbAddon_any h.pb a vf vs hf hs hnl hfl hsl h.laid h.hg h.le h.lo hB).mono ?_
  rintro e w1 ⟨rfl, h1⟩
  exact ⟨rfl, h.next h1.pb h1.kb h1.le (by omega)⟩
end
/-- A game whose parts are not too long. -/
def Gm.little (G : Gm) : Prop := G.name.size ≤ 1000000 ∧ G.addons.length ≤ 1000000 ∧ G.tiers.length ≤ 1000000 ∧ ∀ a ∈ G.addons, a.name.size ≤ 1000000 ∧ a.factors.length ≤ 1000000 ∧ a.serials.length ≤ 1000000
theorem ints_kin {g : Nat} {w wi : World} {v : Value} {L : List Int} (h : IntsR w v L) (hB : ∀ w', KB g wi w' → Below w.heap.size w w') : Kin g wi v L := by
  obtain ⟨A, c, e, h⟩ := h
  exact ⟨A, c, e, fun w' k => h.below (hB w' k)⟩
theorem game_is (G : Gm) : Pr.game G = ((Pr.all Pr.tier (Pr.all Pr.addon ((((((⟨asc "game", false⟩ : Pr).nm G.name).add (asc " {
")).head G.n).days G.n).opts G.n) G.addons) G.tiers).add (asc "}
")).lim := rfl
set_option maxHeartbeats 8000000 in
theorem print_any (G : Gm) (Va Vt : Value) (w : World) (hW : Laid w) (hw9 : 9 ≤ w.heap.size) (hG : GmIn w Va Vt G) (hL : G.little) :
    Calls Tryz.prog 13 #[.agg (gmV G Va Vt).toArray] w fun e w' => e = .returned (.string (toBA (printG G))) ∧ Below w.heap.size w w' := by
  refine calls_W (l := [_]) Tryz.func13 rfl _ Tryz.ntmps13 (by simp) ?_
  obtain ⟨hnl, hal, htl, hadl⟩ := hL
  obtain ⟨⟨Aa, ca, Vs, rfl, hAa, hads⟩, At, ct, rfl, hAt⟩ := hG
  generalize hr : printG G = r
  unfold printG at hr
  rw [game_is] at hr
  have hst : Pr.Ok (((((⟨asc "game", false⟩ : Pr).nm G.name).add (asc " {\n")).head G.n).days G.n |>.opts G.n) :=
    ((((Pr.Step.nm _ G.name).trans (Pr.Step.head _ (asc " {\n") G.n)).trans (Pr.Step.daysI _ G.n)).trans (Pr.Step.opts _ G.n) (show Pr.Ok ⟨asc "game", false⟩ from fun _ => by decide)).1
  have hrow0 := Row.new w 26 (gmV G (.slice Aa G.addons.length ca) (.slice At G.tiers.length ct))
  have hb0 := below_alloc w (.cells (gmV G (.slice Aa G.addons.length ca) (.slice At G.tiers.length ct)).toArray 26)
  have hs0 := World.size_alloc w (.cells (gmV G (.slice Aa G.addons.length ca) (.slice At G.tiers.length ct)).toArray 26)
  refine W_piece fun K hK hX => ?_
  simp +contextual (maxSteps := 2000000) (disch := first | omega | (simp only [SZ]; first | done | omega) | (simp only [TS] at *; omega)) only [RZ, ovw, oneC, reduceAdd, reduceMul, reduceSub, reduceEqDiff, reduceLT, ↓reduceIte, Int.reduceToNat, reduceLeDiff]
  refine hK _ _ ?_
  clear hK hX K
  generalize w.alloc (.cells (gmV G (.slice Aa G.addons.length ca) (.slice At G.tiers.length ct)).toArray 26) = wb at hrow0 hb0 hs0 ⊢
  have hp0 : PbIn wb.heap.size (wb.alloc (.cells #[.pointer none, .slice none 0 0, .bool false] 69)) ⟨[], false⟩ :=
    ⟨none, none, 0, heap_alloc_new wb _, .inl rfl, ⟨rfl, .inl ⟨rfl, rfl⟩⟩, fun n hn => by cases hn⟩
  have h0 : Pst wb.heap.size w.heap.size 26 (gmV G (.slice Aa G.addons.length ca) (.slice At G.tiers.length ct)) (wb.alloc (.cells #[.pointer none, .slice none 0 0, .bool false] 69)) (wb.alloc (.cells #[.pointer none, .slice none 0 0, .bool false] 69)) ⟨[], false⟩ 32768 :=
    ⟨hp0, KB.refl _ _, hrow0.below (below_alloc wb _), (hW.below hb0 hW.size).below (below_alloc wb _) (by have := hW.size; omega), Nat.zero_le _, Nat.le_refl _, by omega, by omega, by decide⟩
  have hb1 : Below w.heap.size w (wb.alloc (.cells #[.pointer none, .slice none 0 0, .bool false] 69)) := hb0.trans ((below_alloc wb _).mono (by omega))
  refine W_piece fun K hK hX => ?_
  simp +contextual (maxSteps := 2000000) (disch := first | omega | (simp only [SZ]; first | done | omega) | (simp only [TS] at *; omega)) only [RZ, ovw, oneC, reduceAdd, reduceMul, reduceSub, reduceEqDiff, reduceLT, ↓reduceIte, Int.reduceToNat, reduceLeDiff]
  refine hK _ _ ?_
  clear hK hX K
  have hgw : w.heap.size < wb.heap.size := by omega
  generalize wb.alloc (.cells #[.pointer none, .slice none 0 0, .bool false] 69) = w0 at h0 hb1 ⊢
  clear hp0 hrow0 hb0 hs0
  generalize wb.heap.size = g at h0 hgw ⊢
  have hBw : ∀ wi, KB g w0 wi → Below w.heap.size w wi := fun wi k => hb1.trans (k.1.mono (Nat.le_of_lt hgw))
  generalize hgv : gmV G (.slice Aa G.addons.length ca) (.slice At G.tiers.length ct) = cs at h0
  generalize hbb : w.heap.size = b at h0
  have hld : ∀ {wi p B}, Pst g b 26 cs w0 wi p B → vLoad Tryz.prog 26 (.pointer (some ⟨b, 0, none⟩)) wi = .ok (.value (.agg (gmV G (.slice Aa G.addons.length ca) (.slice At G.tiers.length ct)).toArray)) wi := fun {wi p B} h =>
    vLoad_all (by kernel_rfl) (by rw [gmV_len]; kernel_rfl) (fun i v hv => by rw [Nat.zero_add]; exact h.cell i (by rw [← hgv]; exact hv))
  refine W_piece fun K hK hX => ?_
  simp +contextual (maxSteps := 2000000) (disch := first | omega | (simp only [SZ]; first | done | omega) | (simp only [TS] at *; omega)) only [RZ, ovw, oneC, reduceAdd, reduceMul, reduceSub, reduceEqDiff, reduceLT, ↓reduceIte, Int.reduceToNat, reduceLeDiff]
  refine (qStr h0 ⟨#[103, 97, 109, 101]⟩ (by decide) (by omega)).mono ?_
  rintro e w1 ⟨rfl, h1⟩
  refine ⟨_, rfl, ?_⟩
  rw [show bs ⟨#[103, 97, 109, 101]⟩ = asc "game" by decide +kernel] at h1
  try simp +contextual (maxSteps := 2000000) (disch := first | omega | (simp only [SZ]; first | done | omega) | (simp only [TS] at *; omega)) only [RZ, ovw, oneC, reduceAdd, reduceMul, reduceSub, reduceEqDiff, reduceLT, ↓reduceIte, Int.reduceToNat, reduceLeDiff]
  refine hK _ _ ?_
  clear hK hX K
  rw [show (⟨[], false⟩ : Pr).add (asc "game") = ⟨asc "game", false⟩ from rfl] at h1
  have d0 : w1.cell? ⟨b, 0, none⟩ = some (.string G.name) := h1.cell 0 (by rw [← hgv]; rfl)
  refine W_piece fun K hK hX => ?_
  simp +contextual (maxSteps := 2000000) (disch := first | omega | (simp only [SZ]; first | done | omega) | (simp only [TS] at *; omega)) only [RZ, ovw, oneC, reduceAdd, reduceMul, reduceSub, reduceEqDiff, reduceLT, ↓reduceIte, Int.reduceToNat, reduceLeDiff,  d0]
  refine (qName h1 G.name hnl (by omega)).mono ?_
  rintro e w2 ⟨rfl, h2⟩
  refine ⟨_, rfl, ?_⟩
  try simp +contextual (maxSteps := 2000000) (disch := first | omega | (simp only [SZ]; first | done | omega) | (simp only [TS] at *; omega)) only [RZ, ovw, oneC, reduceAdd, reduceMul, reduceSub, reduceEqDiff, reduceLT, ↓reduceIte, Int.reduceToNat, reduceLeDiff,  d0]
  refine hK _ _ ?_
  clear hK hX K
  refine W_piece fun K hK hX => ?_
  simp +contextual (maxSteps := 2000000) (disch := first | omega | (simp only [SZ]; first | done | omega) | (simp only [TS] at *; omega)) only [RZ, ovw, oneC, reduceAdd, reduceMul, reduceSub, reduceEqDiff, reduceLT, ↓reduceIte, Int.reduceToNat, reduceLeDiff]
  refine (qStr h2 ⟨#[32, 123, 10]⟩ (by decide) (by omega)).mono ?_
  rintro e w3 ⟨rfl, h3⟩
  refine ⟨_, rfl, ?_⟩
  rw [show bs ⟨#[32, 123, 10]⟩ = asc " {\n" by decide +kernel] at h3
  try simp +contextual (maxSteps := 2000000) (disch := first | omega | (simp only [SZ]; first | done | omega) | (simp only [TS] at *; omega)) only [RZ, ovw, oneC, reduceAdd, reduceMul, reduceSub, reduceEqDiff, reduceLT, ↓reduceIte, Int.reduceToNat, reduceLeDiff]
  refine hK _ _ ?_
  clear hK hX K
  have l3 := hld h3
  refine W_piece fun K hK hX => ?_
  simp +contextual (maxSteps := 2000000) (disch := first | omega | (simp only [SZ]; first | done | omega) | (simp only [TS] at *; omega)) only [RZ, ovw, oneC, reduceAdd, reduceMul, reduceSub, reduceEqDiff, reduceLT, ↓reduceIte, Int.reduceToNat, reduceLeDiff,  l3]
  refine (qHead (G := G) h3 (by omega)).mono ?_
  rintro e w4 ⟨rfl, h4⟩
  refine ⟨_, rfl, ?_⟩
  try simp +contextual (maxSteps := 2000000) (disch := first | omega | (simp only [SZ]; first | done | omega) | (simp only [TS] at *; omega)) only [RZ, ovw, oneC, reduceAdd, reduceMul, reduceSub, reduceEqDiff, reduceLT, ↓reduceIte, Int.reduceToNat, reduceLeDiff,  l3]
  refine hK _ _ ?_
  clear hK hX K
  have l4 := hld h4
  refine W_piece fun K hK hX => ?_
  simp +contextual (maxSteps := 2000000) (disch := first | omega | (simp only [SZ]; first | done | omega) | (simp only [TS] at *; omega)) only [RZ, ovw, oneC, reduceAdd, reduceMul, reduceSub, reduceEqDiff, reduceLT, ↓reduceIte, Int.reduceToNat, reduceLeDiff,  l4]
  refine (qDays (G := G) h4 (by omega)).mono ?_
  rintro e w5 ⟨rfl, h5⟩
  refine ⟨_, rfl, ?_⟩
  try simp +contextual (maxSteps := 2000000) (disch := first | omega | (simp only [SZ]; first | done | omega) | (simp only [TS] at *; omega)) only [RZ, ovw, oneC, reduceAdd, reduceMul, reduceSub, reduceEqDiff, reduceLT, ↓reduceIte, Int.reduceToNat, reduceLeDiff,  l4]
  refine hK _ _ ?_
  clear hK hX K
  have e11 : w5.cell? ⟨b, 12, none⟩ = some (.int .i64 (G.n 11)) := h5.cell 12 (by rw [← hgv]; rfl)
  refine W_piece fun K hK hX => ?_
  simp +contextual (maxSteps := 2000000) (disch := first | omega | (simp only [SZ]; first | done | omega) | (simp only [TS] at *; omega)) only [RZ, ovw, oneC, reduceAdd, reduceMul, reduceSub, reduceEqDiff, reduceLT, ↓reduceIte, Int.reduceToNat, reduceLeDiff,  e11]
  refine (qOpt h5 ⟨#[99, 108, 111, 115, 101]⟩ (G.n 11) 0 (by decide) (by omega)).mono ?_
  rintro e w6 ⟨rfl, h6⟩
  refine ⟨_, rfl, ?_⟩
  rw [show bs ⟨#[99, 108, 111, 115, 101]⟩ = asc "close" by decide +kernel] at h6
  try simp +contextual (maxSteps := 2000000) (disch := first | omega | (simp only [SZ]; first | done | omega) | (simp only [TS] at *; omega)) only [RZ, ovw, oneC, reduceAdd, reduceMul, reduceSub, reduceEqDiff, reduceLT, ↓reduceIte, Int.reduceToNat, reduceLeDiff,  e11]
  refine hK _ _ ?_
  clear hK hX K
  have e12 : w6.cell? ⟨b, 13, none⟩ = some (.int .i64 (G.n 12)) := h6.cell 13 (by rw [← hgv]; rfl)
  refine W_piece fun K hK hX => ?_
  simp +contextual (maxSteps := 2000000) (disch := first | omega | (simp only [SZ]; first | done | omega) | (simp only [TS] at *; omega)) only [RZ, ovw, oneC, reduceAdd, reduceMul, reduceSub, reduceEqDiff, reduceLT, ↓reduceIte, Int.reduceToNat, reduceLeDiff,  e12]
  refine (qOpt h6 ⟨#[99, 97, 110, 99, 101, 108]⟩ (G.n 12) 0 (by decide) (by omega)).mono ?_
  rintro e w7 ⟨rfl, h7⟩
  refine ⟨_, rfl, ?_⟩
  rw [show bs ⟨#[99, 97, 110, 99, 101, 108]⟩ = asc "cancel" by decide +kernel] at h7
  try simp +contextual (maxSteps := 2000000) (disch := first | omega | (simp only [SZ]; first | done | omega) | (simp only [TS] at *; omega)) only [RZ, ovw, oneC, reduceAdd, reduceMul, reduceSub, reduceEqDiff, reduceLT, ↓reduceIte, Int.reduceToNat, reduceLeDiff,  e12]
  refine hK _ _ ?_
  clear hK hX K
  have e13 : w7.cell? ⟨b, 14, none⟩ = some (.int .i64 (G.n 13)) := h7.cell 14 (by rw [← hgv]; rfl)
  refine W_piece fun K hK hX => ?_
  simp +contextual (maxSteps := 2000000) (disch := first | omega | (simp only [SZ]; first | done | omega) | (simp only [TS] at *; omega)) only [RZ, ovw, oneC, reduceAdd, reduceMul, reduceSub, reduceEqDiff, reduceLT, ↓reduceIte, Int.reduceToNat, reduceLeDiff,  e13]
  refine (qOpt h7 ⟨#[101, 120, 112, 105, 114, 121]⟩ (G.n 13) 0 (by decide) (by omega)).mono ?_
  rintro e w8 ⟨rfl, h8⟩
  refine ⟨_, rfl, ?_⟩
  rw [show bs ⟨#[101, 120, 112, 105, 114, 121]⟩ = asc "expiry" by decide +kernel] at h8
  try simp +contextual (maxSteps := 2000000) (disch := first | omega | (simp only [SZ]; first | done | omega) | (simp only [TS] at *; omega)) only [RZ, ovw, oneC, reduceAdd, reduceMul, reduceSub, reduceEqDiff, reduceLT, ↓reduceIte, Int.reduceToNat, reduceLeDiff,  e13]
  refine hK _ _ ?_
  clear hK hX K
  have e14 : w8.cell? ⟨b, 15, none⟩ = some (.int .i64 (G.n 14)) := h8.cell 15 (by rw [← hgv]; rfl)
  refine W_piece fun K hK hX => ?_
  simp +contextual (maxSteps := 2000000) (disch := first | omega | (simp only [SZ]; first | done | omega) | (simp only [TS] at *; omega)) only [RZ, ovw, oneC, reduceAdd, reduceMul, reduceSub, reduceEqDiff, reduceLT, ↓reduceIte, Int.reduceToNat, reduceLeDiff,  e14]
  refine (qOpt h8 ⟨#[112, 111, 111, 108]⟩ (G.n 14) 0 (by decide) (by omega)).mono ?_
  rintro e w9 ⟨rfl, h9⟩
  refine ⟨_, rfl, ?_⟩
  rw [show bs ⟨#[112, 111, 111, 108]⟩ = asc "pool" by decide +kernel] at h9
  try simp +contextual (maxSteps := 2000000) (disch := first | omega | (simp only [SZ]; first | done | omega) | (simp only [TS] at *; omega)) only [RZ, ovw, oneC, reduceAdd, reduceMul, reduceSub, reduceEqDiff, reduceLT, ↓reduceIte, Int.reduceToNat, reduceLeDiff,  e14]
  refine hK _ _ ?_
  clear hK hX K
  have e15 : w9.cell? ⟨b, 16, none⟩ = some (.int .i64 (G.n 15)) := h9.cell 16 (by rw [← hgv]; rfl)
  refine W_piece fun K hK hX => ?_
  simp +contextual (maxSteps := 2000000) (disch := first | omega | (simp only [SZ]; first | done | omega) | (simp only [TS] at *; omega)) only [RZ, ovw, oneC, reduceAdd, reduceMul, reduceSub, reduceEqDiff, reduceLT, ↓reduceIte, Int.reduceToNat, reduceLeDiff,  e15]
  refine (qOpt h9 ⟨#[114, 101, 115, 101, 114, 118, 101]⟩ (G.n 15) 0 (by decide) (by omega)).mono ?_
  rintro e w10 ⟨rfl, h10⟩
  refine ⟨_, rfl, ?_⟩
  rw [show bs ⟨#[114, 101, 115, 101, 114, 118, 101]⟩ = asc "reserve" by decide +kernel] at h10
  try simp +contextual (maxSteps := 2000000) (disch := first | omega | (simp only [SZ]; first | done | omega) | (simp only [TS] at *; omega)) only [RZ, ovw, oneC, reduceAdd, reduceMul, reduceSub, reduceEqDiff, reduceLT, ↓reduceIte, Int.reduceToNat, reduceLeDiff,  e15]
  refine hK _ _ ?_
  clear hK hX K
  have e16 : w10.cell? ⟨b, 17, none⟩ = some (.int .i64 (G.n 16)) := h10.cell 17 (by rw [← hgv]; rfl)
  refine W_piece fun K hK hX => ?_
  simp +contextual (maxSteps := 2000000) (disch := first | omega | (simp only [SZ]; first | done | omega) | (simp only [TS] at *; omega)) only [RZ, ovw, oneC, reduceAdd, reduceMul, reduceSub, reduceEqDiff, reduceLT, ↓reduceIte, Int.reduceToNat, reduceLeDiff,  e16]
  refine (qOpt h10 ⟨#[114, 111, 117, 110, 100]⟩ (G.n 16) 1 (by decide) (by omega)).mono ?_
  rintro e w11 ⟨rfl, h11⟩
  refine ⟨_, rfl, ?_⟩
  rw [show bs ⟨#[114, 111, 117, 110, 100]⟩ = asc "round" by decide +kernel] at h11
  try simp +contextual (maxSteps := 2000000) (disch := first | omega | (simp only [SZ]; first | done | omega) | (simp only [TS] at *; omega)) only [RZ, ovw, oneC, reduceAdd, reduceMul, reduceSub, reduceEqDiff, reduceLT, ↓reduceIte, Int.reduceToNat, reduceLeDiff,  e16]
  refine hK _ _ ?_
  clear hK hX K
  have e17 : w11.cell? ⟨b, 18, none⟩ = some (.int .i64 (G.n 17)) := h11.cell 18 (by rw [← hgv]; rfl)
  refine W_piece fun K hK hX => ?_
  simp +contextual (maxSteps := 2000000) (disch := first | omega | (simp only [SZ]; first | done | omega) | (simp only [TS] at *; omega)) only [RZ, ovw, oneC, reduceAdd, reduceMul, reduceSub, reduceEqDiff, reduceLT, ↓reduceIte, Int.reduceToNat, reduceLeDiff,  e17]
  refine (qOpt h11 ⟨#[99, 97, 112]⟩ (G.n 17) 0 (by decide) (by omega)).mono ?_
  rintro e w12 ⟨rfl, h12⟩
  refine ⟨_, rfl, ?_⟩
  rw [show bs ⟨#[99, 97, 112]⟩ = asc "cap" by decide +kernel] at h12
  try simp +contextual (maxSteps := 2000000) (disch := first | omega | (simp only [SZ]; first | done | omega) | (simp only [TS] at *; omega)) only [RZ, ovw, oneC, reduceAdd, reduceMul, reduceSub, reduceEqDiff, reduceLT, ↓reduceIte, Int.reduceToNat, reduceLeDiff,  e17]
  refine hK _ _ ?_
  clear hK hX K
  have e18 : w12.cell? ⟨b, 19, none⟩ = some (.int .i64 (G.n 18)) := h12.cell 19 (by rw [← hgv]; rfl)
  refine W_piece fun K hK hX => ?_
  simp +contextual (maxSteps := 2000000) (disch := first | omega | (simp only [SZ]; first | done | omega) | (simp only [TS] at *; omega)) only [RZ, ovw, oneC, reduceAdd, reduceMul, reduceSub, reduceEqDiff, reduceLT, ↓reduceIte, Int.reduceToNat, reduceLeDiff,  e18]
  refine (qOpt h12 ⟨#[114, 111, 108, 108, 115]⟩ (G.n 18) 0 (by decide) (by omega)).mono ?_
  rintro e w13 ⟨rfl, h13⟩
  refine ⟨_, rfl, ?_⟩
  rw [show bs ⟨#[114, 111, 108, 108, 115]⟩ = asc "rolls" by decide +kernel] at h13
  try simp +contextual (maxSteps := 2000000) (disch := first | omega | (simp only [SZ]; first | done | omega) | (simp only [TS] at *; omega)) only [RZ, ovw, oneC, reduceAdd, reduceMul, reduceSub, reduceEqDiff, reduceLT, ↓reduceIte, Int.reduceToNat, reduceLeDiff,  e18]
  refine hK _ _ ?_
  clear hK hX K
  have eo : (((((((((((((⟨asc "game", false⟩ : Pr).nm G.name).add (asc " {\n")).head G.n).days G.n).opt (asc "close") (G.n 11) 0).opt (asc "cancel") (G.n 12) 0).opt (asc "expiry") (G.n 13) 0).opt (asc "pool") (G.n 14) 0).opt (asc "reserve") (G.n 15) 0).opt (asc "round") (G.n 16) 1).opt (asc "cap") (G.n 17) 0).opt (asc "rolls") (G.n 18) 0)
      = (((((⟨asc "game", false⟩ : Pr).nm G.name).add (asc " {\n")).head G.n).days G.n).opts G.n := rfl
  rw [eo] at h13
  clear eo
  generalize (((((⟨asc "game", false⟩ : Pr).nm G.name).add (asc " {\n")).head G.n).days G.n).opts G.n = p0 at h13 hst hr
  have hn := h13.next (B' := 2100000) h13.pb (KB.refl _ _) (Nat.le_trans h13.le (by omega)) (by omega)
  clear h0 h1 h2 h3 h4 h5 h6 h7 h8 h9 h10 h11 h12 h13 d0 l3 l4 e11 e12 e13 e14 e15 e16 e17 e18
  generalize w13 = wn at hn ⊢
  refine W_cutS (fun σ wi => σ 1 = .pointer (some ⟨b, 0, none⟩) ∧ σ 3 = .pointer (some ⟨g, 0, none⟩) ∧ Pst g b 26 cs w0 wi (Pr.all Pr.addon p0 G.addons) 2100000) ?_ ?_
  rotate_left
  · refine W_piece fun K hK hX => ?_
    simp +contextual (maxSteps := 2000000) (disch := first | omega | (simp only [SZ]; first | done | omega) | (simp only [TS] at *; omega)) only [RZ, ovw, oneC, reduceAdd, reduceMul, reduceSub, reduceEqDiff, reduceLT, ↓reduceIte, Int.reduceToNat, reduceLeDiff]
    refine hK _ _ ?_
    clear hK hX K
    rw [W_block, W_loop]
    refine Raw_loop (fun σ wi => ∃ (k : Nat) (pk : Pr), k ≤ G.addons.length ∧ pk.Ok ∧ Pr.all Pr.addon pk (G.addons.drop k) = Pr.all Pr.addon p0 G.addons ∧ Pst g b 26 cs w0 wi pk 2100000 ∧ σ 1 = .pointer (some ⟨b, 0, none⟩) ∧ σ 3 = .pointer (some ⟨g, 0, none⟩) ∧ σ 4 = .int .i64 k) (fun σ _ => G.addons.length - (intOf (σ 4)).toNat) ?_ ?_
    · exact ⟨0, p0, Nat.zero_le _, hst, by rw [List.drop_zero], hn, rfl, rfl, rfl⟩
    clear hn
    rintro σ wi ⟨k, pk, hk, hok, hpk, h1, f1, f3, f4⟩ K hK
    have dA : wi.cell? ⟨b, 20, none⟩ = some (.slice Aa G.addons.length ca) := h1.cell 20 (by rw [← hgv]; rfl)
    have dB := h1.bad
    refine W_piece fun K2 hK2 hX2 => ?_
    refine W_piece fun K3 hK3 hX3 => ?_
    simp +contextual (maxSteps := 2000000) (disch := first | omega | (simp only [SZ]; first | done | omega) | (simp only [TS] at *; omega)) only [RZ, ovw, oneC, reduceAdd, reduceMul, reduceSub, reduceEqDiff, reduceLT, ↓reduceIte, Int.reduceToNat, reduceLeDiff,  f1, f3, f4, dA, dB]
    refine hK3 _ _ ?_
    clear hK3 hX3 K3
    by_cases hc : k < G.addons.length ∧ pk.bad = false
    · refine W_if_t (by show Value.bool (decide ((k : Int) < (G.addons.length : Int)) && !pk.bad) = .bool true; rw [hc.2, show decide ((k : Int) < (G.addons.length : Int)) = true by have := hc.1; simp; omega]; rfl) ?_
      rw [W_skip]
      refine hK2 _ _ ?_
      clear hK2 hX2 K2
      obtain ⟨hkl, hbf⟩ := hc
      obtain ⟨a, ha⟩ : ∃ a, G.addons[k]? = some a := ⟨_, List.getElem?_eq_getElem hkl⟩
      obtain ⟨cv1, hcv⟩ : ∃ c, Vs[k]? = some c := ⟨_, List.getElem?_eq_getElem (by rw [hads.1]; exact hkl)⟩
      obtain ⟨vf, vs, rfl, hvf, hvs⟩ := hads.2 k _ a hcv ha
      have hbi : Below w.heap.size w wi := hBw wi h1.kb
      obtain ⟨b2, o2, rfl, hb2, hcell⟩ := (hAa.below hbi) (by rw [hads.1]; omega)
      have hla : vLoad Tryz.prog 45 (.pointer (some ⟨b2, o2 + k * 6, none⟩)) wi = .ok (.value (.agg (encAd a vf vs).toArray)) wi := vLoad_all (by kernel_rfl) (by show _ = some 6; kernel_rfl) (fun i v hv => hcell k _ hcv i v hv)
      have hdk : G.addons.drop k = a :: G.addons.drop (k + 1) := by
        rw [List.drop_eq_getElem_cons hkl]
        congr 1
        exact (List.getElem?_eq_some_iff.1 ha).2
      rw [hdk, all_cons, if_neg (by rw [hbf]; simp)] at hpk
      obtain ⟨m1, m2, m3⟩ := hadl a (List.mem_of_getElem? ha)
      have hKk : ∀ w', KB g wi w' → Below w.heap.size w w' := fun w' k' => hBw w' (h1.kb.trans k')
      refine W_piece fun K1 hK1 hX1 => ?_
      rw [W_block]
      simp +contextual (maxSteps := 2000000) (disch := first | omega | (simp only [SZ]; first | done | omega) | (simp only [TS] at *; omega)) only [RZ, ovw, oneC, reduceAdd, reduceMul, reduceSub, reduceEqDiff, reduceLT, ↓reduceIte, Int.reduceToNat, reduceLeDiff,  f1, f3, f4, dA, hla]
      refine (qAddon (h1.short hok hbf) a vf vs (ints_kin hvf hKk) (ints_kin hvs hKk) m1 m2 m3 (by omega)).mono ?_
      rintro e w2 ⟨rfl, h2⟩
      refine ⟨_, rfl, ?_⟩
      try simp +contextual (maxSteps := 2000000) (disch := first | omega | (simp only [SZ]; first | done | omega) | (simp only [TS] at *; omega)) only [RZ, ovw, oneC, reduceAdd, reduceMul, reduceSub, reduceEqDiff, reduceLT, ↓reduceIte, Int.reduceToNat, reduceLeDiff,  f1, f3, f4]
      refine hK1 _ _ ?_
      clear hK1 hX1 K1
      simp +contextual (maxSteps := 2000000) (disch := first | omega | (simp only [SZ]; first | done | omega) | (simp only [TS] at *; omega)) only [RZ, ovw, oneC, reduceAdd, reduceMul, reduceSub, reduceEqDiff, reduceLT, ↓reduceIte, Int.reduceToNat, reduceLeDiff,  f1, f3, f4]
      refine hK _ _ ⟨k + 1, pk.addon a, by omega, (Pr.Step.addon pk a hok).1, hpk, h2.next h2.pb (KB.refl _ _) (Nat.le_trans h2.le (by omega)) (by omega), ?_⟩ ?_
      · simp +contextual (maxSteps := 2000000) (disch := first | omega | (simp only [SZ]; first | done | omega) | (simp only [TS] at *; omega)) only [RZ, ovw, oneC, reduceAdd, reduceMul, reduceSub, reduceEqDiff, reduceLT, ↓reduceIte, Int.reduceToNat, reduceLeDiff,  f1, f3, f4]
      · simp +contextual (maxSteps := 2000000) (disch := first | omega | (simp only [SZ]; first | done | omega) | (simp only [TS] at *; omega)) only [RZ, ovw, oneC, reduceAdd, reduceMul, reduceSub, reduceEqDiff, reduceLT, ↓reduceIte, Int.reduceToNat, reduceLeDiff,  intOf, f4]
        omega
    · refine W_if_f (by show Value.bool (decide ((k : Int) < (G.addons.length : Int)) && !pk.bad) = .bool false; rw [show (decide ((k : Int) < (G.addons.length : Int)) && !pk.bad) = false by (rw [Bool.eq_false_iff]; intro e; simp only [Bool.and_eq_true, decide_eq_true_eq, Bool.not_eq_true'] at e; exact hc ⟨by omega, e.2⟩)]) ?_
      have hpk2 : pk = Pr.all Pr.addon p0 G.addons := by
        by_cases hkl : k < G.addons.length
        · have hbt : pk.bad = true := by cases e : pk.bad with | true => rfl | false => exact absurd ⟨hkl, e⟩ hc
          rw [all_bad _ _ _ hbt] at hpk
          exact hpk
        · rw [List.drop_eq_nil_of_le (by omega)] at hpk
          exact hpk
      rw [W_exit]
      refine hX2 _ _ _ (fun h => by cases h) ?_
      rw [hpk2] at h1
      simp +contextual (maxSteps := 2000000) (disch := first | omega | (simp only [SZ]; first | done | omega) | (simp only [TS] at *; omega)) only [RZ, ovw, oneC, reduceAdd, reduceMul, reduceSub, reduceEqDiff, reduceLT, ↓reduceIte, Int.reduceToNat, reduceLeDiff,  f1, f3, f4]
      exact h1
  clear hn
  have hst2 := ((Pr.Step.all (fun p a => Pr.Step.addon p a) G.addons p0) hst).1
  generalize Pr.all Pr.addon p0 G.addons = p1 at hr hst2 ⊢
  rintro σ wn ⟨f1, f3, hn⟩
  refine W_cutS (fun σ wi => σ 1 = .pointer (some ⟨b, 0, none⟩) ∧ σ 3 = .pointer (some ⟨g, 0, none⟩) ∧ Pst g b 26 cs w0 wi (Pr.all Pr.tier p1 G.tiers) 2100000) ?_ ?_
  rotate_left
  · refine W_piece fun K hK hX => ?_
    simp +contextual (maxSteps := 2000000) (disch := first | omega | (simp only [SZ]; first | done | omega) | (simp only [TS] at *; omega)) only [RZ, ovw, oneC, reduceAdd, reduceMul, reduceSub, reduceEqDiff, reduceLT, ↓reduceIte, Int.reduceToNat, reduceLeDiff]
    refine hK _ _ ?_
    clear hK hX K
    rw [W_block, W_loop]
    refine Raw_loop (fun σ wi => ∃ (k : Nat) (pk : Pr), k ≤ G.tiers.length ∧ pk.Ok ∧ Pr.all Pr.tier pk (G.tiers.drop k) = Pr.all Pr.tier p1 G.tiers ∧ Pst g b 26 cs w0 wi pk 2100000 ∧ σ 1 = .pointer (some ⟨b, 0, none⟩) ∧ σ 3 = .pointer (some ⟨g, 0, none⟩) ∧ σ 5 = .int .i64 k) (fun σ _ => G.tiers.length - (intOf (σ 5)).toNat) ?_ ?_
    · refine ⟨0, p1, Nat.zero_le _, hst2, by rw [List.drop_zero], hn, ?_⟩
      simp +contextual (maxSteps := 2000000) (disch := first | omega | (simp only [SZ]; first | done | omega) | (simp only [TS] at *; omega)) only [RZ, ovw, oneC, reduceAdd, reduceMul, reduceSub, reduceEqDiff, reduceLT, ↓reduceIte, Int.reduceToNat, reduceLeDiff,  f1, f3]
      rfl
    clear hn f1 f3
    rintro σ wi ⟨k, pk, hk, hok, hpk, h1, f1, f3, f5⟩ K hK
    have dA : wi.cell? ⟨b, 21, none⟩ = some (.slice At G.tiers.length ct) := h1.cell 21 (by rw [← hgv]; rfl)
    have dB := h1.bad
    refine W_piece fun K2 hK2 hX2 => ?_
    refine W_piece fun K3 hK3 hX3 => ?_
    simp +contextual (maxSteps := 2000000) (disch := first | omega | (simp only [SZ]; first | done | omega) | (simp only [TS] at *; omega)) only [RZ, ovw, oneC, reduceAdd, reduceMul, reduceSub, reduceEqDiff, reduceLT, ↓reduceIte, Int.reduceToNat, reduceLeDiff,  f1, f3, f5, dA, dB]
    refine hK3 _ _ ?_
    clear hK3 hX3 K3
    by_cases hc : k < G.tiers.length ∧ pk.bad = false
    · refine W_if_t (by show Value.bool (decide ((k : Int) < (G.tiers.length : Int)) && !pk.bad) = .bool true; rw [hc.2, show decide ((k : Int) < (G.tiers.length : Int)) = true by have := hc.1; simp; omega]; rfl) ?_
      rw [W_skip]
      refine hK2 _ _ ?_
      clear hK2 hX2 K2
      obtain ⟨hkl, hbf⟩ := hc
      obtain ⟨t, ht⟩ : ∃ t, G.tiers[k]? = some t := ⟨_, List.getElem?_eq_getElem hkl⟩
      have hbi : Below w.heap.size w wi := hBw wi h1.kb
      obtain ⟨b2, o2, rfl, hb2, hcell⟩ := (hAt.below hbi).at_ (enc := encTi) ht
      have hla : vLoad Tryz.prog 41 (.pointer (some ⟨b2, o2 + k * 6, none⟩)) wi = .ok (.value (.agg (encTi t).toArray)) wi := vLoad_all (by kernel_rfl) (by show _ = some 6; kernel_rfl) (fun i v hv => hcell i v hv)
      have hdk : G.tiers.drop k = t :: G.tiers.drop (k + 1) := by
        rw [List.drop_eq_getElem_cons hkl]
        congr 1
        exact (List.getElem?_eq_some_iff.1 ht).2
      rw [hdk, all_cons, if_neg (by rw [hbf]; simp)] at hpk
      refine W_piece fun K1 hK1 hX1 => ?_
      rw [W_block]
      simp +contextual (maxSteps := 2000000) (disch := first | omega | (simp only [SZ]; first | done | omega) | (simp only [TS] at *; omega)) only [RZ, ovw, oneC, reduceAdd, reduceMul, reduceSub, reduceEqDiff, reduceLT, ↓reduceIte, Int.reduceToNat, reduceLeDiff,  f1, f3, f5, dA, hla]
      refine (qTier (h1.short hok hbf) t (by omega)).mono ?_
      rintro e w2 ⟨rfl, h2⟩
      refine ⟨_, rfl, ?_⟩
      try simp +contextual (maxSteps := 2000000) (disch := first | omega | (simp only [SZ]; first | done | omega) | (simp only [TS] at *; omega)) only [RZ, ovw, oneC, reduceAdd, reduceMul, reduceSub, reduceEqDiff, reduceLT, ↓reduceIte, Int.reduceToNat, reduceLeDiff,  f1, f3, f5]
      refine hK1 _ _ ?_
      clear hK1 hX1 K1
      simp +contextual (maxSteps := 2000000) (disch := first | omega | (simp only [SZ]; first | done | omega) | (simp only [TS] at *; omega)) only [RZ, ovw, oneC, reduceAdd, reduceMul, reduceSub, reduceEqDiff, reduceLT, ↓reduceIte, Int.reduceToNat, reduceLeDiff,  f1, f3, f5]
      refine hK _ _ ⟨k + 1, pk.tier t, by omega, (Pr.Step.tier pk t hok).1, hpk, h2.next h2.pb (KB.refl _ _) (Nat.le_trans h2.le (by omega)) (by omega), ?_⟩ ?_
      · simp +contextual (maxSteps := 2000000) (disch := first | omega | (simp only [SZ]; first | done | omega) | (simp only [TS] at *; omega)) only [RZ, ovw, oneC, reduceAdd, reduceMul, reduceSub, reduceEqDiff, reduceLT, ↓reduceIte, Int.reduceToNat, reduceLeDiff,  f1, f3, f5]
      · simp +contextual (maxSteps := 2000000) (disch := first | omega | (simp only [SZ]; first | done | omega) | (simp only [TS] at *; omega)) only [RZ, ovw, oneC, reduceAdd, reduceMul, reduceSub, reduceEqDiff, reduceLT, ↓reduceIte, Int.reduceToNat, reduceLeDiff,  intOf, f5]
        omega
    · refine W_if_f (by show Value.bool (decide ((k : Int) < (G.tiers.length : Int)) && !pk.bad) = .bool false; rw [show (decide ((k : Int) < (G.tiers.length : Int)) && !pk.bad) = false by (rw [Bool.eq_false_iff]; intro e; simp only [Bool.and_eq_true, decide_eq_true_eq, Bool.not_eq_true'] at e; exact hc ⟨by omega, e.2⟩)]) ?_
      have hpk2 : pk = Pr.all Pr.tier p1 G.tiers := by
        by_cases hkl : k < G.tiers.length
        · have hbt : pk.bad = true := by cases e : pk.bad with | true => rfl | false => exact absurd ⟨hkl, e⟩ hc
          rw [all_bad _ _ _ hbt] at hpk
          exact hpk
        · rw [List.drop_eq_nil_of_le (by omega)] at hpk
          exact hpk
      rw [W_exit]
      refine hX2 _ _ _ (fun h => by cases h) ?_
      rw [hpk2] at h1
      simp +contextual (maxSteps := 2000000) (disch := first | omega | (simp only [SZ]; first | done | omega) | (simp only [TS] at *; omega)) only [RZ, ovw, oneC, reduceAdd, reduceMul, reduceSub, reduceEqDiff, reduceLT, ↓reduceIte, Int.reduceToNat, reduceLeDiff,  f1, f3, f5]
      exact h1
  clear hn f1 f3
  generalize Pr.all Pr.tier p1 G.tiers = p2 at hr ⊢
  rintro σ w1 ⟨f1, f3, h1⟩
  refine W_piece fun K hK hX => ?_
  simp +contextual (maxSteps := 2000000) (disch := first | omega | (simp only [SZ]; first | done | omega) | (simp only [TS] at *; omega)) only [RZ, ovw, oneC, reduceAdd, reduceMul, reduceSub, reduceEqDiff, reduceLT, ↓reduceIte, Int.reduceToNat, reduceLeDiff,  f1, f3]
  refine (qStr h1 ⟨#[125, 10]⟩ (by decide) (by omega)).mono ?_
  rintro e w2 ⟨rfl, h2⟩
  refine ⟨_, rfl, ?_⟩
  rw [show bs ⟨#[125, 10]⟩ = asc "}\n" by decide +kernel] at h2
  try simp +contextual (maxSteps := 2000000) (disch := first | omega | (simp only [SZ]; first | done | omega) | (simp only [TS] at *; omega)) only [RZ, ovw, oneC, reduceAdd, reduceMul, reduceSub, reduceEqDiff, reduceLT, ↓reduceIte, Int.reduceToNat, reduceLeDiff,  f1, f3]
  refine hK _ _ ?_
  clear hK hX K
  have hne : (p2.add (asc "}\n")).X ≠ [] := by
    unfold Pr.add
    intro e
    have := congrArg List.length e
    rw [List.length_append] at this
    simp at this
    exact absurd this.2 (by decide +kernel)
  have hd : decide (((p2.add (asc "}\n")).X.length : Int) ≤ 32768) = decide ((p2.add (asc "}\n")).X.length ≤ 32768) := by
    have : (((p2.add (asc "}\n")).X.length : Int) ≤ 32768) = ((p2.add (asc "}\n")).X.length ≤ 32768) := by apply propext; omega
    simp only [this]
  have hrl : (p2.add (asc "}\n")).lim = (p2.add (asc "}\n")).req (decide ((p2.add (asc "}\n")).X.length ≤ 32768)) := rfl
  rw [hrl] at hr
  generalize p2.add (asc "}\n") = p3 at h2 hne hd hr
  refine W_piece fun K hK hX => ?_
  simp +contextual (maxSteps := 2000000) (disch := first | omega | (simp only [SZ]; first | done | omega) | (simp only [TS] at *; omega)) only [RZ, ovw, oneC, reduceAdd, reduceMul, reduceSub, reduceEqDiff, reduceLT, ↓reduceIte, Int.reduceToNat, reduceLeDiff,  f1, f3]
  refine (pbLen_any h2.pb).mono ?_
  rintro e w3 ⟨rfl, rfl⟩
  refine ⟨_, rfl, ?_⟩
  try simp +contextual (maxSteps := 2000000) (disch := first | omega | (simp only [SZ]; first | done | omega) | (simp only [TS] at *; omega)) only [RZ, ovw, oneC, reduceAdd, reduceMul, reduceSub, reduceEqDiff, reduceLT, ↓reduceIte, Int.reduceToNat, reduceLeDiff,  f1, f3]
  rw [hd]
  refine (qReq h2 _).mono ?_
  rintro e w3 ⟨rfl, h3⟩
  refine ⟨_, rfl, ?_⟩
  try simp +contextual (maxSteps := 2000000) (disch := first | omega | (simp only [SZ]; first | done | omega) | (simp only [TS] at *; omega)) only [RZ, ovw, oneC, reduceAdd, reduceMul, reduceSub, reduceEqDiff, reduceLT, ↓reduceIte, Int.reduceToNat, reduceLeDiff,  f1, f3]
  refine hK _ _ ?_
  clear hK hX K
  have hx3 : (p3.req (decide (p3.X.length ≤ 32768))).X ≠ [] := hne
  generalize p3.req (decide (p3.X.length ≤ 32768)) = p4 at hr h3 hx3
  have dB := h3.bad
  refine W_piece fun K hK hX => ?_
  refine W_piece fun K2 hK2 hX2 => ?_
  simp +contextual (maxSteps := 2000000) (disch := first | omega | (simp only [SZ]; first | done | omega) | (simp only [TS] at *; omega)) only [RZ, ovw, oneC, reduceAdd, reduceMul, reduceSub, reduceEqDiff, reduceLT, ↓reduceIte, Int.reduceToNat, reduceLeDiff,  f1, f3, dB]
  refine hK2 _ _ ?_
  clear hK2 hX2 K2
  have hb3 := hBw _ h3.kb
  rw [hbb] at hb3
  cases hbd : p4.bad with
  | true =>
    rw [hbd, if_pos rfl] at hr
    subst hr
    refine W_if_t rfl ?_
    refine W_piece fun K2 hK2 hX2 => ?_
    simp +contextual (maxSteps := 2000000) (disch := first | omega | (simp only [SZ]; first | done | omega) | (simp only [TS] at *; omega)) only [RZ, ovw, oneC, reduceAdd, reduceMul, reduceSub, reduceEqDiff, reduceLT, ↓reduceIte, Int.reduceToNat, reduceLeDiff]
    refine hK2 _ _ ?_
    clear hK2 hX2 K2
    rw [W_ret]
    refine hX _ _ _ (fun h => by cases h) ?_
    simp +contextual (maxSteps := 2000000) (disch := first | omega | (simp only [SZ]; first | done | omega) | (simp only [TS] at *; omega)) only [RZ, ovw, oneC, reduceAdd, reduceMul, reduceSub, reduceEqDiff, reduceLT, ↓reduceIte, Int.reduceToNat, reduceLeDiff]
    exact ⟨rfl, hb3⟩
  | false =>
    rw [hbd, if_neg (by simp)] at hr
    subst hr
    refine W_if_f rfl ?_
    rw [W_skip]
    refine hK _ _ ?_
    clear hK hX K
    have hl3 := h3.le
    refine W_piece fun K hK hX => ?_
    simp +contextual (maxSteps := 2000000) (disch := first | omega | (simp only [SZ]; first | done | omega) | (simp only [TS] at *; omega)) only [RZ, ovw, oneC, reduceAdd, reduceMul, reduceSub, reduceEqDiff, reduceLT, ↓reduceIte, Int.reduceToNat, reduceLeDiff,  f1, f3]
    refine (pbString_any h3.pb hx3 (by omega)).mono ?_
    rintro e w4 ⟨rfl, h4⟩
    refine ⟨_, rfl, ?_⟩
    try simp +contextual (maxSteps := 2000000) (disch := first | omega | (simp only [SZ]; first | done | omega) | (simp only [TS] at *; omega)) only [RZ, ovw, oneC, reduceAdd, reduceMul, reduceSub, reduceEqDiff, reduceLT, ↓reduceIte, Int.reduceToNat, reduceLeDiff,  f1, f3]
    refine hK _ _ ?_
    clear hK hX K
    simp +contextual (maxSteps := 2000000) (disch := first | omega | (simp only [SZ]; first | done | omega) | (simp only [TS] at *; omega)) only [RZ, ovw, oneC, reduceAdd, reduceMul, reduceSub, reduceEqDiff, reduceLT, ↓reduceIte, Int.reduceToNat, reduceLeDiff]
    exact hb3.trans (h4.mono (by omega))
end Go.Proofs.YtbdkggnajipdhaaGreatDoor
/- Walks: ruletext.Parse. -/
namespace Go.Proofs.YtbdkggnajipdhaaGreatDoor
open Nat (reduceAdd reduceMul reduceSub reduceEqDiff reduceLT reduceLeDiff)
open Go.RowKit
set_option maxRecDepth 100000
theorem invoke_clo (P : Program) (f : FuncId) (cap : List Value) (w : World) (hb : bodyB P f = true) : (invoke (.fn (.func f) cap.toArray) #[]).run P w = .ok (.enter f cap.toArray) w := by
  have := vCall_at (P := P) (f := f) (args := cap.toArray) (w := w)
  rw [hb, ifB_true] at this
  unfold vCall at this
  simpa [invoke] using this
set_option maxHeartbeats 4000000 in
theorem parse_any (s : ByteArray) (w : World) (hs : s.size ≤ 1000000) (hW : Laid w) (hw9 : 9 ≤ w.heap.size) : Calls Tryz.prog 9 #[.string s] w fun e w' => Below w.heap.size w w' ∧
    ∃ Va Vt, e = .returned (.tuple #[.agg (gmV (parseG s).1 Va Vt).toArray, .int .i64 (parseG s).2.1, .int .i64 (parseG s).2.2]) ∧ GmIn w' Va Vt (parseG s).1 := by
  refine calls_WpD (l := [_]) Tryz.func9 rfl _ Tryz.ntmps9 (by simp) ?_
  generalize hp : parseG s = r
  unfold parseG at hp
  generalize hPost : (fun (e : Ending) (w' : World) => Below w.heap.size w w' ∧ ∃ Va Vt, e = .returned (.tuple #[.agg (gmV r.1 Va Vt).toArray, .int .i64 r.2.1, .int .i64 r.2.2]) ∧ GmIn w' Va Vt r.1) = Post
  have hfin : ∀ {Va Vt : Value} {w' : World}, Below w.heap.size w w' → GmIn w' Va Vt r.1 → Post (.returned (.tuple #[.agg (gmV r.1 Va Vt).toArray, .int .i64 r.2.1, .int .i64 r.2.2])) w' := fun h1 h2 => by
    rw [← hPost]; exact ⟨h1, _, _, rfl, h2⟩
  refine WpD_seq (postX Tryz.prog Tryz.f9 Post) end_nil ?_
  simp +contextual (maxSteps := 2000000) (disch := first | omega | (simp only [SZ]; first | done | omega) | (simp only [TS] at *; omega)) only [PZ, RZ, ovw, oneC, reduceAdd, reduceMul, reduceSub, reduceEqDiff, reduceLT, ↓reduceIte, Int.reduceToNat, reduceLeDiff]
  have R1 := Row.new w 26 [Value.string ByteArray.empty, .int .i64 0, .int .i64 0, .int .i64 0, .int .i64 0, .int .i64 0, .int .i64 0, .int .i64 0, .int .i64 0, .int .i64 0, .int .i64 0, .int .i64 0, .int .i64 0, .int .i64 0, .int .i64 0, .int .i64 0, .int .i64 0, .int .i64 0, .int .i64 0, .int .i64 0, .slice none 0 0, .slice none 0 0]
  have R2 := Row.new (w.alloc (.cells #[Value.string ByteArray.empty, .int .i64 0, .int .i64 0, .int .i64 0, .int .i64 0, .int .i64 0, .int .i64 0, .int .i64 0, .int .i64 0, .int .i64 0, .int .i64 0, .int .i64 0, .int .i64 0, .int .i64 0, .int .i64 0, .int .i64 0, .int .i64 0, .int .i64 0, .int .i64 0, .int .i64 0, .slice none 0 0, .slice none 0 0] 26)) 27 [.int .i64 0]
  have R3 := Row.new ((w.alloc (.cells #[Value.string ByteArray.empty, .int .i64 0, .int .i64 0, .int .i64 0, .int .i64 0, .int .i64 0, .int .i64 0, .int .i64 0, .int .i64 0, .int .i64 0, .int .i64 0, .int .i64 0, .int .i64 0, .int .i64 0, .int .i64 0, .int .i64 0, .int .i64 0, .int .i64 0, .int .i64 0, .int .i64 0, .slice none 0 0, .slice none 0 0] 26)).alloc (.cells #[.int .i64 0] 27)) 3 [.int .i64 0]
  have hB0 := below_alloc w (.cells #[Value.string ByteArray.empty, .int .i64 0, .int .i64 0, .int .i64 0, .int .i64 0, .int .i64 0, .int .i64 0, .int .i64 0, .int .i64 0, .int .i64 0, .int .i64 0, .int .i64 0, .int .i64 0, .int .i64 0, .int .i64 0, .int .i64 0, .int .i64 0, .int .i64 0, .int .i64 0, .int .i64 0, .slice none 0 0, .slice none 0 0] 26)
  have z0 : ((w.alloc (.cells #[Value.string ByteArray.empty, .int .i64 0, .int .i64 0, .int .i64 0, .int .i64 0, .int .i64 0, .int .i64 0, .int .i64 0, .int .i64 0, .int .i64 0, .int .i64 0, .int .i64 0, .int .i64 0, .int .i64 0, .int .i64 0, .int .i64 0, .int .i64 0, .int .i64 0, .int .i64 0, .int .i64 0, .slice none 0 0, .slice none 0 0] 26)).alloc (.cells #[.int .i64 0] 27)).heap.size = w.heap.size + 1 + 1 := by rw [World.size_alloc, World.size_alloc]
  have z1 : (((w.alloc (.cells #[Value.string ByteArray.empty, .int .i64 0, .int .i64 0, .int .i64 0, .int .i64 0, .int .i64 0, .int .i64 0, .int .i64 0, .int .i64 0, .int .i64 0, .int .i64 0, .int .i64 0, .int .i64 0, .int .i64 0, .int .i64 0, .int .i64 0, .int .i64 0, .int .i64 0, .int .i64 0, .int .i64 0, .slice none 0 0, .slice none 0 0] 26)).alloc (.cells #[.int .i64 0] 27)).alloc (.cells #[.int .i64 0] 3)).heap.size = w.heap.size + 1 + 1 + 1 := by rw [World.size_alloc, z0]
  have hB1 := (hB0.trans ((below_alloc _ (.cells #[.int .i64 0] 27)).mono (by rw [World.size_alloc]; omega))).trans ((below_alloc _ (.cells #[.int .i64 0] 3)).mono (by rw [z0]; omega))
  replace R1 := (R1.alloc (.cells #[.int .i64 0] 27)).alloc (.cells #[.int .i64 0] 3)
  replace R2 := R2.alloc (.cells #[.int .i64 0] 3)
  rw [World.size_alloc] at R2
  rw [z0] at R3
  replace R1 : Row (((w.alloc (.cells #[Value.string ByteArray.empty, .int .i64 0, .int .i64 0, .int .i64 0, .int .i64 0, .int .i64 0, .int .i64 0, .int .i64 0, .int .i64 0, .int .i64 0, .int .i64 0, .int .i64 0, .int .i64 0, .int .i64 0, .int .i64 0, .int .i64 0, .int .i64 0, .int .i64 0, .int .i64 0, .int .i64 0, .slice none 0 0, .slice none 0 0] 26)).alloc (.cells #[.int .i64 0] 27)).alloc (.cells #[.int .i64 0] 3)) _ _ _ := R1
  replace R2 : Row (((w.alloc (.cells #[Value.string ByteArray.empty, .int .i64 0, .int .i64 0, .int .i64 0, .int .i64 0, .int .i64 0, .int .i64 0, .int .i64 0, .int .i64 0, .int .i64 0, .int .i64 0, .int .i64 0, .int .i64 0, .int .i64 0, .int .i64 0, .int .i64 0, .int .i64 0, .int .i64 0, .int .i64 0, .int .i64 0, .slice none 0 0, .slice none 0 0] 26)).alloc (.cells #[.int .i64 0] 27)).alloc (.cells #[.int .i64 0] 3)) _ _ _ := R2
  replace R3 : Row (((w.alloc (.cells #[Value.string ByteArray.empty, .int .i64 0, .int .i64 0, .int .i64 0, .int .i64 0, .int .i64 0, .int .i64 0, .int .i64 0, .int .i64 0, .int .i64 0, .int .i64 0, .int .i64 0, .int .i64 0, .int .i64 0, .int .i64 0, .int .i64 0, .int .i64 0, .int .i64 0, .int .i64 0, .int .i64 0, .slice none 0 0, .slice none 0 0] 26)).alloc (.cells #[.int .i64 0] 27)).alloc (.cells #[.int .i64 0] 3)) _ _ _ := R3
  clear hB0 z0
  generalize ((w.alloc (.cells #[Value.string ByteArray.empty, .int .i64 0, .int .i64 0, .int .i64 0, .int .i64 0, .int .i64 0, .int .i64 0, .int .i64 0, .int .i64 0, .int .i64 0, .int .i64 0, .int .i64 0, .int .i64 0, .int .i64 0, .int .i64 0, .int .i64 0, .int .i64 0, .int .i64 0, .int .i64 0, .int .i64 0, .slice none 0 0, .slice none 0 0] 26)).alloc (.cells #[.int .i64 0] 27)).alloc (.cells #[.int .i64 0] 3) = w0 at *
  generalize hn : w.heap.size = n at *
  refine WpD_seq (postX Tryz.prog Tryz.f9 Post) end_nil ?_
  simp +contextual (maxSteps := 2000000) (disch := first | omega | (simp only [SZ]; first | done | omega) | (simp only [TS] at *; omega)) only [PZ, RZ, ovw, oneC, reduceAdd, reduceMul, reduceSub, reduceEqDiff, reduceLT, ↓reduceIte, Int.reduceToNat, reduceLeDiff]
  refine (scan_any s w0 hs).mono ?_
  rintro e w1 ⟨hB2, v, rfl, A, c, rfl, hown⟩
  have htok := scan_tokOk (s := s)
  have hoff := scan_off (s := s)
  generalize hSC : scanE s = SC at *
  replace R1 := R1.below hB2
  replace R2 := R2.below hB2
  replace R3 := R3.below hB2
  have hF1 := hB1.trans (hB2.mono (by omega))
  have zz1 := hB2.size
  have e0 := R2.cell (i := 0) rfl
  have e0z := R2.frozen 0
  simp +contextual (maxSteps := 2000000) (disch := first | omega | (simp only [SZ]; first | done | omega) | (simp only [TS] at *; omega)) only [PZ, RZ, ovw, oneC, reduceAdd, reduceMul, reduceSub, reduceEqDiff, reduceLT, ↓reduceIte, Int.reduceToNat, reduceLeDiff,  e0, e0z]
  replace R1 := R1.far (p := ⟨n + 1, 0, none⟩) (by show n ≠ n + 1; omega) (.int .i64 SC.1)
  replace R3 := R3.far (p := ⟨n + 1, 0, none⟩) (by show n + 1 + 1 ≠ n + 1; omega) (.int .i64 SC.1)
  replace R2 := R2.set_ (i := 0) (by simp) (.int .i64 SC.1)
  replace R2 : Row (w1.setCell ⟨n + 1, 0, none⟩ (.int .i64 SC.1)) (n + 1) 27 [.int .i64 SC.1] := R2
  have hF2 : Below n w (w1.setCell ⟨n + 1, 0, none⟩ (.int .i64 SC.1)) := hF1.setCell (p := ⟨n + 1, 0, none⟩) (by show n ≤ n + 1; omega) _
  replace hown : (w1.setCell ⟨n + 1, 0, none⟩ (.int .i64 SC.1)).ownsRow w0.heap.size 62 4 (.slice A SC.2.2.length c) SC.2.2.length (SC.2.2.flatMap encTk) := owns_keep hown fun b hb => Below.heap_setCell _ _ _ _ (by have := (owns_ge hown hb).1; show b ≠ n + 1; omega)
  have zz2 : w1.heap.size ≤ (w1.setCell ⟨n + 1, 0, none⟩ (.int .i64 SC.1)).heap.size := by rw [World.size_setCell]; exact Nat.le_refl _
  generalize w1.setCell ⟨n + 1, 0, none⟩ (.int .i64 SC.1) = w2 at *
  clear e0 e0z
  have e0 := R2.cell (i := 0) rfl
  refine WpD_seq (postX Tryz.prog Tryz.f9 Post) end_nil ?_
  refine WX_piece fun K hK hX => ?_
  simp +contextual (maxSteps := 2000000) (disch := first | omega | (simp only [SZ]; first | done | omega) | (simp only [TS] at *; omega)) only [PZ, RZ, ovw, oneC, reduceAdd, reduceMul, reduceSub, reduceEqDiff, reduceLT, ↓reduceIte, Int.reduceToNat, reduceLeDiff,  e0]
  refine hK _ _ ?_
  clear hK hX K
  by_cases hc3 : SC.1 = 3
  · rw [if_pos hc3] at hp
    subst hp
    have hd3 : decide (SC.1 = 3) = true := by simpa using hc3
    refine WX_if_t (by rw [show ev _ (.tmp 15) = .bool (decide (SC.1 = 3)) from rfl, hd3]) ?_
    refine WX_piece fun K hK hX => ?_
    simp +contextual (maxSteps := 2000000) (disch := first | omega | (simp only [SZ]; first | done | omega) | (simp only [TS] at *; omega)) only [PZ, RZ, ovw, oneC, reduceAdd, reduceMul, reduceSub, reduceEqDiff, reduceLT, ↓reduceIte, Int.reduceToNat, reduceLeDiff]
    refine RawD_mono (Q := fun e σ w' => e = .normal ∧ Row w' n 26 [Value.string ByteArray.empty, .int .i64 0, .int .i64 0, .int .i64 0, .int .i64 0, .int .i64 0, .int .i64 0, .int .i64 0, .int .i64 0, .int .i64 0, .int .i64 0, .int .i64 0, .int .i64 0, .int .i64 0, .int .i64 0, .int .i64 0, .int .i64 0, .int .i64 0, .int .i64 0, .int .i64 0, .slice none 0 0, .slice none 0 0] ∧ Row w' (n + 1) 27 [.int .i64 SC.1] ∧ Row w' (n + 1 + 1) 3 [.int .i64 0] ∧ Below n w w' ∧ σ 2 = .pointer (some ⟨n, 0, none⟩) ∧ σ 3 = .pointer (some ⟨n + 1, 0, none⟩) ∧ σ 4 = .pointer (some ⟨n + 1 + 1, 0, none⟩)) ?_ ?_
    · rintro e σ w' ⟨rfl, q1, q2, q3, q4, f2, f3, f4⟩
      refine hK _ _ ?_
      have y0 := q1.cell (i := 0) rfl
      have y1 := q1.cell (i := 1) rfl
      have y2 := q1.cell (i := 2) rfl
      have y3 := q1.cell (i := 3) rfl
      have y4 := q1.cell (i := 4) rfl
      have y5 := q1.cell (i := 5) rfl
      have y6 := q1.cell (i := 6) rfl
      have y7 := q1.cell (i := 7) rfl
      have y8 := q1.cell (i := 8) rfl
      have y9 := q1.cell (i := 9) rfl
      have y10 := q1.cell (i := 10) rfl
      have y11 := q1.cell (i := 11) rfl
      have y12 := q1.cell (i := 12) rfl
      have y13 := q1.cell (i := 13) rfl
      have y14 := q1.cell (i := 14) rfl
      have y15 := q1.cell (i := 15) rfl
      have y16 := q1.cell (i := 16) rfl
      have y17 := q1.cell (i := 17) rfl
      have y18 := q1.cell (i := 18) rfl
      have y19 := q1.cell (i := 19) rfl
      have y20 := q1.cell (i := 20) rfl
      have y21 := q1.cell (i := 21) rfl
      have x0 := q2.cell (i := 0) rfl
      have l0 := q3.cell (i := 0) rfl
      simp +contextual (maxSteps := 2000000) (disch := first | omega | (simp only [SZ]; first | done | omega) | (simp only [TS] at *; omega)) only [PZ, RZ, ovw, oneC, reduceAdd, reduceMul, reduceSub, reduceEqDiff, reduceLT, ↓reduceIte, Int.reduceToNat, reduceLeDiff,  f2, f3, f4, x0, l0, y0, y1, y2, y3, y4, y5, y6, y7, y8, y9, y10, y11, y12, y13, y14, y15, y16, y17, y18, y19, y20, y21]
      have := hfin (Va := .slice none 0 0) (Vt := .slice none 0 0) q4 (GmIn.nil w')
      rw [hc3]
      exact this
    · clear hK hX K
      refine RawD_of (Raw_rcS (τ := ?ta) (fun w' => Row w' (n + 1) 27 [.int .i64 SC.1]) [0, 1] [2, 3, 4] MX rfl (by kernel_rfl) (by kernel_rfl) (by kernel_rfl) (fun _ _ _ h => Exit.noConfusion h.1) R2 (fun w7 h7 => ?_) ?_); rotate_left
      · have x0 := h7.cell (i := 0) rfl
        simp only [opsL_cons, opsL_nil, List.getElem?_toArray, List.getElem?_cons_zero, List.getElem?_cons_succ, optL_some]
        simp +contextual (maxSteps := 2000000) (disch := first | omega | (simp only [SZ]; first | done | omega) | (simp only [TS] at *; omega)) only [RZ, ovw, oneC, reduceAdd, reduceMul, reduceSub, reduceEqDiff, reduceLT, ↓reduceIte, Int.reduceToNat, reduceLeDiff,  x0]
        exact rfl
      replace R1 : Row w2.drew n 26 _ := R1
      replace R2 : Row w2.drew (n + 1) 27 _ := R2
      replace R3 : Row w2.drew (n + 1 + 1) 3 _ := R3
      replace hF2 : Below n w w2.drew := below_drew hF2
      generalize w2.drew = w3 at *
      have y0 := R1.cell (i := 0) rfl
      have yz0 := R1.frozen 0
      have y1 := R1.cell (i := 1) rfl
      have yz1 := R1.frozen 1
      have y2 := R1.cell (i := 2) rfl
      have yz2 := R1.frozen 2
      have y3 := R1.cell (i := 3) rfl
      have yz3 := R1.frozen 3
      have y4 := R1.cell (i := 4) rfl
      have yz4 := R1.frozen 4
      have y5 := R1.cell (i := 5) rfl
      have yz5 := R1.frozen 5
      have y6 := R1.cell (i := 6) rfl
      have yz6 := R1.frozen 6
      have y7 := R1.cell (i := 7) rfl
      have yz7 := R1.frozen 7
      have y8 := R1.cell (i := 8) rfl
      have yz8 := R1.frozen 8
      have y9 := R1.cell (i := 9) rfl
      have yz9 := R1.frozen 9
      have y10 := R1.cell (i := 10) rfl
      have yz10 := R1.frozen 10
      have y11 := R1.cell (i := 11) rfl
      have yz11 := R1.frozen 11
      have y12 := R1.cell (i := 12) rfl
      have yz12 := R1.frozen 12
      have y13 := R1.cell (i := 13) rfl
      have yz13 := R1.frozen 13
      have y14 := R1.cell (i := 14) rfl
      have yz14 := R1.frozen 14
      have y15 := R1.cell (i := 15) rfl
      have yz15 := R1.frozen 15
      have y16 := R1.cell (i := 16) rfl
      have yz16 := R1.frozen 16
      have y17 := R1.cell (i := 17) rfl
      have yz17 := R1.frozen 17
      have y18 := R1.cell (i := 18) rfl
      have yz18 := R1.frozen 18
      have y19 := R1.cell (i := 19) rfl
      have yz19 := R1.frozen 19
      have y20 := R1.cell (i := 20) rfl
      have yz20 := R1.frozen 20
      have y21 := R1.cell (i := 21) rfl
      have yz21 := R1.frozen 21
      have x0 := R2.cell (i := 0) rfl
      have x0z := R2.frozen 0
      have l0 := R3.cell (i := 0) rfl
      have l0z := R3.frozen 0
      simp only [opsL_cons, opsL_nil, List.getElem?_toArray, List.getElem?_cons_zero, List.getElem?_cons_succ, optL_some]
      simp +contextual (maxSteps := 2000000) (disch := first | omega | (simp only [SZ]; first | done | omega) | (simp only [TS] at *; omega)) only [RZ, ovw, oneC, reduceAdd, reduceMul, reduceSub, reduceEqDiff, reduceLT, ↓reduceIte, Int.reduceToNat, reduceLeDiff,  EC_op, EC_nil, x0, x0z, l0, l0z, y0, yz0, y1, yz1, y2, yz2, y3, yz3, y4, yz4, y5, yz5, y6, yz6, y7, yz7, y8, yz8, y9, yz9, y10, yz10, y11, yz11, y12, yz12, y13, yz13, y14, yz14, y15, yz15, y16, yz16, y17, yz17, y18, yz18, y19, yz19, y20, yz20, y21, yz21]
      have S1 := stW_row (g := n) (T := 26) [Value.string ByteArray.empty, .int .i64 0, .int .i64 0, .int .i64 0, .int .i64 0, .int .i64 0, .int .i64 0, .int .i64 0, .int .i64 0, .int .i64 0, .int .i64 0, .int .i64 0, .int .i64 0, .int .i64 0, .int .i64 0, .int .i64 0, .int .i64 0, .int .i64 0, .int .i64 0, .int .i64 0, .slice none 0 0, .slice none 0 0] 0 w3 _ R1 rfl
      have kA := stW_kept (X := [n]) (g := n) (by simp) [Value.string ByteArray.empty, .int .i64 0, .int .i64 0, .int .i64 0, .int .i64 0, .int .i64 0, .int .i64 0, .int .i64 0, .int .i64 0, .int .i64 0, .int .i64 0, .int .i64 0, .int .i64 0, .int .i64 0, .int .i64 0, .int .i64 0, .int .i64 0, .int .i64 0, .int .i64 0, .int .i64 0, .slice none 0 0, .slice none 0 0] 0 w3 w3 (Kept.refl _ _)
      simp only [stW, reduceAdd, List.take_zero, List.nil_append] at S1 kA
      have hFA : Below n w _ := hF2.trans ⟨kA.os, kA.tape, kA.output, kA.size, fun i hi => kA.block i (by have := hF2.size; omega) (by simp; omega)⟩
      replace R2 := R2.kept kA (by simp)
      replace R3 := R3.kept kA (by simp; omega)
      clear kA x0 x0z l0 l0z
      generalize w3.setCell ⟨n, 0, none⟩ _ = u0 at *
      have T2 := R2.set_ (i := 0) (by simp) (.int .i64 SC.1)
      have T3 := (R3.far (p := ⟨n + 1, 0, none⟩) (by show n + 1 + 1 ≠ n + 1; omega) (.int .i64 SC.1)).set_ (i := 0) (by simp) (.int .i64 0)
      refine ⟨R2, T2, T2.far (p := ⟨n + 1 + 1, 0, none⟩) (by show n + 1 ≠ n + 1 + 1; omega) _, (S1.far (p := ⟨n + 1, 0, none⟩) (by show n ≠ n + 1; omega) _).far (p := ⟨n + 1 + 1, 0, none⟩) (by show n ≠ n + 1 + 1; omega) _, T2.far (p := ⟨n + 1 + 1, 0, none⟩) (by show n + 1 ≠ n + 1 + 1; omega) _, T3, (hFA.setCell (p := ⟨n + 1, 0, none⟩) (by show n ≤ n + 1; omega) _).setCell (p := ⟨n + 1 + 1, 0, none⟩) (by show n ≤ n + 1 + 1; omega) _⟩
  rw [if_neg hc3] at hp
  have hd3 : decide (SC.1 = 3) = false := by simpa using hc3
  refine WX_if_f (by rw [show ev _ (.tmp 15) = .bool (decide (SC.1 = 3)) from rfl, hd3]) ?_
  rw [WX_skip, thenX_normal]
  refine WpD_seq (postX Tryz.prog Tryz.f9 Post) end_nil ?_
  refine WX_piece fun K hK hX => ?_
  simp +contextual (maxSteps := 2000000) (disch := first | omega | (simp only [SZ]; first | done | omega) | (simp only [TS] at *; omega)) only [PZ, RZ, ovw, oneC, reduceAdd, reduceMul, reduceSub, reduceEqDiff, reduceLT, ↓reduceIte, Int.reduceToNat, reduceLeDiff,  e0]
  refine hK _ _ ?_
  clear hK hX K
  by_cases hc0 : SC.1 = 0
  · rw [if_neg (fun h => h hc0)] at hp
    have hd0 : (!decide (SC.1 = 0)) = false := by simpa using hc0
    refine WX_if_f (by rw [show ev _ (.tmp 19) = .bool (!decide (SC.1 = 0)) from rfl, hd0]) ?_
    rw [WX_skip, thenX_normal]
    obtain ⟨hTk, hpos⟩ := htok hc0
    have hBF : bodyB Tryz.prog 21 = true := by kernel_rfl
    have hinv : ∀ w', (invoke (.fn (.func 21) #[.pointer (some ⟨n, 0, none⟩), .pointer (some ⟨n + 1, 0, none⟩), .pointer (some ⟨n + 1 + 1, 0, none⟩)]) #[]).run Tryz.prog w' = .ok (.enter 21 #[.pointer (some ⟨n, 0, none⟩), .pointer (some ⟨n + 1, 0, none⟩), .pointer (some ⟨n + 1 + 1, 0, none⟩)]) w' :=
      fun w' => invoke_clo Tryz.prog 21 [.pointer (some ⟨n, 0, none⟩), .pointer (some ⟨n + 1, 0, none⟩), .pointer (some ⟨n + 1 + 1, 0, none⟩)] w' hBF
    have hdoor := end_one (fn := Tryz.f9) (R := Post) (n := 34) hinv
    generalize hσ : upd _ 19 _ = σ5
    have s2 : σ5 2 = .pointer (some ⟨n, 0, none⟩) := by rw [← hσ]; rfl
    have s3 : σ5 3 = .pointer (some ⟨n + 1, 0, none⟩) := by rw [← hσ]; rfl
    have s4 : σ5 4 = .pointer (some ⟨n + 1 + 1, 0, none⟩) := by rw [← hσ]; rfl
    have s5 : σ5 5 = .slice A SC.2.2.length c := by rw [← hσ]; rfl
    clear hσ
    intro a hf
    refine wp_seq (wp_region_list (wp_mkdefer (caps := [.tmp 2, .tmp 3, .tmp 4]) hf (by omega) fun a' hf' => ?_))
    rw [show [Operand.tmp 2, .tmp 3, .tmp 4].map (ev σ5) = [σ5 2, σ5 3, σ5 4] from rfl, s2, s3, s4] at hf'
    refine WpD_of _ hdoor ?_ a' hf'
    clear hf hf' a a'
    have g2 : (upd σ5 27 (.func (.func 21) #[] #[.pointer (some ⟨n, 0, none⟩), .pointer (some ⟨n + 1, 0, none⟩), .pointer (some ⟨n + 1 + 1, 0, none⟩)])) 2 = .pointer (some ⟨n, 0, none⟩) := s2
    have g3 : (upd σ5 27 (.func (.func 21) #[] #[.pointer (some ⟨n, 0, none⟩), .pointer (some ⟨n + 1, 0, none⟩), .pointer (some ⟨n + 1 + 1, 0, none⟩)])) 3 = .pointer (some ⟨n + 1, 0, none⟩) := s3
    have g4 : (upd σ5 27 (.func (.func 21) #[] #[.pointer (some ⟨n, 0, none⟩), .pointer (some ⟨n + 1, 0, none⟩), .pointer (some ⟨n + 1 + 1, 0, none⟩)])) 4 = .pointer (some ⟨n + 1 + 1, 0, none⟩) := s4
    have g5 : (upd σ5 27 (.func (.func 21) #[] #[.pointer (some ⟨n, 0, none⟩), .pointer (some ⟨n + 1, 0, none⟩), .pointer (some ⟨n + 1 + 1, 0, none⟩)])) 5 = .slice A SC.2.2.length c := s5
    generalize upd σ5 27 _ = σ6 at *
    clear s2 s3 s4 s5
    refine WX_piece fun K hK hX => ?_
    simp +contextual (maxSteps := 2000000) (disch := first | omega | (simp only [SZ]; first | done | omega) | (simp only [TS] at *; omega)) only [PZ, RZ, ovw, oneC, reduceAdd, reduceMul, reduceSub, reduceEqDiff, reduceLT, ↓reduceIte, Int.reduceToNat, reduceLeDiff,  g2, g3, g4, g5]
    have hM := below_alloc w2 (.map #[] 0)
    have sn := SeenIn.new w2
    have zM : (w2.alloc (.map #[] 0)).heap.size = w2.heap.size + 1 := World.size_alloc _ _
    have pr := Row.new (w2.alloc (.map #[] 0)) 55 [.slice A SC.2.2.length c, .int .i64 0, .map (some w2.heap.size), .string ByteArray.empty, .int .i64 0, .int .i64 0, .int .i64 0, .int .i64 0, .int .i64 0, .int .i64 0, .int .i64 0, .int .i64 0, .int .i64 0, .int .i64 0, .int .i64 0, .int .i64 0, .int .i64 0, .int .i64 0, .int .i64 0, .int .i64 0, .int .i64 0, .int .i64 0, .int .i64 0, .slice none 0 0, .slice none 0 0]
    have hP := below_alloc (w2.alloc (.map #[] 0)) (.cells #[Value.slice A SC.2.2.length c, .int .i64 0, .map (some w2.heap.size), .string ByteArray.empty, .int .i64 0, .int .i64 0, .int .i64 0, .int .i64 0, .int .i64 0, .int .i64 0, .int .i64 0, .int .i64 0, .int .i64 0, .int .i64 0, .int .i64 0, .int .i64 0, .int .i64 0, .int .i64 0, .int .i64 0, .int .i64 0, .int .i64 0, .int .i64 0, .int .i64 0, .slice none 0 0, .slice none 0 0] 55)
    replace pr : Row ((w2.alloc (.map #[] 0)).alloc (.cells #[Value.slice A SC.2.2.length c, .int .i64 0, .map (some w2.heap.size), .string ByteArray.empty, .int .i64 0, .int .i64 0, .int .i64 0, .int .i64 0, .int .i64 0, .int .i64 0, .int .i64 0, .int .i64 0, .int .i64 0, .int .i64 0, .int .i64 0, .int .i64 0, .int .i64 0, .int .i64 0, .int .i64 0, .int .i64 0, .int .i64 0, .int .i64 0, .int .i64 0, .slice none 0 0, .slice none 0 0] 55)) _ _ _ := pr
    rw [zM] at pr
    have hB3 : Below w2.heap.size w2 _ := hM.trans (hP.mono (by omega))
    replace sn := sn.kept (Kept.of_below (X := []) hP) (by simp)
    have zP : ((w2.alloc (.map #[] 0)).alloc (.cells #[Value.slice A SC.2.2.length c, .int .i64 0, .map (some w2.heap.size), .string ByteArray.empty, .int .i64 0, .int .i64 0, .int .i64 0, .int .i64 0, .int .i64 0, .int .i64 0, .int .i64 0, .int .i64 0, .int .i64 0, .int .i64 0, .int .i64 0, .int .i64 0, .int .i64 0, .int .i64 0, .int .i64 0, .int .i64 0, .int .i64 0, .int .i64 0, .int .i64 0, .slice none 0 0, .slice none 0 0] 55)).heap.size = w2.heap.size + 1 + 1 := by rw [World.size_alloc, zM]
    clear hM hP zM
    generalize hw3 : (w2.alloc (.map #[] 0)).alloc (.cells #[Value.slice A SC.2.2.length c, .int .i64 0, .map (some w2.heap.size), .string ByteArray.empty, .int .i64 0, .int .i64 0, .int .i64 0, .int .i64 0, .int .i64 0, .int .i64 0, .int .i64 0, .int .i64 0, .int .i64 0, .int .i64 0, .int .i64 0, .int .i64 0, .int .i64 0, .int .i64 0, .int .i64 0, .int .i64 0, .int .i64 0, .int .i64 0, .int .i64 0, .slice none 0 0, .slice none 0 0] 55) = w3 at *
    clear hw3
    refine hK _ _ ?_
    clear hK hX K
    have hrow := owns_row hown hpos |>.choose_spec
    generalize (owns_row hown hpos).choose = gt at *
    obtain ⟨rfl, hgt, hrt, _, _⟩ := hrow
    have harr : Arr w2 (some ⟨gt, 0, none⟩) 4 (SC.2.2.map encTk) := hrt.arr (fun _ => rfl)
    have hgtl := hrt.lt
    have hF3 : Below n w w3 := hF2.trans (hB3.mono (by omega))
    have h0 : GmSt w3 w2.heap.size (w2.heap.size + 1) w2.heap.size (some ⟨gt, 0, none⟩) c SC.2.2 0 noGm [] (.slice none 0 0) (.slice none 0 0) [] := by
      refine ⟨⟨hpos, harr.below hB3, fun b o e => by injection e with e; injection e with e; omega, pr⟩, sn, ⟨rfl, fun i cs x h => by simp at h⟩, owns_nil _ _ _ _, owns_nil _ _ _ _, Nat.le_refl _, Nat.le_refl _, fun _ => rfl, fun b o e => by injection e with e; injection e with e; omega, by omega, by omega, Nat.le_refl _, by omega⟩
    have hW3 : Laid w3 := hW.below hF3 (by omega)
    have Q1 := R1.below hB3
    have Q2 := R2.below hB3
    have Q3 := R3.below hB3
    have hlts : n + 1 + 1 < w2.heap.size := R3.lt
    refine WX_piece fun K hK hX => ?_
    simp +contextual (maxSteps := 2000000) (disch := first | omega | (simp only [SZ]; first | done | omega) | (simp only [TS] at *; omega)) only [PZ, RZ, ovw, oneC, reduceAdd, reduceMul, reduceSub, reduceEqDiff, reduceLT, ↓reduceIte, Int.reduceToNat, reduceLeDiff,  g2, g3, g4, g5]
    refine (paRules_any h0 hTk hW3).mono ?_
    rintro e w4 ⟨hB4, he⟩
    have P1 := Q1.of_block (hB4.block n (by omega))
    have P2 := Q2.of_block (hB4.block (n + 1) (by omega))
    have P3 := Q3.of_block (hB4.block (n + 1 + 1) (by omega))
    have hF4 : Below n w w4 := hF3.trans (hB4.mono (by omega))
    cases hg : gameT SC.2.2 with
    | error x =>
      rw [hg] at he hp
      obtain ⟨en, L⟩ := x
      have he : e = _ := he
      subst he
      dsimp only at hp
      subst hp
      rw [Ends_pan]
      refine hX _ _ _ (fun h => by cases h) ?_
      rw [postD_pan]
      refine (clo_pan P1 rfl P2 P3 (by omega) (by omega) (by omega)).mono ?_
      rintro e u' w5 ⟨rfl, rfl, T1, T2, T3, k5⟩
      refine ⟨⟨_, rfl⟩, rfl, ?_⟩
      have hF5 : Below n w w5 := hF4.trans ⟨k5.os, k5.tape, k5.output, k5.size, fun i hi => k5.block i (by have := hF4.size; omega) (by simp; omega)⟩
      have y0 := T1.cell (i := 0) rfl
      have y1 := T1.cell (i := 1) rfl
      have y2 := T1.cell (i := 2) rfl
      have y3 := T1.cell (i := 3) rfl
      have y4 := T1.cell (i := 4) rfl
      have y5 := T1.cell (i := 5) rfl
      have y6 := T1.cell (i := 6) rfl
      have y7 := T1.cell (i := 7) rfl
      have y8 := T1.cell (i := 8) rfl
      have y9 := T1.cell (i := 9) rfl
      have y10 := T1.cell (i := 10) rfl
      have y11 := T1.cell (i := 11) rfl
      have y12 := T1.cell (i := 12) rfl
      have y13 := T1.cell (i := 13) rfl
      have y14 := T1.cell (i := 14) rfl
      have y15 := T1.cell (i := 15) rfl
      have y16 := T1.cell (i := 16) rfl
      have y17 := T1.cell (i := 17) rfl
      have y18 := T1.cell (i := 18) rfl
      have y19 := T1.cell (i := 19) rfl
      have y20 := T1.cell (i := 20) rfl
      have y21 := T1.cell (i := 21) rfl
      have x0 := T2.cell (i := 0) rfl
      have l0 := T3.cell (i := 0) rfl
      simp +contextual (maxSteps := 2000000) (disch := first | omega | (simp only [SZ]; first | done | omega) | (simp only [TS] at *; omega)) only [PZ, RZ, ovw, oneC, reduceAdd, reduceMul, reduceSub, reduceEqDiff, reduceLT, ↓reduceIte, Int.reduceToNat, reduceLeDiff,  g2, g3, g4, x0, l0, y0, y1, y2, y3, y4, y5, y6, y7, y8, y9, y10, y11, y12, y13, y14, y15, y16, y17, y18, y19, y20, y21]
      exact hfin (Va := .slice none 0 0) (Vt := .slice none 0 0) hF5 (GmIn.nil w5)
    | ok G =>
      rw [hg] at he hp
      obtain ⟨rfl, a8, seen8, Va, Vt, Vs, h8⟩ := he
      dsimp only at hp
      subst hp
      rw [Ends_ret]
      refine hK _ _ ?_
      clear hK hX K
      refine WX_piece fun K hK hX => ?_
      obtain ⟨⟨Aa, ca, Vs', rfl, _⟩, At, ct, rfl, _⟩ := h8.game
      have p0 := h8.pk.row.cell (i := 3) rfl
      have p1 := h8.pk.row.cell (i := 4) rfl
      have p2 := h8.pk.row.cell (i := 5) rfl
      have p3 := h8.pk.row.cell (i := 6) rfl
      have p4 := h8.pk.row.cell (i := 7) rfl
      have p5 := h8.pk.row.cell (i := 8) rfl
      have p6 := h8.pk.row.cell (i := 9) rfl
      have p7 := h8.pk.row.cell (i := 10) rfl
      have p8 := h8.pk.row.cell (i := 11) rfl
      have p9 := h8.pk.row.cell (i := 12) rfl
      have p10 := h8.pk.row.cell (i := 13) rfl
      have p11 := h8.pk.row.cell (i := 14) rfl
      have p12 := h8.pk.row.cell (i := 15) rfl
      have p13 := h8.pk.row.cell (i := 16) rfl
      have p14 := h8.pk.row.cell (i := 17) rfl
      have p15 := h8.pk.row.cell (i := 18) rfl
      have p16 := h8.pk.row.cell (i := 19) rfl
      have p17 := h8.pk.row.cell (i := 20) rfl
      have p18 := h8.pk.row.cell (i := 21) rfl
      have p19 := h8.pk.row.cell (i := 22) rfl
      have p20 := h8.pk.row.cell (i := 23) rfl
      have p21 := h8.pk.row.cell (i := 24) rfl
      have y0 := P1.cell (i := 0) rfl
      have yz0 := P1.frozen 0
      have y1 := P1.cell (i := 1) rfl
      have yz1 := P1.frozen 1
      have y2 := P1.cell (i := 2) rfl
      have yz2 := P1.frozen 2
      have y3 := P1.cell (i := 3) rfl
      have yz3 := P1.frozen 3
      have y4 := P1.cell (i := 4) rfl
      have yz4 := P1.frozen 4
      have y5 := P1.cell (i := 5) rfl
      have yz5 := P1.frozen 5
      have y6 := P1.cell (i := 6) rfl
      have yz6 := P1.frozen 6
      have y7 := P1.cell (i := 7) rfl
      have yz7 := P1.frozen 7
      have y8 := P1.cell (i := 8) rfl
      have yz8 := P1.frozen 8
      have y9 := P1.cell (i := 9) rfl
      have yz9 := P1.frozen 9
      have y10 := P1.cell (i := 10) rfl
      have yz10 := P1.frozen 10
      have y11 := P1.cell (i := 11) rfl
      have yz11 := P1.frozen 11
      have y12 := P1.cell (i := 12) rfl
      have yz12 := P1.frozen 12
      have y13 := P1.cell (i := 13) rfl
      have yz13 := P1.frozen 13
      have y14 := P1.cell (i := 14) rfl
      have yz14 := P1.frozen 14
      have y15 := P1.cell (i := 15) rfl
      have yz15 := P1.frozen 15
      have y16 := P1.cell (i := 16) rfl
      have yz16 := P1.frozen 16
      have y17 := P1.cell (i := 17) rfl
      have yz17 := P1.frozen 17
      have y18 := P1.cell (i := 18) rfl
      have yz18 := P1.frozen 18
      have y19 := P1.cell (i := 19) rfl
      have yz19 := P1.frozen 19
      have y20 := P1.cell (i := 20) rfl
      have yz20 := P1.frozen 20
      have y21 := P1.cell (i := 21) rfl
      have yz21 := P1.frozen 21
      have x0 := P2.cell (i := 0) rfl
      have x0z := P2.frozen 0
      have l0 := P3.cell (i := 0) rfl
      have l0z := P3.frozen 0
      simp +contextual (maxSteps := 2000000) (disch := first | omega | (simp only [SZ]; first | done | omega) | (simp only [TS] at *; omega)) only [PZ, RZ, ovw, oneC, reduceAdd, reduceMul, reduceSub, reduceEqDiff, reduceLT, ↓reduceIte, Int.reduceToNat, reduceLeDiff,  g2, g3, g4, x0, x0z, l0, l0z, p0, p1, p2, p3, p4, p5, p6, p7, p8, p9, p10, p11, p12, p13, p14, p15, p16, p17, p18, p19, p20, p21, y0, yz0, y1, yz1, y2, yz2, y3, yz3, y4, yz4, y5, yz5, y6, yz6, y7, yz7, y8, yz8, y9, yz9, y10, yz10, y11, yz11, y12, yz12, y13, yz13, y14, yz14, y15, yz15, y16, yz16, y17, yz17, y18, yz18, y19, yz19, y20, yz20, y21, yz21]
      have S1 := stW_row (g := n) (T := 26) [Value.string G.name, .int .i64 (G.n 0), .int .i64 (G.n 1), .int .i64 (G.n 2), .int .i64 (G.n 3), .int .i64 (G.n 4), .int .i64 (G.n 5), .int .i64 (G.n 6), .int .i64 (G.n 7), .int .i64 (G.n 8), .int .i64 (G.n 9), .int .i64 (G.n 10), .int .i64 (G.n 11), .int .i64 (G.n 12), .int .i64 (G.n 13), .int .i64 (G.n 14), .int .i64 (G.n 15), .int .i64 (G.n 16), .int .i64 (G.n 17), .int .i64 (G.n 18), .slice Aa G.addons.length ca, .slice At G.tiers.length ct] 0 w4 _ P1 rfl
      have kA := stW_kept (X := [n]) (g := n) (by simp) [Value.string G.name, .int .i64 (G.n 0), .int .i64 (G.n 1), .int .i64 (G.n 2), .int .i64 (G.n 3), .int .i64 (G.n 4), .int .i64 (G.n 5), .int .i64 (G.n 6), .int .i64 (G.n 7), .int .i64 (G.n 8), .int .i64 (G.n 9), .int .i64 (G.n 10), .int .i64 (G.n 11), .int .i64 (G.n 12), .int .i64 (G.n 13), .int .i64 (G.n 14), .int .i64 (G.n 15), .int .i64 (G.n 16), .int .i64 (G.n 17), .int .i64 (G.n 18), .slice Aa G.addons.length ca, .slice At G.tiers.length ct] 0 w4 w4 (Kept.refl _ _)
      simp only [stW, reduceAdd, List.take_zero, List.nil_append] at S1 kA
      replace P2 := P2.kept kA (by simp)
      replace P3 := P3.kept kA (by simp; omega)
      generalize w4.setCell ⟨n, 0, none⟩ _ = u0 at *
      have T2 := (P2.set_ (i := 0) (by simp) (.int .i64 0)).far (p := ⟨n + 1 + 1, 0, none⟩) (by show n + 1 ≠ n + 1 + 1; omega) (.int .i64 0)
      have T3 := (P3.far (p := ⟨n + 1, 0, none⟩) (by show n + 1 + 1 ≠ n + 1; omega) (.int .i64 0)).set_ (i := 0) (by simp) (.int .i64 0)
      have T1 := (S1.far (p := ⟨n + 1, 0, none⟩) (by show n ≠ n + 1; omega) (.int .i64 0)).far (p := ⟨n + 1 + 1, 0, none⟩) (by show n ≠ n + 1 + 1; omega) (.int .i64 0)
      have kB := ((kA.less (Y := [n, n + 1, n + 1 + 1]) fun k hk _ => by simp at hk ⊢; exact .inl hk).setCell (p := ⟨n + 1, 0, none⟩) (by simp) (.int .i64 0)).setCell (p := ⟨n + 1 + 1, 0, none⟩) (by simp) (.int .i64 0)
      clear kA S1 P2 P3 x0 x0z l0 l0z
      refine hK _ _ ?_
      clear hK hX K
      generalize World.setCell _ ⟨n + 1 + 1, 0, none⟩ _ = w5 at *
      have hF5 : Below n w w5 := hF4.trans ⟨kB.os, kB.tape, kB.output, kB.size, fun i hi => kB.block i (by have := hF4.size; omega) (by simp; omega)⟩
      have hgm : GmIn w5 (.slice Aa G.addons.length ca) (.slice At G.tiers.length ct) G := h8.game2 kB.size (fun k h1 h2 => kB.block k h2 (by simp; omega)) (h8.pk.arr.kept kB (fun b o e => by injection e with e; injection e with e; have := z1; simp; omega))
      rw [WX_ret, postD_ret]
      refine (clo_ret n (n + 1) (n + 1 + 1) w5).mono ?_
      rintro e u' w6 ⟨rfl, rfl, rfl⟩
      refine ⟨⟨_, rfl⟩, rfl, ?_⟩
      have y0 := T1.cell (i := 0) rfl
      have y1 := T1.cell (i := 1) rfl
      have y2 := T1.cell (i := 2) rfl
      have y3 := T1.cell (i := 3) rfl
      have y4 := T1.cell (i := 4) rfl
      have y5 := T1.cell (i := 5) rfl
      have y6 := T1.cell (i := 6) rfl
      have y7 := T1.cell (i := 7) rfl
      have y8 := T1.cell (i := 8) rfl
      have y9 := T1.cell (i := 9) rfl
      have y10 := T1.cell (i := 10) rfl
      have y11 := T1.cell (i := 11) rfl
      have y12 := T1.cell (i := 12) rfl
      have y13 := T1.cell (i := 13) rfl
      have y14 := T1.cell (i := 14) rfl
      have y15 := T1.cell (i := 15) rfl
      have y16 := T1.cell (i := 16) rfl
      have y17 := T1.cell (i := 17) rfl
      have y18 := T1.cell (i := 18) rfl
      have y19 := T1.cell (i := 19) rfl
      have y20 := T1.cell (i := 20) rfl
      have y21 := T1.cell (i := 21) rfl
      have x0 := T2.cell (i := 0) rfl
      have l0 := T3.cell (i := 0) rfl
      simp +contextual (maxSteps := 2000000) (disch := first | omega | (simp only [SZ]; first | done | omega) | (simp only [TS] at *; omega)) only [PZ, RZ, ovw, oneC, reduceAdd, reduceMul, reduceSub, reduceEqDiff, reduceLT, ↓reduceIte, Int.reduceToNat, reduceLeDiff,  g2, g3, g4, x0, l0, y0, y1, y2, y3, y4, y5, y6, y7, y8, y9, y10, y11, y12, y13, y14, y15, y16, y17, y18, y19, y20, y21]
      exact hfin hF5 hgm
  · rw [if_pos hc0] at hp
    subst hp
    have hd0 : (!decide (SC.1 = 0)) = true := by simpa using hc0
    refine WX_if_t (by rw [show ev _ (.tmp 19) = .bool (!decide (SC.1 = 0)) from rfl, hd0]) ?_
    obtain ⟨o0, o1⟩ := hoff hc0
    have hcn : Lib.countByte (s.extract 0 SC.2.1.toNat).data.toList 10 = ((bs s).take SC.2.1.toNat).count 10 := by
      rw [count_bs, bs_extract, Nat.sub_zero, List.drop_zero]
    have hcl : ((bs s).take SC.2.1.toNat).count 10 ≤ s.size := by
      have h1 := List.count_le_length (a := 10) (l := (bs s).take SC.2.1.toNat)
      have h2 := List.length_take_le SC.2.1.toNat (bs s)
      have h3 := bs_len s
      rw [List.length_take] at h1
      omega
    generalize ((bs s).take SC.2.1.toNat).count 10 = cn at *
    refine WX_piece fun K hK hX => ?_
    simp +contextual (maxSteps := 2000000) (disch := first | omega | (simp only [SZ]; first | done | omega) | (simp only [TS] at *; omega)) only [PZ, RZ, ovw, oneC, reduceAdd, reduceMul, reduceSub, reduceEqDiff, reduceLT, ↓reduceIte, Int.reduceToNat, reduceLeDiff]
    refine RawD_mono (Q := fun e σ w' => e = .normal ∧ Row w' n 26 [Value.string ByteArray.empty, .int .i64 0, .int .i64 0, .int .i64 0, .int .i64 0, .int .i64 0, .int .i64 0, .int .i64 0, .int .i64 0, .int .i64 0, .int .i64 0, .int .i64 0, .int .i64 0, .int .i64 0, .int .i64 0, .int .i64 0, .int .i64 0, .int .i64 0, .int .i64 0, .int .i64 0, .slice none 0 0, .slice none 0 0] ∧ Row w' (n + 1) 27 [.int .i64 SC.1] ∧ Row w' (n + 1 + 1) 3 [.int .i64 (1 + cn)] ∧ Below n w w' ∧ σ 2 = .pointer (some ⟨n, 0, none⟩) ∧ σ 3 = .pointer (some ⟨n + 1, 0, none⟩) ∧ σ 4 = .pointer (some ⟨n + 1 + 1, 0, none⟩)) ?_ ?_
    · rintro e σ w' ⟨rfl, q1, q2, q3, q4, f2, f3, f4⟩
      refine hK _ _ ?_
      have y0 := q1.cell (i := 0) rfl
      have y1 := q1.cell (i := 1) rfl
      have y2 := q1.cell (i := 2) rfl
      have y3 := q1.cell (i := 3) rfl
      have y4 := q1.cell (i := 4) rfl
      have y5 := q1.cell (i := 5) rfl
      have y6 := q1.cell (i := 6) rfl
      have y7 := q1.cell (i := 7) rfl
      have y8 := q1.cell (i := 8) rfl
      have y9 := q1.cell (i := 9) rfl
      have y10 := q1.cell (i := 10) rfl
      have y11 := q1.cell (i := 11) rfl
      have y12 := q1.cell (i := 12) rfl
      have y13 := q1.cell (i := 13) rfl
      have y14 := q1.cell (i := 14) rfl
      have y15 := q1.cell (i := 15) rfl
      have y16 := q1.cell (i := 16) rfl
      have y17 := q1.cell (i := 17) rfl
      have y18 := q1.cell (i := 18) rfl
      have y19 := q1.cell (i := 19) rfl
      have y20 := q1.cell (i := 20) rfl
      have y21 := q1.cell (i := 21) rfl
      have x0 := q2.cell (i := 0) rfl
      have l0 := q3.cell (i := 0) rfl
      simp +contextual (maxSteps := 2000000) (disch := first | omega | (simp only [SZ]; first | done | omega) | (simp only [TS] at *; omega)) only [PZ, RZ, ovw, oneC, reduceAdd, reduceMul, reduceSub, reduceEqDiff, reduceLT, ↓reduceIte, Int.reduceToNat, reduceLeDiff,  f2, f3, f4, x0, l0, y0, y1, y2, y3, y4, y5, y6, y7, y8, y9, y10, y11, y12, y13, y14, y15, y16, y17, y18, y19, y20, y21]
      exact hfin (Va := .slice none 0 0) (Vt := .slice none 0 0) q4 (GmIn.nil w')
    · clear hK hX K
      refine RawD_of (Raw_ord (fun w' => Row w' (n + 1) 27 [.int .i64 SC.1]) 10 rfl MX ?_)
      replace R1 : Row w2.drew n 26 _ := R1
      replace R2 : Row w2.drew (n + 1) 27 _ := R2
      replace R3 : Row w2.drew (n + 1 + 1) 3 _ := R3
      replace hF2 : Below n w w2.drew := below_drew hF2
      generalize w2.drew = w3 at *
      refine Ord_reads (τ := ?tc) [0, 1, 2, 3, 4] 5 rfl (by kernel_rfl) (by kernel_rfl) (fun _ _ _ h => Exit.noConfusion h.1) R2 (fun w7 h7 => ?_) ?_; rotate_left
      · have x0 := h7.cell (i := 0) rfl
        simp only [opsL_cons, opsL_nil, List.getElem?_toArray, List.getElem?_cons_zero, List.getElem?_cons_succ, optL_some]
        simp +contextual (maxSteps := 2000000) (disch := first | omega | (simp only [SZ]; first | done | omega) | (simp only [TS] at *; omega)) only [RZ, ovw, oneC, reduceAdd, reduceMul, reduceSub, reduceEqDiff, reduceLT, ↓reduceIte, Int.reduceToNat, reduceLeDiff,  x0]
        exact rfl
      refine Ord_one 5 (by kernel_rfl) rfl ?_
      simp +contextual (maxSteps := 2000000) (disch := first | omega | (simp only [SZ]; first | done | omega) | (simp only [TS] at *; omega)) only [RZ, ovw, oneC, reduceAdd, reduceMul, reduceSub, reduceEqDiff, reduceLT, ↓reduceIte, Int.reduceToNat, reduceLeDiff]
      refine (Tryz.strings_Count_one (s.extract 0 SC.2.1.toNat) 10 w3).mono ?_
      rintro e w4 ⟨rfl, rfl⟩
      refine ⟨_, rfl, ?_⟩
      rw [hcn]
      refine ⟨R2, ?_⟩
      refine Ord_reads (τ := ?td) [6] 3 rfl (by kernel_rfl) (by kernel_rfl) (fun _ _ _ h => Exit.noConfusion h.1) R2 (fun w7 h7 => ?_) ?_; rotate_left
      · simp only [opsL_cons, opsL_nil, List.getElem?_toArray, List.getElem?_cons_zero, List.getElem?_cons_succ, optL_some]
        simp +contextual (maxSteps := 2000000) (disch := first | omega | (simp only [SZ]; first | done | omega) | (simp only [TS] at *; omega)) only [RZ, ovw, oneC, reduceAdd, reduceMul, reduceSub, reduceEqDiff, reduceLT, ↓reduceIte, Int.reduceToNat, reduceLeDiff]
        exact rfl
      refine Ord_chainS _ [7, 8, 9] _ _ _ (by kernel_rfl) ?_
      have y0 := R1.cell (i := 0) rfl
      have yz0 := R1.frozen 0
      have y1 := R1.cell (i := 1) rfl
      have yz1 := R1.frozen 1
      have y2 := R1.cell (i := 2) rfl
      have yz2 := R1.frozen 2
      have y3 := R1.cell (i := 3) rfl
      have yz3 := R1.frozen 3
      have y4 := R1.cell (i := 4) rfl
      have yz4 := R1.frozen 4
      have y5 := R1.cell (i := 5) rfl
      have yz5 := R1.frozen 5
      have y6 := R1.cell (i := 6) rfl
      have yz6 := R1.frozen 6
      have y7 := R1.cell (i := 7) rfl
      have yz7 := R1.frozen 7
      have y8 := R1.cell (i := 8) rfl
      have yz8 := R1.frozen 8
      have y9 := R1.cell (i := 9) rfl
      have yz9 := R1.frozen 9
      have y10 := R1.cell (i := 10) rfl
      have yz10 := R1.frozen 10
      have y11 := R1.cell (i := 11) rfl
      have yz11 := R1.frozen 11
      have y12 := R1.cell (i := 12) rfl
      have yz12 := R1.frozen 12
      have y13 := R1.cell (i := 13) rfl
      have yz13 := R1.frozen 13
      have y14 := R1.cell (i := 14) rfl
      have yz14 := R1.frozen 14
      have y15 := R1.cell (i := 15) rfl
      have yz15 := R1.frozen 15
      have y16 := R1.cell (i := 16) rfl
      have yz16 := R1.frozen 16
      have y17 := R1.cell (i := 17) rfl
      have yz17 := R1.frozen 17
      have y18 := R1.cell (i := 18) rfl
      have yz18 := R1.frozen 18
      have y19 := R1.cell (i := 19) rfl
      have yz19 := R1.frozen 19
      have y20 := R1.cell (i := 20) rfl
      have yz20 := R1.frozen 20
      have y21 := R1.cell (i := 21) rfl
      have yz21 := R1.frozen 21
      have x0 := R2.cell (i := 0) rfl
      have x0z := R2.frozen 0
      have l0 := R3.cell (i := 0) rfl
      have l0z := R3.frozen 0
      simp only [opsL_cons, opsL_nil, List.getElem?_toArray, List.getElem?_cons_zero, List.getElem?_cons_succ, optL_some]
      simp +contextual (maxSteps := 2000000) (disch := first | omega | (simp only [SZ]; first | done | omega) | (simp only [TS] at *; omega)) only [RZ, ovw, oneC, reduceAdd, reduceMul, reduceSub, reduceEqDiff, reduceLT, ↓reduceIte, Int.reduceToNat, reduceLeDiff,  EC_op, EC_nil, x0, x0z, l0, l0z, y0, yz0, y1, yz1, y2, yz2, y3, yz3, y4, yz4, y5, yz5, y6, yz6, y7, yz7, y8, yz8, y9, yz9, y10, yz10, y11, yz11, y12, yz12, y13, yz13, y14, yz14, y15, yz15, y16, yz16, y17, yz17, y18, yz18, y19, yz19, y20, yz20, y21, yz21]
      have S1 := stW_row (g := n) (T := 26) [Value.string ByteArray.empty, .int .i64 0, .int .i64 0, .int .i64 0, .int .i64 0, .int .i64 0, .int .i64 0, .int .i64 0, .int .i64 0, .int .i64 0, .int .i64 0, .int .i64 0, .int .i64 0, .int .i64 0, .int .i64 0, .int .i64 0, .int .i64 0, .int .i64 0, .int .i64 0, .int .i64 0, .slice none 0 0, .slice none 0 0] 0 w4 _ R1 rfl
      have kA := stW_kept (X := [n]) (g := n) (by simp) [Value.string ByteArray.empty, .int .i64 0, .int .i64 0, .int .i64 0, .int .i64 0, .int .i64 0, .int .i64 0, .int .i64 0, .int .i64 0, .int .i64 0, .int .i64 0, .int .i64 0, .int .i64 0, .int .i64 0, .int .i64 0, .int .i64 0, .int .i64 0, .int .i64 0, .int .i64 0, .int .i64 0, .slice none 0 0, .slice none 0 0] 0 w4 w4 (Kept.refl _ _)
      simp only [stW, reduceAdd, List.take_zero, List.nil_append] at S1 kA
      have hFA : Below n w _ := hF2.trans ⟨kA.os, kA.tape, kA.output, kA.size, fun i hi => kA.block i (by have := hF2.size; omega) (by simp; omega)⟩
      replace R2 := R2.kept kA (by simp)
      replace R3 := R3.kept kA (by simp; omega)
      clear kA x0 x0z l0 l0z
      generalize w4.setCell ⟨n, 0, none⟩ _ = u0 at *
      have T2 := R2.set_ (i := 0) (by simp) (.int .i64 SC.1)
      have T3 := (R3.far (p := ⟨n + 1, 0, none⟩) (by show n + 1 + 1 ≠ n + 1; omega) (.int .i64 SC.1)).set_ (i := 0) (by simp) (.int .i64 (1 + cn))
      refine ⟨R2, T2, T2.far (p := ⟨n + 1 + 1, 0, none⟩) (by show n + 1 ≠ n + 1 + 1; omega) _, (S1.far (p := ⟨n + 1, 0, none⟩) (by show n ≠ n + 1; omega) _).far (p := ⟨n + 1 + 1, 0, none⟩) (by show n ≠ n + 1 + 1; omega) _, T2.far (p := ⟨n + 1 + 1, 0, none⟩) (by show n + 1 ≠ n + 1 + 1; omega) _, T3, (hFA.setCell (p := ⟨n + 1, 0, none⟩) (by show n ≤ n + 1; omega) _).setCell (p := ⟨n + 1 + 1, 0, none⟩) (by show n ≤ n + 1 + 1; omega) _⟩
end Go.Proofs.YtbdkggnajipdhaaGreatDoor
/- Walks: the law's comparisons: ints, Same. -/
namespace Go.Proofs.YtbdkggnajipdhaaGreatDoor
open Nat (reduceAdd reduceMul reduceSub reduceEqDiff reduceLT reduceLeDiff)
open Go.RowKit
set_option maxRecDepth 100000
theorem ints_any (L : List Int) (A B : Option Addr) (c d : Nat) (w : World) (hA : Arr w A 1 (L.map fun n => [Value.int .i64 n])) (hB : Arr w B 1 (L.map fun n => [Value.int .i64 n])) (hl : L.length ≤ 1000000000) :
    Calls Tryz.prog 18 #[.slice A L.length c, .slice B L.length d] w fun e w' => e = .returned (.bool true) ∧ Below w.heap.size w w' := by
  refine calls_W (l := [_, _]) Tryz.func18 rfl _ Tryz.ntmps18 (by simp) ?_
  refine W_piece fun K hK hX => ?_
  simp +contextual (maxSteps := 2000000) (disch := first | omega | (simp only [SZ]; first | done | omega) | (simp only [TS] at *; omega)) only [RZ, ovw, oneC, reduceAdd, reduceMul, reduceSub, reduceEqDiff, reduceLT, ↓reduceIte, Int.reduceToNat, reduceLeDiff]
  refine hK _ _ ?_
  clear hK hX K
  refine W_piece fun K hK hX => ?_
  refine W_piece fun K2 hK2 hX2 => ?_
  simp +contextual (maxSteps := 2000000) (disch := first | omega | (simp only [SZ]; first | done | omega) | (simp only [TS] at *; omega)) only [RZ, ovw, oneC, reduceAdd, reduceMul, reduceSub, reduceEqDiff, reduceLT, ↓reduceIte, Int.reduceToNat, reduceLeDiff]
  refine hK2 _ _ ?_
  clear hK2 hX2 K2
  refine W_if_f rfl ?_
  rw [W_skip]
  refine hK _ _ ?_
  clear hK hX K
  refine W_cutS (fun σ w1 => Below w.heap.size w w1) ?_ ?_
  · intro σ w1 h
    simp +contextual (maxSteps := 2000000) (disch := first | omega | (simp only [SZ]; first | done | omega) | (simp only [TS] at *; omega)) only [RZ, ovw, oneC, reduceAdd, reduceMul, reduceSub, reduceEqDiff, reduceLT, ↓reduceIte, Int.reduceToNat, reduceLeDiff]
    exact h
  refine W_piece fun K hK hX => ?_
  simp +contextual (maxSteps := 2000000) (disch := first | omega | (simp only [SZ]; first | done | omega) | (simp only [TS] at *; omega)) only [RZ, ovw, oneC, reduceAdd, reduceMul, reduceSub, reduceEqDiff, reduceLT, ↓reduceIte, Int.reduceToNat, reduceLeDiff]
  refine hK _ _ ?_
  clear hK hX K
  rw [W_block, W_loop]
  refine Raw_loop (fun σ w1 => Below w.heap.size w w1 ∧ ∃ k : Nat, k ≤ L.length ∧ σ 0 = .slice A L.length c ∧ σ 1 = .slice B L.length d ∧ σ 12 = .int .i64 L.length ∧ σ 13 = .int .i64 k) (fun σ _ => L.length - (intOf (σ 13)).toNat) ?_ ?_
  · exact ⟨Below.refl _ _, 0, Nat.zero_le _, rfl, rfl, rfl, rfl⟩
  rintro σ w1 ⟨hb, k, hk, f0, f1, f12, f13⟩ K hK
  simp +contextual (maxSteps := 2000000) (disch := first | omega | (simp only [SZ]; first | done | omega) | (simp only [TS] at *; omega)) only [RZ, ovw, oneC, reduceAdd, reduceMul, reduceSub, reduceEqDiff, reduceLT, ↓reduceIte, Int.reduceToNat, reduceLeDiff,  f0, f1, f12, f13]
  (refine W_if rfl (fun hc => ?_) (fun hc => ?_) <;> (try simp only [TS] at hc))
  · obtain ⟨n, hn⟩ : ∃ n, L[k]? = some n := ⟨_, List.getElem?_eq_getElem (by omega)⟩
    obtain ⟨ba, oa, rfl, hba, hca⟩ := (hA.below hb).at_ (enc := fun n => [Value.int .i64 n]) hn
    obtain ⟨bb, ob, rfl, hbb, hcb⟩ := (hB.below hb).at_ (enc := fun n => [Value.int .i64 n]) hn
    have l0 : w1.drew.cell? _ = _ := hca 0 _ rfl
    rw [Nat.add_zero, Nat.mul_one] at l0
    have m0 : w1.drew.cell? _ = _ := hcb 0 _ rfl
    rw [Nat.add_zero, Nat.mul_one] at m0
    simp +contextual (maxSteps := 2000000) (disch := first | omega | (simp only [SZ]; first | done | omega) | (simp only [TS] at *; omega)) only [RZ, ovw, oneC, reduceAdd, reduceMul, reduceSub, reduceEqDiff, reduceLT, ↓reduceIte, Int.reduceToNat, reduceLeDiff,  f0, f1, f12, f13]
    refine Raw_still MX (by kernel_rfl) ?_
    simp +contextual (maxSteps := 2000000) (disch := first | omega | (simp only [SZ]; first | done | omega) | (simp only [TS] at *; omega)) only [RZ, ovw, oneC, reduceAdd, reduceMul, reduceSub, reduceEqDiff, reduceLT, ↓reduceIte, Int.reduceToNat, reduceLeDiff,  f0, f1, f12, f13, l0, m0]
    refine W_if_f rfl ?_
    simp +contextual (maxSteps := 2000000) (disch := first | omega | (simp only [SZ]; first | done | omega) | (simp only [TS] at *; omega)) only [RZ, ovw, oneC, reduceAdd, reduceMul, reduceSub, reduceEqDiff, reduceLT, ↓reduceIte, Int.reduceToNat, reduceLeDiff,  f0, f1, f12, f13]
    refine hK _ _ ⟨below_drew hb, k + 1, by omega, ?_⟩ ?_
    · simp +contextual (maxSteps := 2000000) (disch := first | omega | (simp only [SZ]; first | done | omega) | (simp only [TS] at *; omega)) only [RZ, ovw, oneC, reduceAdd, reduceMul, reduceSub, reduceEqDiff, reduceLT, ↓reduceIte, Int.reduceToNat, reduceLeDiff,  f0, f1, f12, f13]
    · simp +contextual (maxSteps := 2000000) (disch := first | omega | (simp only [SZ]; first | done | omega) | (simp only [TS] at *; omega)) only [RZ, ovw, oneC, reduceAdd, reduceMul, reduceSub, reduceEqDiff, reduceLT, ↓reduceIte, Int.reduceToNat, reduceLeDiff,  intOf, f13]
      omega
  · simp +contextual (maxSteps := 2000000) (disch := first | omega | (simp only [SZ]; first | done | omega) | (simp only [TS] at *; omega)) only [RZ, ovw, oneC, reduceAdd, reduceMul, reduceSub, reduceEqDiff, reduceLT, ↓reduceIte, Int.reduceToNat, reduceLeDiff,  f0, f1, f12, f13]
    exact hb
end Go.Proofs.YtbdkggnajipdhaaGreatDoor
/- Walk: the law's Same on equal games. -/
namespace Go.Proofs.YtbdkggnajipdhaaGreatDoor
open Go.RowKit
set_option maxRecDepth 100000
end Go.Proofs.YtbdkggnajipdhaaGreatDoor
