/-
  DERIVED. GIVEN WITH THE SEED: THE CARDS: each row of YtcnlopjjejdahaaDoorRows.lean that lists a variable, with what it lists TIED to the program's text (the seventh form; the later family's looks); each row that meets fmt, with fmt's text TOLD by the authors' own Lean function (tested against real Go, not proved from fmt's source: count such statements apart). THE CARD IS WHAT COUNTS. Prove the row's statement (the work); the ties are given (YtcnlopjjejdahaaDoorTie.lean); close each card by the builder's one call (the guide's Derived/Test/ToyasCard.lean, 'card_holds'). Laid BY PROGRAM, IN A SANDBOX (cutbox-door.mjs). By AI agents, Wed Nov 11 2026. No macro, syntax, notation, axiom, sorry.
-/
import Derived.Test.YtcnlopjjejdahaaDoorRows
import GoSem.ClaimSeven
namespace Go.Proofs.YtcnlopjjejdahaaDoor
namespace Rows

/-- THE TIED CARD OF 'lotterylaw41.DeckChecks'. -/
def deckChecksCard : Claim7 := { stood := { row := deckChecksRow, standIns := [], harness := (true, "feff8ff4ef4bda4e10fad8d795546990f6e9abd143b57caa706aeba510661eb4"), looks := false }, kinds := [], alts := [], laidByText := true, laidKinds := [.data, .data, .data, .data], laidTests := true, laidLooks := .later }
def DeckChecksCardSaid : Prop := Claim7.holds Tryd.pinned (.plain (OpenSpec.ofChange deckChecksSpec)) deckChecksCard

/-- THE TIED CARD OF 'lotterylaw41.DeckParses'. -/
def deckParsesCard : Claim7 := { stood := { row := deckParsesRow, standIns := [], harness := (true, "feff8ff4ef4bda4e10fad8d795546990f6e9abd143b57caa706aeba510661eb4"), looks := false }, kinds := [], alts := [], laidByText := true, laidKinds := [.data, .data, .data, .data], laidTests := true, laidLooks := .later }
def DeckParsesCardSaid : Prop := Claim7.holds Tryd.pinned (.plain (OpenSpec.ofChange deckParsesSpec)) deckParsesCard

/-- THE TIED CARD OF 'lotterylaw41.DeckPrints'. -/
def deckPrintsCard : Claim7 := { stood := { row := deckPrintsRow, standIns := [], harness := (true, "feff8ff4ef4bda4e10fad8d795546990f6e9abd143b57caa706aeba510661eb4"), looks := false }, kinds := [], alts := [], laidByText := true, laidKinds := [.data, .data, .data, .data], laidTests := true, laidLooks := .later }
def DeckPrintsCardSaid : Prop := Claim7.holds Tryd.pinned (.plain (OpenSpec.ofChange deckPrintsSpec)) deckPrintsCard

/-- THE TIED CARD OF 'lotterylaw41.DeckRoundTrips'. -/
def deckRoundTripsCard : Claim7 := { stood := { row := deckRoundTripsRow, standIns := [], harness := (true, "feff8ff4ef4bda4e10fad8d795546990f6e9abd143b57caa706aeba510661eb4"), looks := false }, kinds := [], alts := [], laidByText := true, laidKinds := [.data, .data, .data, .data], laidTests := true, laidLooks := .later }
def DeckRoundTripsCardSaid : Prop := Claim7.holds Tryd.pinned (.plain (OpenSpec.ofChange deckRoundTripsSpec)) deckRoundTripsCard

/-- THE TIED CARD OF 'lotterylaw41.DeckBuilds'. -/
def deckBuildsCard : Claim7 := { stood := { row := deckBuildsRow, standIns := [], harness := (true, "feff8ff4ef4bda4e10fad8d795546990f6e9abd143b57caa706aeba510661eb4"), looks := false }, kinds := [], alts := [], laidByText := true, laidKinds := [.data, .data, .data, .data], laidTests := true, laidLooks := .later }
def DeckBuildsCardSaid : Prop := Claim7.holds Tryd.pinned (.plain (OpenSpec.ofChange deckBuildsSpec)) deckBuildsCard

/-- THE TIED CARD OF 'lotterylaw41.DeckKeepsPlan'. -/
def deckKeepsPlanCard : Claim7 := { stood := { row := deckKeepsPlanRow, standIns := [], harness := (true, "feff8ff4ef4bda4e10fad8d795546990f6e9abd143b57caa706aeba510661eb4"), looks := false }, kinds := [], alts := [], laidByText := true, laidKinds := [.data, .data, .data, .data], laidTests := true, laidLooks := .later }
def DeckKeepsPlanCardSaid : Prop := Claim7.holds Tryd.pinned (.plain (OpenSpec.ofChange deckKeepsPlanSpec)) deckKeepsPlanCard

/-- THE TIED CARD OF 'lotterylaw41.DeckPays'. -/
def deckPaysCard : Claim7 := { stood := { row := deckPaysRow, standIns := [], harness := (true, "feff8ff4ef4bda4e10fad8d795546990f6e9abd143b57caa706aeba510661eb4"), looks := false }, kinds := [], alts := [], laidByText := true, laidKinds := [.data, .data, .data, .data], laidTests := true, laidLooks := .later }
def DeckPaysCardSaid : Prop := Claim7.holds Tryd.pinned (.plain (OpenSpec.ofChange deckPaysSpec)) deckPaysCard

/-- THE TIED CARD OF 'lotterylaw41.DeckCodes'. -/
def deckCodesCard : Claim7 := { stood := { row := deckCodesRow, standIns := [], harness := (true, "feff8ff4ef4bda4e10fad8d795546990f6e9abd143b57caa706aeba510661eb4"), looks := false }, kinds := [], alts := [], laidByText := true, laidKinds := [.data, .data, .data, .data], laidTests := true, laidLooks := .later }
def DeckCodesCardSaid : Prop := Claim7.holds Tryd.pinned (.plain (OpenSpec.ofChange deckCodesSpec)) deckCodesCard

/-- THE SECOND FORM's CARD OF 'lotterylaw41.DeckChecks'. -/
def deckChecksUptoCard : Claim7 := { stood := { row := deckChecksUptoRow, standIns := [], harness := (true, "feff8ff4ef4bda4e10fad8d795546990f6e9abd143b57caa706aeba510661eb4"), looks := false }, kinds := [], alts := [], laidByText := true, laidKinds := [.data, .data, .data, .data], laidTests := true, laidLooks := .later }
def DeckChecksUptoCardSaid : Prop := Claim7.holds Tryd.pinned (.plain (OpenSpec.upto deckChecksSpec)) deckChecksUptoCard

/-- THE SECOND FORM's CARD OF 'lotterylaw41.DeckParses'. -/
def deckParsesUptoCard : Claim7 := { stood := { row := deckParsesUptoRow, standIns := [], harness := (true, "feff8ff4ef4bda4e10fad8d795546990f6e9abd143b57caa706aeba510661eb4"), looks := false }, kinds := [], alts := [], laidByText := true, laidKinds := [.data, .data, .data, .data], laidTests := true, laidLooks := .later }
def DeckParsesUptoCardSaid : Prop := Claim7.holds Tryd.pinned (.plain (OpenSpec.upto deckParsesSpec)) deckParsesUptoCard

/-- THE SECOND FORM's CARD OF 'lotterylaw41.DeckPrints'. -/
def deckPrintsUptoCard : Claim7 := { stood := { row := deckPrintsUptoRow, standIns := [], harness := (true, "feff8ff4ef4bda4e10fad8d795546990f6e9abd143b57caa706aeba510661eb4"), looks := false }, kinds := [], alts := [], laidByText := true, laidKinds := [.data, .data, .data, .data], laidTests := true, laidLooks := .later }
def DeckPrintsUptoCardSaid : Prop := Claim7.holds Tryd.pinned (.plain (OpenSpec.upto deckPrintsSpec)) deckPrintsUptoCard

/-- THE SECOND FORM's CARD OF 'lotterylaw41.DeckRoundTrips'. -/
def deckRoundTripsUptoCard : Claim7 := { stood := { row := deckRoundTripsUptoRow, standIns := [], harness := (true, "feff8ff4ef4bda4e10fad8d795546990f6e9abd143b57caa706aeba510661eb4"), looks := false }, kinds := [], alts := [], laidByText := true, laidKinds := [.data, .data, .data, .data], laidTests := true, laidLooks := .later }
def DeckRoundTripsUptoCardSaid : Prop := Claim7.holds Tryd.pinned (.plain (OpenSpec.upto deckRoundTripsSpec)) deckRoundTripsUptoCard

/-- THE SECOND FORM's CARD OF 'lotterylaw41.DeckBuilds'. -/
def deckBuildsUptoCard : Claim7 := { stood := { row := deckBuildsUptoRow, standIns := [], harness := (true, "feff8ff4ef4bda4e10fad8d795546990f6e9abd143b57caa706aeba510661eb4"), looks := false }, kinds := [], alts := [], laidByText := true, laidKinds := [.data, .data, .data, .data], laidTests := true, laidLooks := .later }
def DeckBuildsUptoCardSaid : Prop := Claim7.holds Tryd.pinned (.plain (OpenSpec.upto deckBuildsSpec)) deckBuildsUptoCard

/-- THE SECOND FORM's CARD OF 'lotterylaw41.DeckKeepsPlan'. -/
def deckKeepsPlanUptoCard : Claim7 := { stood := { row := deckKeepsPlanUptoRow, standIns := [], harness := (true, "feff8ff4ef4bda4e10fad8d795546990f6e9abd143b57caa706aeba510661eb4"), looks := false }, kinds := [], alts := [], laidByText := true, laidKinds := [.data, .data, .data, .data], laidTests := true, laidLooks := .later }
def DeckKeepsPlanUptoCardSaid : Prop := Claim7.holds Tryd.pinned (.plain (OpenSpec.upto deckKeepsPlanSpec)) deckKeepsPlanUptoCard

/-- THE SECOND FORM's CARD OF 'lotterylaw41.DeckPays'. -/
def deckPaysUptoCard : Claim7 := { stood := { row := deckPaysUptoRow, standIns := [], harness := (true, "feff8ff4ef4bda4e10fad8d795546990f6e9abd143b57caa706aeba510661eb4"), looks := false }, kinds := [], alts := [], laidByText := true, laidKinds := [.data, .data, .data, .data], laidTests := true, laidLooks := .later }
def DeckPaysUptoCardSaid : Prop := Claim7.holds Tryd.pinned (.plain (OpenSpec.upto deckPaysSpec)) deckPaysUptoCard

/-- THE SECOND FORM's CARD OF 'lotterylaw41.DeckCodes'. -/
def deckCodesUptoCard : Claim7 := { stood := { row := deckCodesUptoRow, standIns := [], harness := (true, "feff8ff4ef4bda4e10fad8d795546990f6e9abd143b57caa706aeba510661eb4"), looks := false }, kinds := [], alts := [], laidByText := true, laidKinds := [.data, .data, .data, .data], laidTests := true, laidLooks := .later }
def DeckCodesUptoCardSaid : Prop := Claim7.holds Tryd.pinned (.plain (OpenSpec.upto deckCodesSpec)) deckCodesUptoCard
end Rows
end Go.Proofs.YtcnlopjjejdahaaDoor
