/-
  DERIVED. GIVEN WITH THE SEED: THE CARDS: each row of YtjaeiiiniohloaaDoorRows.lean that lists a variable, with what it lists TIED to the program's text (the seventh form; the later family's looks); each row that meets fmt, with fmt's text TOLD by the authors' own Lean function (tested against real Go, not proved from fmt's source: count such statements apart). THE CARD IS WHAT COUNTS. Prove the row's statement (the work); the ties are given (YtjaeiiiniohloaaDoorTie.lean); close each card by the builder's one call (the guide's Derived/Test/ToyasCard.lean, 'card_holds'). Laid BY PROGRAM, IN A SANDBOX (cutbox-door.mjs). By AI agents, Wed Nov 11 2026. No macro, syntax, notation, axiom, sorry.
-/
import Derived.Test.YtjaeiiiniohloaaDoorRows
import GoSem.ClaimSeven
namespace Go.Proofs.YtjaeiiiniohloaaDoor
namespace Rows

/-- THE TIED CARD OF 'lotterylaw57.ScriptChecks'. -/
def scriptChecksCard : Claim7 := { stood := { row := scriptChecksRow, standIns := [], harness := (true, "0849941e25e9d22a4cbd8684db2cc68bcf9684a2c38a37acbf292f566bcfd830"), looks := false }, kinds := [], alts := [], laidByText := true, laidKinds := [.data, .data, .data, .data, .data], laidTests := true, laidLooks := .later }
def ScriptChecksCardSaid : Prop := Claim7.holds Tryd.pinned (.plain (OpenSpec.ofChange scriptChecksSpec)) scriptChecksCard

/-- THE TIED CARD OF 'lotterylaw57.ScriptPrints'. -/
def scriptPrintsCard : Claim7 := { stood := { row := scriptPrintsRow, standIns := [], harness := (true, "0849941e25e9d22a4cbd8684db2cc68bcf9684a2c38a37acbf292f566bcfd830"), looks := false }, kinds := [], alts := [], laidByText := true, laidKinds := [.data, .data, .data, .data, .data], laidTests := true, laidLooks := .later }
def ScriptPrintsCardSaid : Prop := Claim7.holds Tryd.pinned (.plain (OpenSpec.ofChange scriptPrintsSpec)) scriptPrintsCard

/-- THE TIED CARD OF 'lotterylaw57.ScriptRoundTrips'. -/
def scriptRoundTripsCard : Claim7 := { stood := { row := scriptRoundTripsRow, standIns := [], harness := (true, "0849941e25e9d22a4cbd8684db2cc68bcf9684a2c38a37acbf292f566bcfd830"), looks := false }, kinds := [], alts := [], laidByText := true, laidKinds := [.data, .data, .data, .data, .data], laidTests := true, laidLooks := .later }
def ScriptRoundTripsCardSaid : Prop := Claim7.holds Tryd.pinned (.plain (OpenSpec.ofChange scriptRoundTripsSpec)) scriptRoundTripsCard

/-- THE TIED CARD OF 'lotterylaw57.ScriptAgain'. -/
def scriptAgainCard : Claim7 := { stood := { row := scriptAgainRow, standIns := [], harness := (true, "0849941e25e9d22a4cbd8684db2cc68bcf9684a2c38a37acbf292f566bcfd830"), looks := false }, kinds := [], alts := [], laidByText := true, laidKinds := [.data, .data, .data, .data, .data], laidTests := true, laidLooks := .later }
def ScriptAgainCardSaid : Prop := Claim7.holds Tryd.pinned (.plain (OpenSpec.ofChange scriptAgainSpec)) scriptAgainCard

/-- THE TIED CARD OF 'lotterylaw57.ScriptRemarks'. -/
def scriptRemarksCard : Claim7 := { stood := { row := scriptRemarksRow, standIns := [], harness := (true, "0849941e25e9d22a4cbd8684db2cc68bcf9684a2c38a37acbf292f566bcfd830"), looks := false }, kinds := [], alts := [], laidByText := true, laidKinds := [.data, .data, .data, .data, .data], laidTests := true, laidLooks := .later }
def ScriptRemarksCardSaid : Prop := Claim7.holds Tryd.pinned (.plain (OpenSpec.ofChange scriptRemarksSpec)) scriptRemarksCard

/-- THE TIED CARD OF 'lotterylaw57.ScriptParts'. -/
def scriptPartsCard : Claim7 := { stood := { row := scriptPartsRow, standIns := [], harness := (true, "0849941e25e9d22a4cbd8684db2cc68bcf9684a2c38a37acbf292f566bcfd830"), looks := false }, kinds := [], alts := [], laidByText := true, laidKinds := [.data, .data, .data, .data, .data], laidTests := true, laidLooks := .later }
def ScriptPartsCardSaid : Prop := Claim7.holds Tryd.pinned (.plain (OpenSpec.ofChange scriptPartsSpec)) scriptPartsCard

/-- THE TIED CARD OF 'lotterylaw57.ScriptTexts'. -/
def scriptTextsCard : Claim7 := { stood := { row := scriptTextsRow, standIns := [], harness := (true, "0849941e25e9d22a4cbd8684db2cc68bcf9684a2c38a37acbf292f566bcfd830"), looks := false }, kinds := [], alts := [], laidByText := true, laidKinds := [.data, .data, .data, .data, .data], laidTests := true, laidLooks := .later }
def ScriptTextsCardSaid : Prop := Claim7.holds Tryd.pinned (.plain (OpenSpec.ofChange scriptTextsSpec)) scriptTextsCard

/-- THE SECOND FORM's CARD OF 'lotterylaw57.ScriptChecks'. -/
def scriptChecksUptoCard : Claim7 := { stood := { row := scriptChecksUptoRow, standIns := [], harness := (true, "0849941e25e9d22a4cbd8684db2cc68bcf9684a2c38a37acbf292f566bcfd830"), looks := false }, kinds := [], alts := [], laidByText := true, laidKinds := [.data, .data, .data, .data, .data], laidTests := true, laidLooks := .later }
def ScriptChecksUptoCardSaid : Prop := Claim7.holds Tryd.pinned (.plain (OpenSpec.upto scriptChecksSpec)) scriptChecksUptoCard

/-- THE SECOND FORM's CARD OF 'lotterylaw57.ScriptPrints'. -/
def scriptPrintsUptoCard : Claim7 := { stood := { row := scriptPrintsUptoRow, standIns := [], harness := (true, "0849941e25e9d22a4cbd8684db2cc68bcf9684a2c38a37acbf292f566bcfd830"), looks := false }, kinds := [], alts := [], laidByText := true, laidKinds := [.data, .data, .data, .data, .data], laidTests := true, laidLooks := .later }
def ScriptPrintsUptoCardSaid : Prop := Claim7.holds Tryd.pinned (.plain (OpenSpec.upto scriptPrintsSpec)) scriptPrintsUptoCard

/-- THE SECOND FORM's CARD OF 'lotterylaw57.ScriptRoundTrips'. -/
def scriptRoundTripsUptoCard : Claim7 := { stood := { row := scriptRoundTripsUptoRow, standIns := [], harness := (true, "0849941e25e9d22a4cbd8684db2cc68bcf9684a2c38a37acbf292f566bcfd830"), looks := false }, kinds := [], alts := [], laidByText := true, laidKinds := [.data, .data, .data, .data, .data], laidTests := true, laidLooks := .later }
def ScriptRoundTripsUptoCardSaid : Prop := Claim7.holds Tryd.pinned (.plain (OpenSpec.upto scriptRoundTripsSpec)) scriptRoundTripsUptoCard

/-- THE SECOND FORM's CARD OF 'lotterylaw57.ScriptAgain'. -/
def scriptAgainUptoCard : Claim7 := { stood := { row := scriptAgainUptoRow, standIns := [], harness := (true, "0849941e25e9d22a4cbd8684db2cc68bcf9684a2c38a37acbf292f566bcfd830"), looks := false }, kinds := [], alts := [], laidByText := true, laidKinds := [.data, .data, .data, .data, .data], laidTests := true, laidLooks := .later }
def ScriptAgainUptoCardSaid : Prop := Claim7.holds Tryd.pinned (.plain (OpenSpec.upto scriptAgainSpec)) scriptAgainUptoCard

/-- THE SECOND FORM's CARD OF 'lotterylaw57.ScriptRemarks'. -/
def scriptRemarksUptoCard : Claim7 := { stood := { row := scriptRemarksUptoRow, standIns := [], harness := (true, "0849941e25e9d22a4cbd8684db2cc68bcf9684a2c38a37acbf292f566bcfd830"), looks := false }, kinds := [], alts := [], laidByText := true, laidKinds := [.data, .data, .data, .data, .data], laidTests := true, laidLooks := .later }
def ScriptRemarksUptoCardSaid : Prop := Claim7.holds Tryd.pinned (.plain (OpenSpec.upto scriptRemarksSpec)) scriptRemarksUptoCard

/-- THE SECOND FORM's CARD OF 'lotterylaw57.ScriptParts'. -/
def scriptPartsUptoCard : Claim7 := { stood := { row := scriptPartsUptoRow, standIns := [], harness := (true, "0849941e25e9d22a4cbd8684db2cc68bcf9684a2c38a37acbf292f566bcfd830"), looks := false }, kinds := [], alts := [], laidByText := true, laidKinds := [.data, .data, .data, .data, .data], laidTests := true, laidLooks := .later }
def ScriptPartsUptoCardSaid : Prop := Claim7.holds Tryd.pinned (.plain (OpenSpec.upto scriptPartsSpec)) scriptPartsUptoCard

/-- THE SECOND FORM's CARD OF 'lotterylaw57.ScriptTexts'. -/
def scriptTextsUptoCard : Claim7 := { stood := { row := scriptTextsUptoRow, standIns := [], harness := (true, "0849941e25e9d22a4cbd8684db2cc68bcf9684a2c38a37acbf292f566bcfd830"), looks := false }, kinds := [], alts := [], laidByText := true, laidKinds := [.data, .data, .data, .data, .data], laidTests := true, laidLooks := .later }
def ScriptTextsUptoCardSaid : Prop := Claim7.holds Tryd.pinned (.plain (OpenSpec.upto scriptTextsSpec)) scriptTextsUptoCard
end Rows
end Go.Proofs.YtjaeiiiniohloaaDoor
