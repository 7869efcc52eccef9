/-
  DERIVED. GIVEN WITH THE SEED: THE CARDS: each row of YtbdkggnajipdhaaDoorRows.lean that lists a variable, with what it lists TIED to the program's text (the seventh form; the later family's looks); each row that meets fmt, with fmt's text TOLD by the authors' own Lean function (tested against real Go, not proved from fmt's source: count such statements apart). THE CARD IS WHAT COUNTS. Prove the row's statement (the work); the ties are given (YtbdkggnajipdhaaDoorTie.lean); close each card by the builder's one call (the guide's Derived/Test/ToyasCard.lean, 'card_holds'). Laid BY PROGRAM, IN A SANDBOX (cutbox-door.mjs). By AI agents, Wed Nov 11 2026. No macro, syntax, notation, axiom, sorry.
-/
import Derived.Test.YtbdkggnajipdhaaDoorRows
import GoSem.ClaimSeven
namespace Go.Proofs.YtbdkggnajipdhaaDoor
namespace Rows

/-- THE TIED CARD OF 'lotterylaw11.RuletextRoundTrips'. -/
def ruletextRoundTripsCard : Claim7 := { stood := { row := ruletextRoundTripsRow, standIns := [], harness := (true, "f5cf29f41c99dbe16b5bc0f61a331470bcbe9d0d8aa75e1c21aac3b2fb76929f"), looks := true }, kinds := [], alts := [], laidByText := true, laidKinds := [.data, .data, .data, .data], laidTests := true, laidLooks := .later }
def RuletextRoundTripsCardSaid : Prop := Claim7.holds Tryd.pinned (.plain (OpenSpec.ofChange ruletextRoundTripsSpec)) ruletextRoundTripsCard

/-- THE TIED CARD OF 'lotterylaw11.RuletextBlanks'. -/
def ruletextBlanksCard : Claim7 := { stood := { row := ruletextBlanksRow, standIns := [], harness := (true, "f5cf29f41c99dbe16b5bc0f61a331470bcbe9d0d8aa75e1c21aac3b2fb76929f"), looks := true }, kinds := [], alts := [], laidByText := true, laidKinds := [.data, .data, .data, .data], laidTests := true, laidLooks := .later }
def RuletextBlanksCardSaid : Prop := Claim7.holds Tryd.pinned (.plain (OpenSpec.ofChange ruletextBlanksSpec)) ruletextBlanksCard

/-- THE SECOND FORM's CARD OF 'lotterylaw11.RuletextRoundTrips'. -/
def ruletextRoundTripsUptoCard : Claim7 := { stood := { row := ruletextRoundTripsUptoRow, standIns := [], harness := (true, "f5cf29f41c99dbe16b5bc0f61a331470bcbe9d0d8aa75e1c21aac3b2fb76929f"), looks := true }, kinds := [], alts := [], laidByText := true, laidKinds := [.data, .data, .data, .data], laidTests := true, laidLooks := .later }
def RuletextRoundTripsUptoCardSaid : Prop := Claim7.holds Tryd.pinned (.plain (OpenSpec.upto ruletextRoundTripsSpec)) ruletextRoundTripsUptoCard

/-- THE SECOND FORM's CARD OF 'lotterylaw11.RuletextBlanks'. -/
def ruletextBlanksUptoCard : Claim7 := { stood := { row := ruletextBlanksUptoRow, standIns := [], harness := (true, "f5cf29f41c99dbe16b5bc0f61a331470bcbe9d0d8aa75e1c21aac3b2fb76929f"), looks := true }, kinds := [], alts := [], laidByText := true, laidKinds := [.data, .data, .data, .data], laidTests := true, laidLooks := .later }
def RuletextBlanksUptoCardSaid : Prop := Claim7.holds Tryd.pinned (.plain (OpenSpec.upto ruletextBlanksSpec)) ruletextBlanksUptoCard
end Rows
end Go.Proofs.YtbdkggnajipdhaaDoor
