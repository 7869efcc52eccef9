/-
  DERIVED. GIVEN WITH THE SEED: THE CARDS: each row of YtbdkggnajipdhaaGreatDoorRows.lean that lists a variable, with what it lists TIED to the program's text (the seventh form; the later family's looks); each row that meets fmt, with fmt's text TOLD by the authors' own Lean function (tested against real Go, not proved from fmt's source: count such statements apart). THE CARD IS WHAT COUNTS. Prove the row's statement (the work); the ties are given (YtbdkggnajipdhaaGreatDoorTie.lean); close each card by the builder's one call (the guide's Derived/Test/ToyasCard.lean, 'card_holds'). Laid BY PROGRAM, IN A SANDBOX (cutbox-door.mjs). By AI agents, Wed Nov 11 2026. No macro, syntax, notation, axiom, sorry.
-/
import Derived.Test.YtbdkggnajipdhaaGreatDoorRows
import GoSem.ClaimSeven
namespace Go.Proofs.YtbdkggnajipdhaaGreatDoor
namespace Rows

/-- THE TIED CARD OF 'lotterylaw11.RuletextParses'. -/
def ruletextParsesCard : Claim7 := { stood := { row := ruletextParsesRow, standIns := [], harness := (true, "6cbbcbceaa5e30cf37f92566218d286f15d5938d99534cfdb9b52a657fde1821"), looks := true }, kinds := [], alts := [], laidByText := true, laidKinds := [.data, .data, .data, .data], laidTests := true, laidLooks := .later }
def RuletextParsesCardSaid : Prop := Claim7.holds Tryz.pinned (.plain (OpenSpec.ofChange ruletextParsesSpec)) ruletextParsesCard

/-- THE TIED CARD OF 'lotterylaw11.RuletextPrints'. -/
def ruletextPrintsCard : Claim7 := { stood := { row := ruletextPrintsRow, standIns := [], harness := (true, "6cbbcbceaa5e30cf37f92566218d286f15d5938d99534cfdb9b52a657fde1821"), looks := true }, kinds := [], alts := [], laidByText := true, laidKinds := [.data, .data, .data, .data], laidTests := true, laidLooks := .later }
def RuletextPrintsCardSaid : Prop := Claim7.holds Tryz.pinned (.plain (OpenSpec.ofChange ruletextPrintsSpec)) ruletextPrintsCard

/-- THE TIED CARD OF 'lotterylaw11.RuletextSettles'. -/
def ruletextSettlesCard : Claim7 := { stood := { row := ruletextSettlesRow, standIns := [], harness := (true, "6cbbcbceaa5e30cf37f92566218d286f15d5938d99534cfdb9b52a657fde1821"), looks := true }, kinds := [], alts := [], laidByText := true, laidKinds := [.data, .data, .data, .data], laidTests := true, laidLooks := .later }
def RuletextSettlesCardSaid : Prop := Claim7.holds Tryz.pinned (.plain (OpenSpec.ofChange ruletextSettlesSpec)) ruletextSettlesCard

/-- THE TIED CARD OF 'lotterylaw11.RuletextOrders'. -/
def ruletextOrdersCard : Claim7 := { stood := { row := ruletextOrdersRow, standIns := [], harness := (true, "6cbbcbceaa5e30cf37f92566218d286f15d5938d99534cfdb9b52a657fde1821"), looks := true }, kinds := [], alts := [], laidByText := true, laidKinds := [.data, .data, .data, .data, .listed, .data, .data, .pinned], laidTests := true, laidLooks := .later }
def RuletextOrdersCardSaid : Prop := Claim7.holds Tryz.pinned (.plain (OpenSpec.ofChange ruletextOrdersSpec)) ruletextOrdersCard

/-- THE TIED CARD OF 'lotterylaw11.RuletextTwice'. -/
def ruletextTwiceCard : Claim7 := { stood := { row := ruletextTwiceRow, standIns := [], harness := (true, "6cbbcbceaa5e30cf37f92566218d286f15d5938d99534cfdb9b52a657fde1821"), looks := true }, kinds := [], alts := [], laidByText := true, laidKinds := [.data, .data, .data, .data, .listed, .data, .data, .pinned], laidTests := true, laidLooks := .later }
def RuletextTwiceCardSaid : Prop := Claim7.holds Tryz.pinned (.plain (OpenSpec.ofChange ruletextTwiceSpec)) ruletextTwiceCard

/-- THE SECOND FORM's CARD OF 'lotterylaw11.RuletextParses'. -/
def ruletextParsesUptoCard : Claim7 := { stood := { row := ruletextParsesUptoRow, standIns := [], harness := (true, "6cbbcbceaa5e30cf37f92566218d286f15d5938d99534cfdb9b52a657fde1821"), looks := true }, kinds := [], alts := [], laidByText := true, laidKinds := [.data, .data, .data, .data], laidTests := true, laidLooks := .later }
def RuletextParsesUptoCardSaid : Prop := Claim7.holds Tryz.pinned (.plain (OpenSpec.upto ruletextParsesSpec)) ruletextParsesUptoCard

/-- THE SECOND FORM's CARD OF 'lotterylaw11.RuletextPrints'. -/
def ruletextPrintsUptoCard : Claim7 := { stood := { row := ruletextPrintsUptoRow, standIns := [], harness := (true, "6cbbcbceaa5e30cf37f92566218d286f15d5938d99534cfdb9b52a657fde1821"), looks := true }, kinds := [], alts := [], laidByText := true, laidKinds := [.data, .data, .data, .data], laidTests := true, laidLooks := .later }
def RuletextPrintsUptoCardSaid : Prop := Claim7.holds Tryz.pinned (.plain (OpenSpec.upto ruletextPrintsSpec)) ruletextPrintsUptoCard

/-- THE SECOND FORM's CARD OF 'lotterylaw11.RuletextSettles'. -/
def ruletextSettlesUptoCard : Claim7 := { stood := { row := ruletextSettlesUptoRow, standIns := [], harness := (true, "6cbbcbceaa5e30cf37f92566218d286f15d5938d99534cfdb9b52a657fde1821"), looks := true }, kinds := [], alts := [], laidByText := true, laidKinds := [.data, .data, .data, .data], laidTests := true, laidLooks := .later }
def RuletextSettlesUptoCardSaid : Prop := Claim7.holds Tryz.pinned (.plain (OpenSpec.upto ruletextSettlesSpec)) ruletextSettlesUptoCard

/-- THE SECOND FORM's CARD OF 'lotterylaw11.RuletextOrders'. -/
def ruletextOrdersUptoCard : Claim7 := { stood := { row := ruletextOrdersUptoRow, standIns := [], harness := (true, "6cbbcbceaa5e30cf37f92566218d286f15d5938d99534cfdb9b52a657fde1821"), looks := true }, kinds := [], alts := [], laidByText := true, laidKinds := [.data, .data, .data, .data, .listed, .data, .data, .pinned], laidTests := true, laidLooks := .later }
def RuletextOrdersUptoCardSaid : Prop := Claim7.holds Tryz.pinned (.plain (OpenSpec.upto ruletextOrdersSpec)) ruletextOrdersUptoCard

/-- THE SECOND FORM's CARD OF 'lotterylaw11.RuletextTwice'. -/
def ruletextTwiceUptoCard : Claim7 := { stood := { row := ruletextTwiceUptoRow, standIns := [], harness := (true, "6cbbcbceaa5e30cf37f92566218d286f15d5938d99534cfdb9b52a657fde1821"), looks := true }, kinds := [], alts := [], laidByText := true, laidKinds := [.data, .data, .data, .data, .listed, .data, .data, .pinned], laidTests := true, laidLooks := .later }
def RuletextTwiceUptoCardSaid : Prop := Claim7.holds Tryz.pinned (.plain (OpenSpec.upto ruletextTwiceSpec)) ruletextTwiceUptoCard
end Rows
end Go.Proofs.YtbdkggnajipdhaaGreatDoor
