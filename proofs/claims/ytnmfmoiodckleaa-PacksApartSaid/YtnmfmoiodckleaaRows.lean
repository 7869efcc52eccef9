/-
  No cell of these rows narrows 'for every input' (looked for: loops, veiled, ifaces, maps, wideKeys, modest, calm, conditions, laid).
  DERIVED. THE GIVEN ROWS OF THIS SEAT. 6 by the template 'for every input the law returns true; each argument reads behind the call as it read before'; 0 by the template 'total and deterministic' (their statements: YtnmfmoiodckleaaTotals.lean).
  GIVEN WITH THE SEED: the statements are not yours to turn. If you find one false, say at which input.
  Laid BY PROGRAM, IN A SANDBOX (cutbox-rows.mjs): the forced cells as the released guide's own fill.sh prints them over the translation f6fe33802ec37ddf… (all of the seat's roots in one cut). By AI agents, Wed Nov 11 2026. No macro, syntax, notation, axiom, sorry.
-/
import Derived.Test.YtnmfmoiodckleaaChecked
import GoSem.Claim
import GoSem.ClaimJoined
import GoSem.ClaimMapViews
import Derived.JoinedTies
import Derived.KernelRfl
namespace Go.Proofs.Ytnmfmoiodckleaa
/- THE CELL 'sum', in the pinned program and in every row, IS THE sha256 OF THE DUMP (.gsa) THAT YtnmfmoiodckleaaProg.lean LOADS. Nothing in Lean hashes anything: it is a label: what it is worth is what the hold of that sum in a sandbox is worth. -/
noncomputable def Try.pinned : Pinned := { name := "ytnmfmoiodckleaa", sum := "f6fe33802ec37ddf1313083836adbe69e20605e30ada9600c29d5e3c9e44e63f", checked := Try.checked }
namespace Rows
def none {H : Type} : Left H := { results := [], args := [] }

/-- 'lotterylaw42.PacksMakes': WHATEVER THE INPUT: true; the input reads as it did. -/
def packsMakesSpec : ChangeSpec := { name := "packsMakes", fn := fun _ => fun
  | [d1, d2] => { results := [.lit (.bool true)], args := [d1, d2] }
  | _ => none }
def packsMakesRow : OpenClaim := { program := "ytnmfmoiodckleaa", sum := "f6fe33802ec37ddf1313083836adbe69e20605e30ada9600c29d5e3c9e44e63f", func := "lottery/lotterylaw42.PacksMakes", spec := "packsMakes", apart := false }
def PacksMakesSaid : Prop := packsMakesRow.holds Try.pinned (OpenSpec.ofChange packsMakesSpec)

/-- ITS FALSE NEIGHBOUR: 'it returns false'. Refute it at one input. -/
def packsMakesWrong : ChangeSpec := { name := "packsMakes", fn := fun _ => fun
  | [d1, d2] => { results := [.lit (.bool false)], args := [d1, d2] }
  | _ => none }
def PacksMakesWrongFalsely : Prop := packsMakesRow.holds Try.pinned (OpenSpec.ofChange packsMakesWrong)

/-- 'lotterylaw42.PacksRuns': WHATEVER THE INPUT: true; the input reads as it did. -/
def packsRunsSpec : ChangeSpec := { name := "packsRuns", fn := fun _ => fun
  | [d1, d2, d3] => { results := [.lit (.bool true)], args := [d1, d2, d3] }
  | _ => none }
def packsRunsRow : OpenClaim := { program := "ytnmfmoiodckleaa", sum := "f6fe33802ec37ddf1313083836adbe69e20605e30ada9600c29d5e3c9e44e63f", func := "lottery/lotterylaw42.PacksRuns", spec := "packsRuns", apart := false }
def PacksRunsSaid : Prop := packsRunsRow.holds Try.pinned (OpenSpec.ofChange packsRunsSpec)

/-- ITS FALSE NEIGHBOUR: 'it returns false'. Refute it at one input. -/
def packsRunsWrong : ChangeSpec := { name := "packsRuns", fn := fun _ => fun
  | [d1, d2, d3] => { results := [.lit (.bool false)], args := [d1, d2, d3] }
  | _ => none }
def PacksRunsWrongFalsely : Prop := packsRunsRow.holds Try.pinned (OpenSpec.ofChange packsRunsWrong)

/-- 'lotterylaw42.PacksPayOnce': WHATEVER THE INPUT: true; the input reads as it did. -/
def packsPayOnceSpec : ChangeSpec := { name := "packsPayOnce", fn := fun _ => fun
  | [d1, d2, d3] => { results := [.lit (.bool true)], args := [d1, d2, d3] }
  | _ => none }
def packsPayOnceRow : OpenClaim := { program := "ytnmfmoiodckleaa", sum := "f6fe33802ec37ddf1313083836adbe69e20605e30ada9600c29d5e3c9e44e63f", func := "lottery/lotterylaw42.PacksPayOnce", spec := "packsPayOnce", apart := false }
def PacksPayOnceSaid : Prop := packsPayOnceRow.holds Try.pinned (OpenSpec.ofChange packsPayOnceSpec)

/-- ITS FALSE NEIGHBOUR: 'it returns false'. Refute it at one input. -/
def packsPayOnceWrong : ChangeSpec := { name := "packsPayOnce", fn := fun _ => fun
  | [d1, d2, d3] => { results := [.lit (.bool false)], args := [d1, d2, d3] }
  | _ => none }
def PacksPayOnceWrongFalsely : Prop := packsPayOnceRow.holds Try.pinned (OpenSpec.ofChange packsPayOnceWrong)

/-- 'lotterylaw42.PacksStates': WHATEVER THE INPUT: true; the input reads as it did. -/
def packsStatesSpec : ChangeSpec := { name := "packsStates", fn := fun _ => fun
  | [d1, d2, d3] => { results := [.lit (.bool true)], args := [d1, d2, d3] }
  | _ => none }
def packsStatesRow : OpenClaim := { program := "ytnmfmoiodckleaa", sum := "f6fe33802ec37ddf1313083836adbe69e20605e30ada9600c29d5e3c9e44e63f", func := "lottery/lotterylaw42.PacksStates", spec := "packsStates", apart := false }
def PacksStatesSaid : Prop := packsStatesRow.holds Try.pinned (OpenSpec.ofChange packsStatesSpec)

/-- ITS FALSE NEIGHBOUR: 'it returns false'. Refute it at one input. -/
def packsStatesWrong : ChangeSpec := { name := "packsStates", fn := fun _ => fun
  | [d1, d2, d3] => { results := [.lit (.bool false)], args := [d1, d2, d3] }
  | _ => none }
def PacksStatesWrongFalsely : Prop := packsStatesRow.holds Try.pinned (OpenSpec.ofChange packsStatesWrong)

/-- 'lotterylaw42.PacksApart': WHATEVER THE INPUT: true; the input reads as it did. -/
def packsApartSpec : ChangeSpec := { name := "packsApart", fn := fun _ => fun
  | [d1, d2, d3] => { results := [.lit (.bool true)], args := [d1, d2, d3] }
  | _ => none }
def packsApartRow : OpenClaim := { program := "ytnmfmoiodckleaa", sum := "f6fe33802ec37ddf1313083836adbe69e20605e30ada9600c29d5e3c9e44e63f", func := "lottery/lotterylaw42.PacksApart", spec := "packsApart", apart := false }
def PacksApartSaid : Prop := packsApartRow.holds Try.pinned (OpenSpec.ofChange packsApartSpec)

/-- ITS FALSE NEIGHBOUR: 'it returns false'. Refute it at one input. -/
def packsApartWrong : ChangeSpec := { name := "packsApart", fn := fun _ => fun
  | [d1, d2, d3] => { results := [.lit (.bool false)], args := [d1, d2, d3] }
  | _ => none }
def PacksApartWrongFalsely : Prop := packsApartRow.holds Try.pinned (OpenSpec.ofChange packsApartWrong)

/-- 'lotterylaw42.PacksNobody': WHATEVER THE INPUT: true; the input reads as it did. -/
def packsNobodySpec : ChangeSpec := { name := "packsNobody", fn := fun _ => fun
  | [d] => { results := [.lit (.bool true)], args := [d] }
  | _ => none }
def packsNobodyRow : OpenClaim := { program := "ytnmfmoiodckleaa", sum := "f6fe33802ec37ddf1313083836adbe69e20605e30ada9600c29d5e3c9e44e63f", func := "lottery/lotterylaw42.PacksNobody", spec := "packsNobody", apart := false }
def PacksNobodySaid : Prop := packsNobodyRow.holds Try.pinned (OpenSpec.ofChange packsNobodySpec)

/-- ITS FALSE NEIGHBOUR: 'it returns false'. Refute it at one input. -/
def packsNobodyWrong : ChangeSpec := { name := "packsNobody", fn := fun _ => fun
  | [d] => { results := [.lit (.bool false)], args := [d] }
  | _ => none }
def PacksNobodyWrongFalsely : Prop := packsNobodyRow.holds Try.pinned (OpenSpec.ofChange packsNobodyWrong)

/- THE SECOND FORM. 'bulk': how many values and letters a reading holds, each counted each time it is reached (what is shared counts as often as it is met; a slice's spare places count too). A statement '..UptoSaid' is the law's where the arguments, and the package variables that the reading takes, are together of bulk at most 1048576: NARROWER than '..Said'. Prove '..Said' where nothing that the law and all that it calls make is longer than what came in: it says more and counts as full. Else prove '..UptoSaid'. A law counts once. -/
mutual
def uptoBulk {H : Type} : DataW H → Nat
  | .lit (.string bytes) => bytes.length + 1
  | .lit _ => 1
  | .nil => 1
  | .ptr d => uptoBulk d + 1
  | .slice elems spare => uptoBulkAll elems + uptoBulkAll spare + 1
  | .agg parts => uptoBulkAll parts + 1
  | .iface _ d => uptoBulk d + 1
  | .map entries => uptoBulkEntries entries + 1
  | .held _ => 1
def uptoBulkAll {H : Type} : List (DataW H) → Nat
  | [] => 0
  | d :: r => uptoBulk d + uptoBulkAll r
def uptoBulkEntries {H : Type} : List (Lit × DataW H) → Nat
  | [] => 0
  | x :: r => uptoBulkEntry x + uptoBulkEntries r
def uptoBulkEntry {H : Type} : Lit × DataW H → Nat
  | (.string bytes, d) => bytes.length + uptoBulk d + 1
  | (_, d) => uptoBulk d + 1
 end
def uptoSmall : (H : Type) → List (DataW H) → Bool := fun _ ds => decide (uptoBulkAll ds ≤ 1048576)
def OpenSpec.upto (s : _root_.Go.ChangeSpec) : _root_.Go.OpenSpec := { _root_.Go.OpenSpec.ofChange s with cond := some uptoSmall }

/-- 'lotterylaw42.PacksMakes', WHERE WHAT IT READS IS OF BULK AT MOST 1048576: true; the input reads as it did. -/
def packsMakesUptoRow : OpenClaim := { program := "ytnmfmoiodckleaa", sum := "f6fe33802ec37ddf1313083836adbe69e20605e30ada9600c29d5e3c9e44e63f", func := "lottery/lotterylaw42.PacksMakes", spec := "packsMakes", apart := false, narrowed := true }
def PacksMakesUptoSaid : Prop := packsMakesUptoRow.holds Try.pinned (OpenSpec.upto packsMakesSpec)

/-- 'lotterylaw42.PacksRuns', WHERE WHAT IT READS IS OF BULK AT MOST 1048576: true; the input reads as it did. -/
def packsRunsUptoRow : OpenClaim := { program := "ytnmfmoiodckleaa", sum := "f6fe33802ec37ddf1313083836adbe69e20605e30ada9600c29d5e3c9e44e63f", func := "lottery/lotterylaw42.PacksRuns", spec := "packsRuns", apart := false, narrowed := true }
def PacksRunsUptoSaid : Prop := packsRunsUptoRow.holds Try.pinned (OpenSpec.upto packsRunsSpec)

/-- 'lotterylaw42.PacksPayOnce', WHERE WHAT IT READS IS OF BULK AT MOST 1048576: true; the input reads as it did. -/
def packsPayOnceUptoRow : OpenClaim := { program := "ytnmfmoiodckleaa", sum := "f6fe33802ec37ddf1313083836adbe69e20605e30ada9600c29d5e3c9e44e63f", func := "lottery/lotterylaw42.PacksPayOnce", spec := "packsPayOnce", apart := false, narrowed := true }
def PacksPayOnceUptoSaid : Prop := packsPayOnceUptoRow.holds Try.pinned (OpenSpec.upto packsPayOnceSpec)

/-- 'lotterylaw42.PacksStates', WHERE WHAT IT READS IS OF BULK AT MOST 1048576: true; the input reads as it did. -/
def packsStatesUptoRow : OpenClaim := { program := "ytnmfmoiodckleaa", sum := "f6fe33802ec37ddf1313083836adbe69e20605e30ada9600c29d5e3c9e44e63f", func := "lottery/lotterylaw42.PacksStates", spec := "packsStates", apart := false, narrowed := true }
def PacksStatesUptoSaid : Prop := packsStatesUptoRow.holds Try.pinned (OpenSpec.upto packsStatesSpec)

/-- 'lotterylaw42.PacksApart', WHERE WHAT IT READS IS OF BULK AT MOST 1048576: true; the input reads as it did. -/
def packsApartUptoRow : OpenClaim := { program := "ytnmfmoiodckleaa", sum := "f6fe33802ec37ddf1313083836adbe69e20605e30ada9600c29d5e3c9e44e63f", func := "lottery/lotterylaw42.PacksApart", spec := "packsApart", apart := false, narrowed := true }
def PacksApartUptoSaid : Prop := packsApartUptoRow.holds Try.pinned (OpenSpec.upto packsApartSpec)

/-- 'lotterylaw42.PacksNobody', WHERE WHAT IT READS IS OF BULK AT MOST 1048576: true; the input reads as it did. -/
def packsNobodyUptoRow : OpenClaim := { program := "ytnmfmoiodckleaa", sum := "f6fe33802ec37ddf1313083836adbe69e20605e30ada9600c29d5e3c9e44e63f", func := "lottery/lotterylaw42.PacksNobody", spec := "packsNobody", apart := false, narrowed := true }
def PacksNobodyUptoSaid : Prop := packsNobodyUptoRow.holds Try.pinned (OpenSpec.upto packsNobodySpec)

end Rows
end Go.Proofs.Ytnmfmoiodckleaa
