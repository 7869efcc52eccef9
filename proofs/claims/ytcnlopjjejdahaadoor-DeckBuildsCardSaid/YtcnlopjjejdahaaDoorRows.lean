/-
  NARROWER THAN 'FOR EVERY INPUT', by the rows' own cells (each row's printed sentence says how): DeckChecks: laid · DeckParses: laid · DeckPrints: laid · DeckRoundTrips: laid · DeckBuilds: laid · DeckKeepsPlan: laid · DeckPays: laid · DeckCodes: laid.
  DERIVED. THE GIVEN ROWS OF THIS SEAT. 8 by the template 'for every input the law returns true; each argument reads behind the call as it read before'; 0 by the template 'total and deterministic' (their statements: YtcnlopjjejdahaaDoorTotals.lean).
  GIVEN WITH THE SEED: the statements are not yours to turn. If you find one false, say at which input.
  Laid BY PROGRAM, IN A SANDBOX (cutbox-rows.mjs): the forced cells as the released guide's own fill.sh prints them over the translation 400382395013bc5f… (all of the seat's roots in one cut). By AI agents, Wed Nov 11 2026. No macro, syntax, notation, axiom, sorry.
-/
import Derived.Test.YtcnlopjjejdahaaDoorChecked
import GoSem.Claim
import GoSem.ClaimJoined
import GoSem.ClaimMapViews
import Derived.JoinedTies
import Derived.KernelRfl
namespace Go.Proofs.YtcnlopjjejdahaaDoor
/- THE CELL 'sum', in the pinned program and in every row, IS THE sha256 OF THE DUMP (.gsa) THAT YtcnlopjjejdahaaDoorProg.lean LOADS. Nothing in Lean hashes anything: it is a label: what it is worth is what the hold of that sum in a sandbox is worth. -/
noncomputable def Tryd.pinned : Pinned := { name := "ytcnlopjjejdahaadoor", sum := "400382395013bc5ff8ee61ef7fbe152c92f813ffba8ba9ae8981d648d753b72b", checked := Tryd.checked }
namespace Rows
def none {H : Type} : Left H := { results := [], args := [] }

/- WHAT THE LISTED PACKAGE-LEVEL VARIABLES READ AS WHEN THE CALL BEGINS. Each datum BY PROGRAM (the guide's laid-datum.mjs) off the statement by which the dump's own 'gosem.cut.vars' lays the variable. In a bare row this is a premise. The card (YtcnlopjjejdahaaDoorCards.lean) ties it to the program's text. -/
def laid_lottery_digest_hexDigits {H : Type} : DataW H := .agg [.lit (.int .u8 48), .lit (.int .u8 49), .lit (.int .u8 50), .lit (.int .u8 51), .lit (.int .u8 52), .lit (.int .u8 53), .lit (.int .u8 54), .lit (.int .u8 55), .lit (.int .u8 56), .lit (.int .u8 57), .lit (.int .u8 97), .lit (.int .u8 98), .lit (.int .u8 99), .lit (.int .u8 100), .lit (.int .u8 101), .lit (.int .u8 102)]
def laid_math_bits_deBruijn32tab {H : Type} : DataW H := .agg [.lit (.int .u8 0), .lit (.int .u8 1), .lit (.int .u8 28), .lit (.int .u8 2), .lit (.int .u8 29), .lit (.int .u8 14), .lit (.int .u8 24), .lit (.int .u8 3), .lit (.int .u8 30), .lit (.int .u8 22), .lit (.int .u8 20), .lit (.int .u8 15), .lit (.int .u8 25), .lit (.int .u8 17), .lit (.int .u8 4), .lit (.int .u8 8), .lit (.int .u8 31), .lit (.int .u8 27), .lit (.int .u8 13), .lit (.int .u8 23), .lit (.int .u8 21), .lit (.int .u8 19), .lit (.int .u8 16), .lit (.int .u8 7), .lit (.int .u8 26), .lit (.int .u8 12), .lit (.int .u8 18), .lit (.int .u8 6), .lit (.int .u8 11), .lit (.int .u8 5), .lit (.int .u8 10), .lit (.int .u8 9)]
def laid_math_bits_deBruijn64tab {H : Type} : DataW H := .agg [.lit (.int .u8 0), .lit (.int .u8 1), .lit (.int .u8 56), .lit (.int .u8 2), .lit (.int .u8 57), .lit (.int .u8 49), .lit (.int .u8 28), .lit (.int .u8 3), .lit (.int .u8 61), .lit (.int .u8 58), .lit (.int .u8 42), .lit (.int .u8 50), .lit (.int .u8 38), .lit (.int .u8 29), .lit (.int .u8 17), .lit (.int .u8 4), .lit (.int .u8 62), .lit (.int .u8 47), .lit (.int .u8 59), .lit (.int .u8 36), .lit (.int .u8 45), .lit (.int .u8 43), .lit (.int .u8 51), .lit (.int .u8 22), .lit (.int .u8 53), .lit (.int .u8 39), .lit (.int .u8 33), .lit (.int .u8 30), .lit (.int .u8 24), .lit (.int .u8 18), .lit (.int .u8 12), .lit (.int .u8 5), .lit (.int .u8 63), .lit (.int .u8 55), .lit (.int .u8 48), .lit (.int .u8 27), .lit (.int .u8 60), .lit (.int .u8 41), .lit (.int .u8 37), .lit (.int .u8 16), .lit (.int .u8 46), .lit (.int .u8 35), .lit (.int .u8 44), .lit (.int .u8 21), .lit (.int .u8 52), .lit (.int .u8 32), .lit (.int .u8 23), .lit (.int .u8 11), .lit (.int .u8 54), .lit (.int .u8 26), .lit (.int .u8 40), .lit (.int .u8 15), .lit (.int .u8 34), .lit (.int .u8 20), .lit (.int .u8 31), .lit (.int .u8 10), .lit (.int .u8 25), .lit (.int .u8 14), .lit (.int .u8 19), .lit (.int .u8 9), .lit (.int .u8 13), .lit (.int .u8 8), .lit (.int .u8 7), .lit (.int .u8 6)]
def laid_internal_strconv_uint64pow10 {H : Type} : DataW H := .agg [.lit (.int .u64 1), .lit (.int .u64 10), .lit (.int .u64 100), .lit (.int .u64 1000), .lit (.int .u64 10000), .lit (.int .u64 100000), .lit (.int .u64 1000000), .lit (.int .u64 10000000), .lit (.int .u64 100000000), .lit (.int .u64 1000000000), .lit (.int .u64 10000000000), .lit (.int .u64 100000000000), .lit (.int .u64 1000000000000), .lit (.int .u64 10000000000000), .lit (.int .u64 100000000000000), .lit (.int .u64 1000000000000000), .lit (.int .u64 10000000000000000), .lit (.int .u64 100000000000000000), .lit (.int .u64 1000000000000000000), .lit (.int .u64 10000000000000000000)]

/-- 'lotterylaw41.DeckChecks': WHATEVER THE INPUT: true; the input reads as it did. -/
def deckChecksSpec : ChangeSpec := { name := "deckChecks", fn := fun _ => fun
  | [d] => { results := [.lit (.bool true)], args := [d] }
  | _ => none }
def deckChecksRow : OpenClaim := { program := "ytcnlopjjejdahaadoor", sum := "400382395013bc5ff8ee61ef7fbe152c92f813ffba8ba9ae8981d648d753b72b", func := "lottery/lotterylaw41.DeckChecks", spec := "deckChecks", inPlace := ["internal/bytealg.CountString", "internal/bytealg.IndexByteString", "internal/bytealg.IndexString", "internal/abi.NoEscape"], unfollowed := true, recurses := true, named := ["internal/bytealg.MaxLen", "lottery/digest.hexDigits", "internal/strconv.uint64pow10", "math/bits.deBruijn32tab", "math/bits.deBruijn64tab"], apart := false, laid := [("lottery/digest.hexDigits", laid_lottery_digest_hexDigits), ("math/bits.deBruijn32tab", laid_math_bits_deBruijn32tab), ("math/bits.deBruijn64tab", laid_math_bits_deBruijn64tab), ("internal/strconv.uint64pow10", laid_internal_strconv_uint64pow10)] }
def DeckChecksSaid : Prop := deckChecksRow.holds Tryd.pinned (OpenSpec.ofChange deckChecksSpec)

/-- ITS FALSE NEIGHBOUR: 'it returns false'. Refute it at one input. -/
def deckChecksWrong : ChangeSpec := { name := "deckChecks", fn := fun _ => fun
  | [d] => { results := [.lit (.bool false)], args := [d] }
  | _ => none }
def DeckChecksWrongFalsely : Prop := deckChecksRow.holds Tryd.pinned (OpenSpec.ofChange deckChecksWrong)

/-- 'lotterylaw41.DeckParses': WHATEVER THE INPUT: true; the input reads as it did. -/
def deckParsesSpec : ChangeSpec := { name := "deckParses", fn := fun _ => fun
  | [d] => { results := [.lit (.bool true)], args := [d] }
  | _ => none }
def deckParsesRow : OpenClaim := { program := "ytcnlopjjejdahaadoor", sum := "400382395013bc5ff8ee61ef7fbe152c92f813ffba8ba9ae8981d648d753b72b", func := "lottery/lotterylaw41.DeckParses", spec := "deckParses", inPlace := ["internal/bytealg.CountString", "internal/bytealg.IndexByteString", "internal/bytealg.IndexString", "internal/abi.NoEscape"], unfollowed := true, recurses := true, named := ["internal/bytealg.MaxLen", "lottery/digest.hexDigits", "internal/strconv.uint64pow10", "math/bits.deBruijn32tab", "math/bits.deBruijn64tab"], apart := false, laid := [("lottery/digest.hexDigits", laid_lottery_digest_hexDigits), ("math/bits.deBruijn32tab", laid_math_bits_deBruijn32tab), ("math/bits.deBruijn64tab", laid_math_bits_deBruijn64tab), ("internal/strconv.uint64pow10", laid_internal_strconv_uint64pow10)] }
def DeckParsesSaid : Prop := deckParsesRow.holds Tryd.pinned (OpenSpec.ofChange deckParsesSpec)

/-- ITS FALSE NEIGHBOUR: 'it returns false'. Refute it at one input. -/
def deckParsesWrong : ChangeSpec := { name := "deckParses", fn := fun _ => fun
  | [d] => { results := [.lit (.bool false)], args := [d] }
  | _ => none }
def DeckParsesWrongFalsely : Prop := deckParsesRow.holds Tryd.pinned (OpenSpec.ofChange deckParsesWrong)

/-- 'lotterylaw41.DeckPrints': WHATEVER THE INPUT: true; the input reads as it did. -/
def deckPrintsSpec : ChangeSpec := { name := "deckPrints", fn := fun _ => fun
  | [d] => { results := [.lit (.bool true)], args := [d] }
  | _ => none }
def deckPrintsRow : OpenClaim := { program := "ytcnlopjjejdahaadoor", sum := "400382395013bc5ff8ee61ef7fbe152c92f813ffba8ba9ae8981d648d753b72b", func := "lottery/lotterylaw41.DeckPrints", spec := "deckPrints", inPlace := ["internal/bytealg.CountString", "internal/bytealg.IndexByteString", "internal/bytealg.IndexString", "internal/abi.NoEscape"], unfollowed := true, recurses := true, named := ["internal/bytealg.MaxLen", "lottery/digest.hexDigits", "internal/strconv.uint64pow10", "math/bits.deBruijn32tab", "math/bits.deBruijn64tab"], apart := false, laid := [("lottery/digest.hexDigits", laid_lottery_digest_hexDigits), ("math/bits.deBruijn32tab", laid_math_bits_deBruijn32tab), ("math/bits.deBruijn64tab", laid_math_bits_deBruijn64tab), ("internal/strconv.uint64pow10", laid_internal_strconv_uint64pow10)] }
def DeckPrintsSaid : Prop := deckPrintsRow.holds Tryd.pinned (OpenSpec.ofChange deckPrintsSpec)

/-- ITS FALSE NEIGHBOUR: 'it returns false'. Refute it at one input. -/
def deckPrintsWrong : ChangeSpec := { name := "deckPrints", fn := fun _ => fun
  | [d] => { results := [.lit (.bool false)], args := [d] }
  | _ => none }
def DeckPrintsWrongFalsely : Prop := deckPrintsRow.holds Tryd.pinned (OpenSpec.ofChange deckPrintsWrong)

/-- 'lotterylaw41.DeckRoundTrips': WHATEVER THE INPUT: true; the input reads as it did. -/
def deckRoundTripsSpec : ChangeSpec := { name := "deckRoundTrips", fn := fun _ => fun
  | [d] => { results := [.lit (.bool true)], args := [d] }
  | _ => none }
def deckRoundTripsRow : OpenClaim := { program := "ytcnlopjjejdahaadoor", sum := "400382395013bc5ff8ee61ef7fbe152c92f813ffba8ba9ae8981d648d753b72b", func := "lottery/lotterylaw41.DeckRoundTrips", spec := "deckRoundTrips", inPlace := ["internal/bytealg.CountString", "internal/bytealg.IndexByteString", "internal/bytealg.IndexString", "internal/abi.NoEscape"], unfollowed := true, recurses := true, named := ["internal/bytealg.MaxLen", "lottery/digest.hexDigits", "internal/strconv.uint64pow10", "math/bits.deBruijn32tab", "math/bits.deBruijn64tab"], apart := false, laid := [("lottery/digest.hexDigits", laid_lottery_digest_hexDigits), ("math/bits.deBruijn32tab", laid_math_bits_deBruijn32tab), ("math/bits.deBruijn64tab", laid_math_bits_deBruijn64tab), ("internal/strconv.uint64pow10", laid_internal_strconv_uint64pow10)] }
def DeckRoundTripsSaid : Prop := deckRoundTripsRow.holds Tryd.pinned (OpenSpec.ofChange deckRoundTripsSpec)

/-- ITS FALSE NEIGHBOUR: 'it returns false'. Refute it at one input. -/
def deckRoundTripsWrong : ChangeSpec := { name := "deckRoundTrips", fn := fun _ => fun
  | [d] => { results := [.lit (.bool false)], args := [d] }
  | _ => none }
def DeckRoundTripsWrongFalsely : Prop := deckRoundTripsRow.holds Tryd.pinned (OpenSpec.ofChange deckRoundTripsWrong)

/-- 'lotterylaw41.DeckBuilds': WHATEVER THE INPUT: true; the input reads as it did. -/
def deckBuildsSpec : ChangeSpec := { name := "deckBuilds", fn := fun _ => fun
  | [d1, d2] => { results := [.lit (.bool true)], args := [d1, d2] }
  | _ => none }
def deckBuildsRow : OpenClaim := { program := "ytcnlopjjejdahaadoor", sum := "400382395013bc5ff8ee61ef7fbe152c92f813ffba8ba9ae8981d648d753b72b", func := "lottery/lotterylaw41.DeckBuilds", spec := "deckBuilds", inPlace := ["internal/bytealg.CountString", "internal/bytealg.IndexByteString", "internal/bytealg.IndexString", "internal/abi.NoEscape"], unfollowed := true, recurses := true, named := ["internal/bytealg.MaxLen", "lottery/digest.hexDigits", "internal/strconv.uint64pow10", "math/bits.deBruijn32tab", "math/bits.deBruijn64tab"], apart := false, laid := [("lottery/digest.hexDigits", laid_lottery_digest_hexDigits), ("math/bits.deBruijn32tab", laid_math_bits_deBruijn32tab), ("math/bits.deBruijn64tab", laid_math_bits_deBruijn64tab), ("internal/strconv.uint64pow10", laid_internal_strconv_uint64pow10)] }
def DeckBuildsSaid : Prop := deckBuildsRow.holds Tryd.pinned (OpenSpec.ofChange deckBuildsSpec)

/-- ITS FALSE NEIGHBOUR: 'it returns false'. Refute it at one input. -/
def deckBuildsWrong : ChangeSpec := { name := "deckBuilds", fn := fun _ => fun
  | [d1, d2] => { results := [.lit (.bool false)], args := [d1, d2] }
  | _ => none }
def DeckBuildsWrongFalsely : Prop := deckBuildsRow.holds Tryd.pinned (OpenSpec.ofChange deckBuildsWrong)

/-- 'lotterylaw41.DeckKeepsPlan': WHATEVER THE INPUT: true; the input reads as it did. -/
def deckKeepsPlanSpec : ChangeSpec := { name := "deckKeepsPlan", fn := fun _ => fun
  | [d1, d2] => { results := [.lit (.bool true)], args := [d1, d2] }
  | _ => none }
def deckKeepsPlanRow : OpenClaim := { program := "ytcnlopjjejdahaadoor", sum := "400382395013bc5ff8ee61ef7fbe152c92f813ffba8ba9ae8981d648d753b72b", func := "lottery/lotterylaw41.DeckKeepsPlan", spec := "deckKeepsPlan", inPlace := ["internal/bytealg.CountString", "internal/bytealg.IndexByteString", "internal/bytealg.IndexString", "internal/abi.NoEscape"], unfollowed := true, recurses := true, named := ["internal/bytealg.MaxLen", "lottery/digest.hexDigits", "internal/strconv.uint64pow10", "math/bits.deBruijn32tab", "math/bits.deBruijn64tab"], apart := false, laid := [("lottery/digest.hexDigits", laid_lottery_digest_hexDigits), ("math/bits.deBruijn32tab", laid_math_bits_deBruijn32tab), ("math/bits.deBruijn64tab", laid_math_bits_deBruijn64tab), ("internal/strconv.uint64pow10", laid_internal_strconv_uint64pow10)] }
def DeckKeepsPlanSaid : Prop := deckKeepsPlanRow.holds Tryd.pinned (OpenSpec.ofChange deckKeepsPlanSpec)

/-- ITS FALSE NEIGHBOUR: 'it returns false'. Refute it at one input. -/
def deckKeepsPlanWrong : ChangeSpec := { name := "deckKeepsPlan", fn := fun _ => fun
  | [d1, d2] => { results := [.lit (.bool false)], args := [d1, d2] }
  | _ => none }
def DeckKeepsPlanWrongFalsely : Prop := deckKeepsPlanRow.holds Tryd.pinned (OpenSpec.ofChange deckKeepsPlanWrong)

/-- 'lotterylaw41.DeckPays': WHATEVER THE INPUT: true; the input reads as it did. -/
def deckPaysSpec : ChangeSpec := { name := "deckPays", fn := fun _ => fun
  | [d1, d2] => { results := [.lit (.bool true)], args := [d1, d2] }
  | _ => none }
def deckPaysRow : OpenClaim := { program := "ytcnlopjjejdahaadoor", sum := "400382395013bc5ff8ee61ef7fbe152c92f813ffba8ba9ae8981d648d753b72b", func := "lottery/lotterylaw41.DeckPays", spec := "deckPays", inPlace := ["internal/bytealg.CountString", "internal/bytealg.IndexByteString", "internal/bytealg.IndexString", "internal/abi.NoEscape"], unfollowed := true, recurses := true, named := ["internal/bytealg.MaxLen", "lottery/digest.hexDigits", "internal/strconv.uint64pow10", "math/bits.deBruijn32tab", "math/bits.deBruijn64tab"], apart := false, laid := [("lottery/digest.hexDigits", laid_lottery_digest_hexDigits), ("math/bits.deBruijn32tab", laid_math_bits_deBruijn32tab), ("math/bits.deBruijn64tab", laid_math_bits_deBruijn64tab), ("internal/strconv.uint64pow10", laid_internal_strconv_uint64pow10)] }
def DeckPaysSaid : Prop := deckPaysRow.holds Tryd.pinned (OpenSpec.ofChange deckPaysSpec)

/-- ITS FALSE NEIGHBOUR: 'it returns false'. Refute it at one input. -/
def deckPaysWrong : ChangeSpec := { name := "deckPays", fn := fun _ => fun
  | [d1, d2] => { results := [.lit (.bool false)], args := [d1, d2] }
  | _ => none }
def DeckPaysWrongFalsely : Prop := deckPaysRow.holds Tryd.pinned (OpenSpec.ofChange deckPaysWrong)

/-- 'lotterylaw41.DeckCodes': WHATEVER THE INPUT: true; the input reads as it did. -/
def deckCodesSpec : ChangeSpec := { name := "deckCodes", fn := fun _ => fun
  | [d1, d2] => { results := [.lit (.bool true)], args := [d1, d2] }
  | _ => none }
def deckCodesRow : OpenClaim := { program := "ytcnlopjjejdahaadoor", sum := "400382395013bc5ff8ee61ef7fbe152c92f813ffba8ba9ae8981d648d753b72b", func := "lottery/lotterylaw41.DeckCodes", spec := "deckCodes", inPlace := ["internal/bytealg.CountString", "internal/bytealg.IndexByteString", "internal/bytealg.IndexString", "internal/abi.NoEscape"], unfollowed := true, recurses := true, named := ["internal/bytealg.MaxLen", "lottery/digest.hexDigits", "internal/strconv.uint64pow10", "math/bits.deBruijn32tab", "math/bits.deBruijn64tab"], apart := false, laid := [("lottery/digest.hexDigits", laid_lottery_digest_hexDigits), ("math/bits.deBruijn32tab", laid_math_bits_deBruijn32tab), ("math/bits.deBruijn64tab", laid_math_bits_deBruijn64tab), ("internal/strconv.uint64pow10", laid_internal_strconv_uint64pow10)] }
def DeckCodesSaid : Prop := deckCodesRow.holds Tryd.pinned (OpenSpec.ofChange deckCodesSpec)

/-- ITS FALSE NEIGHBOUR: 'it returns false'. Refute it at one input. -/
def deckCodesWrong : ChangeSpec := { name := "deckCodes", fn := fun _ => fun
  | [d1, d2] => { results := [.lit (.bool false)], args := [d1, d2] }
  | _ => none }
def DeckCodesWrongFalsely : Prop := deckCodesRow.holds Tryd.pinned (OpenSpec.ofChange deckCodesWrong)

/- THE SECOND FORM. 'bulk': how many values and letters a reading holds, each counted each time it is reached (what is shared counts as often as it is met; a slice's spare places count too). A statement '..UptoSaid' is the law's where the arguments, and the package variables that the reading takes, are together of bulk at most 1048576: NARROWER than '..Said'. Prove '..Said' where nothing that the law and all that it calls make is longer than what came in: it says more and counts as full. Else prove '..UptoSaid'. A law counts once. -/
mutual
def uptoBulk {H : Type} : DataW H → Nat
  | .lit (.string bytes) => bytes.length + 1
  | .lit _ => 1
  | .nil => 1
  | .ptr d => uptoBulk d + 1
  | .slice elems spare => uptoBulkAll elems + uptoBulkAll spare + 1
  | .agg parts => uptoBulkAll parts + 1
  | .iface _ d => uptoBulk d + 1
  | .map entries => uptoBulkEntries entries + 1
  | .held _ => 1
def uptoBulkAll {H : Type} : List (DataW H) → Nat
  | [] => 0
  | d :: r => uptoBulk d + uptoBulkAll r
def uptoBulkEntries {H : Type} : List (Lit × DataW H) → Nat
  | [] => 0
  | x :: r => uptoBulkEntry x + uptoBulkEntries r
def uptoBulkEntry {H : Type} : Lit × DataW H → Nat
  | (.string bytes, d) => bytes.length + uptoBulk d + 1
  | (_, d) => uptoBulk d + 1
 end
def uptoSmall : (H : Type) → List (DataW H) → Bool := fun _ ds => decide (uptoBulkAll ds ≤ 1048576)
def OpenSpec.upto (s : _root_.Go.ChangeSpec) : _root_.Go.OpenSpec := { _root_.Go.OpenSpec.ofChange s with cond := some uptoSmall }

/-- 'lotterylaw41.DeckChecks', WHERE WHAT IT READS IS OF BULK AT MOST 1048576: true; the input reads as it did. -/
def deckChecksUptoRow : OpenClaim := { program := "ytcnlopjjejdahaadoor", sum := "400382395013bc5ff8ee61ef7fbe152c92f813ffba8ba9ae8981d648d753b72b", func := "lottery/lotterylaw41.DeckChecks", spec := "deckChecks", inPlace := ["internal/bytealg.CountString", "internal/bytealg.IndexByteString", "internal/bytealg.IndexString", "internal/abi.NoEscape"], unfollowed := true, recurses := true, named := ["internal/bytealg.MaxLen", "lottery/digest.hexDigits", "internal/strconv.uint64pow10", "math/bits.deBruijn32tab", "math/bits.deBruijn64tab"], apart := false, laid := [("lottery/digest.hexDigits", laid_lottery_digest_hexDigits), ("math/bits.deBruijn32tab", laid_math_bits_deBruijn32tab), ("math/bits.deBruijn64tab", laid_math_bits_deBruijn64tab), ("internal/strconv.uint64pow10", laid_internal_strconv_uint64pow10)], narrowed := true }
def DeckChecksUptoSaid : Prop := deckChecksUptoRow.holds Tryd.pinned (OpenSpec.upto deckChecksSpec)

/-- 'lotterylaw41.DeckParses', WHERE WHAT IT READS IS OF BULK AT MOST 1048576: true; the input reads as it did. -/
def deckParsesUptoRow : OpenClaim := { program := "ytcnlopjjejdahaadoor", sum := "400382395013bc5ff8ee61ef7fbe152c92f813ffba8ba9ae8981d648d753b72b", func := "lottery/lotterylaw41.DeckParses", spec := "deckParses", inPlace := ["internal/bytealg.CountString", "internal/bytealg.IndexByteString", "internal/bytealg.IndexString", "internal/abi.NoEscape"], unfollowed := true, recurses := true, named := ["internal/bytealg.MaxLen", "lottery/digest.hexDigits", "internal/strconv.uint64pow10", "math/bits.deBruijn32tab", "math/bits.deBruijn64tab"], apart := false, laid := [("lottery/digest.hexDigits", laid_lottery_digest_hexDigits), ("math/bits.deBruijn32tab", laid_math_bits_deBruijn32tab), ("math/bits.deBruijn64tab", laid_math_bits_deBruijn64tab), ("internal/strconv.uint64pow10", laid_internal_strconv_uint64pow10)], narrowed := true }
def DeckParsesUptoSaid : Prop := deckParsesUptoRow.holds Tryd.pinned (OpenSpec.upto deckParsesSpec)

/-- 'lotterylaw41.DeckPrints', WHERE WHAT IT READS IS OF BULK AT MOST 1048576: true; the input reads as it did. -/
def deckPrintsUptoRow : OpenClaim := { program := "ytcnlopjjejdahaadoor", sum := "400382395013bc5ff8ee61ef7fbe152c92f813ffba8ba9ae8981d648d753b72b", func := "lottery/lotterylaw41.DeckPrints", spec := "deckPrints", inPlace := ["internal/bytealg.CountString", "internal/bytealg.IndexByteString", "internal/bytealg.IndexString", "internal/abi.NoEscape"], unfollowed := true, recurses := true, named := ["internal/bytealg.MaxLen", "lottery/digest.hexDigits", "internal/strconv.uint64pow10", "math/bits.deBruijn32tab", "math/bits.deBruijn64tab"], apart := false, laid := [("lottery/digest.hexDigits", laid_lottery_digest_hexDigits), ("math/bits.deBruijn32tab", laid_math_bits_deBruijn32tab), ("math/bits.deBruijn64tab", laid_math_bits_deBruijn64tab), ("internal/strconv.uint64pow10", laid_internal_strconv_uint64pow10)], narrowed := true }
def DeckPrintsUptoSaid : Prop := deckPrintsUptoRow.holds Tryd.pinned (OpenSpec.upto deckPrintsSpec)

/-- 'lotterylaw41.DeckRoundTrips', WHERE WHAT IT READS IS OF BULK AT MOST 1048576: true; the input reads as it did. -/
def deckRoundTripsUptoRow : OpenClaim := { program := "ytcnlopjjejdahaadoor", sum := "400382395013bc5ff8ee61ef7fbe152c92f813ffba8ba9ae8981d648d753b72b", func := "lottery/lotterylaw41.DeckRoundTrips", spec := "deckRoundTrips", inPlace := ["internal/bytealg.CountString", "internal/bytealg.IndexByteString", "internal/bytealg.IndexString", "internal/abi.NoEscape"], unfollowed := true, recurses := true, named := ["internal/bytealg.MaxLen", "lottery/digest.hexDigits", "internal/strconv.uint64pow10", "math/bits.deBruijn32tab", "math/bits.deBruijn64tab"], apart := false, laid := [("lottery/digest.hexDigits", laid_lottery_digest_hexDigits), ("math/bits.deBruijn32tab", laid_math_bits_deBruijn32tab), ("math/bits.deBruijn64tab", laid_math_bits_deBruijn64tab), ("internal/strconv.uint64pow10", laid_internal_strconv_uint64pow10)], narrowed := true }
def DeckRoundTripsUptoSaid : Prop := deckRoundTripsUptoRow.holds Tryd.pinned (OpenSpec.upto deckRoundTripsSpec)

/-- 'lotterylaw41.DeckBuilds', WHERE WHAT IT READS IS OF BULK AT MOST 1048576: true; the input reads as it did. -/
def deckBuildsUptoRow : OpenClaim := { program := "ytcnlopjjejdahaadoor", sum := "400382395013bc5ff8ee61ef7fbe152c92f813ffba8ba9ae8981d648d753b72b", func := "lottery/lotterylaw41.DeckBuilds", spec := "deckBuilds", inPlace := ["internal/bytealg.CountString", "internal/bytealg.IndexByteString", "internal/bytealg.IndexString", "internal/abi.NoEscape"], unfollowed := true, recurses := true, named := ["internal/bytealg.MaxLen", "lottery/digest.hexDigits", "internal/strconv.uint64pow10", "math/bits.deBruijn32tab", "math/bits.deBruijn64tab"], apart := false, laid := [("lottery/digest.hexDigits", laid_lottery_digest_hexDigits), ("math/bits.deBruijn32tab", laid_math_bits_deBruijn32tab), ("math/bits.deBruijn64tab", laid_math_bits_deBruijn64tab), ("internal/strconv.uint64pow10", laid_internal_strconv_uint64pow10)], narrowed := true }
def DeckBuildsUptoSaid : Prop := deckBuildsUptoRow.holds Tryd.pinned (OpenSpec.upto deckBuildsSpec)

/-- 'lotterylaw41.DeckKeepsPlan', WHERE WHAT IT READS IS OF BULK AT MOST 1048576: true; the input reads as it did. -/
def deckKeepsPlanUptoRow : OpenClaim := { program := "ytcnlopjjejdahaadoor", sum := "400382395013bc5ff8ee61ef7fbe152c92f813ffba8ba9ae8981d648d753b72b", func := "lottery/lotterylaw41.DeckKeepsPlan", spec := "deckKeepsPlan", inPlace := ["internal/bytealg.CountString", "internal/bytealg.IndexByteString", "internal/bytealg.IndexString", "internal/abi.NoEscape"], unfollowed := true, recurses := true, named := ["internal/bytealg.MaxLen", "lottery/digest.hexDigits", "internal/strconv.uint64pow10", "math/bits.deBruijn32tab", "math/bits.deBruijn64tab"], apart := false, laid := [("lottery/digest.hexDigits", laid_lottery_digest_hexDigits), ("math/bits.deBruijn32tab", laid_math_bits_deBruijn32tab), ("math/bits.deBruijn64tab", laid_math_bits_deBruijn64tab), ("internal/strconv.uint64pow10", laid_internal_strconv_uint64pow10)], narrowed := true }
def DeckKeepsPlanUptoSaid : Prop := deckKeepsPlanUptoRow.holds Tryd.pinned (OpenSpec.upto deckKeepsPlanSpec)

/-- 'lotterylaw41.DeckPays', WHERE WHAT IT READS IS OF BULK AT MOST 1048576: true; the input reads as it did. -/
def deckPaysUptoRow : OpenClaim := { program := "ytcnlopjjejdahaadoor", sum := "400382395013bc5ff8ee61ef7fbe152c92f813ffba8ba9ae8981d648d753b72b", func := "lottery/lotterylaw41.DeckPays", spec := "deckPays", inPlace := ["internal/bytealg.CountString", "internal/bytealg.IndexByteString", "internal/bytealg.IndexString", "internal/abi.NoEscape"], unfollowed := true, recurses := true, named := ["internal/bytealg.MaxLen", "lottery/digest.hexDigits", "internal/strconv.uint64pow10", "math/bits.deBruijn32tab", "math/bits.deBruijn64tab"], apart := false, laid := [("lottery/digest.hexDigits", laid_lottery_digest_hexDigits), ("math/bits.deBruijn32tab", laid_math_bits_deBruijn32tab), ("math/bits.deBruijn64tab", laid_math_bits_deBruijn64tab), ("internal/strconv.uint64pow10", laid_internal_strconv_uint64pow10)], narrowed := true }
def DeckPaysUptoSaid : Prop := deckPaysUptoRow.holds Tryd.pinned (OpenSpec.upto deckPaysSpec)

/-- 'lotterylaw41.DeckCodes', WHERE WHAT IT READS IS OF BULK AT MOST 1048576: true; the input reads as it did. -/
def deckCodesUptoRow : OpenClaim := { program := "ytcnlopjjejdahaadoor", sum := "400382395013bc5ff8ee61ef7fbe152c92f813ffba8ba9ae8981d648d753b72b", func := "lottery/lotterylaw41.DeckCodes", spec := "deckCodes", inPlace := ["internal/bytealg.CountString", "internal/bytealg.IndexByteString", "internal/bytealg.IndexString", "internal/abi.NoEscape"], unfollowed := true, recurses := true, named := ["internal/bytealg.MaxLen", "lottery/digest.hexDigits", "internal/strconv.uint64pow10", "math/bits.deBruijn32tab", "math/bits.deBruijn64tab"], apart := false, laid := [("lottery/digest.hexDigits", laid_lottery_digest_hexDigits), ("math/bits.deBruijn32tab", laid_math_bits_deBruijn32tab), ("math/bits.deBruijn64tab", laid_math_bits_deBruijn64tab), ("internal/strconv.uint64pow10", laid_internal_strconv_uint64pow10)], narrowed := true }
def DeckCodesUptoSaid : Prop := deckCodesUptoRow.holds Tryd.pinned (OpenSpec.upto deckCodesSpec)

end Rows
end Go.Proofs.YtcnlopjjejdahaaDoor
