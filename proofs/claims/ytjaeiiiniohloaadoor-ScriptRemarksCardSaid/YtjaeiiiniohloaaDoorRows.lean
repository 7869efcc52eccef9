/-
  NARROWER THAN 'FOR EVERY INPUT', by the rows' own cells (each row's printed sentence says how): ScriptChecks: laid · ScriptPrints: laid · ScriptRoundTrips: laid · ScriptAgain: laid · ScriptRemarks: laid · ScriptParts: laid · ScriptTexts: laid.
  DERIVED. THE GIVEN ROWS OF THIS SEAT. 7 by the template 'for every input the law returns true; each argument reads behind the call as it read before'; 0 by the template 'total and deterministic' (their statements: YtjaeiiiniohloaaDoorTotals.lean).
  GIVEN WITH THE SEED: the statements are not yours to turn. If you find one false, say at which input.
  Laid BY PROGRAM, IN A SANDBOX (cutbox-rows.mjs): the forced cells as the released guide's own fill.sh prints them over the translation 3d322baa29a5e0ea… (all of the seat's roots in one cut). By AI agents, Wed Nov 11 2026. No macro, syntax, notation, axiom, sorry.
-/
import Derived.Test.YtjaeiiiniohloaaDoorChecked
import GoSem.Claim
import GoSem.ClaimJoined
import GoSem.ClaimMapViews
import Derived.JoinedTies
import Derived.KernelRfl
namespace Go.Proofs.YtjaeiiiniohloaaDoor
/- THE CELL 'sum', in the pinned program and in every row, IS THE sha256 OF THE DUMP (.gsa) THAT YtjaeiiiniohloaaDoorProg.lean LOADS. Nothing in Lean hashes anything: it is a label: what it is worth is what the hold of that sum in a sandbox is worth. -/
noncomputable def Tryd.pinned : Pinned := { name := "ytjaeiiiniohloaadoor", sum := "3d322baa29a5e0ead252f8fafbd2c295d298cb5aa4f9507e3d81c3f948d6e597", checked := Tryd.checked }
namespace Rows
def none {H : Type} : Left H := { results := [], args := [] }

/- WHAT THE LISTED PACKAGE-LEVEL VARIABLES READ AS WHEN THE CALL BEGINS. Each datum BY PROGRAM (the guide's laid-datum.mjs) off the statement by which the dump's own 'gosem.cut.vars' lays the variable. In a bare row this is a premise. The card (YtjaeiiiniohloaaDoorCards.lean) ties it to the program's text. -/
def laid_lottery_digest_hexDigits {H : Type} : DataW H := .agg [.lit (.int .u8 48), .lit (.int .u8 49), .lit (.int .u8 50), .lit (.int .u8 51), .lit (.int .u8 52), .lit (.int .u8 53), .lit (.int .u8 54), .lit (.int .u8 55), .lit (.int .u8 56), .lit (.int .u8 57), .lit (.int .u8 97), .lit (.int .u8 98), .lit (.int .u8 99), .lit (.int .u8 100), .lit (.int .u8 101), .lit (.int .u8 102)]
def laid_math_bits_deBruijn32tab {H : Type} : DataW H := .agg [.lit (.int .u8 0), .lit (.int .u8 1), .lit (.int .u8 28), .lit (.int .u8 2), .lit (.int .u8 29), .lit (.int .u8 14), .lit (.int .u8 24), .lit (.int .u8 3), .lit (.int .u8 30), .lit (.int .u8 22), .lit (.int .u8 20), .lit (.int .u8 15), .lit (.int .u8 25), .lit (.int .u8 17), .lit (.int .u8 4), .lit (.int .u8 8), .lit (.int .u8 31), .lit (.int .u8 27), .lit (.int .u8 13), .lit (.int .u8 23), .lit (.int .u8 21), .lit (.int .u8 19), .lit (.int .u8 16), .lit (.int .u8 7), .lit (.int .u8 26), .lit (.int .u8 12), .lit (.int .u8 18), .lit (.int .u8 6), .lit (.int .u8 11), .lit (.int .u8 5), .lit (.int .u8 10), .lit (.int .u8 9)]
def laid_math_bits_deBruijn64tab {H : Type} : DataW H := .agg [.lit (.int .u8 0), .lit (.int .u8 1), .lit (.int .u8 56), .lit (.int .u8 2), .lit (.int .u8 57), .lit (.int .u8 49), .lit (.int .u8 28), .lit (.int .u8 3), .lit (.int .u8 61), .lit (.int .u8 58), .lit (.int .u8 42), .lit (.int .u8 50), .lit (.int .u8 38), .lit (.int .u8 29), .lit (.int .u8 17), .lit (.int .u8 4), .lit (.int .u8 62), .lit (.int .u8 47), .lit (.int .u8 59), .lit (.int .u8 36), .lit (.int .u8 45), .lit (.int .u8 43), .lit (.int .u8 51), .lit (.int .u8 22), .lit (.int .u8 53), .lit (.int .u8 39), .lit (.int .u8 33), .lit (.int .u8 30), .lit (.int .u8 24), .lit (.int .u8 18), .lit (.int .u8 12), .lit (.int .u8 5), .lit (.int .u8 63), .lit (.int .u8 55), .lit (.int .u8 48), .lit (.int .u8 27), .lit (.int .u8 60), .lit (.int .u8 41), .lit (.int .u8 37), .lit (.int .u8 16), .lit (.int .u8 46), .lit (.int .u8 35), .lit (.int .u8 44), .lit (.int .u8 21), .lit (.int .u8 52), .lit (.int .u8 32), .lit (.int .u8 23), .lit (.int .u8 11), .lit (.int .u8 54), .lit (.int .u8 26), .lit (.int .u8 40), .lit (.int .u8 15), .lit (.int .u8 34), .lit (.int .u8 20), .lit (.int .u8 31), .lit (.int .u8 10), .lit (.int .u8 25), .lit (.int .u8 14), .lit (.int .u8 19), .lit (.int .u8 9), .lit (.int .u8 13), .lit (.int .u8 8), .lit (.int .u8 7), .lit (.int .u8 6)]
def laid_internal_strconv_uint64pow10 {H : Type} : DataW H := .agg [.lit (.int .u64 1), .lit (.int .u64 10), .lit (.int .u64 100), .lit (.int .u64 1000), .lit (.int .u64 10000), .lit (.int .u64 100000), .lit (.int .u64 1000000), .lit (.int .u64 10000000), .lit (.int .u64 100000000), .lit (.int .u64 1000000000), .lit (.int .u64 10000000000), .lit (.int .u64 100000000000), .lit (.int .u64 1000000000000), .lit (.int .u64 10000000000000), .lit (.int .u64 100000000000000), .lit (.int .u64 1000000000000000), .lit (.int .u64 10000000000000000), .lit (.int .u64 100000000000000000), .lit (.int .u64 1000000000000000000), .lit (.int .u64 10000000000000000000)]
def laid_lottery_script_forms {H : Type} : DataW H := .agg [.agg [.lit (.int .i64 1), .lit (.string [103, 97, 109, 101]), .lit (.string [97, 98, 116]), .lit (.int .i64 0)], .agg [.lit (.int .i64 2), .lit (.string [114, 101, 116, 97, 105, 108, 101, 114]), .lit (.string [119, 108]), .lit (.int .i64 5)], .agg [.lit (.int .i64 3), .lit (.string [112, 108, 97, 121, 101, 114]), .lit (.string [119, 97]), .lit (.int .i64 0)], .agg [.lit (.int .i64 4), .lit (.string [108, 105, 109, 105, 116]), .lit (.string [119, 108]), .lit (.int .i64 3)], .agg [.lit (.int .i64 5), .lit (.string [101, 120, 99, 108, 117, 100, 101]), .lit (.string [119, 97, 98]), .lit (.int .i64 0)], .agg [.lit (.int .i64 6), .lit (.string [115, 101, 108, 108]), .lit (.string [119, 97, 98, 110, 116]), .lit (.int .i64 0)], .agg [.lit (.int .i64 7), .lit (.string [99, 97, 110, 99, 101, 108]), .lit (.string [119, 116]), .lit (.int .i64 0)], .agg [.lit (.int .i64 8), .lit (.string [99, 111, 109, 109, 105, 116]), .lit (.string [110, 97, 119, 107]), .lit (.int .i64 0)], .agg [.lit (.int .i64 9), .lit (.string [114, 101, 118, 101, 97, 108]), .lit (.string [110, 97, 119, 107, 111]), .lit (.int .i64 0)], .agg [.lit (.int .i64 10), .lit (.string [98, 97, 108, 108, 115]), .lit (.string [110, 97, 119, 108]), .lit (.int .i64 (-1))], .agg [.lit (.int .i64 11), .lit (.string [97, 98, 111, 114, 116]), .lit (.string [110, 97]), .lit (.int .i64 0)], .agg [.lit (.int .i64 12), .lit (.string [115, 101, 116, 116, 108, 101]), .lit (.string [110, 97]), .lit (.int .i64 0)], .agg [.lit (.int .i64 13), .lit (.string [99, 108, 97, 105, 109]), .lit (.string [119, 116]), .lit (.int .i64 0)], .agg [.lit (.int .i64 14), .lit (.string [101, 120, 112, 105, 114, 101]), .lit (.string []), .lit (.int .i64 0)], .agg [.lit (.int .i64 15), .lit (.string [112, 101, 114, 105, 111, 100]), .lit (.string [119]), .lit (.int .i64 0)], .agg [.lit (.int .i64 16), .lit (.string [100, 101, 99, 107]), .lit (.string [107, 116]), .lit (.int .i64 0)], .agg [.lit (.int .i64 17), .lit (.string [112, 97, 99, 107]), .lit (.string [110, 97, 119, 98]), .lit (.int .i64 0)], .agg [.lit (.int .i64 18), .lit (.string [115, 99, 114, 97, 116, 99, 104]), .lit (.string [110, 119, 116]), .lit (.int .i64 0)], .agg [.lit (.int .i64 19), .lit (.string [100, 101, 98, 116]), .lit (.string [119, 110, 97, 98]), .lit (.int .i64 0)], .agg [.lit (.int .i64 20), .lit (.string [99, 104, 97, 110, 99, 101]), .lit (.string [110, 97, 107, 98]), .lit (.int .i64 0)]]

/-- 'lotterylaw57.ScriptChecks': WHATEVER THE INPUT: true; the input reads as it did. -/
def scriptChecksSpec : ChangeSpec := { name := "scriptChecks", fn := fun _ => fun
  | [d] => { results := [.lit (.bool true)], args := [d] }
  | _ => none }
def scriptChecksRow : OpenClaim := { program := "ytjaeiiiniohloaadoor", sum := "3d322baa29a5e0ead252f8fafbd2c295d298cb5aa4f9507e3d81c3f948d6e597", func := "lottery/lotterylaw57.ScriptChecks", spec := "scriptChecks", inPlace := ["internal/bytealg.IndexByteString", "internal/bytealg.IndexString", "internal/abi.NoEscape"], unfollowed := true, recurses := true, named := ["lottery/script.forms", "internal/bytealg.MaxLen", "internal/strconv.uint64pow10", "math/bits.deBruijn32tab", "math/bits.deBruijn64tab", "lottery/digest.hexDigits"], apart := false, laid := [("lottery/digest.hexDigits", laid_lottery_digest_hexDigits), ("math/bits.deBruijn32tab", laid_math_bits_deBruijn32tab), ("math/bits.deBruijn64tab", laid_math_bits_deBruijn64tab), ("internal/strconv.uint64pow10", laid_internal_strconv_uint64pow10), ("lottery/script.forms", laid_lottery_script_forms)] }
def ScriptChecksSaid : Prop := scriptChecksRow.holds Tryd.pinned (OpenSpec.ofChange scriptChecksSpec)

/-- ITS FALSE NEIGHBOUR: 'it returns false'. Refute it at one input. -/
def scriptChecksWrong : ChangeSpec := { name := "scriptChecks", fn := fun _ => fun
  | [d] => { results := [.lit (.bool false)], args := [d] }
  | _ => none }
def ScriptChecksWrongFalsely : Prop := scriptChecksRow.holds Tryd.pinned (OpenSpec.ofChange scriptChecksWrong)

/-- 'lotterylaw57.ScriptPrints': WHATEVER THE INPUT: true; the input reads as it did. -/
def scriptPrintsSpec : ChangeSpec := { name := "scriptPrints", fn := fun _ => fun
  | [d] => { results := [.lit (.bool true)], args := [d] }
  | _ => none }
def scriptPrintsRow : OpenClaim := { program := "ytjaeiiiniohloaadoor", sum := "3d322baa29a5e0ead252f8fafbd2c295d298cb5aa4f9507e3d81c3f948d6e597", func := "lottery/lotterylaw57.ScriptPrints", spec := "scriptPrints", inPlace := ["internal/bytealg.IndexByteString", "internal/abi.NoEscape", "internal/bytealg.IndexString"], unfollowed := true, recurses := true, named := ["lottery/script.forms", "internal/strconv.uint64pow10", "math/bits.deBruijn32tab", "math/bits.deBruijn64tab", "lottery/digest.hexDigits", "internal/bytealg.MaxLen"], apart := false, laid := [("lottery/digest.hexDigits", laid_lottery_digest_hexDigits), ("math/bits.deBruijn32tab", laid_math_bits_deBruijn32tab), ("math/bits.deBruijn64tab", laid_math_bits_deBruijn64tab), ("internal/strconv.uint64pow10", laid_internal_strconv_uint64pow10), ("lottery/script.forms", laid_lottery_script_forms)] }
def ScriptPrintsSaid : Prop := scriptPrintsRow.holds Tryd.pinned (OpenSpec.ofChange scriptPrintsSpec)

/-- ITS FALSE NEIGHBOUR: 'it returns false'. Refute it at one input. -/
def scriptPrintsWrong : ChangeSpec := { name := "scriptPrints", fn := fun _ => fun
  | [d] => { results := [.lit (.bool false)], args := [d] }
  | _ => none }
def ScriptPrintsWrongFalsely : Prop := scriptPrintsRow.holds Tryd.pinned (OpenSpec.ofChange scriptPrintsWrong)

/-- 'lotterylaw57.ScriptRoundTrips': WHATEVER THE INPUT: true; the input reads as it did. -/
def scriptRoundTripsSpec : ChangeSpec := { name := "scriptRoundTrips", fn := fun _ => fun
  | [d] => { results := [.lit (.bool true)], args := [d] }
  | _ => none }
def scriptRoundTripsRow : OpenClaim := { program := "ytjaeiiiniohloaadoor", sum := "3d322baa29a5e0ead252f8fafbd2c295d298cb5aa4f9507e3d81c3f948d6e597", func := "lottery/lotterylaw57.ScriptRoundTrips", spec := "scriptRoundTrips", inPlace := ["internal/bytealg.IndexByteString", "internal/abi.NoEscape", "internal/bytealg.IndexString"], unfollowed := true, recurses := true, named := ["lottery/script.forms", "internal/strconv.uint64pow10", "math/bits.deBruijn32tab", "math/bits.deBruijn64tab", "lottery/digest.hexDigits", "internal/bytealg.MaxLen"], apart := false, laid := [("lottery/digest.hexDigits", laid_lottery_digest_hexDigits), ("math/bits.deBruijn32tab", laid_math_bits_deBruijn32tab), ("math/bits.deBruijn64tab", laid_math_bits_deBruijn64tab), ("internal/strconv.uint64pow10", laid_internal_strconv_uint64pow10), ("lottery/script.forms", laid_lottery_script_forms)] }
def ScriptRoundTripsSaid : Prop := scriptRoundTripsRow.holds Tryd.pinned (OpenSpec.ofChange scriptRoundTripsSpec)

/-- ITS FALSE NEIGHBOUR: 'it returns false'. Refute it at one input. -/
def scriptRoundTripsWrong : ChangeSpec := { name := "scriptRoundTrips", fn := fun _ => fun
  | [d] => { results := [.lit (.bool false)], args := [d] }
  | _ => none }
def ScriptRoundTripsWrongFalsely : Prop := scriptRoundTripsRow.holds Tryd.pinned (OpenSpec.ofChange scriptRoundTripsWrong)

/-- 'lotterylaw57.ScriptAgain': WHATEVER THE INPUT: true; the input reads as it did. -/
def scriptAgainSpec : ChangeSpec := { name := "scriptAgain", fn := fun _ => fun
  | [d] => { results := [.lit (.bool true)], args := [d] }
  | _ => none }
def scriptAgainRow : OpenClaim := { program := "ytjaeiiiniohloaadoor", sum := "3d322baa29a5e0ead252f8fafbd2c295d298cb5aa4f9507e3d81c3f948d6e597", func := "lottery/lotterylaw57.ScriptAgain", spec := "scriptAgain", inPlace := ["internal/bytealg.IndexByteString", "internal/bytealg.IndexString", "internal/abi.NoEscape"], unfollowed := true, recurses := true, named := ["internal/bytealg.MaxLen", "lottery/script.forms", "internal/strconv.uint64pow10", "math/bits.deBruijn32tab", "math/bits.deBruijn64tab", "lottery/digest.hexDigits"], apart := false, laid := [("lottery/digest.hexDigits", laid_lottery_digest_hexDigits), ("math/bits.deBruijn32tab", laid_math_bits_deBruijn32tab), ("math/bits.deBruijn64tab", laid_math_bits_deBruijn64tab), ("internal/strconv.uint64pow10", laid_internal_strconv_uint64pow10), ("lottery/script.forms", laid_lottery_script_forms)] }
def ScriptAgainSaid : Prop := scriptAgainRow.holds Tryd.pinned (OpenSpec.ofChange scriptAgainSpec)

/-- ITS FALSE NEIGHBOUR: 'it returns false'. Refute it at one input. -/
def scriptAgainWrong : ChangeSpec := { name := "scriptAgain", fn := fun _ => fun
  | [d] => { results := [.lit (.bool false)], args := [d] }
  | _ => none }
def ScriptAgainWrongFalsely : Prop := scriptAgainRow.holds Tryd.pinned (OpenSpec.ofChange scriptAgainWrong)

/-- 'lotterylaw57.ScriptRemarks': WHATEVER THE INPUT: true; the input reads as it did. -/
def scriptRemarksSpec : ChangeSpec := { name := "scriptRemarks", fn := fun _ => fun
  | [d1, d2] => { results := [.lit (.bool true)], args := [d1, d2] }
  | _ => none }
def scriptRemarksRow : OpenClaim := { program := "ytjaeiiiniohloaadoor", sum := "3d322baa29a5e0ead252f8fafbd2c295d298cb5aa4f9507e3d81c3f948d6e597", func := "lottery/lotterylaw57.ScriptRemarks", spec := "scriptRemarks", inPlace := ["internal/bytealg.IndexByteString", "internal/bytealg.IndexString", "internal/abi.NoEscape"], unfollowed := true, recurses := true, named := ["internal/bytealg.MaxLen", "lottery/script.forms", "internal/strconv.uint64pow10", "math/bits.deBruijn32tab", "math/bits.deBruijn64tab", "lottery/digest.hexDigits"], apart := false, laid := [("lottery/digest.hexDigits", laid_lottery_digest_hexDigits), ("math/bits.deBruijn32tab", laid_math_bits_deBruijn32tab), ("math/bits.deBruijn64tab", laid_math_bits_deBruijn64tab), ("internal/strconv.uint64pow10", laid_internal_strconv_uint64pow10), ("lottery/script.forms", laid_lottery_script_forms)] }
def ScriptRemarksSaid : Prop := scriptRemarksRow.holds Tryd.pinned (OpenSpec.ofChange scriptRemarksSpec)

/-- ITS FALSE NEIGHBOUR: 'it returns false'. Refute it at one input. -/
def scriptRemarksWrong : ChangeSpec := { name := "scriptRemarks", fn := fun _ => fun
  | [d1, d2] => { results := [.lit (.bool false)], args := [d1, d2] }
  | _ => none }
def ScriptRemarksWrongFalsely : Prop := scriptRemarksRow.holds Tryd.pinned (OpenSpec.ofChange scriptRemarksWrong)

/-- 'lotterylaw57.ScriptParts': WHATEVER THE INPUT: true; the input reads as it did. -/
def scriptPartsSpec : ChangeSpec := { name := "scriptParts", fn := fun _ => fun
  | [d1, d2] => { results := [.lit (.bool true)], args := [d1, d2] }
  | _ => none }
def scriptPartsRow : OpenClaim := { program := "ytjaeiiiniohloaadoor", sum := "3d322baa29a5e0ead252f8fafbd2c295d298cb5aa4f9507e3d81c3f948d6e597", func := "lottery/lotterylaw57.ScriptParts", spec := "scriptParts", inPlace := ["internal/bytealg.IndexByteString", "internal/bytealg.IndexString", "internal/abi.NoEscape"], unfollowed := true, recurses := true, named := ["internal/bytealg.MaxLen", "lottery/script.forms", "internal/strconv.uint64pow10", "math/bits.deBruijn32tab", "math/bits.deBruijn64tab", "lottery/digest.hexDigits"], apart := false, laid := [("lottery/digest.hexDigits", laid_lottery_digest_hexDigits), ("math/bits.deBruijn32tab", laid_math_bits_deBruijn32tab), ("math/bits.deBruijn64tab", laid_math_bits_deBruijn64tab), ("internal/strconv.uint64pow10", laid_internal_strconv_uint64pow10), ("lottery/script.forms", laid_lottery_script_forms)] }
def ScriptPartsSaid : Prop := scriptPartsRow.holds Tryd.pinned (OpenSpec.ofChange scriptPartsSpec)

/-- ITS FALSE NEIGHBOUR: 'it returns false'. Refute it at one input. -/
def scriptPartsWrong : ChangeSpec := { name := "scriptParts", fn := fun _ => fun
  | [d1, d2] => { results := [.lit (.bool false)], args := [d1, d2] }
  | _ => none }
def ScriptPartsWrongFalsely : Prop := scriptPartsRow.holds Tryd.pinned (OpenSpec.ofChange scriptPartsWrong)

/-- 'lotterylaw57.ScriptTexts': WHATEVER THE INPUT: true; the input reads as it did. -/
def scriptTextsSpec : ChangeSpec := { name := "scriptTexts", fn := fun _ => fun
  | [d1, d2] => { results := [.lit (.bool true)], args := [d1, d2] }
  | _ => none }
def scriptTextsRow : OpenClaim := { program := "ytjaeiiiniohloaadoor", sum := "3d322baa29a5e0ead252f8fafbd2c295d298cb5aa4f9507e3d81c3f948d6e597", func := "lottery/lotterylaw57.ScriptTexts", spec := "scriptTexts", inPlace := ["internal/bytealg.IndexByteString", "internal/abi.NoEscape", "internal/bytealg.IndexString"], unfollowed := true, recurses := true, named := ["lottery/script.forms", "internal/strconv.uint64pow10", "math/bits.deBruijn32tab", "math/bits.deBruijn64tab", "lottery/digest.hexDigits", "internal/bytealg.MaxLen"], apart := false, laid := [("lottery/digest.hexDigits", laid_lottery_digest_hexDigits), ("math/bits.deBruijn32tab", laid_math_bits_deBruijn32tab), ("math/bits.deBruijn64tab", laid_math_bits_deBruijn64tab), ("internal/strconv.uint64pow10", laid_internal_strconv_uint64pow10), ("lottery/script.forms", laid_lottery_script_forms)] }
def ScriptTextsSaid : Prop := scriptTextsRow.holds Tryd.pinned (OpenSpec.ofChange scriptTextsSpec)

/-- ITS FALSE NEIGHBOUR: 'it returns false'. Refute it at one input. -/
def scriptTextsWrong : ChangeSpec := { name := "scriptTexts", fn := fun _ => fun
  | [d1, d2] => { results := [.lit (.bool false)], args := [d1, d2] }
  | _ => none }
def ScriptTextsWrongFalsely : Prop := scriptTextsRow.holds Tryd.pinned (OpenSpec.ofChange scriptTextsWrong)

/- THE SECOND FORM. 'bulk': how many values and letters a reading holds, each counted each time it is reached (what is shared counts as often as it is met; a slice's spare places count too). A statement '..UptoSaid' is the law's where the arguments, and the package variables that the reading takes, are together of bulk at most 1048576: NARROWER than '..Said'. Prove '..Said' where nothing that the law and all that it calls make is longer than what came in: it says more and counts as full. Else prove '..UptoSaid'. A law counts once. -/
mutual
def uptoBulk {H : Type} : DataW H → Nat
  | .lit (.string bytes) => bytes.length + 1
  | .lit _ => 1
  | .nil => 1
  | .ptr d => uptoBulk d + 1
  | .slice elems spare => uptoBulkAll elems + uptoBulkAll spare + 1
  | .agg parts => uptoBulkAll parts + 1
  | .iface _ d => uptoBulk d + 1
  | .map entries => uptoBulkEntries entries + 1
  | .held _ => 1
def uptoBulkAll {H : Type} : List (DataW H) → Nat
  | [] => 0
  | d :: r => uptoBulk d + uptoBulkAll r
def uptoBulkEntries {H : Type} : List (Lit × DataW H) → Nat
  | [] => 0
  | x :: r => uptoBulkEntry x + uptoBulkEntries r
def uptoBulkEntry {H : Type} : Lit × DataW H → Nat
  | (.string bytes, d) => bytes.length + uptoBulk d + 1
  | (_, d) => uptoBulk d + 1
 end
def uptoSmall : (H : Type) → List (DataW H) → Bool := fun _ ds => decide (uptoBulkAll ds ≤ 1048576)
def OpenSpec.upto (s : _root_.Go.ChangeSpec) : _root_.Go.OpenSpec := { _root_.Go.OpenSpec.ofChange s with cond := some uptoSmall }

/-- 'lotterylaw57.ScriptChecks', WHERE WHAT IT READS IS OF BULK AT MOST 1048576: true; the input reads as it did. -/
def scriptChecksUptoRow : OpenClaim := { program := "ytjaeiiiniohloaadoor", sum := "3d322baa29a5e0ead252f8fafbd2c295d298cb5aa4f9507e3d81c3f948d6e597", func := "lottery/lotterylaw57.ScriptChecks", spec := "scriptChecks", inPlace := ["internal/bytealg.IndexByteString", "internal/bytealg.IndexString", "internal/abi.NoEscape"], unfollowed := true, recurses := true, named := ["lottery/script.forms", "internal/bytealg.MaxLen", "internal/strconv.uint64pow10", "math/bits.deBruijn32tab", "math/bits.deBruijn64tab", "lottery/digest.hexDigits"], apart := false, laid := [("lottery/digest.hexDigits", laid_lottery_digest_hexDigits), ("math/bits.deBruijn32tab", laid_math_bits_deBruijn32tab), ("math/bits.deBruijn64tab", laid_math_bits_deBruijn64tab), ("internal/strconv.uint64pow10", laid_internal_strconv_uint64pow10), ("lottery/script.forms", laid_lottery_script_forms)], narrowed := true }
def ScriptChecksUptoSaid : Prop := scriptChecksUptoRow.holds Tryd.pinned (OpenSpec.upto scriptChecksSpec)

/-- 'lotterylaw57.ScriptPrints', WHERE WHAT IT READS IS OF BULK AT MOST 1048576: true; the input reads as it did. -/
def scriptPrintsUptoRow : OpenClaim := { program := "ytjaeiiiniohloaadoor", sum := "3d322baa29a5e0ead252f8fafbd2c295d298cb5aa4f9507e3d81c3f948d6e597", func := "lottery/lotterylaw57.ScriptPrints", spec := "scriptPrints", inPlace := ["internal/bytealg.IndexByteString", "internal/abi.NoEscape", "internal/bytealg.IndexString"], unfollowed := true, recurses := true, named := ["lottery/script.forms", "internal/strconv.uint64pow10", "math/bits.deBruijn32tab", "math/bits.deBruijn64tab", "lottery/digest.hexDigits", "internal/bytealg.MaxLen"], apart := false, laid := [("lottery/digest.hexDigits", laid_lottery_digest_hexDigits), ("math/bits.deBruijn32tab", laid_math_bits_deBruijn32tab), ("math/bits.deBruijn64tab", laid_math_bits_deBruijn64tab), ("internal/strconv.uint64pow10", laid_internal_strconv_uint64pow10), ("lottery/script.forms", laid_lottery_script_forms)], narrowed := true }
def ScriptPrintsUptoSaid : Prop := scriptPrintsUptoRow.holds Tryd.pinned (OpenSpec.upto scriptPrintsSpec)

/-- 'lotterylaw57.ScriptRoundTrips', WHERE WHAT IT READS IS OF BULK AT MOST 1048576: true; the input reads as it did. -/
def scriptRoundTripsUptoRow : OpenClaim := { program := "ytjaeiiiniohloaadoor", sum := "3d322baa29a5e0ead252f8fafbd2c295d298cb5aa4f9507e3d81c3f948d6e597", func := "lottery/lotterylaw57.ScriptRoundTrips", spec := "scriptRoundTrips", inPlace := ["internal/bytealg.IndexByteString", "internal/abi.NoEscape", "internal/bytealg.IndexString"], unfollowed := true, recurses := true, named := ["lottery/script.forms", "internal/strconv.uint64pow10", "math/bits.deBruijn32tab", "math/bits.deBruijn64tab", "lottery/digest.hexDigits", "internal/bytealg.MaxLen"], apart := false, laid := [("lottery/digest.hexDigits", laid_lottery_digest_hexDigits), ("math/bits.deBruijn32tab", laid_math_bits_deBruijn32tab), ("math/bits.deBruijn64tab", laid_math_bits_deBruijn64tab), ("internal/strconv.uint64pow10", laid_internal_strconv_uint64pow10), ("lottery/script.forms", laid_lottery_script_forms)], narrowed := true }
def ScriptRoundTripsUptoSaid : Prop := scriptRoundTripsUptoRow.holds Tryd.pinned (OpenSpec.upto scriptRoundTripsSpec)

/-- 'lotterylaw57.ScriptAgain', WHERE WHAT IT READS IS OF BULK AT MOST 1048576: true; the input reads as it did. -/
def scriptAgainUptoRow : OpenClaim := { program := "ytjaeiiiniohloaadoor", sum := "3d322baa29a5e0ead252f8fafbd2c295d298cb5aa4f9507e3d81c3f948d6e597", func := "lottery/lotterylaw57.ScriptAgain", spec := "scriptAgain", inPlace := ["internal/bytealg.IndexByteString", "internal/bytealg.IndexString", "internal/abi.NoEscape"], unfollowed := true, recurses := true, named := ["internal/bytealg.MaxLen", "lottery/script.forms", "internal/strconv.uint64pow10", "math/bits.deBruijn32tab", "math/bits.deBruijn64tab", "lottery/digest.hexDigits"], apart := false, laid := [("lottery/digest.hexDigits", laid_lottery_digest_hexDigits), ("math/bits.deBruijn32tab", laid_math_bits_deBruijn32tab), ("math/bits.deBruijn64tab", laid_math_bits_deBruijn64tab), ("internal/strconv.uint64pow10", laid_internal_strconv_uint64pow10), ("lottery/script.forms", laid_lottery_script_forms)], narrowed := true }
def ScriptAgainUptoSaid : Prop := scriptAgainUptoRow.holds Tryd.pinned (OpenSpec.upto scriptAgainSpec)

/-- 'lotterylaw57.ScriptRemarks', WHERE WHAT IT READS IS OF BULK AT MOST 1048576: true; the input reads as it did. -/
def scriptRemarksUptoRow : OpenClaim := { program := "ytjaeiiiniohloaadoor", sum := "3d322baa29a5e0ead252f8fafbd2c295d298cb5aa4f9507e3d81c3f948d6e597", func := "lottery/lotterylaw57.ScriptRemarks", spec := "scriptRemarks", inPlace := ["internal/bytealg.IndexByteString", "internal/bytealg.IndexString", "internal/abi.NoEscape"], unfollowed := true, recurses := true, named := ["internal/bytealg.MaxLen", "lottery/script.forms", "internal/strconv.uint64pow10", "math/bits.deBruijn32tab", "math/bits.deBruijn64tab", "lottery/digest.hexDigits"], apart := false, laid := [("lottery/digest.hexDigits", laid_lottery_digest_hexDigits), ("math/bits.deBruijn32tab", laid_math_bits_deBruijn32tab), ("math/bits.deBruijn64tab", laid_math_bits_deBruijn64tab), ("internal/strconv.uint64pow10", laid_internal_strconv_uint64pow10), ("lottery/script.forms", laid_lottery_script_forms)], narrowed := true }
def ScriptRemarksUptoSaid : Prop := scriptRemarksUptoRow.holds Tryd.pinned (OpenSpec.upto scriptRemarksSpec)

/-- 'lotterylaw57.ScriptParts', WHERE WHAT IT READS IS OF BULK AT MOST 1048576: true; the input reads as it did. -/
def scriptPartsUptoRow : OpenClaim := { program := "ytjaeiiiniohloaadoor", sum := "3d322baa29a5e0ead252f8fafbd2c295d298cb5aa4f9507e3d81c3f948d6e597", func := "lottery/lotterylaw57.ScriptParts", spec := "scriptParts", inPlace := ["internal/bytealg.IndexByteString", "internal/bytealg.IndexString", "internal/abi.NoEscape"], unfollowed := true, recurses := true, named := ["internal/bytealg.MaxLen", "lottery/script.forms", "internal/strconv.uint64pow10", "math/bits.deBruijn32tab", "math/bits.deBruijn64tab", "lottery/digest.hexDigits"], apart := false, laid := [("lottery/digest.hexDigits", laid_lottery_digest_hexDigits), ("math/bits.deBruijn32tab", laid_math_bits_deBruijn32tab), ("math/bits.deBruijn64tab", laid_math_bits_deBruijn64tab), ("internal/strconv.uint64pow10", laid_internal_strconv_uint64pow10), ("lottery/script.forms", laid_lottery_script_forms)], narrowed := true }
def ScriptPartsUptoSaid : Prop := scriptPartsUptoRow.holds Tryd.pinned (OpenSpec.upto scriptPartsSpec)

/-- 'lotterylaw57.ScriptTexts', WHERE WHAT IT READS IS OF BULK AT MOST 1048576: true; the input reads as it did. -/
def scriptTextsUptoRow : OpenClaim := { program := "ytjaeiiiniohloaadoor", sum := "3d322baa29a5e0ead252f8fafbd2c295d298cb5aa4f9507e3d81c3f948d6e597", func := "lottery/lotterylaw57.ScriptTexts", spec := "scriptTexts", inPlace := ["internal/bytealg.IndexByteString", "internal/abi.NoEscape", "internal/bytealg.IndexString"], unfollowed := true, recurses := true, named := ["lottery/script.forms", "internal/strconv.uint64pow10", "math/bits.deBruijn32tab", "math/bits.deBruijn64tab", "lottery/digest.hexDigits", "internal/bytealg.MaxLen"], apart := false, laid := [("lottery/digest.hexDigits", laid_lottery_digest_hexDigits), ("math/bits.deBruijn32tab", laid_math_bits_deBruijn32tab), ("math/bits.deBruijn64tab", laid_math_bits_deBruijn64tab), ("internal/strconv.uint64pow10", laid_internal_strconv_uint64pow10), ("lottery/script.forms", laid_lottery_script_forms)], narrowed := true }
def ScriptTextsUptoSaid : Prop := scriptTextsUptoRow.holds Tryd.pinned (OpenSpec.upto scriptTextsSpec)

end Rows
end Go.Proofs.YtjaeiiiniohloaaDoor
