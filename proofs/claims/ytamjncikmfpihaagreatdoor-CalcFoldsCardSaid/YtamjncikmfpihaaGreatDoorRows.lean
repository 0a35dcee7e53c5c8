/-
  NARROWER THAN 'FOR EVERY INPUT', by the rows' own cells (each row's printed sentence says how): CalcNumbers: laid · CalcEvals: loops, laid · CalcTexts: laid · CalcFolds: loops, laid · CalcKeeps: loops, laid · CalcAssigns: loops, laid · CalcDivides: laid · CalcCompares: laid.
  DERIVED. THE GIVEN ROWS OF THIS SEAT. 8 by the template 'for every input the law returns true; each argument reads behind the call as it read before'; 0 by the template 'total and deterministic' (their statements: YtamjncikmfpihaaGreatDoorTotals.lean).
  GIVEN WITH THE SEED: the statements are not yours to turn. If you find one false, say at which input.
  Laid BY PROGRAM, IN A SANDBOX (cutbox-rows.mjs): the forced cells as the released guide's own fill.sh prints them over the translation 78d87e1975dac7fb… (all of the seat's roots in one cut). By AI agents, Wed Nov 11 2026. No macro, syntax, notation, axiom, sorry.
-/
import Derived.Test.YtamjncikmfpihaaGreatDoorChecked
import GoSem.Claim
import GoSem.ClaimJoined
import GoSem.ClaimMapViews
import Derived.JoinedTies
import Derived.KernelRfl
namespace Go.Proofs.YtamjncikmfpihaaGreatDoor
/- THE CELL 'sum', in the pinned program and in every row, IS THE sha256 OF THE DUMP (.gsa) THAT YtamjncikmfpihaaGreatDoorProg.lean LOADS. Nothing in Lean hashes anything: it is a label: what it is worth is what the hold of that sum in a sandbox is worth. -/
noncomputable def Tryz.pinned : Pinned := { name := "ytamjncikmfpihaagreatdoor", sum := "78d87e1975dac7fb8814a924749b94788c9f9c055a555ed61534be7f896c7ed7", checked := Tryz.checked }
namespace Rows
def none {H : Type} : Left H := { results := [], args := [] }

/- WHAT THE LISTED PACKAGE-LEVEL VARIABLES READ AS WHEN THE CALL BEGINS. Each datum BY PROGRAM (the guide's laid-datum.mjs) off the statement by which the dump's own 'gosem.cut.vars' lays the variable. In a bare row this is a premise. The card (YtamjncikmfpihaaGreatDoorCards.lean) ties it to the program's text. -/
def laid_math_bits_deBruijn32tab {H : Type} : DataW H := .agg [.lit (.int .u8 0), .lit (.int .u8 1), .lit (.int .u8 28), .lit (.int .u8 2), .lit (.int .u8 29), .lit (.int .u8 14), .lit (.int .u8 24), .lit (.int .u8 3), .lit (.int .u8 30), .lit (.int .u8 22), .lit (.int .u8 20), .lit (.int .u8 15), .lit (.int .u8 25), .lit (.int .u8 17), .lit (.int .u8 4), .lit (.int .u8 8), .lit (.int .u8 31), .lit (.int .u8 27), .lit (.int .u8 13), .lit (.int .u8 23), .lit (.int .u8 21), .lit (.int .u8 19), .lit (.int .u8 16), .lit (.int .u8 7), .lit (.int .u8 26), .lit (.int .u8 12), .lit (.int .u8 18), .lit (.int .u8 6), .lit (.int .u8 11), .lit (.int .u8 5), .lit (.int .u8 10), .lit (.int .u8 9)]
def laid_math_bits_deBruijn64tab {H : Type} : DataW H := .agg [.lit (.int .u8 0), .lit (.int .u8 1), .lit (.int .u8 56), .lit (.int .u8 2), .lit (.int .u8 57), .lit (.int .u8 49), .lit (.int .u8 28), .lit (.int .u8 3), .lit (.int .u8 61), .lit (.int .u8 58), .lit (.int .u8 42), .lit (.int .u8 50), .lit (.int .u8 38), .lit (.int .u8 29), .lit (.int .u8 17), .lit (.int .u8 4), .lit (.int .u8 62), .lit (.int .u8 47), .lit (.int .u8 59), .lit (.int .u8 36), .lit (.int .u8 45), .lit (.int .u8 43), .lit (.int .u8 51), .lit (.int .u8 22), .lit (.int .u8 53), .lit (.int .u8 39), .lit (.int .u8 33), .lit (.int .u8 30), .lit (.int .u8 24), .lit (.int .u8 18), .lit (.int .u8 12), .lit (.int .u8 5), .lit (.int .u8 63), .lit (.int .u8 55), .lit (.int .u8 48), .lit (.int .u8 27), .lit (.int .u8 60), .lit (.int .u8 41), .lit (.int .u8 37), .lit (.int .u8 16), .lit (.int .u8 46), .lit (.int .u8 35), .lit (.int .u8 44), .lit (.int .u8 21), .lit (.int .u8 52), .lit (.int .u8 32), .lit (.int .u8 23), .lit (.int .u8 11), .lit (.int .u8 54), .lit (.int .u8 26), .lit (.int .u8 40), .lit (.int .u8 15), .lit (.int .u8 34), .lit (.int .u8 20), .lit (.int .u8 31), .lit (.int .u8 10), .lit (.int .u8 25), .lit (.int .u8 14), .lit (.int .u8 19), .lit (.int .u8 9), .lit (.int .u8 13), .lit (.int .u8 8), .lit (.int .u8 7), .lit (.int .u8 6)]
def laid_internal_strconv_uint64pow10 {H : Type} : DataW H := .agg [.lit (.int .u64 1), .lit (.int .u64 10), .lit (.int .u64 100), .lit (.int .u64 1000), .lit (.int .u64 10000), .lit (.int .u64 100000), .lit (.int .u64 1000000), .lit (.int .u64 10000000), .lit (.int .u64 100000000), .lit (.int .u64 1000000000), .lit (.int .u64 10000000000), .lit (.int .u64 100000000000), .lit (.int .u64 1000000000000), .lit (.int .u64 10000000000000), .lit (.int .u64 100000000000000), .lit (.int .u64 1000000000000000), .lit (.int .u64 10000000000000000), .lit (.int .u64 100000000000000000), .lit (.int .u64 1000000000000000000), .lit (.int .u64 10000000000000000000)]

/-- 'jobshelllaw06.CalcNumbers': WHATEVER THE INPUT: true; the input reads as it did. -/
def calcNumbersSpec : ChangeSpec := { name := "calcNumbers", fn := fun _ => fun
  | [d] => { results := [.lit (.bool true)], args := [d] }
  | _ => none }
def calcNumbersRow : OpenClaim := { program := "ytamjncikmfpihaagreatdoor", sum := "78d87e1975dac7fb8814a924749b94788c9f9c055a555ed61534be7f896c7ed7", func := "jobshell/jobshelllaw06.CalcNumbers", spec := "calcNumbers", inPlace := ["internal/bytealg.IndexByteString"], unfollowed := true, recurses := true, named := ["internal/strconv.uint64pow10", "math/bits.deBruijn32tab", "math/bits.deBruijn64tab"], apart := false, laid := [("math/bits.deBruijn32tab", laid_math_bits_deBruijn32tab), ("math/bits.deBruijn64tab", laid_math_bits_deBruijn64tab), ("internal/strconv.uint64pow10", laid_internal_strconv_uint64pow10)] }
def CalcNumbersSaid : Prop := calcNumbersRow.holds Tryz.pinned (OpenSpec.ofChange calcNumbersSpec)

/-- ITS FALSE NEIGHBOUR: 'it returns false'. Refute it at one input. -/
def calcNumbersWrong : ChangeSpec := { name := "calcNumbers", fn := fun _ => fun
  | [d] => { results := [.lit (.bool false)], args := [d] }
  | _ => none }
def CalcNumbersWrongFalsely : Prop := calcNumbersRow.holds Tryz.pinned (OpenSpec.ofChange calcNumbersWrong)

/-- 'jobshelllaw06.CalcEvals': WHATEVER THE INPUT: true; the input reads as it did. -/
def calcEvalsSpec : ChangeSpec := { name := "calcEvals", fn := fun _ => fun
  | [d1, d2] => { results := [.lit (.bool true)], args := [d1, d2] }
  | _ => none }
def calcEvalsRow : OpenClaim := { program := "ytamjncikmfpihaagreatdoor", sum := "78d87e1975dac7fb8814a924749b94788c9f9c055a555ed61534be7f896c7ed7", func := "jobshell/jobshelllaw06.CalcEvals", spec := "calcEvals", inPlace := ["internal/bytealg.IndexByteString"], unfollowed := true, recurses := true, named := ["internal/strconv.uint64pow10", "math/bits.deBruijn32tab", "math/bits.deBruijn64tab"], loops := true, apart := false, laid := [("math/bits.deBruijn32tab", laid_math_bits_deBruijn32tab), ("math/bits.deBruijn64tab", laid_math_bits_deBruijn64tab), ("internal/strconv.uint64pow10", laid_internal_strconv_uint64pow10)] }
def CalcEvalsSaid : Prop := calcEvalsRow.holds Tryz.pinned (OpenSpec.ofChange calcEvalsSpec)

/-- ITS FALSE NEIGHBOUR: 'it returns false'. Refute it at one input. -/
def calcEvalsWrong : ChangeSpec := { name := "calcEvals", fn := fun _ => fun
  | [d1, d2] => { results := [.lit (.bool false)], args := [d1, d2] }
  | _ => none }
def CalcEvalsWrongFalsely : Prop := calcEvalsRow.holds Tryz.pinned (OpenSpec.ofChange calcEvalsWrong)

/-- 'jobshelllaw06.CalcTexts': WHATEVER THE INPUT: true; the input reads as it did. -/
def calcTextsSpec : ChangeSpec := { name := "calcTexts", fn := fun _ => fun
  | [d1, d2] => { results := [.lit (.bool true)], args := [d1, d2] }
  | _ => none }
def calcTextsRow : OpenClaim := { program := "ytamjncikmfpihaagreatdoor", sum := "78d87e1975dac7fb8814a924749b94788c9f9c055a555ed61534be7f896c7ed7", func := "jobshell/jobshelllaw06.CalcTexts", spec := "calcTexts", inPlace := ["internal/bytealg.IndexByteString"], unfollowed := true, recurses := true, named := ["internal/strconv.uint64pow10", "math/bits.deBruijn32tab", "math/bits.deBruijn64tab"], apart := false, laid := [("math/bits.deBruijn32tab", laid_math_bits_deBruijn32tab), ("math/bits.deBruijn64tab", laid_math_bits_deBruijn64tab), ("internal/strconv.uint64pow10", laid_internal_strconv_uint64pow10)] }
def CalcTextsSaid : Prop := calcTextsRow.holds Tryz.pinned (OpenSpec.ofChange calcTextsSpec)

/-- ITS FALSE NEIGHBOUR: 'it returns false'. Refute it at one input. -/
def calcTextsWrong : ChangeSpec := { name := "calcTexts", fn := fun _ => fun
  | [d1, d2] => { results := [.lit (.bool false)], args := [d1, d2] }
  | _ => none }
def CalcTextsWrongFalsely : Prop := calcTextsRow.holds Tryz.pinned (OpenSpec.ofChange calcTextsWrong)

/-- 'jobshelllaw06.CalcFolds': WHATEVER THE INPUT: true; the input reads as it did. -/
def calcFoldsSpec : ChangeSpec := { name := "calcFolds", fn := fun _ => fun
  | [d] => { results := [.lit (.bool true)], args := [d] }
  | _ => none }
def calcFoldsRow : OpenClaim := { program := "ytamjncikmfpihaagreatdoor", sum := "78d87e1975dac7fb8814a924749b94788c9f9c055a555ed61534be7f896c7ed7", func := "jobshell/jobshelllaw06.CalcFolds", spec := "calcFolds", inPlace := ["internal/bytealg.IndexByteString"], unfollowed := true, recurses := true, named := ["internal/strconv.uint64pow10", "math/bits.deBruijn32tab", "math/bits.deBruijn64tab"], loops := true, apart := false, laid := [("math/bits.deBruijn32tab", laid_math_bits_deBruijn32tab), ("math/bits.deBruijn64tab", laid_math_bits_deBruijn64tab), ("internal/strconv.uint64pow10", laid_internal_strconv_uint64pow10)] }
def CalcFoldsSaid : Prop := calcFoldsRow.holds Tryz.pinned (OpenSpec.ofChange calcFoldsSpec)

/-- ITS FALSE NEIGHBOUR: 'it returns false'. Refute it at one input. -/
def calcFoldsWrong : ChangeSpec := { name := "calcFolds", fn := fun _ => fun
  | [d] => { results := [.lit (.bool false)], args := [d] }
  | _ => none }
def CalcFoldsWrongFalsely : Prop := calcFoldsRow.holds Tryz.pinned (OpenSpec.ofChange calcFoldsWrong)

/-- 'jobshelllaw06.CalcKeeps': WHATEVER THE INPUT: true; the input reads as it did. -/
def calcKeepsSpec : ChangeSpec := { name := "calcKeeps", fn := fun _ => fun
  | [d1, d2] => { results := [.lit (.bool true)], args := [d1, d2] }
  | _ => none }
def calcKeepsRow : OpenClaim := { program := "ytamjncikmfpihaagreatdoor", sum := "78d87e1975dac7fb8814a924749b94788c9f9c055a555ed61534be7f896c7ed7", func := "jobshell/jobshelllaw06.CalcKeeps", spec := "calcKeeps", inPlace := ["internal/bytealg.IndexByteString"], unfollowed := true, recurses := true, named := ["internal/strconv.uint64pow10", "math/bits.deBruijn32tab", "math/bits.deBruijn64tab"], loops := true, apart := false, laid := [("math/bits.deBruijn32tab", laid_math_bits_deBruijn32tab), ("math/bits.deBruijn64tab", laid_math_bits_deBruijn64tab), ("internal/strconv.uint64pow10", laid_internal_strconv_uint64pow10)] }
def CalcKeepsSaid : Prop := calcKeepsRow.holds Tryz.pinned (OpenSpec.ofChange calcKeepsSpec)

/-- ITS FALSE NEIGHBOUR: 'it returns false'. Refute it at one input. -/
def calcKeepsWrong : ChangeSpec := { name := "calcKeeps", fn := fun _ => fun
  | [d1, d2] => { results := [.lit (.bool false)], args := [d1, d2] }
  | _ => none }
def CalcKeepsWrongFalsely : Prop := calcKeepsRow.holds Tryz.pinned (OpenSpec.ofChange calcKeepsWrong)

/-- 'jobshelllaw06.CalcAssigns': WHATEVER THE INPUT: true; the input reads as it did. -/
def calcAssignsSpec : ChangeSpec := { name := "calcAssigns", fn := fun _ => fun
  | [d1, d2, d3] => { results := [.lit (.bool true)], args := [d1, d2, d3] }
  | _ => none }
def calcAssignsRow : OpenClaim := { program := "ytamjncikmfpihaagreatdoor", sum := "78d87e1975dac7fb8814a924749b94788c9f9c055a555ed61534be7f896c7ed7", func := "jobshell/jobshelllaw06.CalcAssigns", spec := "calcAssigns", inPlace := ["internal/bytealg.IndexByteString"], unfollowed := true, recurses := true, named := ["internal/strconv.uint64pow10", "math/bits.deBruijn32tab", "math/bits.deBruijn64tab"], loops := true, apart := false, laid := [("math/bits.deBruijn32tab", laid_math_bits_deBruijn32tab), ("math/bits.deBruijn64tab", laid_math_bits_deBruijn64tab), ("internal/strconv.uint64pow10", laid_internal_strconv_uint64pow10)] }
def CalcAssignsSaid : Prop := calcAssignsRow.holds Tryz.pinned (OpenSpec.ofChange calcAssignsSpec)

/-- ITS FALSE NEIGHBOUR: 'it returns false'. Refute it at one input. -/
def calcAssignsWrong : ChangeSpec := { name := "calcAssigns", fn := fun _ => fun
  | [d1, d2, d3] => { results := [.lit (.bool false)], args := [d1, d2, d3] }
  | _ => none }
def CalcAssignsWrongFalsely : Prop := calcAssignsRow.holds Tryz.pinned (OpenSpec.ofChange calcAssignsWrong)

/-- 'jobshelllaw06.CalcDivides': WHATEVER THE INPUT: true; the input reads as it did. -/
def calcDividesSpec : ChangeSpec := { name := "calcDivides", fn := fun _ => fun
  | [d1, d2] => { results := [.lit (.bool true)], args := [d1, d2] }
  | _ => none }
def calcDividesRow : OpenClaim := { program := "ytamjncikmfpihaagreatdoor", sum := "78d87e1975dac7fb8814a924749b94788c9f9c055a555ed61534be7f896c7ed7", func := "jobshell/jobshelllaw06.CalcDivides", spec := "calcDivides", inPlace := ["internal/bytealg.IndexByteString"], unfollowed := true, recurses := true, named := ["internal/strconv.uint64pow10", "math/bits.deBruijn32tab", "math/bits.deBruijn64tab"], apart := false, laid := [("math/bits.deBruijn32tab", laid_math_bits_deBruijn32tab), ("math/bits.deBruijn64tab", laid_math_bits_deBruijn64tab), ("internal/strconv.uint64pow10", laid_internal_strconv_uint64pow10)] }
def CalcDividesSaid : Prop := calcDividesRow.holds Tryz.pinned (OpenSpec.ofChange calcDividesSpec)

/-- ITS FALSE NEIGHBOUR: 'it returns false'. Refute it at one input. -/
def calcDividesWrong : ChangeSpec := { name := "calcDivides", fn := fun _ => fun
  | [d1, d2] => { results := [.lit (.bool false)], args := [d1, d2] }
  | _ => none }
def CalcDividesWrongFalsely : Prop := calcDividesRow.holds Tryz.pinned (OpenSpec.ofChange calcDividesWrong)

/-- 'jobshelllaw06.CalcCompares': WHATEVER THE INPUT: true; the input reads as it did. -/
def calcComparesSpec : ChangeSpec := { name := "calcCompares", fn := fun _ => fun
  | [d1, d2] => { results := [.lit (.bool true)], args := [d1, d2] }
  | _ => none }
def calcComparesRow : OpenClaim := { program := "ytamjncikmfpihaagreatdoor", sum := "78d87e1975dac7fb8814a924749b94788c9f9c055a555ed61534be7f896c7ed7", func := "jobshell/jobshelllaw06.CalcCompares", spec := "calcCompares", inPlace := ["internal/bytealg.IndexByteString"], unfollowed := true, recurses := true, named := ["internal/strconv.uint64pow10", "math/bits.deBruijn32tab", "math/bits.deBruijn64tab"], apart := false, laid := [("math/bits.deBruijn32tab", laid_math_bits_deBruijn32tab), ("math/bits.deBruijn64tab", laid_math_bits_deBruijn64tab), ("internal/strconv.uint64pow10", laid_internal_strconv_uint64pow10)] }
def CalcComparesSaid : Prop := calcComparesRow.holds Tryz.pinned (OpenSpec.ofChange calcComparesSpec)

/-- ITS FALSE NEIGHBOUR: 'it returns false'. Refute it at one input. -/
def calcComparesWrong : ChangeSpec := { name := "calcCompares", fn := fun _ => fun
  | [d1, d2] => { results := [.lit (.bool false)], args := [d1, d2] }
  | _ => none }
def CalcComparesWrongFalsely : Prop := calcComparesRow.holds Tryz.pinned (OpenSpec.ofChange calcComparesWrong)

/- THE SECOND FORM. 'bulk': how many values and letters a reading holds, each counted each time it is reached (what is shared counts as often as it is met; a slice's spare places count too). A statement '..UptoSaid' is the law's where the arguments, and the package variables that the reading takes, are together of bulk at most 1048576: NARROWER than '..Said'. Prove '..Said' where nothing that the law and all that it calls make is longer than what came in: it says more and counts as full. Else prove '..UptoSaid'. A law counts once. -/
mutual
def uptoBulk {H : Type} : DataW H → Nat
  | .lit (.string bytes) => bytes.length + 1
  | .lit _ => 1
  | .nil => 1
  | .ptr d => uptoBulk d + 1
  | .slice elems spare => uptoBulkAll elems + uptoBulkAll spare + 1
  | .agg parts => uptoBulkAll parts + 1
  | .iface _ d => uptoBulk d + 1
  | .map entries => uptoBulkEntries entries + 1
  | .held _ => 1
def uptoBulkAll {H : Type} : List (DataW H) → Nat
  | [] => 0
  | d :: r => uptoBulk d + uptoBulkAll r
def uptoBulkEntries {H : Type} : List (Lit × DataW H) → Nat
  | [] => 0
  | x :: r => uptoBulkEntry x + uptoBulkEntries r
def uptoBulkEntry {H : Type} : Lit × DataW H → Nat
  | (.string bytes, d) => bytes.length + uptoBulk d + 1
  | (_, d) => uptoBulk d + 1
 end
def uptoSmall : (H : Type) → List (DataW H) → Bool := fun _ ds => decide (uptoBulkAll ds ≤ 1048576)
def OpenSpec.upto (s : _root_.Go.ChangeSpec) : _root_.Go.OpenSpec := { _root_.Go.OpenSpec.ofChange s with cond := some uptoSmall }

/-- 'jobshelllaw06.CalcNumbers', WHERE WHAT IT READS IS OF BULK AT MOST 1048576: true; the input reads as it did. -/
def calcNumbersUptoRow : OpenClaim := { program := "ytamjncikmfpihaagreatdoor", sum := "78d87e1975dac7fb8814a924749b94788c9f9c055a555ed61534be7f896c7ed7", func := "jobshell/jobshelllaw06.CalcNumbers", spec := "calcNumbers", inPlace := ["internal/bytealg.IndexByteString"], unfollowed := true, recurses := true, named := ["internal/strconv.uint64pow10", "math/bits.deBruijn32tab", "math/bits.deBruijn64tab"], apart := false, laid := [("math/bits.deBruijn32tab", laid_math_bits_deBruijn32tab), ("math/bits.deBruijn64tab", laid_math_bits_deBruijn64tab), ("internal/strconv.uint64pow10", laid_internal_strconv_uint64pow10)], narrowed := true }
def CalcNumbersUptoSaid : Prop := calcNumbersUptoRow.holds Tryz.pinned (OpenSpec.upto calcNumbersSpec)

/-- 'jobshelllaw06.CalcEvals', WHERE WHAT IT READS IS OF BULK AT MOST 1048576: true; the input reads as it did. -/
def calcEvalsUptoRow : OpenClaim := { program := "ytamjncikmfpihaagreatdoor", sum := "78d87e1975dac7fb8814a924749b94788c9f9c055a555ed61534be7f896c7ed7", func := "jobshell/jobshelllaw06.CalcEvals", spec := "calcEvals", inPlace := ["internal/bytealg.IndexByteString"], unfollowed := true, recurses := true, named := ["internal/strconv.uint64pow10", "math/bits.deBruijn32tab", "math/bits.deBruijn64tab"], loops := true, apart := false, laid := [("math/bits.deBruijn32tab", laid_math_bits_deBruijn32tab), ("math/bits.deBruijn64tab", laid_math_bits_deBruijn64tab), ("internal/strconv.uint64pow10", laid_internal_strconv_uint64pow10)], narrowed := true }
def CalcEvalsUptoSaid : Prop := calcEvalsUptoRow.holds Tryz.pinned (OpenSpec.upto calcEvalsSpec)

/-- 'jobshelllaw06.CalcTexts', WHERE WHAT IT READS IS OF BULK AT MOST 1048576: true; the input reads as it did. -/
def calcTextsUptoRow : OpenClaim := { program := "ytamjncikmfpihaagreatdoor", sum := "78d87e1975dac7fb8814a924749b94788c9f9c055a555ed61534be7f896c7ed7", func := "jobshell/jobshelllaw06.CalcTexts", spec := "calcTexts", inPlace := ["internal/bytealg.IndexByteString"], unfollowed := true, recurses := true, named := ["internal/strconv.uint64pow10", "math/bits.deBruijn32tab", "math/bits.deBruijn64tab"], apart := false, laid := [("math/bits.deBruijn32tab", laid_math_bits_deBruijn32tab), ("math/bits.deBruijn64tab", laid_math_bits_deBruijn64tab), ("internal/strconv.uint64pow10", laid_internal_strconv_uint64pow10)], narrowed := true }
def CalcTextsUptoSaid : Prop := calcTextsUptoRow.holds Tryz.pinned (OpenSpec.upto calcTextsSpec)

/-- 'jobshelllaw06.CalcFolds', WHERE WHAT IT READS IS OF BULK AT MOST 1048576: true; the input reads as it did. -/
def calcFoldsUptoRow : OpenClaim := { program := "ytamjncikmfpihaagreatdoor", sum := "78d87e1975dac7fb8814a924749b94788c9f9c055a555ed61534be7f896c7ed7", func := "jobshell/jobshelllaw06.CalcFolds", spec := "calcFolds", inPlace := ["internal/bytealg.IndexByteString"], unfollowed := true, recurses := true, named := ["internal/strconv.uint64pow10", "math/bits.deBruijn32tab", "math/bits.deBruijn64tab"], loops := true, apart := false, laid := [("math/bits.deBruijn32tab", laid_math_bits_deBruijn32tab), ("math/bits.deBruijn64tab", laid_math_bits_deBruijn64tab), ("internal/strconv.uint64pow10", laid_internal_strconv_uint64pow10)], narrowed := true }
def CalcFoldsUptoSaid : Prop := calcFoldsUptoRow.holds Tryz.pinned (OpenSpec.upto calcFoldsSpec)

/-- 'jobshelllaw06.CalcKeeps', WHERE WHAT IT READS IS OF BULK AT MOST 1048576: true; the input reads as it did. -/
def calcKeepsUptoRow : OpenClaim := { program := "ytamjncikmfpihaagreatdoor", sum := "78d87e1975dac7fb8814a924749b94788c9f9c055a555ed61534be7f896c7ed7", func := "jobshell/jobshelllaw06.CalcKeeps", spec := "calcKeeps", inPlace := ["internal/bytealg.IndexByteString"], unfollowed := true, recurses := true, named := ["internal/strconv.uint64pow10", "math/bits.deBruijn32tab", "math/bits.deBruijn64tab"], loops := true, apart := false, laid := [("math/bits.deBruijn32tab", laid_math_bits_deBruijn32tab), ("math/bits.deBruijn64tab", laid_math_bits_deBruijn64tab), ("internal/strconv.uint64pow10", laid_internal_strconv_uint64pow10)], narrowed := true }
def CalcKeepsUptoSaid : Prop := calcKeepsUptoRow.holds Tryz.pinned (OpenSpec.upto calcKeepsSpec)

/-- 'jobshelllaw06.CalcAssigns', WHERE WHAT IT READS IS OF BULK AT MOST 1048576: true; the input reads as it did. -/
def calcAssignsUptoRow : OpenClaim := { program := "ytamjncikmfpihaagreatdoor", sum := "78d87e1975dac7fb8814a924749b94788c9f9c055a555ed61534be7f896c7ed7", func := "jobshell/jobshelllaw06.CalcAssigns", spec := "calcAssigns", inPlace := ["internal/bytealg.IndexByteString"], unfollowed := true, recurses := true, named := ["internal/strconv.uint64pow10", "math/bits.deBruijn32tab", "math/bits.deBruijn64tab"], loops := true, apart := false, laid := [("math/bits.deBruijn32tab", laid_math_bits_deBruijn32tab), ("math/bits.deBruijn64tab", laid_math_bits_deBruijn64tab), ("internal/strconv.uint64pow10", laid_internal_strconv_uint64pow10)], narrowed := true }
def CalcAssignsUptoSaid : Prop := calcAssignsUptoRow.holds Tryz.pinned (OpenSpec.upto calcAssignsSpec)

/-- 'jobshelllaw06.CalcDivides', WHERE WHAT IT READS IS OF BULK AT MOST 1048576: true; the input reads as it did. -/
def calcDividesUptoRow : OpenClaim := { program := "ytamjncikmfpihaagreatdoor", sum := "78d87e1975dac7fb8814a924749b94788c9f9c055a555ed61534be7f896c7ed7", func := "jobshell/jobshelllaw06.CalcDivides", spec := "calcDivides", inPlace := ["internal/bytealg.IndexByteString"], unfollowed := true, recurses := true, named := ["internal/strconv.uint64pow10", "math/bits.deBruijn32tab", "math/bits.deBruijn64tab"], apart := false, laid := [("math/bits.deBruijn32tab", laid_math_bits_deBruijn32tab), ("math/bits.deBruijn64tab", laid_math_bits_deBruijn64tab), ("internal/strconv.uint64pow10", laid_internal_strconv_uint64pow10)], narrowed := true }
def CalcDividesUptoSaid : Prop := calcDividesUptoRow.holds Tryz.pinned (OpenSpec.upto calcDividesSpec)

/-- 'jobshelllaw06.CalcCompares', WHERE WHAT IT READS IS OF BULK AT MOST 1048576: true; the input reads as it did. -/
def calcComparesUptoRow : OpenClaim := { program := "ytamjncikmfpihaagreatdoor", sum := "78d87e1975dac7fb8814a924749b94788c9f9c055a555ed61534be7f896c7ed7", func := "jobshell/jobshelllaw06.CalcCompares", spec := "calcCompares", inPlace := ["internal/bytealg.IndexByteString"], unfollowed := true, recurses := true, named := ["internal/strconv.uint64pow10", "math/bits.deBruijn32tab", "math/bits.deBruijn64tab"], apart := false, laid := [("math/bits.deBruijn32tab", laid_math_bits_deBruijn32tab), ("math/bits.deBruijn64tab", laid_math_bits_deBruijn64tab), ("internal/strconv.uint64pow10", laid_internal_strconv_uint64pow10)], narrowed := true }
def CalcComparesUptoSaid : Prop := calcComparesUptoRow.holds Tryz.pinned (OpenSpec.upto calcComparesSpec)

end Rows
end Go.Proofs.YtamjncikmfpihaaGreatDoor
