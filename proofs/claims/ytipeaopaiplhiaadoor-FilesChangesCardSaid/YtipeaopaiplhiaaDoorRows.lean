/-
  NARROWER THAN 'FOR EVERY INPUT', by the rows' own cells (each row's printed sentence says how): FilesValid: laid · FilesCleans: laid · FilesClosed: laid · FilesLooks: laid · FilesChanges: laid.
  DERIVED. THE GIVEN ROWS OF THIS SEAT. 5 by the template 'for every input the law returns true; each argument reads behind the call as it read before'; 0 by the template 'total and deterministic' (their statements: YtipeaopaiplhiaaDoorTotals.lean).
  GIVEN WITH THE SEED: the statements are not yours to turn. If you find one false, say at which input.
  Laid BY PROGRAM, IN A SANDBOX (cutbox-rows.mjs): the forced cells as the released guide's own fill.sh prints them over the translation 68a8a65694291b67… (all of the seat's roots in one cut). By AI agents, Wed Nov 11 2026. No macro, syntax, notation, axiom, sorry.
-/
import Derived.Test.YtipeaopaiplhiaaDoorChecked
import GoSem.PinnedTables
import GoSem.Claim
import GoSem.ClaimJoined
import GoSem.ClaimMapViews
import Derived.JoinedTies
import Derived.KernelRfl
namespace Go.Proofs.YtipeaopaiplhiaaDoor
/- THE CELL 'sum', in the pinned program and in every row, IS THE sha256 OF THE DUMP (.gsa) THAT YtipeaopaiplhiaaDoorProg.lean LOADS. Nothing in Lean hashes anything: it is a label: what it is worth is what the hold of that sum in a sandbox is worth. -/
noncomputable def Tryd.pinned : Pinned := { name := "ytipeaopaiplhiaadoor", sum := "68a8a65694291b675ccb003b3b91a04758cf8712b7b656a35b2f2bfb8bd4eab8", checked := Tryd.checked }
namespace Rows
def none {H : Type} : Left H := { results := [], args := [] }

/- WHAT THE LISTED PACKAGE-LEVEL VARIABLES READ AS WHEN THE CALL BEGINS. Each datum BY PROGRAM (the guide's laid-datum.mjs) off the statement by which the dump's own 'gosem.cut.vars' lays the variable. In a bare row this is a premise. The card (YtipeaopaiplhiaaDoorCards.lean) ties it to the program's text. -/
def laid_unicode_utf8_acceptRanges {H : Type} : DataW H := .agg [.agg [.lit (.int .u8 128), .lit (.int .u8 191)], .agg [.lit (.int .u8 160), .lit (.int .u8 191)], .agg [.lit (.int .u8 128), .lit (.int .u8 159)], .agg [.lit (.int .u8 144), .lit (.int .u8 191)], .agg [.lit (.int .u8 128), .lit (.int .u8 143)], .agg [.lit (.int .u8 0), .lit (.int .u8 0)], .agg [.lit (.int .u8 0), .lit (.int .u8 0)], .agg [.lit (.int .u8 0), .lit (.int .u8 0)], .agg [.lit (.int .u8 0), .lit (.int .u8 0)], .agg [.lit (.int .u8 0), .lit (.int .u8 0)], .agg [.lit (.int .u8 0), .lit (.int .u8 0)], .agg [.lit (.int .u8 0), .lit (.int .u8 0)], .agg [.lit (.int .u8 0), .lit (.int .u8 0)], .agg [.lit (.int .u8 0), .lit (.int .u8 0)], .agg [.lit (.int .u8 0), .lit (.int .u8 0)], .agg [.lit (.int .u8 0), .lit (.int .u8 0)]]
/-- One of Go's own tables, pinned by name: the form's constant. -/
def laid_unicode_utf8_first : DataW Unit := Go.Pinned.utf8First

/-- 'jobshelllaw19.FilesValid': WHATEVER THE INPUT: true; the input reads as it did. -/
def filesValidSpec : ChangeSpec := { name := "filesValid", fn := fun _ => fun
  | [d] => { results := [.lit (.bool true)], args := [d] }
  | _ => none }
def filesValidRow : OpenClaim := { program := "ytipeaopaiplhiaadoor", sum := "68a8a65694291b675ccb003b3b91a04758cf8712b7b656a35b2f2bfb8bd4eab8", func := "jobshell/jobshelllaw19.FilesValid", spec := "filesValid", inPlace := ["internal/bytealg.CountString", "internal/bytealg.IndexByteString", "internal/bytealg.IndexString", "internal/abi.NoEscape", "internal/bytealg.MakeNoZero"], recurses := true, named := ["unicode/utf8.first", "unicode/utf8.acceptRanges", "internal/bytealg.MaxLen"], apart := false, laid := [("unicode/utf8.acceptRanges", laid_unicode_utf8_acceptRanges), ("unicode/utf8.first", laid_unicode_utf8_first)] }
def FilesValidSaid : Prop := filesValidRow.holds Tryd.pinned (OpenSpec.ofChange filesValidSpec)

/-- ITS FALSE NEIGHBOUR: 'it returns false'. Refute it at one input. -/
def filesValidWrong : ChangeSpec := { name := "filesValid", fn := fun _ => fun
  | [d] => { results := [.lit (.bool false)], args := [d] }
  | _ => none }
def FilesValidWrongFalsely : Prop := filesValidRow.holds Tryd.pinned (OpenSpec.ofChange filesValidWrong)

/-- 'jobshelllaw19.FilesCleans': WHATEVER THE INPUT: true; the input reads as it did. -/
def filesCleansSpec : ChangeSpec := { name := "filesCleans", fn := fun _ => fun
  | [d1, d2] => { results := [.lit (.bool true)], args := [d1, d2] }
  | _ => none }
def filesCleansRow : OpenClaim := { program := "ytipeaopaiplhiaadoor", sum := "68a8a65694291b675ccb003b3b91a04758cf8712b7b656a35b2f2bfb8bd4eab8", func := "jobshell/jobshelllaw19.FilesCleans", spec := "filesCleans", inPlace := ["internal/bytealg.CountString", "internal/bytealg.IndexByteString", "internal/bytealg.IndexString", "internal/abi.NoEscape", "internal/bytealg.MakeNoZero"], recurses := true, named := ["unicode/utf8.first", "unicode/utf8.acceptRanges", "internal/bytealg.MaxLen"], apart := false, laid := [("unicode/utf8.acceptRanges", laid_unicode_utf8_acceptRanges), ("unicode/utf8.first", laid_unicode_utf8_first)] }
def FilesCleansSaid : Prop := filesCleansRow.holds Tryd.pinned (OpenSpec.ofChange filesCleansSpec)

/-- ITS FALSE NEIGHBOUR: 'it returns false'. Refute it at one input. -/
def filesCleansWrong : ChangeSpec := { name := "filesCleans", fn := fun _ => fun
  | [d1, d2] => { results := [.lit (.bool false)], args := [d1, d2] }
  | _ => none }
def FilesCleansWrongFalsely : Prop := filesCleansRow.holds Tryd.pinned (OpenSpec.ofChange filesCleansWrong)

/-- 'jobshelllaw19.FilesClosed': WHATEVER THE INPUT: true; the input reads as it did. -/
def filesClosedSpec : ChangeSpec := { name := "filesClosed", fn := fun _ => fun
  | [d1, d2, d3] => { results := [.lit (.bool true)], args := [d1, d2, d3] }
  | _ => none }
def filesClosedRow : OpenClaim := { program := "ytipeaopaiplhiaadoor", sum := "68a8a65694291b675ccb003b3b91a04758cf8712b7b656a35b2f2bfb8bd4eab8", func := "jobshell/jobshelllaw19.FilesClosed", spec := "filesClosed", inPlace := ["internal/bytealg.CountString", "internal/bytealg.IndexByteString", "internal/bytealg.IndexString", "internal/abi.NoEscape", "internal/bytealg.MakeNoZero"], recurses := true, named := ["unicode/utf8.first", "unicode/utf8.acceptRanges", "internal/bytealg.MaxLen"], apart := false, laid := [("unicode/utf8.acceptRanges", laid_unicode_utf8_acceptRanges), ("unicode/utf8.first", laid_unicode_utf8_first)] }
def FilesClosedSaid : Prop := filesClosedRow.holds Tryd.pinned (OpenSpec.ofChange filesClosedSpec)

/-- ITS FALSE NEIGHBOUR: 'it returns false'. Refute it at one input. -/
def filesClosedWrong : ChangeSpec := { name := "filesClosed", fn := fun _ => fun
  | [d1, d2, d3] => { results := [.lit (.bool false)], args := [d1, d2, d3] }
  | _ => none }
def FilesClosedWrongFalsely : Prop := filesClosedRow.holds Tryd.pinned (OpenSpec.ofChange filesClosedWrong)

/-- 'jobshelllaw19.FilesLooks': WHATEVER THE INPUT: true; the input reads as it did. -/
def filesLooksSpec : ChangeSpec := { name := "filesLooks", fn := fun _ => fun
  | [d1, d2, d3] => { results := [.lit (.bool true)], args := [d1, d2, d3] }
  | _ => none }
def filesLooksRow : OpenClaim := { program := "ytipeaopaiplhiaadoor", sum := "68a8a65694291b675ccb003b3b91a04758cf8712b7b656a35b2f2bfb8bd4eab8", func := "jobshell/jobshelllaw19.FilesLooks", spec := "filesLooks", inPlace := ["internal/bytealg.CountString", "internal/bytealg.IndexByteString", "internal/bytealg.IndexString", "internal/abi.NoEscape", "internal/bytealg.MakeNoZero"], recurses := true, named := ["unicode/utf8.first", "unicode/utf8.acceptRanges", "internal/bytealg.MaxLen"], apart := false, laid := [("unicode/utf8.acceptRanges", laid_unicode_utf8_acceptRanges), ("unicode/utf8.first", laid_unicode_utf8_first)] }
def FilesLooksSaid : Prop := filesLooksRow.holds Tryd.pinned (OpenSpec.ofChange filesLooksSpec)

/-- ITS FALSE NEIGHBOUR: 'it returns false'. Refute it at one input. -/
def filesLooksWrong : ChangeSpec := { name := "filesLooks", fn := fun _ => fun
  | [d1, d2, d3] => { results := [.lit (.bool false)], args := [d1, d2, d3] }
  | _ => none }
def FilesLooksWrongFalsely : Prop := filesLooksRow.holds Tryd.pinned (OpenSpec.ofChange filesLooksWrong)

/-- 'jobshelllaw19.FilesChanges': WHATEVER THE INPUT: true; the input reads as it did. -/
def filesChangesSpec : ChangeSpec := { name := "filesChanges", fn := fun _ => fun
  | [d1, d2, d3] => { results := [.lit (.bool true)], args := [d1, d2, d3] }
  | _ => none }
def filesChangesRow : OpenClaim := { program := "ytipeaopaiplhiaadoor", sum := "68a8a65694291b675ccb003b3b91a04758cf8712b7b656a35b2f2bfb8bd4eab8", func := "jobshell/jobshelllaw19.FilesChanges", spec := "filesChanges", inPlace := ["internal/bytealg.CountString", "internal/bytealg.IndexByteString", "internal/bytealg.IndexString", "internal/abi.NoEscape", "internal/bytealg.MakeNoZero"], unfollowed := true, recurses := true, named := ["unicode/utf8.first", "unicode/utf8.acceptRanges", "internal/bytealg.MaxLen"], apart := false, laid := [("unicode/utf8.acceptRanges", laid_unicode_utf8_acceptRanges), ("unicode/utf8.first", laid_unicode_utf8_first)] }
def FilesChangesSaid : Prop := filesChangesRow.holds Tryd.pinned (OpenSpec.ofChange filesChangesSpec)

/-- ITS FALSE NEIGHBOUR: 'it returns false'. Refute it at one input. -/
def filesChangesWrong : ChangeSpec := { name := "filesChanges", fn := fun _ => fun
  | [d1, d2, d3] => { results := [.lit (.bool false)], args := [d1, d2, d3] }
  | _ => none }
def FilesChangesWrongFalsely : Prop := filesChangesRow.holds Tryd.pinned (OpenSpec.ofChange filesChangesWrong)

/- THE SECOND FORM. 'bulk': how many values and letters a reading holds, each counted each time it is reached (what is shared counts as often as it is met; a slice's spare places count too). A statement '..UptoSaid' is the law's where the arguments, and the package variables that the reading takes, are together of bulk at most 1048576: NARROWER than '..Said'. Prove '..Said' where nothing that the law and all that it calls make is longer than what came in: it says more and counts as full. Else prove '..UptoSaid'. A law counts once. -/
mutual
def uptoBulk {H : Type} : DataW H → Nat
  | .lit (.string bytes) => bytes.length + 1
  | .lit _ => 1
  | .nil => 1
  | .ptr d => uptoBulk d + 1
  | .slice elems spare => uptoBulkAll elems + uptoBulkAll spare + 1
  | .agg parts => uptoBulkAll parts + 1
  | .iface _ d => uptoBulk d + 1
  | .map entries => uptoBulkEntries entries + 1
  | .held _ => 1
def uptoBulkAll {H : Type} : List (DataW H) → Nat
  | [] => 0
  | d :: r => uptoBulk d + uptoBulkAll r
def uptoBulkEntries {H : Type} : List (Lit × DataW H) → Nat
  | [] => 0
  | x :: r => uptoBulkEntry x + uptoBulkEntries r
def uptoBulkEntry {H : Type} : Lit × DataW H → Nat
  | (.string bytes, d) => bytes.length + uptoBulk d + 1
  | (_, d) => uptoBulk d + 1
 end
def uptoSmall : (H : Type) → List (DataW H) → Bool := fun _ ds => decide (uptoBulkAll ds ≤ 1048576)
def OpenSpec.upto (s : _root_.Go.ChangeSpec) : _root_.Go.OpenSpec := { _root_.Go.OpenSpec.ofChange s with cond := some uptoSmall }

/-- 'jobshelllaw19.FilesValid', WHERE WHAT IT READS IS OF BULK AT MOST 1048576: true; the input reads as it did. -/
def filesValidUptoRow : OpenClaim := { program := "ytipeaopaiplhiaadoor", sum := "68a8a65694291b675ccb003b3b91a04758cf8712b7b656a35b2f2bfb8bd4eab8", func := "jobshell/jobshelllaw19.FilesValid", spec := "filesValid", inPlace := ["internal/bytealg.CountString", "internal/bytealg.IndexByteString", "internal/bytealg.IndexString", "internal/abi.NoEscape", "internal/bytealg.MakeNoZero"], recurses := true, named := ["unicode/utf8.first", "unicode/utf8.acceptRanges", "internal/bytealg.MaxLen"], apart := false, laid := [("unicode/utf8.acceptRanges", laid_unicode_utf8_acceptRanges), ("unicode/utf8.first", laid_unicode_utf8_first)], narrowed := true }
def FilesValidUptoSaid : Prop := filesValidUptoRow.holds Tryd.pinned (OpenSpec.upto filesValidSpec)

/-- 'jobshelllaw19.FilesCleans', WHERE WHAT IT READS IS OF BULK AT MOST 1048576: true; the input reads as it did. -/
def filesCleansUptoRow : OpenClaim := { program := "ytipeaopaiplhiaadoor", sum := "68a8a65694291b675ccb003b3b91a04758cf8712b7b656a35b2f2bfb8bd4eab8", func := "jobshell/jobshelllaw19.FilesCleans", spec := "filesCleans", inPlace := ["internal/bytealg.CountString", "internal/bytealg.IndexByteString", "internal/bytealg.IndexString", "internal/abi.NoEscape", "internal/bytealg.MakeNoZero"], recurses := true, named := ["unicode/utf8.first", "unicode/utf8.acceptRanges", "internal/bytealg.MaxLen"], apart := false, laid := [("unicode/utf8.acceptRanges", laid_unicode_utf8_acceptRanges), ("unicode/utf8.first", laid_unicode_utf8_first)], narrowed := true }
def FilesCleansUptoSaid : Prop := filesCleansUptoRow.holds Tryd.pinned (OpenSpec.upto filesCleansSpec)

/-- 'jobshelllaw19.FilesClosed', WHERE WHAT IT READS IS OF BULK AT MOST 1048576: true; the input reads as it did. -/
def filesClosedUptoRow : OpenClaim := { program := "ytipeaopaiplhiaadoor", sum := "68a8a65694291b675ccb003b3b91a04758cf8712b7b656a35b2f2bfb8bd4eab8", func := "jobshell/jobshelllaw19.FilesClosed", spec := "filesClosed", inPlace := ["internal/bytealg.CountString", "internal/bytealg.IndexByteString", "internal/bytealg.IndexString", "internal/abi.NoEscape", "internal/bytealg.MakeNoZero"], recurses := true, named := ["unicode/utf8.first", "unicode/utf8.acceptRanges", "internal/bytealg.MaxLen"], apart := false, laid := [("unicode/utf8.acceptRanges", laid_unicode_utf8_acceptRanges), ("unicode/utf8.first", laid_unicode_utf8_first)], narrowed := true }
def FilesClosedUptoSaid : Prop := filesClosedUptoRow.holds Tryd.pinned (OpenSpec.upto filesClosedSpec)

/-- 'jobshelllaw19.FilesLooks', WHERE WHAT IT READS IS OF BULK AT MOST 1048576: true; the input reads as it did. -/
def filesLooksUptoRow : OpenClaim := { program := "ytipeaopaiplhiaadoor", sum := "68a8a65694291b675ccb003b3b91a04758cf8712b7b656a35b2f2bfb8bd4eab8", func := "jobshell/jobshelllaw19.FilesLooks", spec := "filesLooks", inPlace := ["internal/bytealg.CountString", "internal/bytealg.IndexByteString", "internal/bytealg.IndexString", "internal/abi.NoEscape", "internal/bytealg.MakeNoZero"], recurses := true, named := ["unicode/utf8.first", "unicode/utf8.acceptRanges", "internal/bytealg.MaxLen"], apart := false, laid := [("unicode/utf8.acceptRanges", laid_unicode_utf8_acceptRanges), ("unicode/utf8.first", laid_unicode_utf8_first)], narrowed := true }
def FilesLooksUptoSaid : Prop := filesLooksUptoRow.holds Tryd.pinned (OpenSpec.upto filesLooksSpec)

/-- 'jobshelllaw19.FilesChanges', WHERE WHAT IT READS IS OF BULK AT MOST 1048576: true; the input reads as it did. -/
def filesChangesUptoRow : OpenClaim := { program := "ytipeaopaiplhiaadoor", sum := "68a8a65694291b675ccb003b3b91a04758cf8712b7b656a35b2f2bfb8bd4eab8", func := "jobshell/jobshelllaw19.FilesChanges", spec := "filesChanges", inPlace := ["internal/bytealg.CountString", "internal/bytealg.IndexByteString", "internal/bytealg.IndexString", "internal/abi.NoEscape", "internal/bytealg.MakeNoZero"], unfollowed := true, recurses := true, named := ["unicode/utf8.first", "unicode/utf8.acceptRanges", "internal/bytealg.MaxLen"], apart := false, laid := [("unicode/utf8.acceptRanges", laid_unicode_utf8_acceptRanges), ("unicode/utf8.first", laid_unicode_utf8_first)], narrowed := true }
def FilesChangesUptoSaid : Prop := filesChangesUptoRow.holds Tryd.pinned (OpenSpec.upto filesChangesSpec)

end Rows
end Go.Proofs.YtipeaopaiplhiaaDoor
