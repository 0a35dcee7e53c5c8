/-
  NARROWER THAN 'FOR EVERY INPUT', by the rows' own cells (each row's printed sentence says how): PathnameExpands: laid · PathnameQuotes: laid · PathnameFinds: laid · PathnameStars: laid · PathnameEnters: laid.
  DERIVED. THE GIVEN ROWS OF THIS SEAT. 5 by the template 'for every input the law returns true; each argument reads behind the call as it read before'; 0 by the template 'total and deterministic' (their statements: YtmklhkmeampamaaGreatDoorTotals.lean).
  GIVEN WITH THE SEED: the statements are not yours to turn. If you find one false, say at which input.
  Laid BY PROGRAM, IN A SANDBOX (cutbox-rows.mjs): the forced cells as the released guide's own fill.sh prints them over the translation abac7e0d3b61242e… (all of the seat's roots in one cut). By AI agents, Wed Nov 11 2026. No macro, syntax, notation, axiom, sorry.
-/
import Derived.Test.YtmklhkmeampamaaGreatDoorChecked
import GoSem.PinnedTables
import GoSem.Claim
import GoSem.ClaimJoined
import GoSem.ClaimMapViews
import Derived.JoinedTies
import Derived.KernelRfl
namespace Go.Proofs.YtmklhkmeampamaaGreatDoor
/- THE CELL 'sum', in the pinned program and in every row, IS THE sha256 OF THE DUMP (.gsa) THAT YtmklhkmeampamaaGreatDoorProg.lean LOADS. Nothing in Lean hashes anything: it is a label: what it is worth is what the hold of that sum in a sandbox is worth. -/
noncomputable def Tryz.pinned : Pinned := { name := "ytmklhkmeampamaagreatdoor", sum := "abac7e0d3b61242e13eed2c7e024ebffc5cdbd8fd23a8d9cfe6b10321b672de8", checked := Tryz.checked }
namespace Rows
def none {H : Type} : Left H := { results := [], args := [] }

/- WHAT THE LISTED PACKAGE-LEVEL VARIABLES READ AS WHEN THE CALL BEGINS. Each datum BY PROGRAM (the guide's laid-datum.mjs) off the statement by which the dump's own 'gosem.cut.vars' lays the variable. In a bare row this is a premise. The card (YtmklhkmeampamaaGreatDoorCards.lean) ties it to the program's text. -/
def laid_unicode_utf8_acceptRanges {H : Type} : DataW H := .agg [.agg [.lit (.int .u8 128), .lit (.int .u8 191)], .agg [.lit (.int .u8 160), .lit (.int .u8 191)], .agg [.lit (.int .u8 128), .lit (.int .u8 159)], .agg [.lit (.int .u8 144), .lit (.int .u8 191)], .agg [.lit (.int .u8 128), .lit (.int .u8 143)], .agg [.lit (.int .u8 0), .lit (.int .u8 0)], .agg [.lit (.int .u8 0), .lit (.int .u8 0)], .agg [.lit (.int .u8 0), .lit (.int .u8 0)], .agg [.lit (.int .u8 0), .lit (.int .u8 0)], .agg [.lit (.int .u8 0), .lit (.int .u8 0)], .agg [.lit (.int .u8 0), .lit (.int .u8 0)], .agg [.lit (.int .u8 0), .lit (.int .u8 0)], .agg [.lit (.int .u8 0), .lit (.int .u8 0)], .agg [.lit (.int .u8 0), .lit (.int .u8 0)], .agg [.lit (.int .u8 0), .lit (.int .u8 0)], .agg [.lit (.int .u8 0), .lit (.int .u8 0)]]
/-- One of Go's own tables, pinned by name: the form's constant. -/
def laid_unicode_utf8_first : DataW Unit := Go.Pinned.utf8First

/-- 'jobshelllaw20.PathnameExpands': WHATEVER THE INPUT: true; the input reads as it did. -/
def pathnameExpandsSpec : ChangeSpec := { name := "pathnameExpands", fn := fun _ => fun
  | [d1, d2, d3] => { results := [.lit (.bool true)], args := [d1, d2, d3] }
  | _ => none }
def pathnameExpandsRow : OpenClaim := { program := "ytmklhkmeampamaagreatdoor", sum := "abac7e0d3b61242e13eed2c7e024ebffc5cdbd8fd23a8d9cfe6b10321b672de8", func := "jobshell/jobshelllaw20.PathnameExpands", spec := "pathnameExpands", inPlace := ["internal/bytealg.CountString", "internal/bytealg.IndexByteString", "internal/bytealg.IndexString", "internal/abi.NoEscape", "internal/bytealg.MakeNoZero"], unfollowed := true, recurses := true, named := ["unicode/utf8.first", "unicode/utf8.acceptRanges", "internal/bytealg.MaxLen"], plainKeys := false, apart := false, laid := [("unicode/utf8.acceptRanges", laid_unicode_utf8_acceptRanges), ("unicode/utf8.first", laid_unicode_utf8_first)] }
def PathnameExpandsSaid : Prop := pathnameExpandsRow.holds Tryz.pinned (OpenSpec.ofChange pathnameExpandsSpec)

/-- ITS FALSE NEIGHBOUR: 'it returns false'. Refute it at one input. -/
def pathnameExpandsWrong : ChangeSpec := { name := "pathnameExpands", fn := fun _ => fun
  | [d1, d2, d3] => { results := [.lit (.bool false)], args := [d1, d2, d3] }
  | _ => none }
def PathnameExpandsWrongFalsely : Prop := pathnameExpandsRow.holds Tryz.pinned (OpenSpec.ofChange pathnameExpandsWrong)

/-- 'jobshelllaw20.PathnameQuotes': WHATEVER THE INPUT: true; the input reads as it did. -/
def pathnameQuotesSpec : ChangeSpec := { name := "pathnameQuotes", fn := fun _ => fun
  | [d1, d2, d3] => { results := [.lit (.bool true)], args := [d1, d2, d3] }
  | _ => none }
def pathnameQuotesRow : OpenClaim := { program := "ytmklhkmeampamaagreatdoor", sum := "abac7e0d3b61242e13eed2c7e024ebffc5cdbd8fd23a8d9cfe6b10321b672de8", func := "jobshell/jobshelllaw20.PathnameQuotes", spec := "pathnameQuotes", inPlace := ["internal/bytealg.CountString", "internal/bytealg.IndexByteString", "internal/bytealg.IndexString", "internal/abi.NoEscape", "internal/bytealg.MakeNoZero"], unfollowed := true, recurses := true, named := ["unicode/utf8.first", "unicode/utf8.acceptRanges", "internal/bytealg.MaxLen"], plainKeys := false, apart := false, laid := [("unicode/utf8.acceptRanges", laid_unicode_utf8_acceptRanges), ("unicode/utf8.first", laid_unicode_utf8_first)] }
def PathnameQuotesSaid : Prop := pathnameQuotesRow.holds Tryz.pinned (OpenSpec.ofChange pathnameQuotesSpec)

/-- ITS FALSE NEIGHBOUR: 'it returns false'. Refute it at one input. -/
def pathnameQuotesWrong : ChangeSpec := { name := "pathnameQuotes", fn := fun _ => fun
  | [d1, d2, d3] => { results := [.lit (.bool false)], args := [d1, d2, d3] }
  | _ => none }
def PathnameQuotesWrongFalsely : Prop := pathnameQuotesRow.holds Tryz.pinned (OpenSpec.ofChange pathnameQuotesWrong)

/-- 'jobshelllaw20.PathnameFinds': WHATEVER THE INPUT: true; the input reads as it did. -/
def pathnameFindsSpec : ChangeSpec := { name := "pathnameFinds", fn := fun _ => fun
  | [d1, d2, d3] => { results := [.lit (.bool true)], args := [d1, d2, d3] }
  | _ => none }
def pathnameFindsRow : OpenClaim := { program := "ytmklhkmeampamaagreatdoor", sum := "abac7e0d3b61242e13eed2c7e024ebffc5cdbd8fd23a8d9cfe6b10321b672de8", func := "jobshell/jobshelllaw20.PathnameFinds", spec := "pathnameFinds", inPlace := ["internal/bytealg.CountString", "internal/bytealg.IndexByteString", "internal/bytealg.IndexString", "internal/abi.NoEscape", "internal/bytealg.MakeNoZero"], unfollowed := true, recurses := true, named := ["unicode/utf8.first", "unicode/utf8.acceptRanges", "internal/bytealg.MaxLen"], plainKeys := false, apart := false, laid := [("unicode/utf8.acceptRanges", laid_unicode_utf8_acceptRanges), ("unicode/utf8.first", laid_unicode_utf8_first)] }
def PathnameFindsSaid : Prop := pathnameFindsRow.holds Tryz.pinned (OpenSpec.ofChange pathnameFindsSpec)

/-- ITS FALSE NEIGHBOUR: 'it returns false'. Refute it at one input. -/
def pathnameFindsWrong : ChangeSpec := { name := "pathnameFinds", fn := fun _ => fun
  | [d1, d2, d3] => { results := [.lit (.bool false)], args := [d1, d2, d3] }
  | _ => none }
def PathnameFindsWrongFalsely : Prop := pathnameFindsRow.holds Tryz.pinned (OpenSpec.ofChange pathnameFindsWrong)

/-- 'jobshelllaw20.PathnameStars': WHATEVER THE INPUT: true; the input reads as it did. -/
def pathnameStarsSpec : ChangeSpec := { name := "pathnameStars", fn := fun _ => fun
  | [d1, d2] => { results := [.lit (.bool true)], args := [d1, d2] }
  | _ => none }
def pathnameStarsRow : OpenClaim := { program := "ytmklhkmeampamaagreatdoor", sum := "abac7e0d3b61242e13eed2c7e024ebffc5cdbd8fd23a8d9cfe6b10321b672de8", func := "jobshell/jobshelllaw20.PathnameStars", spec := "pathnameStars", inPlace := ["internal/bytealg.CountString", "internal/bytealg.IndexByteString", "internal/bytealg.IndexString", "internal/abi.NoEscape", "internal/bytealg.MakeNoZero"], unfollowed := true, recurses := true, named := ["unicode/utf8.first", "unicode/utf8.acceptRanges", "internal/bytealg.MaxLen"], plainKeys := false, apart := false, laid := [("unicode/utf8.acceptRanges", laid_unicode_utf8_acceptRanges), ("unicode/utf8.first", laid_unicode_utf8_first)] }
def PathnameStarsSaid : Prop := pathnameStarsRow.holds Tryz.pinned (OpenSpec.ofChange pathnameStarsSpec)

/-- ITS FALSE NEIGHBOUR: 'it returns false'. Refute it at one input. -/
def pathnameStarsWrong : ChangeSpec := { name := "pathnameStars", fn := fun _ => fun
  | [d1, d2] => { results := [.lit (.bool false)], args := [d1, d2] }
  | _ => none }
def PathnameStarsWrongFalsely : Prop := pathnameStarsRow.holds Tryz.pinned (OpenSpec.ofChange pathnameStarsWrong)

/-- 'jobshelllaw20.PathnameEnters': WHATEVER THE INPUT: true; the input reads as it did. -/
def pathnameEntersSpec : ChangeSpec := { name := "pathnameEnters", fn := fun _ => fun
  | [d1, d2, d3] => { results := [.lit (.bool true)], args := [d1, d2, d3] }
  | _ => none }
def pathnameEntersRow : OpenClaim := { program := "ytmklhkmeampamaagreatdoor", sum := "abac7e0d3b61242e13eed2c7e024ebffc5cdbd8fd23a8d9cfe6b10321b672de8", func := "jobshell/jobshelllaw20.PathnameEnters", spec := "pathnameEnters", inPlace := ["internal/bytealg.CountString", "internal/bytealg.IndexByteString", "internal/bytealg.IndexString", "internal/abi.NoEscape", "internal/bytealg.MakeNoZero"], unfollowed := true, recurses := true, named := ["unicode/utf8.first", "unicode/utf8.acceptRanges", "internal/bytealg.MaxLen"], plainKeys := false, apart := false, laid := [("unicode/utf8.acceptRanges", laid_unicode_utf8_acceptRanges), ("unicode/utf8.first", laid_unicode_utf8_first)] }
def PathnameEntersSaid : Prop := pathnameEntersRow.holds Tryz.pinned (OpenSpec.ofChange pathnameEntersSpec)

/-- ITS FALSE NEIGHBOUR: 'it returns false'. Refute it at one input. -/
def pathnameEntersWrong : ChangeSpec := { name := "pathnameEnters", fn := fun _ => fun
  | [d1, d2, d3] => { results := [.lit (.bool false)], args := [d1, d2, d3] }
  | _ => none }
def PathnameEntersWrongFalsely : Prop := pathnameEntersRow.holds Tryz.pinned (OpenSpec.ofChange pathnameEntersWrong)

/- THE SECOND FORM. 'bulk': how many values and letters a reading holds, each counted each time it is reached (what is shared counts as often as it is met; a slice's spare places count too). A statement '..UptoSaid' is the law's where the arguments, and the package variables that the reading takes, are together of bulk at most 1048576: NARROWER than '..Said'. Prove '..Said' where nothing that the law and all that it calls make is longer than what came in: it says more and counts as full. Else prove '..UptoSaid'. A law counts once. -/
mutual
def uptoBulk {H : Type} : DataW H → Nat
  | .lit (.string bytes) => bytes.length + 1
  | .lit _ => 1
  | .nil => 1
  | .ptr d => uptoBulk d + 1
  | .slice elems spare => uptoBulkAll elems + uptoBulkAll spare + 1
  | .agg parts => uptoBulkAll parts + 1
  | .iface _ d => uptoBulk d + 1
  | .map entries => uptoBulkEntries entries + 1
  | .held _ => 1
def uptoBulkAll {H : Type} : List (DataW H) → Nat
  | [] => 0
  | d :: r => uptoBulk d + uptoBulkAll r
def uptoBulkEntries {H : Type} : List (Lit × DataW H) → Nat
  | [] => 0
  | x :: r => uptoBulkEntry x + uptoBulkEntries r
def uptoBulkEntry {H : Type} : Lit × DataW H → Nat
  | (.string bytes, d) => bytes.length + uptoBulk d + 1
  | (_, d) => uptoBulk d + 1
 end
def uptoSmall : (H : Type) → List (DataW H) → Bool := fun _ ds => decide (uptoBulkAll ds ≤ 1048576)
def OpenSpec.upto (s : _root_.Go.ChangeSpec) : _root_.Go.OpenSpec := { _root_.Go.OpenSpec.ofChange s with cond := some uptoSmall }

/-- 'jobshelllaw20.PathnameExpands', WHERE WHAT IT READS IS OF BULK AT MOST 1048576: true; the input reads as it did. -/
def pathnameExpandsUptoRow : OpenClaim := { program := "ytmklhkmeampamaagreatdoor", sum := "abac7e0d3b61242e13eed2c7e024ebffc5cdbd8fd23a8d9cfe6b10321b672de8", func := "jobshell/jobshelllaw20.PathnameExpands", spec := "pathnameExpands", inPlace := ["internal/bytealg.CountString", "internal/bytealg.IndexByteString", "internal/bytealg.IndexString", "internal/abi.NoEscape", "internal/bytealg.MakeNoZero"], unfollowed := true, recurses := true, named := ["unicode/utf8.first", "unicode/utf8.acceptRanges", "internal/bytealg.MaxLen"], plainKeys := false, apart := false, laid := [("unicode/utf8.acceptRanges", laid_unicode_utf8_acceptRanges), ("unicode/utf8.first", laid_unicode_utf8_first)], narrowed := true }
def PathnameExpandsUptoSaid : Prop := pathnameExpandsUptoRow.holds Tryz.pinned (OpenSpec.upto pathnameExpandsSpec)

/-- 'jobshelllaw20.PathnameQuotes', WHERE WHAT IT READS IS OF BULK AT MOST 1048576: true; the input reads as it did. -/
def pathnameQuotesUptoRow : OpenClaim := { program := "ytmklhkmeampamaagreatdoor", sum := "abac7e0d3b61242e13eed2c7e024ebffc5cdbd8fd23a8d9cfe6b10321b672de8", func := "jobshell/jobshelllaw20.PathnameQuotes", spec := "pathnameQuotes", inPlace := ["internal/bytealg.CountString", "internal/bytealg.IndexByteString", "internal/bytealg.IndexString", "internal/abi.NoEscape", "internal/bytealg.MakeNoZero"], unfollowed := true, recurses := true, named := ["unicode/utf8.first", "unicode/utf8.acceptRanges", "internal/bytealg.MaxLen"], plainKeys := false, apart := false, laid := [("unicode/utf8.acceptRanges", laid_unicode_utf8_acceptRanges), ("unicode/utf8.first", laid_unicode_utf8_first)], narrowed := true }
def PathnameQuotesUptoSaid : Prop := pathnameQuotesUptoRow.holds Tryz.pinned (OpenSpec.upto pathnameQuotesSpec)

/-- 'jobshelllaw20.PathnameFinds', WHERE WHAT IT READS IS OF BULK AT MOST 1048576: true; the input reads as it did. -/
def pathnameFindsUptoRow : OpenClaim := { program := "ytmklhkmeampamaagreatdoor", sum := "abac7e0d3b61242e13eed2c7e024ebffc5cdbd8fd23a8d9cfe6b10321b672de8", func := "jobshell/jobshelllaw20.PathnameFinds", spec := "pathnameFinds", inPlace := ["internal/bytealg.CountString", "internal/bytealg.IndexByteString", "internal/bytealg.IndexString", "internal/abi.NoEscape", "internal/bytealg.MakeNoZero"], unfollowed := true, recurses := true, named := ["unicode/utf8.first", "unicode/utf8.acceptRanges", "internal/bytealg.MaxLen"], plainKeys := false, apart := false, laid := [("unicode/utf8.acceptRanges", laid_unicode_utf8_acceptRanges), ("unicode/utf8.first", laid_unicode_utf8_first)], narrowed := true }
def PathnameFindsUptoSaid : Prop := pathnameFindsUptoRow.holds Tryz.pinned (OpenSpec.upto pathnameFindsSpec)

/-- 'jobshelllaw20.PathnameStars', WHERE WHAT IT READS IS OF BULK AT MOST 1048576: true; the input reads as it did. -/
def pathnameStarsUptoRow : OpenClaim := { program := "ytmklhkmeampamaagreatdoor", sum := "abac7e0d3b61242e13eed2c7e024ebffc5cdbd8fd23a8d9cfe6b10321b672de8", func := "jobshell/jobshelllaw20.PathnameStars", spec := "pathnameStars", inPlace := ["internal/bytealg.CountString", "internal/bytealg.IndexByteString", "internal/bytealg.IndexString", "internal/abi.NoEscape", "internal/bytealg.MakeNoZero"], unfollowed := true, recurses := true, named := ["unicode/utf8.first", "unicode/utf8.acceptRanges", "internal/bytealg.MaxLen"], plainKeys := false, apart := false, laid := [("unicode/utf8.acceptRanges", laid_unicode_utf8_acceptRanges), ("unicode/utf8.first", laid_unicode_utf8_first)], narrowed := true }
def PathnameStarsUptoSaid : Prop := pathnameStarsUptoRow.holds Tryz.pinned (OpenSpec.upto pathnameStarsSpec)

/-- 'jobshelllaw20.PathnameEnters', WHERE WHAT IT READS IS OF BULK AT MOST 1048576: true; the input reads as it did. -/
def pathnameEntersUptoRow : OpenClaim := { program := "ytmklhkmeampamaagreatdoor", sum := "abac7e0d3b61242e13eed2c7e024ebffc5cdbd8fd23a8d9cfe6b10321b672de8", func := "jobshell/jobshelllaw20.PathnameEnters", spec := "pathnameEnters", inPlace := ["internal/bytealg.CountString", "internal/bytealg.IndexByteString", "internal/bytealg.IndexString", "internal/abi.NoEscape", "internal/bytealg.MakeNoZero"], unfollowed := true, recurses := true, named := ["unicode/utf8.first", "unicode/utf8.acceptRanges", "internal/bytealg.MaxLen"], plainKeys := false, apart := false, laid := [("unicode/utf8.acceptRanges", laid_unicode_utf8_acceptRanges), ("unicode/utf8.first", laid_unicode_utf8_first)], narrowed := true }
def PathnameEntersUptoSaid : Prop := pathnameEntersUptoRow.holds Tryz.pinned (OpenSpec.upto pathnameEntersSpec)

end Rows
end Go.Proofs.YtmklhkmeampamaaGreatDoor
