/-
  No cell of these rows narrows 'for every input' (looked for: loops, veiled, ifaces, maps, wideKeys, modest, calm, conditions, laid).
  DERIVED. THE GIVEN ROWS OF THIS SEAT. 7 by the template 'for every input the law returns true; each argument reads behind the call as it read before'; 0 by the template 'total and deterministic' (their statements: YtboofbgcdhjhnaaTotals.lean).
  GIVEN WITH THE SEED: the statements are not yours to turn. If you find one false, say at which input.
  Laid BY PROGRAM, IN A SANDBOX (cutbox-rows.mjs): the forced cells as the released guide's own fill.sh prints them over the translation 6dc703eaae5a6553… (all of the seat's roots in one cut). By AI agents, Wed Nov 11 2026. No macro, syntax, notation, axiom, sorry.
-/
import Derived.Test.YtboofbgcdhjhnaaChecked
import GoSem.Claim
import GoSem.ClaimJoined
import GoSem.ClaimMapViews
import Derived.JoinedTies
import Derived.KernelRfl
namespace Go.Proofs.Ytboofbgcdhjhnaa
/- THE CELL 'sum', in the pinned program and in every row, IS THE sha256 OF THE DUMP (.gsa) THAT YtboofbgcdhjhnaaProg.lean LOADS. Nothing in Lean hashes anything: it is a label: what it is worth is what the hold of that sum in a sandbox is worth. -/
noncomputable def Try.pinned : Pinned := { name := "ytboofbgcdhjhnaa", sum := "6dc703eaae5a655326b0418d13d9b67fa0787af91e00bbfb57a70a320b0eb053", checked := Try.checked }
namespace Rows
def none {H : Type} : Left H := { results := [], args := [] }

/-- 'jobshelllaw15.VarsValid': WHATEVER THE INPUT: true; the input reads as it did. -/
def varsValidSpec : ChangeSpec := { name := "varsValid", fn := fun _ => fun
  | [d1, d2] => { results := [.lit (.bool true)], args := [d1, d2] }
  | _ => none }
def varsValidRow : OpenClaim := { program := "ytboofbgcdhjhnaa", sum := "6dc703eaae5a655326b0418d13d9b67fa0787af91e00bbfb57a70a320b0eb053", func := "jobshell/jobshelllaw15.VarsValid", spec := "varsValid", inPlace := ["internal/bytealg.IndexByteString", "internal/bytealg.IndexString"], unfollowed := true, recurses := true, named := ["internal/bytealg.MaxLen"], apart := false }
def VarsValidSaid : Prop := varsValidRow.holds Try.pinned (OpenSpec.ofChange varsValidSpec)

/-- ITS FALSE NEIGHBOUR: 'it returns false'. Refute it at one input. -/
def varsValidWrong : ChangeSpec := { name := "varsValid", fn := fun _ => fun
  | [d1, d2] => { results := [.lit (.bool false)], args := [d1, d2] }
  | _ => none }
def VarsValidWrongFalsely : Prop := varsValidRow.holds Try.pinned (OpenSpec.ofChange varsValidWrong)

/-- 'jobshelllaw15.VarsSets': WHATEVER THE INPUT: true; the input reads as it did. -/
def varsSetsSpec : ChangeSpec := { name := "varsSets", fn := fun _ => fun
  | [d1, d2, d3] => { results := [.lit (.bool true)], args := [d1, d2, d3] }
  | _ => none }
def varsSetsRow : OpenClaim := { program := "ytboofbgcdhjhnaa", sum := "6dc703eaae5a655326b0418d13d9b67fa0787af91e00bbfb57a70a320b0eb053", func := "jobshell/jobshelllaw15.VarsSets", spec := "varsSets", inPlace := ["internal/bytealg.IndexByteString", "internal/bytealg.IndexString"], unfollowed := true, recurses := true, named := ["internal/bytealg.MaxLen"], apart := false }
def VarsSetsSaid : Prop := varsSetsRow.holds Try.pinned (OpenSpec.ofChange varsSetsSpec)

/-- ITS FALSE NEIGHBOUR: 'it returns false'. Refute it at one input. -/
def varsSetsWrong : ChangeSpec := { name := "varsSets", fn := fun _ => fun
  | [d1, d2, d3] => { results := [.lit (.bool false)], args := [d1, d2, d3] }
  | _ => none }
def VarsSetsWrongFalsely : Prop := varsSetsRow.holds Try.pinned (OpenSpec.ofChange varsSetsWrong)

/-- 'jobshelllaw15.VarsMarks': WHATEVER THE INPUT: true; the input reads as it did. -/
def varsMarksSpec : ChangeSpec := { name := "varsMarks", fn := fun _ => fun
  | [d1, d2, d3] => { results := [.lit (.bool true)], args := [d1, d2, d3] }
  | _ => none }
def varsMarksRow : OpenClaim := { program := "ytboofbgcdhjhnaa", sum := "6dc703eaae5a655326b0418d13d9b67fa0787af91e00bbfb57a70a320b0eb053", func := "jobshell/jobshelllaw15.VarsMarks", spec := "varsMarks", inPlace := ["internal/bytealg.IndexByteString", "internal/bytealg.IndexString"], unfollowed := true, recurses := true, named := ["internal/bytealg.MaxLen"], apart := false }
def VarsMarksSaid : Prop := varsMarksRow.holds Try.pinned (OpenSpec.ofChange varsMarksSpec)

/-- ITS FALSE NEIGHBOUR: 'it returns false'. Refute it at one input. -/
def varsMarksWrong : ChangeSpec := { name := "varsMarks", fn := fun _ => fun
  | [d1, d2, d3] => { results := [.lit (.bool false)], args := [d1, d2, d3] }
  | _ => none }
def VarsMarksWrongFalsely : Prop := varsMarksRow.holds Try.pinned (OpenSpec.ofChange varsMarksWrong)

/-- 'jobshelllaw15.VarsEnvirons': WHATEVER THE INPUT: true; the input reads as it did. -/
def varsEnvironsSpec : ChangeSpec := { name := "varsEnvirons", fn := fun _ => fun
  | [d1, d2] => { results := [.lit (.bool true)], args := [d1, d2] }
  | _ => none }
def varsEnvironsRow : OpenClaim := { program := "ytboofbgcdhjhnaa", sum := "6dc703eaae5a655326b0418d13d9b67fa0787af91e00bbfb57a70a320b0eb053", func := "jobshell/jobshelllaw15.VarsEnvirons", spec := "varsEnvirons", inPlace := ["internal/bytealg.IndexByteString", "internal/bytealg.IndexString"], unfollowed := true, recurses := true, named := ["internal/bytealg.MaxLen"], apart := false }
def VarsEnvironsSaid : Prop := varsEnvironsRow.holds Try.pinned (OpenSpec.ofChange varsEnvironsSpec)

/-- ITS FALSE NEIGHBOUR: 'it returns false'. Refute it at one input. -/
def varsEnvironsWrong : ChangeSpec := { name := "varsEnvirons", fn := fun _ => fun
  | [d1, d2] => { results := [.lit (.bool false)], args := [d1, d2] }
  | _ => none }
def VarsEnvironsWrongFalsely : Prop := varsEnvironsRow.holds Try.pinned (OpenSpec.ofChange varsEnvironsWrong)

/-- 'jobshelllaw15.VarsKeeps': WHATEVER THE INPUT: true; the input reads as it did. -/
def varsKeepsSpec : ChangeSpec := { name := "varsKeeps", fn := fun _ => fun
  | [d1, d2, d3] => { results := [.lit (.bool true)], args := [d1, d2, d3] }
  | _ => none }
def varsKeepsRow : OpenClaim := { program := "ytboofbgcdhjhnaa", sum := "6dc703eaae5a655326b0418d13d9b67fa0787af91e00bbfb57a70a320b0eb053", func := "jobshell/jobshelllaw15.VarsKeeps", spec := "varsKeeps", inPlace := ["internal/bytealg.IndexByteString", "internal/bytealg.IndexString"], unfollowed := true, recurses := true, named := ["internal/bytealg.MaxLen"], apart := false }
def VarsKeepsSaid : Prop := varsKeepsRow.holds Try.pinned (OpenSpec.ofChange varsKeepsSpec)

/-- ITS FALSE NEIGHBOUR: 'it returns false'. Refute it at one input. -/
def varsKeepsWrong : ChangeSpec := { name := "varsKeeps", fn := fun _ => fun
  | [d1, d2, d3] => { results := [.lit (.bool false)], args := [d1, d2, d3] }
  | _ => none }
def VarsKeepsWrongFalsely : Prop := varsKeepsRow.holds Try.pinned (OpenSpec.ofChange varsKeepsWrong)

/-- 'jobshelllaw15.VarsBack': WHATEVER THE INPUT: true; the input reads as it did. -/
def varsBackSpec : ChangeSpec := { name := "varsBack", fn := fun _ => fun
  | [d] => { results := [.lit (.bool true)], args := [d] }
  | _ => none }
def varsBackRow : OpenClaim := { program := "ytboofbgcdhjhnaa", sum := "6dc703eaae5a655326b0418d13d9b67fa0787af91e00bbfb57a70a320b0eb053", func := "jobshell/jobshelllaw15.VarsBack", spec := "varsBack", inPlace := ["internal/bytealg.IndexByteString", "internal/bytealg.IndexString"], unfollowed := true, recurses := true, named := ["internal/bytealg.MaxLen"], apart := false }
def VarsBackSaid : Prop := varsBackRow.holds Try.pinned (OpenSpec.ofChange varsBackSpec)

/-- ITS FALSE NEIGHBOUR: 'it returns false'. Refute it at one input. -/
def varsBackWrong : ChangeSpec := { name := "varsBack", fn := fun _ => fun
  | [d] => { results := [.lit (.bool false)], args := [d] }
  | _ => none }
def VarsBackWrongFalsely : Prop := varsBackRow.holds Try.pinned (OpenSpec.ofChange varsBackWrong)

/-- 'jobshelllaw15.VarsUnsets': WHATEVER THE INPUT: true; the input reads as it did. -/
def varsUnsetsSpec : ChangeSpec := { name := "varsUnsets", fn := fun _ => fun
  | [d1, d2] => { results := [.lit (.bool true)], args := [d1, d2] }
  | _ => none }
def varsUnsetsRow : OpenClaim := { program := "ytboofbgcdhjhnaa", sum := "6dc703eaae5a655326b0418d13d9b67fa0787af91e00bbfb57a70a320b0eb053", func := "jobshell/jobshelllaw15.VarsUnsets", spec := "varsUnsets", inPlace := ["internal/bytealg.IndexByteString", "internal/bytealg.IndexString"], unfollowed := true, recurses := true, named := ["internal/bytealg.MaxLen"], apart := false }
def VarsUnsetsSaid : Prop := varsUnsetsRow.holds Try.pinned (OpenSpec.ofChange varsUnsetsSpec)

/-- ITS FALSE NEIGHBOUR: 'it returns false'. Refute it at one input. -/
def varsUnsetsWrong : ChangeSpec := { name := "varsUnsets", fn := fun _ => fun
  | [d1, d2] => { results := [.lit (.bool false)], args := [d1, d2] }
  | _ => none }
def VarsUnsetsWrongFalsely : Prop := varsUnsetsRow.holds Try.pinned (OpenSpec.ofChange varsUnsetsWrong)

/- THE SECOND FORM. 'bulk': how many values and letters a reading holds, each counted each time it is reached (what is shared counts as often as it is met; a slice's spare places count too). A statement '..UptoSaid' is the law's where the arguments, and the package variables that the reading takes, are together of bulk at most 1048576: NARROWER than '..Said'. Prove '..Said' where nothing that the law and all that it calls make is longer than what came in: it says more and counts as full. Else prove '..UptoSaid'. A law counts once. -/
mutual
def uptoBulk {H : Type} : DataW H → Nat
  | .lit (.string bytes) => bytes.length + 1
  | .lit _ => 1
  | .nil => 1
  | .ptr d => uptoBulk d + 1
  | .slice elems spare => uptoBulkAll elems + uptoBulkAll spare + 1
  | .agg parts => uptoBulkAll parts + 1
  | .iface _ d => uptoBulk d + 1
  | .map entries => uptoBulkEntries entries + 1
  | .held _ => 1
def uptoBulkAll {H : Type} : List (DataW H) → Nat
  | [] => 0
  | d :: r => uptoBulk d + uptoBulkAll r
def uptoBulkEntries {H : Type} : List (Lit × DataW H) → Nat
  | [] => 0
  | x :: r => uptoBulkEntry x + uptoBulkEntries r
def uptoBulkEntry {H : Type} : Lit × DataW H → Nat
  | (.string bytes, d) => bytes.length + uptoBulk d + 1
  | (_, d) => uptoBulk d + 1
 end
def uptoSmall : (H : Type) → List (DataW H) → Bool := fun _ ds => decide (uptoBulkAll ds ≤ 1048576)
def OpenSpec.upto (s : _root_.Go.ChangeSpec) : _root_.Go.OpenSpec := { _root_.Go.OpenSpec.ofChange s with cond := some uptoSmall }

/-- 'jobshelllaw15.VarsValid', WHERE WHAT IT READS IS OF BULK AT MOST 1048576: true; the input reads as it did. -/
def varsValidUptoRow : OpenClaim := { program := "ytboofbgcdhjhnaa", sum := "6dc703eaae5a655326b0418d13d9b67fa0787af91e00bbfb57a70a320b0eb053", func := "jobshell/jobshelllaw15.VarsValid", spec := "varsValid", inPlace := ["internal/bytealg.IndexByteString", "internal/bytealg.IndexString"], unfollowed := true, recurses := true, named := ["internal/bytealg.MaxLen"], apart := false, narrowed := true }
def VarsValidUptoSaid : Prop := varsValidUptoRow.holds Try.pinned (OpenSpec.upto varsValidSpec)

/-- 'jobshelllaw15.VarsSets', WHERE WHAT IT READS IS OF BULK AT MOST 1048576: true; the input reads as it did. -/
def varsSetsUptoRow : OpenClaim := { program := "ytboofbgcdhjhnaa", sum := "6dc703eaae5a655326b0418d13d9b67fa0787af91e00bbfb57a70a320b0eb053", func := "jobshell/jobshelllaw15.VarsSets", spec := "varsSets", inPlace := ["internal/bytealg.IndexByteString", "internal/bytealg.IndexString"], unfollowed := true, recurses := true, named := ["internal/bytealg.MaxLen"], apart := false, narrowed := true }
def VarsSetsUptoSaid : Prop := varsSetsUptoRow.holds Try.pinned (OpenSpec.upto varsSetsSpec)

/-- 'jobshelllaw15.VarsMarks', WHERE WHAT IT READS IS OF BULK AT MOST 1048576: true; the input reads as it did. -/
def varsMarksUptoRow : OpenClaim := { program := "ytboofbgcdhjhnaa", sum := "6dc703eaae5a655326b0418d13d9b67fa0787af91e00bbfb57a70a320b0eb053", func := "jobshell/jobshelllaw15.VarsMarks", spec := "varsMarks", inPlace := ["internal/bytealg.IndexByteString", "internal/bytealg.IndexString"], unfollowed := true, recurses := true, named := ["internal/bytealg.MaxLen"], apart := false, narrowed := true }
def VarsMarksUptoSaid : Prop := varsMarksUptoRow.holds Try.pinned (OpenSpec.upto varsMarksSpec)

/-- 'jobshelllaw15.VarsEnvirons', WHERE WHAT IT READS IS OF BULK AT MOST 1048576: true; the input reads as it did. -/
def varsEnvironsUptoRow : OpenClaim := { program := "ytboofbgcdhjhnaa", sum := "6dc703eaae5a655326b0418d13d9b67fa0787af91e00bbfb57a70a320b0eb053", func := "jobshell/jobshelllaw15.VarsEnvirons", spec := "varsEnvirons", inPlace := ["internal/bytealg.IndexByteString", "internal/bytealg.IndexString"], unfollowed := true, recurses := true, named := ["internal/bytealg.MaxLen"], apart := false, narrowed := true }
def VarsEnvironsUptoSaid : Prop := varsEnvironsUptoRow.holds Try.pinned (OpenSpec.upto varsEnvironsSpec)

/-- 'jobshelllaw15.VarsKeeps', WHERE WHAT IT READS IS OF BULK AT MOST 1048576: true; the input reads as it did. -/
def varsKeepsUptoRow : OpenClaim := { program := "ytboofbgcdhjhnaa", sum := "6dc703eaae5a655326b0418d13d9b67fa0787af91e00bbfb57a70a320b0eb053", func := "jobshell/jobshelllaw15.VarsKeeps", spec := "varsKeeps", inPlace := ["internal/bytealg.IndexByteString", "internal/bytealg.IndexString"], unfollowed := true, recurses := true, named := ["internal/bytealg.MaxLen"], apart := false, narrowed := true }
def VarsKeepsUptoSaid : Prop := varsKeepsUptoRow.holds Try.pinned (OpenSpec.upto varsKeepsSpec)

/-- 'jobshelllaw15.VarsBack', WHERE WHAT IT READS IS OF BULK AT MOST 1048576: true; the input reads as it did. -/
def varsBackUptoRow : OpenClaim := { program := "ytboofbgcdhjhnaa", sum := "6dc703eaae5a655326b0418d13d9b67fa0787af91e00bbfb57a70a320b0eb053", func := "jobshell/jobshelllaw15.VarsBack", spec := "varsBack", inPlace := ["internal/bytealg.IndexByteString", "internal/bytealg.IndexString"], unfollowed := true, recurses := true, named := ["internal/bytealg.MaxLen"], apart := false, narrowed := true }
def VarsBackUptoSaid : Prop := varsBackUptoRow.holds Try.pinned (OpenSpec.upto varsBackSpec)

/-- 'jobshelllaw15.VarsUnsets', WHERE WHAT IT READS IS OF BULK AT MOST 1048576: true; the input reads as it did. -/
def varsUnsetsUptoRow : OpenClaim := { program := "ytboofbgcdhjhnaa", sum := "6dc703eaae5a655326b0418d13d9b67fa0787af91e00bbfb57a70a320b0eb053", func := "jobshell/jobshelllaw15.VarsUnsets", spec := "varsUnsets", inPlace := ["internal/bytealg.IndexByteString", "internal/bytealg.IndexString"], unfollowed := true, recurses := true, named := ["internal/bytealg.MaxLen"], apart := false, narrowed := true }
def VarsUnsetsUptoSaid : Prop := varsUnsetsUptoRow.holds Try.pinned (OpenSpec.upto varsUnsetsSpec)

end Rows
end Go.Proofs.Ytboofbgcdhjhnaa
