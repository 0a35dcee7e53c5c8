/-
  The law level of this seat: what is common; ArithParses out of the plain law.
-/
import Derived.Test.YtamjncikmfpihaaGreatDoorRg
import Derived.Test.YtamjncikmfpihaaGreatDoorZ2
import Derived.Test.YtamjncikmfpihaaGreatDoorRows
import Derived.Test.YtamjncikmfpihaaGreatDoorCards
import Derived.Test.YtamjncikmfpihaaGreatDoorTie
import Derived.WalkKit
import Derived.ProofKit
import Derived.OpenShut
import Derived.ShutString
import Derived.ChangeOld
import Derived.Below
import Derived.LaidLaws
import Derived.LaidHandle
import Derived.Stop.LaidErr
import Derived.Stop.Joined
import Derived.JoinedOf
import Derived.SevenTiedAt
import Derived.Lib.LaidTab
namespace Go.Proofs.YtamjncikmfpihaaGreatDoor
open Go.ChangeShapes Go.WideShapes Go.ChangeAt Go.RowKit Go.RT
set_option linter.unusedVariables false

theorem own : ownKnob Tryz.prog.godebug = none := by kernel_rfl
theorem laidOut : laidOutB Tryz.prog = true := by kernel_rfl

/-- What the rows list. -/
abbrev laidL : List (String × DataW Unit) := [("math/bits.deBruijn32tab", Rows.laid_math_bits_deBruijn32tab), ("math/bits.deBruijn64tab", Rows.laid_math_bits_deBruijn64tab), ("internal/strconv.uint64pow10", Rows.laid_internal_strconv_uint64pow10)]
theorem laid_filter : (laidL.filter fun x => x.2.handleName?.isNone) = laidL := by kernel_rfl

theorem pins_of_laid {W : World} (h : laidMetH Tryz.prog laidL W) : ∀ b cs, E.gb b = some cs → ∃ t m, W.heap[b]? = some (.cells cs t m) := by
  have h' : laidMet Tryz.prog laidL W := h
  have ht : Lib.TabIs Tryz.prog W "internal/strconv.uint64pow10" .u64 Lib.pow10Tab := Lib.tabIs_of_head (rest := []) (g := 1) (t := 159) (e := 54) (n := 20) (by kernel_rfl) (by kernel_rfl) Tryz.underlying159 Tryz.underlying54 (by kernel_rfl) (by kernel_rfl) h'.tail.tail
  intro b cs hb
  have hb : cond (Nat.beq b 1) (some (Lib.pow10Tab.map fun z => Value.int .u64 z).toArray) none = some cs := hb
  cases he : Nat.beq b 1 <;> rw [he] at hb <;> simp only [cond_true, cond_false] at hb
  · cases hb
  cases hb
  have := Nat.eq_of_beq_eq_true he
  subst this
  unfold Lib.TabIs World.var? at ht
  rw [show Tryz.prog.globalNamed "internal/strconv.uint64pow10" = some 1 by kernel_rfl] at ht
  simp only [Option.bind_some] at ht
  split at ht
  · rename_i cs' t m hh
    cases ht
    exact ⟨t, m, hh⟩
  · cases ht

/-- A world that meets the condition: the settled one, the tables laid. -/
noncomputable def laidWorld (os : Os) : World :=
  let w0 := World.holding Tryz.prog os ⟨#[], #[], []⟩
  { w0 with heap := ((w0.heap.modify 1 fun
      | .cells _ t frozen => .cells (Lib.pow10Tab.map fun z => Value.int .u64 z).toArray t frozen
      | o => o).modify 2 fun
      | .cells _ t frozen => .cells #[.int .u8 0, .int .u8 1, .int .u8 28, .int .u8 2, .int .u8 29, .int .u8 14, .int .u8 24, .int .u8 3, .int .u8 30, .int .u8 22, .int .u8 20, .int .u8 15, .int .u8 25, .int .u8 17, .int .u8 4, .int .u8 8, .int .u8 31, .int .u8 27, .int .u8 13, .int .u8 23, .int .u8 21, .int .u8 19, .int .u8 16, .int .u8 7, .int .u8 26, .int .u8 12, .int .u8 18, .int .u8 6, .int .u8 11, .int .u8 5, .int .u8 10, .int .u8 9] t frozen
      | o => o).modify 3 fun
      | .cells _ t frozen => .cells #[.int .u8 0, .int .u8 1, .int .u8 56, .int .u8 2, .int .u8 57, .int .u8 49, .int .u8 28, .int .u8 3, .int .u8 61, .int .u8 58, .int .u8 42, .int .u8 50, .int .u8 38, .int .u8 29, .int .u8 17, .int .u8 4, .int .u8 62, .int .u8 47, .int .u8 59, .int .u8 36, .int .u8 45, .int .u8 43, .int .u8 51, .int .u8 22, .int .u8 53, .int .u8 39, .int .u8 33, .int .u8 30, .int .u8 24, .int .u8 18, .int .u8 12, .int .u8 5, .int .u8 63, .int .u8 55, .int .u8 48, .int .u8 27, .int .u8 60, .int .u8 41, .int .u8 37, .int .u8 16, .int .u8 46, .int .u8 35, .int .u8 44, .int .u8 21, .int .u8 52, .int .u8 32, .int .u8 23, .int .u8 11, .int .u8 54, .int .u8 26, .int .u8 40, .int .u8 15, .int .u8 34, .int .u8 20, .int .u8 31, .int .u8 10, .int .u8 25, .int .u8 14, .int .u8 19, .int .u8 9, .int .u8 13, .int .u8 8, .int .u8 7, .int .u8 6] t frozen
      | o => o }
set_option maxRecDepth 100000 in
theorem laidWorld_met (os : Os) (args : Array Value) : laidMetH Tryz.prog laidL ((laidWorld os).forCall (fun _ _ => 0) ⟨#[], args, []⟩).memory :=
  laidMetH_of_parts (by rw [laid_filter]; exact laidMet_of_run' 8 (by kernel_rfl) (by kernel_rfl)) (by kernel_rfl)

instance : Inhabited TExpr := ⟨dTExpr⟩
/-- Expressions that may come in. -/
inductive okTExpr : TExpr → Prop
  | mk (op n : Int) (name : List UInt8) (kids : List TExpr) (h1 : (Lit.int .i64 op).wf = true) (h2 : (Lit.int .i64 n).wf = true) (h3 : name.length ≤ maxLen) (h4 : kids.length ≤ maxLen) (h5 : ∀ x, x ∈ kids → okTExpr x) : okTExpr (.mk op n name kids)
theorem encTExpr_len (x : TExpr) : (encTExpr x).length = 4 := by cases x; simp [encTExpr]

theorem opTExpr31 {H : Type} {henc : TypeId × Value → H} {W : World} (fuel : Nat) : OpensF henc Tryz.prog W fuel 31 encTExpr okTExpr := by
  induction fuel using Nat.strongRecOn with
  | _ fuel ih =>
    cases fuel with
    | zero => intro cs d ps h; cases h
    | succ fuel =>
      intro cs d ps h
      obtain ⟨hl, hf⟩ := trod_struct_fields Tryz.underlying31 h
      have kids : OpensF henc Tryz.prog W fuel 29 (fun vs : List TExpr => [.slice 4 (vs.map encTExpr)]) (fun vs => vs.length ≤ maxLen ∧ ∀ x, x ∈ vs → okTExpr x) := by
        cases fuel with
        | zero => intro cs d ps h; cases h
        | succ fuel => exact opens_slice (k := 4) (enc := encTExpr) Tryz.underlying29 (by kernel_rfl) (by decide) encTExpr_len (ih fuel (by omega))
      obtain ⟨x0, k0, l0⟩ := field_at 0 rfl (k := 1) (by kernel_rfl) (opens_int Tryz.underlying3 fuel) hf
      obtain ⟨x1, k1, l1⟩ := field_at 1 rfl (k := 1) (by kernel_rfl) (opens_int Tryz.underlying3 fuel) hf
      obtain ⟨x2, k2, l2⟩ := field_at 2 rfl (k := 1) (by kernel_rfl) (opens_string Tryz.underlying9 fuel) hf
      obtain ⟨x3, k3, l3⟩ := field_at 3 rfl (k := 1) (by kernel_rfl) kids hf
      refine ⟨.mk x0 x1 x2 x3, .mk _ _ _ _ k0 k1 k2 k3.1 k3.2, ?_⟩
      have e : encTExpr (.mk x0 x1 x2 x3) = [.int .i64 x0] ++ ([.int .i64 x1] ++ ([.str x2] ++ ([.slice 4 (x3.map encTExpr)] ++ []))) := by
        simp [encTExpr, encTExprs_map]
      rw [e]
      exact LD.cat (o := 0) l0 (LD.cat (o := 1) l1 (LD.cat (o := 2) l2 (LD.cat (o := 3) l3 (LD.fin (show cs.length = 4 from hl.trans (by kernel_rfl))))))
theorem encTBinding_len (x : TBinding) : (encTBinding x).length = 2 := by cases x; simp [encTBinding]
instance : Inhabited TBinding := ⟨dTBinding⟩
def okTBinding (v : TBinding) : Prop := v.fName.length ≤ maxLen ∧ v.fValue.length ≤ maxLen
theorem opTBinding48 {H : Type} {henc : TypeId × Value → H} {W : World} (fuel : Nat) : OpensF henc Tryz.prog W fuel 48 encTBinding okTBinding := by
  cases fuel with
  | zero => intro cs d ps h; cases h
  | succ fuel =>
    intro cs d ps h
    obtain ⟨hl, hf⟩ := trod_struct_fields Tryz.underlying48 h
    obtain ⟨x0, k0, l0⟩ := field_at 0 rfl (k := 1) (by kernel_rfl) (opens_string Tryz.underlying9 fuel) hf
    obtain ⟨x1, k1, l1⟩ := field_at 1 rfl (k := 1) (by kernel_rfl) (opens_string Tryz.underlying9 fuel) hf
    refine ⟨.mk x0 x1, ⟨k0, k1⟩, ?_⟩
    have e : encTBinding (.mk x0 x1) = ((fun l : List UInt8 => [DV.str l]) x0) ++ (((fun l : List UInt8 => [DV.str l]) x1) ++ []) := by
      simp [encTBinding]
    rw [e]
    exact (LD.cat (o := 0) l0 (LD.cat (o := 1) l1 (LD.fin (show cs.length = 2 from hl.trans (by kernel_rfl)))))
theorem opS32 {H : Type} {henc : TypeId × Value → H} {W : World} (fuel : Nat) : OpensF henc Tryz.prog W fuel 32 (fun vs : List TBinding => [DV.slice 2 (vs.map encTBinding)]) (fun vs => vs.length ≤ maxLen ∧ ∀ y, y ∈ vs → okTBinding y) := by
  cases fuel with
  | zero => intro cs d ps h; cases h
  | succ fuel => exact opens_slice (k := 2) (enc := encTBinding) Tryz.underlying32 (by kernel_rfl) (by decide) (fun x => encTBinding_len x) (opTBinding48 fuel)

end Go.Proofs.YtamjncikmfpihaaGreatDoor
