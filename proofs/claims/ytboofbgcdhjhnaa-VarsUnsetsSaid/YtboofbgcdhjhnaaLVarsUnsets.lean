/-
  jobshell/jobshelllaw15.VarsUnsets: for every input the law's function returns true, and what came in reads afterwards as before (no condition).
-/
import Derived.Test.YtboofbgcdhjhnaaVp4
import Derived.Test.YtboofbgcdhjhnaaAl23
import Derived.Test.YtboofbgcdhjhnaaRows
import Derived.WalkKit
import Derived.ProofKit
import Derived.OpenShut
import Derived.ShutString
import Derived.ChangeOld
import Derived.Below
import Derived.Carry
namespace Go.Proofs.Ytboofbgcdhjhnaa
open Go.ChangeShapes Go.WideShapes Go.ChangeAt Go.RowKit Go.AL
set_option linter.unusedVariables false

namespace varsUnsetsLaw
theorem op9 {H : Type} (henc : TypeId × Value → H) (W : World) (fuel : Nat) : OpensF henc Try.prog W fuel 9 (fun v : List UInt8 => [.str v]) (fun v : List UInt8 => v.length ≤ maxLen) := opens_string Try.underlying9 fuel
theorem op4 {H : Type} (henc : TypeId × Value → H) (W : World) (fuel : Nat) : OpensF henc Try.prog W fuel 4 (fun v : Bool => [.bool v]) (fun v : Bool => True) := opens_bool Try.underlying4 fuel
def okTVar (v : TVar) : Prop := v.fName.length ≤ maxLen ∧ v.fValue.length ≤ maxLen ∧ True ∧ True ∧ True
theorem op26 {H : Type} (henc : TypeId × Value → H) (W : World) (fuel : Nat) : OpensF henc Try.prog W fuel 26 encTVar (fun v : TVar => okTVar v) := by
  cases fuel with
  | zero => intro cs d ps h; cases h
  | succ fuel =>
    intro cs d ps h
    obtain ⟨hl, hf⟩ := trod_struct_fields Try.underlying26 h
    obtain ⟨x0, k0, l0⟩ := field_at 0 rfl (k := 1) (by kernel_rfl) (op9 henc W fuel) hf
    obtain ⟨x1, k1, l1⟩ := field_at 1 rfl (k := 1) (by kernel_rfl) (op9 henc W fuel) hf
    obtain ⟨x2, k2, l2⟩ := field_at 2 rfl (k := 1) (by kernel_rfl) (op4 henc W fuel) hf
    obtain ⟨x3, k3, l3⟩ := field_at 3 rfl (k := 1) (by kernel_rfl) (op4 henc W fuel) hf
    obtain ⟨x4, k4, l4⟩ := field_at 4 rfl (k := 1) (by kernel_rfl) (op4 henc W fuel) hf
    exact ⟨⟨x0, x1, x2, x3, x4⟩, ⟨k0, k1, k2, k3, k4⟩, LV.cat (o := 0) l0 (LV.cat (o := 1) l1 (LV.cat (o := 2) l2 (LV.cat (o := 3) l3 (LV.cat (o := 4) l4 (LV.fin (show cs.length = 5 from hl.trans (by kernel_rfl)))))))⟩
theorem op22 {H : Type} (henc : TypeId × Value → H) (W : World) (fuel : Nat) : OpensF henc Try.prog W fuel 22 (fun v : List TVar => [.slice 5 (v.map encTVar)]) (fun v : List TVar => (v.length ≤ maxLen ∧ ∀ x, x ∈ v → okTVar x)) := by
  cases fuel with
  | zero => intro cs d ps h; cases h
  | succ fuel => exact opens_slice (k := 5) (enc := encTVar) Try.underlying22 (by kernel_rfl) (by decide) (fun _ => rfl) (op26 henc W fuel)
theorem own : ownKnob Try.prog.godebug = none := by kernel_rfl
theorem laidOut : laidOutB Try.prog = true := by kernel_rfl
theorem calls (a0 : List TVar) (q0 : (a0.length ≤ maxLen ∧ ∀ x, x ∈ a0 → okTVar x)) (a1 : List UInt8) (q1 : a1.length ≤ maxLen) : ACalls Try.prog 9 [.slice 5 (a0.map encTVar), .str a1] [] (fun q => q = ⟨.bool true, [], [], []⟩) :=
  law15_VarsUnsets_ok (20000 + 9223372036854775807) a0 a1 true (VarsUnsets_eq _ a0 a1 (by omega))
set_option maxRecDepth 100000 in
theorem lifted (os : Os) (started : os.Started) (H : Type) (enc : TypeId × Value → H) :
    ReturnsInHanded {} Try.checked os 9 .any (Rows.varsUnsetsSpec.pre6 enc Try.prog Try.f9 Rows.varsUnsetsRow.domain false) (Rows.varsUnsetsSpec.post enc Try.prog Try.f9 false true false false) := by
  refine returnsInHanded_of_change (C := Try.checked) own started (by kernel_rfl) Try.func9
    (ChangeSpec.witness6 (enc := enc) (C := Try.checked) false ⟨#[], #[.slice none 0 0, .string ⟨#[]⟩], []⟩ 8 (by kernel_rfl) (by kernel_rfl) (by kernel_rfl) (by kernel_rfl)) ?_
  intro W base args ds gs before hval0 hW hcnd _
  have hval : ∀ (j : Nat) t v, Try.f9.params[j]? = some t → args[j]? = some v → Value.okWide Try.prog W .any base t v := hval0
  have hW' := hW
  obtain ⟨p, q, hA0, hV, rfl, hfz, hnd⟩ := hW
  have hA : DataW.TrodAll enc Try.prog W 0 (fun _ => true) true Try.f9.params.toList args.toList ds p := hA0
  rw [Try.params9] at hA hval
  obtain ⟨v0, vs0, d0, ds0, p0, r0, hargs, rfl, rfl, h0, t0⟩ := trodAll_cons hA
  obtain ⟨v1, vs1, d1, ds1, p1, r1, rfl, rfl, rfl, h1, t1⟩ := trodAll_cons t0
  obtain ⟨rfl, rfl, rfl⟩ := trodAll_nil t1
  obtain rfl : args = #[v0, v1] := by cases args; simp_all
  obtain ⟨rfl, rfl⟩ := trodVars_none hV
  have lt0 : ∀ x ∈ p0, x.block < W.heap.size := by obtain ⟨m, hm⟩ := h0; exact DataW.trod_lt m _ _ _ hm
  obtain ⟨a0, q0, l0⟩ := Opens.arg (op22 enc W) h0
  have z0 : V W (fun b _ => b < W.heap.size) noPlaces v0 (.slice 5 (a0.map encTVar)) := by
    obtain ⟨_, _, _, rfl⟩ := okWide_slice Try.underlying22 (hval 0 22 v0 rfl rfl)
    exact LV.one l0 rfl
  have lt1 : ∀ x ∈ p1, x.block < W.heap.size := by obtain ⟨m, hm⟩ := h1; exact DataW.trod_lt m _ _ _ hm
  obtain ⟨a1, q1, l1⟩ := Opens.arg (op9 enc W) h1
  have z1 : V W (fun b _ => b < W.heap.size) noPlaces v1 (.str a1) := by
    obtain ⟨_, rfl⟩ := okWide_string Try.underlying9 (hval 1 9 v1 rfl rfl)
    exact LV.one l1 rfl
  clear hA0 hval0
  refine (law_calls (calls a0 q0 a1 q1) (args := #[v0, v1]) rfl (fun j hj => ?_)).mono fun e W' ⟨he, bel⟩ => ?_
  · match j, hj with
    | 0, _ => exact z0
    | 1, _ => exact z1
    | j + 2, hj => exact absurd hj (by simp)
  subst he
  exact ⟨_, rfl, _, _, _, [], _, [], hW', trodAll_mk1 (shut_bool Try.underlying4 _), (trodAll_cons_mk (Below.trod laidOut (by kernel_rfl) (of_decide_eq_true (by kernel_rfl)) h0 bel lt0) (trodAll_cons_mk (Below.trod laidOut (by kernel_rfl) (of_decide_eq_true (by kernel_rfl)) h1 bel lt1) trodAll_mk0)), rfl, bel.frame _, fun h => by cases h⟩
theorem over : Rows.varsUnsetsRow.holds Try.pinned (OpenSpec.ofChange Rows.varsUnsetsSpec) :=
  OpenClaim.holds_of_wide 9 Try.f9 rfl rfl rfl rfl rfl rfl rfl ⟨rfl, rfl, rfl, rfl, rfl⟩ rfl rfl rfl rfl rfl (by kernel_rfl) Try.func9 (by kernel_rfl)
    (of_decide_eq_true (by kernel_rfl)) (by unfold Func.isWrapper; first | (rw [if_pos (by decide +kernel)]; kernel_rfl) | (rw [if_neg (by decide +kernel)]; exact ⟨rfl, rfl⟩))
    (fun os started H enc _ => lifted os started H enc)
end varsUnsetsLaw
theorem varsUnsets_holds : Rows.VarsUnsetsSaid := varsUnsetsLaw.over
end Go.Proofs.Ytboofbgcdhjhnaa
