/-
  jobshell/jobshelllaw15.VarsKeeps: for every input the law's function returns true, and what came in reads afterwards as before (no condition).
-/
import Derived.Test.YtboofbgcdhjhnaaVp4
import Derived.Test.YtboofbgcdhjhnaaAl23
import Derived.Test.YtboofbgcdhjhnaaRows
import Derived.WalkKit
import Derived.ProofKit
import Derived.OpenShut
import Derived.ShutString
import Derived.ChangeOld
import Derived.Below
import Derived.Carry
namespace Go.Proofs.Ytboofbgcdhjhnaa
open Go.ChangeShapes Go.WideShapes Go.ChangeAt Go.RowKit Go.AL
set_option linter.unusedVariables false

namespace varsKeepsLaw
theorem op9 {H : Type} (henc : TypeId × Value → H) (W : World) (fuel : Nat) : OpensF henc Try.prog W fuel 9 (fun v : List UInt8 => [.str v]) (fun v : List UInt8 => v.length ≤ maxLen) := opens_string Try.underlying9 fuel
theorem op4 {H : Type} (henc : TypeId × Value → H) (W : World) (fuel : Nat) : OpensF henc Try.prog W fuel 4 (fun v : Bool => [.bool v]) (fun v : Bool => True) := opens_bool Try.underlying4 fuel
def okTVar (v : TVar) : Prop := v.fName.length ≤ maxLen ∧ v.fValue.length ≤ maxLen ∧ True ∧ True ∧ True
theorem op26 {H : Type} (henc : TypeId × Value → H) (W : World) (fuel : Nat) : OpensF henc Try.prog W fuel 26 encTVar (fun v : TVar => okTVar v) := by
  cases fuel with
  | zero => intro cs d ps h; cases h
  | succ fuel =>
    intro cs d ps h
    obtain ⟨hl, hf⟩ := trod_struct_fields Try.underlying26 h
    obtain ⟨x0, k0, l0⟩ := field_at 0 rfl (k := 1) (by kernel_rfl) (op9 henc W fuel) hf
    obtain ⟨x1, k1, l1⟩ := field_at 1 rfl (k := 1) (by kernel_rfl) (op9 henc W fuel) hf
    obtain ⟨x2, k2, l2⟩ := field_at 2 rfl (k := 1) (by kernel_rfl) (op4 henc W fuel) hf
    obtain ⟨x3, k3, l3⟩ := field_at 3 rfl (k := 1) (by kernel_rfl) (op4 henc W fuel) hf
    obtain ⟨x4, k4, l4⟩ := field_at 4 rfl (k := 1) (by kernel_rfl) (op4 henc W fuel) hf
    exact ⟨⟨x0, x1, x2, x3, x4⟩, ⟨k0, k1, k2, k3, k4⟩, LV.cat (o := 0) l0 (LV.cat (o := 1) l1 (LV.cat (o := 2) l2 (LV.cat (o := 3) l3 (LV.cat (o := 4) l4 (LV.fin (show cs.length = 5 from hl.trans (by kernel_rfl)))))))⟩
theorem op22 {H : Type} (henc : TypeId × Value → H) (W : World) (fuel : Nat) : OpensF henc Try.prog W fuel 22 (fun v : List TVar => [.slice 5 (v.map encTVar)]) (fun v : List TVar => (v.length ≤ maxLen ∧ ∀ x, x ∈ v → okTVar x)) := by
  cases fuel with
  | zero => intro cs d ps h; cases h
  | succ fuel => exact opens_slice (k := 5) (enc := encTVar) Try.underlying22 (by kernel_rfl) (by decide) (fun _ => rfl) (op26 henc W fuel)
theorem op51 {H : Type} (henc : TypeId × Value → H) (W : World) (fuel : Nat) : OpensF henc Try.prog W fuel 51 (fun v : (List UInt8) × (List UInt8) => [.str v.1, .str v.2]) (fun v : (List UInt8) × (List UInt8) => (v.1.length ≤ maxLen ∧ v.2.length ≤ maxLen)) := by
  cases fuel with
  | zero => intro cs d ps h; cases h
  | succ fuel =>
    intro cs d ps h
    obtain ⟨hl, hf⟩ := trod_array_elems Try.underlying51 h
    obtain ⟨x0, k0, l0⟩ := elem_at 0 (by decide) (k := 1) (by kernel_rfl) (op9 henc W fuel) hf
    obtain ⟨x1, k1, l1⟩ := elem_at 1 (by decide) (k := 1) (by kernel_rfl) (op9 henc W fuel) hf
    exact ⟨(x0, x1), ⟨k0, k1⟩, LV.cat (o := 0) l0 (LV.cat (o := 1) l1 (LV.fin (show cs.length = 2 from hl.trans (by kernel_rfl))))⟩
theorem own : ownKnob Try.prog.godebug = none := by kernel_rfl
theorem laidOut : laidOutB Try.prog = true := by kernel_rfl
theorem calls (a0 : List TVar) (q0 : (a0.length ≤ maxLen ∧ ∀ x, x ∈ a0 → okTVar x)) (a1 : (List UInt8) × (List UInt8)) (q1 : (a1.1.length ≤ maxLen ∧ a1.2.length ≤ maxLen)) (a2 : List UInt8) (q2 : a2.length ≤ maxLen) : ACalls Try.prog 7 [.slice 5 (a0.map encTVar), .agg [.str a1.1, .str a1.2], .str a2] [] (fun q => q = ⟨.bool true, [], [], []⟩) :=
  law15_VarsKeeps_ok (20000 + 9223372036854775807) a0 a1 a2 true (VarsKeeps_eq _ a0 a1 a2 (by omega))
set_option maxRecDepth 100000 in
theorem lifted (os : Os) (started : os.Started) (H : Type) (enc : TypeId × Value → H) :
    ReturnsInHanded {} Try.checked os 7 .any (Rows.varsKeepsSpec.pre6 enc Try.prog Try.f7 Rows.varsKeepsRow.domain false) (Rows.varsKeepsSpec.post enc Try.prog Try.f7 false true false false) := by
  refine returnsInHanded_of_change (C := Try.checked) own started (by kernel_rfl) Try.func7
    (ChangeSpec.witness6 (enc := enc) (C := Try.checked) false ⟨#[], #[.slice none 0 0, .agg #[.string ⟨#[]⟩, .string ⟨#[]⟩], .string ⟨#[]⟩], []⟩ 8 (by kernel_rfl) (by kernel_rfl) (by kernel_rfl) (by kernel_rfl)) ?_
  intro W base args ds gs before hval0 hW hcnd _
  have hval : ∀ (j : Nat) t v, Try.f7.params[j]? = some t → args[j]? = some v → Value.okWide Try.prog W .any base t v := hval0
  have hW' := hW
  obtain ⟨p, q, hA0, hV, rfl, hfz, hnd⟩ := hW
  have hA : DataW.TrodAll enc Try.prog W 0 (fun _ => true) true Try.f7.params.toList args.toList ds p := hA0
  rw [Try.params7] at hA hval
  obtain ⟨v0, vs0, d0, ds0, p0, r0, hargs, rfl, rfl, h0, t0⟩ := trodAll_cons hA
  obtain ⟨v1, vs1, d1, ds1, p1, r1, rfl, rfl, rfl, h1, t1⟩ := trodAll_cons t0
  obtain ⟨v2, vs2, d2, ds2, p2, r2, rfl, rfl, rfl, h2, t2⟩ := trodAll_cons t1
  obtain ⟨rfl, rfl, rfl⟩ := trodAll_nil t2
  obtain rfl : args = #[v0, v1, v2] := by cases args; simp_all
  obtain ⟨rfl, rfl⟩ := trodVars_none hV
  have lt0 : ∀ x ∈ p0, x.block < W.heap.size := by obtain ⟨m, hm⟩ := h0; exact DataW.trod_lt m _ _ _ hm
  obtain ⟨a0, q0, l0⟩ := Opens.arg (op22 enc W) h0
  have z0 : V W (fun b _ => b < W.heap.size) noPlaces v0 (.slice 5 (a0.map encTVar)) := by
    obtain ⟨_, _, _, rfl⟩ := okWide_slice Try.underlying22 (hval 0 22 v0 rfl rfl)
    exact LV.one l0 rfl
  have lt1 : ∀ x ∈ p1, x.block < W.heap.size := by obtain ⟨m, hm⟩ := h1; exact DataW.trod_lt m _ _ _ hm
  obtain ⟨a1, q1, l1⟩ := Opens.arg (op51 enc W) h1
  have z1 : V W (fun b _ => b < W.heap.size) noPlaces v1 (.agg [.str a1.1, .str a1.2]) := by
    obtain ⟨_, rfl⟩ := AL.okWide_array Try.underlying51 (hval 1 51 v1 rfl rfl)
    exact LV.agg l1
  have lt2 : ∀ x ∈ p2, x.block < W.heap.size := by obtain ⟨m, hm⟩ := h2; exact DataW.trod_lt m _ _ _ hm
  obtain ⟨a2, q2, l2⟩ := Opens.arg (op9 enc W) h2
  have z2 : V W (fun b _ => b < W.heap.size) noPlaces v2 (.str a2) := by
    obtain ⟨_, rfl⟩ := okWide_string Try.underlying9 (hval 2 9 v2 rfl rfl)
    exact LV.one l2 rfl
  clear hA0 hval0
  refine (law_calls (calls a0 q0 a1 q1 a2 q2) (args := #[v0, v1, v2]) rfl (fun j hj => ?_)).mono fun e W' ⟨he, bel⟩ => ?_
  · match j, hj with
    | 0, _ => exact z0
    | 1, _ => exact z1
    | 2, _ => exact z2
    | j + 3, hj => exact absurd hj (by simp)
  subst he
  exact ⟨_, rfl, _, _, _, [], _, [], hW', trodAll_mk1 (shut_bool Try.underlying4 _), (trodAll_cons_mk (Below.trod laidOut (by kernel_rfl) (of_decide_eq_true (by kernel_rfl)) h0 bel lt0) (trodAll_cons_mk (Below.trod laidOut (by kernel_rfl) (of_decide_eq_true (by kernel_rfl)) h1 bel lt1) (trodAll_cons_mk (Below.trod laidOut (by kernel_rfl) (of_decide_eq_true (by kernel_rfl)) h2 bel lt2) trodAll_mk0))), rfl, bel.frame _, fun h => by cases h⟩
theorem over : Rows.varsKeepsRow.holds Try.pinned (OpenSpec.ofChange Rows.varsKeepsSpec) :=
  OpenClaim.holds_of_wide 7 Try.f7 rfl rfl rfl rfl rfl rfl rfl ⟨rfl, rfl, rfl, rfl, rfl⟩ rfl rfl rfl rfl rfl (by kernel_rfl) Try.func7 (by kernel_rfl)
    (of_decide_eq_true (by kernel_rfl)) (by unfold Func.isWrapper; first | (rw [if_pos (by decide +kernel)]; kernel_rfl) | (rw [if_neg (by decide +kernel)]; exact ⟨rfl, rfl⟩))
    (fun os started H enc _ => lifted os started H enc)
end varsKeepsLaw
theorem varsKeeps_holds : Rows.VarsKeepsSaid := varsKeepsLaw.over
end Go.Proofs.Ytboofbgcdhjhnaa
