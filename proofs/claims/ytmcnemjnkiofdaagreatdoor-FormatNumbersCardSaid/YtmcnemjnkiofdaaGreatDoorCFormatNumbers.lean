/-
  FormatNumbers out of the plain law.
-/
import Derived.Test.YtmcnemjnkiofdaaGreatDoorLp
namespace Go.Proofs.YtmcnemjnkiofdaaGreatDoor
open Go.ChangeShapes Go.WideShapes Go.ChangeAt Go.RowKit Go.RT
set_option linter.all false

namespace formatNumbersLaw
set_option maxRecDepth 100000 in
theorem calls (hm : ∀ (a0 : Int) (q0 : (Lit.int .i64 a0).wf = true) (a1 : Int) (q1 : (Lit.int .u8 a1).wf = true), ∃ F, law30_FormatNumbers F a0 a1 = some true) (a0 : Int) (q0 : (Lit.int .i64 a0).wf = true) (a1 : Int) (q1 : (Lit.int .u8 a1).wf = true) : ACalls (E := E) Tryz.prog 5 [.dat (.int .i64) a0, .dat (.int .u8) a1] [] [] [] ⟨true, .dat .bool true, [], [], [], []⟩ := by
  obtain ⟨F, hF⟩ := hm a0 q0 a1 q1
  exact law30_FormatNumbers_ok F (a0, a1) true hF
set_option maxRecDepth 100000 in
theorem lifted (hm : ∀ (a0 : Int) (q0 : (Lit.int .i64 a0).wf = true) (a1 : Int) (q1 : (Lit.int .u8 a1).wf = true), ∃ F, law30_FormatNumbers F a0 a1 = some true) (os : Os) (started : os.Started) (H : Type) (enc : TypeId × Value → H) :
    ReturnsInHanded {} Tryz.checked os 5 .any (fun w args => (Rows.formatNumbersSpec.pre enc Tryz.prog Tryz.f5 [] false w args ∧ laidMetH Tryz.prog laidL w) ∧ sizedMet enc Tryz.prog Tryz.f5 (OpenSpec.ofChange Rows.formatNumbersSpec) false w args)
      (Rows.formatNumbersSpec.post enc Tryz.prog Tryz.f5 false true false false) := by
  refine handed_shaped (C := Tryz.checked) (X := fun w _ => laidMetH Tryz.prog laidL w) (fun _ _ _ hh h => h.of_heap hh) own started (by kernel_rfl) Tryz.func5
    (ChangeSpec.witness_at (enc := enc) (C := Tryz.checked) (os := os) (X := fun w _ => laidMetH Tryz.prog laidL w) false (laidWorld os) #[.int .i64 0, .int .u8 0] 8 (World.laidAll_os _ _ _) (by kernel_rfl) (by kernel_rfl) (by kernel_rfl) (by kernel_rfl) (by kernel_rfl) (laidWorld_met os _)) ?_
  intro W base args ds gs before hval0 hW hL hSh
  have hval : ∀ (j : Nat) t v, Tryz.f5.params[j]? = some t → args[j]? = some v → Value.okWide Tryz.prog W .any base t v := hval0
  have hW' := hW
  obtain ⟨p, q, hA0, hV, rfl, hfz, hnd⟩ := hW
  have hA : DataW.TrodAll enc Tryz.prog W 0 (fun _ => true) true Tryz.f5.params.toList args.toList ds p := hA0
  rw [Tryz.params5] at hA hval
  obtain ⟨v0, vs0, d0, ds0, p0, r0, hargs, rfl, rfl, h0, t0⟩ := trodAll_cons hA
  obtain ⟨v1, vs1, d1, ds1, p1, r1, rfl, rfl, rfl, h1, t1⟩ := trodAll_cons t0
  obtain ⟨rfl, rfl, rfl⟩ := trodAll_nil t1
  obtain rfl : args = #[v0, v1] := by cases args; simp_all
  obtain ⟨rfl, rfl⟩ := trodVars_none hV
  have lt0 : ∀ x ∈ p0, x.block < W.heap.size := by obtain ⟨m, hm⟩ := h0; exact DataW.trod_lt m _ _ _ hm
  obtain ⟨a0, q0, l0⟩ := Opens.arg (fun fuel => (opens_int Tryz.underlying3 fuel)) h0
  have z0 : VT E W ⟨[], [], fun b _ => b < W.heap.size⟩ (.dat (.int .i64) a0) v0 := by
    obtain ⟨_, rfl⟩ := okWide_int Tryz.underlying3 (hval 0 3 v0 rfl rfl)
    exact l0
  have lt1 : ∀ x ∈ p1, x.block < W.heap.size := by obtain ⟨m, hm⟩ := h1; exact DataW.trod_lt m _ _ _ hm
  obtain ⟨a1, q1, l1⟩ := Opens.arg (fun fuel => (opens_int Tryz.underlying5 fuel)) h1
  have z1 : VT E W ⟨[], [], fun b _ => b < W.heap.size⟩ (.dat (.int .u8) a1) v1 := by
    obtain ⟨_, rfl⟩ := okWide_int Tryz.underlying5 (hval 1 5 v1 rfl rfl)
    exact l1
  clear hA0 hval0
  refine (law_calls (calls hm a0 q0 a1 q1) (entersOf Tryz.func5 (by kernel_rfl) (by kernel_rfl)) (tabs_of_laid hL) (pins_of_laid hL hSh) (args := #[v0, v1]) (.cons z0 (.cons z1 .nil))).mono fun e W' ⟨he, bel⟩ => ?_
  subst he
  exact ⟨_, rfl, _, _, _, [], _, [], hW', trodAll_mk1 (shut_bool Tryz.underlying4 _), (trodAll_cons_mk (Below.trod laidOut (by kernel_rfl) (of_decide_eq_true (by kernel_rfl)) h0 bel lt0) (trodAll_cons_mk (Below.trod laidOut (by kernel_rfl) (of_decide_eq_true (by kernel_rfl)) h1 bel lt1) trodAll_mk0)), rfl, bel.frame _, fun h => by cases h⟩
theorem row (hm : ∀ (a0 : Int) (q0 : (Lit.int .i64 a0).wf = true) (a1 : Int) (q1 : (Lit.int .u8 a1).wf = true), ∃ F, law30_FormatNumbers F a0 a1 = some true) : Rows.FormatNumbersSaid :=
  OpenClaim.holds_of_wide 5 Tryz.f5 rfl rfl rfl rfl rfl rfl rfl ⟨rfl, rfl, rfl, rfl, rfl⟩ rfl rfl rfl rfl rfl (by kernel_rfl) Tryz.func5 (by kernel_rfl)
    (of_decide_eq_true (by kernel_rfl)) (by unfold Func.isWrapper; first | (rw [if_pos (by decide +kernel)]; kernel_rfl) | (rw [if_neg (by decide +kernel)]; exact ⟨rfl, rfl⟩))
    (fun os started H enc _ => lifted hm os started H enc)
theorem card (hm : ∀ (a0 : Int) (q0 : (Lit.int .i64 a0).wf = true) (a1 : Int) (q1 : (Lit.int .u8 a1).wf = true), ∃ F, law30_FormatNumbers F a0 a1 = some true) : Rows.FormatNumbersCardSaid :=
  Claim7.holds_tied_plain_at .later [] [.data, .data, .data] true (true, "99431a44bdc5dd6ac5ae1a62dc314076ffedfeea197e57c83ca095f160cf4062") false
    (row hm) (fun _ h => by cases h) (by kernel_rfl) (fun _ h => by cases h) formatNumbers_row_tie rfl ⟨rfl, rfl⟩ (by kernel_rfl) rfl
    (fun f fn hf hfn => by
      obtain rfl : f = 5 := Option.some.inj ((show Tryz.prog.funcNamed "jobshell/jobshelllaw30.FormatNumbers" = some 5 by kernel_rfl).symm.trans hf) |>.symm
      obtain rfl : fn = Tryz.f5 := (Option.some.inj (Tryz.func5.symm.trans hfn)).symm
      exact ⟨by kernel_rfl, fun j t ht => by
        rw [Tryz.params5] at ht
        rcases j with _ | j
        · obtain rfl : t = 3 := by simpa using ht.symm
          exact (show Tryz.prog.wantsStandIn 3 = false by kernel_rfl)
        rcases j with _ | j
        · obtain rfl : t = 5 := by simpa using ht.symm
          exact (show Tryz.prog.wantsStandIn 5 = false by kernel_rfl)
        · simp at ht⟩)
    (by kernel_rfl)
end formatNumbersLaw
end Go.Proofs.YtmcnemjnkiofdaaGreatDoor
