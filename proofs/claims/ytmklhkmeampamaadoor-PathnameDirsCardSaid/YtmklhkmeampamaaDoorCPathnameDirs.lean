/-
  PathnameDirs out of the plain law.
-/
import Derived.Test.YtmklhkmeampamaaDoorLp
namespace Go.Proofs.YtmklhkmeampamaaDoor
open Go.ChangeShapes Go.WideShapes Go.ChangeAt Go.RowKit Go.RT
set_option linter.all false

namespace pathnameDirsLaw
set_option maxRecDepth 100000 in
theorem calls (hm : ∀ (a0 : List UInt8) (q0 : a0.length ≤ maxLen), ∃ F, law20_PathnameDirs F a0 = some true) (a0 : List UInt8) (q0 : a0.length ≤ maxLen) : ACalls (E := E) Tryd.prog 3 [.dat .str a0] [] [] [] ⟨true, .dat .bool true, [], [], [], []⟩ := by
  obtain ⟨F, hF⟩ := hm a0 q0
  exact law20_PathnameDirs_ok F a0 true hF
set_option maxRecDepth 100000 in
theorem lifted (hm : ∀ (a0 : List UInt8) (q0 : a0.length ≤ maxLen), ∃ F, law20_PathnameDirs F a0 = some true) (os : Os) (started : os.Started) (H : Type) (enc : TypeId × Value → H) :
    ReturnsInHanded {} Tryd.checked os 3 .any (fun w args => (Rows.pathnameDirsSpec.pre enc Tryd.prog Tryd.f3 [] false w args ∧ laidMetH Tryd.prog laidL w) ∧ sizedMet enc Tryd.prog Tryd.f3 (OpenSpec.ofChange Rows.pathnameDirsSpec) false w args)
      (Rows.pathnameDirsSpec.post enc Tryd.prog Tryd.f3 false true false false) := by
  refine handed_shaped (C := Tryd.checked) (X := fun w _ => laidMetH Tryd.prog laidL w) (fun _ _ _ hh h => h.of_heap hh) own started (by kernel_rfl) Tryd.func3
    (ChangeSpec.witness_at (enc := enc) (C := Tryd.checked) (os := os) (X := fun w _ => laidMetH Tryd.prog laidL w) false (laidWorld os) #[.string ⟨#[]⟩] 8 (World.laidAll_os _ _ _) (by kernel_rfl) (by kernel_rfl) (by kernel_rfl) (by kernel_rfl) (by kernel_rfl) (laidWorld_met os _)) ?_
  intro W base args ds gs before hval0 hW hL hSh
  have hval : ∀ (j : Nat) t v, Tryd.f3.params[j]? = some t → args[j]? = some v → Value.okWide Tryd.prog W .any base t v := hval0
  have hW' := hW
  obtain ⟨p, q, hA0, hV, rfl, hfz, hnd⟩ := hW
  have hA : DataW.TrodAll enc Tryd.prog W 0 (fun _ => true) true Tryd.f3.params.toList args.toList ds p := hA0
  rw [Tryd.params3] at hA hval
  obtain ⟨v0, vs0, d0, ds0, p0, r0, hargs, rfl, rfl, h0, t0⟩ := trodAll_cons hA
  obtain ⟨rfl, rfl, rfl⟩ := trodAll_nil t0
  obtain rfl : args = #[v0] := by cases args; simp_all
  obtain ⟨rfl, rfl⟩ := trodVars_none hV
  have lt0 : ∀ x ∈ p0, x.block < W.heap.size := by obtain ⟨m, hm⟩ := h0; exact DataW.trod_lt m _ _ _ hm
  obtain ⟨a0, q0, l0⟩ := Opens.arg (fun fuel => (opens_string Tryd.underlying9 fuel)) h0
  have z0 : VT E W ⟨[], [], fun b _ => b < W.heap.size⟩ (.dat .str a0) v0 := by
    obtain ⟨_, rfl⟩ := okWide_string Tryd.underlying9 (hval 0 9 v0 rfl rfl)
    exact l0
  clear hA0 hval0
  refine (law_calls (calls hm a0 q0) (entersOf Tryd.func3 (by kernel_rfl) (by kernel_rfl)) (tabs_of_laid hL) (pins_of_laid hL hSh) (args := #[v0]) (.cons z0 .nil)).mono fun e W' ⟨he, bel⟩ => ?_
  subst he
  exact ⟨_, rfl, _, _, _, [], _, [], hW', trodAll_mk1 (shut_bool Tryd.underlying4 _), (trodAll_cons_mk (Below.trod laidOut (by kernel_rfl) (of_decide_eq_true (by kernel_rfl)) h0 bel lt0) trodAll_mk0), rfl, bel.frame _, fun h => by cases h⟩
theorem row (hm : ∀ (a0 : List UInt8) (q0 : a0.length ≤ maxLen), ∃ F, law20_PathnameDirs F a0 = some true) : Rows.PathnameDirsSaid :=
  OpenClaim.holds_of_wide 3 Tryd.f3 rfl rfl rfl rfl rfl rfl rfl ⟨rfl, rfl, rfl, rfl, rfl⟩ rfl rfl rfl rfl rfl (by kernel_rfl) Tryd.func3 (by kernel_rfl)
    (of_decide_eq_true (by kernel_rfl)) (by unfold Func.isWrapper; first | (rw [if_pos (by decide +kernel)]; kernel_rfl) | (rw [if_neg (by decide +kernel)]; exact ⟨rfl, rfl⟩))
    (fun os started H enc _ => lifted hm os started H enc)
theorem card (hm : ∀ (a0 : List UInt8) (q0 : a0.length ≤ maxLen), ∃ F, law20_PathnameDirs F a0 = some true) : Rows.PathnameDirsCardSaid :=
  Claim7.holds_tied_plain_at .later [] [.data, .pinned] true (true, "31b0879753f0cab85f0e06f51a2102a64c3fbce40237d24ade365c767ec76c16") false
    (row hm) (fun _ h => by cases h) (by kernel_rfl) (fun _ h => by cases h) pathnameDirs_row_tie rfl ⟨rfl, rfl⟩ (by kernel_rfl) rfl
    (fun f fn hf hfn => by
      obtain rfl : f = 3 := Option.some.inj ((show Tryd.prog.funcNamed "jobshell/jobshelllaw20.PathnameDirs" = some 3 by kernel_rfl).symm.trans hf) |>.symm
      obtain rfl : fn = Tryd.f3 := (Option.some.inj (Tryd.func3.symm.trans hfn)).symm
      exact ⟨by kernel_rfl, fun j t ht => by
        rw [Tryd.params3] at ht
        rcases j with _ | j
        · obtain rfl : t = 9 := by simpa using ht.symm
          exact (show Tryd.prog.wantsStandIn 9 = false by kernel_rfl)
        · simp at ht⟩)
    (by kernel_rfl)
end pathnameDirsLaw
end Go.Proofs.YtmklhkmeampamaaDoor
