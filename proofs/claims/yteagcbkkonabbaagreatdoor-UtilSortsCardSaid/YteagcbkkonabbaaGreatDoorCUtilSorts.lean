/-
  UtilSorts out of the plain law.
-/
import Derived.Test.YteagcbkkonabbaaGreatDoorLp
import Derived.Test.YteagcbkkonabbaaGreatDoorGUtilSorts
import Derived.Test.YteagcbkkonabbaaGreatDoorJUtilSorts
namespace Go.Proofs.YteagcbkkonabbaaGreatDoor
open Go.ChangeShapes Go.WideShapes Go.ChangeAt Go.RowKit Go.RT
set_option linter.all false

namespace utilSortsLaw
set_option maxRecDepth 100000 in
theorem calls (hm : ∀ (a0 : List UInt8) (q0 : a0.length ≤ 140737488351232) (a1 : Int) (q1 : (Lit.int .i64 a1).wf = true), ∃ F, law31_UtilSorts F a0 a1 = some true) (a0 : List UInt8) (q0 : a0.length ≤ 140737488351232) (a1 : Int) (q1 : (Lit.int .i64 a1).wf = true) : ACalls (E := E) Tryz.prog 6 [.dat .str a0, .dat (.int .i64) a1] [] [] [] ⟨true, .dat .bool true, [], [], [], []⟩ := by
  obtain ⟨F, hF⟩ := hm a0 q0 a1 q1
  exact law31_UtilSorts_ok F (a0, a1) true hF
set_option maxRecDepth 100000 in
theorem lifted (hm : ∀ (a0 : List UInt8) (q0 : a0.length ≤ 140737488351232) (a1 : Int) (q1 : (Lit.int .i64 a1).wf = true), ∃ F, law31_UtilSorts F a0 a1 = some true) (os : Os) (started : os.Started) (H : Type) (enc : TypeId × Value → H) :
    ReturnsInHanded {} Tryz.checked os 6 .any (fun w args => (Rows.utilSortsSpec.pre enc Tryz.prog Tryz.f6 [] false w args ∧ laidMetH Tryz.prog laidL w) ∧ sizedMet enc Tryz.prog Tryz.f6 (OpenSpec.ofChange Rows.utilSortsSpec) false w args)
      (Rows.utilSortsSpec.post enc Tryz.prog Tryz.f6 false true false false) := by
  refine handed_shaped (C := Tryz.checked) (X := fun w _ => laidMetH Tryz.prog laidL w) (fun _ _ _ hh h => h.of_heap hh) own started (by kernel_rfl) Tryz.func6
    (ChangeSpec.witness_at (enc := enc) (C := Tryz.checked) (os := os) (X := fun w _ => laidMetH Tryz.prog laidL w) false (laidWorld os) #[.string ⟨#[]⟩, .int .i64 0] 8 (World.laidAll_os _ _ _) (by kernel_rfl) (by kernel_rfl) (by kernel_rfl) (by kernel_rfl) (by kernel_rfl) (laidWorld_met os _)) ?_
  intro W base args ds gs before hval0 hW hL hSh hWt
  have hval : ∀ (j : Nat) t v, Tryz.f6.params[j]? = some t → args[j]? = some v → Value.okWide Tryz.prog W .any base t v := hval0
  have hW' := hW
  obtain ⟨p, q, hA0, hV, rfl, hfz, hnd⟩ := hW
  have hA : DataW.TrodAll enc Tryz.prog W 0 (fun _ => true) true Tryz.f6.params.toList args.toList ds p := hA0
  rw [Tryz.params6] at hA hval
  obtain ⟨v0, vs0, d0, ds0, p0, r0, hargs, rfl, rfl, h0, t0⟩ := trodAll_cons hA
  obtain ⟨v1, vs1, d1, ds1, p1, r1, rfl, rfl, rfl, h1, t1⟩ := trodAll_cons t0
  obtain ⟨rfl, rfl, rfl⟩ := trodAll_nil t1
  obtain rfl : args = #[v0, v1] := by cases args; simp_all
  obtain ⟨rfl, rfl⟩ := trodVars_none hV
  have lt0 : ∀ x ∈ p0, x.block < W.heap.size := by obtain ⟨m, hm⟩ := h0; exact DataW.trod_lt m _ _ _ hm
  obtain ⟨a0, q0, l0⟩ := Opens.arg (fun fuel => (opens_string Tryz.underlying9 fuel)) h0 (wAt hWt 0 (by kernel_rfl) rfl)
  have z0 : VT E W ⟨[], [], fun b _ => b < W.heap.size⟩ (.dat .str a0) v0 := by
    obtain ⟨_, rfl⟩ := okWide_string Tryz.underlying9 (hval 0 9 v0 rfl rfl)
    exact l0
  have lt1 : ∀ x ∈ p1, x.block < W.heap.size := by obtain ⟨m, hm⟩ := h1; exact DataW.trod_lt m _ _ _ hm
  obtain ⟨a1, q1, l1⟩ := Opens.arg (fun fuel => (opens_int Tryz.underlying3 fuel)) h1 (wAt hWt 1 (by kernel_rfl) rfl)
  have z1 : VT E W ⟨[], [], fun b _ => b < W.heap.size⟩ (.dat (.int .i64) a1) v1 := by
    obtain ⟨_, rfl⟩ := okWide_int Tryz.underlying3 (hval 1 3 v1 rfl rfl)
    exact l1
  clear hA0 hval0
  refine (law_calls (calls hm a0 q0 a1 q1) (entersOf Tryz.func6 (by kernel_rfl) (by kernel_rfl)) (tabs_of_laid hL) (pins_of_laid hL hSh) (args := #[v0, v1]) (.cons z0 (.cons z1 .nil))).mono fun e W' ⟨he, bel⟩ => ?_
  subst he
  exact ⟨_, rfl, _, _, _, [], _, [], hW', trodAll_mk1 (shut_bool Tryz.underlying4 _), (trodAll_cons_mk (Below.trod laidOut (by kernel_rfl) (of_decide_eq_true (by kernel_rfl)) h0 bel lt0) (trodAll_cons_mk (Below.trod laidOut (by kernel_rfl) (of_decide_eq_true (by kernel_rfl)) h1 bel lt1) trodAll_mk0)), rfl, bel.frame _, fun h => by cases h⟩
theorem row (hm : ∀ (a0 : List UInt8) (q0 : a0.length ≤ 140737488351232) (a1 : Int) (q1 : (Lit.int .i64 a1).wf = true), ∃ F, law31_UtilSorts F a0 a1 = some true) : Rows.UtilSortsSaid :=
  OpenClaim.holds_of_wide 6 Tryz.f6 rfl rfl rfl rfl rfl rfl rfl ⟨rfl, rfl, rfl, rfl, rfl⟩ rfl rfl rfl rfl rfl utilSorts_fn Tryz.func6 utilSorts_closed
    (of_decide_eq_true (by kernel_rfl)) (by unfold Func.isWrapper; first | (rw [if_pos (by decide +kernel)]; kernel_rfl) | (rw [if_neg (by decide +kernel)]; exact ⟨rfl, rfl⟩))
    (fun os started H enc _ => lifted hm os started H enc)
theorem card (hm : ∀ (a0 : List UInt8) (q0 : a0.length ≤ 140737488351232) (a1 : Int) (q1 : (Lit.int .i64 a1).wf = true), ∃ F, law31_UtilSorts F a0 a1 = some true) : Rows.UtilSortsCardSaid :=
  Claim7.holds_tied_plain_at .later [] [.data, .data, .data, .data, .sentinel, .sentinel, .widerDeep, .pinned] true (true, "ce234dee472abb3233f8b1294aa0d25522ab3b3ad3bdb5cf72057904d8aaf208") true
    (row hm) (fun _ h => by cases h) utilSorts_wf (fun _ h => by cases h) utilSorts_row_tie rfl ⟨rfl, rfl⟩ seat_main rfl
    utilSorts_hl
    utilSorts_goes
end utilSortsLaw
end Go.Proofs.YteagcbkkonabbaaGreatDoor
