import Derived.Test.YteagcbkkonabbaaGreatDoorLp
import Derived.Test.YteagcbkkonabbaaGreatDoorGUtilEnds
import Derived.Test.YteagcbkkonabbaaGreatDoorJUtilEnds
namespace Go.Proofs.YteagcbkkonabbaaGreatDoor
open Go.ChangeShapes Go.WideShapes Go.ChangeAt Go.RowKit Go.RT
set_option linter.all false
namespace utilEndsLaw
set_option maxRecDepth 100000 in
theorem calls (hm : ∀ (a0 : List (List UInt8)) (q0 : (a0.length ≤ maxLen ∧ ∀ y, y ∈ a0 → y.length ≤ 140737488351232)) (a1 : List UInt8) (q1 : a1.length ≤ 140737488351232) (a2 : Int) (q2 : (Lit.int .i64 a2).wf = true), ∃ F, law31_UtilEnds F a0 a1 a2 = some true) (a0 : List (List UInt8)) (q0 : (a0.length ≤ maxLen ∧ ∀ y, y ∈ a0 → y.length ≤ 140737488351232)) (a1 : List UInt8) (q1 : a1.length ≤ 140737488351232) (a2 : Int) (q2 : (Lit.int .i64 a2).wf = true) : ACalls (E := E) Tryz.prog 8 [.dat (.lst .str) a0, .dat .str a1, .dat (.int .i64) a2] [] [] [] ⟨true, .dat .bool true, [], [], [], []⟩ := by
  obtain ⟨F, hF⟩ := hm a0 q0 a1 q1 a2 q2
  exact law31_UtilEnds_ok F (a0, a1, a2) true hF
set_option maxRecDepth 100000 in
theorem lifted (hm : ∀ (a0 : List (List UInt8)) (q0 : (a0.length ≤ maxLen ∧ ∀ y, y ∈ a0 → y.length ≤ 140737488351232)) (a1 : List UInt8) (q1 : a1.length ≤ 140737488351232) (a2 : Int) (q2 : (Lit.int .i64 a2).wf = true), ∃ F, law31_UtilEnds F a0 a1 a2 = some true) (os : Os) (started : os.Started) (H : Type) (enc : TypeId × Value → H) :
    ReturnsInHanded {} Tryz.checked os 8 .any (fun w args => (Rows.utilEndsSpec.pre enc Tryz.prog Tryz.f8 [] false w args ∧ laidMetH Tryz.prog laidL w) ∧ sizedMet enc Tryz.prog Tryz.f8 (OpenSpec.ofChange Rows.utilEndsSpec) false w args)
      (Rows.utilEndsSpec.post enc Tryz.prog Tryz.f8 false true false false) := by
  refine handed_shaped (C := Tryz.checked) (X := fun w _ => laidMetH Tryz.prog laidL w) (fun _ _ _ hh h => h.of_heap hh) own started (by kernel_rfl) Tryz.func8
    (ChangeSpec.witness_at (enc := enc) (C := Tryz.checked) (os := os) (X := fun w _ => laidMetH Tryz.prog laidL w) false (laidWorld os) #[.slice none 0 0, .string ⟨#[]⟩, .int .i64 0] 8 (World.laidAll_os _ _ _) (by kernel_rfl) (by kernel_rfl) (by kernel_rfl) (by kernel_rfl) (by kernel_rfl) (laidWorld_met os _)) ?_
  intro W base args ds gs before hval0 hW hL hSh hWt
  have hval : ∀ (j : Nat) t v, Tryz.f8.params[j]? = some t → args[j]? = some v → Value.okWide Tryz.prog W .any base t v := hval0
  have hW' := hW
  obtain ⟨p, q, hA0, hV, rfl, hfz, hnd⟩ := hW
  have hA : DataW.TrodAll enc Tryz.prog W 0 (fun _ => true) true Tryz.f8.params.toList args.toList ds p := hA0
  rw [Tryz.params8] at hA hval
  obtain ⟨v0, vs0, d0, ds0, p0, r0, hargs, rfl, rfl, h0, t0⟩ := trodAll_cons hA
  obtain ⟨v1, vs1, d1, ds1, p1, r1, rfl, rfl, rfl, h1, t1⟩ := trodAll_cons t0
  obtain ⟨v2, vs2, d2, ds2, p2, r2, rfl, rfl, rfl, h2, t2⟩ := trodAll_cons t1
  obtain ⟨rfl, rfl, rfl⟩ := trodAll_nil t2
  obtain rfl : args = #[v0, v1, v2] := by cases args; simp_all
  obtain ⟨rfl, rfl⟩ := trodVars_none hV
  have lt0 : ∀ x ∈ p0, x.block < W.heap.size := by obtain ⟨m, hm⟩ := h0; exact DataW.trod_lt m _ _ _ hm
  obtain ⟨a0, q0, l0⟩ := Opens.arg (fun fuel => (opS22 fuel)) h0 (wAt hWt 0 (by kernel_rfl) rfl)
  have z0 : VT E W ⟨[], [], fun b _ => b < W.heap.size⟩ (.dat (.lst .str) a0) v0 := by
    obtain ⟨_, _, _, rfl⟩ := okWide_slice Tryz.underlying22 (hval 0 22 v0 rfl rfl)
    exact l0
  have lt1 : ∀ x ∈ p1, x.block < W.heap.size := by obtain ⟨m, hm⟩ := h1; exact DataW.trod_lt m _ _ _ hm
  obtain ⟨a1, q1, l1⟩ := Opens.arg (fun fuel => (opens_string Tryz.underlying9 fuel)) h1 (wAt hWt 1 (by kernel_rfl) rfl)
  have z1 : VT E W ⟨[], [], fun b _ => b < W.heap.size⟩ (.dat .str a1) v1 := by
    obtain ⟨_, rfl⟩ := okWide_string Tryz.underlying9 (hval 1 9 v1 rfl rfl)
    exact l1
  have lt2 : ∀ x ∈ p2, x.block < W.heap.size := by obtain ⟨m, hm⟩ := h2; exact DataW.trod_lt m _ _ _ hm
  obtain ⟨a2, q2, l2⟩ := Opens.arg (fun fuel => (opens_int Tryz.underlying3 fuel)) h2 (wAt hWt 2 (by kernel_rfl) rfl)
  have z2 : VT E W ⟨[], [], fun b _ => b < W.heap.size⟩ (.dat (.int .i64) a2) v2 := by
    obtain ⟨_, rfl⟩ := okWide_int Tryz.underlying3 (hval 2 3 v2 rfl rfl)
    exact l2
  clear hA0 hval0
  refine (law_calls (calls hm a0 q0 a1 q1 a2 q2) (entersOf Tryz.func8 (by kernel_rfl) (by kernel_rfl)) (tabs_of_laid hL) (pins_of_laid hL hSh) (args := #[v0, v1, v2]) (.cons z0 (.cons z1 (.cons z2 .nil)))).mono fun e W' ⟨he, bel⟩ => ?_
  subst he
  exact ⟨_, rfl, _, _, _, [], _, [], hW', trodAll_mk1 (shut_bool Tryz.underlying4 _), (trodAll_cons_mk (Below.trod laidOut (by kernel_rfl) (of_decide_eq_true (by kernel_rfl)) h0 bel lt0) (trodAll_cons_mk (Below.trod laidOut (by kernel_rfl) (of_decide_eq_true (by kernel_rfl)) h1 bel lt1) (trodAll_cons_mk (Below.trod laidOut (by kernel_rfl) (of_decide_eq_true (by kernel_rfl)) h2 bel lt2) trodAll_mk0))), rfl, bel.frame _, fun h => by cases h⟩
theorem row (hm : ∀ (a0 : List (List UInt8)) (q0 : (a0.length ≤ maxLen ∧ ∀ y, y ∈ a0 → y.length ≤ 140737488351232)) (a1 : List UInt8) (q1 : a1.length ≤ 140737488351232) (a2 : Int) (q2 : (Lit.int .i64 a2).wf = true), ∃ F, law31_UtilEnds F a0 a1 a2 = some true) : Rows.UtilEndsSaid :=
  OpenClaim.holds_of_wide 8 Tryz.f8 rfl rfl rfl rfl rfl rfl rfl ⟨rfl, rfl, rfl, rfl, rfl⟩ rfl rfl rfl rfl rfl utilEnds_fn Tryz.func8 utilEnds_closed
    (of_decide_eq_true (by kernel_rfl)) (by unfold Func.isWrapper; first | (rw [if_pos (by decide +kernel)]; kernel_rfl) | (rw [if_neg (by decide +kernel)]; exact ⟨rfl, rfl⟩))
    (fun os started H enc _ => lifted hm os started H enc)
theorem card (hm : ∀ (a0 : List (List UInt8)) (q0 : (a0.length ≤ maxLen ∧ ∀ y, y ∈ a0 → y.length ≤ 140737488351232)) (a1 : List UInt8) (q1 : a1.length ≤ 140737488351232) (a2 : Int) (q2 : (Lit.int .i64 a2).wf = true), ∃ F, law31_UtilEnds F a0 a1 a2 = some true) : Rows.UtilEndsCardSaid :=
  Claim7.holds_tied_plain_at .later [] [.data, .data, .data, .data, .sentinel, .sentinel, .widerDeep, .pinned] true (true, "ce234dee472abb3233f8b1294aa0d25522ab3b3ad3bdb5cf72057904d8aaf208") true
    (row hm) (fun _ h => by cases h) utilEnds_wf (fun _ h => by cases h) utilEnds_row_tie rfl ⟨rfl, rfl⟩ seat_main rfl
    utilEnds_hl
    utilEnds_goes
end utilEndsLaw
end Go.Proofs.YteagcbkkonabbaaGreatDoor
