import Derived.Test.YtmklhkmeampamaaGreatDoorRi
import Derived.Test.YtmklhkmeampamaaGreatDoorZ2
import Derived.Test.YtmklhkmeampamaaGreatDoorRows
import Derived.Test.YtmklhkmeampamaaGreatDoorCards
import Derived.Test.YtmklhkmeampamaaGreatDoorTie
import Derived.WalkKit
import Derived.ProofKit
import Derived.OpenShut
import Derived.ShutString
import Derived.ChangeOld
import Derived.Below
import Derived.LaidLaws
import Derived.LaidHandle
import Derived.Lay
import Derived.Shelf.Vars
import Derived.HandedShaped
import Derived.Stop.LaidErr
import Derived.Stop.Joined
import Derived.JoinedOf
import Derived.SevenTiedAt
import Derived.Lib.LaidTab
namespace Go.Proofs.YtmklhkmeampamaaGreatDoor
open Go.ChangeShapes Go.WideShapes Go.ChangeAt Go.RowKit Go.RT
set_option linter.all false
theorem own : ownKnob Tryz.prog.godebug = none := by kernel_rfl
theorem laidOut : laidOutB Tryz.prog = true := by kernel_rfl
abbrev laidL : List (String × DataW Unit) := [("unicode/utf8.acceptRanges", Rows.laid_unicode_utf8_acceptRanges), ("unicode/utf8.first", Rows.laid_unicode_utf8_first)]
theorem laid_filter : (laidL.filter fun x => x.2.handleName?.isNone) = laidL := by kernel_rfl
theorem cells_of_cell {W : World} {g : Nat} {v : Value} (h : W.cell? ⟨g, 0, none⟩ = some v) : ∃ cs t m, W.heap[g]? = some (.cells cs t m) ∧ cs[0]? = some v := by
  unfold World.cell? at h
  split at h
  · rename_i cs t m hh
    exact ⟨cs, t, m, hh, by simpa using h⟩
  · cases h
theorem pins_of_laid {W : World} (h : laidMetH Tryz.prog laidL W) (hs : W.ShapedOpen Tryz.prog) : ∀ b p, E.gb b = some p → ∃ cs t m, W.heap[b]? = some (.cells cs t m) ∧ p cs := by
  have h' : laidMet Tryz.prog laidL W := h
  intro b p hb
  have hb : (cond (Nat.beq b 0) (some (fun cs : Array Value => ∃ m, cs[0]? = some (Value.int .i64 m))) none) = some p := hb
  cases he2 : Nat.beq b 0 <;> rw [he2] at hb <;> simp only [cond_true, cond_false] at hb
  · cases hb
  cases hb
  have := Nat.eq_of_beq_eq_true he2
  subst this
  obtain ⟨m, hm⟩ := cell_of_shapedOpen_int (g := 0) (t := 3) (k := .i64) (zero := #[.int .i64 0]) hs (of_decide_eq_true (by kernel_rfl)) (by kernel_rfl) rfl (by kernel_rfl) (by kernel_rfl) Tryz.underlying3
  obtain ⟨cs, t, m2, q1, q2⟩ := cells_of_cell hm
  exact ⟨cs, t, m2, q1, m, q2⟩
theorem tabs_of_laid {W : World} (h : laidMetH Tryz.prog laidL W) : ∀ b c, E.gt b = some c → TabOk E W (fun b _ => b < W.heap.size) b c.1 c.2 := by
  have h' : laidMet Tryz.prog laidL W := h
  intro b c hb
  have hb : Egt b = some c := hb
  unfold Egt at hb
  cases hb
noncomputable def laidWorld (os : Os) : World := World.laidAll Tryz.prog os laidL
set_option maxRecDepth 100000 in
theorem laidWorld_met (os : Os) (args : Array Value) : laidMetH Tryz.prog laidL ((laidWorld os).forCall (fun _ _ => 0) ⟨#[], args, []⟩).memory :=
  laidMetH_of_parts (by rw [laid_filter]; exact laidMet_laidAll args (by kernel_rfl) (by kernel_rfl)) (by kernel_rfl)
theorem handed_shaped {H : Type} {enc : TypeId × Value → H} {a : Assume} {C : Checked} {os : Os} {f : FuncId} {fn : Func} {s : ChangeSpec} {conds : List PathCond} {apart fresh handsOn again : Bool} {X : World → Array Value → Prop}
    (hX : ∀ (w w' : World) (args : Array Value), w.heap = w'.heap → X w args → X w' args)
    (own : ownKnob C.prog.godebug = none) (started : os.Started) (noInit : C.prog.inits.idxOf? f = none) (hfn : C.prog.funcs[f]? = some fn)
    (witness : ∃ (w : World) (tape : Tape) (i : Input), w.os = os ∧ (w.forCall tape i).Shaped C.prog ∧ i.vars = [] ∧ Input.okWide C.prog (w.forCall tape i) .any w.heap.size f i ∧
      ((s.pre enc C.prog fn conds apart (w.forCall tape i).memory i.args ∧ X (w.forCall tape i).memory i.args) ∧ sizedMet enc C.prog fn (OpenSpec.ofChange s) apart (w.forCall tape i).memory i.args) ∧ a.holds C.prog (lone (Frame.enter C.prog f i.args .normal) [] (w.forCall tape i)))
    (contract : ∀ (W : World) (base : Nat) (args : Array Value) (ds gs : List (DataW H)) (before : List MemPlace),
      (∀ (j : Nat) t v, fn.params[j]? = some t → args[j]? = some v → Value.okWide C.prog W .any base t v) →
      DataW.Whole enc C.prog fn.params.toList s.vars apart W args.toList ds gs before →
      X W args → W.ShapedOpen C.prog → (DataW.weightsEach C.prog (fn.params.toList ++ (OpenSpec.ofChange s).bare.plain.varTypes C.prog) (ds ++ gs)).all (· ≤ reachBytes) = true →
      Calls C.prog f args W fun e W' => ∃ v, e = .returned v ∧ s.post enc C.prog fn apart fresh handsOn again W args v W') :
    ReturnsInHanded a C os f .any (fun w args => (s.pre enc C.prog fn conds apart w args ∧ X w args) ∧ sizedMet enc C.prog fn (OpenSpec.ofChange s) apart w args) (s.post enc C.prog fn apart fresh handsOn again) := by
  refine returnsInHanded_of_calls own started noInit witness ?_
  intro w tape i _ hsh _ hok hpre _
  obtain ⟨_, _, _, fn', hfn', _, _, _, _, hval⟩ := hok
  have e : fn' = fn := Option.some.inj (hfn'.symm.trans hfn)
  subst e
  obtain ⟨⟨⟨ds, gs, before, hw, hc⟩, hx⟩, hz⟩ := hpre
  have hw' := DataW.Whole.of_heap (w' := w.forCall tape i) (by rfl) hw
  refine (contract (w.forCall tape i) w.heap.size i.args ds gs before hval hw' (hX _ _ _ (by rfl) hx) hsh (hz.weights hw)).mono fun e W' ⟨v, he, hp⟩ => ?_
  subst he
  exact ChangeSpec.post_blind hp
theorem encTFile_len (x : TFile) : (encTFile x).length = 3 := by cases x; simp [encTFile]
instance : Inhabited TFile := ⟨dTFile⟩
def okTFile (v : TFile) : Prop := v.fPath.length ≤ 140737488351232 ∧ True ∧ v.fData.length ≤ 140737488351232
theorem opTFile39 {H : Type} {henc : TypeId × Value → H} {W : World} (fuel : Nat) : OpensF henc Tryz.prog W fuel 39 encTFile okTFile := by
  cases fuel with
  | zero => intro cs d ps h; cases h
  | succ fuel =>
    intro cs d ps h hw
    obtain ⟨hl, hf⟩ := trod_struct_fields Tryz.underlying39 h hw
    obtain ⟨x0, k0, l0⟩ := field_at 0 rfl (k := 1) (by kernel_rfl) (opens_string Tryz.underlying9 fuel) hf
    obtain ⟨x1, k1, l1⟩ := field_at 1 rfl (k := 1) (by kernel_rfl) (opens_bool Tryz.underlying4 fuel) hf
    obtain ⟨x2, k2, l2⟩ := field_at 2 rfl (k := 1) (by kernel_rfl) (opens_string Tryz.underlying9 fuel) hf
    refine ⟨.mk x0 x1 x2, ⟨k0, k1, k2⟩, ?_⟩
    have e : encTFile (.mk x0 x1 x2) = ((fun l : List UInt8 => [DV.str l]) x0) ++ (((fun b : Bool => [DV.bool b]) x1) ++ (((fun l : List UInt8 => [DV.str l]) x2) ++ [])) := by
      simp [encTFile]
    rw [e]
    exact (LD.cat (o := 0) l0 (LD.cat (o := 1) l1 (LD.cat (o := 2) l2 (LD.fin (show cs.length = 3 from hl.trans (by kernel_rfl))))))
theorem opS22 {H : Type} {henc : TypeId × Value → H} {W : World} (fuel : Nat) : OpensF henc Tryz.prog W fuel 22 (fun vs : List TFile => [DV.slice 3 (vs.map encTFile)]) (fun vs => vs.length ≤ maxLen ∧ ∀ y, y ∈ vs → okTFile y) := by
  cases fuel with
  | zero => intro cs d ps h; cases h
  | succ fuel => exact opens_slice (k := 3) (enc := encTFile) Tryz.underlying22 (by kernel_rfl) (by decide) (fun x => encTFile_len x) (opTFile39 fuel)
theorem encTRun_len (x : TRun) : (encTRun x).length = 2 := by cases x; simp [encTRun]
instance : Inhabited TRun := ⟨dTRun⟩
def okTRun (v : TRun) : Prop := v.fText.length ≤ 140737488351232 ∧ (Lit.int .i64 v.fClass).wf = true
theorem opTRun78 {H : Type} {henc : TypeId × Value → H} {W : World} (fuel : Nat) : OpensF henc Tryz.prog W fuel 78 encTRun okTRun := by
  cases fuel with
  | zero => intro cs d ps h; cases h
  | succ fuel =>
    intro cs d ps h hw
    obtain ⟨hl, hf⟩ := trod_struct_fields Tryz.underlying78 h hw
    obtain ⟨x0, k0, l0⟩ := field_at 0 rfl (k := 1) (by kernel_rfl) (opens_string Tryz.underlying9 fuel) hf
    obtain ⟨x1, k1, l1⟩ := field_at 1 rfl (k := 1) (by kernel_rfl) (opens_int Tryz.underlying3 fuel) hf
    refine ⟨.mk x0 x1, ⟨k0, k1⟩, ?_⟩
    have e : encTRun (.mk x0 x1) = ((fun l : List UInt8 => [DV.str l]) x0) ++ (((fun n : Int => [DV.int .i64 n]) x1) ++ []) := by
      simp [encTRun]
    rw [e]
    exact (LD.cat (o := 0) l0 (LD.cat (o := 1) l1 (LD.fin (show cs.length = 2 from hl.trans (by kernel_rfl)))))
theorem opS23 {H : Type} {henc : TypeId × Value → H} {W : World} (fuel : Nat) : OpensF henc Tryz.prog W fuel 23 (fun vs : List TRun => [DV.slice 2 (vs.map encTRun)]) (fun vs => vs.length ≤ maxLen ∧ ∀ y, y ∈ vs → okTRun y) := by
  cases fuel with
  | zero => intro cs d ps h; cases h
  | succ fuel => exact opens_slice (k := 2) (enc := encTRun) Tryz.underlying23 (by kernel_rfl) (by decide) (fun x => encTRun_len x) (opTRun78 fuel)
end Go.Proofs.YtmklhkmeampamaaGreatDoor
