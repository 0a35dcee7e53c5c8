import Derived.Test.YteagcbkkonabbaaGreatDoorRi
import Derived.Test.YteagcbkkonabbaaGreatDoorZ2
import Derived.Test.YteagcbkkonabbaaGreatDoorRows
import Derived.Test.YteagcbkkonabbaaGreatDoorCards
import Derived.Test.YteagcbkkonabbaaGreatDoorTie
import Derived.Test.YteagcbkkonabbaaGreatDoorRl
import Derived.WalkKit
import Derived.ProofKit
import Derived.OpenShut
import Derived.ShutString
import Derived.ChangeOld
import Derived.Below
import Derived.LaidLaws
import Derived.LaidHandle
import Derived.Lay
import Derived.Shelf.Vars
import Derived.HandedShaped
import Derived.Stop.LaidErr
import Derived.Stop.Joined
import Derived.JoinedOf
import Derived.SevenTiedAt
import Derived.Lib.LaidTab
namespace Go.Proofs.YteagcbkkonabbaaGreatDoor
open Go.ChangeShapes Go.WideShapes Go.ChangeAt Go.RowKit Go.RT
set_option linter.all false
theorem own : ownKnob Tryz.prog.godebug = none := by kernel_rfl
theorem laidOut : laidOutB Tryz.prog = true := by kernel_rfl
abbrev laidL : List (String × DataW Unit) := [("math/bits.deBruijn32tab", Rows.laid_math_bits_deBruijn32tab), ("math/bits.deBruijn64tab", Rows.laid_math_bits_deBruijn64tab), ("internal/strconv.uint64pow10", Rows.laid_internal_strconv_uint64pow10), ("unicode/utf8.acceptRanges", Rows.laid_unicode_utf8_acceptRanges), ("strconv.ErrRange", Rows.laid_strconv_ErrRange), ("strconv.ErrSyntax", Rows.laid_strconv_ErrSyntax), ("jobshell/util.names", Rows.laid_jobshell_util_names), ("unicode/utf8.first", Rows.laid_unicode_utf8_first)]
theorem laid_filter : (laidL.filter fun x => x.2.handleName?.isNone) = laidL := by kernel_rfl
theorem cells_of_cell {W : World} {g : Nat} {v : Value} (h : W.cell? ⟨g, 0, none⟩ = some v) : ∃ cs t m, W.heap[g]? = some (.cells cs t m) ∧ cs[0]? = some v := by
  unfold World.cell? at h
  split at h
  · rename_i cs t m hh
    exact ⟨cs, t, m, hh, by simpa using h⟩
  · cases h
theorem pins_of_laid {W : World} (h : laidMetH Tryz.prog laidL W) (hs : W.ShapedOpen Tryz.prog) : ∀ b p, E.gb b = some p → ∃ cs t m, W.heap[b]? = some (.cells cs t m) ∧ p cs := by
  have h' : laidMet Tryz.prog laidL W := h
  intro b p hb
  have hb : (cond (Nat.beq b 1) (some (fun cs : Array Value => cs = (Lib.pow10Tab.map fun z => Value.int .u64 z).toArray)) (cond (Nat.beq b 4) (some (fun cs : Array Value => ∃ m, cs[0]? = some (Value.int .i64 m))) none)) = some p := hb
  cases he : Nat.beq b 1 <;> rw [he] at hb <;> simp only [cond_true, cond_false] at hb
  rotate_left
  · cases hb
    have := Nat.eq_of_beq_eq_true he
    subst this
    have ht : Lib.TabIs Tryz.prog W "internal/strconv.uint64pow10" .u64 Lib.pow10Tab := Lib.tabIs_of_head (rest := _) (g := 1) (t := 109) (e := 79) (n := 20) (by kernel_rfl) (by kernel_rfl) Tryz.underlying109 Tryz.underlying79 (by kernel_rfl) (by kernel_rfl) h'.tail.tail
    unfold Lib.TabIs World.var? at ht
    rw [show Tryz.prog.globalNamed "internal/strconv.uint64pow10" = some 1 by kernel_rfl] at ht
    simp only [Option.bind_some] at ht
    split at ht
    · rename_i cs' t m hh
      cases ht
      exact ⟨_, t, m, hh, rfl⟩
    · cases ht
  cases he2 : Nat.beq b 4 <;> rw [he2] at hb <;> simp only [cond_true, cond_false] at hb
  · cases hb
  cases hb
  have := Nat.eq_of_beq_eq_true he2
  subst this
  obtain ⟨m, hm⟩ := cell_of_shapedOpen_int (g := 4) (t := 3) (k := .i64) (zero := #[.int .i64 0]) hs (of_decide_eq_true (by kernel_rfl)) (by kernel_rfl) rfl (by kernel_rfl) (by kernel_rfl) Tryz.underlying3
  obtain ⟨cs, t, m2, q1, q2⟩ := cells_of_cell hm
  exact ⟨cs, t, m2, q1, m, q2⟩
theorem tabs_of_laid {W : World} (h : laidMetH Tryz.prog laidL W) : ∀ b c, E.gt b = some c → TabOk E W (fun b _ => b < W.heap.size) b c.1 c.2 := by
  have h' : laidMet Tryz.prog laidL W := h
  intro b c hb
  have hb : Egt b = some c := hb
  unfold Egt at hb
  cases he : Nat.beq b 0 <;> rw [he] at hb <;> simp only [cond_true, cond_false] at hb
  rotate_left
  · cases hb
    have := Nat.eq_of_beq_eq_true he
    subst this
    have ht : TabIsS Tryz.prog W "jobshell/util.names" tab0 := tabIsS_of_head (rest := _) (g := 0) (t := 53) (e := 9) (n := 28) (by kernel_rfl) (by kernel_rfl) Tryz.underlying53 Tryz.underlying9 (by kernel_rfl) (by kernel_rfl) h'.tail.tail.tail.tail.tail.tail
    unfold TabIsS World.var? at ht
    rw [show Tryz.prog.globalNamed "jobshell/util.names" = some 0 by kernel_rfl] at ht
    simp only [Option.bind_some] at ht
    split at ht
    · rename_i cs' t m hh
      cases ht
      exact tabOk_strs hh
    · cases ht
  cases he : Nat.beq b 5 <;> rw [he] at hb <;> simp only [cond_true, cond_false] at hb
  rotate_left
  · cases hb
    have := Nat.eq_of_beq_eq_true he
    subst this
    have ht : Lib.TabIs Tryz.prog W "math/bits.deBruijn32tab" .u8 tab5 := Lib.tabIs_of_head (rest := _) (g := 5) (t := 171) (e := 5) (n := 32) (by kernel_rfl) (by kernel_rfl) Tryz.underlying171 Tryz.underlying5 (by kernel_rfl) (by kernel_rfl) h'
    unfold Lib.TabIs World.var? at ht
    rw [show Tryz.prog.globalNamed "math/bits.deBruijn32tab" = some 5 by kernel_rfl] at ht
    simp only [Option.bind_some] at ht
    split at ht
    · rename_i cs' t m hh
      cases ht
      exact tabOk_ints hh
    · cases ht
  cases he : Nat.beq b 6 <;> rw [he] at hb <;> simp only [cond_true, cond_false] at hb
  rotate_left
  · cases hb
    have := Nat.eq_of_beq_eq_true he
    subst this
    have ht : Lib.TabIs Tryz.prog W "math/bits.deBruijn64tab" .u8 tab6 := Lib.tabIs_of_head (rest := _) (g := 6) (t := 172) (e := 5) (n := 64) (by kernel_rfl) (by kernel_rfl) Tryz.underlying172 Tryz.underlying5 (by kernel_rfl) (by kernel_rfl) h'.tail
    unfold Lib.TabIs World.var? at ht
    rw [show Tryz.prog.globalNamed "math/bits.deBruijn64tab" = some 6 by kernel_rfl] at ht
    simp only [Option.bind_some] at ht
    split at ht
    · rename_i cs' t m hh
      cases ht
      exact tabOk_ints hh
    · cases ht
  cases hb
noncomputable def laidWorld (os : Os) : World := World.laidAll Tryz.prog os laidL
set_option maxRecDepth 100000 in
theorem laidWorld_met (os : Os) (args : Array Value) : laidMetH Tryz.prog laidL ((laidWorld os).forCall (fun _ _ => 0) ⟨#[], args, []⟩).memory :=
  laidMetH_of_parts (by rw [laid_filter]; exact laidMet_laidAll args (by kernel_rfl) (by kernel_rfl)) (by kernel_rfl)
theorem handed_shaped {H : Type} {enc : TypeId × Value → H} {a : Assume} {C : Checked} {os : Os} {f : FuncId} {fn : Func} {s : ChangeSpec} {conds : List PathCond} {apart fresh handsOn again : Bool} {X : World → Array Value → Prop}
    (hX : ∀ (w w' : World) (args : Array Value), w.heap = w'.heap → X w args → X w' args)
    (own : ownKnob C.prog.godebug = none) (started : os.Started) (noInit : C.prog.inits.idxOf? f = none) (hfn : C.prog.funcs[f]? = some fn)
    (witness : ∃ (w : World) (tape : Tape) (i : Input), w.os = os ∧ (w.forCall tape i).Shaped C.prog ∧ i.vars = [] ∧ Input.okWide C.prog (w.forCall tape i) .any w.heap.size f i ∧
      ((s.pre enc C.prog fn conds apart (w.forCall tape i).memory i.args ∧ X (w.forCall tape i).memory i.args) ∧ sizedMet enc C.prog fn (OpenSpec.ofChange s) apart (w.forCall tape i).memory i.args) ∧ a.holds C.prog (lone (Frame.enter C.prog f i.args .normal) [] (w.forCall tape i)))
    (contract : ∀ (W : World) (base : Nat) (args : Array Value) (ds gs : List (DataW H)) (before : List MemPlace),
      (∀ (j : Nat) t v, fn.params[j]? = some t → args[j]? = some v → Value.okWide C.prog W .any base t v) →
      DataW.Whole enc C.prog fn.params.toList s.vars apart W args.toList ds gs before →
      X W args → W.ShapedOpen C.prog → (DataW.weightsEach C.prog (fn.params.toList ++ (OpenSpec.ofChange s).bare.plain.varTypes C.prog) (ds ++ gs)).all (· ≤ reachBytes) = true →
      Calls C.prog f args W fun e W' => ∃ v, e = .returned v ∧ s.post enc C.prog fn apart fresh handsOn again W args v W') :
    ReturnsInHanded a C os f .any (fun w args => (s.pre enc C.prog fn conds apart w args ∧ X w args) ∧ sizedMet enc C.prog fn (OpenSpec.ofChange s) apart w args) (s.post enc C.prog fn apart fresh handsOn again) := by
  refine returnsInHanded_of_calls own started noInit witness ?_
  intro w tape i _ hsh _ hok hpre _
  obtain ⟨_, _, _, fn', hfn', _, _, _, _, hval⟩ := hok
  have e : fn' = fn := Option.some.inj (hfn'.symm.trans hfn)
  subst e
  obtain ⟨⟨⟨ds, gs, before, hw, hc⟩, hx⟩, hz⟩ := hpre
  have hw' := DataW.Whole.of_heap (w' := w.forCall tape i) (by rfl) hw
  refine (contract (w.forCall tape i) w.heap.size i.args ds gs before hval hw' (hX _ _ _ (by rfl) hx) hsh (hz.weights hw)).mono fun e W' ⟨v, he, hp⟩ => ?_
  subst he
  exact ChangeSpec.post_blind hp
theorem opS22 {H : Type} {henc : TypeId × Value → H} {W : World} (fuel : Nat) : OpensF henc Tryz.prog W fuel 22 (fun vs : List (List UInt8) => [DV.slice 1 (vs.map (fun l : List UInt8 => [DV.str l]))]) (fun vs => vs.length ≤ maxLen ∧ ∀ y, y ∈ vs → y.length ≤ 140737488351232) := by
  cases fuel with
  | zero => intro cs d ps h; cases h
  | succ fuel => exact opens_slice (k := 1) (enc := (fun l : List UInt8 => [DV.str l])) Tryz.underlying22 (by kernel_rfl) (by decide) (fun _ => rfl) (opens_string Tryz.underlying9 fuel)
end Go.Proofs.YteagcbkkonabbaaGreatDoor
