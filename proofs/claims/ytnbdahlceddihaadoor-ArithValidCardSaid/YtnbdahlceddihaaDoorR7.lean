/-
  RT, part 7: loads, fields, addresses of fields and of elements.
-/
import Derived.Test.YtnbdahlceddihaaDoorR6
namespace Go.RT
set_option linter.unusedVariables false

variable {E : TEnv}
section
variable {P : Program} {w0 : World} {G0 : Ghost} {st : TS E} {a : Act} {w : World} {G : Ghost} {o : Oper}

theorem getD_eq {vs : List Value} {l : Nat} {u : Value} (h : vs[l]? = some u) : vs.getD l undef = u := by simp [List.getD, h]

/-- A load out of a row of known cells. -/
theorem run_load_row {t : TypeId} {i : TI} (ht : tinfo P t = some i) {b o' off : Nat} {vs : List Value} (hc : ∀ (l : Nat) u, vs[l]? = some u → w.cell? ⟨b, o' + l, none⟩ = some u)
    {d : TV E} (hp : Part E w G vs i.isAgg i.size off d) : ∃ v, VT E w G d v ∧ ∀ w', Same w w' → (Instr.loadAt t (.pointer (some ⟨b, o' + off, none⟩))).run P w' = .ok v w' := by
  have hc' : ∀ l, l < vs.length → w.cell? ⟨b, o' + l, none⟩ = some (vs.getD l undef) := fun l hl => by
    have := List.getElem?_eq_getElem hl
    rw [getD_eq this]; exact hc l _ this
  unfold Part at hp
  cases ha : i.isAgg <;> rw [ha] at hp <;> simp only [cond_true, cond_false] at hp
  · obtain ⟨u, hu, hv⟩ := hp
    refine ⟨u, hv, fun w' hs => ?_⟩
    have hl := (List.getElem?_eq_some_iff.1 hu).1
    rw [run_load_part ht b o' vs.length (fun l => vs.getD l undef) hc' off (by rw [ha]; exact hl) w' hs, ha]
    simp only [cond_false, getD_eq hu]
  · obtain ⟨hl, hv⟩ := hp
    refine ⟨_, hv, fun w' hs => ?_⟩
    rw [run_load_part ht b o' vs.length (fun l => vs.getD l undef) hc' off (by rw [ha]; exact hl) w' hs, ha]
    simp only [cond_true]
    congr 3
    apply List.ext_getElem
    · simp; omega
    · intro n h1 h2
      simp at h1 h2
      simp [List.getD, show off + n < vs.length by omega]

theorem gives_load_cel (hE : E.Ok) (hr : Rel E w0 G0 st a w G) {t : TypeId} {x : Operand} {i : TI} (ho : o.op = .load t x) (ht : tinfo P t = some i)
    {T : Ty} {y : T.den E.D} {off : Nat} (hd : st.ev x = .cel T y off) {d : TV E} (hp : TV.part T y i.isAgg i.size off = some d) : Gives P a w G o d := by
  have hv := hr.ev x
  rw [hd] at hv
  simp only [VT] at hv
  obtain ⟨b, o', c, he, h1, h2⟩ := hv
  obtain ⟨v, hv, hrun⟩ := run_load_row (P := P) ht (fun l u hl => (h2 l u hl).2) (part_sound hE h1 hp)
  refine gives_v (f := fun ρ => Instr.loadAt t (ρ x)) (by simp [execOp, ho]) ⟨v, hv, fun w' hs => ?_⟩
  rw [he]
  exact hrun w' (hs (by rw [ho]; rfl))

theorem Rel.box (hr : Rel E w0 G0 st a w G) {r b : Nat} (hb : G.i[r]? = some b) {x : TBox E} (hx : st.H[r]? = some x) : BoxOk E w G b x := hr.boxes.box r b x hb hx

theorem gives_load_box (hE : E.Ok) (hr : Rel E w0 G0 st a w G) {t : TypeId} {x : Operand} {i : TI} (ho : o.op = .load t x) (ht : tinfo P t = some i)
    {r off : Nat} (hd : st.ev x = .ptr r off) {t' : TypeId} {cs : List (TV E)} (hb : st.H[r]? = some (.cells t' cs)) {ty : Option Ty} {d : TV E}
    (hp : partC E ty cs i.isAgg i.size off = some d) : Gives P a w G o d := by
  have hv := hr.ev x
  rw [hd] at hv
  simp only [VT] at hv
  obtain ⟨b, he, hat⟩ := hv
  obtain ⟨vs, hh, h1, h2⟩ := hr.box hat hb
  obtain ⟨v, hv, hrun⟩ := run_load_row (P := P) (b := b) (o' := 0) ht (fun l u hl => by
    rw [cell_of_row w b (0 + l) vs t' (0, 0) hh]
    simpa using hl) (partC_sound hE h2 (fun u hu => h1 u (by simpa using hu)) hp)
  refine gives_v (f := fun ρ => Instr.loadAt t (ρ x)) (by simp [execOp, ho]) ⟨v, hv, fun w' hs => ?_⟩
  rw [he]
  have := hrun w' (hs (by rw [ho]; rfl))
  simpa using this
end

end Go.RT
