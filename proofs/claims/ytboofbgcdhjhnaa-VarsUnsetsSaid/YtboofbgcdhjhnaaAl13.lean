/-
  AL, part 13: the rules in the form that the printed proofs use.
-/
import Derived.Test.YtboofbgcdhjhnaaAl12
namespace Go.AL
set_option linter.unusedVariables false

def FnOk (P : Program) (f : FuncId) : Prop := ∃ fn code, P.funcs[f]? = some fn ∧ fn.body = some code ∧ (fn.name == "runtime.NumGoroutine") = false

def allOb (st : St) : List Operand → Prop
  | [] => True
  | y :: ys => stripOb (st.ev y) ∧ allOb st ys

theorem allOb_mem {st : St} : ∀ {l : List Operand}, allOb st l → ∀ y, y ∈ l → stripOb (st.ev y)
  | [], _, y, hy => by cases hy
  | x :: l, h, y, hy => by
    rcases List.mem_cons.1 hy with rfl | hy
    · exact h.1
    · exact allOb_mem h.2 y hy

section
variable {P : Program} {ops : Array Oper} {st : St} {Q : AExit → St → Prop}

theorem AWp.regionX {id : Nat} {tg : List Nat} {H : Hints} {l : List Oper} {st' : St} {ob : Prop} (h : execs P tg H l.toArray l st = some (st', ob)) (hob : ob) (hQ : Q .normal st') : AWp P (.region id l.toArray false) st Q := by
  refine AWp.region ?_
  have := AOps.execs (rest := []) h hob (AOps.nil hQ)
  simpa using this

theorem AOps.run (n : Nat) {tg : List Nat} {H : Hints} {l : List Oper} {st' : St} {ob : Prop} (h : Go.AL.execs P tg H ops (l.take n) st = some (st', ob)) (hob : ob) (hrest : AOps P ops (l.drop n) st' Q) : AOps P ops l st Q := by
  have := AOps.execs h hob hrest
  rwa [List.take_append_drop] at this

theorem AOps.call1 {dst : Option Nat} {ty : TypeId} {pos : String} {aft : Array Edge} {x : Operand} {f : FuncId} {args : List Operand} {ats : Array TypeId} {rest : List Oper} {ds : List DV} {d : DV} {ow : List Own} {st' : St}
    (hx : st.ev x = .func (.func f) []) (hk : FnOk P f) (hds : args.map (fun y => strip (st.ev y)) = ds) (hob : allOb st args) (hnr : ds.all norefD = true)
    (h : ACalls P f ds [] (fun r => r = ⟨d, [], [], ow⟩)) (hst : afterCall st dst ⟨d, [], [], ow⟩ = st') (hrest : AOps P ops rest st' Q) :
    AOps P ops (⟨dst, .call ⟨.value x, args.toArray, ats⟩, ty, pos, aft, none⟩ :: rest) st Q := by
  obtain ⟨fn, code, hf, hb, hn⟩ := hk
  refine AOps.pcall rfl rfl rfl hx hf hb hn (ds := ds) hds (fun y hy => allOb_mem hob y hy) hnr h (fun r hr => by rw [hr]) (fun r hr => ?_)
  rw [hr]
  show AOps P ops rest (afterCall st dst ⟨d, [], [], ow⟩) Q
  rw [hst]
  exact hrest

/-- A call whose result is told by a predicate. -/
theorem AOps.callR {dst : Option Nat} {ty : TypeId} {pos : String} {aft : Array Edge} {x : Operand} {f : FuncId} {args : List Operand} {ats : Array TypeId} {rest : List Oper} {ds : List DV} {R : ARes → Prop}
    (hx : st.ev x = .func (.func f) []) (hk : FnOk P f) (hds : args.map (fun y => strip (st.ev y)) = ds) (hob : allOb st args) (hnr : ds.all norefD = true)
    (h : ACalls P f ds [] R) (hN : ∀ r, R r → r.N = []) (hrest : ∀ r, R r → AOps P ops rest (afterCall st dst r) Q) :
    AOps P ops (⟨dst, .call ⟨.value x, args.toArray, ats⟩, ty, pos, aft, none⟩ :: rest) st Q := by
  obtain ⟨fn, code, hf, hb, hn⟩ := hk
  exact AOps.pcall rfl rfl rfl hx hf hb hn (ds := ds) hds (fun y hy => allOb_mem hob y hy) hnr h hN hrest

theorem AOps.call1G {dst : Option Nat} {ty : TypeId} {pos : String} {aft : Array Edge} {x : Operand} {f : FuncId} {args : List Operand} {ats : Array TypeId} {rest : List Oper} {ds : List DV} {d : DV} {st' : St} {j t : Nat} {want g : Bool}
    (hx : st.ev x = .func (.func f) []) (hk : FnOk P f) (hgt : (ops[j]?).bind (·.dst) = some t) (hgc : gcond (st.t.getD t .any) want = some g) (hds : args.map (fun y => strip (st.ev y)) = ds) (hnr : ds.all norefD = true)
    (h : g = true → allOb st args ∧ ACalls P f ds [] (fun r => r = ⟨d, [], [], []⟩))
    (hst : ({ st with t := setO st.t dst (.whn g d), own := st.own.filterMap (renOwn (renDst dst)) } : St) = st') (hrest : AOps P ops rest st' Q) :
    AOps P ops (⟨dst, .call ⟨.value x, args.toArray, ats⟩, ty, pos, aft, some (j, want)⟩ :: rest) st Q := by
  obtain ⟨fn, code, hf, hb, hn⟩ := hk
  intro w0 G0 a w G hE hr
  have hw := wanted_ok (o := ⟨dst, .call ⟨.value x, args.toArray, ats⟩, ty, pos, aft, some (j, want)⟩) hr rfl hgt hgc
  show (if _ then _ else _)
  rw [hw]
  cases g with
  | false =>
    simp only [Bool.false_eq_true, if_false]
    refine hrest w0 G0 _ w G hE ?_
    rw [← hst]
    exact hr.put (.whn _ _ _ _ (fun h => by cases h) (fun _ => rfl)) _ _ (fun x hx l hl => renDst_ok hl)
  | true =>
    simp only [if_true]
    obtain ⟨hob, hc⟩ := h rfl
    have key : AOps P ops (⟨dst, .call ⟨.value x, args.toArray, ats⟩, ty, pos, aft, none⟩ :: rest) st Q := by
      refine AOps.pcall rfl rfl rfl hx hf hb hn (ds := ds) hds (fun y hy => allOb_mem hob y hy) hnr hc (fun r hr => by rw [hr]) (fun r hr => ?_)
      rw [hr]
      intro w0 G0 a w G hE hr
      refine hrest w0 G0 a w G hE ?_
      rw [← hst]
      have hlen : st.t.length = a.tmps.size := by
        have := hr.size
        simp only [afterCall, setO_length] at this
        exact this.symm
      refine ⟨by simp only [setO_length]; exact hlen.symm, fun k hk => ?_, hr.defers, hr.boxes, hr.newL, ?_, ?_⟩
      · simp only [setO_length] at hk
        have h1 := hr.tmps k (by simpa [afterCall, setO_length] using hk)
        simp only [afterCall, setO_getD] at h1
        simp only [setO_getD]
        by_cases hc : dst = some k ∧ k < st.t.length
        · rw [if_pos hc] at h1 ⊢
          exact .whn _ _ _ _ (fun _ => h1) (fun h => by cases h)
        · rw [if_neg hc] at h1 ⊢
          exact h1
      · have h2 := hr.own
        simp only [afterCall] at h2
        intro y hy
        exact h2 y (List.mem_append.2 (.inr hy))
      · have h2 := hr.dist
        simp only [afterCall] at h2
        exact (List.pairwise_append.1 h2).2.1
    have := key w0 G0 a w G hE hr
    have h3 : (if Region.wanted ⟨dst, .call ⟨.value x, args.toArray, ats⟩, ty, pos, aft, none⟩ (yielded ops a.tmps) then _ else _) := this
    rw [if_pos (by rfl)] at h3
    exact h3

end
end Go.AL
