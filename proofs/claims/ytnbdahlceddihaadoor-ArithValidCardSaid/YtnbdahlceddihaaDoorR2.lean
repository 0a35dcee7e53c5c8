/-
  RT, part 2: rows of cells, a slot written, operands, parts of data by offset.
-/
import Derived.Test.YtnbdahlceddihaaDoorR1
namespace Go.RT
set_option linter.unusedVariables false

variable {E : TEnv}

section LD
variable {w : World} {pr : Nat → Nat → Prop}

theorem LD.length : ∀ {vs : List Value} {ds : List DV}, LD w pr vs ds → vs.length = ds.length
  | [], [], _ => rfl
  | _ :: _, _ :: _, h => by simp [LD.length h.2]
  | [], _ :: _, h => h.elim
  | _ :: _, [], h => h.elim
theorem LD.one : ∀ {vs : List Value} {ds : List DV}, LD w pr vs ds → ∀ u, u ∈ vs → u.oneCell' = true
  | [], [], _, u, hu => by cases hu
  | v :: vs, d :: ds, h, u, hu => by
    rcases List.mem_cons.1 hu with rfl | hu
    · exact h.1.one
    · exact LD.one h.2 u hu
  | [], _ :: _, h, _, _ => h.elim
  | _ :: _, [], h, _, _ => h.elim
theorem LD.append : ∀ {vs us : List Value} {ds es : List DV}, LD w pr vs ds → LD w pr us es → LD w pr (vs ++ us) (ds ++ es)
  | [], _, [], _, _, h => h
  | _ :: _, _, _ :: _, _, h, h' => ⟨h.1, LD.append h.2 h'⟩
  | [], _, _ :: _, _, h, _ => h.elim
  | _ :: _, _, [], _, h, _ => h.elim
theorem LD.take : ∀ (n : Nat) {vs : List Value} {ds : List DV}, LD w pr vs ds → LD w pr (vs.take n) (ds.take n)
  | 0, _, _, _ => by simp [LD]
  | _ + 1, [], [], _ => trivial
  | n + 1, _ :: _, _ :: _, h => ⟨h.1, LD.take n h.2⟩
  | _ + 1, [], _ :: _, h => h.elim
  | _ + 1, _ :: _, [], h => h.elim
theorem LD.drop : ∀ (n : Nat) {vs : List Value} {ds : List DV}, LD w pr vs ds → LD w pr (vs.drop n) (ds.drop n)
  | 0, _, _, h => h
  | _ + 1, [], [], _ => trivial
  | n + 1, _ :: _, _ :: _, h => LD.drop n h.2
  | _ + 1, [], _ :: _, h => h.elim
  | _ + 1, _ :: _, [], h => h.elim
theorem LD.split : ∀ {ds es : List DV} {vs : List Value}, LD w pr vs (ds ++ es) → ∃ us ts, vs = us ++ ts ∧ LD w pr us ds ∧ LD w pr ts es
  | [], _, vs, h => ⟨[], vs, rfl, trivial, h⟩
  | d :: ds, es, v :: vs, h => by
    obtain ⟨us, ts, rfl, h1, h2⟩ := LD.split (ds := ds) h.2
    exact ⟨v :: us, ts, rfl, ⟨h.1, h1⟩, h2⟩
  | _ :: _, _, [], h => h.elim
theorem LD.single {v : Value} {d : DV} (h : VD w pr v d) : LD w pr [v] [d] := ⟨h, trivial⟩
theorem LD.of_single {v : Value} {d : DV} (h : LD w pr [v] [d]) : VD w pr v d := h.1
end LD

section VD
variable {w : World} {pr : Nat → Nat → Prop} {v : Value}
theorem VD.int_inv {k : IntKind} {n : Int} (h : VD w pr v (.int k n)) : v = .int k n := by cases h; rfl
theorem VD.bool_inv {b : Bool} (h : VD w pr v (.bool b)) : v = .bool b := by cases h; rfl
theorem VD.str_inv {l : List UInt8} (h : VD w pr v (.str l)) : v = mkStr l := by cases h; rfl
end VD

section VT
variable {w : World} {G : Ghost} {v : Value}
theorem VT.int_inv {k : IntKind} {n : Int} (h : VT E w G (.dat (.int k) n) v) : v = .int k n := by
  simp only [VT, Ty.isAgg, Ty.cells] at h
  exact h.of_single.int_inv
theorem VT.bool_inv {b : Bool} (h : VT E w G (.dat .bool b) v) : v = .bool b := by
  simp only [VT, Ty.isAgg, Ty.cells] at h
  exact h.of_single.bool_inv
theorem VT.str_inv {l : List UInt8} (h : VT E w G (.dat .str l) v) : v = mkStr l := by
  simp only [VT, Ty.isAgg, Ty.cells] at h
  exact h.of_single.str_inv
theorem VT.int (w : World) (G : Ghost) (k : IntKind) (n : Int) : VT E w G (.dat (.int k) n) (.int k n) := by
  simp only [VT, Ty.isAgg, Ty.cells]
  exact .single (.int k n)
theorem VT.bool (w : World) (G : Ghost) (b : Bool) : VT E w G (.dat .bool b) (.bool b) := by
  simp only [VT, Ty.isAgg, Ty.cells]
  exact .single (.bool b)
theorem VT.str (w : World) (G : Ghost) (l : List UInt8) : VT E w G (.dat .str l) (mkStr l) := by
  simp only [VT, Ty.isAgg, Ty.cells]
  exact .single (.str l)
end VT

/-- Constants. -/
def TV.ofV : Value → TV E
  | .int k n => .dat (.int k) n
  | .bool b => .dat .bool b
  | .string s => .dat .str s.data.toList
  | v => .val v
theorem VT_ofV (w : World) (G : Ghost) (v : Value) : VT E w G (TV.ofV v) v := by
  cases v <;> first | exact .int _ _ _ _ | exact .bool _ _ _ | exact .str w G _ | (simp only [TV.ofV, VT])

def TS.at (st : TS E) (i : Nat) : TV E := st.t.getD i .any
def TS.ev (st : TS E) : Operand → TV E
  | .tmp t => st.at t
  | .const v => .ofV v
  | .global _ => .any
  | .func f => .func (.func f) []

def setT (l : List (TV E)) (dst : Option Nat) (d : TV E) : List (TV E) :=
  match dst with
  | some i => l.set i d
  | none => l

section Rel
variable {w0 w : World} {G0 G : Ghost} {st : TS E} {a : Act}

theorem Rel.ev (h : Rel E w0 G0 st a w G) (x : Operand) : VT E w G (st.ev x) (a.eval x) := by
  cases x with
  | tmp t =>
    simp only [TS.ev, TS.at, List.getD]
    cases ht : st.t[t]? with
    | none => simp only [Option.getD_none, VT]
    | some d => exact h.tmps t d ht
  | const v => exact VT_ofV w G v
  | global g => simp only [TS.ev, VT]
  | func f =>
    simp only [TS.ev, VT]
    exact ⟨#[], rfl, by simp [VTs]⟩

theorem put_size (a : Act) (dst : Option Nat) (v : Value) : (a.put dst v).tmps.size = a.tmps.size := by cases dst <;> simp [Act.put]
theorem put_defers (a : Act) (dst : Option Nat) (v : Value) : (a.put dst v).defers = a.defers := by cases dst <;> simp [Act.put]
theorem put_getD (a : Act) (dst : Option Nat) (v : Value) (j : Nat) : (a.put dst v).tmps.getD j undef = if dst = some j ∧ j < a.tmps.size then v else a.tmps.getD j undef := by
  cases dst with
  | none => simp [Act.put]
  | some i =>
    simp only [Act.put, Option.some.injEq, Array.getD_eq_getD_getElem?, Array.getElem?_setIfInBounds]
    by_cases hij : i = j
    · subst hij
      by_cases hi : i < a.tmps.size <;> simp [hi]
    · simp [hij]

theorem Rel.put (h : Rel E w0 G0 st a w G) {v : Value} {d : TV E} (hv : VT E w G d v) (dst : Option Nat) :
    Rel E w0 G0 { st with t := setT st.t dst d } (a.put dst v) w G := by
  refine ⟨h.evol, ?_, ?_, ?_, h.boxes, h.fix, h.pins⟩
  · rw [put_size, h.size]; cases dst <;> simp [setT]
  · intro j d' hj
    rw [put_getD, h.size]
    cases dst with
    | none =>
      rw [if_neg (by simp)]
      exact h.tmps j d' hj
    | some i =>
      simp only [setT, List.getElem?_set] at hj
      by_cases hij : i = j
      · subst hij
        by_cases hl : i < st.t.length
        · rw [if_pos ⟨rfl, hl⟩]
          simp [hl] at hj
          subst hj
          exact hv
        · simp [hl] at hj
      · rw [if_neg (by simp [hij])]
        rw [if_neg hij] at hj
        exact h.tmps j d' hj
  · rw [put_defers]; exact h.defers
end Rel

end Go.RT
