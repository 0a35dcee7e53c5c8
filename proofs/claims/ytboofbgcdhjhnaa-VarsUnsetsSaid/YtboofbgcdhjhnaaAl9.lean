/-
  AL, part 9: one operation carried out on an abstract state (calls of Go functions excepted), and its soundness.
-/
import Derived.Test.YtboofbgcdhjhnaaAl8
namespace Go.AL
set_option linter.unusedVariables false

def renPut (i : Nat) : OLoc → Option OLoc
  | .slot j => if j = i then none else some (.slot j)
  | .tup j m => if j = i then none else some (.tup j m)
  | .cell r off => some (.cell r off)
def renDst : Option Nat → OLoc → Option OLoc
  | some i, l => renPut i l
  | none, l => some l
def renMove (tg : List Nat) (n s i : Nat) : OLoc → Option OLoc
  | .slot j => if j = s ∧ tg.contains i = true ∧ i < n then some (.slot i) else if j = i then none else some (.slot j)
  | .tup j m => if j = s ∧ i < n then some (.tup i m) else if j = i then none else some (.tup j m)
  | .cell r off => some (.cell r off)
def renExtract (n s m i : Nat) : OLoc → Option OLoc
  | .slot j => if j = i then none else some (.slot j)
  | .tup j m' => if j = s ∧ m' = m ∧ i < n then some (.slot i) else if j = i then none else some (.tup j m')
  | .cell r off => some (.cell r off)
def renOf (tg : List Nat) (n : Nat) (op : Op) (dst : Option Nat) (l : OLoc) : Option OLoc :=
  match dst with
  | none => some l
  | some i => match op with
    | .move (.tmp s) => renMove tg n s i l
    | .assign (.tmp s) => renMove tg n s i l
    | .extract (.tmp s) m => renExtract n s m i l
    | _ => renPut i l

/-- Which owners stay when cells of box r are overwritten. -/
def renStore (l : Bool) (r off n : Nat) : OLoc → Option OLoc
  | .cell r' off' => if l = true ∧ r' = r ∧ off ≤ off' ∧ off' < off + n then none else some (.cell r' off')
  | x => some x

def okCell (c : DV) : Bool := oneD c && noref1 c

def rowChk (st : St) (k : Nat) (p : Nat × Operand) : Bool := Nat.beq (cellsD (strip (st.ev p.2))).length k && (cellsD (strip (st.ev p.2))).all okCell
def rowsOb (st : St) (k : Nat) : List (Nat × Operand) → Prop
  | [] => True
  | p :: ps => stripOb (st.ev p.2) ∧ rowChk st k p = true ∧ rowsOb st k ps
def sliceOb (st : St) (k len : Nat) (l : List (Nat × Operand)) : Prop :=
  ((l.map (·.1) == List.range len) && Nat.ble (len * k) 16777216 && Nat.ble 1 k) = true ∧ rowsOb st k l
theorem rowsOb_ok {st : St} {k : Nat} : ∀ {l : List (Nat × Operand)}, rowsOb st k l → ∀ p, p ∈ l → stripOb (st.ev p.2) ∧ (cellsD (strip (st.ev p.2))).length = k ∧ ∀ c, c ∈ cellsD (strip (st.ev p.2)) → okCell c = true
  | [], _, p, hp => by cases hp
  | q :: l, h, p, hp => by
    rcases List.mem_cons.1 hp with rfl | hp
    · obtain ⟨h1, h2, -⟩ := h
      unfold rowChk at h2
      rw [Bool.and_eq_true] at h2
      exact ⟨h1, Nat.eq_of_beq_eq_true h2.1, fun c hc => List.all_eq_true.1 h2.2 c hc⟩
    · exact rowsOb_ok h.2.2 p hp

def pureExec (P : Program) (tg : List Nat) (st : St) (o : Oper) : Option (St × Prop) :=
  match evalOp P st o.op with
  | some (d, ob) => some ({ st with t := setO st.t o.dst d, own := st.own.filterMap (renOwn (renOf tg st.t.length o.op o.dst)) }, ob)
  | none => none

def exec1 (P : Program) (tg : List Nat) (st : St) (o : Oper) : Option (St × Prop) :=
  match o.op with
  | .alloc t => match tinfo P t with
    | some i => some ({ t := setO st.t o.dst (.ptr true st.L.length 0), L := st.L ++ [.cells t (i.zero.cells.toList.map ofV)], S := st.S, own := st.own.filterMap (renOwn (renDst o.dst)) },
        i.zero.cells.toList.all (·.oneCell') = true)
    | none => none
  | .box t x => some ({ t := setO st.t o.dst (.ptr true st.L.length 0), L := st.L ++ [.cells t (cellsD (strip (st.ev x)))], S := st.S, own := st.own.filterMap (renOwn (renDst o.dst)) },
      stripOb (st.ev x) ∧ (cellsD (strip (st.ev x))).all oneD = true)
  | .store t x y => match tinfo P t, strip (st.ev x) with
    | some i, .ptr l r off => match boxAt st l r with
      | .cells t' cs => some ({ setBox st l r (.cells t' (cs.take off ++ cellsD (strip (st.ev y)) ++ cs.drop (off + (cellsD (strip (st.ev y))).length))) with
            t := setO st.t o.dst .any, own := (st.own.filterMap (renOwn (renStore l r off (cellsD (strip (st.ev y))).length))).filterMap (renOwn (renDst o.dst)) },
          stripOb (st.ev x) ∧ stripOb (st.ev y) ∧ ((cellsD (strip (st.ev y))).all oneD && Nat.beq (cellsD (strip (st.ev y))).length i.size && (l || (cellsD (strip (st.ev y))).all outD)) = true ∧ off + i.size ≤ cs.length)
      | _ => none
    | _, _ => none
  | .range t x => match tinfo P t, strip (st.ev x) with
    | some ⟨.string, _, _, _⟩, .str l => some ({ t := setO st.t o.dst (.ptr true st.L.length 0), L := st.L ++ [.iter l 0], S := st.S, own := st.own.filterMap (renOwn (renDst o.dst)) }, stripOb (st.ev x))
    | _, _ => none
  | .buildSlice t len parts => match tinfo P t, o.dst with
    | some ⟨.slice e, _, _, _⟩, some i => match tinfo P e with
      | some ie => some ({ st with
            t := st.t.set i (.slice ie.size (parts.toList.map fun p => cellsD (strip (st.ev p.2)))),
            own := if tg.contains i = true ∧ i < st.t.length then ⟨.slot i, e, ie.size⟩ :: st.own.filterMap (renOwn (renPut i)) else st.own.filterMap (renOwn (renPut i)) },
          sliceOb st ie.size len parts.toList)
      | none => none
    | _, _ => none
  | .makeSlice t x y => match tinfo P t, o.dst, strip (st.ev x), strip (st.ev y) with
    | some ⟨.slice e, _, _, _⟩, some i, .int _ n, .int _ c => match tinfo P e with
      | some ie => some ({ st with
            t := st.t.set i (.slice ie.size (List.replicate n.toNat (ie.zero.cells.toList.map ofV))),
            own := if i < st.t.length then ⟨.slot i, e, ie.size⟩ :: st.own.filterMap (renOwn (renPut i)) else st.own.filterMap (renOwn (renPut i)) },
          stripOb (st.ev x) ∧ stripOb (st.ev y) ∧ 0 ≤ n ∧ n ≤ c ∧ c ≤ 9223372036854775807 ∧ ie.bytes * c ≤ 281474976710656 ∧ (Nat.beq ie.zero.cells.size ie.size && Nat.ble 1 ie.size && ie.zero.cells.toList.all (·.oneCell')) = true)
      | none => none
    | _, _, _, _ => none
  | .call c => match c.callee with
    | .builtin .append => match c.args.toList, c.argTypes.toList, o.dst with
      | [.tmp s, y], [t, tx], some i => match tinfo P t, tinfo P tx with
        | some ⟨.slice e, _, _, _⟩, some ix => match tinfo P e, asSlice (((tinfo P e).map (·.size)).getD 0) (strip (st.ev (.tmp s))), st.own.find? (fun x => x.loc == .slot s) with
          | some ie, some es, some ow => match ix.kind, strip (st.ev y) with
            | .string, .str l => some ({ st with
                  t := st.t.set i (.slice ie.size (es ++ l.map fun b => [.int .u8 b.toNat])),
                  own := if i < st.t.length then ⟨.slot i, e, ie.size⟩ :: (st.own.filter (notSlot s)).filterMap (renOwn (renPut i)) else (st.own.filter (notSlot s)).filterMap (renOwn (renPut i)) },
                stripOb (st.ev (.tmp s)) ∧ stripOb (st.ev y) ∧ (Nat.beq ow.e e && Nat.beq ow.k ie.size && Nat.beq ie.size 1 && Nat.beq ie.zero.cells.size ie.size) = true ∧ es.length + l.length ≤ 9223372036854775807 ∧ (es.length + l.length) * ie.bytes ≤ 140737488355328)
            | .slice _, d => match asSlice ie.size d with
              | some fs => some ({ st with
                  t := st.t.set i (.slice ie.size (es ++ fs)),
                  own := if i < st.t.length then ⟨.slot i, e, ie.size⟩ :: (st.own.filter (notSlot s)).filterMap (renOwn (renPut i)) else (st.own.filter (notSlot s)).filterMap (renOwn (renPut i)) },
                stripOb (st.ev (.tmp s)) ∧ stripOb (st.ev y) ∧ (Nat.beq ow.e e && Nat.beq ow.k ie.size && Nat.ble 1 ie.size && Nat.beq ie.zero.cells.size ie.size) = true ∧ es.length + fs.length ≤ 9223372036854775807 ∧ (es.length + fs.length) * ie.bytes ≤ 140737488355328)
              | none => none
            | _, _ => none
          | _, _, _ => none
        | _, _ => none
      | _, _, _ => none
    | _ => pureExec P tg st o
  | _ => pureExec P tg st o

section
variable {P : Program} {B : Nat} {st : St} {a : Act} {w : World} {G : Ghost} {o : Oper}

theorem valAt_put_slot {dst : Option Nat} {v : Value} {j : Nat} (h : dst ≠ some j) : valAt (a.put dst v) w G (.slot j) = valAt a w G (.slot j) := by
  simp only [valAt, put_getD, h, false_and, if_false]
theorem valAt_put_tup {dst : Option Nat} {v : Value} {j m : Nat} (h : dst ≠ some j) : valAt (a.put dst v) w G (.tup j m) = valAt a w G (.tup j m) := by
  simp only [valAt, put_getD, h, false_and, if_false]
theorem valAt_put_cell {dst : Option Nat} {v : Value} {r off : Nat} : valAt (a.put dst v) w G (.cell r off) = valAt a w G (.cell r off) := rfl
theorem valAt_put_same {v : Value} {j : Nat} (h : j < a.tmps.size) : valAt (a.put (some j) v) w G (.slot j) = some v := by
  simp only [valAt, put_getD, h, and_self, if_true]
theorem valAt_put_same_tup {v : Value} {j m : Nat} (h : j < a.tmps.size) : valAt (a.put (some j) v) w G (.tup j m) = (match v with | .tuple vs => vs[m]? | _ => none) := by
  simp only [valAt, put_getD, h, and_self, if_true]
  rfl

theorem renPut_ok {i : Nat} {v : Value} {l l' : OLoc} (h : renPut i l = some l') : valAt (a.put (some i) v) w G l' = valAt a w G l := by
  cases l with
  | slot j =>
    simp only [renPut] at h
    split at h
    · cases h
    · rename_i hne; cases h; exact valAt_put_slot (fun e => hne (Option.some.inj e).symm)
  | tup j m =>
    simp only [renPut] at h
    split at h
    · cases h
    · rename_i hne; cases h; exact valAt_put_tup (fun e => hne (Option.some.inj e).symm)
  | cell r off => cases h; rfl
theorem renDst_ok {dst : Option Nat} {v : Value} {l l' : OLoc} (h : renDst dst l = some l') : valAt (a.put dst v) w G l' = valAt a w G l := by
  cases dst with
  | none => cases h; rfl
  | some i => exact renPut_ok h

theorem renOf_ok (hn : a.tmps.size = st.t.length) (tg : List Nat) {v : Value} (hrun : (execOp a.eval o).run P w = .ok (.value v) w) {l l' : OLoc} (h : renOf tg st.t.length o.op o.dst l = some l') :
    valAt (a.put o.dst v) w G l' = valAt a w G l := by
  have mv : ∀ s i, (o.op = .move (.tmp s) ∨ o.op = .assign (.tmp s)) → o.dst = some i → renMove tg st.t.length s i l = some l' → valAt (a.put o.dst v) w G l' = valAt a w G l := by
    intro s i ho hd h
    have hv : v = a.tmps.getD s undef := by
      rcases ho with ho | ho <;>
      · simp [execOp, ho] at hrun
        exact hrun.symm
    rw [hd]
    cases l with
    | slot j =>
      simp only [renMove] at h
      split at h
      · rename_i hc
        cases h
        rw [valAt_put_same (by rw [hn]; exact hc.2.2), hv, hc.1]; rfl
      · split at h
        · cases h
        · rename_i hne; cases h; exact valAt_put_slot (fun e => hne (Option.some.inj e).symm)
    | tup j m =>
      simp only [renMove] at h
      split at h
      · rename_i hc
        cases h
        rw [valAt_put_same_tup (by rw [hn]; exact hc.2), hv, hc.1]; rfl
      · split at h
        · cases h
        · rename_i hne; cases h; exact valAt_put_tup (fun e => hne (Option.some.inj e).symm)
    | cell r off => cases h; rfl
  cases hd : o.dst with
  | none => rw [hd] at h; cases h; rfl
  | some i =>
  rw [hd] at h mv
  simp only [renOf] at h
  split at h
  · rename_i s ho; exact mv s i (.inl ho) rfl h
  · rename_i s ho; exact mv s i (.inr ho) rfl h
  · rename_i s m ho
    have hv : ∃ vs : Array Value, a.tmps.getD s undef = .tuple vs ∧ vs[m]? = some v := by
      simp only [execOp, ho, Sem.run_bind] at hrun
      have : a.eval (.tmp s) = a.tmps.getD s undef := rfl
      rw [this] at hrun
      unfold Instr.extract at hrun
      split at hrun
      · rename_i vs hvs
        split at hrun
        · rename_i u hu
          simp at hrun
          subst hrun
          exact ⟨vs, hvs, hu⟩
        · simp [stuck] at hrun
      · simp [stuck] at hrun
    obtain ⟨vs, hvs, hvm⟩ := hv
    cases l with
    | slot j =>
      simp only [renExtract] at h
      split at h
      · cases h
      · rename_i hne; cases h; exact valAt_put_slot (fun e => hne (Option.some.inj e).symm)
    | tup j m' =>
      simp only [renExtract] at h
      split at h
      · rename_i hc
        cases h
        obtain ⟨rfl, rfl, hi⟩ := hc
        rw [valAt_put_same (by rw [hn]; exact hi)]
        simp [valAt, hvs, hvm]
      · split at h
        · cases h
        · rename_i hne; cases h; exact valAt_put_tup (fun e => hne (Option.some.inj e).symm)
    | cell r off => cases h; rfl
  · exact renPut_ok h

/-- What one operation does. -/
def Does (P : Program) (B : Nat) (a : Act) (w : World) (G : Ghost) (o : Oper) (st' : St) : Prop :=
  ∃ nx v w' G', (execOp a.eval o).run P w = .ok nx w' ∧ (nx = .value v ∨ (nx = .skip ∧ v = undef)) ∧ Rel B st' (a.put o.dst v) w' G' ∧
    ∀ w0 G0, w0.heap.size = B → Evol w0 G0 w G → Evol w0 G0 w' G'

theorem pureExec_sound (tg : List Nat) (hr : Rel B st a w G) {st' : St} {ob : Prop} (h : pureExec P tg st o = some (st', ob)) (hob : ob) : Does P B a w G o st' := by
  unfold pureExec at h
  split at h <;> try (cases h; done)
  rename_i d ob' he
  cases h
  obtain ⟨v, hv, hrun⟩ := evalOp_sound hr he hob
  have hrun := hrun w (SameL.refl _ w)
  exact ⟨_, v, w, G, hrun, .inl rfl, hr.put hv _ _ (fun x hx l hl => renOf_ok hr.size tg hrun hl), fun _ _ _ hE => hE⟩

theorem filterMap_renOwn_some (l : List Own) : l.filterMap (renOwn some) = l := by
  induction l with
  | nil => rfl
  | cons x l ih => simp [renOwn, ih]

theorem Rel.addOwn (h : Rel B st a w G) {loc : OLoc} {e : TypeId} {k : Nat} {v : Value} (hv : valAt a w G loc = some v) (ho : OwnVal B w G e k v)
    (hap : ∀ x u, x ∈ st.own → valAt a w G x.loc = some u → apart u v) : Rel B { st with own := ⟨loc, e, k⟩ :: st.own } a w G := by
  refine ⟨h.size, h.tmps, h.defers, h.boxes, h.newL, fun x hx => ?_, ?_⟩
  · rcases List.mem_cons.1 hx with rfl | hx
    · exact ⟨v, hv, ho⟩
    · exact h.own x hx
  · refine List.pairwise_cons.2 ⟨fun x hx v' u hv' hu => ?_, h.dist⟩
    simp only at hv'
    rw [hv] at hv'
    cases hv'
    exact apart_symm (hap x u hx hu)

/-- A slot takes an owned value. -/
theorem Rel.putOwn (h : Rel B st a w G) {v : Value} {d : DV} (hv : V w G.pr G.at v d) (i : Nat) {e : TypeId} {k : Nat} (ho : OwnVal B w G e k v)
    (hap : ∀ x u, x ∈ st.own → valAt a w G x.loc = some u → apart u v) (c : Prop) [Decidable c] (hc : c → i < st.t.length) :
    Rel B { st with t := st.t.set i d, own := if c then ⟨.slot i, e, k⟩ :: st.own.filterMap (renOwn (renPut i)) else st.own.filterMap (renOwn (renPut i)) } (a.put (some i) v) w G := by
  have hR := h.put hv (some i) (renPut i) (fun x hx l hl => renPut_ok hl)
  by_cases hcc : c
  · simp only [hcc, if_true]
    refine hR.addOwn (valAt_put_same (by rw [h.size]; exact hc hcc)) ho (fun x u hx hu => ?_)
    obtain ⟨y, hy, hxy⟩ := List.mem_filterMap.1 hx
    unfold renOwn at hxy
    split at hxy <;> try (cases hxy; done)
    rename_i l hl
    cases hxy
    exact hap y u hy (by rw [← renPut_ok (a := a) (w := w) (G := G) (v := v) hl]; exact hu)
  · simp only [hcc, if_false]
    exact hR

end
end Go.AL
