/-
  AL, part 3: the operations that leave memory alone (loads, fields, indexing, slicing, arithmetic), evaluated; soundness.
-/
import Derived.Test.YtboofbgcdhjhnaaAl2
namespace Go.AL
set_option linter.unusedVariables false

def boxAt (st : St) (l : Bool) (r : Nat) : Box := cond l (st.L.getD r (.cells 0 [])) (st.S.getD r (.cells 0 []))

/-- What a load of a type of so many cells gives. -/
def partD (agg : Bool) (size : Nat) (cs : List DV) (off : Nat) : DV := cond agg (.agg ((cs.drop off).take size)) (cs.getD off .any)
def partOb (agg : Bool) (size : Nat) (cs : List DV) (off : Nat) : Prop := cond agg (off + size ≤ cs.length) (off < cs.length)

def cellsD : DV → List DV
  | .agg cs => cs
  | d => [d]

def asSlice (k : Nat) : DV → Option (List (List DV))
  | .slice k' es => if k = k' then some es else none
  | .val (.slice none 0 0) => some []
  | _ => none

/-- The cells of a struct with some fields given. -/
def fillD (fs : Array Field) (cs : List DV) : List (Nat × DV) → List DV
  | [] => cs
  | (i, d) :: rest => fillD fs (match fs[i]? with
      | some f => cs.take f.offset ++ cellsD d ++ cs.drop (f.offset + (cellsD d).length)
      | none => cs) rest

def lenD (d : DV) : Option (DV × Prop) :=
  match d with
  | .str l => some (.int .i64 l.length, True)
  | .slice _ es => some (.int .i64 es.length, True)
  | .val (.slice none 0 0) => some (.int .i64 0, True)
  | _ => none

/-- A bound of a slice expression: absent, or an int. -/
def boundD (d : Int) : Option DV → Option Int
  | none => some d
  | some (.int _ n) => some n
  | _ => none

def sliceD (P : Program) (t : TypeId) (x : DV) (lo hi : Option DV) : Option (DV × Prop) :=
  match x with
  | .str l => match boundD 0 lo, boundD l.length hi, tinfo P t with
    | some a, some b, some ⟨.string, _, _, _⟩ => some (.str ((l.take b.toNat).drop a.toNat), 0 ≤ a ∧ a ≤ b ∧ b ≤ l.length)
    | _, _, _ => none
  | .slice k es => match boundD 0 lo, boundD es.length hi, tinfo P t with
    | some a, some b, some ⟨.slice e, _, _, _⟩ => match tinfo P e with
      | some i => some (.slice k ((es.take b.toNat).drop a.toNat), 0 ≤ a ∧ a ≤ b ∧ b ≤ es.length ∧ i.size = k)
      | none => none
    | _, _, _ => none
  | .val (.slice none 0 0) => match boundD 0 lo, boundD 0 hi, tinfo P t with
    | some a, some b, some ⟨.slice e, _, _, _⟩ => match tinfo P e with
      | some _ => some (.val (.slice none 0 0), a = 0 ∧ b = 0)
      | none => none
    | _, _, _ => none
  | _ => none

def convD (P : Program) (src dst : TypeId) (x : DV) : Option (DV × Prop) :=
  match x, tinfo P src, tinfo P dst with
  | .int _ n, some _, some ⟨.int k, _, _, _⟩ => some (.int k (k.wrap n), True)
  | .str l, some _, some ⟨.string, _, _, _⟩ => some (.str l, True)
  | _, _, _ => none

/-- Equality of bools and of structs of plain fields. -/
def eqCell : TypeDesc → DV → DV → Option Bool
  | .bool, .bool a, .bool b => some (a == b)
  | .int _, .int k a, .int k' b => if k = k' then some (a == b) else none
  | .string, .str a, .str b => some (a == b)
  | _, _, _ => none
def eqFs (P : Program) (xs ys : List DV) : List Field → Option Bool
  | [] => some true
  | f :: fs => if f.name = "_" then none else match tinfo P f.type with
    | some i => if i.isAgg then none else match eqCell i.kind (xs.getD f.offset .any) (ys.getD f.offset .any), eqFs P xs ys fs with
      | some b, some r => some (b && r)
      | _, _ => none
    | none => none
def eqV (P : Program) (t : TypeId) (x y : DV) : Option Bool :=
  match x, y, tinfo P t with
  | .bool a, .bool b, some ⟨.bool, _, _, _⟩ => some (a == b)
  | .agg xs, .agg ys, some ⟨.struct fs, _, _, _⟩ => eqFs P xs ys fs.toList
  | _, _, _ => none
def eqChk (P : Program) (t : TypeId) : DV → Bool
  | .agg _ => !P.stoodInHeld t && !P.eqGuardType P.depth t
  | _ => true
def eqD (P : Program) (op : BinOp) (t : TypeId) (x y : DV) : Option DV :=
  match op, eqV P t x y with
  | .eql, some b => some (.bool b)
  | .neq, some b => some (.bool (!b))
  | _, _ => none

def optOb (st : St) : Option Operand → Prop
  | some y => stripOb (st.ev y)
  | none => True

def oneD : DV → Bool
  | .int _ _ => true
  | .bool _ => true
  | .str _ => true
  | .val v => v.oneCell'
  | .slice _ _ => true
  | .iface _ _ => true
  | .cptr _ _ => true
  | .ptr _ _ _ => true
  | .func _ _ => true
  | .mref _ _ => true
  | _ => false

def partChk (P : Program) (st : St) (fs : Array Field) (zs : Nat) (p : Nat × Operand) : Bool :=
  (cellsD (strip (st.ev p.2))).all oneD && (match fs[p.1]? with
    | some fd => match tinfo P fd.type with
      | some i => Nat.beq (cellsD (strip (st.ev p.2))).length i.size && Nat.ble (fd.offset + i.size) zs
      | none => false
    | none => false)
def buildOb (P : Program) (st : St) (fs : Array Field) (z : Array Value) : List (Nat × Operand) → Prop
  | [] => (z.toList.all (·.oneCell') && fs.toList.all fun fd => (tinfo P fd.type).isSome) = true
  | p :: ps => stripOb (st.ev p.2) ∧ partChk P st fs z.size p = true ∧ buildOb P st fs z ps

theorem partChk_ok {P : Program} {st : St} {fs : Array Field} {zs : Nat} {p : Nat × Operand} (h : partChk P st fs zs p = true) :
    (∀ c, c ∈ cellsD (strip (st.ev p.2)) → oneD c = true) ∧ ∃ fd i, fs[p.1]? = some fd ∧ tinfo P fd.type = some i ∧ (cellsD (strip (st.ev p.2))).length = i.size ∧ fd.offset + i.size ≤ zs := by
  unfold partChk at h
  rw [Bool.and_eq_true] at h
  refine ⟨fun c hc => List.all_eq_true.1 h.1 c hc, ?_⟩
  have h2 := h.2
  split at h2
  · rename_i fd hf
    split at h2
    · rename_i i hi
      rw [Bool.and_eq_true] at h2
      exact ⟨fd, i, hf, hi, Nat.eq_of_beq_eq_true h2.1, Nat.le_of_ble_eq_true h2.2⟩
    · cases h2
  · cases h2
theorem buildOb_ok {P : Program} {st : St} {fs : Array Field} {z : Array Value} : ∀ {l : List (Nat × Operand)}, buildOb P st fs z l →
    (∀ p, p ∈ l → stripOb (st.ev p.2) ∧ (∀ c, c ∈ cellsD (strip (st.ev p.2)) → oneD c = true) ∧
      ∃ fd i, fs[p.1]? = some fd ∧ tinfo P fd.type = some i ∧ (cellsD (strip (st.ev p.2))).length = i.size ∧ fd.offset + i.size ≤ z.size) ∧
    (∀ v, v ∈ z.toList → v.oneCell' = true) ∧ ∀ fd, fd ∈ fs.toList → ∃ i, tinfo P fd.type = some i
  | [], h => by
    simp only [buildOb, Bool.and_eq_true] at h
    refine ⟨fun p hp => by simp at hp, fun v hv => List.all_eq_true.1 h.1 v hv, fun fd hfd => ?_⟩
    exact Option.isSome_iff_exists.1 (List.all_eq_true.1 h.2 fd hfd)
  | p :: ps, h => by
    obtain ⟨h1, h2, h3⟩ := h
    obtain ⟨q1, q2, q3⟩ := buildOb_ok h3
    refine ⟨fun p' hp => ?_, q2, q3⟩
    rcases List.mem_cons.1 hp with rfl | hp
    · exact ⟨h1, partChk_ok h2⟩
    · exact q1 p' hp

def evalOp (P : Program) (st : St) : Op → Option (DV × Prop)
  | .move x => some (st.ev x, True)
  | .assign x => some (st.ev x, True)
  | .pick c x y => match strip (st.ev c), strip (st.ev x), strip (st.ev y) with
    | .bool b, .bool p, .bool q => some (.bool (cond b p q), stripOb (st.ev c) ∧ (b = true → stripOb (st.ev x)) ∧ (b = false → stripOb (st.ev y)))
    | _, _, _ => none
  | .load t x => match tinfo P t, strip (st.ev x) with
    | some i, .cptr cs off => some (partD i.isAgg i.size cs off, stripOb (st.ev x) ∧ partOb i.isAgg i.size cs off)
    | some i, .ptr l r off => match boxAt st l r with
      | .cells _ cs => some (partD i.isAgg i.size cs off, stripOb (st.ev x) ∧ partOb i.isAgg i.size cs off)
      | _ => none
    | _, _ => none
  | .nilCheck x => match strip (st.ev x) with
    | .ptr l r off => some (.ptr l r off, stripOb (st.ev x))
    | .cptr cs off => some (.cptr cs off, stripOb (st.ev x))
    | .func (.func f) cap => some (.func (.func f) cap, stripOb (st.ev x))
    | _ => none
  | .binOp op t x y _ => match binD op (strip (st.ev x)) (strip (st.ev y)) with
    | some (d, ob) => some (d, stripOb (st.ev x) ∧ stripOb (st.ev y) ∧ ob)
    | none => match eqD P op t (strip (st.ev x)) (strip (st.ev y)) with
      | some d => some (d, stripOb (st.ev x) ∧ stripOb (st.ev y) ∧ eqChk P t (strip (st.ev x)) = true)
      | none => none
  | .unOp op _ x => match op, strip (st.ev x) with
    | .not, .bool b => some (.bool (!b), stripOb (st.ev x))
    | .neg, .int k n => some (.int k (k.wrap (0 - n)), stripOb (st.ev x))
    | .xor, .int k n => some (.int k (k.wrap (BitVec.ofInt k.bits (if k.signed then -1 else k.max) ^^^ BitVec.ofInt k.bits n).toNat), stripOb (st.ev x))
    | _, _ => none
  | .convert src dst x => match convD P src dst (strip (st.ev x)) with
    | some (d, ob) => some (d, stripOb (st.ev x) ∧ ob)
    | none => none
  | .makeFunc fn first cap => match first.toList with
    | [] => some (.func fn (cap.toList.map st.ev), True)
    | _ => none
  | .fieldAddr s x f => match tinfo P s, strip (st.ev x) with
    | some ⟨.struct fs, _, _, _⟩, .cptr cs off => match fs[f]? with
      | some fd => match tinfo P fd.type with
        | some i => some (.cptr cs (off + fd.offset), stripOb (st.ev x) ∧ i.size ≠ 0)
        | none => none
      | none => none
    | some ⟨.struct fs, _, _, _⟩, .ptr l r off => match fs[f]? with
      | some fd => match tinfo P fd.type with
        | some i => some (.ptr l r (off + fd.offset), stripOb (st.ev x) ∧ i.size ≠ 0)
        | none => none
      | none => none
    | _, _ => none
  | .field s x f => match tinfo P s, strip (st.ev x) with
    | some ⟨.struct fs, _, _, _⟩, .agg cs => match fs[f]? with
      | some fd => match tinfo P fd.type with
        | some i => some (partD i.isAgg i.size cs fd.offset, stripOb (st.ev x) ∧ partOb i.isAgg i.size cs fd.offset)
        | none => none
      | none => none
    | _, _ => none
  | .indexAddr t x ix => match tinfo P t, strip (st.ev x), strip (st.ev ix) with
    | some ⟨.slice e, _, _, _⟩, .slice k es, .int _ n => match tinfo P e with
      | some i => some (.cptr (es.getD n.toNat []) 0, stripOb (st.ev x) ∧ stripOb (st.ev ix) ∧ 0 ≤ n ∧ n < es.length ∧ i.size = k)
      | none => none
    | some ⟨.array len e, _, _, _⟩, .ptr l r off, .int _ n => match tinfo P e with
      | some i => some (.ptr l r (off + n.toNat * i.size), stripOb (st.ev x) ∧ stripOb (st.ev ix) ∧ 0 ≤ n ∧ n < len)
      | none => none
    | some ⟨.array len e, _, _, _⟩, .cptr cs off, .int _ n => match tinfo P e with
      | some i => some (.cptr cs (off + n.toNat * i.size), stripOb (st.ev x) ∧ stripOb (st.ev ix) ∧ 0 ≤ n ∧ n < len)
      | none => none
    | _, _, _ => none
  | .index t x ix => match tinfo P t, strip (st.ev x), strip (st.ev ix) with
    | some ⟨.string, _, _, _⟩, .str l, .int _ n => some (.int .u8 (l.getD n.toNat 0).toNat, stripOb (st.ev x) ∧ stripOb (st.ev ix) ∧ 0 ≤ n ∧ n < l.length)
    | _, _, _ => none
  | .slice t x lo hi none => match sliceD P t (strip (st.ev x)) (lo.map fun y => strip (st.ev y)) (hi.map fun y => strip (st.ev y)) with
    | some (d, ob) => some (d, stripOb (st.ev x) ∧ optOb st lo ∧ optOb st hi ∧ ob)
    | none => none
  | .extract x j => match strip (st.ev x) with
    | .tuple ds => some (ds.getD j .any, stripOb (st.ev x) ∧ j < ds.length)
    | _ => none
  | .build t parts => match tinfo P t with
    | some ⟨.struct fs, _, _, .agg z⟩ => some (.agg (fillD fs (z.toList.map ofV) (parts.toList.map fun p => (p.1, strip (st.ev p.2)))),
        buildOb P st fs z parts.toList)
    | _ => none
  | .makeInterface t x => match tinfo P t with
    | some ⟨.interface _, _, _, _⟩ => none
    | some _ => some (.iface t (strip (st.ev x)), stripOb (st.ev x))
    | none => none
  | .call c => match c.callee, c.args.toList, c.argTypes.toList with
    | .builtin .len, [x], [t] => match lenD (strip (st.ev x)), tinfo P t with
      | some (d, ob), some ⟨.string, _, _, _⟩ => match strip (st.ev x) with
        | .str _ => some (d, stripOb (st.ev x) ∧ ob)
        | _ => none
      | some (d, ob), some ⟨.slice _, _, _, _⟩ => match strip (st.ev x) with
        | .str _ => none
        | _ => some (d, stripOb (st.ev x) ∧ ob)
      | _, _ => none
    | _, _, _ => none
  | _ => none

def Same (w w' : World) : Prop := w.heap.size ≤ w'.heap.size ∧ ∀ b, b < w.heap.size → w'.heap[b]? = w.heap[b]?

theorem Same.refl (w : World) : Same w w := ⟨Nat.le_refl _, fun _ _ => rfl⟩
theorem Same.cell {w w' : World} (h : Same w w') {a : Addr} {v : Value} (hv : w.cell? a = some v) : w'.cell? a = some v :=
  (World.cell?_of_block (h.2 a.block (World.block_lt_of_cell? w a hv))).trans hv

theorem oneD_ok {w : World} {pr : Nat → Nat → Prop} {i : Places} {v : Value} {d : DV} (h : V w pr i v d) (ho : oneD d = true) : v.oneCell' = true := by
  cases h <;> first | rfl | (simp [oneD] at ho; done) | (simpa [oneD] using ho)

theorem run_underlying' {P : Program} {t : TypeId} {d : TypeDesc} (h : P.underlying t = some d) (w : World) : (underlying t).run P w = .ok d w := by
  simp [underlying, h]
theorem run_typeInfo' {P : Program} {t : TypeId} {i : TypeInfo} (h : P.info? t = some i) (w : World) : (typeInfo t).run P w = .ok i w := by
  simp [typeInfo, h]
theorem run_sizeOf' {P : Program} {t : TypeId} {i : TypeInfo} (h : P.info? t = some i) (w : World) : (sizeOf t).run P w = .ok i.size w := by
  simp [sizeOf, run_typeInfo' h]
theorem run_isAgg' {P : Program} {t : TypeId} {i : TI} (h : tinfo P t = some i) (w : World) : (isAgg t).run P w = .ok i.isAgg w := by
  obtain ⟨x, hx, hu, -⟩ := tinfo_some h
  unfold isAgg
  simp only [Sem.run_bind, run_underlying' hu, Result.andThen_ok]
  unfold TI.isAgg
  cases i.kind <;> rfl
theorem run_zeroValue' {P : Program} {t : TypeId} {i : TI} (h : tinfo P t = some i) (w : World) : (zeroValue t).run P w = .ok i.zero w := by
  obtain ⟨x, hx, hu, -, -, hz⟩ := tinfo_some h
  simp [zeroValue, run_typeInfo' hx, hz]

theorem add_lit (b o n : Nat) : (⟨b, o, none⟩ : Addr).add n = ⟨b, o + n, none⟩ := by
  unfold Addr.add; split <;> simp_all

/-- A load out of cells that are known. -/
theorem run_load_part {P : Program} {w : World} {t : TypeId} {i : TI} (ht : tinfo P t = some i) (b o : Nat) (n : Nat) (c : Nat → Value)
    (hc : ∀ l, l < n → w.cell? ⟨b, o + l, none⟩ = some (c l)) (off : Nat) (h : cond i.isAgg (off + i.size ≤ n) (off < n)) (w' : World) (hs : Same w w') :
    (Instr.loadAt t (.pointer (some ⟨b, o + off, none⟩))).run P w' =
      .ok (cond i.isAgg (.agg ((List.range i.size).map fun l => c (off + l)).toArray) (c off)) w' := by
  obtain ⟨x, hx, hu, hsz, -⟩ := tinfo_some ht
  unfold Instr.loadAt Instr.sureAddr loadVar
  simp only [Sem.run_bind, Sem.run_pure, Result.andThen_ok, run_isAgg' ht]
  cases hag : i.isAgg
  · simp only [hag, cond_false] at h
    have hcell := hs.cell (hc off h)
    simp [hcell]
  · simp only [hag, cond_true] at h
    simp only [cond_true, if_true, Sem.run_bind, run_sizeOf' hx, Result.andThen_ok, hsz]
    have := run_loadCells (P := P) w' ⟨b, o + off, none⟩ i.size (fun l => c (off + l)) (fun j hj => by
      rw [add_lit]
      have := hs.cell (hc (off + j) (by omega))
      rw [← Nat.add_assoc] at this
      exact this)
    rw [this]
    simp

theorem getD_map_range {n : Nat} (f : Nat → Value) (j : Nat) (h : j < n) : (((List.range n).map f).toArray).getD j undef = f j := by
  simp [Array.getD, h]

theorem V_part {w : World} {pr : Nat → Nat → Prop} {i : Places} {n size off : Nat} {agg : Bool} {cs : List DV} {c : Nat → Value} (hn : n = cs.length)
    (h1 : ∀ l, l < n → (c l).oneCell' = true) (h : ∀ l, l < n → V w pr i (c l) (cs.getD l .any)) (ho : partOb agg size cs off) :
    V w pr i (cond agg (.agg ((List.range size).map fun l => c (off + l)).toArray) (c off)) (partD agg size cs off) := by
  subst hn
  cases agg
  · exact h off (by simpa [partOb] using ho)
  · simp only [partOb, cond_true] at ho
    simp only [partD, cond_true]
    have hl : ((cs.drop off).take size).length = size := by simp; omega
    refine .agg _ _ _ (by simp [hl]) (fun j hj => ?_) (fun j hj => ?_)
    · rw [hl] at hj
      rw [getD_map_range _ _ hj]
      exact h1 _ (by omega)
    · rw [hl] at hj
      rw [getD_map_range _ _ hj]
      have : ((cs.drop off).take size).getD j .any = cs.getD (off + j) .any := by
        simp [List.getD, hj]
      rw [this]
      exact h _ (by omega)

theorem outer_at {G : Ghost} {l : Bool} {r b : Nat} (h : G.outer l r = some b) : G.at l r = some b := by
  cases l
  · exact h
  · cases h
theorem BoxOk.at_outer {w : World} {G : Ghost} {b : Nat} {x : Box} (h : BoxOk w G.pr G.outer b x) : BoxOk w G.pr G.at b x := by
  cases x with
  | cells t cs =>
    obtain ⟨vs, h1, h2, h3, h4⟩ := h
    exact ⟨vs, h1, h2, h3, fun j hj => (h4 j hj).mono (fun _ _ h => h) (fun _ _ _ _ h => h) _ (fun _ _ _ h => outer_at h)⟩
  | iter s pos => exact h
  | obj p => exact h

theorem Rel.box {B : Nat} {st : St} {a : Act} {w : World} {G : Ghost} (h : Rel B st a w G) {l : Bool} {r b : Nat} (hb : G.at l r = some b) : BoxOk w G.pr G.at b (boxAt st l r) := by
  cases l
  · have hb' : G.iS[r]? = some b := hb
    have hr : r < st.S.length := by
      rw [← h.boxes.lenS]; exact (List.getElem?_eq_some_iff.1 hb').1
    refine BoxOk.at_outer (h.boxes.boxS r b _ hb' ?_)
    simp [boxAt, List.getD, List.getElem?_eq_getElem hr]
  · have hb' : G.iL[r]? = some b := hb
    have hr : r < st.L.length := by
      rw [← h.boxes.lenL]; exact (List.getElem?_eq_some_iff.1 hb').1
    refine h.boxes.boxL r b _ hb' ?_
    simp [boxAt, List.getD, List.getElem?_eq_getElem hr]

end Go.AL
