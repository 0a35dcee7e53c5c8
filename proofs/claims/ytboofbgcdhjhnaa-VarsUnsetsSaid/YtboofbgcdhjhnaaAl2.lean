/-
  AL, part 2: abstract evaluation of the operations that leave memory alone, and its soundness.
-/
import Derived.Test.YtboofbgcdhjhnaaAl1
namespace Go.AL
set_option linter.unusedVariables false

def ofV : Value → DV
  | .int k n => .int k n
  | .bool b => .bool b
  | .string s => .str s.data.toList
  | v => .val v

theorem V_ofV (w : World) (pr : Nat → Nat → Prop) (i : Places) (v : Value) : V w pr i v (ofV v) := by
  cases v <;> first | exact .int _ _ _ | exact .bool _ _ | exact .str i _ | exact .val _ _

def St.ev (st : St) : Operand → DV
  | .tmp t => st.t.getD t .any
  | .const v => ofV v
  | .global _ => .any
  | .func f => .func (.func f) []

def strip : DV → DV
  | .whn _ d => strip d
  | d => d
def stripOb : DV → Prop
  | .whn b d => b = true ∧ stripOb d
  | _ => True

theorem V.strip {w : World} {pr : Nat → Nat → Prop} {i : Places} {v : Value} {d : DV} (h : V w pr i v d) (ho : stripOb d) : V w pr i v (strip d) := by
  induction h with
  | whn i v b d h h0 ih => exact ih ho.1 ho.2
  | any i v => exact .any i v
  | int i k n => exact .int i k n
  | bool i b => exact .bool i b
  | str i l => exact .str i l
  | val i v => exact .val i v
  | agg i vs ds hs h1 h _ => exact .agg i vs ds hs h1 h
  | nils i a k => exact .nils i a k
  | slice i b off cap k es c hcap hk h0 h1 h _ => exact .slice i b off cap k es c hcap hk h0 h1 h
  | iface i t v d h _ => exact .iface i t v d h
  | cptr i b o off cs c h0 h1 h _ => exact .cptr i b o off cs c h0 h1 h
  | ptr i l r off b h => exact .ptr i l r off b h
  | func i fn vs ds hs h _ => exact .func i fn vs ds hs h
  | tuple i vs ds hs h _ => exact .tuple i vs ds hs h
  | mref i l r b h => exact .mref i l r b h

section inv
variable {w : World} {pr : Nat → Nat → Prop} {i : Places} {v : Value}
theorem V.int_inv {k : IntKind} {n : Int} (h : V w pr i v (.int k n)) : v = .int k n := by cases h; rfl
theorem V.bool_inv {b : Bool} (h : V w pr i v (.bool b)) : v = .bool b := by cases h; rfl
theorem V.str_inv {l : List UInt8} (h : V w pr i v (.str l)) : v = mkStr l := by cases h; rfl
theorem V.val_inv {u : Value} (h : V w pr i v (.val u)) : v = u := by cases h; rfl
theorem V.agg_inv {ds : List DV} (h : V w pr i v (.agg ds)) : ∃ vs : Array Value, v = .agg vs ∧ vs.size = ds.length ∧
    (∀ j, j < ds.length → (vs.getD j undef).oneCell' = true) ∧ ∀ j, j < ds.length → V w pr i (vs.getD j undef) (ds.getD j .any) := by
  cases h with | agg _ vs _ hs h1 h => exact ⟨vs, rfl, hs, h1, h⟩
theorem V.tuple_inv {ds : List DV} (h : V w pr i v (.tuple ds)) : ∃ vs : Array Value, v = .tuple vs ∧ vs.size = ds.length ∧
    ∀ j, j < ds.length → V w pr i (vs.getD j undef) (ds.getD j .any) := by
  cases h with | tuple _ vs _ hs h => exact ⟨vs, rfl, hs, h⟩
theorem V.func_inv {fn : Fn} {ds : List DV} (h : V w pr i v (.func fn ds)) : ∃ vs : Array Value, v = .func fn #[] vs ∧ vs.size = ds.length ∧
    ∀ j, j < ds.length → V w pr i (vs.getD j undef) (ds.getD j .any) := by
  cases h with | func _ _ vs _ hs h => exact ⟨vs, rfl, hs, h⟩
theorem V.ptr_inv {l : Bool} {r off : Nat} (h : V w pr i v (.ptr l r off)) : ∃ b, v = .pointer (some ⟨b, off, none⟩) ∧ i l r = some b := by
  cases h with | ptr _ _ _ _ b h => exact ⟨b, rfl, h⟩
theorem V.mref_inv {l : Bool} {r : Nat} (h : V w pr i v (.mref l r)) : ∃ b, v = .map (some b) ∧ i l r = some b := by
  cases h with | mref _ _ _ b h => exact ⟨b, rfl, h⟩
theorem V.cptr_inv {cs : List DV} {off : Nat} (h : V w pr i v (.cptr cs off)) : ∃ (b o : Nat) (c : Nat → Value), v = .pointer (some ⟨b, o + off, none⟩) ∧
    (∀ l, l < cs.length → pr b (o + l) ∧ w.cell? ⟨b, o + l, none⟩ = some (c l)) ∧ (∀ l, l < cs.length → (c l).oneCell' = true) ∧
    ∀ l, l < cs.length → V w pr noPlaces (c l) (cs.getD l .any) := by
  cases h with | cptr _ b o _ _ c h0 h1 h => exact ⟨b, o, c, rfl, h0, h1, h⟩
theorem V.iface_inv {t : TypeId} {d : DV} (h : V w pr i v (.iface t d)) : ∃ u, v = .iface t u ∧ V w pr i u d := by
  cases h with | iface _ _ u _ h => exact ⟨u, rfl, h⟩
/-- A slice: nil and empty, or a row. -/
theorem V.slice_inv {k : Nat} {es : List (List DV)} (h : V w pr i v (.slice k es)) :
    (∃ a, v = .slice a 0 0 ∧ es = []) ∨ ∃ (b off cap : Nat) (c : Nat → Nat → Value), v = .slice (some ⟨b, off, none⟩) es.length cap ∧ es.length ≤ cap ∧
      (∀ j, j < es.length → (es.getD j []).length = k) ∧
      (∀ j l, j < es.length → l < k → pr b (off + j * k + l) ∧ w.cell? ⟨b, off + j * k + l, none⟩ = some (c j l)) ∧
      (∀ j l, j < es.length → l < k → (c j l).oneCell' = true) ∧
      (∀ j l, j < es.length → l < k → V w pr noPlaces (c j l) ((es.getD j []).getD l .any)) := by
  cases h with
  | nils _ a _ => exact .inl ⟨a, rfl, rfl⟩
  | slice _ b off cap _ _ c hc hk h0 h1 h => exact .inr ⟨b, off, cap, c, rfl, hc, hk, h0, h1, h⟩
end inv

/-- A pointer-free reading holds wherever the boxes lie. -/
theorem V.any_places {w : World} {pr : Nat → Nat → Prop} {v : Value} {d : DV} (h : V w pr noPlaces v d) (i : Places) : V w pr i v d :=
  h.mono (fun _ _ h => h) (fun _ _ _ _ h => h) i (fun _ _ _ h => by cases h)

theorem Rel.ev {B : Nat} {st : St} {a : Act} {w : World} {G : Ghost} (h : Rel B st a w G) (x : Operand) : V w G.pr G.at (a.eval x) (st.ev x) := by
  cases x with
  | tmp t =>
    by_cases ht : t < st.t.length
    · exact h.tmps t ht
    · have : st.ev (.tmp t) = .any := by simp [St.ev, List.getD, List.getElem?_eq_none (Nat.le_of_not_lt ht)]
      rw [this]; exact .any _ _
  | const v => exact V_ofV _ _ _ _
  | global g => exact .any _ _
  | func f => exact .func _ _ #[] [] rfl (fun j hj => by simp at hj)

theorem Rel.arg {B : Nat} {st : St} {a : Act} {w : World} {G : Ghost} (h : Rel B st a w G) (x : Operand) (ho : stripOb (st.ev x)) : V w G.pr G.at (a.eval x) (Go.AL.strip (st.ev x)) :=
  (h.ev x).strip ho

/-- What the model knows of a type. -/
structure TI where
  kind : TypeDesc
  size : Nat
  bytes : Nat
  zero : Value
def tinfo (P : Program) (t : TypeId) : Option TI :=
  match P.info? t, P.underlying t with
  | some i, some d => match i.zero with
    | some z => some ⟨d, i.size, i.bytes, z⟩
    | none => none
  | _, _ => none
theorem tinfo_some {P : Program} {t : TypeId} {x : TI} (h : tinfo P t = some x) :
    ∃ i, P.info? t = some i ∧ P.underlying t = some x.kind ∧ i.size = x.size ∧ i.bytes = x.bytes ∧ i.zero = some x.zero := by
  unfold tinfo at h
  split at h
  · rename_i i d hi hd
    split at h
    · rename_i z hz
      cases h
      exact ⟨i, hi, hd, rfl, rfl, hz⟩
    · cases h
  · cases h

def TI.isAgg (i : TI) : Bool := match i.kind with | .struct _ => true | .array _ _ => true | _ => false

/-- Binary operations on plain values. -/
def binD (op : BinOp) (x y : DV) : Option (DV × Prop) :=
  match x, y with
  | .int k a, .int k' b =>
    match op with
    | .shl => some (.int k (k.wrap (a * 2 ^ (min b.toNat k.bits))), 0 ≤ b)
    | .shr => some (.int k (a.fdiv (2 ^ (min b.toNat k.bits))), 0 ≤ b)
    | .add => some (.int k (k.wrap (a + b)), k = k')
    | .sub => some (.int k (k.wrap (a - b)), k = k')
    | .mul => some (.int k (k.wrap (a * b)), k = k')
    | .quo => some (.int k (k.wrap (a.tdiv b)), k = k' ∧ b ≠ 0)
    | .rem => some (.int k (a.tmod b), k = k' ∧ b ≠ 0)
    | .and => some (.int k (k.wrap (BitVec.ofInt k.bits a &&& BitVec.ofInt k.bits b).toNat), k = k')
    | .or => some (.int k (k.wrap (BitVec.ofInt k.bits a ||| BitVec.ofInt k.bits b).toNat), k = k')
    | .xor => some (.int k (k.wrap (BitVec.ofInt k.bits a ^^^ BitVec.ofInt k.bits b).toNat), k = k')
    | .andNot => some (.int k (k.wrap (BitVec.ofInt k.bits a &&& ~~~ BitVec.ofInt k.bits b).toNat), k = k')
    | .eql => some (.bool (a == b), k = k')
    | .neq => some (.bool (a != b), k = k')
    | .lss => some (.bool (decide (a < b)), k = k')
    | .leq => some (.bool (decide (a ≤ b)), k = k')
    | .gtr => some (.bool (decide (b < a)), k = k')
    | .geq => some (.bool (decide (b ≤ a)), k = k')
  | .str a, .str b =>
    match op with
    | .add => some (.str (a ++ b), a.length + b.length ≤ 9223372036854775807)
    | .eql => some (.bool (a == b), True)
    | .neq => some (.bool (!(a == b)), True)
    | .lss => some (.bool (Op.bytesLess a b), True)
    | .leq => some (.bool (Op.bytesLess a b || a == b), True)
    | .gtr => some (.bool (!(Op.bytesLess a b || a == b)), True)
    | .geq => some (.bool (!(Op.bytesLess a b)), True)
    | _ => none
  | _, _ => none

theorem ba_toList (l : List UInt8) : (ByteArray.mk ⟨l⟩).toList = l := by rw [ByteArray.toList_eq]
theorem mkStr_append (a b : List UInt8) : mkStr (a ++ b) = .string (ByteArray.mk ⟨a⟩ ++ ByteArray.mk ⟨b⟩) := by
  unfold mkStr
  congr 1

theorem binD_sound {P : Program} {w : World} {pr : Nat → Nat → Prop} {i : Places} {op : BinOp} {t : TypeId} {x y : Operand} {u v : Value} {du dv d : DV} {ob : Prop}
    (hu : V w pr i u du) (hv : V w pr i v dv) (h : binD op du dv = some (d, ob)) (hob : ob) :
    ∃ r, V w pr i r d ∧ ∀ w', (do eqGuard op t x y u v; binOp op t u v).run P w' = .ok r w' := by
  unfold binD at h
  split at h
  · rename_i k a k' b
    cases hu; cases hv
    have hg : ∀ w', (eqGuard op t x y (.int k a) (.int k' b)).run P w' = .ok () w' := fun w' => by cases op <;> rfl
    cases op <;> simp only [Option.some.injEq, Prod.mk.injEq] at h <;> obtain ⟨rfl, rfl⟩ := h
    case shl => exact ⟨_, .int _ _ _, fun w' => by simp [hg, binOp, Op.shift, show ¬ b < 0 by omega]⟩
    case shr => exact ⟨_, .int _ _ _, fun w' => by simp [hg, binOp, Op.shift, show ¬ b < 0 by omega]⟩
    case quo => obtain ⟨rfl, hb⟩ := hob; exact ⟨_, .int _ _ _, fun w' => by simp [hg, binOp, Op.intDiv, hb]⟩
    case rem => obtain ⟨rfl, hb⟩ := hob; exact ⟨_, .int _ _ _, fun w' => by simp [hg, binOp, Op.intDiv, hb]⟩
    all_goals
      subst hob
      first
        | exact ⟨_, .int _ _ _, fun w' => by simp only [Sem.run_bind, hg, Result.andThen_ok, binOp, ne_eq, not_true, if_false]; rfl⟩
        | exact ⟨_, .bool _ _, fun w' => by simp [hg, binOp, Op.intCmp]⟩
  · rename_i a b
    cases hu; cases hv
    have hg : ∀ w', (eqGuard op t x y (mkStr a) (mkStr b)).run P w' = .ok () w' := fun w' => by cases op <;> rfl
    have hb : ∀ w', (do eqGuard op t x y (mkStr a) (mkStr b); binOp op t (mkStr a) (mkStr b)).run P w' = (Op.stringOp op ⟨⟨a⟩⟩ ⟨⟨b⟩⟩).run P w' := fun w' => by
      simp only [Sem.run_bind, hg, Result.andThen_ok]
      cases op <;> rfl
    simp only [hb]
    cases op <;> simp only [Option.some.injEq, Prod.mk.injEq, reduceCtorEq] at h <;> obtain ⟨rfl, rfl⟩ := h
    case add =>
      refine ⟨_, .str _ _, fun w' => ?_⟩
      rw [mkStr_append]
      have hsz : ∀ l : List UInt8, (ByteArray.mk ⟨l⟩).size = l.length := fun l => rfl
      have : ¬ (((⟨⟨a⟩⟩ : ByteArray).size + (⟨⟨b⟩⟩ : ByteArray).size : Nat) : Int) > IntKind.i64.max := by
        rw [hsz, hsz]
        have : IntKind.i64.max = 9223372036854775807 := by decide
        rw [this]; omega
      simp only [Op.stringOp, this, if_false]; rfl
    all_goals exact ⟨_, .bool _ _, fun w' => by simp [Op.stringOp]⟩
  · cases h

end Go.AL
