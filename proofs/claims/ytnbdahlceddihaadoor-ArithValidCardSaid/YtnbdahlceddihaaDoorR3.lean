/-
  RT, part 3: what the model knows of types; binary operations; what it is that an operation gives a value.
-/
import Derived.Test.YtnbdahlceddihaaDoorR2
namespace Go.RT
set_option linter.unusedVariables false

/-- What the model knows of a type. -/
structure TI where
  kind : TypeDesc
  size : Nat
  bytes : Nat
  zero : Value
def tinfo (P : Program) (t : TypeId) : Option TI :=
  match P.info? t, P.underlying t with
  | some i, some d => match i.zero with
    | some z => some ⟨d, i.size, i.bytes, z⟩
    | none => none
  | _, _ => none
theorem tinfo_some {P : Program} {t : TypeId} {x : TI} (h : tinfo P t = some x) :
    ∃ i, P.info? t = some i ∧ P.underlying t = some x.kind ∧ i.size = x.size ∧ i.bytes = x.bytes ∧ i.zero = some x.zero := by
  unfold tinfo at h
  split at h
  · rename_i i d hi hd
    split at h
    · rename_i z hz
      cases h
      exact ⟨i, hi, hd, rfl, rfl, hz⟩
    · cases h
  · cases h

def TI.isAgg (i : TI) : Bool := match i.kind with | .struct _ => true | .array _ _ => true | _ => false

def Same (w w' : World) : Prop := w.heap.size ≤ w'.heap.size ∧ ∀ b, b < w.heap.size → w'.heap[b]? = w.heap[b]?

theorem Same.refl (w : World) : Same w w := ⟨Nat.le_refl _, fun _ _ => rfl⟩
theorem Same.cell {w w' : World} (h : Same w w') {a : Addr} {v : Value} (hv : w.cell? a = some v) : w'.cell? a = some v :=
  (World.cell?_of_block (h.2 a.block (World.block_lt_of_cell? w a hv))).trans hv

theorem run_underlying' {P : Program} {t : TypeId} {d : TypeDesc} (h : P.underlying t = some d) (w : World) : (underlying t).run P w = .ok d w := by
  simp [underlying, h]
theorem run_typeInfo' {P : Program} {t : TypeId} {i : TypeInfo} (h : P.info? t = some i) (w : World) : (typeInfo t).run P w = .ok i w := by
  simp [typeInfo, h]
theorem run_sizeOf' {P : Program} {t : TypeId} {i : TypeInfo} (h : P.info? t = some i) (w : World) : (sizeOf t).run P w = .ok i.size w := by
  simp [sizeOf, run_typeInfo' h]
theorem run_isAgg' {P : Program} {t : TypeId} {i : TI} (h : tinfo P t = some i) (w : World) : (isAgg t).run P w = .ok i.isAgg w := by
  obtain ⟨x, hx, hu, -⟩ := tinfo_some h
  unfold isAgg
  simp only [Sem.run_bind, run_underlying' hu, Result.andThen_ok]
  unfold TI.isAgg
  cases i.kind <;> rfl
theorem run_zeroValue' {P : Program} {t : TypeId} {i : TI} (h : tinfo P t = some i) (w : World) : (zeroValue t).run P w = .ok i.zero w := by
  obtain ⟨x, hx, hu, -, -, hz⟩ := tinfo_some h
  simp [zeroValue, run_typeInfo' hx, hz]

theorem add_lit (b o n : Nat) : (⟨b, o, none⟩ : Addr).add n = ⟨b, o + n, none⟩ := by
  unfold Addr.add; split <;> simp_all

/-- A load out of cells that are known. -/
theorem run_load_part {P : Program} {w : World} {t : TypeId} {i : TI} (ht : tinfo P t = some i) (b o : Nat) (n : Nat) (c : Nat → Value)
    (hc : ∀ l, l < n → w.cell? ⟨b, o + l, none⟩ = some (c l)) (off : Nat) (h : cond i.isAgg (off + i.size ≤ n) (off < n)) (w' : World) (hs : Same w w') :
    (Instr.loadAt t (.pointer (some ⟨b, o + off, none⟩))).run P w' =
      .ok (cond i.isAgg (.agg ((List.range i.size).map fun l => c (off + l)).toArray) (c off)) w' := by
  obtain ⟨x, hx, hu, hsz, -⟩ := tinfo_some ht
  unfold Instr.loadAt Instr.sureAddr loadVar
  simp only [Sem.run_bind, Sem.run_pure, Result.andThen_ok, run_isAgg' ht]
  cases hag : i.isAgg
  · simp only [hag, cond_false] at h
    have hcell := hs.cell (hc off h)
    simp [hcell]
  · simp only [hag, cond_true] at h
    simp only [cond_true, if_true, Sem.run_bind, run_sizeOf' hx, Result.andThen_ok, hsz]
    have := run_loadCells (P := P) w' ⟨b, o + off, none⟩ i.size (fun l => c (off + l)) (fun j hj => by
      rw [add_lit]
      have := hs.cell (hc (off + j) (by omega))
      rw [← Nat.add_assoc] at this
      exact this)
    rw [this]
    simp

theorem ba_toList (l : List UInt8) : (ByteArray.mk ⟨l⟩).toList = l := by rw [ByteArray.toList_eq]
theorem mkStr_append (a b : List UInt8) : mkStr (a ++ b) = .string (ByteArray.mk ⟨a⟩ ++ ByteArray.mk ⟨b⟩) := by
  unfold mkStr
  congr 1

variable {E : TEnv}

def rq {R : Type} (b : Bool) (k : Option R) : Option R := cond b k none
theorem rq_some {R : Type} {b : Bool} {k : Option R} {r : R} (h : rq b k = some r) : b = true ∧ k = some r := by
  cases b
  · cases h
  · exact ⟨rfl, h⟩

/-- Binary operations on plain values: what has to hold, and the result. -/
def binV (op : BinOp) (x y : TV E) : Option (Bool × TV E) :=
  match x, y with
  | .dat (.int k) a, .dat (.int k') b =>
    match op with
    | .shl => some (decide (0 ≤ b), .dat (.int k) (k.wrap (a * 2 ^ (min b.toNat k.bits))))
    | .shr => some (decide (0 ≤ b), .dat (.int k) (a.fdiv (2 ^ (min b.toNat k.bits))))
    | .add => some (decide (k = k'), .dat (.int k) (k.wrap (a + b)))
    | .sub => some (decide (k = k'), .dat (.int k) (k.wrap (a - b)))
    | .mul => some (decide (k = k'), .dat (.int k) (k.wrap (a * b)))
    | .quo => some (decide (k = k') && !(b == 0), .dat (.int k) (k.wrap (a.tdiv b)))
    | .rem => some (decide (k = k') && !(b == 0), .dat (.int k) (a.tmod b))
    | .and => some (decide (k = k'), .dat (.int k) (k.wrap (BitVec.ofInt k.bits a &&& BitVec.ofInt k.bits b).toNat))
    | .or => some (decide (k = k'), .dat (.int k) (k.wrap (BitVec.ofInt k.bits a ||| BitVec.ofInt k.bits b).toNat))
    | .xor => some (decide (k = k'), .dat (.int k) (k.wrap (BitVec.ofInt k.bits a ^^^ BitVec.ofInt k.bits b).toNat))
    | .andNot => some (decide (k = k'), .dat (.int k) (k.wrap (BitVec.ofInt k.bits a &&& ~~~ BitVec.ofInt k.bits b).toNat))
    | .eql => some (decide (k = k'), .dat .bool (a == b))
    | .neq => some (decide (k = k'), .dat .bool (a != b))
    | .lss => some (decide (k = k'), .dat .bool (decide (a < b)))
    | .leq => some (decide (k = k'), .dat .bool (decide (a ≤ b)))
    | .gtr => some (decide (k = k'), .dat .bool (decide (b < a)))
    | .geq => some (decide (k = k'), .dat .bool (decide (b ≤ a)))
  | .dat .str a, .dat .str b =>
    match op with
    | .add => some (decide (a.length + b.length ≤ 9223372036854775807), .dat .str (a ++ b))
    | .eql => some (true, .dat .bool (a == b))
    | .neq => some (true, .dat .bool (!(a == b)))
    | .lss => some (true, .dat .bool (Op.bytesLess a b))
    | .leq => some (true, .dat .bool (Op.bytesLess a b || a == b))
    | .gtr => some (true, .dat .bool (!(Op.bytesLess a b || a == b)))
    | .geq => some (true, .dat .bool (!(Op.bytesLess a b)))
    | _ => none
  | _, _ => none

theorem binV_sound {P : Program} {w : World} {G : Ghost} {op : BinOp} {t : TypeId} {x y : Operand} {u v : Value} {du dv d : TV E} {c : Bool}
    (hu : VT E w G du u) (hv : VT E w G dv v) (h : binV op du dv = some (c, d)) (hob : c = true) :
    ∃ r, VT E w G d r ∧ ∀ w', (do eqGuard op t x y u v; binOp op t u v).run P w' = .ok r w' := by
  subst hob
  unfold binV at h
  split at h
  · rename_i k a k' b
    obtain rfl := hu.int_inv
    obtain rfl := hv.int_inv
    have hg : ∀ w', (eqGuard op t x y (.int k a) (.int k' b)).run P w' = .ok () w' := fun w' => by cases op <;> rfl
    cases op <;> simp only [Option.some.injEq, Prod.mk.injEq, Bool.and_eq_true, decide_eq_true_eq] at h <;> obtain ⟨hob, rfl⟩ := h
    case shl => exact ⟨_, .int _ _ _ _, fun w' => by simp [hg, binOp, Op.shift, show ¬ b < 0 from Int.not_lt.2 hob]⟩
    case shr => exact ⟨_, .int _ _ _ _, fun w' => by simp [hg, binOp, Op.shift, show ¬ b < 0 from Int.not_lt.2 hob]⟩
    case quo => obtain ⟨rfl, hb⟩ := hob; have hb : b ≠ 0 := by simpa using hb
                exact ⟨_, .int _ _ _ _, fun w' => by simp [hg, binOp, Op.intDiv, hb]⟩
    case rem => obtain ⟨rfl, hb⟩ := hob; have hb : b ≠ 0 := by simpa using hb
                exact ⟨_, .int _ _ _ _, fun w' => by simp [hg, binOp, Op.intDiv, hb]⟩
    all_goals
      subst hob
      first
        | exact ⟨_, .int _ _ _ _, fun w' => by simp only [Sem.run_bind, hg, Result.andThen_ok, binOp, ne_eq, not_true, if_false]; rfl⟩
        | exact ⟨_, .bool _ _ _, fun w' => by simp [hg, binOp, Op.intCmp]⟩
  · rename_i a b
    obtain rfl := hu.str_inv
    obtain rfl := hv.str_inv
    have hg : ∀ w', (eqGuard op t x y (mkStr a) (mkStr b)).run P w' = .ok () w' := fun w' => by cases op <;> rfl
    have hb : ∀ w', (do eqGuard op t x y (mkStr a) (mkStr b); binOp op t (mkStr a) (mkStr b)).run P w' = (Op.stringOp op ⟨⟨a⟩⟩ ⟨⟨b⟩⟩).run P w' := fun w' => by
      simp only [Sem.run_bind, hg, Result.andThen_ok]
      cases op <;> rfl
    simp only [hb]
    cases op <;> simp only [Option.some.injEq, Prod.mk.injEq, reduceCtorEq, decide_eq_true_eq] at h <;> obtain ⟨hob, rfl⟩ := h
    case add =>
      refine ⟨_, .str _ _ _, fun w' => ?_⟩
      rw [mkStr_append]
      have hsz : ∀ l : List UInt8, (ByteArray.mk ⟨l⟩).size = l.length := fun l => rfl
      have : ¬ (((⟨⟨a⟩⟩ : ByteArray).size + (⟨⟨b⟩⟩ : ByteArray).size : Nat) : Int) > IntKind.i64.max := by
        rw [hsz, hsz]
        have : IntKind.i64.max = 9223372036854775807 := by decide
        rw [this]; omega
      simp only [Op.stringOp, this, if_false]; rfl
    all_goals exact ⟨_, .bool _ _ _, fun w' => by simp [Op.stringOp]⟩
  · cases h

/-- Whether an operation reads memory; what it needs of another world to yield the same there. -/
def isLoad : Op → Bool
  | .load _ _ => true
  | _ => false
def SameL (o : Oper) (w w' : World) : Prop := isLoad o.op = true → Same w w'
theorem SameL.refl (o : Oper) (w : World) : SameL o w w := fun _ => Same.refl w
/-- The operation gives a value that reads as d, in this world and in every later one that keeps its blocks, and leaves the world alone. -/
def Gives (P : Program) (a : Act) (w : World) (G : Ghost) (o : Oper) (d : TV E) : Prop :=
  ∃ v, VT E w G d v ∧ ∀ w', SameL o w w' → (execOp a.eval o).run P w' = .ok (.value v) w'

section
variable {P : Program} {w0 : World} {G0 : Ghost} {st : TS E} {a : Act} {w : World} {G : Ghost} {o : Oper}
theorem gives_ev (hr : Rel E w0 G0 st a w G) (x : Operand) (ho : o.op = .move x ∨ o.op = .assign x) : Gives P a w G o (st.ev x) :=
  ⟨a.eval x, hr.ev x, fun w' _ => by rcases ho with ho | ho <;> simp [execOp, ho]⟩
theorem gives_v {f : (Operand → Value) → Sem Value} {d : TV E} (he : execOp a.eval o = (do let x ← f a.eval; pure (.value x)))
    (h : ∃ v, VT E w G d v ∧ ∀ w', SameL o w w' → (f a.eval).run P w' = .ok v w') : Gives P a w G o d := by
  obtain ⟨v, hv, h⟩ := h
  exact ⟨v, hv, fun w' hs => by simp [he, h w' hs]⟩
end

end Go.RT
