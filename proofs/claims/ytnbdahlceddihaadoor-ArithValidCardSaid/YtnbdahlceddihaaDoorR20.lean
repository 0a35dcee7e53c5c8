/-
  RT, part 20: more operations that leave memory alone: equality, max and min, type assertions, the data of a slice.
-/
import Derived.Test.YtnbdahlceddihaaDoorR19
import Derived.Lib.UnsafeStr
namespace Go.RT
set_option linter.unusedVariables false

variable {E : TEnv}

/-- Equality of bools, of pointers, of values of interface and function types with nil. -/
def eqX (P : Program) (t : TypeId) (yc : Bool) (x y : TV E) : Option Bool :=
  match tinfo P t, x, y with
  | some ⟨.bool, _, _, _⟩, .dat .bool a, .dat .bool b => some (a == b)
  | some ⟨.pointer _, _, _, _⟩, .optr c _ _, .val (.pointer none) => some (!c)
  | some ⟨.pointer _, _, _, _⟩, .ptr _ _, .val (.pointer none) => some false
  | some ⟨.pointer _, _, _, _⟩, .cel _ _ _, .val (.pointer none) => some false
  | some ⟨.pointer _, _, _, _⟩, .val (.pointer none), .val (.pointer none) => some true
  | some ⟨.pointer e, _, _, _⟩, .optr c r off, .ptr r' off' => cond (Nat.beq r r' && Nat.beq off off') (match tinfo P e with | some _ => some c | none => none) none
  | some ⟨.pointer e, _, _, _⟩, .ptr r off, .ptr r' off' => cond (Nat.beq r r' && Nat.beq off off') (match tinfo P e with | some _ => some true | none => none) none
  | some ⟨.interface _, _, _, _⟩, .iface _ _, .val .nilIface => some false
  | some ⟨.interface _, _, _, _⟩, .val .nilIface, .val .nilIface => cond yc (some true) none
  | some ⟨.func _ _ _, _, _, _⟩, .func _ _, .val .nilFunc => some false
  | some ⟨.func _ _ _, _, _, _⟩, .val .nilFunc, .val .nilFunc => some true
  | _, _, _ => none

def isConst : Operand → Bool
  | .const _ => true
  | _ => false

def eqRes (op : BinOp) (b : Bool) : Bool := match op with
  | .eql => b
  | _ => !b

theorem run_sameAddr_self {P : Program} (a : Addr) (w : World) : (sameAddr a a).run P w = .ok true w := by simp [sameAddr]

theorem eqX_sound {P : Program} {w : World} {G : Ghost} {t : TypeId} {x y : Operand} {u v : Value} {du dv : TV E} {b : Bool}
    (hu : VT E w G du u) (hv : VT E w G dv v) (h : eqX P t (isConst y) du dv = some b) (op : BinOp) (hop : op = .eql ∨ op = .neq) :
    ∀ w', (do eqGuard op t x y u v; binOp op t u v).run P w' = .ok (.bool (eqRes op b)) w' := by
  have fin : (∀ w', (eqGuard op t x y u v).run P w' = .ok () w') → (∀ w' d, (Op.equalIn (d + 1) t u v).run P w' = .ok b w') → (∀ op', op' = .eql ∨ op' = .neq → binOp op' t u v = (do let r ← Op.equal t u v; pure (.bool (eqRes op' r)))) →
      ∀ w', (do eqGuard op t x y u v; binOp op t u v).run P w' = .ok (.bool (eqRes op b)) w' := by
    intro h1 h2 h3 w'
    simp only [Sem.run_bind, h1, Result.andThen_ok, h3 op hop, Op.equal, Op.maxDepth, h2 w' 9999, Sem.run_pure]
  unfold eqX at h
  split at h <;> try (cases h; done)
  · rename_i j1 j2 z a c ht
    cases h
    obtain ⟨xt, hxt, hut, -⟩ := tinfo_some ht
    rw [hu.bool_inv, hv.bool_inv] at *
    exact fin (fun w' => by rcases hop with rfl | rfl <;> rfl) (fun w' d => by simp [Op.equalIn, run_underlying' hut]) (fun op' h => by rcases h with rfl | rfl <;> rfl)
  · rename_i e j1 j2 z c r off ht
    cases h
    obtain ⟨xt, hxt, hut, -⟩ := tinfo_some ht
    cases c <;> simp only [VT] at hu hv
    · subst hu; subst hv
      exact fin (fun w' => by rcases hop with rfl | rfl <;> rfl) (fun w' d => by simp [Op.equalIn, run_underlying' hut]) (fun op' h => by rcases h with rfl | rfl <;> rfl)
    · obtain ⟨b, rfl, -⟩ := hu
      subst hv
      exact fin (fun w' => by rcases hop with rfl | rfl <;> rfl) (fun w' d => by simp [Op.equalIn, run_underlying' hut]) (fun op' h => by rcases h with rfl | rfl <;> rfl)
  · rename_i e j1 j2 z r off ht
    cases h
    obtain ⟨xt, hxt, hut, -⟩ := tinfo_some ht
    simp only [VT] at hu hv
    obtain ⟨b, rfl, -⟩ := hu
    subst hv
    exact fin (fun w' => by rcases hop with rfl | rfl <;> rfl) (fun w' d => by simp [Op.equalIn, run_underlying' hut]) (fun op' h => by rcases h with rfl | rfl <;> rfl)
  · rename_i e j1 j2 z T y' off ht
    cases h
    obtain ⟨xt, hxt, hut, -⟩ := tinfo_some ht
    simp only [VT] at hu hv
    obtain ⟨b, o, c, rfl, -⟩ := hu
    subst hv
    exact fin (fun w' => by rcases hop with rfl | rfl <;> rfl) (fun w' d => by simp [Op.equalIn, run_underlying' hut]) (fun op' h => by rcases h with rfl | rfl <;> rfl)
  · rename_i e j1 j2 z ht
    cases h
    obtain ⟨xt, hxt, hut, -⟩ := tinfo_some ht
    simp only [VT] at hu hv
    subst hu; subst hv
    exact fin (fun w' => by rcases hop with rfl | rfl <;> rfl) (fun w' d => by simp [Op.equalIn, run_underlying' hut]) (fun op' h => by rcases h with rfl | rfl <;> rfl)
  · rename_i e j1 j2 z c r off r' off' ht
    obtain ⟨xt, hxt, hut, -⟩ := tinfo_some ht
    cases hb : (Nat.beq r r' && Nat.beq off off') <;> rw [hb] at h <;> simp only [cond_true, cond_false] at h
    · cases h
    rw [Bool.and_eq_true] at hb
    obtain rfl := Nat.eq_of_beq_eq_true hb.1
    obtain rfl := Nat.eq_of_beq_eq_true hb.2
    split at h <;> try (cases h; done)
    rename_i ie hie
    cases h
    obtain ⟨xe, hxe, -⟩ := tinfo_some hie
    cases b <;> simp only [VT] at hu hv
    · obtain ⟨b, rfl, -⟩ := hv
      subst hu
      exact fin (fun w' => by rcases hop with rfl | rfl <;> rfl) (fun w' d => by simp [Op.equalIn, run_underlying' hut]) (fun op' h => by rcases h with rfl | rfl <;> rfl)
    · obtain ⟨b, rfl, h1⟩ := hu
      obtain ⟨b', rfl, h2⟩ := hv
      rw [h1] at h2
      cases h2
      exact fin (fun w' => by rcases hop with rfl | rfl <;> rfl) (fun w' d => by simp [Op.equalIn, run_underlying' hut, sizeOf, typeInfo, hxe, run_sameAddr_self]) (fun op' h => by rcases h with rfl | rfl <;> rfl)
  · rename_i e j1 j2 z r off r' off' ht
    obtain ⟨xt, hxt, hut, -⟩ := tinfo_some ht
    cases hb : (Nat.beq r r' && Nat.beq off off') <;> rw [hb] at h <;> simp only [cond_true, cond_false] at h
    · cases h
    rw [Bool.and_eq_true] at hb
    obtain rfl := Nat.eq_of_beq_eq_true hb.1
    obtain rfl := Nat.eq_of_beq_eq_true hb.2
    split at h <;> try (cases h; done)
    rename_i ie hie
    cases h
    obtain ⟨xe, hxe, -⟩ := tinfo_some hie
    simp only [VT] at hu hv
    obtain ⟨b, rfl, h1⟩ := hu
    obtain ⟨b', rfl, h2⟩ := hv
    rw [h1] at h2
    cases h2
    exact fin (fun w' => by rcases hop with rfl | rfl <;> rfl) (fun w' d => by simp [Op.equalIn, run_underlying' hut, sizeOf, typeInfo, hxe, run_sameAddr_self]) (fun op' h => by rcases h with rfl | rfl <;> rfl)
  · rename_i ms j1 j2 z ty d ht
    cases h
    obtain ⟨xt, hxt, hut, -⟩ := tinfo_some ht
    simp only [VT] at hu hv
    obtain ⟨u', rfl, -⟩ := hu
    subst hv
    exact fin (fun w' => by rcases hop with rfl | rfl <;> rfl) (fun w' d => by simp [Op.equalIn, run_underlying' hut]) (fun op' h => by rcases h with rfl | rfl <;> rfl)
  · rename_i ms j1 j2 z ht
    obtain ⟨xt, hxt, hut, -⟩ := tinfo_some ht
    simp only [VT] at hu hv
    subst hu; subst hv
    cases hc : isConst y <;> rw [hc] at h <;> simp only [cond_true, cond_false] at h
    · cases h
    cases h
    have hcy : ∃ c, y = .const c := by unfold isConst at hc; split at hc; exact ⟨_, rfl⟩; cases hc
    obtain ⟨c, rfl⟩ := hcy
    exact fin (fun w' => by rcases hop with rfl | rfl <;> simp [eqGuard]) (fun w' d => by simp [Op.equalIn, run_underlying' hut]) (fun op' h => by rcases h with rfl | rfl <;> rfl)
  · rename_i f1 f2 f3 j1 j2 z fn caps ht
    cases h
    obtain ⟨xt, hxt, hut, -⟩ := tinfo_some ht
    simp only [VT] at hu hv
    obtain ⟨u', rfl, -⟩ := hu
    subst hv
    exact fin (fun w' => by rcases hop with rfl | rfl <;> rfl) (fun w' d => by simp [Op.equalIn, run_underlying' hut]) (fun op' h => by rcases h with rfl | rfl <;> rfl)
  · rename_i f1 f2 f3 j1 j2 z ht
    cases h
    obtain ⟨xt, hxt, hut, -⟩ := tinfo_some ht
    simp only [VT] at hu hv
    subst hu; subst hv
    exact fin (fun w' => by rcases hop with rfl | rfl <;> rfl) (fun w' d => by simp [Op.equalIn, run_underlying' hut]) (fun op' h => by rcases h with rfl | rfl <;> rfl)

/-- The zero value of a type. -/
def zeroTV (E : TEnv) (ty : Option Ty) : Value → TV E
  | .agg cs => packT E ty (cs.toList.map TV.ofV)
  | v => .ofV v

/-- A type assertion to a type that is no interface. -/
def assertT (E : TEnv) (ty : TypeId → Option Ty) (asserted : TypeId) (i : TI) (ok : Bool) (d : TV E) : Option (TV E) :=
  match i.kind, d with
  | .interface _, _ => none
  | _, .iface t v => cond (Nat.beq t asserted) (some (cond ok (.tuple [v, .dat .bool true]) v)) (cond ok (some (.tuple [zeroTV E (ty asserted) i.zero, .dat .bool false])) none)
  | _, .val .nilIface => cond ok (some (.tuple [zeroTV E (ty asserted) i.zero, .dat .bool false])) none
  | _, _ => none

def evalX (P : Program) (ty : TypeId → Option Ty) (st : TS E) : Op → Option (Bool × TV E)
  | .binOp op t x y _ => match op, eqX P t (isConst y) (st.ev x) (st.ev y) with
    | .eql, some b => some (true, .dat .bool b)
    | .neq, some b => some (true, .dat .bool (!b))
    | _, _ => none
  | .typeAssert x _ asserted ok => match tinfo P asserted with
    | some i => match assertT E ty asserted i ok (st.ev x) with
      | some d => some (i.zero.cells.toList.all (·.oneCell'), d)
      | none => none
    | none => none
  | .call c => match c.callee, c.args.toList, c.argTypes.toList with
    | .builtin .max, [x, y], _ => match st.ev x, st.ev y with
      | .dat (.int k) a, .dat (.int _) b => some (true, .dat (.int k) (cond (decide (a < b)) b a))
      | _, _ => none
    | .builtin .min, [x, y], _ => match st.ev x, st.ev y with
      | .dat (.int k) a, .dat (.int _) b => some (true, .dat (.int k) (cond (decide (b < a)) b a))
      | _, _ => none
    | .builtin .unsafeSliceData, [x], _ => match st.ev x with
      | .gsl j ver (.int .u8) xs => match st.g[j]? with
        | some g => some (Nat.beq g.ver ver, .sdp j ver xs)
        | none => none
      | _ => none
    | _, _, _ => none
  | _ => none

section
variable {P : Program} {w0 : World} {G0 : Ghost} {st : TS E} {a : Act} {w : World} {G : Ghost} {o : Oper}

theorem VT_zero (hE : E.Ok) {ty : Option Ty} {z : Value} (h : z.cells.toList.all (·.oneCell') = true) : VT E w G (zeroTV E ty z) z := by
  cases z with
  | agg cs => exact packT_sound hE VTs.ofValues (fun u hu => List.all_eq_true.1 h u hu)
  | _ => simp only [zeroTV]; exact VT_ofV w G _

theorem gives_assert (hE : E.Ok) (hr : Rel E w0 G0 st a w G) {ty : TypeId → Option Ty} {x : Operand} {xt t : TypeId} {ok : Bool} {i : TI} {d : TV E} (ho : o.op = .typeAssert x xt t ok) (ht : tinfo P t = some i) (h : assertT E ty t i ok (st.ev x) = some d)
    (hz : i.zero.cells.toList.all (·.oneCell') = true) : Gives P a w G o d := by
  have hv := hr.ev x
  obtain ⟨xi, hxi, hut, -⟩ := tinfo_some ht
  have hzv := VT_zero (w := w) (G := G) hE (ty := ty t) hz
  have tup : ∀ (u : Value) (d : TV E) (b : Bool), VT E w G d u → VT E w G (.tuple [d, .dat .bool b]) (.tuple #[u, .bool b]) := fun u d b hd => by
    simp only [VT]
    exact ⟨_, rfl, .cons hd (.cons (.bool _ _ _) .nil)⟩
  suffices hs : ∃ v, VT E w G d v ∧ ∀ w', (Instr.typeAssert (a.eval x) xt t ok).run P w' = .ok v w' by
    obtain ⟨v, h1, h2⟩ := hs
    exact gives_v (f := fun ρ => Instr.typeAssert (ρ x) xt t ok) (by simp [execOp, ho]) ⟨v, h1, fun w' _ => h2 w'⟩
  unfold assertT at h
  split at h <;> try (cases h; done)
  · rename_i ty' v' hd hni
    rw [hd] at hv
    simp only [VT] at hv
    obtain ⟨u, hu, hv⟩ := hv
    have hnot : ∀ ms, i.kind ≠ .interface ms := fun ms e => hni ms e
    cases hb : Nat.beq ty' t <;> rw [hb] at h <;> simp only [cond_true, cond_false] at h
    · have hne : ty' ≠ t := fun e => by rw [e, Nat.beq_refl] at hb; cases hb
      cases ok <;> simp only [cond_true, cond_false] at h
      · cases h
      cases h
      refine ⟨_, tup _ _ _ hzv, fun w' => ?_⟩
      rw [hu]
      unfold Instr.typeAssert
      simp only [Sem.run_bind, run_underlying' hut, Result.andThen_ok]
      cases hk : i.kind <;> simp_all [run_zeroValue' ht]
    · have he := Nat.eq_of_beq_eq_true hb
      subst he
      cases h
      cases ok
      · refine ⟨u, hv, fun w' => ?_⟩
        rw [hu]
        unfold Instr.typeAssert
        simp only [Sem.run_bind, run_underlying' hut, Result.andThen_ok]
        cases hk : i.kind <;> simp_all
      · refine ⟨_, tup _ _ _ hv, fun w' => ?_⟩
        rw [hu]
        unfold Instr.typeAssert
        simp only [Sem.run_bind, run_underlying' hut, Result.andThen_ok]
        cases hk : i.kind <;> simp_all
  · rename_i hd hni
    rw [hd] at hv
    simp only [VT] at hv
    cases ok <;> simp only [cond_true, cond_false] at h
    · cases h
    cases h
    refine ⟨_, tup _ _ _ hzv, fun w' => ?_⟩
    rw [hv]
    unfold Instr.typeAssert
    simp only [Sem.run_bind, run_underlying' hut, Result.andThen_ok]
    cases hk : i.kind <;> simp_all [run_zeroValue' ht]

theorem evalX_sound (hE : E.Ok) (hr : Rel E w0 G0 st a w G) {ty : TypeId → Option Ty} {d : TV E} {c : Bool} (h : evalX P ty st o.op = some (c, d)) (hc : c = true) : Gives P a w G o d := by
  cases ho : o.op <;> rw [ho] at h <;> simp only [evalX] at h <;> try (cases h; done)
  case binOp op t x y yt =>
    split at h <;> try (cases h; done)
    · rename_i b hb
      cases h
      exact gives_v (f := fun ρ => do eqGuard .eql t x y (ρ x) (ρ y); binOp .eql t (ρ x) (ρ y)) (by simp [execOp, ho]) ⟨_, .bool _ _ _, fun w' _ => eqX_sound (hr.ev x) (hr.ev y) hb .eql (.inl rfl) w'⟩
    · rename_i b hb
      cases h
      exact gives_v (f := fun ρ => do eqGuard .neq t x y (ρ x) (ρ y); binOp .neq t (ρ x) (ρ y)) (by simp [execOp, ho]) ⟨_, .bool _ _ _, fun w' _ => eqX_sound (hr.ev x) (hr.ev y) hb .neq (.inr rfl) w'⟩
  case typeAssert x xt t ok =>
    split at h <;> try (cases h; done)
    rename_i i hi
    split at h <;> try (cases h; done)
    rename_i d' hd
    cases h
    exact gives_assert hE hr ho hi hd hc
  case call c' =>
    split at h <;> try (cases h; done)
    · rename_i _ x y hcl ha
      split at h <;> try (cases h; done)
      rename_i k p k' q hx hy
      cases h
      have hvx := hr.ev x
      rw [hx] at hvx
      have hvy := hr.ev y
      rw [hy] at hvy
      have ha' : c'.args = #[x, y] := by rw [← Array.toArray_toList (xs := c'.args), ha]
      refine ⟨_, .int _ _ _ _, fun w' hs => ?_⟩
      unfold execOp
      simp only [ho, resolve, hcl, Sem.run_bind, Sem.run_pure, Result.andThen_ok, invoke, builtin, ha', List.map_toArray, List.map_cons, List.map_nil]
      rw [hvx.int_inv, hvy.int_inv]
      simp only [Builtin.max_, List.foldlM_cons, List.foldlM_nil, Builtin.max2, Sem.run_bind, Sem.run_pure, Result.andThen_ok]
      by_cases hpq : p < q <;> simp [hpq]
    · rename_i _ x y hcl ha
      split at h <;> try (cases h; done)
      rename_i k p k' q hx hy
      cases h
      have hvx := hr.ev x
      rw [hx] at hvx
      have hvy := hr.ev y
      rw [hy] at hvy
      have ha' : c'.args = #[x, y] := by rw [← Array.toArray_toList (xs := c'.args), ha]
      refine ⟨_, .int _ _ _ _, fun w' hs => ?_⟩
      unfold execOp
      simp only [ho, resolve, hcl, Sem.run_bind, Sem.run_pure, Result.andThen_ok, invoke, builtin, ha', List.map_toArray, List.map_cons, List.map_nil]
      rw [hvx.int_inv, hvy.int_inv]
      simp only [Builtin.min_, List.foldlM_cons, List.foldlM_nil, Builtin.min2, Sem.run_bind, Sem.run_pure, Result.andThen_ok]
      by_cases hpq : q < p <;> simp [hpq]
    · rename_i _ x hcl ha
      split at h <;> try (cases h; done)
      rename_i j ver xs hx
      split at h <;> try (cases h; done)
      rename_i g hg
      cases h
      have hver := Nat.eq_of_beq_eq_true hc
      have ha' : c'.args = #[x] := by rw [← Array.toArray_toList (xs := c'.args), ha]
      have hv := hr.ev x
      rw [hx] at hv
      simp only [VT] at hv
      obtain ⟨hvd, gx, gh, hgj, hle, heq⟩ := hv
      have hgg : gx = g := by
        have h2 : (G.g.map (·.1))[j]? = some gx := by simp [hgj]
        rw [hr.boxes.gs, hg] at h2
        exact (Option.some.inj h2).symm
      subst hgg
      have hve := heq hver.symm
      obtain ⟨n, ys, ho', hz0, hgb⟩ := hr.boxes.grow j gx gh hgj
      rcases hvd.slice_inv with ⟨ad, he, hn⟩ | ⟨b, off, cap, c, he, hcap, hk, -⟩
      · have hxs : xs = [] := by simpa using hn
        have : ad = none := by
          cases ad with
          | none => rfl
          | some ad => exact (hz0 ad 0 (hve ▸ he)).elim
        subst this
        refine ⟨.pointer none, ?_, fun w' hs => ?_⟩
        · simp only [VT]
          exact ⟨gx, gh, a.eval x, hgj, hle, hvd, fun _ => ⟨hve, .inl ⟨by rw [← hve, he], hxs, trivial⟩⟩⟩
        · unfold execOp
          simp only [ho, resolve, hcl, Sem.run_bind, Sem.run_pure, Result.andThen_ok, invoke, builtin, ha', List.map_toArray, List.map_cons, List.map_nil]
          rw [he, Lib.run_unsafeSliceData_nil]
          rfl
      · have hl : (xs.map (Ty.cells E (.int .u8))).length = xs.length := by simp
        rw [hl] at he
        have hc0 : cap ≠ 0 := fun e => by subst e; exact hz0 _ _ (hve ▸ he)
        have hoff : off = 0 := by
          rcases ho'.2 with ⟨hnil, -⟩ | ⟨g', cap', cur, h2, -⟩
          · rw [← hve, he] at hnil; cases hnil
          · rw [← hve, he] at h2
            simp only [Value.slice.injEq, Option.some.injEq, Addr.mk.injEq] at h2
            exact h2.1.2.1
        subst hoff
        refine ⟨.pointer (some ⟨b, 0, none⟩), ?_, fun w' hs => ?_⟩
        · simp only [VT]
          exact ⟨gx, gh, a.eval x, hgj, hle, hvd, fun _ => ⟨hve, .inr ⟨b, cap, by rw [← hve, he], rfl⟩⟩⟩
        · unfold execOp
          simp only [ho, resolve, hcl, Sem.run_bind, Sem.run_pure, Result.andThen_ok, invoke, builtin, ha', List.map_toArray, List.map_cons, List.map_nil]
          rw [he, Lib.run_unsafeSliceData_row _ _ _ _ _ _ hc0]
          rfl

/-- All operations that leave memory alone. -/
def evalA (P : Program) (ty : TypeId → Option Ty) (st : TS E) (o : Op) : Option (Bool × TV E) := match evalT P ty st o with
  | some x => some x
  | none => evalX P ty st o
theorem evalA_sound (hE : E.Ok) (hr : Rel E w0 G0 st a w G) {ty : TypeId → Option Ty} {d : TV E} {c : Bool} (h : evalA P ty st o.op = some (c, d)) (hc : c = true) : Gives P a w G o d := by
  unfold evalA at h
  split at h
  · rename_i x hx
    cases h
    exact evalT_sound hE hr hx hc
  · exact evalX_sound hE hr h hc
end

end Go.RT
