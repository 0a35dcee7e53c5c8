/-
  RT, part 11: the operations that leave memory alone, evaluated on an abstract state, and soundness.
-/
import Derived.Test.YtnbdahlceddihaaDoorR10
namespace Go.RT
set_option linter.unusedVariables false

variable {E : TEnv}

def TV.asList : TV E → Option ((T : Ty) × List (T.den E.D))
  | .dat (.lst T) xs => some ⟨T, xs⟩
  | .gsl _ _ T xs => some ⟨T, xs⟩
  | _ => none
theorem TV.asList_ok {d : TV E} {T : Ty} {xs : List (T.den E.D)} (h : d.asList = some ⟨T, xs⟩) : AsList d T xs := by
  unfold TV.asList at h
  split at h
  · cases h; exact .dat _ _
  · cases h; exact .gsl _ _ _ _
  · cases h

def okT (x : Option (TV E)) : Option (Bool × TV E) := match x with
  | some d => some (true, d)
  | none => none

def lenT (d : TV E) (k : TypeDesc) : Option (TV E) :=
  match k, d with
  | .string, .dat .str l => some (.dat (.int .i64) (l.length : Int))
  | .slice _, .dat (.lst T) xs => some (.dat (.int .i64) (xs.length : Int))
  | .slice _, .gsl _ _ T xs => some (.dat (.int .i64) (xs.length : Int))
  | .slice _, .val (.slice none 0 0) => some (.dat (.int .i64) (0 : Int))
  | _, _ => none

def convT (P : Program) (src dst : TypeId) (d : TV E) : Option (TV E) :=
  match d, tinfo P src, tinfo P dst with
  | .dat (.int _) n, some _, some ⟨.int kk, _, _, _⟩ => some (.dat (.int kk) (kk.wrap n))
  | .dat .str l, some _, some ⟨.string, _, _, _⟩ => some (.dat .str l)
  | _, _, _ => none

def evalT (P : Program) (ty : TypeId → Option Ty) (st : TS E) : Op → Option (Bool × TV E)
  | .move x => some (true, st.ev x)
  | .assign x => some (true, st.ev x)
  | .load t x => match tinfo P t, st.ev x with
    | some i, .cel T y off => okT (TV.part T y i.isAgg i.size off)
    | some i, .ptr r off => match st.H[r]? with
      | some (.cells _ cs) => okT (partC E (ty t) cs i.isAgg i.size off)
      | _ => none
    | _, _ => none
  | .nilCheck x => match st.ev x with
    | .ptr r off => some (true, .ptr r off)
    | .cel T y off => some (true, .cel T y off)
    | .func (.func f) cap => some (true, .func (.func f) cap)
    | _ => none
  | .binOp op _ x y _ => binV op (st.ev x) (st.ev y)
  | .unOp op _ x => match op, st.ev x with
    | .not, .dat .bool b => some (true, .dat .bool (!b))
    | .neg, .dat (.int k) n => some (true, .dat (.int k) (k.wrap (0 - n)))
    | .xor, .dat (.int k) n => some (true, .dat (.int k) (k.wrap (BitVec.ofInt k.bits (if k.signed then -1 else k.max) ^^^ BitVec.ofInt k.bits n).toNat))
    | _, _ => none
  | .makeFunc fn first cap => match first.toList with
    | [] => some (true, .func fn (cap.toList.map st.ev))
    | _ => none
  | .fieldAddr s x f => match tinfo P s, st.ev x with
    | some ⟨.struct fs, _, _, _⟩, .cel T y off => match fs[f]? with
      | some fd => match tinfo P fd.type with
        | some i => some (!(Nat.beq i.size 0), .cel T y (off + fd.offset))
        | none => none
      | none => none
    | some ⟨.struct fs, _, _, _⟩, .ptr r off => match fs[f]? with
      | some fd => match tinfo P fd.type with
        | some i => some (!(Nat.beq i.size 0), .ptr r (off + fd.offset))
        | none => none
      | none => none
    | _, _ => none
  | .field s x f => match tinfo P s, st.ev x with
    | some ⟨.struct fs, _, _, _⟩, .dat T y => match fs[f]? with
      | some fd => match tinfo P fd.type with
        | some i => match T.isAgg with
          | true => okT (TV.part T y i.isAgg i.size fd.offset)
          | false => none
        | none => none
      | none => none
    | some ⟨.struct fs, _, _, _⟩, .agg cs => match fs[f]? with
      | some fd => match tinfo P fd.type with
        | some i => okT (partC E (ty fd.type) cs i.isAgg i.size fd.offset)
        | none => none
      | none => none
    | _, _ => none
  | .indexAddr t x ix => match tinfo P t, (st.ev x).asList, st.ev ix with
    | some ⟨.slice e, _, _, _⟩, some ⟨T, xs⟩, .dat (.int _) n => match tinfo P e with
      | some i => some (Nat.beq i.size (T.size E) && (decide (0 ≤ n) && decide (n < (xs.length : Int))), .cel T (xs.getD (Int.toNat n) (T.dflt E)) 0)
      | none => none
    | _, _, _ => none
  | .index t x ix => match tinfo P t, st.ev x, st.ev ix with
    | some ⟨.string, _, _, _⟩, .dat .str l, .dat (.int _) n => some (decide (0 ≤ n) && decide (n < (l.length : Int)), .dat (.int .u8) ((l.getD (Int.toNat n) 0).toNat : Int))
    | _, _, _ => none
  | .extract x j => match st.ev x with
    | .tuple ds => okT ds[j]?
    | _ => none
  | .build t parts => match tinfo P t with
    | some ⟨.struct fs, _, _, .agg z⟩ => match fillT P fs (z.toList.map TV.ofV) (parts.toList.map fun p => (p.1, st.ev p.2)) with
      | some ds => some (z.toList.all (·.oneCell') && fs.toList.all (fun fd => (tinfo P fd.type).isSome), packT E (ty t) ds)
      | none => none
    | _ => none
  | .convert src dst x => okT (convT P src dst (st.ev x))
  | .makeInterface t x => match tinfo P t with
    | some ⟨.interface _, _, _, _⟩ => none
    | some _ => some (true, .iface t (st.ev x))
    | none => none
  | .slice t x lo hi none => match tinfo P t, st.ev x with
    | some ⟨.string, _, _, _⟩, .dat .str l => match boundT 0 (lo.map st.ev), boundT (l.length : Int) (hi.map st.ev) with
      | some p, some q => some (decide (0 ≤ p) && (decide (p ≤ q) && decide (q ≤ (l.length : Int))), .dat .str ((l.take q.toNat).drop p.toNat))
      | _, _ => none
    | some ⟨.slice e, _, _, _⟩, d => match d.asList, tinfo P e with
      | some ⟨T, xs⟩, some i => match boundT 0 (lo.map st.ev), boundT (xs.length : Int) (hi.map st.ev) with
        | some p, some q => some (Nat.beq i.size (T.size E) && (decide (0 ≤ p) && (decide (p ≤ q) && decide (q ≤ (xs.length : Int)))), .dat (.lst T) ((xs.take q.toNat).drop p.toNat))
        | _, _ => none
      | _, _ => none
    | _, _ => none
  | .call c => match c.callee, c.args.toList, c.argTypes.toList with
    | .builtin .len, [x], [t] => match tinfo P t with
      | some i => okT (lenT (st.ev x) i.kind)
      | none => none
    | _, _, _ => none
  | _ => none

section
variable {P : Program} {w0 : World} {G0 : Ghost} {st : TS E} {a : Act} {w : World} {G : Ghost} {o : Oper}

theorem okT_some {x : Option (TV E)} {c : Bool} {d : TV E} (h : okT x = some (c, d)) : x = some d := by
  cases x with
  | none => cases h
  | some y => cases h; rfl

theorem evalT_sound (hE : E.Ok) (hr : Rel E w0 G0 st a w G) {ty : TypeId → Option Ty} {d : TV E} {c : Bool} (h : evalT P ty st o.op = some (c, d)) (hc : c = true) : Gives P a w G o d := by
  cases ho : o.op <;> rw [ho] at h <;> simp only [evalT] at h
  case move x => cases h; exact gives_ev hr x (.inl ho)
  case assign x => cases h; exact gives_ev hr x (.inr ho)
  case load t x =>
    split at h <;> try (cases h; done)
    · rename_i i T y off hi hd
      exact gives_load_cel hE hr ho hi hd (okT_some h)
    · rename_i i r off hi hd
      split at h <;> try (cases h; done)
      rename_i t' cs hb
      exact gives_load_box hE hr ho hi hd hb (okT_some h)
  case nilCheck x =>
    have hv := hr.ev x
    split at h <;> try (cases h; done)
    · rename_i r off hd
      cases h
      rw [hd] at hv
      have hv' := hv
      simp only [VT] at hv'
      obtain ⟨b, he, -⟩ := hv'
      exact ⟨_, hv, fun w' hs => by simp [execOp, ho, he]⟩
    · rename_i T y off hd
      cases h
      rw [hd] at hv
      have hv' := hv
      simp only [VT] at hv'
      obtain ⟨b, o', c', he, -⟩ := hv'
      exact ⟨_, hv, fun w' hs => by simp [execOp, ho, he]⟩
    · rename_i f cap hd
      cases h
      rw [hd] at hv
      have hv' := hv
      simp only [VT] at hv'
      obtain ⟨vs, he, -⟩ := hv'
      exact ⟨_, hv, fun w' hs => by simp [execOp, ho, he]⟩
  case binOp op t x y ty' =>
    obtain ⟨r, hv, hrun⟩ := binV_sound (P := P) (op := op) (t := t) (x := x) (y := y) (hr.ev x) (hr.ev y) h hc
    exact gives_v (f := fun ρ => do eqGuard op t x y (ρ x) (ρ y); binOp op t (ρ x) (ρ y)) (by simp [execOp, ho]) ⟨r, hv, fun w' _ => hrun w'⟩
  case unOp op t x =>
    have hv := hr.ev x
    split at h <;> try (cases h; done)
    · rename_i b hd
      cases h
      rw [hd] at hv
      exact ⟨_, .bool _ _ _, fun w' hs => by simp [execOp, ho, hv.bool_inv, Op.unary]⟩
    · rename_i k n hd
      cases h
      rw [hd] at hv
      exact ⟨_, .int _ _ _ _, fun w' hs => by simp [execOp, ho, hv.int_inv, Op.unary, Op.intArith]⟩
    · rename_i k n hd
      cases h
      rw [hd] at hv
      exact ⟨_, .int _ _ _ _, fun w' hs => by
        simp only [execOp, ho, hv.int_inv, Op.unary]
        rfl⟩
  case makeFunc fn first cap =>
    split at h <;> try (cases h; done)
    rename_i hf
    cases h
    have hf' : first = #[] := by rw [← Array.toArray_toList (xs := first), hf]
    refine gives_v (f := fun ρ => Instr.makeFunc fn (first.map ρ) (cap.map ρ)) (by simp [execOp, ho]) ⟨.func fn #[] (cap.map a.eval), ?_, fun w' _ => by simp [Instr.makeFunc, hf']⟩
    simp only [VT]
    refine ⟨_, rfl, ?_⟩
    have : ∀ l : List Operand, VTs E w G (l.map st.ev) (l.map a.eval) := by
      intro l
      induction l with
      | nil => exact .nil
      | cons y l ih => exact .cons (hr.ev y) ih
    simpa using this cap.toList
  case fieldAddr s x f =>
    split at h <;> try (cases h; done)
    · rename_i fs j1 j2 z T y off hs hd
      split at h <;> try (cases h; done)
      rename_i fd hf
      split at h <;> try (cases h; done)
      rename_i i hi
      cases h
      refine gives_field_cel hr ho hs hf hi (fun h0 => ?_) hd
      rw [h0] at hc; cases hc
    · rename_i fs j1 j2 z r off hs hd
      split at h <;> try (cases h; done)
      rename_i fd hf
      split at h <;> try (cases h; done)
      rename_i i hi
      cases h
      refine gives_field_ptr hr ho hs hf hi (fun h0 => ?_) hd
      rw [h0] at hc; cases hc
  case field s x f =>
    have hv := hr.ev x
    split at h <;> try (cases h; done)
    · rename_i fs j1 j2 z T y hs hd
      split at h <;> try (cases h; done)
      rename_i fd hf
      split at h <;> try (cases h; done)
      rename_i i hi
      split at h <;> try (cases h; done)
      rename_i ha
      rw [hd] at hv
      obtain ⟨vs, he, hl⟩ := hv.aggr ha
      exact gives_field hr ho hs hf hi he (part_sound hE hl (okT_some h))
    · rename_i fs j1 j2 z cs hs hd
      split at h <;> try (cases h; done)
      rename_i fd hf
      split at h <;> try (cases h; done)
      rename_i i hi
      rw [hd] at hv
      simp only [VT] at hv
      obtain ⟨vs, he, h1, h2⟩ := hv
      exact gives_field hr ho hs hf hi he (partC_sound hE h2 (fun u hu => h1 u (by simpa using hu)) (okT_some h))
  case indexAddr t x ix =>
    split at h <;> try (cases h; done)
    rename_i e j1 j2 z T xs kd n ht hd hdi
    split at h <;> try (cases h; done)
    rename_i i hi
    cases h
    simp only [Bool.and_eq_true, decide_eq_true_eq] at hc
    exact gives_index hr ho ht hi (TV.asList_ok hd) hdi hc.2.1 hc.2.2 (Nat.eq_of_beq_eq_true hc.1)
  case index t x ix =>
    split at h <;> try (cases h; done)
    rename_i j1 j2 z l kd n ht hd hdi
    cases h
    simp only [Bool.and_eq_true, decide_eq_true_eq] at hc
    exact gives_str_index hr ho ht hd hdi hc.1 hc.2
  case extract x j =>
    split at h <;> try (cases h; done)
    rename_i ds hd
    exact gives_extract hr ho hd (okT_some h)
  case build t parts =>
    split at h <;> try (cases h; done)
    rename_i fs j1 j2 z ht
    split at h <;> try (cases h; done)
    rename_i ds hf
    cases h
    exact gives_build hE hr ho ht hc hf (ty t)
  case convert src dst x =>
    have hb := okT_some h
    have hv := hr.ev x
    unfold convT at hb
    split at hb <;> try (cases hb; done)
    · rename_i k n _ kk j1 j2 z hd hs hdst
      cases hb
      rw [hd] at hv
      obtain ⟨xs, hxs, hus, -⟩ := tinfo_some hs
      obtain ⟨xd, hxd, hud, -⟩ := tinfo_some hdst
      refine gives_v (f := fun ρ => convert src dst (ρ x)) (by simp [execOp, ho]) ⟨_, .int _ _ _ _, fun w' _ => ?_⟩
      rw [hv.int_inv]
      unfold convert
      simp only [Sem.run_bind, run_underlying' hus, run_underlying' hud, Result.andThen_ok]
      rfl
    · rename_i l _ j1 j2 z hd hs hdst
      cases hb
      rw [hd] at hv
      obtain ⟨xs, hxs, hus, -⟩ := tinfo_some hs
      obtain ⟨xd, hxd, hud, -⟩ := tinfo_some hdst
      refine gives_v (f := fun ρ => convert src dst (ρ x)) (by simp [execOp, ho]) ⟨_, .str _ _ _, fun w' _ => ?_⟩
      rw [hv.str_inv]
      unfold convert mkStr
      simp only [Sem.run_bind, run_underlying' hus, run_underlying' hud, Result.andThen_ok]
      rfl
  case makeInterface t x =>
    split at h <;> try (cases h; done)
    rename_i ti hne ht
    cases h
    obtain ⟨xt, hxt, hut, -⟩ := tinfo_some ht
    refine gives_v (f := fun ρ => Instr.makeInterface t (ρ x)) (by simp [execOp, ho]) ⟨.iface t (a.eval x), by simp only [VT]; exact ⟨_, rfl, hr.ev x⟩, fun w' _ => ?_⟩
    unfold Instr.makeInterface
    simp only [Sem.run_bind, run_underlying' hut, Result.andThen_ok]
    split
    · rename_i ms hk
      exact (hne ms _ _ _ (by rw [← hk])).elim
    · rfl
  case slice t x lo hi mx =>
    cases mx with
    | some m => simp at h
    | none =>
      simp only at h
      split at h <;> try (cases h; done)
      · rename_i j1 j2 z l ht hd
        split at h <;> try (cases h; done)
        rename_i p q hp hq
        cases h
        simp only [Bool.and_eq_true, decide_eq_true_eq] at hc
        exact gives_slice_str hr ho ht hd hp hq hc.1 hc.2.1 hc.2.2
      · rename_i e j1 j2 z ht
        split at h <;> try (cases h; done)
        rename_i T xs i hd hi'
        split at h <;> try (cases h; done)
        rename_i p q hp hq
        cases h
        simp only [Bool.and_eq_true, decide_eq_true_eq] at hc
        exact gives_slice_list hr ho ht hi' (TV.asList_ok hd) hp hq hc.2.1 hc.2.2.1 hc.2.2.2 (Nat.eq_of_beq_eq_true hc.1)
  case call c' =>
    split at h <;> try (cases h; done)
    rename_i x t hcl ha hat
    split at h <;> try (cases h; done)
    rename_i i ht
    have hb := okT_some h
    have hv := hr.ev x
    obtain ⟨kind, j1, j2, z⟩ := i
    unfold lenT at hb
    split at hb <;> try (cases hb; done)
    · rename_i l hk hd
      cases hb
      dsimp only at hk
      subst hk
      exact gives_len_str hr ho hcl ha hat ht hd
    · rename_i e T xs hk hd
      cases hb
      dsimp only at hk
      subst hk
      rw [hd] at hv
      exact gives_len_slice hr ho hcl ha hat ht ((AsList.dat T xs).header hv)
    · rename_i e j ver T xs hk hd
      cases hb
      dsimp only at hk
      subst hk
      rw [hd] at hv
      exact gives_len_slice hr ho hcl ha hat ht ((AsList.gsl j ver T xs).header hv)
    · rename_i e hk hd
      cases hb
      dsimp only at hk
      subst hk
      rw [hd] at hv
      simp only [VT] at hv
      exact gives_len_slice (n := 0) hr ho hcl ha hat ht ⟨_, _, hv⟩
  all_goals cases h
end

end Go.RT
