/-
  RT, part 32: operations and rows of operations: evaluated with continuations, and soundness.
-/
import Derived.Test.YtnbdahlceddihaaDoorR31
import Derived.Lib.Builder
namespace Go.RT
set_option linter.unusedVariables false

variable {E : TEnv}

/-- What stands around a piece of code: the program, the codes of its types, the contracts. -/
structure Cx (E : TEnv) where
  P : Program
  ty : TypeId → Option Ty
  Γ : List (Ctr E)
structure Cx.Ok (X : Cx E) : Prop where
  E : E.Ok
  Γ : ∀ C ∈ X.Γ, C.Ok X.P
  mix : X.P.follows .mixedOrders = true

/-- The rune at a place of a string, and its width. -/
def dec (l : List UInt8) (p : Nat) : Nat × Nat := Utf8.decode ⟨⟨l⟩⟩ p

/-- A pointer to a whole variable, turned to unsafe.Pointer or back. -/
def convP (P : Program) (src dst t : TypeId) (n : Nat) : Bool := match P.underlying src, P.underlying dst with
  | some (.pointer e), some .unsafePointer => (match P.info? e with | some j => !(Nat.beq j.size 0) | none => false) && Nat.blt 0 n
  | some .unsafePointer, some (.pointer u) => (match P.info? u with | some _ => true | none => false) && liesAt P P.depth t (n / P.cellsOf t) 0 u 1
  | _, _ => false

def opT {R : Type} (X : Cx E) (st : TS E) (o : Oper) (k : Ex E → TS E → Option R) : Option R :=
  match evalA X.P X.ty st o.op with
  | some p => rq p.1 (k .normal { st with t := setT st.t o.dst p.2 })
  | none => match memT X.P X.ty st o.dst o.op with
    | some p => rq p.1 (k .normal p.2)
    | none => match o.op with
      | .pick c x y => match st.ev c with
        | .dat .bool b => cond b (k .normal { st with t := setT st.t o.dst (st.ev x) }) (k .normal { st with t := setT st.t o.dst (st.ev y) })
        | _ => none
      | .call c => match c.callee with
        | .value x => match st.ev x with
          | .func (.func f) caps => callK st o.dst f (c.args.toList.map st.ev ++ caps) k X.Γ
          | _ => none
        | _ => none
      | .defer c => match c.callee with
        | .value x => match st.ev x with
          | .func (.func f) caps => k .normal { st with t := setT st.t o.dst .any, df := (f, c.args.toList.map st.ev ++ caps) :: st.df }
          | _ => none
        | _ => none
      | .panic x => match st.ev x with
        | .iface t d => k (.panic (.iface t d)) st
        | _ => none
      | .range t x => match tinfo X.P t, st.ev x with
        | some ⟨.string, _, _, _⟩, .dat .str l => k .normal { st with t := setT st.t o.dst (.ptr st.H.length 0), H := st.H ++ [.iter l 0] }
        | _, _ => none
      | .next x s => cond s (match st.ev x with
        | .ptr r 0 => match st.H[r]? with
          | some (.iter l p) => cond (Nat.blt p l.length)
              (k .normal { st with t := setT st.t o.dst (.tuple [.dat .bool true, .dat (.int .i64) (p : Int), .dat (.int .i32) ((dec l p).1 : Int)]), H := st.H.set r (.iter l (p + (dec l p).2)), d := r :: st.d })
              (k .normal { st with t := setT st.t o.dst (.tuple [.dat .bool false]) })
          | _ => none
        | _ => none) none
      | .convert src dst x => match st.ev x with
        | .ptr r 0 => match st.H[r]? with
          | some (.cells t cs) => rq (convP X.P src dst t cs.length) (k .normal { st with t := setT st.t o.dst (.ptr r 0) })
          | _ => none
        | _ => none
      | _ => none

def isDef : Op → Bool
  | .defer _ => true
  | _ => false

section
variable {X : Cx E} {st : TS E} {o : Oper}

theorem opT_sound {R : Type} (hX : X.Ok) {k : Ex E → TS E → Option R} {r : R} (h : opT X st o k = some r) : OpOk X.P o (dstL o.dst) (!(isDef o.op)) st (fun x st' => k x st' = some r) := by
  unfold opT at h
  split at h
  · rename_i p hp
    obtain ⟨h1, h2⟩ := rq_some h
    exact OpOk.of_does (fun w0 G0 a w G hr => (evalA_sound hX.E hr hp h1).does hr) h2 ((Fr.put st o.dst p.2).wide (fun i h => h) (fun _ => rfl))
  · split at h
    · rename_i p hp
      obtain ⟨h1, h2⟩ := rq_some h
      exact OpOk.of_does (fun w0 G0 a w G hr => memT_sound hX.E hr hp h1) h2 ((memT_fr hp).wide (fun i h => h) (fun _ => rfl))
    · split at h <;> try (cases h; done)
      · rename_i c x y ho
        split at h <;> try (cases h; done)
        rename_i b hb
        intro w0 G0 a w G hr
        have hv := hr.ev c
        rw [hb] at hv
        have hv := hv.bool_inv
        have hrun : (execOp a.eval o).run X.P w = .ok (.value (if b then a.eval x else a.eval y)) w := by
          simp [execOp, ho, hv, asBool]
        unfold Oper.wp
        rw [hrun]
        cases b <;> simp only [cond_true, cond_false] at h
        · exact ⟨_, G, hr.put (hr.ev y) o.dst, h, (Fr.put st o.dst _).wide (fun i h => h) (fun _ => rfl)⟩
        · exact ⟨_, G, hr.put (hr.ev x) o.dst, h, (Fr.put st o.dst _).wide (fun i h => h) (fun _ => rfl)⟩
      · rename_i c ho
        split at h <;> try (cases h; done)
        rename_i x hc
        split at h <;> try (cases h; done)
        rename_i f caps hx
        have := callK_sound (P := X.P) ho hc hx hX.Γ h
        rw [ho]
        exact this
      · rename_i c ho
        split at h <;> try (cases h; done)
        rename_i x hc
        split at h <;> try (cases h; done)
        rename_i f caps hx
        intro w0 G0 a w G hr
        have hv := hr.ev x
        rw [hx] at hv
        simp only [VT] at hv
        obtain ⟨cv, hcv, hcaps⟩ := hv
        have hrun : (execOp a.eval o).run X.P w = .ok (.defer { target := .fn (.func f) cv, args := c.args.map a.eval }) w := by
          simp [execOp, ho, resolve, hc, hcv, Deferred.ofValue]
        unfold Oper.wp
        rw [hrun]
        have hargs : VTs E w G (c.args.toList.map st.ev ++ caps) (c.args.map a.eval ++ cv).toList := by
          have := (evs_ok hr c.args.toList).append hcaps
          simpa using this
        have hr1 : Rel E w0 G0 { st with df := (f, c.args.toList.map st.ev ++ caps) :: st.df } { a with defers := { target := .fn (.func f) cv, args := c.args.map a.eval } :: a.defers } w G :=
          ⟨hr.evol, hr.size, hr.tmps, ⟨⟨cv, rfl, hargs⟩, hr.defers⟩, hr.boxes, hr.fix, hr.pins⟩
        refine ⟨_, G, hr1.put (d := .any) (by simp only [VT]) o.dst, h, ?_⟩
        exact ⟨setT_len _ _ _, fun i hi => setT_keep _ _ _ _ hi, ⟨[], rfl, fun _ _ _ => rfl⟩, Nat.le_refl _, fun hh => by rw [ho] at hh; cases hh⟩
      · rename_i x ho
        split at h <;> try (cases h; done)
        rename_i t d hx
        intro w0 G0 a w G hr
        have hv := hr.ev x
        rw [hx] at hv
        have hv0 := hv
        simp only [VT] at hv
        obtain ⟨u, hu, -⟩ := hv
        have hrun : (execOp a.eval o).run X.P w = .halt (.panic (a.eval x)) w := by
          simp [execOp, ho, Instr.panic, hu, goPanic]
        unfold Oper.wp
        rw [hrun]
        exact ⟨.panic (.iface t d), st, G, ⟨a.eval x, rfl, hv0⟩, hr, (fun h => nomatch h), h, Fr.refl _ _ _⟩
      · rename_i t x ho
        split at h <;> try (cases h; done)
        rename_i j1 j2 z l ht hd
        refine OpOk.of_does (fun w0 G0 a w G hr => ?_) h ?_
        · have hv := hr.ev x
          rw [hd] at hv
          obtain ⟨xt, hxt, hut, -⟩ := tinfo_some ht
          refine does_newBox hr (ob := .stringIter ⟨⟨l⟩⟩ 0) (x := .iter l 0) (heap_alloc_new w _) ?_
          simp only [execOp, ho, hv.str_inv, Instr.range, mkStr, Sem.run_bind, run_underlying' hut, Result.andThen_ok, Sem.run_pure]
          rfl
        · exact (Fr.mem st o.dst _ _ st.g [] (app_same _ _) (by simp)).wide (fun i h => h) (fun _ => rfl)
      · rename_i x s ho
        cases s <;> simp only [cond_true, cond_false] at h
        · cases h
        split at h <;> try (cases h; done)
        rename_i r hd
        split at h <;> try (cases h; done)
        rename_i l p hb
        cases hlt : Nat.blt p l.length <;> rw [hlt] at h <;> simp only [cond_true, cond_false] at h
        · refine OpOk.of_does (fun w0 G0 a w G hr => ?_) h ((Fr.put st o.dst _).wide (fun i h => h) (fun _ => rfl))
          have hv := hr.ev x
          rw [hd] at hv
          simp only [VT] at hv
          obtain ⟨b, he, hat⟩ := hv
          have hheap : w.heap[b]? = some (.stringIter ⟨⟨l⟩⟩ p) := hr.box hat hb
          have hlt' : ¬ p < (ByteArray.mk ⟨l⟩).size := fun hh => by
            have : Nat.blt p l.length = true := by rw [Nat.blt, Nat.ble_eq]; exact hh
            rw [hlt] at this; cases this
          have hrun : (execOp a.eval o).run X.P w = .ok (.value (.tuple #[.bool false])) w := by
            have hgo : (getObj b).run X.P w = .ok (.stringIter ⟨⟨l⟩⟩ p) w := by simp only [getObj, Sem.run, hheap]
            simp only [execOp, ho, Instr.next, he, Sem.run_bind, hgo, Result.andThen_ok, hlt', if_false, Sem.run_pure]
          refine ⟨_, _, w, G, hrun, .inl rfl, hr.put ?_ o.dst⟩
          simp only [VT]
          exact ⟨_, rfl, .cons (.bool _ _ _) (by simp only [VTs])⟩
        · refine OpOk.of_does (fun w0 G0 a w G hr => ?_) h ((Fr.mem st o.dst _ _ st.g [r] (set_same _ _ _) (by simp)).wide (fun i h => h) (fun _ => rfl))
          have hv := hr.ev x
          rw [hd] at hv
          simp only [VT] at hv
          obtain ⟨b, he, hat⟩ := hv
          have hheap : w.heap[b]? = some (.stringIter ⟨⟨l⟩⟩ p) := hr.box hat hb
          have hlt' : p < (ByteArray.mk ⟨l⟩).size := by rw [Nat.blt, Nat.ble_eq] at hlt; exact hlt
          have hbl : b < w.heap.size := (Array.getElem?_eq_some_iff.1 hheap).1
          let w' : World := { w with heap := w.heap.setIfInBounds b (.stringIter ⟨⟨l⟩⟩ (p + (dec l p).2)) }
          have hoth : ∀ b', b' ≠ b → w'.heap[b']? = w.heap[b']? := fun b' hb' => by
            show (w.heap.setIfInBounds b _)[b']? = _
            rw [Array.getElem?_setIfInBounds, if_neg (fun e => hb' e.symm)]
          have hnew : w'.heap[b]? = some (.stringIter ⟨⟨l⟩⟩ (p + (dec l p).2)) := by
            show (w.heap.setIfInBounds b _)[b]? = _
            rw [Array.getElem?_setIfInBounds, if_pos rfl, if_pos hbl]
          have hrun : (execOp a.eval o).run X.P w = .ok (.value (.tuple #[.bool true, .int .i64 p, .int .i32 (dec l p).1])) w' := by
            have hgo : (getObj b).run X.P w = .ok (.stringIter ⟨⟨l⟩⟩ p) w := by simp only [getObj, Sem.run, hheap]
            have hso : (setObj b (.stringIter ⟨⟨l⟩⟩ (p + (Utf8.decode ⟨⟨l⟩⟩ p).2))).run X.P w = .ok () w' := by
              simp only [setObj, Sem.run, hheap]
              rfl
            simp only [execOp, ho, Instr.next, he, Sem.run_bind, hgo, Result.andThen_ok, hlt', if_true, hso, Sem.run_pure, goInt, dec]
          have hR := hr.setBox (w' := w') hat (by simp [w']) rfl rfl rfl hoth (x := .iter l (p + (dec l p).2)) (fun _ => hnew)
          refine ⟨_, _, w', G, hrun, .inl rfl, hR.put (d := .tuple [.dat .bool true, .dat (.int .i64) (p : Int), .dat (.int .i32) ((dec l p).1 : Int)]) ?_ o.dst⟩
          simp only [VT]
          exact ⟨_, rfl, .cons (.bool _ _ _) (.cons (.int _ _ _ _) (.cons (.int _ _ _ _) (by simp only [VTs])))⟩
      · rename_i src dst x ho
        split at h <;> try (cases h; done)
        rename_i r hd
        split at h <;> try (cases h; done)
        rename_i t cs hb
        obtain ⟨hc, h⟩ := rq_some h
        refine OpOk.of_does (fun w0 G0 a w G hr => ?_) h ((Fr.put st o.dst _).wide (fun i h => h) (fun _ => rfl))
        have hv := hr.ev x
        rw [hd] at hv
        have hv0 := hv
        simp only [VT] at hv
        obtain ⟨b, he, hat⟩ := hv
        obtain ⟨vs, hh, hone, hvs⟩ := hr.box hat hb
        have hsz : vs.size = cs.length := by simpa using hvs.length
        have hsh : w.shape? b = some (t, cs.length) := by simp [World.shape?, hh, hsz]
        have hrun : (convert src dst (.pointer (some ⟨b, 0, none⟩))).run X.P w = .ok (.pointer (some ⟨b, 0, none⟩)) w := by
          unfold convP at hc
          split at hc
          · rename_i e hs hdd
            rw [Bool.and_eq_true] at hc
            obtain ⟨h1, h2⟩ := hc
            split at h1
            · rename_i j hj
              refine Lib.run_to_unsafe (j := j) w ⟨b, 0, none⟩ hs hdd hj (fun h0 => ?_) hsh ?_
              · rw [h0] at h1; cases h1
              · rw [Nat.blt, Nat.ble_eq] at h2; exact h2
            · cases h1
          · rename_i u hs hdd
            rw [Bool.and_eq_true] at hc
            obtain ⟨h1, h2⟩ := hc
            split at h1
            · rename_i j hj
              exact Lib.run_from_unsafe (j := j) w ⟨b, 0, none⟩ hs hdd hj hsh h2
            · cases h1
          · cases hc
        refine ⟨.value (.pointer (some ⟨b, 0, none⟩)), _, w, G, ?_, .inl rfl, hr.put (v := .pointer (some ⟨b, 0, none⟩)) (d := .ptr r 0) ?_ o.dst⟩
        · simp only [execOp, ho, he, Sem.run_bind, hrun, Result.andThen_ok, Sem.run_pure]
        · simp only [VT]; exact ⟨b, rfl, hat⟩

def guardT (all : Array Oper) (o : Oper) : List Nat := match o.guard with
  | some (j, _) => match (all[j]?).bind (·.dst) with
    | some t => [t]
    | none => []
  | none => []
def wrL (all : Array Oper) : List Oper → List Nat
  | [] => []
  | o :: os => dstL o.dst ++ (guardT all o ++ wrL all os)
def noDefL : List Oper → Bool
  | [] => true
  | o :: os => !(isDef o.op) && noDefL os

def thenK {R : Type} (k1 : TS E → Option R) (k : Ex E → TS E → Option R) : Ex E → TS E → Option R
  | .normal, st => k1 st
  | e, st => k e st

def opsT {R : Type} (X : Cx E) (all : Array Oper) : List Oper → TS E → (Ex E → TS E → Option R) → Option R
  | [], st, k => k .normal st
  | o :: rest, st, k => match o.guard with
    | none => opT X st o (thenK (fun st' => opsT X all rest st' k) k)
    | some (j, want) => match (all[j]?).bind (·.dst) with
      | some t => match st.at t with
        | .dat .bool b => cond b
            (cond want (opT X { st with t := st.t.set t (.dat .bool true) } o (thenK (fun st' => opsT X all rest st' k) k))
              (opsT X all rest { st with t := setT (st.t.set t (.dat .bool true)) o.dst (.val undef) } k))
            (cond want (opsT X all rest { st with t := setT (st.t.set t (.dat .bool false)) o.dst (.val undef) } k)
              (opT X { st with t := st.t.set t (.dat .bool false) } o (thenK (fun st' => opsT X all rest st' k) k)))
        | .val (.bool _) => none
        | .val _ => opsT X all rest { st with t := setT st.t o.dst (.val undef) } k
        | _ => none
      | none => none

theorem CPost.mono {w0 : World} {G0 : Ghost} {Q Q' : Ex E → TS E → Prop} (h : ∀ x s, Q x s → Q' x s) {e : Exit} {a : Act} {w : World} (hp : CPost E w0 G0 Q e a w) : CPost E w0 G0 Q' e a w := by
  obtain ⟨x, s, G, h1, h2, h3⟩ := hp
  exact ⟨x, s, G, h1, h2, h _ _ h3⟩

theorem upon_mono {P : Program} {o : Oper} {a : Act} {w : World} {n1 n2 : Act → World → Prop} {Q1 Q2 : Exit → Act → World → Prop} (hn : ∀ a w, n1 a w → n2 a w) (hq : ∀ e a w, Q1 e a w → Q2 e a w) (h : o.wp P a w n1 Q1) : o.wp P a w n2 Q2 := by
  have hout : LetsOut Q1 → LetsOut Q2 := fun ⟨a, w, h⟩ => ⟨a, w, hq _ _ _ h⟩
  unfold Oper.wp at *
  generalize (execOp a.eval o).run P w = r at *
  cases r with
  | ok n w' =>
    cases n <;> simp only [Oper.upon] at h ⊢
    case value u => exact hn _ _ h
    case skip => exact hn _ _ h
    case defer d => exact hn _ _ h
    case enter f args =>
      refine Calls.mono h fun e w'' he => ?_
      cases e with
      | returned u => exact hn _ _ he
      | panicked c => exact hq _ _ _ he
      | outgrown => exact hout he
    case row row args => exact Rows.mono h fun u w'' he => hn _ _ he
  | halt x w' =>
    cases x <;> simp only [Oper.upon] at h ⊢
    case panic u => exact hq _ _ _ h

theorem wanted_bool {w0 w : World} {G0 G : Ghost} {a : Act} (hr : Rel E w0 G0 st a w G) {all : Array Oper} {j t : Nat} {want b : Bool} (hg : o.guard = some (j, want)) (ht : (all[j]?).bind (·.dst) = some t) (hb : st.at t = .dat .bool b) :
    Region.wanted o (yielded all a.tmps) = (b == want) ∧ a.tmps[t]? = some (.bool b) := by
  have hv := hr.at t
  rw [hb] at hv
  have hv := hv.bool_inv
  have hlt : t < st.t.length := by
    rcases Nat.lt_or_ge t st.t.length with h | h
    · exact h
    · simp [TS.at, List.getD, List.getElem?_eq_none h] at hb
  have h2 : a.tmps[t]? = some (.bool b) := by
    have : t < a.tmps.size := by rw [hr.size]; exact hlt
    rw [← hv]
    simp [Array.getD, this]
  refine ⟨?_, h2⟩
  unfold Region.wanted yielded
  rw [hg]
  simp only [ht, Option.bind_some, h2]
  cases b <;> cases want <;> rfl

theorem wanted_val {w0 w : World} {G0 G : Ghost} {a : Act} (hr : Rel E w0 G0 st a w G) {all : Array Oper} {j t : Nat} {want : Bool} {u : Value} (hg : o.guard = some (j, want)) (ht : (all[j]?).bind (·.dst) = some t) (hb : st.at t = .val u) (hu : ∀ b, u ≠ .bool b) :
    Region.wanted o (yielded all a.tmps) = false := by
  have hv := hr.at t
  rw [hb] at hv
  simp only [VT] at hv
  have hlt : t < st.t.length := by
    rcases Nat.lt_or_ge t st.t.length with h | h
    · exact h
    · simp [TS.at, List.getD, List.getElem?_eq_none h] at hb
  have h2 : a.tmps[t]? = some u := by
    have : t < a.tmps.size := by rw [hr.size]; exact hlt
    rw [← hv]
    simp [Array.getD, this]
  unfold Region.wanted yielded
  rw [hg]
  simp only [ht, Option.bind_some, h2]
  cases u <;> first | rfl | (rename_i b; exact (hu b rfl).elim)

/-- A slot that holds a bool gets that bool as a literal. -/
theorem Rel.lit {w0 w : World} {G0 G : Ghost} {a : Act} (hr : Rel E w0 G0 st a w G) {t : Nat} {b : Bool} (h : a.tmps[t]? = some (.bool b)) : Rel E w0 G0 { st with t := st.t.set t (.dat .bool b) } a w G := by
  refine ⟨hr.evol, by simpa using hr.size, fun j d hj => ?_, hr.defers, hr.boxes, hr.fix, hr.pins⟩
  simp only [List.getElem?_set] at hj
  by_cases hij : t = j
  · subst hij
    have hlt : t < st.t.length := by rw [← hr.size]; exact (Array.getElem?_eq_some_iff.1 h).1
    simp [hlt] at hj
    subst hj
    have : a.tmps.getD t undef = .bool b := by simp [Array.getD_eq_getD_getElem?, h]
    rw [this]
    exact .bool _ _ _
  · rw [if_neg hij] at hj
    exact hr.tmps j d hj

theorem Fr.lit (st : TS E) (t : Nat) (d : TV E) : Fr [t] true st { st with t := st.t.set t d } :=
  ⟨by simp, fun i hi => by
    show (st.t.set t d)[i]? = _
    rw [List.getElem?_set_ne (fun e => hi (by simp [e]))], ⟨[], rfl, fun _ _ _ => rfl⟩, Nat.le_refl _, fun _ => rfl⟩

theorem opsT_sound {R : Type} (hX : X.Ok) {all : Array Oper} {k : Ex E → TS E → Option R} {r : R} : ∀ {l : List Oper} {st : TS E}, opsT X all l st k = some r → AOps E X.P all l st (fun x st' => k x st' = some r ∧ Fr (wrL all l) (noDefL l) st st')
  | [], st, h => fun w0 G0 a w G hr => ⟨.normal, st, G, trivial, hr, h, Fr.refl _ _ _⟩
  | o :: rest, st, h => by
    have ih : ∀ {st : TS E}, opsT X all rest st k = some r → AOps E X.P all rest st (fun x st' => k x st' = some r ∧ Fr (wrL all rest) (noDefL rest) st st') := fun h => opsT_sound hX h
    -- one operation and the rest
    have step : ∀ (s0 s1 : TS E), Fr (guardT all o) true s0 s1 → opT X s1 o (thenK (fun st' => opsT X all rest st' k) k) = some r → ∀ w0 G0 a w G, Rel E w0 G0 s1 a w G →
        o.wp X.P a w (wpList X.P all (CPost E w0 G0 fun x st' => k x st' = some r ∧ Fr (wrL all (o :: rest)) (noDefL (o :: rest)) s0 st') rest) (CPost E w0 G0 fun x st' => k x st' = some r ∧ Fr (wrL all (o :: rest)) (noDefL (o :: rest)) s0 st') := by
      intro s0 s1 hF0 h w0 G0 a w G hr
      have h1 := opT_sound hX h w0 G0 a w G hr
      have hF : ∀ {s2 s3 : TS E}, Fr (dstL o.dst) (!(isDef o.op)) s1 s2 → Fr (wrL all rest) (noDefL rest) s2 s3 → Fr (wrL all (o :: rest)) (noDefL (o :: rest)) s0 s3 := fun f1 f2 =>
        (hF0.trans f1 (W := dstL o.dst ++ guardT all o) (n := !(isDef o.op)) (fun i hi => by simp [hi]) (fun i hi => by simp [hi]) (fun h => ⟨rfl, h⟩)).trans f2 (fun i hi => by
          simp only [wrL, List.mem_append] at hi ⊢; rcases hi with hi | hi <;> simp [hi]) (fun i hi => by simp [wrL, hi]) (fun h => by
          simp only [noDefL, Bool.and_eq_true] at h; exact h)
      refine upon_mono (fun a' w' hn => ?_) (fun e a' w' hp => ?_) h1
      · obtain ⟨s2, G2, hr2, hk, f1⟩ := hn
        simp only [thenK] at hk
        have hA := ih hk w0 G0 a' w' G2 hr2
        have key : ∀ (l : List Oper) (a : Act) (w : World) {Q1 Q2 : Exit → Act → World → Prop}, (∀ e a w, Q1 e a w → Q2 e a w) → wpList X.P all Q1 l a w → wpList X.P all Q2 l a w := by
          intro l
          induction l with
          | nil => intro a w Q1 Q2 hq h; exact hq _ _ _ h
          | cons o l ihl =>
            intro a w Q1 Q2 hq h
            unfold wpList at h ⊢
            split
            · rename_i hw
              rw [if_pos hw] at h
              rcases h with h | ⟨h, a1, w1, h2⟩
              · exact .inl (upon_mono (fun a w h => ihl a w hq h) hq h)
              · exact .inr ⟨h, a1, w1, hq _ _ _ h2⟩
            · rename_i hw
              rw [if_neg hw] at h
              exact ihl _ _ hq h
        exact key rest a' w' (fun e a w hp => CPost.mono (fun x s hh => ⟨hh.1, hF f1 hh.2⟩) hp) hA
      · obtain ⟨x, s2, G2, he, hr2, hn, hk, f1⟩ := hp
        cases x with
        | normal => exact (hn rfl).elim
        | _ => exact ⟨_, s2, G2, he, hr2, hk, hF f1 (Fr.refl _ _ _)⟩
    simp only [opsT] at h
    intro w0 G0 a w G hr
    split at h
    · rename_i hg
      unfold wpList
      rw [if_pos (by simp [Region.wanted, hg])]
      exact .inl (step st st (by unfold guardT; rw [hg]; exact Fr.refl _ _ _) h w0 G0 a w G hr)
    · rename_i j want hg
      split at h <;> try (cases h; done)
      rename_i t ht
      have hgt : guardT all o = [t] := by unfold guardT; rw [hg]; simp only [ht]
      have skip : ∀ (s1 : TS E), Fr (guardT all o) true st s1 → Rel E w0 G0 s1 a w G → opsT X all rest { s1 with t := setT s1.t o.dst (.val undef) } k = some r →
          wpList X.P all (CPost E w0 G0 fun x st' => k x st' = some r ∧ Fr (wrL all (o :: rest)) (noDefL (o :: rest)) st st') rest (a.put o.dst undef) w := by
        intro s1 f0 hr1 hk
        have hr2 := hr1.put (v := undef) (d := .val undef) (by simp only [VT]) o.dst
        have hA := ih hk w0 G0 _ w G hr2
        have key : ∀ (l : List Oper) (a : Act) (w : World) {Q1 Q2 : Exit → Act → World → Prop}, (∀ e a w, Q1 e a w → Q2 e a w) → wpList X.P all Q1 l a w → wpList X.P all Q2 l a w := by
          intro l
          induction l with
          | nil => intro a w Q1 Q2 hq h; exact hq _ _ _ h
          | cons o l ihl =>
            intro a w Q1 Q2 hq h
            unfold wpList at h ⊢
            split
            · rename_i hw
              rw [if_pos hw] at h
              rcases h with h | ⟨h, a1, w1, h2⟩
              · exact .inl (upon_mono (fun a w h => ihl a w hq h) hq h)
              · exact .inr ⟨h, a1, w1, hq _ _ _ h2⟩
            · rename_i hw
              rw [if_neg hw] at h
              exact ihl _ _ hq h
        refine key rest _ w (fun e a w hp => CPost.mono (fun x s hh => ⟨hh.1, ?_⟩) hp) hA
        have f1 : Fr (dstL o.dst) (!(isDef o.op)) s1 { s1 with t := setT s1.t o.dst (.val undef) } := (Fr.put s1 o.dst (.val undef)).wide (fun i h => h) (fun _ => rfl)
        exact (f0.trans f1 (W := dstL o.dst ++ guardT all o) (n := !(isDef o.op)) (fun i hi => by simp [hi]) (fun i hi => by simp [hi]) (fun h => ⟨rfl, h⟩)).trans hh.2 (fun i hi => by
          simp only [wrL, List.mem_append] at hi ⊢; rcases hi with hi | hi <;> simp [hi]) (fun i hi => by simp [wrL, hi]) (fun h => by
          simp only [noDefL, Bool.and_eq_true] at h; exact h)
      split at h <;> try (cases h; done)
      · rename_i b hb
        obtain ⟨hw, hbv⟩ := wanted_bool hr hg ht hb
        have hl := hr.lit hbv
        have hfl : Fr (guardT all o) true st { st with t := st.t.set t (.dat .bool b) } := by rw [hgt]; exact Fr.lit st t _
        unfold wpList
        cases b <;> cases want <;> simp only [cond_true, cond_false] at h
        · rw [if_pos (by rw [hw]; rfl)]
          exact .inl (step _ _ hfl h w0 G0 a w G hl)
        · rw [if_neg (by rw [hw]; simp)]
          exact skip _ hfl hl h
        · rw [if_neg (by rw [hw]; simp)]
          exact skip _ hfl hl h
        · rw [if_pos (by rw [hw]; rfl)]
          exact .inl (step _ _ hfl h w0 G0 a w G hl)
      · rename_i u hnb hu
        have hw := wanted_val hr hg ht hu (fun b e => hnb b e)
        unfold wpList
        rw [if_neg (by rw [hw]; simp)]
        exact skip st (Fr.refl _ _ _) hr h
end

end Go.RT
