/-
  RT, part 31: one operation, and a row of operations, with continuations.
-/
import Derived.Test.YtnbdahlceddihaaDoorR30
namespace Go.RT
set_option linter.unusedVariables false

variable {E : TEnv}

/-- What stays as it was. -/
structure Fr (W : List Nat) (nd : Bool) (st st' : TS E) : Prop where
  len : st'.t.length = st.t.length
  keep : ∀ i, i ∉ W → st'.t[i]? = st.t[i]?
  d : ∃ D, st'.d = D ++ st.d ∧ ∀ r, r < st.H.length → r ∉ D → st'.H[r]? = st.H[r]?
  hl : st.H.length ≤ st'.H.length
  df : nd = true → st'.df = st.df

theorem Fr.refl (W : List Nat) (nd : Bool) (st : TS E) : Fr W nd st st := ⟨rfl, fun _ _ => rfl, ⟨[], rfl, fun _ _ _ => rfl⟩, Nat.le_refl _, fun _ => rfl⟩
theorem Fr.trans {W1 W2 W : List Nat} {n1 n2 n : Bool} {s1 s2 s3 : TS E} (h1 : Fr W1 n1 s1 s2) (h2 : Fr W2 n2 s2 s3) (hw1 : ∀ i, i ∈ W1 → i ∈ W) (hw2 : ∀ i, i ∈ W2 → i ∈ W) (hn : n = true → n1 = true ∧ n2 = true) : Fr W n s1 s3 := by
  obtain ⟨D1, d1, e1⟩ := h1.d
  obtain ⟨D2, d2, e2⟩ := h2.d
  refine ⟨h2.len.trans h1.len, fun i hi => (h2.keep i (fun h => hi (hw2 i h))).trans (h1.keep i (fun h => hi (hw1 i h))), ⟨D2 ++ D1, by rw [d2, d1, List.append_assoc], fun r hr hd => ?_⟩, Nat.le_trans h1.hl h2.hl, fun h => (h2.df (hn h).2).trans (h1.df (hn h).1)⟩
  rw [List.mem_append, not_or] at hd
  exact (e2 r (Nat.lt_of_lt_of_le hr h1.hl) hd.1).trans (e1 r hr hd.2)
theorem Fr.wide {W W' : List Nat} {n n' : Bool} {s s' : TS E} (h : Fr W n s s') (hw : ∀ i, i ∈ W → i ∈ W') (hn : n' = true → n = true) : Fr W' n' s s' :=
  ⟨h.len, fun i hi => h.keep i (fun hm => hi (hw i hm)), h.d, h.hl, fun h' => h.df (hn h')⟩

def dstL : Option Nat → List Nat
  | some i => [i]
  | none => []
theorem setT_len (l : List (TV E)) (dst : Option Nat) (d : TV E) : (setT l dst d).length = l.length := by cases dst <;> simp [setT]
theorem setT_keep (l : List (TV E)) (dst : Option Nat) (d : TV E) (i : Nat) (h : i ∉ dstL dst) : (setT l dst d)[i]? = l[i]? := by
  cases dst with
  | none => rfl
  | some j =>
    simp only [dstL, List.mem_singleton] at h
    simp only [setT]
    rw [List.getElem?_set_ne (fun e => h e.symm)]
theorem Fr.put (st : TS E) (dst : Option Nat) (d : TV E) : Fr (dstL dst) true st { st with t := setT st.t dst d } :=
  ⟨setT_len _ _ _, fun i hi => setT_keep _ _ _ _ hi, ⟨[], rfl, fun _ _ _ => rfl⟩, Nat.le_refl _, fun _ => rfl⟩
theorem Fr.mem (st : TS E) (dst : Option Nat) (d : TV E) (H : List (TBox E)) (g : List TGrow) (D : List Nat) (hH : ∀ r, r < st.H.length → r ∉ D → H[r]? = st.H[r]?) (hl : st.H.length ≤ H.length) :
    Fr (dstL dst) true st { st with t := setT st.t dst d, H := H, g := g, d := D ++ st.d } :=
  ⟨setT_len _ _ _, fun i hi => setT_keep _ _ _ _ hi, ⟨D, rfl, hH⟩, hl, fun _ => rfl⟩
theorem app_same {α : Type} (l m : List α) : ∀ r, r < l.length → r ∉ ([] : List Nat) → (l ++ m)[r]? = l[r]? := fun r hr _ => by rw [List.getElem?_append_left hr]
theorem set_same {α : Type} (l : List α) (q : Nat) (x : α) : ∀ r, r < l.length → r ∉ [q] → (l.set q x)[r]? = l[r]? := fun r _ hd => by
  rw [List.getElem?_set_ne (fun e => hd (by simp [e]))]

theorem memT_fr {P : Program} {ty : TypeId → Option Ty} {st st' : TS E} {dst : Option Nat} {op : Op} {c : Bool} (h : memT P ty st dst op = some (c, st')) : Fr (dstL dst) true st st' := by
  cases op <;> simp only [memT] at h <;> try (cases h; done)
  case alloc t => split at h <;> cases h; exact Fr.mem st dst _ _ st.g [] (app_same _ _) (by simp)
  case box t x => split at h <;> cases h; exact Fr.mem st dst _ _ st.g [] (app_same _ _) (by simp)
  case store t x y =>
    split at h <;> try (cases h; done)
    split at h <;> cases h
    exact Fr.mem st dst _ _ st.g [_] (set_same _ _ _) (by simp)
  case buildSlice t len parts =>
    split at h <;> try (cases h; done)
    split at h <;> try (cases h; done)
    split at h <;> try (cases h; done)
    cases hl : Nat.beq len 0 <;> rw [hl] at h <;> cases h
    · exact Fr.mem st dst _ st.H _ [] (fun _ _ _ => rfl) (Nat.le_refl _)
    · exact Fr.mem st dst _ st.H st.g [] (fun _ _ _ => rfl) (Nat.le_refl _)
  case call c' =>
    unfold callM at h
    split at h <;> try (cases h; done)
    · split at h <;> try (cases h; done)
      split at h <;> try (cases h; done)
      split at h <;> try (cases h; done)
      split at h <;> try (cases h; done)
      · split at h <;> try (cases h; done)
        split at h <;> cases h
        exact Fr.mem st dst _ st.H _ [] (fun _ _ _ => rfl) (Nat.le_refl _)
      · cases h
        exact Fr.mem st dst _ st.H _ [] (fun _ _ _ => rfl) (Nat.le_refl _)
    · split at h <;> try (cases h; done)
      split at h <;> cases h
      exact Fr.mem st dst _ st.H _ [] (fun _ _ _ => rfl) (Nat.le_refl _)
    · split at h <;> try (cases h; done)
      split at h <;> cases h
      exact Fr.put _ _ _
  case convert src dt x =>
    split at h
    · split at h <;> cases h; exact Fr.put _ _ _
    · split at h <;> cases h; exact Fr.put _ _ _
  case makeMap t res =>
    cases res with
    | some x => simp at h
    | none =>
      simp only at h
      split at h <;> try (cases h; done)
      split at h <;> cases h
      exact Fr.mem st dst _ _ st.g [] (app_same _ _) (by simp)
  case mapUpdate t x y z =>
    split at h <;> try (cases h; done)
    split at h <;> try (cases h; done)
    split at h <;> cases h
    exact Fr.mem st dst _ _ st.g [_] (set_same _ _ _) (by simp)
  case lookup t x y ok =>
    split at h <;> try (cases h; done)
    split at h <;> try (cases h; done)
    split at h <;> cases h
    exact Fr.put _ _ _

/-- Which boxes and rows of the state stand for those of a shape: found by comparing; nothing is proved of this. -/
structure Sl where
  b : List (Option Nat)
  g : List (Option Nat)
def Sl.setb (s : Sl) (r r' : Nat) : Sl := { s with b := s.b.set r (some r') }
def Sl.setg (s : Sl) (r r' : Nat) : Sl := { s with g := s.g.set r (some r') }
def unCaps (s : Sl) : List (Nat × Nat) → List (TV E) → Sl
  | (r, _) :: cs, .ptr r' _ :: ds => unCaps (s.setb r r') cs ds
  | _ :: cs, _ :: ds => unCaps s cs ds
  | _, _ => s
def CT.un (s : Sl) : CT → TV E → Sl
  | .ptr r _, .ptr r' _ => s.setb r r'
  | .optr r _, .ptr r' _ => s.setb r r'
  | .optr r _, .optr _ r' _ => s.setb r r'
  | .mref r, .mref r' => s.setb r r'
  | .gsl j _, .gsl j' _ _ _ => s.setg j j'
  | .func _ caps, .func _ cs => unCaps s caps cs
  | _, _ => s
def CT.unL (s : Sl) : List CT → List (TV E) → Sl
  | c :: cs, d :: ds => CT.unL (c.un s d) cs ds
  | _, _ => s
def PT.un (s : Sl) : PT → TV E → Sl
  | .one c, d => c.un s d
  | .agg cs, .agg ds => CT.unL s cs ds
  | .tup cs, .tuple ds => CT.unL s cs ds
  | _, _ => s
def unPts (s : Sl) : List PT → List (TV E) → Sl
  | p :: ps, d :: ds => unPts (p.un s d) ps ds
  | _, _ => s
def unBts (H : List (TBox E)) : Nat → List BT → Sl → Sl
  | _, [], s => s
  | r, t :: ts, s => unBts H (r + 1) ts (match t, (s.b[r]?.getD none).bind (H[·]?) with
    | .cells _ cs, some (.cells _ ds) => CT.unL s cs ds
    | _, _ => s)
def allSome : List (Option Nat) → List Nat
  | [] => []
  | some x :: xs => x :: allSome xs
  | none :: xs => allSome xs
def Shp.sel (s : Shp) (st : TS E) (ds : List (TV E)) : Sl :=
  unBts st.H 0 s.boxes (unPts ⟨s.boxes.map fun _ => none, s.rows.map fun _ => none⟩ s.args ds)

def sm {α β γ : Type} (f : α → γ) (g : β → γ) : α ⊕ β → γ
  | .inl x => f x
  | .inr y => g y

/-- A call's end, seen from the caller. -/
def okK {R : Type} (o : Outs) (bs gs : List Nat) (st : TS E) (dst : Option Nat) (k : Ex E → TS E → Option R) (y : dens E o.tys) : Option R :=
  k .normal { o.after bs gs st (putAll o.tys y) with t := setT st.t dst (o.val bs gs st (putAll o.tys y)) }
def panK {R : Type} (o : Outs) (bs gs : List Nat) (st : TS E) (k : Ex E → TS E → Option R) (y : dens E o.tys) : Option R :=
  k (.panic (o.val bs gs st (putAll o.tys y))) (o.after bs gs st (putAll o.tys y))
def leaveK {R : Type} (s : Shp) (bs gs : List Nat) (st : TS E) (dst : Option Nat) (k : Ex E → TS E → Option R) : (p : Option Outs) → OutP E s.out p → Option R
  | none => okK s.out bs gs st dst k
  | some q => sm (okK s.out bs gs st dst k) (panK q bs gs st k)
def Outs.wf (o : Outs) (nb ng : Nat) : Bool := someFrom nb o.boxes && Nat.ble ng o.rows.length
def Shp.wf (s : Shp) (nb ng : Nat) : Bool := s.out.wf nb ng && (match s.pan with | none => true | some q => q.wf nb ng)

def callK {R : Type} (st : TS E) (dst : Option Nat) (f : FuncId) (ds : List (TV E)) (k : Ex E → TS E → Option R) : List (Ctr E) → Option R
  | [] => none
  | C :: Γ => cond (Nat.beq C.s.f f)
      (match C.s.enter (allSome (C.s.sel st ds).b) (allSome (C.s.sel st ds).g) st ds with
        | some ls => match getAll C.s.tys ls with
          | some x => rq (C.s.wf (allSome (C.s.sel st ds).b).length (allSome (C.s.sel st ds).g).length) ((C.m x).bind (leaveK C.s (allSome (C.s.sel st ds).b) (allSome (C.s.sel st ds).g) st dst k C.s.pan))
          | none => callK st dst f ds k Γ
        | none => callK st dst f ds k Γ)
      (callK st dst f ds k Γ)

/-- What an operation has to bring about. -/
def OpOk (P : Program) (o : Oper) (W : List Nat) (nd : Bool) (st : TS E) (Q : Ex E → TS E → Prop) : Prop :=
  ∀ w0 G0 a w G, Rel E w0 G0 st a w G → o.wp P a w (fun a' w' => ∃ st' G', Rel E w0 G0 st' a' w' G' ∧ Q .normal st' ∧ Fr W nd st st') (CPost E w0 G0 fun x st' => x ≠ .normal ∧ Q x st' ∧ Fr W nd st st')

section
variable {P : Program} {st : TS E} {o : Oper} {Q : Ex E → TS E → Prop}

theorem OpOk.of_does {W : List Nat} {nd : Bool} {st' : TS E} (h : ∀ w0 G0 a w G, Rel E w0 G0 st a w G → Does P w0 G0 a w o st') (hQ : Q .normal st') (hF : Fr W nd st st') : OpOk P o W nd st Q := by
  intro w0 G0 a w G hr
  obtain ⟨nx, v, w', G', hrun, hnx, hr'⟩ := h w0 G0 a w G hr
  unfold Oper.wp
  rw [hrun]
  rcases hnx with rfl | ⟨rfl, rfl⟩
  · exact ⟨st', G', hr', hQ, hF⟩
  · exact ⟨st', G', hr', hQ, hF⟩

theorem wp_invokes {a : Act} {w : World} {next : Act → World → Prop} {QQ : Exit → Act → World → Prop} {f : FuncId} {args : Array Value} {R : Ending → World → Prop} (hrun : (execOp a.eval o).run P w = (callFunc f args).run P w) (h : Invokes P f args w R)
    (h1 : ∀ v w', R (.returned v) w' → next (a.put o.dst v) w') (h2 : ∀ ch w', R (.panicked ch) w' → QQ (.panic ch) a w') (h3 : ∀ w', ¬ R .outgrown w') : o.wp P a w next QQ := by
  unfold Oper.wp
  rw [hrun]
  unfold Invokes at h
  split at h
  · rename_i f' args' w' hr
    rw [hr]
    refine Calls.mono h fun e w'' he => ?_
    cases e with
    | returned v => exact h1 v w'' he
    | panicked ch => exact h2 ch w'' he
    | outgrown => exact (h3 w'' he).elim
  · rename_i v w' hr
    rw [hr]
    exact h1 v w' h
  · exact h.elim

theorem evs_ok {w0 w : World} {G0 G : Ghost} {a : Act} (hr : Rel E w0 G0 st a w G) : ∀ l : List Operand, VTs E w G (l.map st.ev) (l.map a.eval)
  | [] => .nil
  | x :: l => .cons (hr.ev x) (evs_ok hr l)

theorem Outs.after_fr (ot : Outs) (bs gs : List Nat) (st : TS E) (ls : List (Lf E)) (dst : Option Nat) (d : TV E) : Fr (dstL dst) true st { ot.after bs gs st ls with t := setT st.t dst d } :=
  Fr.mem st dst d _ _ _ (fun r hr hd => by
    show (setAll (pairsB ot.boxes bs (ot.hc bs gs st ls)) st.H ++ (ot.hc bs gs st ls).drop bs.length)[r]? = _
    rw [List.getElem?_append_left (by rw [setAll_length]; exact hr), setAll_out _ _ _ hd]) (by
    show _ ≤ (setAll (pairsB ot.boxes bs (ot.hc bs gs st ls)) st.H ++ (ot.hc bs gs st ls).drop bs.length).length
    simp [setAll_length])

theorem Pins.evol {w0 w : World} {G0 G : Ghost} (h : Pins E w0 G0) (hE : Evol w0 G0 w G) : Pins E w G := by
  intro b ob hb
  obtain ⟨⟨t, m, h1⟩, h2⟩ := h b ob hb
  have hlt : b < w0.heap.size := (Array.getElem?_eq_some_iff.1 h1).1
  refine ⟨⟨t, m, (hE.old b hlt h2).trans h1⟩, fun hf => h2 ?_⟩
  rcases hf with hf | ⟨x, hd, hm, hbk⟩
  · obtain ⟨q, hq, he⟩ := List.getElem_of_mem hf
    have hqb : G.i[q]? = some b := by rw [← he]; exact List.getElem?_eq_getElem hq
    by_cases hql : q < G0.i.length
    · have e1 := hE.goes.i q _ (List.getElem?_eq_getElem hql)
      rw [hqb] at e1
      exact .inl (by rw [Option.some.inj e1]; exact List.getElem_mem hql)
    · have := hE.newB q b (by omega) hqb; omega
  · obtain ⟨j, hj, he⟩ := List.getElem_of_mem hm
    rcases hE.newG j x hd b (by rw [← he]; exact List.getElem?_eq_getElem hj) hbk with q | ⟨x0, h0, q1, q2⟩
    · omega
    · exact .inr ⟨x0, h0, List.mem_of_getElem? q1, q2⟩
theorem Rel.pinsAt {w0 w : World} {G0 G : Ghost} {a : Act} (h : Rel E w0 G0 st a w G) : Pins E w G := h.pins.evol h.evol
theorem pick_mem {α : Type} {l r : List α} {is : List Nat} (h : pick l is = some r) {x : α} (hx : x ∈ r) : x ∈ l := by
  obtain ⟨j, hj, he⟩ := List.getElem_of_mem hx
  obtain ⟨hl, hg⟩ := pick_get h
  have hj' : j < is.length := by omega
  obtain ⟨y, h1, h2⟩ := hg j is[j] (List.getElem?_eq_getElem hj')
  rw [List.getElem?_eq_getElem hj, he] at h1
  cases h1
  exact List.mem_of_getElem? h2
theorem Pins.sel {w : World} {G : Ghost} {bs gs is : List Nat} {gg : List (TGrow × Value)} (h : Pins E w G) (hi : pick G.i bs = some is) (hg : pick G.g gs = some gg) : Pins E w (G.sel is gg) := fun b ob hb => by
  obtain ⟨h1, h2⟩ := h b ob hb
  refine ⟨h1, fun hf => h2 ?_⟩
  rcases hf with hf | ⟨x, hd, hm, hbk⟩
  · exact .inl (pick_mem hi hf)
  · obtain ⟨y, hy, e⟩ := List.mem_map.1 hm
    cases e
    exact .inr ⟨y.1, y.2, pick_mem hg hy, hbk⟩

theorem callK_sound {R : Type} {c : Call} {x : Operand} {f : FuncId} {caps : List (TV E)} (ho : o.op = .call c) (hc : c.callee = .value x) (hx : st.ev x = .func (.func f) caps) {k : Ex E → TS E → Option R} {r : R} :
    ∀ {Γ : List (Ctr E)}, (∀ C ∈ Γ, C.Ok P) → callK st o.dst f (c.args.toList.map st.ev ++ caps) k Γ = some r → OpOk P o (dstL o.dst) true st (fun x st' => k x st' = some r)
  | [], _, h => by cases h
  | C :: Γ, hΓ, h => by
    have hrest : callK st o.dst f (c.args.toList.map st.ev ++ caps) k Γ = some r → OpOk P o (dstL o.dst) true st (fun x st' => k x st' = some r) := callK_sound ho hc hx (fun C' hC => hΓ C' (by simp [hC]))
    simp only [callK] at h
    cases hf : Nat.beq C.s.f f <;> rw [hf] at h <;> simp only [cond_true, cond_false] at h
    · exact hrest h
    have hf := Nat.eq_of_beq_eq_true hf
    split at h
    · rename_i ls hls
      split at h
      · rename_i xx hxx
        generalize hbs : allSome (C.s.sel st (c.args.toList.map st.ev ++ caps)).b = bs at *
        generalize hgs : allSome (C.s.sel st (c.args.toList.map st.ev ++ caps)).g = gs at *
        obtain ⟨hwf, h⟩ := rq_some h
        cases hm : C.m xx with
        | none => rw [hm] at h; cases h
        | some y =>
          rw [hm] at h
          dsimp only [Option.bind] at h
          intro w0 G0 a w G hr
          have hv := hr.ev x
          rw [hx] at hv
          simp only [VT] at hv
          obtain ⟨cv, hcv, hcaps⟩ := hv
          have hargs : VTs E w G (c.args.toList.map st.ev ++ caps) (c.args.map a.eval ++ cv).toList := by
            have := (evs_ok hr c.args.toList).append hcaps
            simpa using this
          have hnd : bs.Nodup ∧ gs.Nodup ∧ bs.length = C.s.boxes.length ∧ C.s.rows.length = gs.length := by
            unfold Shp.enter at hls
            split at hls <;> try (cases hls; done)
            rename_i H g hH hg
            cases hcc : (nodupN bs && (nodupN gs && (Nat.beq bs.length C.s.boxes.length && rowsSame C.s.rows g))) <;> rw [hcc] at hls <;> simp only [cond_true, cond_false] at hls
            · cases hls
            simp only [Bool.and_eq_true] at hcc
            exact ⟨nodupN_ok hcc.1, nodupN_ok hcc.2.1, Nat.eq_of_beq_eq_true hcc.2.2.1, by rw [(rowsSame_ok hcc.2.2.2).1, (pick_get hg).1]⟩
          obtain ⟨is, gg, hi, hgk, hB, hV⟩ := hr.enter hls hargs
          have hput := getAll_ok _ hxx
          have hok := hΓ C (by simp) xx y hm w (G.sel is gg) (c.args.map a.eval ++ cv) (hr.pinsAt.sel hi hgk) (by rw [hput]; exact hB) (by rw [hput]; exact hV)
          rw [hf] at hok
          have hrun : (execOp a.eval o).run P w = (callFunc f (c.args.map a.eval ++ cv)).run P w := by
            simp only [execOp, ho, resolve, hc, hcv, Deferred.ofValue, Sem.run_bind, Sem.run_pure, Result.andThen_ok, invoke]
            simp
          have hg0 : (G.sel is gg).g.map (·.1) = C.s.g0 := hB.gs
          have hwf' : ∀ (q : Outs), q.wf bs.length gs.length = true → someFrom bs.length q.boxes = true ∧ gs.length ≤ q.rows.length := fun q hq => by
            unfold Outs.wf at hq
            rw [Bool.and_eq_true] at hq
            exact ⟨hq.1, Nat.le_of_ble_eq_true hq.2⟩
          unfold Shp.wf at hwf
          rw [Bool.and_eq_true] at hwf
          have okcase : ∀ (y : dens E C.s.out.tys) (v : Value) (w' : World), okK C.s.out bs gs st o.dst k y = some r →
              (∃ v1 G', Ending.returned v = endOf (C.s.out.ares true (C.s.H (putAll C.s.tys xx)) C.s.g0 (putAll C.s.out.tys y)).ok v1 ∧ Evol w (G.sel is gg) w' G' ∧ Boxes E w' G' (C.s.out.ares true (C.s.H (putAll C.s.tys xx)) C.s.g0 (putAll C.s.out.tys y)).H (C.s.out.ares true (C.s.H (putAll C.s.tys xx)) C.s.g0 (putAll C.s.out.tys y)).g ∧
                VT E w' G' (C.s.out.ares true (C.s.H (putAll C.s.tys xx)) C.s.g0 (putAll C.s.out.tys y)).d v1 ∧ ∀ (q b : Nat), (G.sel is gg).i[q]? = some b → q ∉ (C.s.out.ares true (C.s.H (putAll C.s.tys xx)) C.s.g0 (putAll C.s.out.tys y)).D → w'.heap[b]? = w.heap[b]?) →
              ∃ st' G', Rel E w0 G0 st' (a.put o.dst v) w' G' ∧ k .normal st' = some r ∧ Fr (dstL o.dst) true st st' := by
            rintro y v w' hk ⟨v1, G', he, hE, hB', hV', hfix⟩
            simp only [Outs.ares, endOf, cond_true, Ending.returned.injEq] at he
            subst he
            obtain ⟨hs1, hs2⟩ := hwf' _ hwf.1
            simp only [Outs.ares] at hB' hV' hfix
            rw [← hg0] at hB' hV'
            obtain ⟨Gn, hR, hval⟩ := hr.leave hi hgk hnd.1 hnd.2.1 C.s.out hs1 hs2 hE hB' hV' hfix
            exact ⟨_, Gn, hR.put hval o.dst, hk, C.s.out.after_fr bs gs st _ o.dst _⟩
          have fin : ∀ (p : Option Outs) (hp : C.s.pan = p) (y : OutP E C.s.out p), leaveK C.s bs gs st o.dst k p y = some r → Invokes P f (c.args.map a.eval ++ cv) w (fun e w' =>
              ∃ v G', e = endOf (outP C.s (C.s.H (putAll C.s.tys xx)) p y).ok v ∧ Evol w (G.sel is gg) w' G' ∧ Boxes E w' G' (outP C.s (C.s.H (putAll C.s.tys xx)) p y).H (outP C.s (C.s.H (putAll C.s.tys xx)) p y).g ∧
                VT E w' G' (outP C.s (C.s.H (putAll C.s.tys xx)) p y).d v ∧ ∀ (q b : Nat), (G.sel is gg).i[q]? = some b → q ∉ (outP C.s (C.s.H (putAll C.s.tys xx)) p y).D → w'.heap[b]? = w.heap[b]?) →
              o.wp P a w (fun a' w' => ∃ st' G', Rel E w0 G0 st' a' w' G' ∧ k .normal st' = some r ∧ Fr (dstL o.dst) true st st') (CPost E w0 G0 fun x st' => x ≠ .normal ∧ k x st' = some r ∧ Fr (dstL o.dst) true st st') := by
            intro p hp y hk hI
            refine wp_invokes hrun hI (fun v w' hR => ?_) (fun ch w' hR => ?_) (fun w' hR => ?_)
            · cases p with
              | none => exact okcase y v w' hk hR
              | some q =>
                cases y with
                | inl y => exact okcase y v w' hk hR
                | inr y =>
                  obtain ⟨v1, G', he, -⟩ := hR
                  simp only [outP, Outs.ares, endOf, cond_false] at he
                  cases he
            · cases p with
              | none =>
                obtain ⟨v1, G', he, -⟩ := hR
                simp only [outP, Outs.ares, endOf, cond_true] at he
                cases he
              | some q =>
                cases y with
                | inl y =>
                  obtain ⟨v1, G', he, -⟩ := hR
                  simp only [outP, Outs.ares, endOf, cond_true] at he
                  cases he
                | inr y =>
                  obtain ⟨v1, G', he, hE, hB', hV', hfix⟩ := hR
                  simp only [outP, Outs.ares, endOf, cond_false, Ending.panicked.injEq] at he
                  subst he
                  have hq : q.wf bs.length gs.length = true := by have := hwf.2; rw [hp] at this; exact this
                  obtain ⟨hs1, hs2⟩ := hwf' _ hq
                  simp only [outP, Outs.ares] at hB' hV' hfix
                  rw [← hg0] at hB' hV'
                  obtain ⟨Gn, hR, hval⟩ := hr.leave hi hgk hnd.1 hnd.2.1 q hs1 hs2 hE hB' hV' hfix
                  exact ⟨.panic (q.val bs gs st (putAll q.tys y)), _, Gn, ⟨v1, rfl, hval⟩, hR, (fun h => nomatch h), hk, (q.after_fr bs gs st _ none .any).wide (fun i hi => by cases hi) (fun h => h)⟩
            · obtain ⟨v1, G', he, -⟩ := hR
              unfold endOf at he
              cases hb : (outP C.s (C.s.H (putAll C.s.tys xx)) p y).ok <;> rw [hb] at he <;> cases he
          exact fin C.s.pan rfl y h hok
      · exact hrest h
    · exact hrest h
end

end Go.RT
