/-
  RT: parts 36 to 39.
-/
import Derived.Test.YteagcbkkonabbaaGreatDoorRg
import Derived.Lib.Bytealg
import Derived.Recover
set_option linter.all false
/-
  RT, part 36: functions: a contract out of a body.
-/
namespace Go.RT
set_option linter.unusedVariables false

variable {E : TEnv}

/-- The results of a function. -/
def resOne (X : Cx E) (st : TS E) : ResultVar → Option (TV E)
  | .tmp t => some (st.at t)
  | .cell p t => match tinfo X.P t, st.at p with
    | some i, .ptr r off => match st.H[r]? with
      | some (.cells _ cs) => partC E (X.ty t) cs i.isAgg i.size off
      | _ => none
    | _, _ => none
def resAll (X : Cx E) (st : TS E) : List ResultVar → Option (List (TV E))
  | [] => some []
  | r :: rs => match resOne X st r, resAll X st rs with
    | some d, some ds => some (d :: ds)
    | _, _ => none
def packRes : List (TV E) → TV E
  | [d] => d
  | ds => .tuple ds

def loadRes (tmps : Array Value) : ResultVar → Sem Value
  | .tmp t => pure (tmps.getD t undef)
  | .cell a t => do loadVar t (← asAddr (tmps.getD a undef))
theorem results_eq (fn : Func) (tmps : Array Value) : results fn tmps = (do
    let vs ← fn.results.mapM (loadRes tmps)
    pure (if h : vs.size = 1 then vs[0] else .tuple vs)) := by
  unfold results
  congr 2
def packV : List Value → Value
  | [v] => v
  | vs => .tuple vs.toArray
theorem packV_eq (vs : List Value) : (if h : vs.toArray.size = 1 then vs.toArray[0] else .tuple vs.toArray) = packV vs := by
  match vs with
  | [] => rfl
  | [v] => rfl
  | v :: u :: r => simp [packV]

section
variable {X : Cx E} {w0 w : World} {G0 G : Ghost} {st : TS E} {a : Act}

theorem resOne_ok (hX : X.Ok) (hr : Rel E w0 G0 st a w G) {rv : ResultVar} {d : TV E} (h : resOne X st rv = some d) : ∃ v, VT E w G d v ∧ (loadRes a.tmps rv).run X.P w = .ok v w := by
  cases rv with
  | tmp t =>
    simp only [resOne] at h
    cases h
    exact ⟨_, hr.at t, rfl⟩
  | cell p t =>
    simp only [resOne] at h
    split at h <;> try (cases h; done)
    rename_i i r off hi hd
    split at h <;> try (cases h; done)
    rename_i t' cs hb
    have hv := hr.at p
    rw [hd] at hv
    simp only [VT] at hv
    obtain ⟨b, he, hat⟩ := hv
    obtain ⟨vs, hh, h1, h2⟩ := hr.box hat hb
    obtain ⟨v, hv, hrun⟩ := run_load_row (P := X.P) (b := b) (o' := 0) hi (fun l u hl => by
      rw [cell_of_row w b (0 + l) vs t' (0, 0) hh]
      simpa using hl) (partC_sound hX.E h2 (fun u hu => h1 u (by simpa using hu)) h)
    refine ⟨v, hv, ?_⟩
    have := hrun w (Same.refl w)
    rw [Nat.zero_add] at this
    simp only [loadRes]
    rw [he]
    simpa [Instr.loadAt, Instr.sureAddr, asAddr] using this

theorem resAll_ok (hX : X.Ok) (hr : Rel E w0 G0 st a w G) : ∀ {rs : List ResultVar} {ds : List (TV E)}, resAll X st rs = some ds → ∃ vs, VTs E w G ds vs ∧ (rs.mapM (loadRes a.tmps)).run X.P w = .ok vs w
  | [], ds, h => by cases h; exact ⟨[], .nil, rfl⟩
  | r :: rs, ds, h => by
    simp only [resAll] at h
    split at h <;> try (cases h; done)
    rename_i d ds' h1 h2
    cases h
    obtain ⟨v, hv, hrun⟩ := resOne_ok hX hr h1
    obtain ⟨vs, hvs, hruns⟩ := resAll_ok hX hr h2
    exact ⟨v :: vs, .cons hv hvs, by simp only [List.mapM_cons, Sem.run_bind, hrun, Result.andThen_ok, hruns, Sem.run_pure]⟩

theorem VT_packRes : ∀ {ds : List (TV E)} {vs : List Value}, VTs E w G ds vs → VT E w G (packRes ds) (packV vs)
  | [], vs, h => by simp only [VTs] at h; subst h; simp only [packRes, packV, VT]; exact ⟨_, rfl, .nil⟩
  | [d], vs, h => by
    obtain ⟨u, us, rfl, h1, h2⟩ := h.cons_inv
    simp only [VTs] at h2
    subst h2
    exact h1
  | d1 :: d2 :: ds, vs, h => by
    obtain ⟨u, us, rfl, h1, h2⟩ := h.cons_inv
    obtain ⟨u2, us2, rfl, h3, h4⟩ := h2.cons_inv
    simp only [packRes, packV, VT]
    exact ⟨_, rfl, .cons h1 (.cons h3 h4)⟩

theorem results_ok (hX : X.Ok) (hr : Rel E w0 G0 st a w G) {fn : Func} {ds : List (TV E)} (h : resAll X st fn.results.toList = some ds) : ∃ v, VT E w G (packRes ds) v ∧ (results fn a.tmps).run X.P w = .ok v w := by
  obtain ⟨vs, hv, hrun⟩ := resAll_ok hX hr h
  refine ⟨packV vs, VT_packRes hv, ?_⟩
  rw [results_eq, Array.mapM_eq_mapM_toList]
  simp only [Sem.run_bind, Sem.run_map, hrun, Result.andThen_ok, Sem.run_pure, packV_eq]
end

def Outs.cut (o : Outs) : Cut := ⟨[], o.boxes, o.rows, o.soft⟩
/-- The data of a call's end. -/
def Outs.get (o : Outs) (st0 st : TS E) (d : TV E) : Option (dens E o.tys) :=
  match hardP o.res d st with
  | (d, st) => match o.res.get ⟨List.range o.boxes.length, List.range o.rows.length, st.g.map (·.ver)⟩ d, o.cut.leaves st0 st with
    | some a, some b => getAll o.tys (a ++ b)
    | _, _ => none
def padT (n : Nat) (l : List (TV E)) : List (TV E) := l ++ List.replicate (n - l.length) .any
def Shp.st0 (s : Shp) (n : Nat) (ls : List (Lf E)) : TS E := ⟨padT n (s.ds ls), s.H ls, s.g0, [], [], s.c ls⟩

def endK (X : Cx E) (s : Shp) (fn : Func) (st0 : TS E) : (p : Option Outs) → Ex E → TS E → Option (OutP E s.out p)
  | none, .ret, st => (resAll X st fn.results.toList).bind fun ds => s.out.get st0 st (packRes ds)
  | none, .normal, st => (resAll X st fn.results.toList).bind fun ds => s.out.get st0 st (packRes ds)
  | some q, .ret, st => goK ((resAll X st fn.results.toList).bind fun ds => s.out.get st0 st (packRes ds))
  | some q, .normal, st => goK ((resAll X st fn.results.toList).bind fun ds => s.out.get st0 st (packRes ds))
  | some q, .panic d, st => retK (q.get st0 st d)
  | _, _, _ => none

noncomputable def funT (X : Cx E) (F : Nat) (s : Shp) (fn : Func) (pl : Plan) (x : dens E s.tys) : Option (OutP E s.out s.pan) :=
  match fn.body with
  | some c => rq (noDef c) (runT X F c pl (s.st0 fn.ntmps (putAll s.tys x)) (endK X s fn (s.st0 fn.ntmps (putAll s.tys x)) s.pan))
  | none => none

section
variable {X : Cx E}

theorem Rel.init {w : World} {G : Ghost} {args : Array Value} {s : Shp} {ls : List (Lf E)} {n : Nat} (hP : Pins E w G) (hB : Boxes E w G (s.H ls) s.g0) (hS : Softs E w G (s.c ls)) (hV : VTs E w G (s.ds ls) args.toList) :
    Rel E w G (s.st0 n ls) { tmps := args ++ Array.replicate (n - args.size) undef, defers := [] } w G := by
  have hl : args.size = (s.ds ls).length := by simpa using hV.length
  refine ⟨Evol.refl w G, ?_, fun j d hj => ?_, trivial, hB, fun _ _ _ _ => rfl, hP, hS⟩
  · simp [Shp.st0, padT, hl]
  · have hj : (padT n (s.ds ls))[j]? = some d := hj
    unfold padT at hj
    by_cases hlt : j < (s.ds ls).length
    · rw [List.getElem?_append_left hlt] at hj
      obtain ⟨u, hu, hv⟩ := hV.get j hj
      have : (args ++ Array.replicate (n - args.size) undef).getD j undef = u := by
        have h1 : j < args.size := by omega
        have h2 : args[j] = u := by simpa [h1] using hu
        rw [Array.getD_eq_getD_getElem?, Array.getElem?_append_left h1, Array.getElem?_eq_getElem h1, h2]
        rfl
      rw [this]
      exact hv
    · rw [List.getElem?_append_right (by omega)] at hj
      have := List.mem_of_getElem? hj
      simp at this
      rw [this.2]
      simp only [VT]

/-- The end of a call, out of a state. -/
theorem Outs.get_ok (hE : E.Ok) {o : Outs} {ok : Bool} {w w' : World} {G G' : Ghost} {st0 st : TS E} {a : Act} {W : List Nat} {nd : Bool} {d : TV E} {v : Value} {y : dens E o.tys} (hp : Pre G st0) (hd0 : st0.d = []) (hdf : st.df = st0.df) (hr : Rel E w G st a w' G') (hF : Fr W nd st0 st) (hv : VT E w' G' d v) (h : o.get st0 st d = some y) :
    ∃ G2, Evol w G w' G2 ∧ Boxes E w' G2 (o.ares ok st0.H st0.g (putAll o.tys y)).H (o.ares ok st0.H st0.g (putAll o.tys y)).g ∧ Softs E w' G2 (o.ares ok st0.H st0.g (putAll o.tys y)).c ∧ VT E w' G2 (o.ares ok st0.H st0.g (putAll o.tys y)).d v ∧
      ∀ (q b : Nat), G.i[q]? = some b → q ∉ (o.ares ok st0.H st0.g (putAll o.tys y)).D → w'.heap[b]? = w.heap[b]? := by
  unfold Outs.get at h
  obtain ⟨d1, st1, hh⟩ : ∃ d1 st1, hardP o.res d st = (d1, st1) := ⟨_, _, rfl⟩
  rw [hh] at h
  dsimp only at h
  split at h <;> try (cases h; done)
  rename_i la lb hla hlb
  obtain ⟨o1, G1, hr1, -, hv1⟩ := hardP_ok o.res d hr
  have hv := hv1 v hv
  rw [hh] at o1 hr1 hv
  have hr := hr1
  have hF : Fr W nd st0 st1 := by
    obtain ⟨c, rfl⟩ := o1
    exact ⟨hF.len, hF.keep, hF.d, hF.hl, hF.df⟩
  have hdf : st1.df = st0.df := by
    obtain ⟨c, rfl⟩ := o1
    exact hdf
  obtain ⟨D, hD, hH⟩ := hF.d
  obtain ⟨G2, hR, hL⟩ := Rel.cut hE (W := W) hp hr hF.len hF.keep hD hH hdf hlb
  have hput := getAll_ok _ h
  obtain ⟨e1, e2⟩ := PT.sound hE hL (rest := lb) hla hv
  rw [hput]
  simp only [Outs.ares]
  have e3 : (o.res.put (o.n1 st0.g) (la ++ lb)).2 = lb := e1
  refine ⟨G2, hR.evol, ?_, ?_, e2, fun q b hq hd => hR.fix q b hq ?_⟩
  · rw [e3]
    exact hR.boxes
  · rw [e3]
    exact hR.softs
  · show q ∉ chg 0 o.boxes ++ st0.d
    rw [hd0, List.append_nil]
    exact hd

theorem invokes_of_calls {P : Program} {f : FuncId} {fn : Func} {c : Code} {args : Array Value} {w : World} {R : Ending → World → Prop} (hf : P.funcs[f]? = some fn) (hb : fn.body = some c) (hn : (fn.name == "runtime.NumGoroutine") = false) (h : Calls P f args w R) : Invokes P f args w R := by
  have : (callFunc f args).run P w = .ok (.enter f args) w := by
    simp only [callFunc, Sem.run_bind, run_program, Result.andThen_ok, hf, hn, hb]
    simp
  unfold Invokes
  rw [this]
  exact h

theorem funT_sound (hX : X.Ok) {F : Nat} {s : Shp} {fn : Func} {pl : Plan} {x : dens E s.tys} {y : OutP E s.out s.pan} (hf : X.P.funcs[s.f]? = some fn) (hn : (fn.name == "runtime.NumGoroutine") = false) (h : funT X F s fn pl x = some y) :
    ACalls X.P s.f (s.ds (putAll s.tys x)) (s.H (putAll s.tys x)) s.g0 (s.c (putAll s.tys x)) (outP s (s.H (putAll s.tys x)) s.pan y) := by
  unfold funT at h
  split at h <;> try (cases h; done)
  rename_i c hb
  obtain ⟨hnd, h⟩ := rq_some h
  intro w G args hP hB hS hV
  have hr0 := Rel.init (n := fn.ntmps) hP hB hS hV
  have hpre := hr0.pre
  refine invokes_of_calls hf hb hn (calls_of_wp hf hb (wp_mono ((runT_sound hX c pl h).wp hr0) fun e a' w' hp => ?_))
  obtain ⟨ex, st, G', he, hr, hk, hF⟩ := hp
  have hdf : st.df = [] := hF.df hnd
  have hdef : a'.defers = [] := by
    have := hr.defers
    rw [hdf] at this
    cases hd : a'.defers with
    | nil => rfl
    | cons d ds => rw [hd] at this; exact this.elim
  -- a value is returned
  have okc : ∀ {y : dens E s.out.tys}, ((resAll X st fn.results.toList).bind fun ds => s.out.get (s.st0 fn.ntmps (putAll s.tys x)) st (packRes ds)) = some y →
      ∃ v, (results fn a'.tmps).run X.P w' = .ok v w' ∧ ∃ v1 G2, Ending.returned v = endOf (s.out.ares true (s.H (putAll s.tys x)) s.g0 (putAll s.out.tys y)).ok v1 ∧ Evol w G w' G2 ∧
        Boxes E w' G2 (s.out.ares true (s.H (putAll s.tys x)) s.g0 (putAll s.out.tys y)).H (s.out.ares true (s.H (putAll s.tys x)) s.g0 (putAll s.out.tys y)).g ∧ Softs E w' G2 (s.out.ares true (s.H (putAll s.tys x)) s.g0 (putAll s.out.tys y)).c ∧ VT E w' G2 (s.out.ares true (s.H (putAll s.tys x)) s.g0 (putAll s.out.tys y)).d v1 ∧
        ∀ (q b : Nat), G.i[q]? = some b → q ∉ (s.out.ares true (s.H (putAll s.tys x)) s.g0 (putAll s.out.tys y)).D → w'.heap[b]? = w.heap[b]? := by
    intro y hy
    cases hds : resAll X st fn.results.toList with
    | none => rw [hds] at hy; cases hy
    | some ds =>
      rw [hds] at hy
      dsimp only [Option.bind] at hy
      obtain ⟨v, hv, hrun⟩ := results_ok hX hr hds
      obtain ⟨G2, q1, q2, q3, q4, q5⟩ := Outs.get_ok hX.E (ok := true) hpre rfl hdf hr hF hv hy
      exact ⟨v, hrun, v, G2, rfl, q1, q2, q3, q4, q5⟩
  have fin : ∀ (p : Option Outs) (y : OutP E s.out p), endK X s fn (s.st0 fn.ntmps (putAll s.tys x)) p ex st = some y → bodyPost X.P fn (fun e w' => ∃ v G', e = endOf (outP s (s.H (putAll s.tys x)) p y).ok v ∧ Evol w G w' G' ∧ Boxes E w' G' (outP s (s.H (putAll s.tys x)) p y).H (outP s (s.H (putAll s.tys x)) p y).g ∧ Softs E w' G' (outP s (s.H (putAll s.tys x)) p y).c ∧
      VT E w' G' (outP s (s.H (putAll s.tys x)) p y).d v ∧ ∀ (q b : Nat), G.i[q]? = some b → q ∉ (outP s (s.H (putAll s.tys x)) p y).D → w'.heap[b]? = w.heap[b]?) e a' w' := by
    intro p y hk
    cases p with
    | none =>
      cases ex <;> cases e <;> try (exact he.elim)
      · obtain ⟨v, hrun, h2⟩ := okc hk; exact ⟨hdef, v, hrun, h2⟩
      · cases hk
      · cases hk
      · obtain ⟨v, hrun, h2⟩ := okc hk; exact ⟨hdef, v, hrun, h2⟩
      · cases hk
    | some q =>
      cases ex <;> cases e <;> try (exact he.elim)
      · obtain ⟨y', hy, rfl⟩ := goK_some hk; obtain ⟨v, hrun, h2⟩ := okc hy; exact ⟨hdef, v, hrun, h2⟩
      · cases hk
      · cases hk
      · obtain ⟨y', hy, rfl⟩ := goK_some hk; obtain ⟨v, hrun, h2⟩ := okc hy; exact ⟨hdef, v, hrun, h2⟩
      · obtain ⟨y', hy, rfl⟩ := retK_some hk
        obtain ⟨v, rfl, hv⟩ := he
        obtain ⟨G2, q1, q2, q3, q4, q5⟩ := Outs.get_ok hX.E (ok := false) hpre rfl hdf hr hF hv hy
        exact ⟨hdef, v, G2, rfl, q1, q2, q3, q4, q5⟩
  exact fin s.pan y hk
end

end Go.RT
/-
  RT, part 36y: rounds of a range over a function.
-/
namespace Go.RT
set_option linter.unusedVariables false

variable {E : TEnv}

theorem cell_none_of_loop {w : World} {l o : Nat} {r : Loop} (h : w.heap[l]? = some (.loop r)) : w.cell? ⟨l, o, none⟩ = none := by
  simp [World.cell?, h]
theorem goes_turn {w : World} {G : Ghost} {l : Nat} {r : Loop} (o : Obj) (h : w.heap[l]? = some (.loop r)) : Goes w G (w.putObj l o) G := by
  refine ⟨fun _ _ h => h, fun b c v _ hv => ?_, fun _ _ h => h, fun j x y hj => ⟨x, y, hj, Nat.le_refl _, fun _ => rfl⟩⟩
  by_cases hb : b = l
  · subst hb; rw [cell_none_of_loop h] at hv; cases hv
  · rw [World.cell?_of_block (World.putObj_heap_other hb)]; exact hv

section
variable {st : TS E}

theorem Boxes.turn {w : World} {G : Ghost} {H : List (TBox E)} {gs : List TGrow} {l : Nat} {r : Loop} (o : Obj) (h : w.heap[l]? = some (.loop r)) (hl : l ∉ G.i) (hB : Boxes E w G H gs) : Boxes E (w.putObj l o) G H gs := by
  have hg := goes_turn (G := G) o h
  refine ⟨hB.len, hB.gs, fun q b x hq hx => (hB.box q b x hq hx).mono hg (World.putObj_heap_other fun e => hl (by subst e; exact List.mem_of_getElem? hq)), fun b hb => by simpa using hB.lt b hb, hB.nodup, fun b o' hp => by simpa using hB.prok b o' hp, fun j x y hj => ?_, hB.apart, glob_mono hg hB.glob⟩
  obtain ⟨n, xs, ho, hz, hb⟩ := hB.grow j x y hj
  refine ⟨n, xs, ⟨ho.1, ?_⟩, hz, fun b hbl => by simpa using hb b hbl⟩
  rcases ho.2 with h2 | ⟨g, cap, cur, h2, h3, h4, h5⟩
  · exact .inl h2
  · refine .inr ⟨g, cap, cur, h2, h3, ?_, h5⟩
    rw [World.putObj_heap_other (fun e => by subst e; rw [h] at h4; cases h4)]; exact h4
theorem Softs.turn {w : World} {G : Ghost} {cs : List (Nat × Cn E)} {l : Nat} {r : Loop} (o : Obj) (h : w.heap[l]? = some (.loop r)) (hS : Softs E w G cs) : Softs E (w.putObj l o) G cs := by
  have hg := goes_turn (G := G) o h
  intro j c hj
  obtain ⟨x, hd, h1, h2, h3, ⟨vals, ho, hf⟩, hp⟩ := hS j c hj
  refine ⟨x, hd, h1, h2, h3, ⟨vals, ⟨ho.1, ?_⟩, hf.mono hg.pr hg.cells⟩, hp⟩
  rcases ho.2 with q | ⟨g, cap, cur, q1, q2, q3, q4⟩
  · exact .inl q
  · refine .inr ⟨g, cap, cur, q1, q2, ?_, q4⟩
    rw [World.putObj_heap_other (fun e => by subst e; rw [h] at q3; cases q3)]; exact q3
theorem Pins.turn {w : World} {G : Ghost} {l : Nat} {r : Loop} (o : Obj) (h : w.heap[l]? = some (.loop r)) (hP : Pins E w G) : Pins E (w.putObj l o) G := by
  intro b p hb
  obtain ⟨⟨cs, t, m, h1, hp⟩, h2⟩ := hP b p hb
  exact ⟨⟨cs, t, m, by rw [World.putObj_heap_other (fun e => by subst e; rw [h] at h1; cases h1)]; exact h1, hp⟩, h2⟩
theorem Evol.turn {w0 w : World} {G0 G : Ghost} {l : Nat} {r : Loop} (o : Loop) (h0 : l < w0.heap.size) (h : w.heap[l]? = some (.loop r)) (hE : Evol w0 G0 w G) : Evol (w0.putObj l (.loop o)) G0 (w.putObj l (.loop o)) G := by
  have hlt : l < w.heap.size := (Array.getElem?_eq_some_iff.1 h).1
  refine ⟨hE.os, hE.tape, hE.output, by simpa using hE.size, fun b hb hf => ?_, ⟨hE.goes.pr, fun b c v hp hv => ?_, hE.goes.i, hE.goes.g⟩, fun b c hb hp => hE.prold b c (by simpa using hb) hp, fun q b hq hb => by simpa using hE.newB q b hq hb, fun j x y b hj hb => by simpa using hE.newG j x y b hj hb⟩
  · by_cases e : b = l
    · subst e; rw [World.putObj_heap_same hlt, World.putObj_heap_same h0]
    · rw [World.putObj_heap_other e, World.putObj_heap_other e]; exact hE.old b (by simpa using hb) hf
  · by_cases e : b = l
    · subst e; rw [cell_none_of_loop (World.putObj_heap_same h0)] at hv; cases hv
    · rw [World.cell?_of_block (World.putObj_heap_other e)] at hv ⊢
      exact hE.goes.cells b c v hp hv
theorem foot_evol {w0 w : World} {G0 G : Ghost} {l : Nat} (hE : Evol w0 G0 w G) (h0 : l < w0.heap.size) (hf : ¬ G0.foot l) : ¬ G.foot l := by
  intro hf'
  refine hf ?_
  rcases hf' with hf | ⟨x, hd, hm, hbk⟩
  · obtain ⟨q, hq, he⟩ := List.getElem_of_mem hf
    have hqb : G.i[q]? = some l := by rw [← he]; exact List.getElem?_eq_getElem hq
    by_cases hql : q < G0.i.length
    · have e1 := hE.goes.i q _ (List.getElem?_eq_getElem hql)
      rw [hqb] at e1
      exact .inl (by rw [Option.some.inj e1]; exact List.getElem_mem hql)
    · have := hE.newB q l (by omega) hqb; omega
  · obtain ⟨j, hj, he⟩ := List.getElem_of_mem hm
    rcases hE.newG j x hd l (by rw [← he]; exact List.getElem?_eq_getElem hj) hbk with q | ⟨x0, h0', q1, q2⟩
    · omega
    · exact .inr ⟨x0, h0', List.mem_of_getElem? q1, q2⟩
/-- The record of a loop that is no part of the state is turned. -/
theorem Rel.turn {w0 w : World} {G0 G : Ghost} {a : Act} {l : Nat} {r : Loop} (o : Loop) (hr : Rel E w0 G0 st a w G) (h0 : w0.heap[l]? = some (.loop r)) (hf : ¬ G0.foot l) : w.heap[l]? = some (.loop r) ∧ Rel E (w0.putObj l (.loop o)) G0 st a (w.putObj l (.loop o)) G := by
  have hl0 : l < w0.heap.size := (Array.getElem?_eq_some_iff.1 h0).1
  have h : w.heap[l]? = some (.loop r) := by rw [hr.evol.old l hl0 hf]; exact h0
  have hg := goes_turn (G := G) (.loop o) h
  have hfG := foot_evol hr.evol hl0 hf
  refine ⟨h, hr.evol.turn o hl0 h, hr.size, fun j d hj => (hr.tmps j d hj).mono hg, hr.defers.mono hg, hr.boxes.turn _ h (fun hm => hfG (.inl hm)), fun q b hq hd => ?_, hr.pins.turn _ h0, hr.softs.turn _ h⟩
  have hne : b ≠ l := fun e => hf (.inl (by subst e; exact List.mem_of_getElem? hq))
  rw [World.putObj_heap_other hne, World.putObj_heap_other hne]
  exact hr.fix q b hq hd

/-! ### One round -/
def setPs : List Tmp → List (TV E) → List (TV E) → List (TV E)
  | p :: ps, x :: xs, t => setPs ps xs (t.set p x)
  | _, _, t => t
theorem setPs_ok {w : World} {G : Ghost} : ∀ (ps : List Tmp) (xT : List (TV E)) (xV : List Value) (t : List (TV E)) (tmps : Array Value), VTs E w G xT xV → xT.length = ps.length → tmps.size = t.length → (∀ j d, t[j]? = some d → VT E w G d (tmps.getD j undef)) →
    ((ps.zip xV).foldl (fun t (p, v) => t.setIfInBounds p v) tmps).size = (setPs ps xT t).length ∧ ∀ j d, (setPs ps xT t)[j]? = some d → VT E w G d (((ps.zip xV).foldl (fun t (p, v) => t.setIfInBounds p v) tmps).getD j undef)
  | [], xT, xV, t, tmps, hv, hl, hs, ht => by
    cases xT with
    | nil => exact ⟨hs, ht⟩
    | cons _ _ => cases hl
  | p :: ps, [], xV, t, tmps, hv, hl, hs, ht => by cases hl
  | p :: ps, x :: xs, xV, t, tmps, hv, hl, hs, ht => by
    obtain ⟨u, us, rfl, h1, h2⟩ := hv.cons_inv
    simp only [List.zip_cons_cons, List.foldl_cons, setPs]
    refine setPs_ok ps xs us (t.set p x) (tmps.setIfInBounds p u) h2 (by simpa using hl) (by simpa using hs) fun j d hj => ?_
    by_cases hjp : p = j
    · subst hjp
      by_cases hlt : p < t.length
      · rw [List.getElem?_set_self hlt] at hj
        cases hj
        have : (tmps.setIfInBounds p u).getD p undef = u := by
          have : p < tmps.size := Nat.lt_of_lt_of_eq hlt hs.symm
          simp [Array.getD, this]
        rw [this]; exact h1
      · rw [List.getElem?_eq_none (by simpa using Nat.le_of_not_lt hlt)] at hj
        cases hj
    · rw [List.getElem?_set_ne hjp] at hj
      have : (tmps.setIfInBounds p u).getD j undef = tmps.getD j undef := by
        rw [Array.getD_eq_getD_getElem?, Array.getD_eq_getD_getElem?, Array.getElem?_setIfInBounds_ne hjp]
      rw [this]; exact ht j d hj

def st0Y (s : Shp) (Y : YD) (ls : List (Lf E)) : TS E := ⟨setPs Y.params.toList ((s.ds ls).take Y.params.size) ((s.ds ls).drop Y.params.size), s.H ls, s.g0, [], [], s.c ls⟩
def okH : List (TBox E) → Bool
  | [] => true
  | x :: xs => (match x with | .cells _ _ => true | .iter _ _ => true | .map _ _ _ => true | _ => false) && okH xs
def endY (s : Shp) (st0 : TS E) : (p : Option Outs) → Ex E → TS E → Option (OutP E s.out p)
  | none, .normal, st => s.out.get st0 st (.dat .bool true)
  | _, _, _ => none
noncomputable def funY (X : Cx E) (F : Nat) (s : Shp) (Y : YD) (pl : Plan) (x : dens E s.tys) : Option (OutP E s.out s.pan) :=
  rq (inR Y.assign && noDef Y.assign && (inR Y.body && noDef Y.body) && okH (s.H (putAll s.tys x))) (runT X F Y.assign .leaf (st0Y s Y (putAll s.tys x)) (thenK (fun st1 => runT X F Y.body pl st1 (endY s (st0Y s Y (putAll s.tys x)) s.pan)) fun _ _ => none))

theorem VTs.split2 {w : World} {G : Ghost} : ∀ {ds : List (TV E)} {vs us : List Value}, VTs E w G ds (vs ++ us) → VTs E w G (ds.take vs.length) vs ∧ VTs E w G (ds.drop vs.length) us
  | ds, [], us, h => ⟨by simpa using VTs.nil, by simpa using h⟩
  | [], v :: vs, us, h => by simp only [VTs] at h; cases h
  | d :: ds, v :: vs, us, h => by
    obtain ⟨u, us', e, h1, h2⟩ := h.cons_inv
    rw [List.cons_append] at e
    cases e
    obtain ⟨q1, q2⟩ := VTs.split2 h2
    exact ⟨by simpa using VTs.cons h1 q1, by simpa using q2⟩

theorem okH_ok {w : World} {G : Ghost} {l : Nat} {r : Loop} (h : w.heap[l]? = some (.loop r)) : ∀ {H : List (TBox E)} {q : Nat} {x : TBox E}, okH H = true → H[q]? = some x → ¬ BoxOk E w G l x
  | [], _, _, _, hx => by cases hx
  | y :: H, 0, x, ho, hx => by
    cases hx
    intro hb
    simp only [okH, Bool.and_eq_true] at ho
    cases y with
    | cells ty cs => obtain ⟨vs, h1, -⟩ := hb; rw [h] at h1; cases h1
    | iter s p => have h1 : w.heap[l]? = _ := hb; rw [h] at h1; cases h1
    | map kt vt m => obtain ⟨es, clock, h1, -⟩ := hb; rw [h] at h1; cases h1
    | _ => cases ho.1
  | y :: H, q + 1, x, ho, hx => by
    simp only [okH, Bool.and_eq_true] at ho
    exact okH_ok h ho.2 (by simpa using hx)

theorem Rel.initY {w : World} {G : Ghost} {s : Shp} {Y : YD} {ls : List (Lf E)} {xs tmps : Array Value} (hn : xs.size = Y.params.size) (hP : Pins E w G) (hB : Boxes E w G (s.H ls) s.g0) (hS : Softs E w G (s.c ls)) (hV : VTs E w G (s.ds ls) (xs ++ tmps).toList) :
    Rel E w G (st0Y s Y ls) { tmps := (Y.params.zip xs).foldl (fun t (p, v) => t.setIfInBounds p v) tmps, defers := [] } w G := by
  rw [Array.toList_append] at hV
  obtain ⟨h1, h2⟩ := VTs.split2 hV
  have hx : xs.toList.length = Y.params.size := by simpa using hn
  rw [hx] at h1 h2
  have hf : (Y.params.zip xs).foldl (fun t (p, v) => t.setIfInBounds p v) tmps = (Y.params.toList.zip xs.toList).foldl (fun t (p, v) => t.setIfInBounds p v) tmps := by
    rw [← Array.foldl_toList, Array.toList_zip]
  obtain ⟨q1, q2⟩ := setPs_ok (w := w) (G := G) Y.params.toList ((s.ds ls).take Y.params.size) xs.toList ((s.ds ls).drop Y.params.size) tmps h1 (by have := h1.length; simp at this ⊢; omega) (by simpa using h2.length) (fun j d hj => by
    obtain ⟨u, hu, hv⟩ := h2.get j hj
    have : tmps.getD j undef = u := by
      rw [Array.getD_eq_getD_getElem?, ← Array.getElem?_toList, hu]; rfl
    rw [this]; exact hv)
  refine ⟨Evol.refl w G, ?_, fun j d hj => ?_, trivial, hB, fun _ _ _ _ => rfl, hP, hS⟩
  · show (_ : Array Value).size = _; rw [hf]; exact q1
  · show VT E w G d (Array.getD _ j undef); rw [hf]; exact q2 j d hj

theorem putObj_back {w : World} {l : Nat} {o o' : Obj} (h : w.heap[l]? = some o) : (w.putObj l o').putObj l o = w := by
  have hlt : l < w.heap.size := (Array.getElem?_eq_some_iff.1 h).1
  have : (w.heap.setIfInBounds l o').setIfInBounds l o = w.heap := by
    apply Array.ext_getElem?
    intro i
    by_cases e : l = i
    · subst e
      rw [Array.getElem?_setIfInBounds_self_of_lt (by simpa using hlt)]; exact h.symm
    · rw [Array.getElem?_setIfInBounds_ne e, Array.getElem?_setIfInBounds_ne e]
  unfold World.putObj
  simp only [this]

theorem Ctr.yok_of {X : Cx E} (hX : X.Ok) {C : Ctr E} {F : Nat} {Y : YD} {pl : Plan} (hY : ∀ Y', E.yd C.s.f Y' → Y' = Y) (h : ∀ x, funY X F C.s Y pl x = C.m x) : C.GOk (YInv E X.P) := by
  intro x y hy
  have h1 : funY X F C.s Y pl x = some y := by rw [h x]; exact hy
  intro w G args hP hB hS hV Y' fn l D xs tmps hY' hargs hsz hheap
  have hY' := (hY Y' hY').symm
  subst hY'
  subst hargs
  unfold funY at h1
  obtain ⟨hc, h1⟩ := rq_some h1
  simp only [Bool.and_eq_true] at hc
  obtain ⟨⟨⟨ha1, ha2⟩, hb1, hb2⟩, hok⟩ := hc
  have hf : ¬ G.foot l := by
    rintro (hm | ⟨z, hd, hm, hbk⟩)
    · obtain ⟨q, hq, he⟩ := List.getElem_of_mem hm
      have hq2 : q < (C.s.H (putAll C.s.tys x)).length := by rw [← hB.len]; exact hq
      exact okH_ok hheap hok (List.getElem?_eq_getElem hq2) (hB.box q l _ (by rw [← he]; exact List.getElem?_eq_getElem hq) (List.getElem?_eq_getElem hq2))
    · obtain ⟨j, hj, he⟩ := List.getElem_of_mem hm
      obtain ⟨n, xs', ho, -, -⟩ := hB.grow j z hd (by rw [← he]; exact List.getElem?_eq_getElem hj)
      rcases ho.2 with ⟨h2, -⟩ | ⟨g, cap, cur, h2, h3, h4, h5⟩
      · rw [h2] at hbk; cases hbk
      · rw [h2] at hbk
        cases hbk
        rw [hheap] at h4; cases h4
  have hr0 := Rel.initY (Y := Y) hsz hP hB hS hV
  have hpre := hr0.pre
  refine roundIn_of_wpIn trivial ?_
  refine wpIn_mono ((runT_sound hX Y.assign .leaf h1) (some l) (fun _ => ha1) w G _ w G hr0) fun e a1 w1 hp => ?_
  obtain ⟨x1, st1, G1, he, hr1, hq, hF1⟩ := hp
  cases x1 <;> try (cases hq; done)
  cases e <;> try (exact he.elim)
  obtain ⟨hl1, hrt⟩ := hr1.turn ⟨.busy, none, fn, tmps, Y.params, Y.assign, Y.body, D⟩ hheap hf
  refine ⟨_, run_beginRound hl1 rfl, ?_⟩
  simp only [thenK] at hq
  refine wpIn_mono ((runT_sound hX Y.body pl hq) (some l) (fun _ => hb1) _ G a1 _ G1 hrt) fun e a2 w2 hp => ?_
  obtain ⟨x2, st2, G2, he2, hr2, hq2, hF2⟩ := hp
  have fin : ∀ (p : Option Outs) (y : OutP E C.s.out p), endY C.s (st0Y C.s Y (putAll C.s.tys x)) p x2 st2 = some y → x2 = .normal ∧ ∃ v w', (Instr.endRound l none).run X.P w2 = .ok v w' ∧ ResOk E w G (outP C.s (C.s.H (putAll C.s.tys x)) p y) (.returned v) w' := by
    intro p y hk
    cases p with
    | some q => cases hk
    | none =>
      cases x2 <;> try (cases hk; done)
      refine ⟨rfl, ?_⟩
      have hk : C.s.out.get (st0Y C.s Y (putAll C.s.tys x)) st2 (.dat .bool true) = some y := hk
      obtain ⟨hl2, hr3⟩ := hr2.turn ⟨.ready, none, fn, tmps, Y.params, Y.assign, Y.body, D⟩ (World.putObj_heap_same (Array.getElem?_eq_some_iff.1 hheap).1) hf
      rw [putObj_back hheap] at hr3
      refine ⟨_, _, run_endRound none hl2, ?_⟩
      have hF : Fr (wr Y.assign ++ wr Y.body) true (st0Y C.s Y (putAll C.s.tys x)) st2 := hF1.trans hF2 (fun j hj => by simp [hj]) (fun j hj => by simp [hj]) (fun _ => ⟨ha2, hb2⟩)
      have hv : VT E (w2.putObj l (.loop ⟨.ready, none, fn, tmps, Y.params, Y.assign, Y.body, D⟩)) G2 (.dat .bool true) (.bool true) := by
        simp only [VT]
        exact ⟨VD.bool true, trivial⟩
      obtain ⟨G3, q1, q2, q3, q4, q5⟩ := Outs.get_ok hX.E (ok := true) hpre rfl (hF.df rfl) hr3 hF hv hk
      exact ⟨.bool true, G3, rfl, q1, q2, q3, q4, q5⟩
  obtain ⟨rfl, v, w', hend, hres⟩ := fin C.s.pan y hq2
  cases e <;> try (exact he2.elim)
  exact ⟨v, w', hend, hres⟩
end

end Go.RT
/-
  RT, part 36z: ranges over a function.
-/
namespace Go.RT
set_option linter.unusedVariables false

variable {E : TEnv}

def InvI (P : Program) : Inv := fun f args w R => Invokes P f args w R
theorem InvI.mono (P : Program) : (InvI P).Mono := fun f args w R R' h hi => by
  unfold InvI Invokes at *
  split at hi
  · exact Calls.mono hi h
  · exact h _ _ hi
  · exact hi.elim
theorem Ctr.Ok.gok {P : Program} {C : Ctr E} (h : C.Ok P) : C.GOk (InvI P) := fun x y hy => h x y hy

def maskT (keep : List Nat) (t : List (TV E)) : List (TV E) := t.zipIdx.map fun p => cond (keep.elem p.2) p.1 .any

/-- Code outside loops, with ranges over functions. -/
noncomputable def runM (X : Cx E) (F : Nat) : Code → Plan → {R : Type} → TS E → (Ex E → TS E → Option R) → Option R
  | .seq a b, p, _, st, k => match p with
    | .rseq ow p q => match adoptT (wr a ++ wr b) ow st with
      | none => none
      | some st => runM X F a p st (thenK (fun st' => runM X F b q st' k) k)
    | p => runT X F (.seq a b) p st k
  | .block i a, p, _, st, k => match p with
    | .rblk p => runM X F a p st (blockK i k)
    | p => runT X F (.block i a) p st k
  | .rangeFunc g ps a b, p, _, st, k => match p with
    | .range ow y f keep => match adoptT [] ow st with
     | none => none
     | some st => match st.ev g with
      | .func (.func f') caps => cond (Nat.beq f f')
          (callK { st with H := (st.H ++ [.dfr]) ++ [.loop y (maskT keep st.t)], df := (colF, [.yld st.H.length]) :: st.df } none f (.yld (st.H.length + 1) :: caps) (thenK (fun st' => match st'.H[st.H.length + 1]? with
            | some (.loop _ _) => k .normal { st' with H := st'.H.set (st.H.length + 1) .gone, d := (st.H.length + 1) :: st'.d }
            | _ => none) fun _ _ => none) X.Γ) none
      | _ => none
    | _ => none
  | c, p, _, st, k => runT X F c p st k

/-- The codes of the loops are those of the table; the iterators enter. -/
def YOkP (E : TEnv) (P : Program) : Code → Plan → Prop
  | .seq a b, .rseq _ p q => YOkP E P a p ∧ YOkP E P b q
  | .block _ a, .rblk p => YOkP E P a p
  | .rangeFunc _ ps a b, .range _ y f _ => E.yd y ⟨ps, a, b⟩ ∧ ∀ args w, (callFunc f args).run P w = .ok (.enter f args) w
  | _, _ => True

/-- The ranges over functions that a plan names. -/
def ydsOf : Code → Plan → List (Nat × FuncId × YD)
  | .seq a b, .rseq _ p q => ydsOf a p ++ ydsOf b q
  | .block _ a, .rblk p => ydsOf a p
  | .rangeFunc _ ps a b, .range _ y f _ => [(y, f, ⟨ps, a, b⟩)]
  | _, _ => []
/-- The code of a range, found by a path. -/
def ydPath : Code → List Bool → Option YD
  | .rangeFunc _ ps a b, _ => some ⟨ps, a, b⟩
  | .seq a _, false :: p => ydPath a p
  | .seq _ b, true :: p => ydPath b p
  | .cond _ a _, false :: p => ydPath a p
  | .cond _ _ b, true :: p => ydPath b p
  | .block _ a, p => ydPath a p
  | .scope a, p => ydPath a p
  | .loop a, p => ydPath a p
  | _, _ => none
def ydGet : Nat → Func → List Bool → YD
  | 0, f, p => match f.body with
    | some c => match ydPath c p with
      | some y => y
      | none => ⟨#[], .skip, .skip⟩
    | none => ⟨#[], .skip, .skip⟩
  | n + 1, f, p => ydGet n f p
def YdOk (E : TEnv) (P : Program) (t : Nat × FuncId × YD) : Prop := E.yd t.1 t.2.2 ∧ ∀ args w, (callFunc t.2.1 args).run P w = .ok (.enter t.2.1 args) w
theorem YOkP_of {P : Program} : ∀ (c : Code) (p : Plan), (∀ t ∈ ydsOf c p, YdOk E P t) → YOkP E P c p := by
  intro c
  induction c with
  | seq a b iha ihb =>
    intro p h
    cases p <;> try (simp only [YOkP]; done)
    simp only [ydsOf, List.mem_append] at h
    exact ⟨iha _ fun t ht => h t (.inl ht), ihb _ fun t ht => h t (.inr ht)⟩
  | block i a ih =>
    intro p h
    cases p <;> try (simp only [YOkP]; done)
    simp only [ydsOf] at h
    exact ih _ h
  | rangeFunc g ps a b _ _ =>
    intro p h
    cases p <;> try (simp only [YOkP]; done)
    simp only [ydsOf, List.mem_singleton] at h
    exact h _ rfl
  | _ => intro p h; cases p <;> simp only [YOkP]
theorem ydC {P : Program} {t : Nat × FuncId × YD} {l : List (Nat × FuncId × YD)} (h : YdOk E P t) (hs : ∀ t ∈ l, YdOk E P t) : ∀ t' ∈ t :: l, YdOk E P t' := fun t' ht => by
  rcases List.mem_cons.1 ht with rfl | ht
  · exact h
  · exact hs t' ht

section
variable {X : Cx E} {st : TS E}

theorem maskT_ok {w : World} {G : Ghost} {keep : List Nat} {t : List (TV E)} {tmps : Array Value} (hs : tmps.size = t.length) (h : ∀ j d, t[j]? = some d → VT E w G d (tmps.getD j undef)) : VTs E w G (maskT keep t) tmps.toList := by
  have key : ∀ (t : List (TV E)) (vs : List Value) (n : Nat), vs.length = t.length → (∀ j d, t[j]? = some d → VT E w G d (vs.getD j undef)) → VTs E w G ((t.zipIdx n).map fun p => cond (keep.elem p.2) p.1 .any) vs := by
    intro t
    induction t with
    | nil => intro vs n hl _; cases vs with | nil => exact .nil | cons _ _ => cases hl
    | cons d t ih =>
      intro vs n hl h
      cases vs with
      | nil => cases hl
      | cons v vs =>
        rw [List.zipIdx_cons, List.map_cons]
        refine .cons ?_ (ih vs (n + 1) (by simpa using hl) fun j d' hj => by simpa using h (j + 1) d' (by simpa using hj))
        cases keep.elem n
        · simp only [cond_false, VT]
        · simpa using h 0 d rfl
  refine key t tmps.toList 0 (by simpa using hs) fun j d hj => ?_
  have := h j d hj
  rw [Array.getD_eq_getD_getElem?, ← Array.getElem?_toList] at this
  rw [List.getD_eq_getElem?_getD]; exact this

theorem Rel.rebase {w0 w : World} {G0 G : Ghost} {a : Act} (hr : Rel E w0 G0 st a w G) : Rel E w G st a w G :=
  ⟨Evol.refl w G, hr.size, hr.tmps, hr.defers, hr.boxes, fun _ _ _ _ => rfl, hr.pinsAt, hr.softs⟩
theorem Rel.over {w0 w1 w2 : World} {G0 G1 G2 : Ghost} {a1 a2 : Act} {st1 st2 : TS E} (h1 : Rel E w0 G0 st1 a1 w1 G1) (h2 : Rel E w1 G1 st2 a2 w2 G2) (hd : ∀ q, q ∈ st1.d → q ∈ st2.d) : Rel E w0 G0 st2 a2 w2 G2 :=
  ⟨h1.evol.trans h2.evol, h2.size, h2.tmps, h2.defers, h2.boxes, fun q b hq hn => (h2.fix q b (h1.evol.goes.i q b hq) hn).trans (h1.fix q b hq fun hm => hn (hd q hm)), h1.pins, h2.softs⟩

theorem runM_range (hX : X.Ok) {F : Nat} {g : Operand} {ps : Array Tmp} {ca cb : Code} {y f : FuncId} {keep : List Nat} {R : Type} {k : Ex E → TS E → Option R} {r : R} {ow : List Own} (h : runM X F (.rangeFunc g ps ca cb) (.range ow y f keep) st k = some r)
    (hy : YOkP E X.P (.rangeFunc g ps ca cb) (.range ow y f keep)) : AWp E X.P (.rangeFunc g ps ca cb) st (fun x st' => k x st' = some r ∧ Fr [] false st st') := by
  obtain ⟨hyd, hent⟩ := hy
  simp only [runM] at h
  split at h <;> try (cases h; done)
  rename_i stA hadopt
  suffices hmain : AWp E X.P (.rangeFunc g ps ca cb) stA (fun x st' => k x st' = some r ∧ Fr [] false stA st') by
    intro w0 G0 a w G hr
    obtain ⟨⟨GA, hrA⟩, hfA⟩ := adoptT_sound hadopt hr
    exact wp_mono (hmain w0 G0 a w GA hrA) fun _ _ _ hp => CPost.mono (fun x s' hh => ⟨hh.1, hfA.trans hh.2 (fun _ h => h) (fun _ h => h) (fun h => nomatch h)⟩) hp
  clear hadopt
  revert h
  generalize stA = st
  intro h
  split at h <;> try (cases h; done)
  rename_i f' caps hg
  cases hf : Nat.beq f f' <;> rw [hf] at h <;> simp only [cond_true, cond_false] at h
  · cases h
  obtain rfl := Nat.eq_of_beq_eq_true hf
  intro w0 G0 a w G hr
  refine (wpIn_wide (n := 0)).1 (wpIn_rangeFunc fun fn _ => ?_)
  have hv := hr.ev g
  rw [hg] at hv
  simp only [VT] at hv
  obtain ⟨cv, hcv, hcaps⟩ := hv
  -- two new boxes
  have hn1 := hr.newBox (.deferred (some [])) .dfr (heap_alloc_new w _)
  have hgo : Goes (w.alloc (.deferred (some []))) { G with i := G.i ++ [w.heap.size] } ((w.alloc (.deferred (some []))).alloc (.loop ⟨.ready, none, fn, a.tmps, ps, ca, cb, w.heap.size⟩)) { G with i := G.i ++ [w.heap.size] } :=
    ⟨fun _ _ h => h, fun b o v hp hv => (World.cell?_of_block ((Same.alloc _ _).2 b (hn1.boxes.prok b o hp).1)).trans hv, fun _ _ h => h, fun j x h hj => ⟨x, h, hj, Nat.le_refl _, fun _ => rfl⟩⟩
  have hmask : VTs E ((w.alloc (.deferred (some []))).alloc (.loop ⟨.ready, none, fn, a.tmps, ps, ca, cb, w.heap.size⟩)) { G with i := G.i ++ [w.heap.size] } (maskT keep st.t) a.tmps.toList :=
    maskT_ok hr.size fun j d hj => (hn1.tmps j d hj).mono hgo
  have hn2 := hn1.newBox (.loop ⟨.ready, none, fn, a.tmps, ps, ca, cb, w.heap.size⟩) (.loop y (maskT keep st.t)) ⟨⟨ps, ca, cb⟩, fn, a.tmps, w.heap.size, hyd, heap_alloc_new _ _, hmask⟩
  have hlen := hr.boxes.len
  obtain ⟨G2, hG2⟩ : ∃ G2 : Ghost, { G with i := (G.i ++ [w.heap.size]) ++ [(w.alloc (.deferred (some []))).heap.size] } = G2 := ⟨_, rfl⟩
  obtain ⟨W1, hW1⟩ : ∃ W1, (w.alloc (.deferred (some []))).alloc (.loop ⟨.ready, none, fn, a.tmps, ps, ca, cb, w.heap.size⟩) = W1 := ⟨_, rfl⟩
  have hn2 : Rel E w0 G0 { st with H := (st.H ++ [.dfr]) ++ [.loop y (maskT keep st.t)] } a W1 G2 := by rw [← hG2, ← hW1]; exact hn2
  have hi0 : G2.i[st.H.length]? = some w.heap.size := by
    rw [← hG2]
    show ((G.i ++ [w.heap.size]) ++ [(w.alloc (.deferred (some []))).heap.size])[st.H.length]? = _
    rw [List.getElem?_append_left (by simp [hlen]), List.getElem?_append_right (by omega), hlen]; simp
  have hi1 : G2.i[st.H.length + 1]? = some (w.heap.size + 1) := by
    rw [← hG2]
    show ((G.i ++ [w.heap.size]) ++ [(w.alloc (.deferred (some []))).heap.size])[st.H.length + 1]? = _
    rw [List.getElem?_append_right (by simp [hlen])]; simp [hlen]
  have hn3 : Rel E w0 G0 { st with H := (st.H ++ [.dfr]) ++ [.loop y (maskT keep st.t)], df := (colF, [.yld st.H.length]) :: st.df } { a with defers := { target := .collected w.heap.size, args := #[] } :: a.defers } W1 G2 :=
    ⟨hn2.evol, hn2.size, hn2.tmps, ⟨.inr ⟨rfl, w.heap.size, rfl, .cons (by simp only [VT]; exact ⟨_, rfl, hi0⟩) .nil⟩, hn2.defers⟩, hn2.boxes, hn2.fix, hn2.pins, hn2.softs⟩
  have hargs : VTs E W1 G2 (.yld (st.H.length + 1) :: caps) ((#[.func (.yield (w.heap.size + 1)) #[] #[]] : Array Value) ++ cv).toList := by
    have hv2 := hn3.ev g
    have e1 : TS.ev { st with H := (st.H ++ [.dfr]) ++ [.loop y (maskT keep st.t)], df := (colF, [.yld st.H.length]) :: st.df } g = .func (.func f) caps := hg
    rw [e1] at hv2
    simp only [VT] at hv2
    obtain ⟨cv2, hcv2, hcaps2⟩ := hv2
    have e2 : Act.eval { a with defers := { target := .collected w.heap.size, args := #[] } :: a.defers } g = a.eval g := rfl
    rw [e2, hcv] at hcv2
    cases hcv2
    have : ((#[.func (.yield (w.heap.size + 1)) #[] #[]] : Array Value) ++ cv).toList = .func (.yield (w.heap.size + 1)) #[] #[] :: cv.toList := by simp
    rw [this]
    exact .cons (by simp only [VT]; exact ⟨_, rfl, hi1⟩) hcaps2
  have hI := callK_gen hX.E (InvI.mono X.P) (fun C hC => (hX.Γ C hC).gok) h _ _ _ _ _ _ hn3.rebase hargs
  unfold InvI Invokes at hI
  rw [hent] at hI
  have hC := hI
  refine ⟨w.heap.size + 1, [{ target := .collected w.heap.size, args := #[] }], W1, { target := .fn (.func f) cv, args := #[.func (.yield (w.heap.size + 1)) #[] #[]] }, W1, f, #[.func (.yield (w.heap.size + 1)) #[] #[]] ++ cv, W1, (by rw [← hW1]; exact run_enterLoop_outer _ _ _ _ _), ?_, fun _ _ => trivial, ?_, (fun h => nomatch h), (callsIn_wide (n := 0)).2 (Calls.mono hC fun e w3 he => ?_)⟩
  · simp only [resolve, hcv]
    simp [go_sem]
  · simp [invoke, go_sem, hent]
  rcases he with ⟨v, st', G', rfl, hR, hk, hF⟩ | ⟨x, st', hne, hk⟩
  rotate_left
  · cases x <;> first | exact (hne rfl).elim | cases hk
  simp only [thenK] at hk
  split at hk <;> try (cases hk; done)
  rename_i y' ds' hloop
  have hat : G'.i[st.H.length + 1]? = some (w.heap.size + 1) := hR.evol.goes.i _ _ hi1
  obtain ⟨Y', fn', tmps', D', hY', hheap, -⟩ := hR.box hat hloop
  have hlt : w.heap.size + 1 < w3.heap.size := (Array.getElem?_eq_some_iff.1 hheap).1
  have hS := hR.setBox (w' := w3.putObj (w.heap.size + 1) (.loop ⟨.exhausted, none, fn', tmps', Y'.params, Y'.assign, Y'.body, D'⟩)) hat (by simp) rfl rfl rfl (fun b' hb => World.putObj_heap_other hb) (x := .gone)
    (fun _ => ⟨_, World.putObj_heap_same hlt, fun cs t m e => by cases e⟩)
  obtain ⟨D2, hD2, hH2⟩ := hF.d
  have hO := Rel.over hn3 hS (fun q hq => by
    show q ∈ (st.H.length + 1) :: st'.d
    rw [hD2]; simp [hq])
  refine ⟨none, _, run_endLoop hheap (fun e => nomatch e), ?_⟩
  refine ⟨.normal, _, G', trivial, hO, hk, ?_⟩
  refine ⟨hF.len, fun i hi => hF.keep i (fun h => by cases h), ⟨(st.H.length + 1) :: D2, by show (st.H.length + 1) :: st'.d = _; rw [hD2]; rfl, fun q hq hd => ?_⟩, ?_, fun h => nomatch h⟩
  · simp only [List.mem_cons, not_or] at hd
    show (st'.H.set (st.H.length + 1) .gone)[q]? = _
    rw [List.getElem?_set_ne (Ne.symm hd.1), hH2 q (by simp; omega) hd.2]
    rw [List.getElem?_append_left (by simp; omega), List.getElem?_append_left hq]
  · have := hF.hl
    simp at this ⊢
    omega

theorem runM_sound (hX : X.Ok) {F : Nat} : ∀ (c : Code) (p : Plan) {R : Type} {st : TS E} {k : Ex E → TS E → Option R} {r : R}, runM X F c p st k = some r → YOkP E X.P c p → AWp E X.P c st (fun x st' => k x st' = some r ∧ Fr (wr c) false st st') := by
  have base : ∀ (c : Code) (p : Plan) {R : Type} {st : TS E} {k : Ex E → TS E → Option R} {r : R}, runT X F c p st k = some r → AWp E X.P c st (fun x st' => k x st' = some r ∧ Fr (wr c) false st st') :=
    fun c p R st k r h w0 G0 a w G hr => wp_mono ((runT_sound hX c p h).wp hr) fun _ _ _ hp => CPost.mono (fun x s hh => ⟨hh.1, hh.2.wide (fun _ h => h) (fun h => nomatch h)⟩) hp
  intro c
  induction c with
  | seq a b iha ihb =>
    intro p R st k r h hy
    cases p with
    | rseq ow p q =>
      simp only [runM] at h
      split at h <;> try (cases h; done)
      rename_i stA hadopt
      intro w0 G0 ac w G hr
      obtain ⟨⟨GA, hrA⟩, hfA⟩ := adoptT_sound hadopt hr
      refine wp_mono (Q := CPost E w0 G0 (fun x st' => k x st' = some r ∧ Fr (wr (.seq a b)) false stA st')) ?_ fun _ _ _ hp => CPost.mono (fun x s' hh => ⟨hh.1, hfA.trans hh.2 (fun _ h => h) (fun _ h => h) (fun h => nomatch h)⟩) hp
      clear hadopt hfA hr
      revert GA h
      generalize stA = st
      intro h G hr
      refine wp_seq (wp_mono (iha p h hy.1 w0 G0 ac w G hr) fun e a' w' hp => ?_)
      obtain ⟨x, s, G', he, hr', hq, hf⟩ := hp
      cases x with
      | normal =>
        cases e <;> try (exact he.elim)
        exact wp_mono (ihb q hq hy.2 w0 G0 a' w' G' hr') fun _ _ _ hp => CPost.mono (fun x s' hh => ⟨hh.1, hf.trans hh.2 (fun i hi => by simp [wr, hi]) (fun i hi => by simp [wr, hi]) (fun h => nomatch h)⟩) hp
      | _ =>
        have hcp : CPost E w0 G0 (fun x st' => k x st' = some r ∧ Fr (wr (.seq a b)) false st st') e a' w' := ⟨_, s, G', he, hr', hq, hf.wide (fun i hi => by simp [wr, hi]) (fun h => h)⟩
        cases e <;> first | exact he.elim | exact hcp
    | _ => simp only [runM] at h; exact base _ _ h
  | block i a ih =>
    intro p R st k r h hy
    cases p with
    | rblk p =>
      simp only [runM] at h
      intro w0 G0 ac w G hr
      refine wp_block (wp_mono (ih p h hy w0 G0 ac w G hr) fun e a' w' hp => ?_)
      obtain ⟨x, s, G', he, hr', hq, hf⟩ := hp
      cases x with
      | exit j =>
        cases e <;> try (exact he.elim)
        rename_i i'
        have he : i' = j := he
        subst he
        simp only [blockK] at hq
        simp only [Exit.inBlock]
        cases hb : Nat.beq i' i <;> rw [hb] at hq <;> simp only [cond_true, cond_false] at hq
        · have : i' ≠ i := fun e => by subst e; rw [Nat.beq_refl] at hb; cases hb
          rw [if_neg this]
          exact ⟨.exit i', s, G', rfl, hr', hq, hf⟩
        · rw [if_pos (Nat.eq_of_beq_eq_true hb)]
          exact ⟨.normal, s, G', trivial, hr', hq, hf⟩
      | _ =>
        have hcp : CPost E w0 G0 (fun x st' => k x st' = some r ∧ Fr (wr (.block i a)) false st st') e a' w' := ⟨_, s, G', he, hr', hq, hf⟩
        cases e <;> first | exact he.elim | exact hcp
    | _ => simp only [runM] at h; exact base _ _ h
  | rangeFunc g ps a b _ _ =>
    intro p R st k r h hy
    cases p with
    | range ow y f keep => exact runM_range hX h hy
    | _ => simp only [runM] at h; cases h
  | _ => intro p R st k r h hy; simp only [runM] at h; exact base _ _ h

/-! ### Functions that range over functions -/
def markK {R : Type} (k : TS E → Option R) : List (FuncId × List (TV E)) → TS E → Option R
  | [], st => k { st with df := [] }
  | (f, [.yld q]) :: df, st => cond (Nat.beq f colF) (match st.H[q]? with
      | some .dfr => markK k df { st with H := st.H.set q .gone, d := q :: st.d }
      | _ => none) none
  | _, _ => none
def endM (X : Cx E) (s : Shp) (fn : Func) (st0 : TS E) : (p : Option Outs) → Ex E → TS E → Option (OutP E s.out p)
  | none, .ret, st => markK (fun st => (resAll X st fn.results.toList).bind fun ds => s.out.get st0 st (packRes ds)) st.df st
  | none, .normal, st => markK (fun st => (resAll X st fn.results.toList).bind fun ds => s.out.get st0 st (packRes ds)) st.df st
  | _, _, _ => none
noncomputable def funTM (X : Cx E) (F : Nat) (s : Shp) (fn : Func) (pl : Plan) (x : dens E s.tys) : Option (OutP E s.out s.pan) :=
  match fn.body with
  | some c => runM X F c pl (s.st0 fn.ntmps (putAll s.tys x)) (endM X s fn (s.st0 fn.ntmps (putAll s.tys x)) s.pan)
  | none => none

theorem markK_sound {P : Program} {fn : Func} {R : Type} {k : TS E → Option R} {r : R} {w0 : World} {G0 : Ghost} {tmps : Array Value} {RR : Ending → World → Prop} : ∀ (df : List (FuncId × List (TV E))) (st : TS E) (ds : List Deferred) (w : World) (G : Ghost), markK k df st = some r →
    Rel E w0 G0 { st with df := df } { tmps := tmps, defers := ds } w G →
    (∀ (st' : TS E) (w' : World) (G' : Ghost), k { st' with df := [] } = some r → Rel E w0 G0 { st' with df := [] } { tmps := tmps, defers := [] } w' G' → Fr [] false st st' → ∃ v, (results fn tmps).run P w' = .ok v w' ∧ RR (.returned v) w') →
    LeavesInM Fence.wide 0 P fn tmps RR ds .returning w
  | [], st, ds, w, G, h, hr, hk => by
    have : ds = [] := by
      have := hr.defers
      cases ds with
      | nil => rfl
      | cons _ _ => exact this.elim
    subst this
    exact hk st w G h hr (Fr.refl _ _ _)
  | (f, dv) :: df, st, ds, w, G, h, hr, hk => by
    cases ds with
    | nil => exact hr.defers.elim
    | cons d0 ds =>
    obtain ⟨hd, hrest⟩ := hr.defers
    obtain ⟨q, hdv, h'⟩ : ∃ q, dv = [.yld q] ∧ cond (Nat.beq f colF) (match st.H[q]? with
      | some .dfr => markK k df { st with H := st.H.set q .gone, d := q :: st.d }
      | _ => none) none = some r := by
      cases dv with
      | nil => cases h
      | cons z zs =>
        cases zs with
        | cons _ _ => cases z <;> cases h
        | nil => cases z <;> first | (cases h; done) | exact ⟨_, rfl, h⟩
    subst hdv
    clear h
    cases hc : Nat.beq f colF <;> rw [hc] at h' <;> simp only [cond_true, cond_false] at h'
    · cases h'
    split at h' <;> try (cases h'; done)
    rename_i hq
    obtain ⟨-, b, rfl, hv⟩ := hd.resolve_left (fun hh => by
      have e : Nat.beq f colF = false := hh.1
      rw [hc] at e; cases e)
    obtain ⟨u, us, he, h1, -⟩ := hv.cons_inv
    cases he
    simp only [VT] at h1
    obtain ⟨b', he, hat⟩ := h1
    cases he
    have hbox : w.heap[b]? = some (.deferred (some [])) := hr.box hat hq
    have hlt : b < w.heap.size := (Array.getElem?_eq_some_iff.1 hbox).1
    have hS := hr.setBox (w' := w.putObj b (.deferred none)) hat (by simp) rfl rfl rfl (fun b' hb => World.putObj_heap_other hb) (x := .gone) (fun _ => ⟨_, World.putObj_heap_same hlt, fun cs t m e => by cases e⟩)
    refine ⟨(fun e => nomatch e), .inl ⟨b, _, rfl, run_takeDeferred hbox, ?_⟩⟩
    refine markK_sound df { st with H := st.H.set q .gone, d := q :: st.d } ds _ G h' ⟨hS.evol, hS.size, hS.tmps, hS.defers.2, hS.boxes, hS.fix, hS.pins, hS.softs⟩ fun st' w' G' h1 h2 h3 => hk st' w' G' h1 h2 ?_
    have f1 : Fr [] false st { st with H := st.H.set q .gone, d := q :: st.d } := ⟨rfl, fun _ _ => rfl, ⟨[q], rfl, fun j hj hd => List.getElem?_set_ne (fun e => hd (by simp [e]))⟩, by simp, fun h => nomatch h⟩
    exact f1.trans h3 (fun _ h => h) (fun _ h => h) (fun h => nomatch h)

theorem funTM_sound (hX : X.Ok) {F : Nat} {s : Shp} {fn : Func} {pl : Plan} {x : dens E s.tys} {y : OutP E s.out s.pan} (hf : X.P.funcs[s.f]? = some fn) (hn : (fn.name == "runtime.NumGoroutine") = false) (hy : ∀ c, fn.body = some c → YOkP E X.P c pl) (h : funTM X F s fn pl x = some y) :
    ACalls X.P s.f (s.ds (putAll s.tys x)) (s.H (putAll s.tys x)) s.g0 (s.c (putAll s.tys x)) (outP s (s.H (putAll s.tys x)) s.pan y) := by
  unfold funTM at h
  split at h <;> try (cases h; done)
  rename_i c hb
  intro w G args hP hB hS hV
  have hr0 := Rel.init (n := fn.ntmps) hP hB hS hV
  have hpre := hr0.pre
  refine invokes_of_calls hf hb hn ((callsIn_wide (n := 0)).1 (callsIn_of_wp_marks hf hb trivial ((wpIn_wide (n := 0)).2 (wp_mono (runM_sound hX c pl h (hy c hb) w G _ w G hr0) fun e a' w' hp => ?_))))
  obtain ⟨ex, st, G', he, hr, hk, hF⟩ := hp
  have fin : ∀ (p : Option Outs) (y : OutP E s.out p), endM X s fn (s.st0 fn.ntmps (putAll s.tys x)) p ex st = some y → (ex = .ret ∨ ex = .normal) ∧ LeavesInM Fence.wide 0 X.P fn a'.tmps (ResOk E w G (outP s (s.H (putAll s.tys x)) p y)) a'.defers .returning w' := by
    intro p y hk
    cases p with
    | some q => cases ex <;> cases hk
    | none =>
      have main : markK (fun st => (resAll X st fn.results.toList).bind fun ds => s.out.get (s.st0 fn.ntmps (putAll s.tys x)) st (packRes ds)) st.df st = some y → LeavesInM Fence.wide 0 X.P fn a'.tmps (ResOk E w G (outP s (s.H (putAll s.tys x)) none y)) a'.defers .returning w' := fun hk =>
        markK_sound st.df st a'.defers w' G' hk hr fun st' w2 G2 h1 h2 h3 => by
          have hF3 : Fr (wr c) false (s.st0 fn.ntmps (putAll s.tys x)) st' := hF.trans h3 (fun _ h => h) (fun _ h => by cases h) (fun h => nomatch h)
          cases hds : resAll X { st' with df := [] } fn.results.toList with
          | none => rw [hds] at h1; cases h1
          | some ds =>
            rw [hds] at h1
            obtain ⟨v, hv, hrun⟩ := results_ok hX h2 hds
            have hF4 : Fr (wr c) false (s.st0 fn.ntmps (putAll s.tys x)) { st' with df := [] } := ⟨hF3.len, hF3.keep, hF3.d, hF3.hl, fun h => nomatch h⟩
            obtain ⟨G3, q1, q2, q3, q4, q5⟩ := Outs.get_ok hX.E (ok := true) (st0 := s.st0 fn.ntmps (putAll s.tys x)) (st := { st' with df := [] }) hpre rfl rfl h2 hF4 hv h1
            exact ⟨v, hrun, v, G3, rfl, q1, q2, q3, q4, q5⟩
      cases ex <;> try (cases hk; done)
      · exact ⟨.inr rfl, main hk⟩
      · exact ⟨.inl rfl, main hk⟩
  obtain ⟨hex, hl⟩ := fin s.pan y hk
  rcases hex with rfl | rfl <;> cases e <;> first | exact he.elim | exact hl
theorem Ctr.ok_ofM (hX : X.Ok) {C : Ctr E} {F : Nat} {fn : Func} {pl : Plan} (hf : X.P.funcs[C.s.f]? = some fn) (hn : (fn.name == "runtime.NumGoroutine") = false) {c : Code} (hc : fn.body = some c) {l : List (Nat × FuncId × YD)} (hl : ydsOf c pl = l) (hy : ∀ t ∈ l, YdOk E X.P t)
    (h : ∀ x, funTM X F C.s fn pl x = C.m x) : C.Ok X.P :=
  fun x y hyy => funTM_sound hX hf hn (fun c' hc' => by rw [hc] at hc'; cases hc'; exact YOkP_of c pl (by rw [hl]; exact hy)) (by rw [h x]; exact hyy)
end

end Go.RT
/-
  RT, part 37: names that printed models use; contracts out of models.
-/
namespace Go.RT
set_option linter.unusedVariables false

variable {E : TEnv}

def w64 (n : Int) : Int := IntKind.wrap .i64 n
def sl {α : Type} (l : List α) (p q : Int) : List α := (l.take q.toNat).drop p.toNat
def keq {α : Type} [BEq α] (a b : α) : Bool := a == b

theorem Ctr.ok_of {X : Cx E} (hX : X.Ok) {C : Ctr E} {F : Nat} {fn : Func} {pl : Plan} (hf : X.P.funcs[C.s.f]? = some fn) (hn : (fn.name == "runtime.NumGoroutine") = false) (h : ∀ x, funT X F C.s fn pl x = C.m x) : C.Ok X.P :=
  fun x y hy => funT_sound hX hf hn (by rw [h x]; exact hy)
theorem okN {P : Program} : ∀ C ∈ ([] : List (Ctr E)), C.Ok P := fun _ h => nomatch h
theorem okC {P : Program} {C : Ctr E} {Γ : List (Ctr E)} (h : C.Ok P) (hs : ∀ C ∈ Γ, C.Ok P) : ∀ C' ∈ C :: Γ, C'.Ok P := fun C' hC => by
  rcases List.mem_cons.1 hC with rfl | hC
  · exact h
  · exact hs C' hC

/-- The table of types, with the slots whose rows are built soft. -/
def tyS (l : List Nat) (ty : TypeId → Option Ty) : TypeId → Option Ty := fun t => cond (Nat.ble 2000000 t) (cond (l.elem (t - 2000000)) (some .bool) none) (ty t)
end Go.RT
/-
  RT, part 38: contracts of functions without a body.
-/
namespace Go.RT
set_option linter.unusedVariables false

variable {E : TEnv}

def ibF (F : Nat) (s : List UInt8) (c : Int) : Option Int := some (Lib.indexByte s c.toNat.toUInt8)
def ibS (f : FuncId) : Shp := ⟨f, [.one (.dat .str), .one (.dat (.int .u8))], [], [], ⟨.one (.dat (.int .i64)), [], [], []⟩, none, []⟩
def ibC (E : TEnv) (f : FuncId) (F : Nat) : Ctr E := ⟨ibS f, fun (x : List UInt8 × Int) => ibF F x.1 x.2⟩

theorem ib_ok {P : Program} {f : FuncId} (h : ∀ args w, (callFunc f args).run P w = ((Extern.BytealgIndexByte.indexByte args).run P w).andThen fun v w' => .ok (.value v) w') (F : Nat) : (ibC E f F).Ok P := by
  have key : ∀ (s : List UInt8) (c : Int), ACalls (E := E) P f [.dat .str s, .dat (.int .u8) c] [] [] [] ⟨true, .dat (.int .i64) (Lib.indexByte s c.toNat.toUInt8), [], [], [], []⟩ := by
    intro s c w G args hP hB hS hv
    obtain ⟨u, us, he, h1, h2⟩ := hv.cons_inv
    obtain ⟨u2, us2, he2, h3, h4⟩ := h2.cons_inv
    have h4 : us2 = [] := by simpa only [VTs] using h4
    have e1 := h1.str_inv
    have e2 := h3.int_inv
    subst e1 e2 h4 he2
    have ha : args = #[mkStr s, .int .u8 c] := by apply Array.ext'; exact he
    subst ha
    have hrun : (callFunc f #[mkStr s, .int .u8 c]).run P w = .ok (.value (.int .i64 (Lib.indexByte s c.toNat.toUInt8))) w := by
      rw [h, mkStr, Lib.run_indexByteString]; rfl
    unfold Invokes
    rw [hrun]
    exact ⟨.int .i64 (Lib.indexByte s c.toNat.toUInt8), G, rfl, Evol.refl w G, hB, hS, .int _ _ _ _, fun _ _ _ _ => rfl⟩
  intro x y hy
  obtain ⟨s, c⟩ := x
  have hy : some (Lib.indexByte s (Int.toNat c).toUInt8) = some y := hy
  cases hy
  exact key s c

/-- The pointer that came in. -/
def neF (F : Nat) : Option Unit := some ()
def neS (f : FuncId) (b : BT) (rows : List (TypeId × Nat)) : Shp := ⟨f, [.one (.ptr 0 0)], [b], rows, ⟨.one (.ptr 0 0), [none], rows.map fun _ => none, []⟩, none, []⟩
def neC (E : TEnv) (f : FuncId) (b : BT) (rows : List (TypeId × Nat)) : Ctr E := ⟨neS f b rows, fun _ => some ()⟩

theorem newRows_none : ∀ (rows : List (TypeId × Nat)) (g : List TGrow), g.length = rows.length → newRows (rows.map fun _ => none) g = g
  | [], [], _ => rfl
  | _ :: rows, x :: g, h => by
    have := newRows_none rows g (by simpa using h)
    simp only [List.map_cons, newRows, this]

theorem ne_ok {P : Program} {f : FuncId} {b : BT} {rows : List (TypeId × Nat)} (h : ∀ v w, (callFunc f #[v]).run P w = .ok (.value v) w) : (neC E f b rows).Ok P := by
  intro x y _
  intro w G args hP hB hS hv
  have hv : VTs E w G [.ptr 0 0] args.toList := hv
  obtain ⟨u, us, he, h1, h2⟩ := hv.cons_inv
  have h2 : us = [] := by simpa only [VTs] using h2
  subst h2
  have ha : args = #[u] := by apply Array.ext'; exact he
  subst ha
  show Invokes P f #[u] w _
  unfold Invokes
  rw [h]
  refine ⟨u, G, rfl, Evol.refl w G, ?_, hS, h1, fun _ _ _ _ => rfl⟩
  have e : newRows (rows.map fun _ => none) (neS f b rows).g0 = (neS f b rows).g0 := newRows_none rows _ (by simp [Shp.g0, neS])
  show Boxes E w G _ (newRows (rows.map fun _ => none) (neS f b rows).g0)
  rw [e]
  exact hB

end Go.RT
/-
  RT, part 39: deferred calls.
-/
namespace Go.RT
set_option linter.unusedVariables false

variable {E : TEnv}

section
variable {st : TS E}

/-- A deferred call of a function that does not recover. -/
def CallsO (P : Program) : Inv := fun f args w R => (∀ args w, (callFunc f args).run P w = .ok (.enter f args) w) ∧ ∀ u, CallsD P f args u w (fun e u' w' => u' = u ∧ R e w')
/-- What recover finds. -/
def ModeOf (u : FrameMode) (v : Value) : Prop := (u = .returning ∧ v = .nilIface) ∨ u = .panicking [{ v := v, recovered := false }]
/-- A deferred call of a function that recovers; the first argument is what recover finds. -/
def CallsR (P : Program) : Inv := fun f vargs w R => (∀ args w, (callFunc f args).run P w = .ok (.enter f args) w) ∧
  ∀ (v : Value) (args : Array Value) (u : FrameMode), vargs.toList = v :: args.toList → ModeOf u v → CallsD P f args u w (fun e u' w' => settle u' = .returning ∧ R e w')
theorem CallsO.mono (P : Program) : (CallsO P).Mono := fun f args w R R' h hi => ⟨hi.1, fun u => (hi.2 u).mono fun e u' w' hh => ⟨hh.1, h _ _ hh.2⟩⟩
theorem CallsR.mono (P : Program) : (CallsR P).Mono := fun f args w R R' h hi => ⟨hi.1, fun v args u h1 h2 => (hi.2 v args u h1 h2).mono fun e u' w' hh => ⟨hh.1, h _ _ hh.2⟩⟩

/-- The contracts of deferred calls: those that do not recover, those that do. -/
structure Dx (E : TEnv) where
  o : List (Ctr E)
  r : List (Ctr E)
structure Dx.Ok (P : Program) (D : Dx E) : Prop where
  o : ∀ C ∈ D.o, C.GOk (CallsO P)
  r : ∀ C ∈ D.r, C.GOk (CallsR P)

/-- A mode: returning, or panicking with a value. It is kept as a last entry of the deferred calls. -/
def me : Option (TV E) → List (FuncId × List (TV E))
  | none => []
  | some d => [(0, [d])]
/-- What recover finds. -/
def mval : Option (TV E) → TV E
  | none => .val .nilIface
  | some d => d
/-- The deferred calls of a function that leaves. -/
def deferK {R : Type} (D : Dx E) (k : Option (TV E) → TS E → Option R) : List (FuncId × List (TV E)) → Option (TV E) → TS E → Option R
  | [], m, st => k m { st with df := [] }
  | (f, ds) :: df, m, st => cond (Nat.beq f colF) none <| cond (D.r.any fun C => Nat.beq C.s.f f)
      (callK { st with df := df } none f (mval m :: ds) (thenK (fun st' => deferK D k df none st') fun _ _ => none) D.r)
      (callK { st with df := df ++ me m } none f ds (thenK (fun st' => deferK D k df m st') fun _ _ => none) D.o)

inductive ModeV : Option (TV E) → List Deferred → FrameMode → Prop
  | ret : ModeV none [] .returning
  | pan (d : TV E) (v : Value) : ModeV (some d) [{ target := .fn (.func 0) #[], args := #[v] }] (.panicking [{ v := v, recovered := false }])

theorem thenK_ne {R : Type} {k1 : TS E → Option R} {x : Ex E} {s : TS E} {r : R} (hne : x ≠ .normal) (h : thenK k1 (fun _ _ => none) x s = some r) : False := by
  cases x <;> first | exact hne rfl | cases h

theorem DRel.app {w : World} {G : Ghost} : ∀ {a b : List Deferred} {x y : List (FuncId × List (TV E))}, a.length = x.length → DRel E w G (a ++ b) (x ++ y) → DRel E w G a x ∧ DRel E w G b y
  | [], b, [], y, _, h => ⟨trivial, h⟩
  | d :: a, b, z :: x, y, hl, h => by
    obtain ⟨h1, h2⟩ := h
    obtain ⟨h3, h4⟩ := DRel.app (by simpa using hl) h2
    exact ⟨⟨h1, h3⟩, h4⟩
theorem DRel.len {w : World} {G : Ghost} : ∀ {a : List Deferred} {x : List (FuncId × List (TV E))}, DRel E w G a x → a.length = x.length
  | [], [], _ => rfl
  | _ :: a, _ :: x, h => by simp [DRel.len h.2]
  | [], _ :: _, h => h.elim
  | _ :: _, [], h => h.elim
theorem Fr.setDf (st : TS E) (y : List (FuncId × List (TV E))) (W : List Nat) : Fr W false st { st with df := y } := ⟨rfl, fun _ _ => rfl, ⟨[], rfl, fun _ _ _ => rfl⟩, Nat.le_refl _, fun h => nomatch h⟩
theorem Rel.withDf {w0 w : World} {G0 G : Ghost} {a : Act} {y : List (FuncId × List (TV E))} {ds : List Deferred} (h : Rel E w0 G0 st a w G) (hd : DRel E w G ds y) : Rel E w0 G0 { st with df := y } { a with defers := ds } w G :=
  ⟨h.evol, h.size, h.tmps, hd, h.boxes, h.fix, h.pins, h.softs⟩

theorem deferK_sound (hE : E.Ok) {P : Program} {fn : Func} {D : Dx E} (hD : D.Ok P) {R : Type} {k : Option (TV E) → TS E → Option R} {r : R} {w0 : World} {G0 : Ghost} {tmps : Array Value} {RR : Ending → World → Prop} :
    ∀ (df : List (FuncId × List (TV E))) (m : Option (TV E)) (st : TS E) (ds mv : List Deferred) (u : FrameMode) (w : World) (G : Ghost), deferK D k df m st = some r → ds.length = df.length →
      Rel E w0 G0 { st with df := df ++ me m } { tmps := tmps, defers := ds ++ mv } w G → ModeV m mv u →
      (∀ (m' : Option (TV E)) (st' : TS E) (mv' : List Deferred) (u' : FrameMode) (w' : World) (G' : Ghost), k m' { st' with df := [] } = some r → Rel E w0 G0 { st' with df := me m' } { tmps := tmps, defers := mv' } w' G' → ModeV m' mv' u' → Fr [] false st st' → Leaves P fn tmps RR [] u' w') →
      Leaves P fn tmps RR ds u w
  | [], m, st, ds, mv, u, w, G, h, hl, hr, hm, hk => by
    have : ds = [] := by cases ds with | nil => rfl | cons _ _ => cases hl
    subst this
    exact hk m st mv u w G h hr hm (Fr.refl _ _ _)
  | (f, dv) :: df, m, st, ds, mv, u, w, G, h, hl, hr, hm, hk => by
    cases ds with
    | nil => cases hl
    | cons d0 ds =>
    have hl' : ds.length = df.length := by simpa using hl
    have hdr : DRel E w G (d0 :: (ds ++ mv)) ((f, dv) :: (df ++ me m)) := hr.defers
    obtain ⟨hdo, hdr2⟩ := hdr
    simp only [deferK] at h
    cases hcol : Nat.beq f colF <;> rw [hcol] at h <;> simp only [cond_true, cond_false] at h
    rotate_left
    · cases h
    obtain ⟨-, cap, htar, hargs⟩ := hdo.resolve_right (fun hh => by
      have e : f = colF := hh.1
      rw [e, Nat.beq_refl] at hcol; cases hcol)
    have hu : u ≠ .run := by cases hm <;> (intro e; cases e)
    have hinv : (∀ args w, (callFunc f args).run P w = .ok (.enter f args) w) → (invoke d0.target d0.args).run P w = .ok (.enter f (d0.args ++ cap)) w := fun he => by
      rw [htar]
      have := he (d0.args ++ cap) w
      simpa [invoke] using this
    cases hc : (D.r.any fun C => Nat.beq C.s.f f) <;> rw [hc] at h <;> simp only [cond_true, cond_false] at h
    · have hr1 : Rel E w0 G0 { st with df := df ++ me m } { tmps := tmps, defers := ds ++ mv } w G := hr.withDf (y := df ++ me m) (ds := ds ++ mv) hdr2
      have hI := callK_gen hE (CallsO.mono P) hD.o h w0 G0 _ w G (d0.args ++ cap) hr1 hargs
      refine ⟨hu, .func f, cap, f, d0.args ++ cap, htar, hinv hI.1, (hI.2 u).mono fun e u' w' hh => ?_⟩
      obtain ⟨rfl, hh⟩ := hh
      rcases hh with ⟨v, st', G', rfl, hR, hkk, hF⟩ | ⟨x, st', hne, hkk⟩
      · have hset : settle u' = u' := by cases hm <;> rfl
        show Leaves P fn tmps RR ds (settle u') w'
        rw [hset]
        have hdf : st'.df = df ++ me m := hF.df rfl
        have hR' : Rel E w0 G0 { st' with df := df ++ me m } { tmps := tmps, defers := ds ++ mv } w' G' := by rw [← hdf]; exact hR
        refine deferK_sound hE hD df m st' ds mv u' w' G' hkk hl' hR' hm fun m' st2 mv' u2 w2 G2 h1 h2 h3 hF2 => hk m' st2 mv' u2 w2 G2 h1 h2 h3 ?_
        exact ((Fr.setDf st (df ++ me m) []).trans hF (W := []) (n := false) (fun _ h => h) (fun _ h => h) (fun h => nomatch h)).trans hF2 (fun _ h => h) (fun _ h => h) (fun h => nomatch h)
      · exact (thenK_ne hne hkk).elim
    · obtain ⟨hd1, hd2⟩ := DRel.app hl' hdr2
      have hr1 : Rel E w0 G0 { st with df := df } { tmps := tmps, defers := ds } w G := hr.withDf (y := df) (ds := ds) hd1
      have hv : ∃ v, ModeOf u v ∧ VT E w G (mval m) v := by
        cases hm with
        | ret => exact ⟨.nilIface, .inl ⟨rfl, rfl⟩, by simp only [mval, VT]⟩
        | pan d v =>
          refine ⟨v, .inr rfl, ?_⟩
          obtain ⟨hdo2, -⟩ := hd2
          obtain ⟨-, cap', ht', hv'⟩ := hdo2.resolve_right (fun hh => absurd (show (0 : Nat) = colF from hh.1) (by decide))
          simp only [Target.fn.injEq] at ht'
          obtain ⟨-, rfl⟩ := ht'
          obtain ⟨u1, us, he, h1, -⟩ := hv'.cons_inv
          simp at he
          obtain ⟨rfl, -⟩ := he
          exact h1
      obtain ⟨v, hmo, hvt⟩ := hv
      have hI := callK_gen hE (CallsR.mono P) hD.r h w0 G0 _ w G (#[v] ++ (d0.args ++ cap)) hr1 (by
        have : (#[v] ++ (d0.args ++ cap)).toList = v :: (d0.args ++ cap).toList := by simp
        rw [this]
        exact .cons hvt hargs)
      refine ⟨hu, .func f, cap, f, d0.args ++ cap, htar, hinv hI.1, (hI.2 v (d0.args ++ cap) u (by simp) hmo).mono fun e u' w' hh => ?_⟩
      obtain ⟨hset, hh⟩ := hh
      rcases hh with ⟨v, st', G', rfl, hR, hkk, hF⟩ | ⟨x, st', hne, hkk⟩
      · show Leaves P fn tmps RR ds (settle u') w'
        rw [hset]
        have hdf : st'.df = df := hF.df rfl
        have hR' : Rel E w0 G0 { st' with df := df ++ me none } { tmps := tmps, defers := ds ++ [] } w' G' := by
          simp only [me, List.append_nil]
          rw [← hdf]; exact hR
        refine deferK_sound hE hD df none st' ds [] .returning w' G' hkk hl' hR' .ret fun m' st2 mv' u2 w2 G2 h1 h2 h3 hF2 => hk m' st2 mv' u2 w2 G2 h1 h2 h3 ?_
        exact ((Fr.setDf st df []).trans hF (W := []) (n := false) (fun _ h => h) (fun _ h => h) (fun h => nomatch h)).trans hF2 (fun _ h => h) (fun _ h => h) (fun h => nomatch h)
      · exact (thenK_ne hne hkk).elim
end

end Go.RT
