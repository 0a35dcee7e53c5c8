/-
  RT, part 40: functions with deferred calls; functions that are deferred; recover.
-/
import Derived.Test.YtnbdahlceddihaaDoorR39
namespace Go.RT
set_option linter.unusedVariables false

variable {E : TEnv}

section
variable {X : Cx E}

/-- A body without deferred calls. -/
theorem funT_body (hX : X.Ok) {F : Nat} {s : Shp} {fn : Func} {pl : Plan} {x : dens E s.tys} {y : OutP E s.out s.pan} {c : Code} (hb : fn.body = some c) (h : funT X F s fn pl x = some y) (w : World) (G : Ghost) (args : Array Value)
    (hP : Pins E w G) (hB : Boxes E w G (s.H (putAll s.tys x)) s.g0) (hV : VTs E w G (s.ds (putAll s.tys x)) args.toList) :
    c.wp X.P (bodyPost X.P fn (ResOk E w G (outP s (s.H (putAll s.tys x)) s.pan y))) { tmps := args ++ Array.replicate (fn.ntmps - args.size) undef, defers := [] } w := by
  unfold funT at h
  rw [hb] at h
  simp only at h
  obtain ⟨hnd, h⟩ := rq_some h
  have hr0 := Rel.init (n := fn.ntmps) hP hB hV
  have hpre := hr0.pre
  refine wp_mono (runT_sound hX c pl h w G _ w G hr0) fun e a' w' hp => ?_
  obtain ⟨ex, st, G', he, hr, hk, hF⟩ := hp
  have hdf : st.df = [] := hF.df hnd
  have hdef : a'.defers = [] := by
    have := hr.defers
    rw [hdf] at this
    cases hd : a'.defers with
    | nil => rfl
    | cons d ds => rw [hd] at this; exact this.elim
  -- a value is returned
  have okc : ∀ {y : dens E s.out.tys}, ((resAll X st fn.results.toList).bind fun ds => s.out.get (s.st0 fn.ntmps (putAll s.tys x)) st (packRes ds)) = some y →
      ∃ v, (results fn a'.tmps).run X.P w' = .ok v w' ∧ ∃ v1 G2, Ending.returned v = endOf (s.out.ares true (s.H (putAll s.tys x)) s.g0 (putAll s.out.tys y)).ok v1 ∧ Evol w G w' G2 ∧
        Boxes E w' G2 (s.out.ares true (s.H (putAll s.tys x)) s.g0 (putAll s.out.tys y)).H (s.out.ares true (s.H (putAll s.tys x)) s.g0 (putAll s.out.tys y)).g ∧ VT E w' G2 (s.out.ares true (s.H (putAll s.tys x)) s.g0 (putAll s.out.tys y)).d v1 ∧
        ∀ (q b : Nat), G.i[q]? = some b → q ∉ (s.out.ares true (s.H (putAll s.tys x)) s.g0 (putAll s.out.tys y)).D → w'.heap[b]? = w.heap[b]? := by
    intro y hy
    cases hds : resAll X st fn.results.toList with
    | none => rw [hds] at hy; cases hy
    | some ds =>
      rw [hds] at hy
      dsimp only [Option.bind] at hy
      obtain ⟨v, hv, hrun⟩ := results_ok hX hr hds
      obtain ⟨G2, q1, q2, q3, q4⟩ := Outs.get_ok (ok := true) hpre rfl hdf hr hF hv hy
      exact ⟨v, hrun, v, G2, rfl, q1, q2, q3, q4⟩
  have fin : ∀ (p : Option Outs) (y : OutP E s.out p), endK X s fn (s.st0 fn.ntmps (putAll s.tys x)) p ex st = some y → bodyPost X.P fn (fun e w' => ∃ v G', e = endOf (outP s (s.H (putAll s.tys x)) p y).ok v ∧ Evol w G w' G' ∧ Boxes E w' G' (outP s (s.H (putAll s.tys x)) p y).H (outP s (s.H (putAll s.tys x)) p y).g ∧
      VT E w' G' (outP s (s.H (putAll s.tys x)) p y).d v ∧ ∀ (q b : Nat), G.i[q]? = some b → q ∉ (outP s (s.H (putAll s.tys x)) p y).D → w'.heap[b]? = w.heap[b]?) e a' w' := by
    intro p y hk
    cases p with
    | none =>
      cases ex <;> cases e <;> try (exact he.elim)
      · obtain ⟨v, hrun, h2⟩ := okc hk; exact ⟨hdef, v, hrun, h2⟩
      · cases hk
      · cases hk
      · obtain ⟨v, hrun, h2⟩ := okc hk; exact ⟨hdef, v, hrun, h2⟩
      · cases hk
    | some q =>
      cases ex <;> cases e <;> try (exact he.elim)
      · obtain ⟨y', hy, rfl⟩ := goK_some hk; obtain ⟨v, hrun, h2⟩ := okc hy; exact ⟨hdef, v, hrun, h2⟩
      · cases hk
      · cases hk
      · obtain ⟨y', hy, rfl⟩ := goK_some hk; obtain ⟨v, hrun, h2⟩ := okc hy; exact ⟨hdef, v, hrun, h2⟩
      · obtain ⟨y', hy, rfl⟩ := retK_some hk
        obtain ⟨v, rfl, hv⟩ := he
        obtain ⟨G2, q1, q2, q3, q4⟩ := Outs.get_ok (ok := false) hpre rfl hdf hr hF hv hy
        exact ⟨hdef, v, G2, rfl, q1, q2, q3, q4⟩
  exact fin s.pan y hk

theorem enters_of {P : Program} {f : FuncId} {fn : Func} {c : Code} (hf : P.funcs[f]? = some fn) (hb : fn.body = some c) (hn : (fn.name == "runtime.NumGoroutine") = false) : ∀ args w, (callFunc f args).run P w = .ok (.enter f args) w := fun args w => by
  simp only [callFunc, Sem.run_bind, run_program, Result.andThen_ok, hf, hn, hb]
  simp

/-- A function that may be deferred. -/
theorem Ctr.okO_of (hX : X.Ok) {C : Ctr E} {F : Nat} {fn : Func} {pl : Plan} (hf : X.P.funcs[C.s.f]? = some fn) (hn : (fn.name == "runtime.NumGoroutine") = false) (h : ∀ x, funT X F C.s fn pl x = C.m x) : C.GOk (CallsO X.P) := by
  intro x y hy
  have h1 : funT X F C.s fn pl x = some y := by rw [h x]; exact hy
  obtain ⟨c, hb⟩ : ∃ c, fn.body = some c := by
    unfold funT at h1
    split at h1
    · rename_i c hb; exact ⟨c, hb⟩
    · cases h1
  intro w G args hP hB hV
  exact ⟨enters_of hf hb hn, fun u => callsD_of_wp hf hb (funT_body hX hb h1 w G args hP hB hV)⟩

def finK (X : Cx E) (s : Shp) (fn : Func) (st0 : TS E) : (p : Option Outs) → Option (TV E) → TS E → Option (OutP E s.out p)
  | none, none, st => (resAll X st fn.results.toList).bind fun ds => s.out.get st0 st (packRes ds)
  | some q, none, st => goK ((resAll X st fn.results.toList).bind fun ds => s.out.get st0 st (packRes ds))
  | some q, some d, st => retK (q.get st0 st d)
  | none, some _, _ => none
def endD (X : Cx E) (D : Dx E) (s : Shp) (fn : Func) (st0 : TS E) (p : Option Outs) : Ex E → TS E → Option (OutP E s.out p)
  | .ret, st => deferK D (finK X s fn st0 p) st.df none st
  | .normal, st => deferK D (finK X s fn st0 p) st.df none st
  | .panic d, st => deferK D (finK X s fn st0 p) st.df (some d) st
  | _, _ => none
def funTD (X : Cx E) (D : Dx E) (F : Nat) (s : Shp) (fn : Func) (pl : Plan) (x : dens E s.tys) : Option (OutP E s.out s.pan) :=
  match fn.body with
  | some c => runT X F c pl (s.st0 fn.ntmps (putAll s.tys x)) (endD X D s fn (s.st0 fn.ntmps (putAll s.tys x)) s.pan)
  | none => none

theorem DRel.nil_inv {w : World} {G : Ghost} {ds : List Deferred} (h : DRel E w G ds []) : ds = [] := by
  cases ds with
  | nil => rfl
  | cons _ _ => exact h.elim

theorem finK_ok (hX : X.Ok) {s : Shp} {fn : Func} {w0 w : World} {G0 G : Ghost} {st0 st st1 : TS E} {W : List Nat} {tmps : Array Value} {mv : List Deferred} {u : FrameMode} {m : Option (TV E)} (hpre : Pre G0 st0) (hd0 : st0.d = []) (hdf0 : st0.df = [])
    (hr : Rel E w0 G0 { st with df := me m } { tmps := tmps, defers := mv } w G) (hm : ModeV m mv u) (hF : Fr W false st0 st) : ∀ (p : Option Outs) (y : OutP E s.out p), finK X s fn st0 p m { st with df := [] } = some y →
      Leaves X.P fn tmps (ResOk E w0 G0 (match p, y with | none, y => s.out.ares true st0.H st0.g (putAll s.out.tys y) | some q, .inl y => s.out.ares true st0.H st0.g (putAll s.out.tys y) | some q, .inr y => q.ares false st0.H st0.g (putAll q.tys y))) [] u w := by
  have hr' : Rel E w0 G0 { st with df := [] } { tmps := tmps, defers := [] } w G := hr.withDf (y := []) (ds := []) trivial
  have hF' : Fr W false st0 { st with df := [] } := hF.trans (Fr.setDf st [] W) (fun _ h => h) (fun _ h => h) (fun h => nomatch h)
  have hok : ∀ {y : dens E s.out.tys}, ((resAll X { st with df := [] } fn.results.toList).bind fun ds => s.out.get st0 { st with df := [] } (packRes ds)) = some y →
      ∃ v, (results fn tmps).run X.P w = .ok v w ∧ ResOk E w0 G0 (s.out.ares true st0.H st0.g (putAll s.out.tys y)) (.returned v) w := by
    intro y hy
    cases hds : resAll X { st with df := [] } fn.results.toList with
    | none => rw [hds] at hy; cases hy
    | some ds =>
      rw [hds] at hy
      dsimp only [Option.bind] at hy
      obtain ⟨v, hv, hrun⟩ := results_ok hX hr' hds
      obtain ⟨G2, q1, q2, q3, q4⟩ := Outs.get_ok (ok := true) hpre hd0 hdf0.symm hr' hF' hv hy
      exact ⟨v, hrun, v, G2, rfl, q1, q2, q3, q4⟩
  intro p y hk
  cases hm with
  | ret =>
    cases p with
    | none => exact hok hk
    | some q =>
      obtain ⟨y', hy, rfl⟩ := goK_some hk
      exact hok hy
  | pan d v =>
    cases p with
    | none => cases hk
    | some q =>
      obtain ⟨y', hy, rfl⟩ := retK_some hk
      have hv : VT E w G d v := by
        obtain ⟨⟨cap', ht', hv'⟩, -⟩ := hr.defers
        simp only [Target.fn.injEq] at ht'
        obtain ⟨-, rfl⟩ := ht'
        obtain ⟨u1, us, he, h1, -⟩ := hv'.cons_inv
        simp at he
        obtain ⟨rfl, -⟩ := he
        exact h1
      obtain ⟨G2, q1, q2, q3, q4⟩ := Outs.get_ok (ok := false) hpre hd0 hdf0.symm hr' hF' hv hy
      exact ⟨v, G2, rfl, q1, q2, q3, q4⟩

theorem funTD_sound (hX : X.Ok) {D : Dx E} (hD : D.Ok X.P) {F : Nat} {s : Shp} {fn : Func} {pl : Plan} {x : dens E s.tys} {y : OutP E s.out s.pan} (hf : X.P.funcs[s.f]? = some fn) (hn : (fn.name == "runtime.NumGoroutine") = false) (h : funTD X D F s fn pl x = some y) :
    ACalls X.P s.f (s.ds (putAll s.tys x)) (s.H (putAll s.tys x)) s.g0 (outP s (s.H (putAll s.tys x)) s.pan y) := by
  unfold funTD at h
  split at h <;> try (cases h; done)
  rename_i c hb
  intro w G args hP hB hV
  have hr0 := Rel.init (n := fn.ntmps) hP hB hV
  have hpre := hr0.pre
  refine invokes_of_calls hf hb hn (calls_of_wp_defers hf hb (wp_mono (runT_sound hX c pl h w G _ w G hr0) fun e a' w' hp => ?_))
  obtain ⟨ex, st, G', he, hr, hk, hF⟩ := hp
  have hlen := DRel.len hr.defers
  have hF0 : Fr (wr c) false (s.st0 fn.ntmps (putAll s.tys x)) st := hF.wide (fun _ h => h) (fun h => nomatch h)
  have main : ∀ (m : Option (TV E)) (mv : List Deferred) (u : FrameMode), ModeV m mv u → DRel E w' G' mv (me m) → deferK D (finK X s fn (s.st0 fn.ntmps (putAll s.tys x)) s.pan) st.df m st = some y →
      Leaves X.P fn a'.tmps (fun e w' => ∃ v G', e = endOf (outP s (s.H (putAll s.tys x)) s.pan y).ok v ∧ Evol w G w' G' ∧ Boxes E w' G' (outP s (s.H (putAll s.tys x)) s.pan y).H (outP s (s.H (putAll s.tys x)) s.pan y).g ∧
      VT E w' G' (outP s (s.H (putAll s.tys x)) s.pan y).d v ∧ ∀ (q b : Nat), G.i[q]? = some b → q ∉ (outP s (s.H (putAll s.tys x)) s.pan y).D → w'.heap[b]? = w.heap[b]?) a'.defers u w' := by
    intro m mv u hm hdm hk
    have happ : DRel E w' G' (a'.defers ++ mv) (st.df ++ me m) := by
      have key : ∀ (a : List Deferred) (x : List (FuncId × List (TV E))), DRel E w' G' a x → DRel E w' G' (a ++ mv) (x ++ me m) := by
        intro a
        induction a with
        | nil => intro x h; cases x with
          | nil => exact hdm
          | cons _ _ => exact h.elim
        | cons d a ih => intro x h; cases x with
          | nil => exact h.elim
          | cons z x => exact ⟨h.1, ih x h.2⟩
      exact key _ _ hr.defers
    refine deferK_sound hD st.df m st a'.defers mv u w' G' hk hlen (hr.withDf happ) hm fun m' st' mv' u' w2 G2 h1 h2 h3 hF2 => ?_
    have hF3 : Fr (wr c) false (s.st0 fn.ntmps (putAll s.tys x)) st' := hF0.trans hF2 (fun _ h => h) (fun _ h => by cases h) (fun h => nomatch h)
    have := finK_ok hX (st1 := st) hpre rfl rfl h2 h3 hF3 s.pan y h1
    have e : (match s.pan, y with | none, y => s.out.ares true (s.st0 fn.ntmps (putAll s.tys x)).H (s.st0 fn.ntmps (putAll s.tys x)).g (putAll s.out.tys y) | some q, .inl y => s.out.ares true (s.st0 fn.ntmps (putAll s.tys x)).H (s.st0 fn.ntmps (putAll s.tys x)).g (putAll s.out.tys y) | some q, .inr y => q.ares false (s.st0 fn.ntmps (putAll s.tys x)).H (s.st0 fn.ntmps (putAll s.tys x)).g (putAll q.tys y)) = outP s (s.H (putAll s.tys x)) s.pan y := by
      have gen : ∀ (p : Option Outs) (y : OutP E s.out p), (match p, y with | none, y => s.out.ares true (s.st0 fn.ntmps (putAll s.tys x)).H (s.st0 fn.ntmps (putAll s.tys x)).g (putAll s.out.tys y) | some q, .inl y => s.out.ares true (s.st0 fn.ntmps (putAll s.tys x)).H (s.st0 fn.ntmps (putAll s.tys x)).g (putAll s.out.tys y) | some q, .inr y => q.ares false (s.st0 fn.ntmps (putAll s.tys x)).H (s.st0 fn.ntmps (putAll s.tys x)).g (putAll q.tys y)) = outP s (s.H (putAll s.tys x)) p y := by
        intro p y
        cases p with
        | none => rfl
        | some q => cases y <;> rfl
      exact gen s.pan y
    rw [e] at this
    exact this
  cases ex <;> cases e <;> try (exact he.elim)
  · exact main none [] .returning .ret trivial hk
  · cases hk
  · cases hk
  · exact main none [] .returning .ret trivial hk
  · rename_i d ch
    obtain ⟨v, rfl, hv⟩ := he
    exact main (some d) _ _ (.pan d v) ⟨⟨#[], rfl, .cons hv .nil⟩, trivial⟩ hk

theorem Ctr.ok_ofD (hX : X.Ok) {D : Dx E} (hD : D.Ok X.P) {C : Ctr E} {F : Nat} {fn : Func} {pl : Plan} (hf : X.P.funcs[C.s.f]? = some fn) (hn : (fn.name == "runtime.NumGoroutine") = false) (h : ∀ x, funTD X D F C.s fn pl x = C.m x) : C.Ok X.P :=
  fun x y hy => funTD_sound hX hD hf hn (by rw [h x]; exact hy)
theorem goN {I : Inv} : ∀ C ∈ ([] : List (Ctr E)), C.GOk I := fun _ h => nomatch h
theorem goC {I : Inv} {C : Ctr E} {Γ : List (Ctr E)} (h : C.GOk I) (hs : ∀ C ∈ Γ, C.GOk I) : ∀ C' ∈ C :: Γ, C'.GOk I := fun C' hC => by
  rcases List.mem_cons.1 hC with rfl | hC
  · exact h
  · exact hs C' hC

/-- A function that begins with recover: what recover finds is its first argument. -/
def recOps : List Oper → Option (Nat × Nat)
  | [o1, o2] => match o1.op, o1.dst, o1.guard, o2.op, o2.dst, o2.guard with
    | .call c, some i, none, .assign (.tmp i'), some j, none => match c.callee with
      | .builtin .recover => cond (Nat.beq i i' && Nat.beq c.args.size 0) (some (i, j)) none
      | _ => none
    | _, _, _, _, _, _ => none
  | _ => none
def Shp.stR (s : Shp) (n i j : Nat) (ls : List (Lf E)) : TS E := match s.ds ls with
  | m :: ds => { (⟨(padT n ds).set i m, s.H ls, s.g0, [], []⟩ : TS E) with t := setT ((padT n ds).set i m) (some j) ((⟨(padT n ds).set i m, s.H ls, s.g0, [], []⟩ : TS E).ev (.tmp i)) }
  | [] => s.st0 n ls
def funR (X : Cx E) (F : Nat) (s : Shp) (fn : Func) (pl : Plan) (x : dens E s.tys) : Option (OutP E s.out s.pan) :=
  match fn.body with
  | some (.seq (.region _ ops false) rest) => match recOps ops.toList with
    | some (i, j) => rq (noDef rest && s.pan.isNone) (runT X F rest pl (s.stR fn.ntmps i j (putAll s.tys x)) (endK X s fn (s.stR fn.ntmps i j (putAll s.tys x)) s.pan))
    | none => none
  | _ => none

theorem recOps_some {ops : Array Oper} {i j : Nat} (h : recOps ops.toList = some (i, j)) : ∃ o1 o2 c, ops = #[o1, o2] ∧ o1.op = .call c ∧ c.callee = .builtin .recover ∧ c.args = #[] ∧ o1.dst = some i ∧ o1.guard = none ∧ o2.op = .assign (.tmp i) ∧ o2.dst = some j ∧ o2.guard = none := by
  obtain ⟨l⟩ := ops
  simp only at h
  unfold recOps at h
  split at h <;> try (cases h; done)
  rename_i o1 o2 
  split at h <;> try (cases h; done)
  rename_i c i0 i1 j0 h1 h2 h3 h4 h5 h6
  split at h <;> try (cases h; done)
  rename_i hc
  cases hh : (Nat.beq i0 i1 && Nat.beq c.args.size 0) <;> rw [hh] at h <;> simp only [cond_true, cond_false] at h
  · cases h
  rw [Bool.and_eq_true] at hh
  cases h
  have e := Nat.eq_of_beq_eq_true hh.1
  subst e
  exact ⟨o1, o2, c, rfl, h1, hc, Array.eq_empty_of_size_eq_zero (Nat.eq_of_beq_eq_true hh.2), h2, h3, h4, h5, h6⟩

theorem Rel.initL {w : World} {G : Ghost} {args : Array Value} {H : List (TBox E)} {g : List TGrow} {ds : List (TV E)} {n : Nat} (hP : Pins E w G) (hB : Boxes E w G H g) (hV : VTs E w G ds args.toList) :
    Rel E w G ⟨padT n ds, H, g, [], []⟩ { tmps := args ++ Array.replicate (n - args.size) undef, defers := [] } w G := by
  have hl : args.size = ds.length := by simpa using hV.length
  refine ⟨Evol.refl w G, ?_, fun j d hj => ?_, trivial, hB, fun _ _ _ _ => rfl, hP⟩
  · simp [padT, hl]
  · have hj : (padT n ds)[j]? = some d := hj
    unfold padT at hj
    by_cases hlt : j < ds.length
    · rw [List.getElem?_append_left hlt] at hj
      obtain ⟨u, hu, hv⟩ := hV.get j hj
      have : (args ++ Array.replicate (n - args.size) undef).getD j undef = u := by
        have h1 : j < args.size := by omega
        have h2 : args[j] = u := by simpa [h1] using hu
        rw [Array.getD_eq_getD_getElem?, Array.getElem?_append_left h1, Array.getElem?_eq_getElem h1, h2]
        rfl
      rw [this]
      exact hv
    · rw [List.getElem?_append_right (by omega)] at hj
      have := List.mem_of_getElem? hj
      simp at this
      rw [this.2]
      simp only [VT]

theorem Ctr.okR_of (hX : X.Ok) {C : Ctr E} {F : Nat} {fn : Func} {pl : Plan} (hf : X.P.funcs[C.s.f]? = some fn) (hn : (fn.name == "runtime.NumGoroutine") = false) (h : ∀ x, funR X F C.s fn pl x = C.m x) : C.GOk (CallsR X.P) := by
  intro x y hy
  have h1 : funR X F C.s fn pl x = some y := by rw [h x]; exact hy
  unfold funR at h1
  split at h1 <;> try (cases h1; done)
  rename_i id ops rest hb
  split at h1 <;> try (cases h1; done)
  rename_i i j hrec
  obtain ⟨hnp, h1⟩ := rq_some h1
  rw [Bool.and_eq_true] at hnp
  obtain ⟨hnd, hpan⟩ := hnp
  obtain ⟨o1, o2, c, rfl, ho1, hcal, hargs0, hd1, hg1, ho2, hd2, hg2⟩ := recOps_some hrec
  intro w G vargs hP hB hV
  refine ⟨enters_of hf hb hn, fun v args u hva hmo => ?_⟩
  rw [hva] at hV
  generalize hds : C.s.ds (putAll C.s.tys x) = dd at hV h1
  cases dd with
  | nil => simp only [VTs] at hV; cases hV
  | cons m ds =>
  obtain ⟨v', us, he, hvm, hvs⟩ := hV.cons_inv
  cases he
  have hst : C.s.stR fn.ntmps i j (putAll C.s.tys x) = { (⟨(padT fn.ntmps ds).set i m, C.s.H (putAll C.s.tys x), C.s.g0, [], []⟩ : TS E) with t := setT ((padT fn.ntmps ds).set i m) (some j) ((⟨(padT fn.ntmps ds).set i m, C.s.H (putAll C.s.tys x), C.s.g0, [], []⟩ : TS E).ev (.tmp i)) } := by
    unfold Shp.stR; rw [hds]
  have hr0 := Rel.initL (n := fn.ntmps) hP hB hvs
  have hr1 : Rel E w G ⟨(padT fn.ntmps ds).set i m, C.s.H (putAll C.s.tys x), C.s.g0, [], []⟩ _ w G := hr0.put hvm (some i)
  have hr2 := hr1.put (hr1.ev (.tmp i)) (some j)
  have hr2' : Rel E w G (C.s.stR fn.ntmps i j (putAll C.s.tys x)) ((({ tmps := args ++ Array.replicate (fn.ntmps - args.size) undef, defers := [] } : Act).put (some i) v).put (some j) ((({ tmps := args ++ Array.replicate (fn.ntmps - args.size) undef, defers := [] } : Act).put (some i) v).eval (.tmp i))) w G := by rw [hst]; exact hr2
  have hpre := hr2'.pre
  refine callsD_of_wpS hf hb fun c₀ cs hu => ?_
  apply wpS_seq
  apply wpS_region
  have hrange : List.range (#[o1, o2] : Array Oper).size = [0, 1] := rfl
  rw [hrange]
  -- what is left, once recover has been called
  have go : ∀ (u' : FrameMode), settle u' = .returning → wpOpsS X.P #[o1, o2] (Exit.thenS (rest.wpS X.P (bodyPostS X.P fn c₀ cs fun e u' w' => settle u' = .returning ∧ ResOk E w G (outP C.s (C.s.H (putAll C.s.tys x)) C.s.pan y) e w')) (bodyPostS X.P fn c₀ cs fun e u' w' => settle u' = .returning ∧ ResOk E w G (outP C.s (C.s.H (putAll C.s.tys x)) C.s.pan y) e w')) [1]
      (({ tmps := args ++ Array.replicate (fn.ntmps - args.size) undef, defers := [] } : Act).put o1.dst v) ({ c₀ with mode := u' } :: cs) w := by
    intro u' hset
    rw [hd1]
    have hw2 : Region.wanted o2 (yielded #[o1, o2] (({ tmps := args ++ Array.replicate (fn.ntmps - args.size) undef, defers := [] } : Act).put (some i) v).tmps) = true := by simp [Region.wanted, hg2]
    have hrun2 : (execOp (({ tmps := args ++ Array.replicate (fn.ntmps - args.size) undef, defers := [] } : Act).put (some i) v).eval o2).run X.P w = .ok (.value ((({ tmps := args ++ Array.replicate (fn.ntmps - args.size) undef, defers := [] } : Act).put (some i) v).eval (.tmp i))) w := by
      simp [execOp, ho2]
    have e1 : (#[o1, o2] : Array Oper)[1]? = some o2 := rfl
    simp only [wpOpsS, e1, hw2, if_true, hrun2, Oper.upon, Exit.thenS]
    rw [hd2]
    refine wpS_of_wp (wp_mono (runT_sound hX rest pl h1 w G _ w G hr2') fun e a' w' hp => ?_)
    obtain ⟨ex, st, G', he, hr, hk, hF⟩ := hp
    have hd0 : (C.s.stR fn.ntmps i j (putAll C.s.tys x)).d = [] := by rw [hst]
    have hdf0 : (C.s.stR fn.ntmps i j (putAll C.s.tys x)).df = [] := by rw [hst]
    have hH0 : (C.s.stR fn.ntmps i j (putAll C.s.tys x)).H = C.s.H (putAll C.s.tys x) := by rw [hst]
    have hg0 : (C.s.stR fn.ntmps i j (putAll C.s.tys x)).g = C.s.g0 := by rw [hst]
    have hdf : st.df = [] := (hF.df hnd).trans hdf0
    have hdef : a'.defers = [] := by
      have := hr.defers
      rw [hdf] at this
      exact DRel.nil_inv this
    have fin : ∀ (p : Option Outs) (y : OutP E C.s.out p), p.isNone = true → endK X C.s fn (C.s.stR fn.ntmps i j (putAll C.s.tys x)) p ex st = some y →
        bodyPostS X.P fn c₀ cs (fun e u' w' => settle u' = .returning ∧ ResOk E w G (outP C.s (C.s.H (putAll C.s.tys x)) p y) e w') e a' ({ c₀ with mode := u' } :: cs) w' := by
      intro p y hp hk
      cases p with
      | some q => cases hp
      | none =>
        have okc : ((resAll X st fn.results.toList).bind fun ds => C.s.out.get (C.s.stR fn.ntmps i j (putAll C.s.tys x)) st (packRes ds)) = some y →
            ∃ v, (results fn a'.tmps).run X.P w' = .ok v w' ∧ ResOk E w G (outP C.s (C.s.H (putAll C.s.tys x)) none y) (.returned v) w' := by
          intro hy
          cases hds : resAll X st fn.results.toList with
          | none => rw [hds] at hy; cases hy
          | some ds =>
            rw [hds] at hy
            dsimp only [Option.bind] at hy
            obtain ⟨v, hv, hrun⟩ := results_ok hX hr hds
            obtain ⟨G2, q1, q2, q3, q4⟩ := Outs.get_ok (ok := true) hpre hd0 (hdf.trans hdf0.symm) hr hF hv hy
            rw [hH0, hg0] at q2 q3 q4
            exact ⟨v, hrun, v, G2, rfl, q1, q2, q3, q4⟩
        cases ex <;> cases e <;> try (exact he.elim)
        · obtain ⟨v, hrun, h2⟩ := okc hk; exact ⟨hdef, u', rfl, v, hrun, hset, h2⟩
        · cases hk
        · cases hk
        · obtain ⟨v, hrun, h2⟩ := okc hk; exact ⟨hdef, u', rfl, v, hrun, hset, h2⟩
        · cases hk
    exact fin C.s.pan y hpan hk
  have hw1 : Region.wanted o1 (yielded #[o1, o2] ({ tmps := args ++ Array.replicate (fn.ntmps - args.size) undef, defers := [] } : Act).tmps) = true := by simp [Region.wanted, hg1]
  have hrun1 : (execOp ({ tmps := args ++ Array.replicate (fn.ntmps - args.size) undef, defers := [] } : Act).eval o1).run X.P w = .ok .recover w := by
    simp [execOp, ho1, resolve, hcal, hargs0, invoke, go_sem]
  have e0 : (#[o1, o2] : Array Oper)[0]? = some o1 := rfl
  rw [wpOpsS]
  simp only [e0, hw1, if_true, hrun1]
  rcases hmo with ⟨rfl, rfl⟩ | rfl
  · have hrd : recoverD (c₀ :: cs) = none := by simp [recoverD, hu]
    rw [hrd]
    have hc0 : ({ c₀ with mode := .returning } : Frame) = c₀ := by rw [← hu]
    have := go .returning rfl
    rw [hc0] at this
    exact this
  · have hrd : recoverD (c₀ :: cs) = some (v, { c₀ with mode := .panicking [{ v := v, recovered := true }] } :: cs) := by simp [recoverD, hu]
    rw [hrd]
    exact go _ rfl
end

end Go.RT
