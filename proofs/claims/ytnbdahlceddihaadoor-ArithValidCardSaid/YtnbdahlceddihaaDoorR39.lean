/-
  RT, part 39: deferred calls.
-/
import Derived.Test.YtnbdahlceddihaaDoorR38
import Derived.Recover
namespace Go.RT
set_option linter.unusedVariables false

variable {E : TEnv}

/-- What a call comes to. -/
def ResOk (E : TEnv) (w : World) (G : Ghost) (r : ARes E) (e : Ending) (w' : World) : Prop :=
  ∃ v G', e = endOf r.ok v ∧ Evol w G w' G' ∧ Boxes E w' G' r.H r.g ∧ VT E w' G' r.d v ∧ ∀ (q b : Nat), G.i[q]? = some b → q ∉ r.D → w'.heap[b]? = w.heap[b]?

/-- Ways to invoke a function. -/
def Inv := FuncId → Array Value → World → (Ending → World → Prop) → Prop
def Inv.Mono (I : Inv) : Prop := ∀ f args w (R R' : Ending → World → Prop), (∀ e w', R e w' → R' e w') → I f args w R → I f args w R'
def AGC (E : TEnv) (I : Inv) (f : FuncId) (ds : List (TV E)) (H : List (TBox E)) (gs : List TGrow) (r : ARes E) : Prop :=
  ∀ (w : World) (G : Ghost) (args : Array Value), Pins E w G → Boxes E w G H gs → VTs E w G ds args.toList → I f args w (ResOk E w G r)
def Ctr.GOk (I : Inv) (C : Ctr E) : Prop :=
  ∀ x y, C.m x = some y → AGC E I C.s.f (C.s.ds (putAll C.s.tys x)) (C.s.H (putAll C.s.tys x)) C.s.g0 (outP C.s (C.s.H (putAll C.s.tys x)) C.s.pan y)

section
variable {st : TS E}

theorem callK_gen {I : Inv} (hI : I.Mono) {R : Type} {f : FuncId} {ds : List (TV E)} {dst : Option Nat} {k : Ex E → TS E → Option R} {r : R} :
    ∀ {Γ : List (Ctr E)}, (∀ C ∈ Γ, C.GOk I) → callK st dst f ds k Γ = some r → ∀ (w0 : World) (G0 : Ghost) (a : Act) (w : World) (G : Ghost) (args : Array Value), Rel E w0 G0 st a w G → VTs E w G ds args.toList →
      I f args w (fun e w' => (∃ v st' G', e = .returned v ∧ Rel E w0 G0 st' (a.put dst v) w' G' ∧ k .normal st' = some r ∧ Fr (dstL dst) true st st') ∨ ∃ x st', x ≠ .normal ∧ k x st' = some r)
  | [], _, h => by cases h
  | C :: Γ, hΓ, h => by
    have hrest : callK st dst f ds k Γ = some r → _ := callK_gen hI (fun C' hC => hΓ C' (by simp [hC]))
    simp only [callK] at h
    cases hf : Nat.beq C.s.f f <;> rw [hf] at h <;> simp only [cond_true, cond_false] at h
    · exact hrest h
    have hf := Nat.eq_of_beq_eq_true hf
    split at h
    · rename_i ls hls
      split at h
      · rename_i xx hxx
        generalize hbs : allSome (C.s.sel st ds).b = bs at *
        generalize hgs : allSome (C.s.sel st ds).g = gs at *
        obtain ⟨hwf, h⟩ := rq_some h
        cases hm : C.m xx with
        | none => rw [hm] at h; cases h
        | some y =>
          rw [hm] at h
          dsimp only [Option.bind] at h
          intro w0 G0 a w G args hr hargs
          have hnd : bs.Nodup ∧ gs.Nodup ∧ bs.length = C.s.boxes.length ∧ C.s.rows.length = gs.length := by
            unfold Shp.enter at hls
            split at hls <;> try (cases hls; done)
            rename_i H g hH hg
            cases hcc : (nodupN bs && (nodupN gs && (Nat.beq bs.length C.s.boxes.length && rowsSame C.s.rows g))) <;> rw [hcc] at hls <;> simp only [cond_true, cond_false] at hls
            · cases hls
            simp only [Bool.and_eq_true] at hcc
            exact ⟨nodupN_ok hcc.1, nodupN_ok hcc.2.1, Nat.eq_of_beq_eq_true hcc.2.2.1, by rw [(rowsSame_ok hcc.2.2.2).1, (pick_get hg).1]⟩
          obtain ⟨is, gg, hi, hgk, hB, hV⟩ := hr.enter hls hargs
          have hput := getAll_ok _ hxx
          have hok := hΓ C (by simp) xx y hm w (G.sel is gg) args (hr.pinsAt.sel hi hgk) (by rw [hput]; exact hB) (by rw [hput]; exact hV)
          rw [hf] at hok
          have hg0 : (G.sel is gg).g.map (·.1) = C.s.g0 := hB.gs
          have hwf' : ∀ (q : Outs), q.wf bs.length gs.length = true → someFrom bs.length q.boxes = true ∧ gs.length ≤ q.rows.length := fun q hq => by
            unfold Outs.wf at hq
            rw [Bool.and_eq_true] at hq
            exact ⟨hq.1, Nat.le_of_ble_eq_true hq.2⟩
          unfold Shp.wf at hwf
          rw [Bool.and_eq_true] at hwf
          have okcase : ∀ (y : dens E C.s.out.tys) (e : Ending) (w' : World), okK C.s.out bs gs st dst k y = some r →
              ResOk E w (G.sel is gg) (C.s.out.ares true (C.s.H (putAll C.s.tys xx)) C.s.g0 (putAll C.s.out.tys y)) e w' →
              ∃ v st' G', e = .returned v ∧ Rel E w0 G0 st' (a.put dst v) w' G' ∧ k .normal st' = some r ∧ Fr (dstL dst) true st st' := by
            rintro y e w' hk ⟨v1, G', he, hE, hB', hV', hfix⟩
            simp only [Outs.ares, endOf, cond_true] at he
            subst he
            obtain ⟨hs1, hs2⟩ := hwf' _ hwf.1
            simp only [Outs.ares] at hB' hV' hfix
            rw [← hg0] at hB' hV'
            obtain ⟨Gn, hR, hval⟩ := hr.leave hi hgk hnd.1 hnd.2.1 C.s.out hs1 hs2 hE hB' hV' hfix
            exact ⟨v1, _, Gn, rfl, hR.put hval dst, hk, C.s.out.after_fr bs gs st _ dst _⟩
          have fin : ∀ (p : Option Outs) (hp : C.s.pan = p) (y : OutP E C.s.out p), leaveK C.s bs gs st dst k p y = some r → I f args w (ResOk E w (G.sel is gg) (outP C.s (C.s.H (putAll C.s.tys xx)) p y)) →
              I f args w (fun e w' => (∃ v st' G', e = .returned v ∧ Rel E w0 G0 st' (a.put dst v) w' G' ∧ k .normal st' = some r ∧ Fr (dstL dst) true st st') ∨ ∃ x st', x ≠ .normal ∧ k x st' = some r) := by
            intro p hp y hk hi
            refine hI _ _ _ _ _ (fun e w' hR => ?_) hi
            cases p with
            | none => exact .inl (okcase y e w' hk hR)
            | some q =>
              cases y with
              | inl y => exact .inl (okcase y e w' hk hR)
              | inr y => exact .inr ⟨.panic (q.val bs gs st (putAll q.tys y)), _, (fun h => nomatch h), hk⟩
          exact fin C.s.pan rfl y h hok
      · exact hrest h
    · exact hrest h

/-- A deferred call of a function that does not recover. -/
def CallsO (P : Program) : Inv := fun f args w R => (∀ args w, (callFunc f args).run P w = .ok (.enter f args) w) ∧ ∀ u, CallsD P f args u w (fun e u' w' => u' = u ∧ R e w')
/-- What recover finds. -/
def ModeOf (u : FrameMode) (v : Value) : Prop := (u = .returning ∧ v = .nilIface) ∨ u = .panicking [{ v := v, recovered := false }]
/-- A deferred call of a function that recovers; the first argument is what recover finds. -/
def CallsR (P : Program) : Inv := fun f vargs w R => (∀ args w, (callFunc f args).run P w = .ok (.enter f args) w) ∧
  ∀ (v : Value) (args : Array Value) (u : FrameMode), vargs.toList = v :: args.toList → ModeOf u v → CallsD P f args u w (fun e u' w' => settle u' = .returning ∧ R e w')
theorem CallsO.mono (P : Program) : (CallsO P).Mono := fun f args w R R' h hi => ⟨hi.1, fun u => (hi.2 u).mono fun e u' w' hh => ⟨hh.1, h _ _ hh.2⟩⟩
theorem CallsR.mono (P : Program) : (CallsR P).Mono := fun f args w R R' h hi => ⟨hi.1, fun v args u h1 h2 => (hi.2 v args u h1 h2).mono fun e u' w' hh => ⟨hh.1, h _ _ hh.2⟩⟩

/-- The contracts of deferred calls: those that do not recover, those that do. -/
structure Dx (E : TEnv) where
  o : List (Ctr E)
  r : List (Ctr E)
structure Dx.Ok (P : Program) (D : Dx E) : Prop where
  o : ∀ C ∈ D.o, C.GOk (CallsO P)
  r : ∀ C ∈ D.r, C.GOk (CallsR P)

/-- A mode: returning, or panicking with a value. It is kept as a last entry of the deferred calls. -/
def me : Option (TV E) → List (FuncId × List (TV E))
  | none => []
  | some d => [(0, [d])]
/-- What recover finds. -/
def mval : Option (TV E) → TV E
  | none => .val .nilIface
  | some d => d
/-- The deferred calls of a function that leaves. -/
def deferK {R : Type} (D : Dx E) (k : Option (TV E) → TS E → Option R) : List (FuncId × List (TV E)) → Option (TV E) → TS E → Option R
  | [], m, st => k m { st with df := [] }
  | (f, ds) :: df, m, st => cond (D.r.any fun C => Nat.beq C.s.f f)
      (callK { st with df := df } none f (mval m :: ds) (thenK (fun st' => deferK D k df none st') fun _ _ => none) D.r)
      (callK { st with df := df ++ me m } none f ds (thenK (fun st' => deferK D k df m st') fun _ _ => none) D.o)

inductive ModeV : Option (TV E) → List Deferred → FrameMode → Prop
  | ret : ModeV none [] .returning
  | pan (d : TV E) (v : Value) : ModeV (some d) [{ target := .fn (.func 0) #[], args := #[v] }] (.panicking [{ v := v, recovered := false }])

theorem thenK_ne {R : Type} {k1 : TS E → Option R} {x : Ex E} {s : TS E} {r : R} (hne : x ≠ .normal) (h : thenK k1 (fun _ _ => none) x s = some r) : False := by
  cases x <;> first | exact hne rfl | cases h

theorem DRel.app {w : World} {G : Ghost} : ∀ {a b : List Deferred} {x y : List (FuncId × List (TV E))}, a.length = x.length → DRel E w G (a ++ b) (x ++ y) → DRel E w G a x ∧ DRel E w G b y
  | [], b, [], y, _, h => ⟨trivial, h⟩
  | d :: a, b, z :: x, y, hl, h => by
    obtain ⟨h1, h2⟩ := h
    obtain ⟨h3, h4⟩ := DRel.app (by simpa using hl) h2
    exact ⟨⟨h1, h3⟩, h4⟩
theorem DRel.len {w : World} {G : Ghost} : ∀ {a : List Deferred} {x : List (FuncId × List (TV E))}, DRel E w G a x → a.length = x.length
  | [], [], _ => rfl
  | _ :: a, _ :: x, h => by simp [DRel.len h.2]
  | [], _ :: _, h => h.elim
  | _ :: _, [], h => h.elim
theorem Fr.setDf (st : TS E) (y : List (FuncId × List (TV E))) (W : List Nat) : Fr W false st { st with df := y } := ⟨rfl, fun _ _ => rfl, ⟨[], rfl, fun _ _ _ => rfl⟩, Nat.le_refl _, fun h => nomatch h⟩
theorem Rel.withDf {w0 w : World} {G0 G : Ghost} {a : Act} {y : List (FuncId × List (TV E))} {ds : List Deferred} (h : Rel E w0 G0 st a w G) (hd : DRel E w G ds y) : Rel E w0 G0 { st with df := y } { a with defers := ds } w G :=
  ⟨h.evol, h.size, h.tmps, hd, h.boxes, h.fix, h.pins⟩

theorem deferK_sound {P : Program} {fn : Func} {D : Dx E} (hD : D.Ok P) {R : Type} {k : Option (TV E) → TS E → Option R} {r : R} {w0 : World} {G0 : Ghost} {tmps : Array Value} {RR : Ending → World → Prop} :
    ∀ (df : List (FuncId × List (TV E))) (m : Option (TV E)) (st : TS E) (ds mv : List Deferred) (u : FrameMode) (w : World) (G : Ghost), deferK D k df m st = some r → ds.length = df.length →
      Rel E w0 G0 { st with df := df ++ me m } { tmps := tmps, defers := ds ++ mv } w G → ModeV m mv u →
      (∀ (m' : Option (TV E)) (st' : TS E) (mv' : List Deferred) (u' : FrameMode) (w' : World) (G' : Ghost), k m' { st' with df := [] } = some r → Rel E w0 G0 { st' with df := me m' } { tmps := tmps, defers := mv' } w' G' → ModeV m' mv' u' → Fr [] false st st' → Leaves P fn tmps RR [] u' w') →
      Leaves P fn tmps RR ds u w
  | [], m, st, ds, mv, u, w, G, h, hl, hr, hm, hk => by
    have : ds = [] := by cases ds with | nil => rfl | cons _ _ => cases hl
    subst this
    exact hk m st mv u w G h hr hm (Fr.refl _ _ _)
  | (f, dv) :: df, m, st, ds, mv, u, w, G, h, hl, hr, hm, hk => by
    cases ds with
    | nil => cases hl
    | cons d0 ds =>
    have hl' : ds.length = df.length := by simpa using hl
    have hdr : DRel E w G (d0 :: (ds ++ mv)) ((f, dv) :: (df ++ me m)) := hr.defers
    obtain ⟨⟨cap, htar, hargs⟩, hdr2⟩ := hdr
    simp only [deferK] at h
    have hu : u ≠ .run := by cases hm <;> (intro e; cases e)
    have hinv : (∀ args w, (callFunc f args).run P w = .ok (.enter f args) w) → (invoke d0.target d0.args).run P w = .ok (.enter f (d0.args ++ cap)) w := fun he => by
      rw [htar]
      have := he (d0.args ++ cap) w
      simpa [invoke] using this
    cases hc : (D.r.any fun C => Nat.beq C.s.f f) <;> rw [hc] at h <;> simp only [cond_true, cond_false] at h
    · have hr1 : Rel E w0 G0 { st with df := df ++ me m } { tmps := tmps, defers := ds ++ mv } w G := hr.withDf (y := df ++ me m) (ds := ds ++ mv) hdr2
      have hI := callK_gen (CallsO.mono P) hD.o h w0 G0 _ w G (d0.args ++ cap) hr1 hargs
      refine ⟨hu, .func f, cap, f, d0.args ++ cap, htar, hinv hI.1, (hI.2 u).mono fun e u' w' hh => ?_⟩
      obtain ⟨rfl, hh⟩ := hh
      rcases hh with ⟨v, st', G', rfl, hR, hkk, hF⟩ | ⟨x, st', hne, hkk⟩
      · have hset : settle u' = u' := by cases hm <;> rfl
        show Leaves P fn tmps RR ds (settle u') w'
        rw [hset]
        have hdf : st'.df = df ++ me m := hF.df rfl
        have hR' : Rel E w0 G0 { st' with df := df ++ me m } { tmps := tmps, defers := ds ++ mv } w' G' := by rw [← hdf]; exact hR
        refine deferK_sound hD df m st' ds mv u' w' G' hkk hl' hR' hm fun m' st2 mv' u2 w2 G2 h1 h2 h3 hF2 => hk m' st2 mv' u2 w2 G2 h1 h2 h3 ?_
        exact ((Fr.setDf st (df ++ me m) []).trans hF (W := []) (n := false) (fun _ h => h) (fun _ h => h) (fun h => nomatch h)).trans hF2 (fun _ h => h) (fun _ h => h) (fun h => nomatch h)
      · exact (thenK_ne hne hkk).elim
    · obtain ⟨hd1, hd2⟩ := DRel.app hl' hdr2
      have hr1 : Rel E w0 G0 { st with df := df } { tmps := tmps, defers := ds } w G := hr.withDf (y := df) (ds := ds) hd1
      have hv : ∃ v, ModeOf u v ∧ VT E w G (mval m) v := by
        cases hm with
        | ret => exact ⟨.nilIface, .inl ⟨rfl, rfl⟩, by simp only [mval, VT]⟩
        | pan d v =>
          refine ⟨v, .inr rfl, ?_⟩
          obtain ⟨⟨cap', ht', hv'⟩, -⟩ := hd2
          simp only [Target.fn.injEq] at ht'
          obtain ⟨-, rfl⟩ := ht'
          obtain ⟨u1, us, he, h1, -⟩ := hv'.cons_inv
          simp at he
          obtain ⟨rfl, -⟩ := he
          exact h1
      obtain ⟨v, hmo, hvt⟩ := hv
      have hI := callK_gen (CallsR.mono P) hD.r h w0 G0 _ w G (#[v] ++ (d0.args ++ cap)) hr1 (by
        have : (#[v] ++ (d0.args ++ cap)).toList = v :: (d0.args ++ cap).toList := by simp
        rw [this]
        exact .cons hvt hargs)
      refine ⟨hu, .func f, cap, f, d0.args ++ cap, htar, hinv hI.1, (hI.2 v (d0.args ++ cap) u (by simp) hmo).mono fun e u' w' hh => ?_⟩
      obtain ⟨hset, hh⟩ := hh
      rcases hh with ⟨v, st', G', rfl, hR, hkk, hF⟩ | ⟨x, st', hne, hkk⟩
      · show Leaves P fn tmps RR ds (settle u') w'
        rw [hset]
        have hdf : st'.df = df := hF.df rfl
        have hR' : Rel E w0 G0 { st' with df := df ++ me none } { tmps := tmps, defers := ds ++ [] } w' G' := by
          simp only [me, List.append_nil]
          rw [← hdf]; exact hR
        refine deferK_sound hD df none st' ds [] .returning w' G' hkk hl' hR' .ret fun m' st2 mv' u2 w2 G2 h1 h2 h3 hF2 => hk m' st2 mv' u2 w2 G2 h1 h2 h3 ?_
        exact ((Fr.setDf st df []).trans hF (W := []) (n := false) (fun _ h => h) (fun _ h => h) (fun h => nomatch h)).trans hF2 (fun _ h => h) (fun _ h => h) (fun h => nomatch h)
      · exact (thenK_ne hne hkk).elim
end

end Go.RT
