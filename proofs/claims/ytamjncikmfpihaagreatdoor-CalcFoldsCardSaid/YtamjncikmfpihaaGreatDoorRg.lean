/-
  RT: parts 37 to 42.
-/
import Derived.Test.YtamjncikmfpihaaGreatDoorRf
import Derived.Lib.Bytealg
import Derived.Recover
import Derived.Lib.LaidTab
import Derived.Shelf.Strconv.Itoa3
import Derived.OpenShut
import Derived.RowKit
/-
  RT, part 37: names that printed models use; contracts out of models.
-/
namespace Go.RT
set_option linter.unusedVariables false

variable {E : TEnv}

def w64 (n : Int) : Int := IntKind.wrap .i64 n
def bShl (k : IntKind) (a b : Int) : Int := k.wrap (a * 2 ^ (min b.toNat k.bits))
def bShr (k : IntKind) (a b : Int) : Int := a.fdiv (2 ^ (min b.toNat k.bits))
def bAnd (k : IntKind) (a b : Int) : Int := k.wrap (BitVec.ofInt k.bits a &&& BitVec.ofInt k.bits b).toNat
def bOr (k : IntKind) (a b : Int) : Int := k.wrap (BitVec.ofInt k.bits a ||| BitVec.ofInt k.bits b).toNat
def bXor (k : IntKind) (a b : Int) : Int := k.wrap (BitVec.ofInt k.bits a ^^^ BitVec.ofInt k.bits b).toNat
def bAndNot (k : IntKind) (a b : Int) : Int := k.wrap (BitVec.ofInt k.bits a &&& ~~~ BitVec.ofInt k.bits b).toNat
def bNot (k : IntKind) (n : Int) : Int := k.wrap (BitVec.ofInt k.bits (if k.signed then -1 else k.max) ^^^ BitVec.ofInt k.bits n).toNat
def sl {α : Type} (l : List α) (p q : Int) : List α := (l.take q.toNat).drop p.toNat
def keq {α : Type} [BEq α] (a b : α) : Bool := a == b

theorem Ctr.ok_of {X : Cx E} (hX : X.Ok) {C : Ctr E} {F : Nat} {fn : Func} {pl : Plan} (hf : X.P.funcs[C.s.f]? = some fn) (hn : (fn.name == "runtime.NumGoroutine") = false) (h : ∀ x, funT X F C.s fn pl x = C.m x) : C.Ok X.P :=
  fun x y hy => funT_sound hX hf hn (by rw [h x]; exact hy)
theorem okN {P : Program} : ∀ C ∈ ([] : List (Ctr E)), C.Ok P := fun _ h => nomatch h
theorem okC {P : Program} {C : Ctr E} {Γ : List (Ctr E)} (h : C.Ok P) (hs : ∀ C ∈ Γ, C.Ok P) : ∀ C' ∈ C :: Γ, C'.Ok P := fun C' hC => by
  rcases List.mem_cons.1 hC with rfl | hC
  · exact h
  · exact hs C' hC

end Go.RT
/-
  RT, part 38: contracts of functions without a body.
-/
namespace Go.RT
set_option linter.unusedVariables false

variable {E : TEnv}

def ibF (F : Nat) (s : List UInt8) (c : Int) : Option Int := some (Lib.indexByte s c.toNat.toUInt8)
def ibS (f : FuncId) : Shp := ⟨f, [.one (.dat .str), .one (.dat (.int .u8))], [], [], ⟨.one (.dat (.int .i64)), [], []⟩, none⟩
def ibC (E : TEnv) (f : FuncId) (F : Nat) : Ctr E := ⟨ibS f, fun (x : List UInt8 × Int) => ibF F x.1 x.2⟩

theorem ib_ok {P : Program} {f : FuncId} (h : ∀ args w, (callFunc f args).run P w = ((Extern.BytealgIndexByte.indexByte args).run P w).andThen fun v w' => .ok (.value v) w') (F : Nat) : (ibC E f F).Ok P := by
  have key : ∀ (s : List UInt8) (c : Int), ACalls (E := E) P f [.dat .str s, .dat (.int .u8) c] [] [] ⟨true, .dat (.int .i64) (Lib.indexByte s c.toNat.toUInt8), [], [], []⟩ := by
    intro s c w G args hP hB hv
    obtain ⟨u, us, he, h1, h2⟩ := hv.cons_inv
    obtain ⟨u2, us2, he2, h3, h4⟩ := h2.cons_inv
    have h4 : us2 = [] := by simpa only [VTs] using h4
    have e1 := h1.str_inv
    have e2 := h3.int_inv
    subst e1 e2 h4 he2
    have ha : args = #[mkStr s, .int .u8 c] := by apply Array.ext'; exact he
    subst ha
    have hrun : (callFunc f #[mkStr s, .int .u8 c]).run P w = .ok (.value (.int .i64 (Lib.indexByte s c.toNat.toUInt8))) w := by
      rw [h, mkStr, Lib.run_indexByteString]; rfl
    unfold Invokes
    rw [hrun]
    exact ⟨.int .i64 (Lib.indexByte s c.toNat.toUInt8), G, rfl, Evol.refl w G, hB, .int _ _ _ _, fun _ _ _ _ => rfl⟩
  intro x y hy
  obtain ⟨s, c⟩ := x
  have hy : some (Lib.indexByte s (Int.toNat c).toUInt8) = some y := hy
  cases hy
  exact key s c

/-- The pointer that came in. -/
def neF (F : Nat) : Option Unit := some ()
def neS (f : FuncId) (b : BT) (rows : List (TypeId × Nat)) : Shp := ⟨f, [.one (.ptr 0 0)], [b], rows, ⟨.one (.ptr 0 0), [none], rows.map fun _ => none⟩, none⟩
def neC (E : TEnv) (f : FuncId) (b : BT) (rows : List (TypeId × Nat)) : Ctr E := ⟨neS f b rows, fun _ => some ()⟩

theorem newRows_none : ∀ (rows : List (TypeId × Nat)) (g : List TGrow), g.length = rows.length → newRows (rows.map fun _ => none) g = g
  | [], [], _ => rfl
  | _ :: rows, x :: g, h => by
    have := newRows_none rows g (by simpa using h)
    simp only [List.map_cons, newRows, this]

theorem ne_ok {P : Program} {f : FuncId} {b : BT} {rows : List (TypeId × Nat)} (h : ∀ v w, (callFunc f #[v]).run P w = .ok (.value v) w) : (neC E f b rows).Ok P := by
  intro x y _
  intro w G args hP hB hv
  have hv : VTs E w G [.ptr 0 0] args.toList := hv
  obtain ⟨u, us, he, h1, h2⟩ := hv.cons_inv
  have h2 : us = [] := by simpa only [VTs] using h2
  subst h2
  have ha : args = #[u] := by apply Array.ext'; exact he
  subst ha
  show Invokes P f #[u] w _
  unfold Invokes
  rw [h]
  refine ⟨u, G, rfl, Evol.refl w G, ?_, h1, fun _ _ _ _ => rfl⟩
  have e : newRows (rows.map fun _ => none) (neS f b rows).g0 = (neS f b rows).g0 := newRows_none rows _ (by simp [Shp.g0, neS])
  show Boxes E w G _ (newRows (rows.map fun _ => none) (neS f b rows).g0)
  rw [e]
  exact hB

end Go.RT
/-
  RT, part 39: deferred calls.
-/
namespace Go.RT
set_option linter.unusedVariables false

variable {E : TEnv}

/-- What a call comes to. -/
def ResOk (E : TEnv) (w : World) (G : Ghost) (r : ARes E) (e : Ending) (w' : World) : Prop :=
  ∃ v G', e = endOf r.ok v ∧ Evol w G w' G' ∧ Boxes E w' G' r.H r.g ∧ VT E w' G' r.d v ∧ ∀ (q b : Nat), G.i[q]? = some b → q ∉ r.D → w'.heap[b]? = w.heap[b]?

/-- Ways to invoke a function. -/
def Inv := FuncId → Array Value → World → (Ending → World → Prop) → Prop
def Inv.Mono (I : Inv) : Prop := ∀ f args w (R R' : Ending → World → Prop), (∀ e w', R e w' → R' e w') → I f args w R → I f args w R'
def AGC (E : TEnv) (I : Inv) (f : FuncId) (ds : List (TV E)) (H : List (TBox E)) (gs : List TGrow) (r : ARes E) : Prop :=
  ∀ (w : World) (G : Ghost) (args : Array Value), Pins E w G → Boxes E w G H gs → VTs E w G ds args.toList → I f args w (ResOk E w G r)
def Ctr.GOk (I : Inv) (C : Ctr E) : Prop :=
  ∀ x y, C.m x = some y → AGC E I C.s.f (C.s.ds (putAll C.s.tys x)) (C.s.H (putAll C.s.tys x)) C.s.g0 (outP C.s (C.s.H (putAll C.s.tys x)) C.s.pan y)

section
variable {st : TS E}

theorem callK_gen {I : Inv} (hI : I.Mono) {R : Type} {f : FuncId} {ds : List (TV E)} {dst : Option Nat} {k : Ex E → TS E → Option R} {r : R} :
    ∀ {Γ : List (Ctr E)}, (∀ C ∈ Γ, C.GOk I) → callK st dst f ds k Γ = some r → ∀ (w0 : World) (G0 : Ghost) (a : Act) (w : World) (G : Ghost) (args : Array Value), Rel E w0 G0 st a w G → VTs E w G ds args.toList →
      I f args w (fun e w' => (∃ v st' G', e = .returned v ∧ Rel E w0 G0 st' (a.put dst v) w' G' ∧ k .normal st' = some r ∧ Fr (dstL dst) true st st') ∨ ∃ x st', x ≠ .normal ∧ k x st' = some r)
  | [], _, h => by cases h
  | C :: Γ, hΓ, h => by
    have hrest : callK st dst f ds k Γ = some r → _ := callK_gen hI (fun C' hC => hΓ C' (by simp [hC]))
    simp only [callK] at h
    cases hf : Nat.beq C.s.f f <;> rw [hf] at h <;> simp only [cond_true, cond_false] at h
    · exact hrest h
    have hf := Nat.eq_of_beq_eq_true hf
    split at h
    · rename_i ls hls
      split at h
      · rename_i xx hxx
        generalize hbs : allSome (C.s.sel st ds).b = bs at *
        generalize hgs : allSome (C.s.sel st ds).g = gs at *
        obtain ⟨hwf, h⟩ := rq_some h
        cases hm : C.m xx with
        | none => rw [hm] at h; cases h
        | some y =>
          rw [hm] at h
          dsimp only [Option.bind] at h
          intro w0 G0 a w G args hr hargs
          have hnd : bs.Nodup ∧ gs.Nodup ∧ bs.length = C.s.boxes.length ∧ C.s.rows.length = gs.length := by
            unfold Shp.enter at hls
            split at hls <;> try (cases hls; done)
            rename_i H g hH hg
            cases hcc : (nodupN bs && (nodupN gs && (Nat.beq bs.length C.s.boxes.length && rowsSame C.s.rows g))) <;> rw [hcc] at hls <;> simp only [cond_true, cond_false] at hls
            · cases hls
            simp only [Bool.and_eq_true] at hcc
            exact ⟨nodupN_ok hcc.1, nodupN_ok hcc.2.1, Nat.eq_of_beq_eq_true hcc.2.2.1, by rw [(rowsSame_ok hcc.2.2.2).1, (pick_get hg).1]⟩
          obtain ⟨is, gg, hi, hgk, hB, hV⟩ := hr.enter hls hargs
          have hput := getAll_ok _ hxx
          have hok := hΓ C (by simp) xx y hm w (G.sel is gg) args (hr.pinsAt.sel hi hgk) (by rw [hput]; exact hB) (by rw [hput]; exact hV)
          rw [hf] at hok
          have hg0 : (G.sel is gg).g.map (·.1) = C.s.g0 := hB.gs
          have hwf' : ∀ (q : Outs), q.wf bs.length gs.length = true → someFrom bs.length q.boxes = true ∧ gs.length ≤ q.rows.length := fun q hq => by
            unfold Outs.wf at hq
            rw [Bool.and_eq_true] at hq
            exact ⟨hq.1, Nat.le_of_ble_eq_true hq.2⟩
          unfold Shp.wf at hwf
          rw [Bool.and_eq_true] at hwf
          have okcase : ∀ (y : dens E C.s.out.tys) (e : Ending) (w' : World), okK C.s.out bs gs st dst k y = some r →
              ResOk E w (G.sel is gg) (C.s.out.ares true (C.s.H (putAll C.s.tys xx)) C.s.g0 (putAll C.s.out.tys y)) e w' →
              ∃ v st' G', e = .returned v ∧ Rel E w0 G0 st' (a.put dst v) w' G' ∧ k .normal st' = some r ∧ Fr (dstL dst) true st st' := by
            rintro y e w' hk ⟨v1, G', he, hE, hB', hV', hfix⟩
            simp only [Outs.ares, endOf, cond_true] at he
            subst he
            obtain ⟨hs1, hs2⟩ := hwf' _ hwf.1
            simp only [Outs.ares] at hB' hV' hfix
            rw [← hg0] at hB' hV'
            obtain ⟨Gn, hR, hval⟩ := hr.leave hi hgk hnd.1 hnd.2.1 C.s.out hs1 hs2 hE hB' hV' hfix
            exact ⟨v1, _, Gn, rfl, hR.put hval dst, hk, C.s.out.after_fr bs gs st _ dst _⟩
          have fin : ∀ (p : Option Outs) (hp : C.s.pan = p) (y : OutP E C.s.out p), leaveK C.s bs gs st dst k p y = some r → I f args w (ResOk E w (G.sel is gg) (outP C.s (C.s.H (putAll C.s.tys xx)) p y)) →
              I f args w (fun e w' => (∃ v st' G', e = .returned v ∧ Rel E w0 G0 st' (a.put dst v) w' G' ∧ k .normal st' = some r ∧ Fr (dstL dst) true st st') ∨ ∃ x st', x ≠ .normal ∧ k x st' = some r) := by
            intro p hp y hk hi
            refine hI _ _ _ _ _ (fun e w' hR => ?_) hi
            cases p with
            | none => exact .inl (okcase y e w' hk hR)
            | some q =>
              cases y with
              | inl y => exact .inl (okcase y e w' hk hR)
              | inr y => exact .inr ⟨.panic (q.val bs gs st (putAll q.tys y)), _, (fun h => nomatch h), hk⟩
          exact fin C.s.pan rfl y h hok
      · exact hrest h
    · exact hrest h

/-- A deferred call of a function that does not recover. -/
def CallsO (P : Program) : Inv := fun f args w R => (∀ args w, (callFunc f args).run P w = .ok (.enter f args) w) ∧ ∀ u, CallsD P f args u w (fun e u' w' => u' = u ∧ R e w')
/-- What recover finds. -/
def ModeOf (u : FrameMode) (v : Value) : Prop := (u = .returning ∧ v = .nilIface) ∨ u = .panicking [{ v := v, recovered := false }]
/-- A deferred call of a function that recovers; the first argument is what recover finds. -/
def CallsR (P : Program) : Inv := fun f vargs w R => (∀ args w, (callFunc f args).run P w = .ok (.enter f args) w) ∧
  ∀ (v : Value) (args : Array Value) (u : FrameMode), vargs.toList = v :: args.toList → ModeOf u v → CallsD P f args u w (fun e u' w' => settle u' = .returning ∧ R e w')
theorem CallsO.mono (P : Program) : (CallsO P).Mono := fun f args w R R' h hi => ⟨hi.1, fun u => (hi.2 u).mono fun e u' w' hh => ⟨hh.1, h _ _ hh.2⟩⟩
theorem CallsR.mono (P : Program) : (CallsR P).Mono := fun f args w R R' h hi => ⟨hi.1, fun v args u h1 h2 => (hi.2 v args u h1 h2).mono fun e u' w' hh => ⟨hh.1, h _ _ hh.2⟩⟩

/-- The contracts of deferred calls: those that do not recover, those that do. -/
structure Dx (E : TEnv) where
  o : List (Ctr E)
  r : List (Ctr E)
structure Dx.Ok (P : Program) (D : Dx E) : Prop where
  o : ∀ C ∈ D.o, C.GOk (CallsO P)
  r : ∀ C ∈ D.r, C.GOk (CallsR P)

/-- A mode: returning, or panicking with a value. It is kept as a last entry of the deferred calls. -/
def me : Option (TV E) → List (FuncId × List (TV E))
  | none => []
  | some d => [(0, [d])]
/-- What recover finds. -/
def mval : Option (TV E) → TV E
  | none => .val .nilIface
  | some d => d
/-- The deferred calls of a function that leaves. -/
def deferK {R : Type} (D : Dx E) (k : Option (TV E) → TS E → Option R) : List (FuncId × List (TV E)) → Option (TV E) → TS E → Option R
  | [], m, st => k m { st with df := [] }
  | (f, ds) :: df, m, st => cond (D.r.any fun C => Nat.beq C.s.f f)
      (callK { st with df := df } none f (mval m :: ds) (thenK (fun st' => deferK D k df none st') fun _ _ => none) D.r)
      (callK { st with df := df ++ me m } none f ds (thenK (fun st' => deferK D k df m st') fun _ _ => none) D.o)

inductive ModeV : Option (TV E) → List Deferred → FrameMode → Prop
  | ret : ModeV none [] .returning
  | pan (d : TV E) (v : Value) : ModeV (some d) [{ target := .fn (.func 0) #[], args := #[v] }] (.panicking [{ v := v, recovered := false }])

theorem thenK_ne {R : Type} {k1 : TS E → Option R} {x : Ex E} {s : TS E} {r : R} (hne : x ≠ .normal) (h : thenK k1 (fun _ _ => none) x s = some r) : False := by
  cases x <;> first | exact hne rfl | cases h

theorem DRel.app {w : World} {G : Ghost} : ∀ {a b : List Deferred} {x y : List (FuncId × List (TV E))}, a.length = x.length → DRel E w G (a ++ b) (x ++ y) → DRel E w G a x ∧ DRel E w G b y
  | [], b, [], y, _, h => ⟨trivial, h⟩
  | d :: a, b, z :: x, y, hl, h => by
    obtain ⟨h1, h2⟩ := h
    obtain ⟨h3, h4⟩ := DRel.app (by simpa using hl) h2
    exact ⟨⟨h1, h3⟩, h4⟩
theorem DRel.len {w : World} {G : Ghost} : ∀ {a : List Deferred} {x : List (FuncId × List (TV E))}, DRel E w G a x → a.length = x.length
  | [], [], _ => rfl
  | _ :: a, _ :: x, h => by simp [DRel.len h.2]
  | [], _ :: _, h => h.elim
  | _ :: _, [], h => h.elim
theorem Fr.setDf (st : TS E) (y : List (FuncId × List (TV E))) (W : List Nat) : Fr W false st { st with df := y } := ⟨rfl, fun _ _ => rfl, ⟨[], rfl, fun _ _ _ => rfl⟩, Nat.le_refl _, fun h => nomatch h⟩
theorem Rel.withDf {w0 w : World} {G0 G : Ghost} {a : Act} {y : List (FuncId × List (TV E))} {ds : List Deferred} (h : Rel E w0 G0 st a w G) (hd : DRel E w G ds y) : Rel E w0 G0 { st with df := y } { a with defers := ds } w G :=
  ⟨h.evol, h.size, h.tmps, hd, h.boxes, h.fix, h.pins⟩

theorem deferK_sound {P : Program} {fn : Func} {D : Dx E} (hD : D.Ok P) {R : Type} {k : Option (TV E) → TS E → Option R} {r : R} {w0 : World} {G0 : Ghost} {tmps : Array Value} {RR : Ending → World → Prop} :
    ∀ (df : List (FuncId × List (TV E))) (m : Option (TV E)) (st : TS E) (ds mv : List Deferred) (u : FrameMode) (w : World) (G : Ghost), deferK D k df m st = some r → ds.length = df.length →
      Rel E w0 G0 { st with df := df ++ me m } { tmps := tmps, defers := ds ++ mv } w G → ModeV m mv u →
      (∀ (m' : Option (TV E)) (st' : TS E) (mv' : List Deferred) (u' : FrameMode) (w' : World) (G' : Ghost), k m' { st' with df := [] } = some r → Rel E w0 G0 { st' with df := me m' } { tmps := tmps, defers := mv' } w' G' → ModeV m' mv' u' → Fr [] false st st' → Leaves P fn tmps RR [] u' w') →
      Leaves P fn tmps RR ds u w
  | [], m, st, ds, mv, u, w, G, h, hl, hr, hm, hk => by
    have : ds = [] := by cases ds with | nil => rfl | cons _ _ => cases hl
    subst this
    exact hk m st mv u w G h hr hm (Fr.refl _ _ _)
  | (f, dv) :: df, m, st, ds, mv, u, w, G, h, hl, hr, hm, hk => by
    cases ds with
    | nil => cases hl
    | cons d0 ds =>
    have hl' : ds.length = df.length := by simpa using hl
    have hdr : DRel E w G (d0 :: (ds ++ mv)) ((f, dv) :: (df ++ me m)) := hr.defers
    obtain ⟨⟨cap, htar, hargs⟩, hdr2⟩ := hdr
    simp only [deferK] at h
    have hu : u ≠ .run := by cases hm <;> (intro e; cases e)
    have hinv : (∀ args w, (callFunc f args).run P w = .ok (.enter f args) w) → (invoke d0.target d0.args).run P w = .ok (.enter f (d0.args ++ cap)) w := fun he => by
      rw [htar]
      have := he (d0.args ++ cap) w
      simpa [invoke] using this
    cases hc : (D.r.any fun C => Nat.beq C.s.f f) <;> rw [hc] at h <;> simp only [cond_true, cond_false] at h
    · have hr1 : Rel E w0 G0 { st with df := df ++ me m } { tmps := tmps, defers := ds ++ mv } w G := hr.withDf (y := df ++ me m) (ds := ds ++ mv) hdr2
      have hI := callK_gen (CallsO.mono P) hD.o h w0 G0 _ w G (d0.args ++ cap) hr1 hargs
      refine ⟨hu, .func f, cap, f, d0.args ++ cap, htar, hinv hI.1, (hI.2 u).mono fun e u' w' hh => ?_⟩
      obtain ⟨rfl, hh⟩ := hh
      rcases hh with ⟨v, st', G', rfl, hR, hkk, hF⟩ | ⟨x, st', hne, hkk⟩
      · have hset : settle u' = u' := by cases hm <;> rfl
        show Leaves P fn tmps RR ds (settle u') w'
        rw [hset]
        have hdf : st'.df = df ++ me m := hF.df rfl
        have hR' : Rel E w0 G0 { st' with df := df ++ me m } { tmps := tmps, defers := ds ++ mv } w' G' := by rw [← hdf]; exact hR
        refine deferK_sound hD df m st' ds mv u' w' G' hkk hl' hR' hm fun m' st2 mv' u2 w2 G2 h1 h2 h3 hF2 => hk m' st2 mv' u2 w2 G2 h1 h2 h3 ?_
        exact ((Fr.setDf st (df ++ me m) []).trans hF (W := []) (n := false) (fun _ h => h) (fun _ h => h) (fun h => nomatch h)).trans hF2 (fun _ h => h) (fun _ h => h) (fun h => nomatch h)
      · exact (thenK_ne hne hkk).elim
    · obtain ⟨hd1, hd2⟩ := DRel.app hl' hdr2
      have hr1 : Rel E w0 G0 { st with df := df } { tmps := tmps, defers := ds } w G := hr.withDf (y := df) (ds := ds) hd1
      have hv : ∃ v, ModeOf u v ∧ VT E w G (mval m) v := by
        cases hm with
        | ret => exact ⟨.nilIface, .inl ⟨rfl, rfl⟩, by simp only [mval, VT]⟩
        | pan d v =>
          refine ⟨v, .inr rfl, ?_⟩
          obtain ⟨⟨cap', ht', hv'⟩, -⟩ := hd2
          simp only [Target.fn.injEq] at ht'
          obtain ⟨-, rfl⟩ := ht'
          obtain ⟨u1, us, he, h1, -⟩ := hv'.cons_inv
          simp at he
          obtain ⟨rfl, -⟩ := he
          exact h1
      obtain ⟨v, hmo, hvt⟩ := hv
      have hI := callK_gen (CallsR.mono P) hD.r h w0 G0 _ w G (#[v] ++ (d0.args ++ cap)) hr1 (by
        have : (#[v] ++ (d0.args ++ cap)).toList = v :: (d0.args ++ cap).toList := by simp
        rw [this]
        exact .cons hvt hargs)
      refine ⟨hu, .func f, cap, f, d0.args ++ cap, htar, hinv hI.1, (hI.2 v (d0.args ++ cap) u (by simp) hmo).mono fun e u' w' hh => ?_⟩
      obtain ⟨hset, hh⟩ := hh
      rcases hh with ⟨v, st', G', rfl, hR, hkk, hF⟩ | ⟨x, st', hne, hkk⟩
      · show Leaves P fn tmps RR ds (settle u') w'
        rw [hset]
        have hdf : st'.df = df := hF.df rfl
        have hR' : Rel E w0 G0 { st' with df := df ++ me none } { tmps := tmps, defers := ds ++ [] } w' G' := by
          simp only [me, List.append_nil]
          rw [← hdf]; exact hR
        refine deferK_sound hD df none st' ds [] .returning w' G' hkk hl' hR' .ret fun m' st2 mv' u2 w2 G2 h1 h2 h3 hF2 => hk m' st2 mv' u2 w2 G2 h1 h2 h3 ?_
        exact ((Fr.setDf st df []).trans hF (W := []) (n := false) (fun _ h => h) (fun _ h => h) (fun h => nomatch h)).trans hF2 (fun _ h => h) (fun _ h => h) (fun h => nomatch h)
      · exact (thenK_ne hne hkk).elim
end

end Go.RT
/-
  RT, part 40: functions with deferred calls; functions that are deferred; recover.
-/
namespace Go.RT
set_option linter.unusedVariables false

variable {E : TEnv}

section
variable {X : Cx E}

/-- A body without deferred calls. -/
theorem funT_body (hX : X.Ok) {F : Nat} {s : Shp} {fn : Func} {pl : Plan} {x : dens E s.tys} {y : OutP E s.out s.pan} {c : Code} (hb : fn.body = some c) (h : funT X F s fn pl x = some y) (w : World) (G : Ghost) (args : Array Value)
    (hP : Pins E w G) (hB : Boxes E w G (s.H (putAll s.tys x)) s.g0) (hV : VTs E w G (s.ds (putAll s.tys x)) args.toList) :
    c.wp X.P (bodyPost X.P fn (ResOk E w G (outP s (s.H (putAll s.tys x)) s.pan y))) { tmps := args ++ Array.replicate (fn.ntmps - args.size) undef, defers := [] } w := by
  unfold funT at h
  rw [hb] at h
  simp only at h
  obtain ⟨hnd, h⟩ := rq_some h
  have hr0 := Rel.init (n := fn.ntmps) hP hB hV
  have hpre := hr0.pre
  refine wp_mono (runT_sound hX c pl h w G _ w G hr0) fun e a' w' hp => ?_
  obtain ⟨ex, st, G', he, hr, hk, hF⟩ := hp
  have hdf : st.df = [] := hF.df hnd
  have hdef : a'.defers = [] := by
    have := hr.defers
    rw [hdf] at this
    cases hd : a'.defers with
    | nil => rfl
    | cons d ds => rw [hd] at this; exact this.elim
  -- a value is returned
  have okc : ∀ {y : dens E s.out.tys}, ((resAll X st fn.results.toList).bind fun ds => s.out.get (s.st0 fn.ntmps (putAll s.tys x)) st (packRes ds)) = some y →
      ∃ v, (results fn a'.tmps).run X.P w' = .ok v w' ∧ ∃ v1 G2, Ending.returned v = endOf (s.out.ares true (s.H (putAll s.tys x)) s.g0 (putAll s.out.tys y)).ok v1 ∧ Evol w G w' G2 ∧
        Boxes E w' G2 (s.out.ares true (s.H (putAll s.tys x)) s.g0 (putAll s.out.tys y)).H (s.out.ares true (s.H (putAll s.tys x)) s.g0 (putAll s.out.tys y)).g ∧ VT E w' G2 (s.out.ares true (s.H (putAll s.tys x)) s.g0 (putAll s.out.tys y)).d v1 ∧
        ∀ (q b : Nat), G.i[q]? = some b → q ∉ (s.out.ares true (s.H (putAll s.tys x)) s.g0 (putAll s.out.tys y)).D → w'.heap[b]? = w.heap[b]? := by
    intro y hy
    cases hds : resAll X st fn.results.toList with
    | none => rw [hds] at hy; cases hy
    | some ds =>
      rw [hds] at hy
      dsimp only [Option.bind] at hy
      obtain ⟨v, hv, hrun⟩ := results_ok hX hr hds
      obtain ⟨G2, q1, q2, q3, q4⟩ := Outs.get_ok (ok := true) hpre rfl hdf hr hF hv hy
      exact ⟨v, hrun, v, G2, rfl, q1, q2, q3, q4⟩
  have fin : ∀ (p : Option Outs) (y : OutP E s.out p), endK X s fn (s.st0 fn.ntmps (putAll s.tys x)) p ex st = some y → bodyPost X.P fn (fun e w' => ∃ v G', e = endOf (outP s (s.H (putAll s.tys x)) p y).ok v ∧ Evol w G w' G' ∧ Boxes E w' G' (outP s (s.H (putAll s.tys x)) p y).H (outP s (s.H (putAll s.tys x)) p y).g ∧
      VT E w' G' (outP s (s.H (putAll s.tys x)) p y).d v ∧ ∀ (q b : Nat), G.i[q]? = some b → q ∉ (outP s (s.H (putAll s.tys x)) p y).D → w'.heap[b]? = w.heap[b]?) e a' w' := by
    intro p y hk
    cases p with
    | none =>
      cases ex <;> cases e <;> try (exact he.elim)
      · obtain ⟨v, hrun, h2⟩ := okc hk; exact ⟨hdef, v, hrun, h2⟩
      · cases hk
      · cases hk
      · obtain ⟨v, hrun, h2⟩ := okc hk; exact ⟨hdef, v, hrun, h2⟩
      · cases hk
    | some q =>
      cases ex <;> cases e <;> try (exact he.elim)
      · obtain ⟨y', hy, rfl⟩ := goK_some hk; obtain ⟨v, hrun, h2⟩ := okc hy; exact ⟨hdef, v, hrun, h2⟩
      · cases hk
      · cases hk
      · obtain ⟨y', hy, rfl⟩ := goK_some hk; obtain ⟨v, hrun, h2⟩ := okc hy; exact ⟨hdef, v, hrun, h2⟩
      · obtain ⟨y', hy, rfl⟩ := retK_some hk
        obtain ⟨v, rfl, hv⟩ := he
        obtain ⟨G2, q1, q2, q3, q4⟩ := Outs.get_ok (ok := false) hpre rfl hdf hr hF hv hy
        exact ⟨hdef, v, G2, rfl, q1, q2, q3, q4⟩
  exact fin s.pan y hk

theorem enters_of {P : Program} {f : FuncId} {fn : Func} {c : Code} (hf : P.funcs[f]? = some fn) (hb : fn.body = some c) (hn : (fn.name == "runtime.NumGoroutine") = false) : ∀ args w, (callFunc f args).run P w = .ok (.enter f args) w := fun args w => by
  simp only [callFunc, Sem.run_bind, run_program, Result.andThen_ok, hf, hn, hb]
  simp

/-- A function that may be deferred. -/
theorem Ctr.okO_of (hX : X.Ok) {C : Ctr E} {F : Nat} {fn : Func} {pl : Plan} (hf : X.P.funcs[C.s.f]? = some fn) (hn : (fn.name == "runtime.NumGoroutine") = false) (h : ∀ x, funT X F C.s fn pl x = C.m x) : C.GOk (CallsO X.P) := by
  intro x y hy
  have h1 : funT X F C.s fn pl x = some y := by rw [h x]; exact hy
  obtain ⟨c, hb⟩ : ∃ c, fn.body = some c := by
    unfold funT at h1
    split at h1
    · rename_i c hb; exact ⟨c, hb⟩
    · cases h1
  intro w G args hP hB hV
  exact ⟨enters_of hf hb hn, fun u => callsD_of_wp hf hb (funT_body hX hb h1 w G args hP hB hV)⟩

def finK (X : Cx E) (s : Shp) (fn : Func) (st0 : TS E) : (p : Option Outs) → Option (TV E) → TS E → Option (OutP E s.out p)
  | none, none, st => (resAll X st fn.results.toList).bind fun ds => s.out.get st0 st (packRes ds)
  | some q, none, st => goK ((resAll X st fn.results.toList).bind fun ds => s.out.get st0 st (packRes ds))
  | some q, some d, st => retK (q.get st0 st d)
  | none, some _, _ => none
def endD (X : Cx E) (D : Dx E) (s : Shp) (fn : Func) (st0 : TS E) (p : Option Outs) : Ex E → TS E → Option (OutP E s.out p)
  | .ret, st => deferK D (finK X s fn st0 p) st.df none st
  | .normal, st => deferK D (finK X s fn st0 p) st.df none st
  | .panic d, st => deferK D (finK X s fn st0 p) st.df (some d) st
  | _, _ => none
def funTD (X : Cx E) (D : Dx E) (F : Nat) (s : Shp) (fn : Func) (pl : Plan) (x : dens E s.tys) : Option (OutP E s.out s.pan) :=
  match fn.body with
  | some c => runT X F c pl (s.st0 fn.ntmps (putAll s.tys x)) (endD X D s fn (s.st0 fn.ntmps (putAll s.tys x)) s.pan)
  | none => none

theorem DRel.nil_inv {w : World} {G : Ghost} {ds : List Deferred} (h : DRel E w G ds []) : ds = [] := by
  cases ds with
  | nil => rfl
  | cons _ _ => exact h.elim

theorem finK_ok (hX : X.Ok) {s : Shp} {fn : Func} {w0 w : World} {G0 G : Ghost} {st0 st st1 : TS E} {W : List Nat} {tmps : Array Value} {mv : List Deferred} {u : FrameMode} {m : Option (TV E)} (hpre : Pre G0 st0) (hd0 : st0.d = []) (hdf0 : st0.df = [])
    (hr : Rel E w0 G0 { st with df := me m } { tmps := tmps, defers := mv } w G) (hm : ModeV m mv u) (hF : Fr W false st0 st) : ∀ (p : Option Outs) (y : OutP E s.out p), finK X s fn st0 p m { st with df := [] } = some y →
      Leaves X.P fn tmps (ResOk E w0 G0 (match p, y with | none, y => s.out.ares true st0.H st0.g (putAll s.out.tys y) | some q, .inl y => s.out.ares true st0.H st0.g (putAll s.out.tys y) | some q, .inr y => q.ares false st0.H st0.g (putAll q.tys y))) [] u w := by
  have hr' : Rel E w0 G0 { st with df := [] } { tmps := tmps, defers := [] } w G := hr.withDf (y := []) (ds := []) trivial
  have hF' : Fr W false st0 { st with df := [] } := hF.trans (Fr.setDf st [] W) (fun _ h => h) (fun _ h => h) (fun h => nomatch h)
  have hok : ∀ {y : dens E s.out.tys}, ((resAll X { st with df := [] } fn.results.toList).bind fun ds => s.out.get st0 { st with df := [] } (packRes ds)) = some y →
      ∃ v, (results fn tmps).run X.P w = .ok v w ∧ ResOk E w0 G0 (s.out.ares true st0.H st0.g (putAll s.out.tys y)) (.returned v) w := by
    intro y hy
    cases hds : resAll X { st with df := [] } fn.results.toList with
    | none => rw [hds] at hy; cases hy
    | some ds =>
      rw [hds] at hy
      dsimp only [Option.bind] at hy
      obtain ⟨v, hv, hrun⟩ := results_ok hX hr' hds
      obtain ⟨G2, q1, q2, q3, q4⟩ := Outs.get_ok (ok := true) hpre hd0 hdf0.symm hr' hF' hv hy
      exact ⟨v, hrun, v, G2, rfl, q1, q2, q3, q4⟩
  intro p y hk
  cases hm with
  | ret =>
    cases p with
    | none => exact hok hk
    | some q =>
      obtain ⟨y', hy, rfl⟩ := goK_some hk
      exact hok hy
  | pan d v =>
    cases p with
    | none => cases hk
    | some q =>
      obtain ⟨y', hy, rfl⟩ := retK_some hk
      have hv : VT E w G d v := by
        obtain ⟨⟨cap', ht', hv'⟩, -⟩ := hr.defers
        simp only [Target.fn.injEq] at ht'
        obtain ⟨-, rfl⟩ := ht'
        obtain ⟨u1, us, he, h1, -⟩ := hv'.cons_inv
        simp at he
        obtain ⟨rfl, -⟩ := he
        exact h1
      obtain ⟨G2, q1, q2, q3, q4⟩ := Outs.get_ok (ok := false) hpre hd0 hdf0.symm hr' hF' hv hy
      exact ⟨v, G2, rfl, q1, q2, q3, q4⟩

theorem funTD_sound (hX : X.Ok) {D : Dx E} (hD : D.Ok X.P) {F : Nat} {s : Shp} {fn : Func} {pl : Plan} {x : dens E s.tys} {y : OutP E s.out s.pan} (hf : X.P.funcs[s.f]? = some fn) (hn : (fn.name == "runtime.NumGoroutine") = false) (h : funTD X D F s fn pl x = some y) :
    ACalls X.P s.f (s.ds (putAll s.tys x)) (s.H (putAll s.tys x)) s.g0 (outP s (s.H (putAll s.tys x)) s.pan y) := by
  unfold funTD at h
  split at h <;> try (cases h; done)
  rename_i c hb
  intro w G args hP hB hV
  have hr0 := Rel.init (n := fn.ntmps) hP hB hV
  have hpre := hr0.pre
  refine invokes_of_calls hf hb hn (calls_of_wp_defers hf hb (wp_mono (runT_sound hX c pl h w G _ w G hr0) fun e a' w' hp => ?_))
  obtain ⟨ex, st, G', he, hr, hk, hF⟩ := hp
  have hlen := DRel.len hr.defers
  have hF0 : Fr (wr c) false (s.st0 fn.ntmps (putAll s.tys x)) st := hF.wide (fun _ h => h) (fun h => nomatch h)
  have main : ∀ (m : Option (TV E)) (mv : List Deferred) (u : FrameMode), ModeV m mv u → DRel E w' G' mv (me m) → deferK D (finK X s fn (s.st0 fn.ntmps (putAll s.tys x)) s.pan) st.df m st = some y →
      Leaves X.P fn a'.tmps (fun e w' => ∃ v G', e = endOf (outP s (s.H (putAll s.tys x)) s.pan y).ok v ∧ Evol w G w' G' ∧ Boxes E w' G' (outP s (s.H (putAll s.tys x)) s.pan y).H (outP s (s.H (putAll s.tys x)) s.pan y).g ∧
      VT E w' G' (outP s (s.H (putAll s.tys x)) s.pan y).d v ∧ ∀ (q b : Nat), G.i[q]? = some b → q ∉ (outP s (s.H (putAll s.tys x)) s.pan y).D → w'.heap[b]? = w.heap[b]?) a'.defers u w' := by
    intro m mv u hm hdm hk
    have happ : DRel E w' G' (a'.defers ++ mv) (st.df ++ me m) := by
      have key : ∀ (a : List Deferred) (x : List (FuncId × List (TV E))), DRel E w' G' a x → DRel E w' G' (a ++ mv) (x ++ me m) := by
        intro a
        induction a with
        | nil => intro x h; cases x with
          | nil => exact hdm
          | cons _ _ => exact h.elim
        | cons d a ih => intro x h; cases x with
          | nil => exact h.elim
          | cons z x => exact ⟨h.1, ih x h.2⟩
      exact key _ _ hr.defers
    refine deferK_sound hD st.df m st a'.defers mv u w' G' hk hlen (hr.withDf happ) hm fun m' st' mv' u' w2 G2 h1 h2 h3 hF2 => ?_
    have hF3 : Fr (wr c) false (s.st0 fn.ntmps (putAll s.tys x)) st' := hF0.trans hF2 (fun _ h => h) (fun _ h => by cases h) (fun h => nomatch h)
    have := finK_ok hX (st1 := st) hpre rfl rfl h2 h3 hF3 s.pan y h1
    have e : (match s.pan, y with | none, y => s.out.ares true (s.st0 fn.ntmps (putAll s.tys x)).H (s.st0 fn.ntmps (putAll s.tys x)).g (putAll s.out.tys y) | some q, .inl y => s.out.ares true (s.st0 fn.ntmps (putAll s.tys x)).H (s.st0 fn.ntmps (putAll s.tys x)).g (putAll s.out.tys y) | some q, .inr y => q.ares false (s.st0 fn.ntmps (putAll s.tys x)).H (s.st0 fn.ntmps (putAll s.tys x)).g (putAll q.tys y)) = outP s (s.H (putAll s.tys x)) s.pan y := by
      have gen : ∀ (p : Option Outs) (y : OutP E s.out p), (match p, y with | none, y => s.out.ares true (s.st0 fn.ntmps (putAll s.tys x)).H (s.st0 fn.ntmps (putAll s.tys x)).g (putAll s.out.tys y) | some q, .inl y => s.out.ares true (s.st0 fn.ntmps (putAll s.tys x)).H (s.st0 fn.ntmps (putAll s.tys x)).g (putAll s.out.tys y) | some q, .inr y => q.ares false (s.st0 fn.ntmps (putAll s.tys x)).H (s.st0 fn.ntmps (putAll s.tys x)).g (putAll q.tys y)) = outP s (s.H (putAll s.tys x)) p y := by
        intro p y
        cases p with
        | none => rfl
        | some q => cases y <;> rfl
      exact gen s.pan y
    rw [e] at this
    exact this
  cases ex <;> cases e <;> try (exact he.elim)
  · exact main none [] .returning .ret trivial hk
  · cases hk
  · cases hk
  · exact main none [] .returning .ret trivial hk
  · rename_i d ch
    obtain ⟨v, rfl, hv⟩ := he
    exact main (some d) _ _ (.pan d v) ⟨⟨#[], rfl, .cons hv .nil⟩, trivial⟩ hk

theorem Ctr.ok_ofD (hX : X.Ok) {D : Dx E} (hD : D.Ok X.P) {C : Ctr E} {F : Nat} {fn : Func} {pl : Plan} (hf : X.P.funcs[C.s.f]? = some fn) (hn : (fn.name == "runtime.NumGoroutine") = false) (h : ∀ x, funTD X D F C.s fn pl x = C.m x) : C.Ok X.P :=
  fun x y hy => funTD_sound hX hD hf hn (by rw [h x]; exact hy)
theorem goN {I : Inv} : ∀ C ∈ ([] : List (Ctr E)), C.GOk I := fun _ h => nomatch h
theorem goC {I : Inv} {C : Ctr E} {Γ : List (Ctr E)} (h : C.GOk I) (hs : ∀ C ∈ Γ, C.GOk I) : ∀ C' ∈ C :: Γ, C'.GOk I := fun C' hC => by
  rcases List.mem_cons.1 hC with rfl | hC
  · exact h
  · exact hs C' hC

/-- A function that begins with recover: what recover finds is its first argument. -/
def recOps : List Oper → Option (Nat × Nat)
  | [o1, o2] => match o1.op, o1.dst, o1.guard, o2.op, o2.dst, o2.guard with
    | .call c, some i, none, .assign (.tmp i'), some j, none => match c.callee with
      | .builtin .recover => cond (Nat.beq i i' && Nat.beq c.args.size 0) (some (i, j)) none
      | _ => none
    | _, _, _, _, _, _ => none
  | _ => none
def Shp.stR (s : Shp) (n i j : Nat) (ls : List (Lf E)) : TS E := match s.ds ls with
  | m :: ds => { (⟨(padT n ds).set i m, s.H ls, s.g0, [], []⟩ : TS E) with t := setT ((padT n ds).set i m) (some j) ((⟨(padT n ds).set i m, s.H ls, s.g0, [], []⟩ : TS E).ev (.tmp i)) }
  | [] => s.st0 n ls
def funR (X : Cx E) (F : Nat) (s : Shp) (fn : Func) (pl : Plan) (x : dens E s.tys) : Option (OutP E s.out s.pan) :=
  match fn.body with
  | some (.seq (.region _ ops false) rest) => match recOps ops.toList with
    | some (i, j) => rq (noDef rest && s.pan.isNone) (runT X F rest pl (s.stR fn.ntmps i j (putAll s.tys x)) (endK X s fn (s.stR fn.ntmps i j (putAll s.tys x)) s.pan))
    | none => none
  | _ => none

theorem recOps_some {ops : Array Oper} {i j : Nat} (h : recOps ops.toList = some (i, j)) : ∃ o1 o2 c, ops = #[o1, o2] ∧ o1.op = .call c ∧ c.callee = .builtin .recover ∧ c.args = #[] ∧ o1.dst = some i ∧ o1.guard = none ∧ o2.op = .assign (.tmp i) ∧ o2.dst = some j ∧ o2.guard = none := by
  obtain ⟨l⟩ := ops
  simp only at h
  unfold recOps at h
  split at h <;> try (cases h; done)
  rename_i o1 o2 
  split at h <;> try (cases h; done)
  rename_i c i0 i1 j0 h1 h2 h3 h4 h5 h6
  split at h <;> try (cases h; done)
  rename_i hc
  cases hh : (Nat.beq i0 i1 && Nat.beq c.args.size 0) <;> rw [hh] at h <;> simp only [cond_true, cond_false] at h
  · cases h
  rw [Bool.and_eq_true] at hh
  cases h
  have e := Nat.eq_of_beq_eq_true hh.1
  subst e
  exact ⟨o1, o2, c, rfl, h1, hc, Array.eq_empty_of_size_eq_zero (Nat.eq_of_beq_eq_true hh.2), h2, h3, h4, h5, h6⟩

theorem Rel.initL {w : World} {G : Ghost} {args : Array Value} {H : List (TBox E)} {g : List TGrow} {ds : List (TV E)} {n : Nat} (hP : Pins E w G) (hB : Boxes E w G H g) (hV : VTs E w G ds args.toList) :
    Rel E w G ⟨padT n ds, H, g, [], []⟩ { tmps := args ++ Array.replicate (n - args.size) undef, defers := [] } w G := by
  have hl : args.size = ds.length := by simpa using hV.length
  refine ⟨Evol.refl w G, ?_, fun j d hj => ?_, trivial, hB, fun _ _ _ _ => rfl, hP⟩
  · simp [padT, hl]
  · have hj : (padT n ds)[j]? = some d := hj
    unfold padT at hj
    by_cases hlt : j < ds.length
    · rw [List.getElem?_append_left hlt] at hj
      obtain ⟨u, hu, hv⟩ := hV.get j hj
      have : (args ++ Array.replicate (n - args.size) undef).getD j undef = u := by
        have h1 : j < args.size := by omega
        have h2 : args[j] = u := by simpa [h1] using hu
        rw [Array.getD_eq_getD_getElem?, Array.getElem?_append_left h1, Array.getElem?_eq_getElem h1, h2]
        rfl
      rw [this]
      exact hv
    · rw [List.getElem?_append_right (by omega)] at hj
      have := List.mem_of_getElem? hj
      simp at this
      rw [this.2]
      simp only [VT]

theorem Ctr.okR_of (hX : X.Ok) {C : Ctr E} {F : Nat} {fn : Func} {pl : Plan} (hf : X.P.funcs[C.s.f]? = some fn) (hn : (fn.name == "runtime.NumGoroutine") = false) (h : ∀ x, funR X F C.s fn pl x = C.m x) : C.GOk (CallsR X.P) := by
  intro x y hy
  have h1 : funR X F C.s fn pl x = some y := by rw [h x]; exact hy
  unfold funR at h1
  split at h1 <;> try (cases h1; done)
  rename_i id ops rest hb
  split at h1 <;> try (cases h1; done)
  rename_i i j hrec
  obtain ⟨hnp, h1⟩ := rq_some h1
  rw [Bool.and_eq_true] at hnp
  obtain ⟨hnd, hpan⟩ := hnp
  obtain ⟨o1, o2, c, rfl, ho1, hcal, hargs0, hd1, hg1, ho2, hd2, hg2⟩ := recOps_some hrec
  intro w G vargs hP hB hV
  refine ⟨enters_of hf hb hn, fun v args u hva hmo => ?_⟩
  rw [hva] at hV
  generalize hds : C.s.ds (putAll C.s.tys x) = dd at hV h1
  cases dd with
  | nil => simp only [VTs] at hV; cases hV
  | cons m ds =>
  obtain ⟨v', us, he, hvm, hvs⟩ := hV.cons_inv
  cases he
  have hst : C.s.stR fn.ntmps i j (putAll C.s.tys x) = { (⟨(padT fn.ntmps ds).set i m, C.s.H (putAll C.s.tys x), C.s.g0, [], []⟩ : TS E) with t := setT ((padT fn.ntmps ds).set i m) (some j) ((⟨(padT fn.ntmps ds).set i m, C.s.H (putAll C.s.tys x), C.s.g0, [], []⟩ : TS E).ev (.tmp i)) } := by
    unfold Shp.stR; rw [hds]
  have hr0 := Rel.initL (n := fn.ntmps) hP hB hvs
  have hr1 : Rel E w G ⟨(padT fn.ntmps ds).set i m, C.s.H (putAll C.s.tys x), C.s.g0, [], []⟩ _ w G := hr0.put hvm (some i)
  have hr2 := hr1.put (hr1.ev (.tmp i)) (some j)
  have hr2' : Rel E w G (C.s.stR fn.ntmps i j (putAll C.s.tys x)) ((({ tmps := args ++ Array.replicate (fn.ntmps - args.size) undef, defers := [] } : Act).put (some i) v).put (some j) ((({ tmps := args ++ Array.replicate (fn.ntmps - args.size) undef, defers := [] } : Act).put (some i) v).eval (.tmp i))) w G := by rw [hst]; exact hr2
  have hpre := hr2'.pre
  refine callsD_of_wpS hf hb fun c₀ cs hu => ?_
  apply wpS_seq
  apply wpS_region
  have hrange : List.range (#[o1, o2] : Array Oper).size = [0, 1] := rfl
  rw [hrange]
  -- what is left, once recover has been called
  have go : ∀ (u' : FrameMode), settle u' = .returning → wpOpsS X.P #[o1, o2] (Exit.thenS (rest.wpS X.P (bodyPostS X.P fn c₀ cs fun e u' w' => settle u' = .returning ∧ ResOk E w G (outP C.s (C.s.H (putAll C.s.tys x)) C.s.pan y) e w')) (bodyPostS X.P fn c₀ cs fun e u' w' => settle u' = .returning ∧ ResOk E w G (outP C.s (C.s.H (putAll C.s.tys x)) C.s.pan y) e w')) [1]
      (({ tmps := args ++ Array.replicate (fn.ntmps - args.size) undef, defers := [] } : Act).put o1.dst v) ({ c₀ with mode := u' } :: cs) w := by
    intro u' hset
    rw [hd1]
    have hw2 : Region.wanted o2 (yielded #[o1, o2] (({ tmps := args ++ Array.replicate (fn.ntmps - args.size) undef, defers := [] } : Act).put (some i) v).tmps) = true := by simp [Region.wanted, hg2]
    have hrun2 : (execOp (({ tmps := args ++ Array.replicate (fn.ntmps - args.size) undef, defers := [] } : Act).put (some i) v).eval o2).run X.P w = .ok (.value ((({ tmps := args ++ Array.replicate (fn.ntmps - args.size) undef, defers := [] } : Act).put (some i) v).eval (.tmp i))) w := by
      simp [execOp, ho2]
    have e1 : (#[o1, o2] : Array Oper)[1]? = some o2 := rfl
    simp only [wpOpsS, e1, hw2, if_true, hrun2, Oper.upon, Exit.thenS]
    rw [hd2]
    refine wpS_of_wp (wp_mono (runT_sound hX rest pl h1 w G _ w G hr2') fun e a' w' hp => ?_)
    obtain ⟨ex, st, G', he, hr, hk, hF⟩ := hp
    have hd0 : (C.s.stR fn.ntmps i j (putAll C.s.tys x)).d = [] := by rw [hst]
    have hdf0 : (C.s.stR fn.ntmps i j (putAll C.s.tys x)).df = [] := by rw [hst]
    have hH0 : (C.s.stR fn.ntmps i j (putAll C.s.tys x)).H = C.s.H (putAll C.s.tys x) := by rw [hst]
    have hg0 : (C.s.stR fn.ntmps i j (putAll C.s.tys x)).g = C.s.g0 := by rw [hst]
    have hdf : st.df = [] := (hF.df hnd).trans hdf0
    have hdef : a'.defers = [] := by
      have := hr.defers
      rw [hdf] at this
      exact DRel.nil_inv this
    have fin : ∀ (p : Option Outs) (y : OutP E C.s.out p), p.isNone = true → endK X C.s fn (C.s.stR fn.ntmps i j (putAll C.s.tys x)) p ex st = some y →
        bodyPostS X.P fn c₀ cs (fun e u' w' => settle u' = .returning ∧ ResOk E w G (outP C.s (C.s.H (putAll C.s.tys x)) p y) e w') e a' ({ c₀ with mode := u' } :: cs) w' := by
      intro p y hp hk
      cases p with
      | some q => cases hp
      | none =>
        have okc : ((resAll X st fn.results.toList).bind fun ds => C.s.out.get (C.s.stR fn.ntmps i j (putAll C.s.tys x)) st (packRes ds)) = some y →
            ∃ v, (results fn a'.tmps).run X.P w' = .ok v w' ∧ ResOk E w G (outP C.s (C.s.H (putAll C.s.tys x)) none y) (.returned v) w' := by
          intro hy
          cases hds : resAll X st fn.results.toList with
          | none => rw [hds] at hy; cases hy
          | some ds =>
            rw [hds] at hy
            dsimp only [Option.bind] at hy
            obtain ⟨v, hv, hrun⟩ := results_ok hX hr hds
            obtain ⟨G2, q1, q2, q3, q4⟩ := Outs.get_ok (ok := true) hpre hd0 (hdf.trans hdf0.symm) hr hF hv hy
            rw [hH0, hg0] at q2 q3 q4
            exact ⟨v, hrun, v, G2, rfl, q1, q2, q3, q4⟩
        cases ex <;> cases e <;> try (exact he.elim)
        · obtain ⟨v, hrun, h2⟩ := okc hk; exact ⟨hdef, u', rfl, v, hrun, hset, h2⟩
        · cases hk
        · cases hk
        · obtain ⟨v, hrun, h2⟩ := okc hk; exact ⟨hdef, u', rfl, v, hrun, hset, h2⟩
        · cases hk
    exact fin C.s.pan y hpan hk
  have hw1 : Region.wanted o1 (yielded #[o1, o2] ({ tmps := args ++ Array.replicate (fn.ntmps - args.size) undef, defers := [] } : Act).tmps) = true := by simp [Region.wanted, hg1]
  have hrun1 : (execOp ({ tmps := args ++ Array.replicate (fn.ntmps - args.size) undef, defers := [] } : Act).eval o1).run X.P w = .ok .recover w := by
    simp [execOp, ho1, resolve, hcal, hargs0, invoke, go_sem]
  have e0 : (#[o1, o2] : Array Oper)[0]? = some o1 := rfl
  rw [wpOpsS]
  simp only [e0, hw1, if_true, hrun1]
  rcases hmo with ⟨rfl, rfl⟩ | rfl
  · have hrd : recoverD (c₀ :: cs) = none := by simp [recoverD, hu]
    rw [hrd]
    have hc0 : ({ c₀ with mode := .returning } : Frame) = c₀ := by rw [← hu]
    have := go .returning rfl
    rw [hc0] at this
    exact this
  · have hrd : recoverD (c₀ :: cs) = some (v, { c₀ with mode := .panicking [{ v := v, recovered := true }] } :: cs) := by simp [recoverD, hu]
    rw [hrd]
    exact go _ rfl
end

end Go.RT
/-
  RT, part 41: strconv.Itoa, out of the shelf's contract.
-/
namespace Go.RT
set_option linter.unusedVariables false

variable {E : TEnv}

theorem Boxes.grown {w w' : World} {G : Ghost} {H : List (TBox E)} {gs : List TGrow} (hP : Pins E w G) (hB : Boxes E w G H gs) (hs : Same w w') (h1 : w'.os = w.os) (h2 : w'.tape = w.tape) (h3 : w'.output = w.output) :
    Evol w G w' G ∧ Boxes E w' G H gs ∧ ∀ (q b : Nat), G.i[q]? = some b → w'.heap[b]? = w.heap[b]? := by
  have hr := Rel.initL (n := 0) (ds := []) (args := #[]) hP hB .nil
  have hr' := hr.grow (w' := w') hs h1 h2 h3 G.pr (fun _ _ h => h) (fun _ _ _ h => h) (fun b o hp => Nat.lt_of_lt_of_le (hB.prok b o hp).1 hs.1)
  exact ⟨hr'.evol, hr'.boxes, fun q b hq => hr'.fix q b hq (by simp)⟩

theorem entersOf {P : Program} {f : FuncId} {fn : Func} (hf : P.funcs[f]? = some fn) (hb : fn.body.isSome = true) (hn : (fn.name == "runtime.NumGoroutine") = false) : ∀ args w, (callFunc f args).run P w = .ok (.enter f args) w := by
  obtain ⟨c, hc⟩ := Option.isSome_iff_exists.1 hb
  exact Go.RT.enters_of hf hc hn

def itoaF (F : Nat) (n : Int) : Option (List UInt8) := rq (decide (-9223372036854775808 ≤ n) && decide (n ≤ 9223372036854775807)) (some (Lib.itoa n))
def itoaS (f : FuncId) : Shp := ⟨f, [.one (.dat (.int .i64))], [], [], ⟨.one (.dat .str), [], []⟩, none⟩
def itoaC (E : TEnv) (f : FuncId) (F : Nat) : Ctr E := ⟨itoaS f, fun (x : Int) => itoaF F x⟩

theorem tabIs_of_pins {P : Program} {w : World} {G : Ghost} {name : String} {k : IntKind} {zs : List Int} {g : Nat} (hP : Pins E w G) (hg : P.globalNamed name = some g)
    (he : E.gb g = some (zs.map fun z => Value.int k z).toArray) : Lib.TabIs P w name k zs := by
  obtain ⟨t, m, this⟩ := (hP g _ he).1
  simp [Lib.TabIs, World.var?, hg, this]

theorem itoa_ok {P : Program} {f : FuncId} (he : ∀ args w, (callFunc f args).run P w = .ok (.enter f args) w) (hT : ∀ w G, Pins E w G → Lib.TabIs P w "internal/strconv.uint64pow10" .u64 Lib.pow10Tab)
    (hC : ∀ (n : Int), -9223372036854775808 ≤ n → n ≤ 9223372036854775807 → ∀ (w : World), Lib.TabIs P w "internal/strconv.uint64pow10" .u64 Lib.pow10Tab →
      Calls P f #[.int .i64 n] w fun e w' => e = .returned (.string ⟨(Lib.itoa n).toArray⟩) ∧ ∃ k os, w' = Go.Sort.grow (w.drewN k) os) (F : Nat) : (itoaC E f F).Ok P := by
  have key : ∀ (n : Int), -9223372036854775808 ≤ n → n ≤ 9223372036854775807 → ACalls (E := E) P f [.dat (.int .i64) n] [] [] ⟨true, .dat .str (Lib.itoa n), [], [], []⟩ := by
    intro n h0 h1 w G args hP hB hv
    obtain ⟨u, us, ha, hv1, hv2⟩ := hv.cons_inv
    have hv2 : us = [] := by simpa only [VTs] using hv2
    have e1 := hv1.int_inv
    subst e1 hv2
    have ha : args = #[.int .i64 n] := by apply Array.ext'; exact ha
    subst ha
    unfold Invokes
    rw [he]
    refine Calls.mono (hC n h0 h1 w (hT w G hP)) fun e w' hh => ?_
    obtain ⟨rfl, k, os, rfl⟩ := hh
    have hs : Same w (Go.Sort.grow (w.drewN k) os) := ⟨by simp [Go.Sort.grow, World.drewN], fun b hb => by
      show (w.heap ++ os)[b]? = _
      rw [Array.getElem?_append_left hb]⟩
    obtain ⟨q1, q2, q3⟩ := hB.grown hP hs rfl rfl rfl
    exact ⟨_, G, rfl, q1, q2, .str _ _ _, fun q b hq _ => q3 q b hq⟩
  have key2 : ∀ (n : Int) (y : List UInt8), itoaF F n = some y → ACalls (E := E) P f [.dat (.int .i64) n] [] [] ⟨true, .dat .str y, [], [], []⟩ := by
    intro n y hy
    obtain ⟨h1, h2⟩ := rq_some hy
    rw [Bool.and_eq_true, decide_eq_true_eq, decide_eq_true_eq] at h1
    cases h2
    exact key n h1.1 h1.2
  intro x y hy
  exact key2 x y hy

end Go.RT
/-
  RT, part 42: arguments that came in, read as data; a law's contract as the row wants it.
-/
namespace Go.RT
set_option linter.unusedVariables false

section
variable {w : World} {pr : Nat → Nat → Prop}
theorem LD.getD : ∀ {cs : List Value} {ds : List DV}, LD w pr cs ds → ∀ {l : Nat}, l < ds.length → VD w pr (cs.getD l undef) (ds.getD l default)
  | [], [], _, l, h => by simp at h
  | c :: cs, d :: ds, h, 0, _ => h.1
  | c :: cs, d :: ds, h, l + 1, hl => by simpa using LD.getD h.2 (l := l) (by simpa using hl)
  | [], _ :: _, h, _, _ => h.elim
  | _ :: _, [], h, _, _ => h.elim
theorem LD.app : ∀ {cs cs' : List Value} {ds ds' : List DV}, LD w pr cs ds → LD w pr cs' ds' → LD w pr (cs ++ cs') (ds ++ ds')
  | [], cs', [], ds', _, h => h
  | c :: cs, cs', d :: ds, ds', h, h' => ⟨h.1, LD.app h.2 h'⟩
  | [], _, _ :: _, _, h, _ => h.elim
  | _ :: _, _, [], _, h, _ => h.elim
theorem LD.cat {cs : List Value} {o k : Nat} {a b : List DV} (h1 : LD w pr ((cs.drop o).take k) a) (h2 : LD w pr (cs.drop (o + k)) b) : LD w pr (cs.drop o) (a ++ b) := by
  have := h1.app h2
  rwa [← List.drop_drop, List.take_append_drop] at this
theorem LD.fin {cs : List Value} {n : Nat} (h : cs.length = n) : LD w pr (cs.drop n) [] := by
  rw [List.drop_eq_nil_of_le (by omega)]; exact trivial
end

theorem getD_enc {α : Type} [Inhabited α] (enc : α → List DV) (l : List α) (n : Nat) (h : n < l.length) : (l.map enc).getD n [] = enc (l.getD n default) := by
  simp [List.getD, h]
theorem block_lt_of_cell {w : World} {a : Addr} {v : Value} (h : w.cell? a = some v) : a.block < w.heap.size := World.block_lt_of_cell? w a h

/-- What came in, read at a type, is of a Lean type. -/
def OpensF {H : Type} (henc : TypeId × Value → H) (P : Program) (W : World) (fuel : Nat) (t : TypeId) {α : Type} (enc : α → List DV) (ok : α → Prop) : Prop :=
  ∀ cs d ps, DataW.trod henc P W 0 (fun _ => true) true fuel t cs = some (d, ps) → ∃ x, ok x ∧ LD W (fun b _ => b < W.heap.size) cs (enc x)

section
variable {H : Type} {henc : TypeId × Value → H} {P : Program} {W : World}

theorem opens_bool {t : TypeId} (ht : P.underlying t = some .bool) (fuel : Nat) : OpensF henc P W fuel t (fun b : Bool => [.bool b]) (fun _ => True) := by
  intro cs d ps h
  cases fuel with
  | zero => cases h
  | succ n =>
    simp only [DataW.trod, ht] at h
    split at h <;> try (simp_all; done)
    rename_i b h1
    exact ⟨b, trivial, ⟨.bool _, trivial⟩⟩
theorem opens_int {t : TypeId} {k : IntKind} (ht : P.underlying t = some (.int k)) (fuel : Nat) : OpensF henc P W fuel t (fun n : Int => [.int k n]) (fun n => (Lit.int k n).wf = true) := by
  intro cs d ps h
  cases fuel with
  | zero => cases h
  | succ n =>
    simp only [DataW.trod, ht] at h
    split at h <;> try (simp_all; done)
    rename_i k2 k' m h1
    cases h1
    split at h <;> try (cases h; done)
    rename_i hc
    obtain ⟨rfl, hw⟩ := hc
    exact ⟨m, hw, ⟨.int _ _, trivial⟩⟩
theorem opens_string {t : TypeId} (ht : P.underlying t = some .string) (fuel : Nat) : OpensF henc P W fuel t (fun l : List UInt8 => [.str l]) (fun l => l.length ≤ maxLen) := by
  intro cs d ps h
  cases fuel with
  | zero => cases h
  | succ n =>
    simp only [DataW.trod, ht] at h
    split at h <;> try (simp_all; done)
    rename_i s h1
    split at h <;> try (cases h; done)
    rename_i hc
    exact ⟨s.data.toList, hc, ⟨.str s.data.toList, trivial⟩⟩

theorem mapM_opt {α β : Type} {f : α → Option β} : ∀ {l : List α} {r : List β}, l.mapM f = some r → r.length = l.length ∧ ∀ (j : Nat) a, l[j]? = some a → ∃ b, r[j]? = some b ∧ f a = some b
  | [], r, h => by simp at h; subst h; exact ⟨rfl, fun j a hj => by simp at hj⟩
  | x :: l, r, h => by
    simp only [List.mapM_cons, Option.bind_eq_bind, Option.pure_def] at h
    cases hx : f x with
    | none => simp [hx] at h
    | some y =>
      cases hl : l.mapM f with
      | none => simp [hx, hl] at h
      | some r' =>
        simp [hx, hl] at h
        subst h
        obtain ⟨h1, h2⟩ := mapM_opt hl
        refine ⟨by simp [h1], fun j a hj => ?_⟩
        cases j with
        | zero => simp at hj; subst hj; exact ⟨y, by simp, hx⟩
        | succ j => simp at hj ⊢; exact h2 j a hj

theorem cells_some {w : World} {base : Nat} {a : Addr} {n : Nat} {cs : List Value} (h : w.cells? base a n = some cs) : cs.length = n ∧ ∀ j, j < n → w.cell? (a.add j) = some (cs.getD j undef) := by
  unfold World.cells? at h
  split at h <;> try (cases h; done)
  obtain ⟨h1, h2⟩ := mapM_opt h
  have hl : cs.length = n := by simpa using h1
  refine ⟨hl, fun j hj => ?_⟩
  obtain ⟨b, hb, hc⟩ := h2 j j (by simp [hj])
  rw [hc]
  simp [List.getD, hb]

/-- A slice that came in. -/
theorem opens_slice {t e : TypeId} {k fuel : Nat} {α : Type} [Inhabited α] {enc : α → List DV} {ok : α → Prop} (ht : P.underlying t = some (.slice e)) (hk : P.cellsOf e = k) (hkp : 0 < k) (hlen : ∀ x, (enc x).length = k) (he : OpensF henc P W fuel e enc ok) :
    OpensF henc P W (fuel + 1) t (fun vs : List α => [.slice k (vs.map enc)]) (fun vs => vs.length ≤ maxLen ∧ ∀ x, x ∈ vs → ok x) := by
  intro cs d ps h
  simp only [DataW.trod, ht] at h
  split at h <;> try (simp_all; done)
  · rename_i h1
    exact ⟨[], ⟨by simp, fun x hx => by simp at hx⟩, ⟨.nils _ _, trivial⟩⟩
  · rename_i e' a len cap h1
    cases h1
    split at h <;> try (cases h; done)
    rename_i hc
    simp only [Option.bind_eq_some_iff, Option.map_eq_some_iff] at h
    obtain ⟨elems, hel, rest, hrest, -⟩ := h
    obtain ⟨hl, hg⟩ := mapM_opt hel
    have hlen' : elems.length = len := by simpa using hl
    have rd : ∀ j, (∃ y : DataW H × List MemPlace, (W.cells? 0 (a.add (j * P.cellsOf e)) (P.cellsOf e)).bind (DataW.trod henc P W 0 (fun _ => true) true fuel e) = some y) →
        ∃ x : α, ok x ∧ ∃ cs : List Value, cs.length = k ∧ (∀ l, l < k → W.cell? ((a.add (j * k)).add l) = some (cs.getD l undef)) ∧ LD W (fun b _ => b < W.heap.size) cs (enc x) := by
      rintro j ⟨y, hy⟩
      simp only [Option.bind_eq_some_iff] at hy
      obtain ⟨cs, hcs, hy⟩ := hy
      obtain ⟨x, hx, hv⟩ := he cs y.1 y.2 hy
      rw [hk] at hcs
      obtain ⟨q1, q2⟩ := cells_some hcs
      exact ⟨x, hx, cs, q1, q2, hv⟩
    have key : ∀ j, j < len → ∃ x : α, ok x ∧ ∃ cs : List Value, cs.length = k ∧ (∀ l, l < k → W.cell? ((a.add (j * k)).add l) = some (cs.getD l undef)) ∧ LD W (fun b _ => b < W.heap.size) cs (enc x) := by
      intro j hj
      obtain ⟨y, -, hy⟩ := hg j j (by simp [hj])
      exact rd j ⟨y, hy⟩
    by_cases hz : cap = 0
    · have hl0 : len = 0 := by omega
      subst hz; subst hl0
      exact ⟨[], ⟨by simp, fun x hx => by simp at hx⟩, ⟨.nils _ _, trivial⟩⟩
    -- the first cell is there: no spot
    have hspot : a.spot = none := by
      have h0 : ∃ x : α, ok x ∧ ∃ cs : List Value, cs.length = k ∧ (∀ l, l < k → W.cell? ((a.add (0 * k)).add l) = some (cs.getD l undef)) ∧ LD W (fun b _ => b < W.heap.size) cs (enc x) := by
        by_cases hl1 : 0 < len
        · exact key 0 hl1
        · have hl0 : len = 0 := by omega
          subst hl0
          simp only [if_true] at hrest
          obtain ⟨hl2, hg2⟩ := mapM_opt hrest
          obtain ⟨y, -, hy⟩ := hg2 0 0 (by rw [List.getElem?_range (by omega)])
          exact rd 0 ⟨y, by simpa using hy⟩
      obtain ⟨x, -, cs, -, hcell, -⟩ := h0
      have h1 := hcell 0 hkp
      simp only [Nat.zero_mul] at h1
      have e : (a.add 0).add 0 = a := by simp [Addr.add]
      rw [e] at h1
      unfold World.cell? at h1
      split at h1 <;> try (cases h1; done)
      split at h1 <;> try (cases h1; done)
      rename_i hn
      simpa using hn
    obtain ⟨b, off, spot⟩ := a
    simp only at hspot
    subst hspot
    simp only [add_lit] at key
    -- choose the elements
    have hch : ∃ vs : List α, vs.length = len ∧ ∀ j, j < len → ok (vs.getD j default) ∧ ∃ cs : List Value, cs.length = k ∧ (∀ l, l < k → W.cell? ⟨b, off + j * k + l, none⟩ = some (cs.getD l undef)) ∧ LD W (fun b _ => b < W.heap.size) cs (enc (vs.getD j default)) := by
      clear hg hel hrest rd hlen' hl hc
      induction len with
      | zero => exact ⟨[], rfl, fun j hj => by omega⟩
      | succ n ih =>
        obtain ⟨vs, h1, h2⟩ := ih (fun j hj => key j (by omega))
        obtain ⟨x, hx⟩ := key n (by omega)
        refine ⟨vs ++ [x], by simp [h1], fun j hj => ?_⟩
        by_cases hjn : j < n
        · have : (vs ++ [x]).getD j default = vs.getD j default := by simp [List.getD, List.getElem?_append_left (show j < vs.length by omega)]
          rw [this]; exact h2 j hjn
        · have hje : j = n := by omega
          subst hje
          have : (vs ++ [x]).getD j default = x := by simp [List.getD, ← h1]
          rw [this]; exact hx
    obtain ⟨vs, hvl, hvs⟩ := hch
    refine ⟨vs, ⟨by rw [hvl]; omega, fun x hx => ?_⟩, ?_⟩
    · obtain ⟨j, hj, rfl⟩ := List.getElem_of_mem hx
      have := (hvs j (by omega)).1
      simpa [List.getD, hj] using this
    · refine ⟨?_, trivial⟩
      have hml : (vs.map enc).length = len := by simp [hvl]
      have hgd : ∀ j, j < len → (vs.map enc).getD j [] = enc (vs.getD j default) := fun j hj => getD_enc enc vs j (by omega)
      rw [← hml]
      refine .slice b off cap k _ (fun j l => (W.cell? ⟨b, off + j * k + l, none⟩).getD undef) (by rw [hml]; omega) (fun j hj => ?_) (fun j l hj hl => ?_) (fun j l hj hl => ?_)
      all_goals rw [hml] at hj
      · rw [hgd j hj]; exact hlen _
      · obtain ⟨-, cs, q1, q2, q3⟩ := hvs j hj
        have := q2 l hl
        exact ⟨block_lt_of_cell (a := ⟨b, off + j * k + l, none⟩) this, by rw [this]; rfl⟩
      · obtain ⟨-, cs, q1, q2, q3⟩ := hvs j hj
        rw [q2 l hl, hgd j hj]
        exact LD.getD q3 (by rw [hlen]; exact hl)

theorem trod_struct_fields {t : TypeId} {fs : Array Field} {fuel : Nat} {cs : List Value} {d : DataW H} {ps : List MemPlace} (ht : P.underlying t = some (.struct fs)) (h : DataW.trod henc P W 0 (fun _ => true) true (fuel + 1) t cs = some (d, ps)) :
    cs.length = P.cellsOf t ∧ ∀ f, f ∈ fs.toList → ∃ y, DataW.trod henc P W 0 (fun _ => true) true fuel f.type ((cs.drop f.offset).take (P.cellsOf f.type)) = some y := by
  simp only [DataW.trod, ht] at h
  split at h <;> try (cases h; done)
  rename_i hl
  obtain ⟨xs, hxs, -⟩ := Option.map_eq_some_iff.1 h
  refine ⟨hl, fun f hf => ?_⟩
  obtain ⟨j, hj, rfl⟩ := List.getElem_of_mem hf
  obtain ⟨b, -, hb⟩ := (mapM_opt hxs).2 j _ (List.getElem?_eq_getElem hj)
  exact ⟨b, hb⟩

/-- One field of a struct, of whatever number of cells. -/
theorem field_open {t : TypeId} {fs : Array Field} {fuel : Nat} {cs : List Value} {α : Type} {enc : α → List DV} {ok : α → Prop} {f : Field} (hf : f ∈ fs.toList) {k : Nat} (hk : P.cellsOf f.type = k)
    (ho : OpensF henc P W fuel f.type enc ok) (h : ∀ f, f ∈ fs.toList → ∃ y, DataW.trod henc P W 0 (fun _ => true) true fuel f.type ((cs.drop f.offset).take (P.cellsOf f.type)) = some y) :
    ∃ x, ok x ∧ LD W (fun b _ => b < W.heap.size) ((cs.drop f.offset).take k) (enc x) := by
  obtain ⟨y, hy⟩ := h f hf
  rw [hk] at hy
  exact ho _ y.1 y.2 hy

/-- A whole argument. -/
theorem Opens.arg {t : TypeId} {v : Value} {α : Type} {enc : α → List DV} {ok : α → Prop} (ho : ∀ fuel, OpensF henc P W fuel t enc ok) {d : DataW H} {ps : List MemPlace} (h : DataW.Trod henc P W 0 (fun _ => true) true t v d ps) :
    ∃ x, ok x ∧ LD W (fun b _ => b < W.heap.size) v.cells.toList (enc x) := by
  obtain ⟨fuel, hf⟩ := h
  exact ho fuel _ _ _ hf

theorem field_at {fs : Array Field} {fuel : Nat} {cs : List Value} {α : Type} {enc : α → List DV} {ok : α → Prop} (j : Nat) {f : Field} (hf : fs[j]? = some f) {k : Nat} (hk : P.cellsOf f.type = k)
    (ho : OpensF henc P W fuel f.type enc ok) (h : ∀ f, f ∈ fs.toList → ∃ y, DataW.trod henc P W 0 (fun _ => true) true fuel f.type ((cs.drop f.offset).take (P.cellsOf f.type)) = some y) :
    ∃ x, ok x ∧ LD W (fun b _ => b < W.heap.size) ((cs.drop f.offset).take k) (enc x) :=
  field_open (t := 0) (by simpa using Array.mem_of_getElem? hf) hk ho h

theorem trod_array_elems {t e : TypeId} {n fuel : Nat} {cs : List Value} {d : DataW H} {ps : List MemPlace} (ht : P.underlying t = some (.array n e)) (h : DataW.trod henc P W 0 (fun _ => true) true (fuel + 1) t cs = some (d, ps)) :
    cs.length = P.cellsOf t ∧ ∀ j, j < n → ∃ y, DataW.trod henc P W 0 (fun _ => true) true fuel e ((cs.drop (j * P.cellsOf e)).take (P.cellsOf e)) = some y := by
  simp only [DataW.trod, ht] at h
  split at h <;> try (cases h; done)
  rename_i hl
  obtain ⟨xs, hxs, -⟩ := Option.map_eq_some_iff.1 h
  refine ⟨hl, fun j hj => ?_⟩
  obtain ⟨b, -, hb⟩ := (mapM_opt hxs).2 j j (by simp [hj])
  exact ⟨b, hb⟩
theorem elem_at {e : TypeId} {n fuel : Nat} {cs : List Value} {α : Type} {enc : α → List DV} {ok : α → Prop} (j : Nat) (hj : j < n) {k : Nat} (hk : P.cellsOf e = k)
    (ho : OpensF henc P W fuel e enc ok) (h : ∀ j, j < n → ∃ y, DataW.trod henc P W 0 (fun _ => true) true fuel e ((cs.drop (j * P.cellsOf e)).take (P.cellsOf e)) = some y) :
    ∃ x, ok x ∧ LD W (fun b _ => b < W.heap.size) ((cs.drop (j * k)).take k) (enc x) := by
  obtain ⟨y, hy⟩ := h j hj
  rw [hk] at hy
  exact ho _ y.1 y.2 hy
end

/-- A law's contract, as the row wants it: it returns true and nothing that was there has turned. -/
theorem law_calls {E : TEnv} {P : Program} {f : FuncId} {ds : List (TV E)} {args : Array Value} {W : World} (h : ACalls P f ds [] [] ⟨true, .dat .bool true, [], [], []⟩) (he : ∀ args w, (callFunc f args).run P w = .ok (.enter f args) w) (hgl : ∀ b o v, E.gl b o = some v → b < W.heap.size ∧ W.cell? ⟨b, o, none⟩ = some v) (hpin : ∀ b cs, E.gb b = some cs → ∃ t m, W.heap[b]? = some (.cells cs t m))
    (hv : VTs E W ⟨[], [], fun b _ => b < W.heap.size⟩ ds args.toList) : Calls P f args W fun e w' => e = .returned (.bool true) ∧ RowKit.Below W.heap.size W w' := by
  have hf : ∀ b, ¬ (⟨[], [], fun b _ => b < W.heap.size⟩ : Ghost).foot b := fun b hb => by
    rcases hb with hb | ⟨x, y, hb, -⟩ <;> cases hb
  have hI := h W ⟨[], [], fun b _ => b < W.heap.size⟩ args (fun b cs hb => ⟨hpin b cs hb, hf b⟩)
    ⟨rfl, rfl, fun r b x hb => (by simp at hb), fun b hb => (by cases hb), List.nodup_nil, fun b o hp => ⟨hp, (by simp)⟩, fun j x y hj => (by simp at hj), fun j j' x h x' h' b hj => (by simp at hj), hgl⟩ hv
  unfold Invokes at hI
  rw [he] at hI
  refine Calls.mono hI fun e w' hp => ?_
  obtain ⟨v, G', rfl, hE, hR, hV, -⟩ := hp
  refine ⟨?_, hE.os, hE.tape, hE.output, hE.size, fun k hk => hE.old k hk (hf k)⟩
  have := hV.bool_inv
  rw [this]; rfl

end Go.RT
