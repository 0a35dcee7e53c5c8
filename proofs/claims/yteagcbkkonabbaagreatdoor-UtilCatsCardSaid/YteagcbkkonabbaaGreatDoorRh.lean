import Derived.Test.YteagcbkkonabbaaGreatDoorRg
import Derived.Lib.Bytealg
import Derived.Recover
set_option linter.all false
namespace Go.RT
set_option linter.unusedVariables false
variable {E : TEnv}
end Go.RT
namespace Go.RT
set_option linter.unusedVariables false
variable {E : TEnv}
def InvI (P : Program) : Inv := fun f args w R => Invokes P f args w R
theorem InvI.mono (P : Program) : (InvI P).Mono := fun f args w R R' h hi => by
  unfold InvI Invokes at *
  split at hi
  · exact Calls.mono hi h
  · exact h _ _ hi
  · exact hi.elim
end Go.RT
namespace Go.RT
set_option linter.unusedVariables false
variable {E : TEnv}
def w64 (n : Int) : Int := IntKind.wrap .i64 n
def sl {α : Type} (l : List α) (p q : Int) : List α := (l.take q.toNat).drop p.toNat
theorem Ctr.ok_of {X : Cx E} (hX : X.Ok) {C : Ctr E} {F : Nat} {fn : Func} {pl : Plan} (hf : X.P.funcs[C.s.f]? = some fn) (hn : (fn.name == "runtime.NumGoroutine") = false) (h : ∀ x, funT X F C.s fn pl x = C.m x) : C.Ok X.P :=
  fun x y hy => funT_sound hX hf hn (by rw [h x]; exact hy)
theorem okN {P : Program} : ∀ C ∈ ([] : List (Ctr E)), C.Ok P := fun _ h => nomatch h
theorem okC {P : Program} {C : Ctr E} {Γ : List (Ctr E)} (h : C.Ok P) (hs : ∀ C ∈ Γ, C.Ok P) : ∀ C' ∈ C :: Γ, C'.Ok P := fun C' hC => by
  rcases List.mem_cons.1 hC with rfl | hC
  · exact h
  · exact hs C' hC
end Go.RT
namespace Go.RT
set_option linter.unusedVariables false
variable {E : TEnv}
def ibF (F : Nat) (s : List UInt8) (c : Int) : Option Int := some (Lib.indexByte s c.toNat.toUInt8)
def ibS (f : FuncId) : Shp := ⟨f, [.one (.dat .str), .one (.dat (.int .u8))], [], [], ⟨.one (.dat (.int .i64)), [], [], []⟩, none, []⟩
def ibC (E : TEnv) (f : FuncId) (F : Nat) : Ctr E := ⟨ibS f, fun (x : List UInt8 × Int) => ibF F x.1 x.2⟩
theorem ib_ok {P : Program} {f : FuncId} (h : ∀ args w, (callFunc f args).run P w = ((Extern.BytealgIndexByte.indexByte args).run P w).andThen fun v w' => .ok (.value v) w') (F : Nat) : (ibC E f F).Ok P := by
  have key : ∀ (s : List UInt8) (c : Int), ACalls (E := E) P f [.dat .str s, .dat (.int .u8) c] [] [] [] ⟨true, .dat (.int .i64) (Lib.indexByte s c.toNat.toUInt8), [], [], [], []⟩ := by
    intro s c w G args hP hB hS hv
    obtain ⟨u, us, he, h1, h2⟩ := hv.cons_inv
    obtain ⟨u2, us2, he2, h3, h4⟩ := h2.cons_inv
    have h4 : us2 = [] := by simpa only [VTs] using h4
    have e1 := h1.str_inv
    have e2 := h3.int_inv
    subst e1 e2 h4 he2
    have ha : args = #[mkStr s, .int .u8 c] := by apply Array.ext'; exact he
    subst ha
    have hrun : (callFunc f #[mkStr s, .int .u8 c]).run P w = .ok (.value (.int .i64 (Lib.indexByte s c.toNat.toUInt8))) w := by
      rw [h, mkStr, Lib.run_indexByteString]; rfl
    unfold Invokes
    rw [hrun]
    exact ⟨.int .i64 (Lib.indexByte s c.toNat.toUInt8), G, rfl, Evol.refl w G, hB, hS, .int _ _ _ _, fun _ _ _ _ => rfl⟩
  intro x y hy
  obtain ⟨s, c⟩ := x
  have hy : some (Lib.indexByte s (Int.toNat c).toUInt8) = some y := hy
  cases hy
  exact key s c
end Go.RT
namespace Go.RT
set_option linter.unusedVariables false
variable {E : TEnv}
section
variable {st : TS E}
def CallsO (P : Program) : Inv := fun f args w R => (∀ args w, (callFunc f args).run P w = .ok (.enter f args) w) ∧ ∀ u, CallsD P f args u w (fun e u' w' => u' = u ∧ R e w')
def ModeOf (u : FrameMode) (v : Value) : Prop := (u = .returning ∧ v = .nilIface) ∨ u = .panicking [{ v := v, recovered := false }]
def CallsR (P : Program) : Inv := fun f vargs w R => (∀ args w, (callFunc f args).run P w = .ok (.enter f args) w) ∧
  ∀ (v : Value) (args : Array Value) (u : FrameMode), vargs.toList = v :: args.toList → ModeOf u v → CallsD P f args u w (fun e u' w' => settle u' = .returning ∧ R e w')
theorem CallsO.mono (P : Program) : (CallsO P).Mono := fun f args w R R' h hi => ⟨hi.1, fun u => (hi.2 u).mono fun e u' w' hh => ⟨hh.1, h _ _ hh.2⟩⟩
theorem CallsR.mono (P : Program) : (CallsR P).Mono := fun f args w R R' h hi => ⟨hi.1, fun v args u h1 h2 => (hi.2 v args u h1 h2).mono fun e u' w' hh => ⟨hh.1, h _ _ hh.2⟩⟩
structure Dx (E : TEnv) where
  o : List (Ctr E)
  r : List (Ctr E)
structure Dx.Ok (P : Program) (D : Dx E) : Prop where
  o : ∀ C ∈ D.o, C.GOk (CallsO P)
  r : ∀ C ∈ D.r, C.GOk (CallsR P)
inductive ModeV : Option (TV E) → List Deferred → FrameMode → Prop
  | ret : ModeV none [] .returning
  | pan (d : TV E) (v : Value) : ModeV (some d) [{ target := .fn (.func 0) #[], args := #[v] }] (.panicking [{ v := v, recovered := false }])
theorem DRel.len {w : World} {G : Ghost} : ∀ {a : List Deferred} {x : List (FuncId × List (TV E))}, DRel E w G a x → a.length = x.length
  | [], [], _ => rfl
  | _ :: a, _ :: x, h => by simp [DRel.len h.2]
  | [], _ :: _, h => h.elim
  | _ :: _, [], h => h.elim
end
end Go.RT
namespace Go.RT
set_option linter.unusedVariables false
variable {E : TEnv}
section
variable {X : Cx E}
theorem enters_of {P : Program} {f : FuncId} {fn : Func} {c : Code} (hf : P.funcs[f]? = some fn) (hb : fn.body = some c) (hn : (fn.name == "runtime.NumGoroutine") = false) : ∀ args w, (callFunc f args).run P w = .ok (.enter f args) w := fun args w => by
  simp only [callFunc, Sem.run_bind, run_program, Result.andThen_ok, hf, hn, hb]
  simp
theorem goN {I : Inv} : ∀ C ∈ ([] : List (Ctr E)), C.GOk I := fun _ h => nomatch h
theorem Rel.initL {w : World} {G : Ghost} {args : Array Value} {H : List (TBox E)} {g : List TGrow} {ds : List (TV E)} {cs : List (Nat × Cn E)} {n : Nat} (hP : Pins E w G) (hB : Boxes E w G H g) (hS : Softs E w G cs) (hV : VTs E w G ds args.toList) :
    Rel E w G ⟨padT n ds, H, g, [], [], cs⟩ { tmps := args ++ Array.replicate (n - args.size) undef, defers := [] } w G := by
  have hl : args.size = ds.length := by simpa using hV.length
  refine ⟨Evol.refl w G, ?_, fun j d hj => ?_, trivial, hB, fun _ _ _ _ => rfl, hP, hS⟩
  · simp [padT, hl]
  · have hj : (padT n ds)[j]? = some d := hj
    unfold padT at hj
    by_cases hlt : j < ds.length
    · rw [List.getElem?_append_left hlt] at hj
      obtain ⟨u, hu, hv⟩ := hV.get j hj
      have : (args ++ Array.replicate (n - args.size) undef).getD j undef = u := by
        have h1 : j < args.size := by omega
        have h2 : args[j] = u := by simpa [h1] using hu
        rw [Array.getD_eq_getD_getElem?, Array.getElem?_append_left h1, Array.getElem?_eq_getElem h1, h2]
        rfl
      rw [this]
      exact hv
    · rw [List.getElem?_append_right (by omega)] at hj
      have := List.mem_of_getElem? hj
      simp at this
      rw [this.2]
      simp only [VT]
end
end Go.RT
