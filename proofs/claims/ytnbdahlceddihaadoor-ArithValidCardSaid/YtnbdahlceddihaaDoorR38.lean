/-
  RT, part 38: contracts of functions without a body.
-/
import Derived.Test.YtnbdahlceddihaaDoorR37
import Derived.Lib.Bytealg
namespace Go.RT
set_option linter.unusedVariables false

variable {E : TEnv}

def ibF (F : Nat) (s : List UInt8) (c : Int) : Option Int := some (Lib.indexByte s c.toNat.toUInt8)
def ibS (f : FuncId) : Shp := ⟨f, [.one (.dat .str), .one (.dat (.int .u8))], [], [], ⟨.one (.dat (.int .i64)), [], []⟩, none⟩
def ibC (E : TEnv) (f : FuncId) (F : Nat) : Ctr E := ⟨ibS f, fun (x : List UInt8 × Int) => ibF F x.1 x.2⟩

theorem ib_ok {P : Program} {f : FuncId} (h : ∀ args w, (callFunc f args).run P w = ((Extern.BytealgIndexByte.indexByte args).run P w).andThen fun v w' => .ok (.value v) w') (F : Nat) : (ibC E f F).Ok P := by
  have key : ∀ (s : List UInt8) (c : Int), ACalls (E := E) P f [.dat .str s, .dat (.int .u8) c] [] [] ⟨true, .dat (.int .i64) (Lib.indexByte s c.toNat.toUInt8), [], [], []⟩ := by
    intro s c w G args hP hB hv
    obtain ⟨u, us, he, h1, h2⟩ := hv.cons_inv
    obtain ⟨u2, us2, he2, h3, h4⟩ := h2.cons_inv
    have h4 : us2 = [] := by simpa only [VTs] using h4
    have e1 := h1.str_inv
    have e2 := h3.int_inv
    subst e1 e2 h4 he2
    have ha : args = #[mkStr s, .int .u8 c] := by apply Array.ext'; exact he
    subst ha
    have hrun : (callFunc f #[mkStr s, .int .u8 c]).run P w = .ok (.value (.int .i64 (Lib.indexByte s c.toNat.toUInt8))) w := by
      rw [h, mkStr, Lib.run_indexByteString]; rfl
    unfold Invokes
    rw [hrun]
    exact ⟨.int .i64 (Lib.indexByte s c.toNat.toUInt8), G, rfl, Evol.refl w G, hB, .int _ _ _ _, fun _ _ _ _ => rfl⟩
  intro x y hy
  obtain ⟨s, c⟩ := x
  have hy : some (Lib.indexByte s (Int.toNat c).toUInt8) = some y := hy
  cases hy
  exact key s c

/-- The pointer that came in. -/
def neF (F : Nat) : Option Unit := some ()
def neS (f : FuncId) (b : BT) (rows : List (TypeId × Nat)) : Shp := ⟨f, [.one (.ptr 0 0)], [b], rows, ⟨.one (.ptr 0 0), [none], rows.map fun _ => none⟩, none⟩
def neC (E : TEnv) (f : FuncId) (b : BT) (rows : List (TypeId × Nat)) : Ctr E := ⟨neS f b rows, fun _ => some ()⟩

theorem newRows_none : ∀ (rows : List (TypeId × Nat)) (g : List TGrow), g.length = rows.length → newRows (rows.map fun _ => none) g = g
  | [], [], _ => rfl
  | _ :: rows, x :: g, h => by
    have := newRows_none rows g (by simpa using h)
    simp only [List.map_cons, newRows, this]

theorem ne_ok {P : Program} {f : FuncId} {b : BT} {rows : List (TypeId × Nat)} (h : ∀ v w, (callFunc f #[v]).run P w = .ok (.value v) w) : (neC E f b rows).Ok P := by
  intro x y _
  intro w G args hP hB hv
  have hv : VTs E w G [.ptr 0 0] args.toList := hv
  obtain ⟨u, us, he, h1, h2⟩ := hv.cons_inv
  have h2 : us = [] := by simpa only [VTs] using h2
  subst h2
  have ha : args = #[u] := by apply Array.ext'; exact he
  subst ha
  show Invokes P f #[u] w _
  unfold Invokes
  rw [h]
  refine ⟨u, G, rfl, Evol.refl w G, ?_, h1, fun _ _ _ _ => rfl⟩
  have e : newRows (rows.map fun _ => none) (neS f b rows).g0 = (neS f b rows).g0 := newRows_none rows _ (by simp [Shp.g0, neS])
  show Boxes E w G _ (newRows (rows.map fun _ => none) (neS f b rows).g0)
  rw [e]
  exact hB

end Go.RT
