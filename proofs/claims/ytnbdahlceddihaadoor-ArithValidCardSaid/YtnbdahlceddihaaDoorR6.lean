/-
  RT, part 6: values taken apart into cells; parts of rows of abstract cells.
-/
import Derived.Test.YtnbdahlceddihaaDoorR5
namespace Go.RT
set_option linter.unusedVariables false

variable {E : TEnv}

def flatP (E : TEnv) (f : (i : Nat) → E.D i → Option (List (TV E))) : (t : Ty) → t.den E.D → Option (List (TV E))
  | .unit, _ => some []
  | .pair a b, x => (flatP E f a x.1).bind fun l => (flatP E f b x.2).bind fun m => some (l ++ m)
  | .ext i, x => f i x
  | .int k, x => some [.dat (.int k) x]
  | .bool, x => some [.dat .bool x]
  | .str, x => some [.dat .str x]
  | .lst t, x => some [.dat (.lst t) x]
def flatN (E : TEnv) : Nat → (t : Ty) → t.den E.D → Option (List (TV E))
  | 0 => flatP E fun _ _ => none
  | n + 1 => flatP E fun i x => flatN E n (E.df i) (E.unf i x)

/-- The cells of a value. -/
def TV.cellsT : TV E → Option (List (TV E))
  | .dat t x => cond t.isAgg (flatN E 4 t x) (some [.dat t x])
  | .agg cs => some cs
  | .cel t x off => some [.cel t x off]
  | .ptr r off => some [.ptr r off]
  | .optr c r off => some [.optr c r off]
  | .mref r => some [.mref r]
  | .gsl j ver t xs => some [.gsl j ver t xs]
  | .sdp _ _ _ => none
  | .func fn caps => some [.func fn caps]
  | .iface ty d => some [.iface ty d]
  | .val v => cond v.oneCell' (some [.val v]) none
  | .any => none
  | .tuple _ => none

section
variable {w : World} {G : Ghost}

theorem flatP_sound {f : (i : Nat) → E.D i → Option (List (TV E))} (hf : ∀ i x cs vs, LD w G.pr vs (E.enc i x) → f i x = some cs → VTs E w G cs vs) :
    ∀ (t : Ty) (x : t.den E.D) {cs : List (TV E)} {vs : List Value}, LD w G.pr vs (t.cells E x) → flatP E f t x = some cs → VTs E w G cs vs := by
  have atom : ∀ (t : Ty) (ha : t.isAgg = false) (hl : ∀ x, (t.cells E x).length = 1) (x : t.den E.D) {cs : List (TV E)} {vs : List Value}, LD w G.pr vs (t.cells E x) → some [TV.dat t x] = some cs → VTs E w G cs vs := by
    intro t ha hl x cs vs hv h
    cases h
    have := hv.length
    rw [hl] at this
    obtain ⟨u, rfl⟩ := List.length_eq_one_iff.1 this
    exact .cons (.of_atom ha hv) .nil
  intro t
  induction t with
  | int k => intro x cs vs hv h; exact atom (.int k) rfl (fun _ => rfl) x hv h
  | bool => intro x cs vs hv h; exact atom .bool rfl (fun _ => rfl) x hv h
  | str => intro x cs vs hv h; exact atom .str rfl (fun _ => rfl) x hv h
  | lst t _ => intro x cs vs hv h; exact atom (.lst t) rfl (fun _ => rfl) x hv h
  | unit => intro x cs vs hv h; cases h; cases vs with | nil => exact .nil | cons _ _ => exact hv.elim
  | ext i => intro x cs vs hv h; exact hf i x cs vs hv h
  | pair a b iha ihb =>
    intro x cs vs hv h
    simp only [flatP] at h
    obtain ⟨us, ts, rfl, h1, h2⟩ := LD.split (show LD w G.pr vs (a.cells E x.1 ++ b.cells E x.2) from hv)
    cases e1 : flatP E f a x.1 with
    | none => rw [e1] at h; cases h
    | some l =>
      rw [e1] at h
      dsimp only [Option.bind] at h
      cases e2 : flatP E f b x.2 with
      | none => rw [e2] at h; cases h
      | some m =>
        rw [e2] at h
        dsimp only [Option.bind] at h
        cases h
        exact (iha x.1 h1 e1).append (ihb x.2 h2 e2)
theorem flatN_sound (hE : E.Ok) : ∀ (n : Nat) (t : Ty) (x : t.den E.D) {cs : List (TV E)} {vs : List Value}, LD w G.pr vs (t.cells E x) → flatN E n t x = some cs → VTs E w G cs vs
  | 0, t, x, _, _, hv, h => flatP_sound (fun _ _ _ _ _ h => by cases h) t x hv h
  | n + 1, t, x, _, _, hv, h => flatP_sound (fun i x cs vs hv h => by
      rw [hE.enc] at hv
      exact flatN_sound hE n (E.df i) (E.unf i x) hv h) t x hv h

theorem cellsT_sound (hE : E.Ok) {d : TV E} {v : Value} {cs : List (TV E)} (hv : VT E w G d v) (h : d.cellsT = some cs) :
    VTs E w G cs v.cells.toList ∧ ∀ u, u ∈ v.cells → u.oneCell' = true := by
  have one : ∀ {d : TV E}, VT E w G d v → v.oneCell' = true → v.cells = #[v] → VTs E w G [d] v.cells.toList ∧ ∀ u, u ∈ v.cells → u.oneCell' = true := by
    intro d hv h1 hc
    rw [hc]
    exact ⟨.cons hv .nil, fun u hu => by simp at hu; subst hu; exact h1⟩
  cases d with
  | any => cases h
  | tuple ds => cases h
  | dat t x =>
    simp only [TV.cellsT] at h
    cases ha : t.isAgg <;> rw [ha] at h <;> simp only [cond_true, cond_false] at h
    · cases h
      have h0 := hv.atom ha
      have h1 := h0.one v (by simp)
      refine one hv h1 ?_
      cases v <;> first | rfl | cases h1
    · obtain ⟨vs, rfl, h0⟩ := hv.aggr ha
      exact ⟨flatN_sound hE 4 t x h0 h, fun u hu => h0.one u (by simpa [Value.cells] using hu)⟩
  | agg ds =>
    cases h
    simp only [VT] at hv
    obtain ⟨vs, rfl, h1, h2⟩ := hv
    exact ⟨h2, h1⟩
  | cel t x off =>
    cases h
    have hv' := hv
    simp only [VT] at hv'
    obtain ⟨b, o, c, rfl, -⟩ := hv'
    exact one hv rfl rfl
  | ptr r off =>
    cases h
    have hv' := hv
    simp only [VT] at hv'
    obtain ⟨b, rfl, -⟩ := hv'
    exact one hv rfl rfl
  | optr c r off =>
    cases h
    have hv' := hv
    cases c <;> simp only [VT] at hv'
    · subst hv'; exact one hv rfl rfl
    · obtain ⟨b, rfl, -⟩ := hv'
      exact one hv rfl rfl
  | mref r =>
    cases h
    have hv' := hv
    simp only [VT] at hv'
    obtain ⟨b, rfl, -⟩ := hv'
    exact one hv rfl rfl
  | gsl j ver t xs =>
    cases h
    have hv' := hv
    simp only [VT] at hv'
    have h1 := hv'.1.one
    refine one hv h1 ?_
    cases v <;> first | rfl | cases h1
  | sdp j ver l => cases h
  | func fn caps =>
    cases h
    have hv' := hv
    simp only [VT] at hv'
    obtain ⟨vs, rfl, -⟩ := hv'
    exact one hv rfl rfl
  | iface ty d =>
    cases h
    have hv' := hv
    simp only [VT] at hv'
    obtain ⟨u, rfl, -⟩ := hv'
    exact one hv rfl rfl
  | val u =>
    simp only [TV.cellsT] at h
    have hv' := hv
    simp only [VT] at hv'
    subst hv'
    cases ho : v.oneCell' <;> rw [ho] at h <;> simp only [cond_true, cond_false] at h
    · cases h
    · cases h
      refine one hv ho ?_
      cases v <;> first | rfl | cases ho

/-- The part of a row of abstract cells that a load takes; ty: the code of the type, if it is to be data. -/
def partC (E : TEnv) (ty : Option Ty) (cs : List (TV E)) (agg : Bool) (size off : Nat) : Option (TV E) :=
  cond agg
    (cond (Nat.ble (off + size) cs.length)
      (match ty with
        | none => some (.agg ((cs.drop off).take size))
        | some t => match rebN E 4 t ((cs.drop off).take size) with
          | some (x, []) => cond t.isAgg (some (.dat t x)) none
          | _ => some (.agg ((cs.drop off).take size)))
      none)
    cs[off]?

theorem partC_sound (hE : E.Ok) {ty : Option Ty} {cs : List (TV E)} {vs : List Value} {agg : Bool} {size off : Nat} {d : TV E} (hv : VTs E w G cs vs) (h1 : ∀ u, u ∈ vs → u.oneCell' = true)
    (h : partC E ty cs agg size off = some d) : Part E w G vs agg size off d := by
  unfold partC at h
  unfold Part
  cases agg <;> simp only [cond_true, cond_false] at h ⊢
  · exact hv.get off h
  · cases hb : Nat.ble (off + size) cs.length <;> rw [hb] at h <;> simp only [cond_true, cond_false] at h
    · cases h
    have hle := Nat.le_of_ble_eq_true hb
    refine ⟨by rw [hv.length]; exact hle, ?_⟩
    have hp := (hv.drop off).take size
    have hagg : VT E w G (.agg ((cs.drop off).take size)) (.agg ((vs.drop off).take size).toArray) := by
      simp only [VT]
      refine ⟨_, rfl, fun u hu => h1 u ?_, by simpa using hp⟩
      simp only [List.mem_toArray] at hu
      exact List.mem_of_mem_drop (List.mem_of_mem_take hu)
    split at h
    · cases h; exact hagg
    · rename_i t
      split at h
      · rename_i x hx
        cases ha : t.isAgg <;> rw [ha] at h <;> simp only [cond_true, cond_false] at h
        · cases h
        · cases h
          obtain ⟨us, ts, e, h2, h3⟩ := rebN_sound hE 4 t hp hx
          simp only [VTs] at h3
          subst h3
          rw [e, List.append_nil]
          simp only [VT, ha]
          exact ⟨_, rfl, by simpa using h2⟩
      · cases h; exact hagg
end

end Go.RT
