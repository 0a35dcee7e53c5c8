/-
  RT, part 9: tuples, lengths, slices of strings and of lists.
-/
import Derived.Test.YtnbdahlceddihaaDoorR8
namespace Go.RT
set_option linter.unusedVariables false

variable {E : TEnv}

/-- A bound of a slice expression. -/
def boundT (d : Int) : Option (TV E) → Option Int
  | none => some d
  | some (.dat (.int _) n) => some n
  | some _ => none

section
variable {P : Program} {w0 : World} {G0 : Ghost} {st : TS E} {a : Act} {w : World} {G : Ghost} {o : Oper}

theorem mkStr_extract (l : List UInt8) (x y : Nat) : (ByteArray.mk ⟨l⟩).extract x y = ByteArray.mk ⟨(l.take y).drop x⟩ := by
  apply ByteArray.ext
  rw [ByteArray.data_extract]
  apply Array.ext'
  simp [List.drop_take]

theorem run_bound {k : IntKind} {n : Int} {y : Nat} {code : BoundsCode} (h0 : 0 ≤ n) (h1 : n ≤ y) (w' : World) : (Instr.sliceBound (.int k n) y code).run P w' = .ok n.toNat w' := by
  unfold Instr.sliceBound asIntOf
  simp [h0, h1]

/-- The bounds of a slice expression without a third index. -/
theorem run_bounds {isS : Bool} {len cap : Nat} (hlc : len ≤ cap) {lo hi : Option Value} {x y : Int}
    (hlo : (lo = none ∧ x = 0) ∨ ∃ k, lo = some (.int k x)) (hhi : (hi = none ∧ y = len) ∨ ∃ k, hi = some (.int k y)) (h0 : 0 ≤ x) (h1 : x ≤ y) (h2 : y ≤ len) (w' : World) :
    (Instr.sliceBounds isS len cap lo hi none).run P w' = .ok (x.toNat, y.toNat, cap) w' := by
  unfold Instr.sliceBounds
  have hy : ∀ (k : IntKind) (code : BoundsCode), (Instr.sliceBound (.int k y) cap code).run P w' = .ok y.toNat w' := fun k code => run_bound (by omega) (by omega) w'
  have hx : ∀ (k : IntKind) (code : BoundsCode), (Instr.sliceBound (.int k x) y.toNat code).run P w' = .ok x.toNat w' := fun k code => run_bound h0 (by omega) w'
  rcases hlo with ⟨rfl, rfl⟩ | ⟨k, rfl⟩ <;> rcases hhi with ⟨rfl, rfl⟩ | ⟨k', rfl⟩
  · simp
  · simp [hy]
  · have hx' : ∀ (code : BoundsCode), (Instr.sliceBound (.int k x) len code).run P w' = .ok x.toNat w' := fun code => by simpa using hx k code
    simp [hx']
  · simp [hy, hx]

theorem bound_inv (hr : Rel E w0 G0 st a w G) {lo : Option Operand} {d x : Int} (hb : boundT d (lo.map st.ev) = some x) :
    (lo.map a.eval = none ∧ x = d) ∨ ∃ k, lo.map a.eval = some (.int k x) := by
  cases lo with
  | none => simp [boundT] at hb; exact .inl ⟨rfl, hb.symm⟩
  | some y =>
    have hv := hr.ev y
    simp only [Option.map_some] at hb ⊢
    unfold boundT at hb
    split at hb
    · rename_i he; cases he
    · rename_i k n he
      cases hb
      rw [Option.some.inj he] at hv
      exact .inr ⟨k, by rw [hv.int_inv]⟩
    · cases hb

theorem gives_extract (hr : Rel E w0 G0 st a w G) {x : Operand} {j : Nat} (ho : o.op = .extract x j) {ds : List (TV E)} (hd : st.ev x = .tuple ds) {d : TV E} (hj : ds[j]? = some d) :
    Gives P a w G o d := by
  have hv := hr.ev x
  rw [hd] at hv
  simp only [VT] at hv
  obtain ⟨vs, he, h⟩ := hv
  obtain ⟨u, hu, h⟩ := h.get j hj
  refine gives_v (f := fun ρ => Instr.extract (ρ x) j) (by simp [execOp, ho]) ⟨u, h, fun w' hs' => ?_⟩
  rw [he]
  simp at hu
  simp [Instr.extract, hu]

theorem gives_len_str (hr : Rel E w0 G0 st a w G) {x : Operand} {c : Call} {t : TypeId} {j1 j2 : Nat} {z : Value} (ho : o.op = .call c) (hc : c.callee = .builtin .len) (ha : c.args.toList = [x]) (hat : c.argTypes.toList = [t])
    (ht : tinfo P t = some ⟨.string, j1, j2, z⟩) {l : List UInt8} (hd : st.ev x = .dat .str l) : Gives (E := E) P a w G o (.dat (.int .i64) (l.length : Int)) := by
  have hv := hr.ev x
  rw [hd] at hv
  obtain ⟨xt, hxt, hut, -⟩ := tinfo_some ht
  have ha' : c.args = #[x] := by rw [← Array.toArray_toList (xs := c.args), ha]
  have hat' : c.argTypes = #[t] := by rw [← Array.toArray_toList (xs := c.argTypes), hat]
  refine ⟨_, .int _ _ _ _, fun w' hs => ?_⟩
  unfold execOp
  simp only [ho, resolve, hc, Sem.run_bind, Sem.run_pure, Result.andThen_ok, invoke, builtin, ha', hat', List.map_toArray, List.map_cons, List.map_nil]
  rw [hv.str_inv]
  simp only [Builtin.len_, Sem.run_bind, mkStr, List.getElem?_toArray, List.getElem?_cons_zero, run_underlying' hut, Result.andThen_ok, Sem.run_pure, goInt]
  rfl

/-- The header of what reads as a slice with n elements. -/
theorem gives_len_slice (hr : Rel E w0 G0 st a w G) {x : Operand} {c : Call} {t e : TypeId} {j1 j2 : Nat} {z : Value} (ho : o.op = .call c) (hc : c.callee = .builtin .len) (ha : c.args.toList = [x]) (hat : c.argTypes.toList = [t])
    (ht : tinfo P t = some ⟨.slice e, j1, j2, z⟩) {n : Nat} (hval : ∃ ad cap, a.eval x = .slice ad n cap) : Gives (E := E) P a w G o (.dat (.int .i64) (n : Int)) := by
  obtain ⟨xt, hxt, hut, -⟩ := tinfo_some ht
  have ha' : c.args = #[x] := by rw [← Array.toArray_toList (xs := c.args), ha]
  have hat' : c.argTypes = #[t] := by rw [← Array.toArray_toList (xs := c.argTypes), hat]
  obtain ⟨ad, cap, he⟩ := hval
  refine ⟨_, .int _ _ _ _, fun w' hs => ?_⟩
  unfold execOp
  simp only [ho, resolve, hc, Sem.run_bind, Sem.run_pure, Result.andThen_ok, invoke, builtin, ha', hat', List.map_toArray, List.map_cons, List.map_nil]
  rw [he]
  simp only [Builtin.len_, Sem.run_bind, List.getElem?_toArray, List.getElem?_cons_zero, run_underlying' hut, Result.andThen_ok, Sem.run_pure, goInt]

theorem AsList.header {d : TV E} {T : Ty} {xs : List (T.den E.D)} {v : Value} (h : AsList d T xs) (hv : VT E w G d v) : ∃ ad cap, v = .slice ad xs.length cap := by
  rcases (h.vd hv).slice_inv with ⟨ad, he, hn⟩ | ⟨b, off, cap, c, he, -⟩
  · simp at hn; subst hn; exact ⟨_, _, he⟩
  · simp at he; exact ⟨_, _, he⟩

theorem gives_slice_str (hr : Rel E w0 G0 st a w G) {t : TypeId} {x : Operand} {lo hi : Option Operand} {j1 j2 : Nat} {z : Value} (ho : o.op = .slice t x lo hi none)
    (ht : tinfo P t = some ⟨.string, j1, j2, z⟩) {l : List UInt8} (hd : st.ev x = .dat .str l) {p q : Int} (hp : boundT 0 (lo.map st.ev) = some p) (hq : boundT l.length (hi.map st.ev) = some q)
    (h0 : 0 ≤ p) (h1 : p ≤ q) (h2 : q ≤ l.length) : Gives (E := E) P a w G o (.dat .str ((l.take q.toNat).drop p.toNat)) := by
  have hv := hr.ev x
  rw [hd] at hv
  obtain ⟨xt, hxt, hut, -⟩ := tinfo_some ht
  refine gives_v (f := fun ρ => Instr.sliceAt t (ρ x) (lo.map ρ) (hi.map ρ) none) (by simp [execOp, ho]) ⟨_, .str _ _ _, fun w' hs => ?_⟩
  have hbs := run_bounds (P := P) (isS := false) (Nat.le_refl l.length) (bound_inv hr hp) (bound_inv hr hq) h0 h1 h2 w'
  rw [hv.str_inv]
  unfold Instr.sliceAt
  simp only [Sem.run_bind, run_underlying' hut, Result.andThen_ok]
  unfold Instr.slice mkStr
  have hsz : (ByteArray.mk ⟨l⟩).size = l.length := rfl
  simp only [Sem.run_bind, run_underlying' hut, Result.andThen_ok, Option.isSome_none, Bool.false_eq_true, if_false, hsz, Sem.run_pure, hbs, mkStr_extract]

theorem gives_slice_list (hr : Rel E w0 G0 st a w G) {t e : TypeId} {i : TI} {x : Operand} {lo hi : Option Operand} {j1 j2 : Nat} {z : Value} (ho : o.op = .slice t x lo hi none)
    (ht : tinfo P t = some ⟨.slice e, j1, j2, z⟩) (hi' : tinfo P e = some i) {T : Ty} {xs : List (T.den E.D)} (hd : AsList (st.ev x) T xs) {p q : Int}
    (hp : boundT 0 (lo.map st.ev) = some p) (hq : boundT xs.length (hi.map st.ev) = some q)
    (h0 : 0 ≤ p) (h1 : p ≤ q) (h2 : q ≤ xs.length) (hk : i.size = T.size E) : Gives P a w G o (.dat (.lst T) ((xs.take q.toNat).drop p.toNat)) := by
  have hv := hd.vd (hr.ev x)
  obtain ⟨xt, hxt, hut, -⟩ := tinfo_some ht
  obtain ⟨xe, hxe, hue, hsz, -⟩ := tinfo_some hi'
  have hmap : ((xs.take q.toNat).drop p.toNat).map (T.cells E) = ((xs.map (T.cells E)).take q.toNat).drop p.toNat := by simp
  have hex : ∃ (ad : Option Addr) (cap : Nat), a.eval x = .slice ad xs.length cap ∧ xs.length ≤ cap ∧
      VT E w G (.dat (.lst T) ((xs.take q.toNat).drop p.toNat)) (.slice (if cap = p.toNat then ad else ad.map (·.add (p.toNat * T.size E))) (q.toNat - p.toNat) (cap - p.toNat)) := by
    have hlen0 : (xs.map (T.cells E)).length = xs.length := by simp
    generalize hes : xs.map (T.cells E) = es at hv hmap hlen0
    have hlen : ((es.take q.toNat).drop p.toNat).length = q.toNat - p.toNat := by simp; omega
    rcases hv.slice_inv with ⟨ad0, he, rfl⟩ | ⟨b, off, cap, c, he, hcap, hkk, hc, h⟩
    · simp at hlen0
      have hx0 : xs = [] := List.eq_nil_of_length_eq_zero hlen0.symm
      subst hx0
      simp at h2
      have hp0 : p = 0 := by omega
      have hq0 : q = 0 := by omega
      subst hp0; subst hq0
      exact ⟨ad0, 0, he, Nat.le_refl _, .list (.nils _ _)⟩
    · rw [hlen0] at he hcap
      refine ⟨_, _, he, hcap, .list ?_⟩
      rw [hmap]
      have hgd : ∀ j, j < q.toNat - p.toNat → ((es.take q.toNat).drop p.toNat).getD j [] = es.getD (p.toNat + j) [] := by
        intro j hj
        simp [List.getD, show p.toNat + j < q.toNat by omega]
      rw [← hlen]
      by_cases hcp : cap = p.toNat
      · have hz : ((es.take q.toNat).drop p.toNat) = [] := by
          apply List.eq_nil_of_length_eq_zero; rw [hlen]; omega
        rw [hz, if_pos hcp]
        exact .slice b off (cap - p.toNat) _ [] c (Nat.zero_le _) (fun j hj => by simp at hj) (fun j l hj => by simp at hj) (fun j l hj => by simp at hj)
      · rw [if_neg hcp]
        simp only [Option.map_some, add_lit]
        refine .slice b (off + p.toNat * T.size E) (cap - p.toNat) _ _ (fun j l => c (p.toNat + j) l) (by rw [hlen]; omega) (fun j hj => ?_) (fun j l hj hl => ?_) (fun j l hj hl => ?_)
        all_goals rw [hlen] at hj
        · rw [hgd j hj]; exact hkk _ (by omega)
        · have := hc (p.toNat + j) l (by omega) hl
          rw [Nat.add_mul, ← Nat.add_assoc] at this
          exact this
        · rw [hgd j hj]; exact h _ _ (by omega) hl
  obtain ⟨ad, cap, he, hcap, hV⟩ := hex
  refine gives_v (f := fun ρ => Instr.sliceAt t (ρ x) (lo.map ρ) (hi.map ρ) none) (by simp [execOp, ho]) ⟨_, hV, fun w' hs => ?_⟩
  have hbs := run_bounds (P := P) (isS := true) hcap (bound_inv hr hp) (bound_inv hr hq) h0 h1 h2 w'
  rw [he]
  unfold Instr.sliceAt
  simp only [Sem.run_bind, run_underlying' hut, Result.andThen_ok]
  unfold Instr.slice
  simp only [Sem.run_bind, run_underlying' hut, Result.andThen_ok, hbs, run_sizeOf' hxe, hsz, hk, Sem.run_pure]
end

end Go.RT
