/-
  RT, part 8: fields, elements, lengths, slices of strings and of lists.
-/
import Derived.Test.YtnbdahlceddihaaDoorR7
namespace Go.RT
set_option linter.unusedVariables false

variable {E : TEnv}

theorem VD.slice_inv {w : World} {pr : Nat → Nat → Prop} {v : Value} {k : Nat} {es : List (List DV)} (h : VD w pr v (.slice k es)) :
    (∃ a, v = .slice a 0 0 ∧ es = []) ∨ ∃ (b off cap : Nat) (c : Nat → Nat → Value), v = .slice (some ⟨b, off, none⟩) es.length cap ∧ es.length ≤ cap ∧
      (∀ j, j < es.length → (es.getD j []).length = k) ∧
      (∀ j l, j < es.length → l < k → pr b (off + j * k + l) ∧ w.cell? ⟨b, off + j * k + l, none⟩ = some (c j l)) ∧
      (∀ j l, j < es.length → l < k → VD w pr (c j l) ((es.getD j []).getD l default)) := by
  cases h with
  | nils a k => exact .inl ⟨a, rfl, rfl⟩
  | slice b off cap k es c hc hk h0 h => exact .inr ⟨b, off, cap, c, rfl, hc, hk, h0, h⟩

/-- A value that reads as a list. -/
inductive AsList : TV E → (T : Ty) → List (T.den E.D) → Prop
  | dat (T : Ty) (xs : List (T.den E.D)) : AsList (.dat (.lst T) xs) T xs
  | gsl (j ver : Nat) (T : Ty) (xs : List (T.den E.D)) : AsList (.gsl j ver T xs) T xs

theorem AsList.vd {w : World} {G : Ghost} {d : TV E} {T : Ty} {xs : List (T.den E.D)} {v : Value} (h : AsList d T xs) (hv : VT E w G d v) :
    VD w G.pr v (.slice (T.size E) (xs.map (T.cells E))) := by
  cases h with
  | dat => exact (hv.atom rfl).of_single
  | gsl => simp only [VT] at hv; exact hv.1

theorem VT.list {w : World} {G : Ghost} {T : Ty} {xs : List (T.den E.D)} {v : Value} (h : VD w G.pr v (.slice (T.size E) (xs.map (T.cells E)))) : VT E w G (.dat (.lst T) xs) v :=
  .of_atom rfl (.single h)

theorem LD.of_getD {w : World} {pr : Nat → Nat → Prop} : ∀ {vs : List Value} {ds : List DV}, vs.length = ds.length → (∀ l, l < ds.length → VD w pr (vs.getD l undef) (ds.getD l default)) → LD w pr vs ds
  | [], [], _, _ => trivial
  | v :: vs, d :: ds, hl, h => ⟨by simpa using h 0 (by simp), LD.of_getD (by simpa using hl) fun l hl' => by simpa using h (l + 1) (by simpa using hl')⟩
  | [], _ :: _, hl, _ => by simp at hl
  | _ :: _, [], hl, _ => by simp at hl

section
variable {P : Program} {w0 : World} {G0 : Ghost} {st : TS E} {a : Act} {w : World} {G : Ghost} {o : Oper}

theorem gives_index (hr : Rel E w0 G0 st a w G) {t : TypeId} {x ix : Operand} {i : TI} {e : TypeId} {j1 j2 : Nat} {z : Value} (ho : o.op = .indexAddr t x ix)
    (ht : tinfo P t = some ⟨.slice e, j1, j2, z⟩) (hi : tinfo P e = some i) {T : Ty} {xs : List (T.den E.D)} {kd : IntKind} {n : Int} (hd : AsList (st.ev x) T xs)
    (hdi : st.ev ix = .dat (.int kd) n) (h0 : 0 ≤ n) (hn : n < xs.length) (hk : i.size = T.size E) : Gives P a w G o (.cel T (xs.getD n.toNat (T.dflt E)) 0) := by
  have hv := hd.vd (hr.ev x)
  have hvi := hr.ev ix
  rw [hdi] at hvi
  have hie := hvi.int_inv
  have hnl : n.toNat < xs.length := by omega
  rcases hv.slice_inv with ⟨-, -, hnil⟩ | ⟨b, off, cap, c, he, hcap, hkk, hc, h⟩
  · simp at hnil; subst hnil; simp at hnl
  have hes : (xs.map (T.cells E)).getD n.toNat [] = T.cells E (xs.getD n.toNat (T.dflt E)) := by
    simp [List.getD, hnl]
  have hlen : (xs.map (T.cells E)).length = xs.length := by simp
  rw [hlen] at hcap hkk hc h he
  obtain ⟨xe, hxe, hue, hsz, -⟩ := tinfo_some hi
  obtain ⟨xt, hxt, hut, -⟩ := tinfo_some ht
  have hkn := hkk _ hnl
  rw [hes] at hkn
  refine gives_v (f := fun ρ => Instr.indexAt t (ρ x) (ρ ix)) (by simp [execOp, ho]) ⟨.pointer (some ⟨b, off + n.toNat * T.size E + 0, none⟩), ?_, fun w' hs => ?_⟩
  · simp only [VT]
    refine ⟨b, off + n.toNat * T.size E, (List.range (T.size E)).map (c n.toNat), rfl, LD.of_getD (by rw [hkn]; simp) (fun l hl => ?_), fun l u hl => ?_⟩
    · rw [hkn] at hl
      have := h _ l hnl hl
      rw [hes] at this
      simpa [List.getD, hl] using this
    · simp only [List.getElem?_map, Option.map_eq_some_iff] at hl
      obtain ⟨l', hl, rfl⟩ := hl
      obtain ⟨h1, h2⟩ := List.getElem?_eq_some_iff.1 hl
      simp at h1 h2
      subst h2
      exact hc _ _ hnl h1
  · rw [he, hie]
    unfold Instr.indexAt asIntOf
    simp only [Sem.run_bind, Sem.run_pure, Result.andThen_ok, run_underlying' hut]
    have h3 : (0 ≤ n ∧ n < ((xs.length : Nat) : Int)) := ⟨h0, hn⟩
    simp only [h3, and_self, if_true, Sem.run_bind, run_sizeOf' hxe, Result.andThen_ok, Sem.run_pure, add_lit, hsz, hk]
    rfl

theorem gives_str_index (hr : Rel E w0 G0 st a w G) {t : TypeId} {x ix : Operand} {j1 j2 : Nat} {z : Value} (ho : o.op = .index t x ix)
    (ht : tinfo P t = some ⟨.string, j1, j2, z⟩) {l : List UInt8} {kd : IntKind} {n : Int} (hd : st.ev x = .dat .str l) (hdi : st.ev ix = .dat (.int kd) n) (h0 : 0 ≤ n) (hn : n < l.length) :
    Gives (E := E) P a w G o (.dat (.int .u8) ((l.getD n.toNat 0).toNat : Int)) := by
  have hv := hr.ev x
  rw [hd] at hv
  have hvi := hr.ev ix
  rw [hdi] at hvi
  obtain ⟨xt, hxt, hut, -⟩ := tinfo_some ht
  have hnl : n.toNat < l.length := by omega
  refine gives_v (f := fun ρ => Instr.index t (ρ x) (ρ ix)) (by simp [execOp, ho]) ⟨_, .int _ _ _ _, fun w' hs => ?_⟩
  rw [hv.str_inv, hvi.int_inv]
  unfold Instr.index asIntOf mkStr
  simp only [Sem.run_bind, Sem.run_pure, Result.andThen_ok, run_underlying' hut, h0, if_true]
  have : (ByteArray.mk ⟨l⟩)[n.toNat]? = some (l.getD n.toNat 0) := by
    have hsz : n.toNat < (ByteArray.mk ⟨l⟩).size := hnl
    rw [getElem?_pos (ByteArray.mk ⟨l⟩) n.toNat hsz]
    simp [List.getD, List.getElem?_eq_getElem hnl]
    rfl
  rw [this]
  rfl

theorem gives_field_cel (hr : Rel E w0 G0 st a w G) {s : TypeId} {x : Operand} {f : Nat} {fs : Array Field} {j1 j2 : Nat} {z : Value} {fd : Field} (ho : o.op = .fieldAddr s x f)
    (ht : tinfo P s = some ⟨.struct fs, j1, j2, z⟩) (hf : fs[f]? = some fd) {i : TI} (hi : tinfo P fd.type = some i) (hz : i.size ≠ 0) {T : Ty} {y : T.den E.D} {off : Nat} (hd : st.ev x = .cel T y off) :
    Gives P a w G o (.cel T y (off + fd.offset)) := by
  have hv := hr.ev x
  rw [hd] at hv
  simp only [VT] at hv
  obtain ⟨b, o', c, he, h0, h1⟩ := hv
  obtain ⟨xt, hxt, hut, -⟩ := tinfo_some ht
  obtain ⟨xf, hxf, -, hsf, -⟩ := tinfo_some hi
  refine gives_v (f := fun ρ => Instr.fieldAt s (ρ x) f) (by simp [execOp, ho]) ⟨.pointer (some ⟨b, o' + (off + fd.offset), none⟩), by simp only [VT]; exact ⟨b, o', c, rfl, h0, h1⟩, fun w' hs => ?_⟩
  rw [he]
  unfold Instr.fieldAt Instr.sureAddr
  simp only [Sem.run_bind, Sem.run_pure, Result.andThen_ok, run_underlying' hut, hf]
  simp [fieldPlace, run_sizeOf' hxf, hsf, hz, add_lit, Nat.add_assoc]

theorem gives_field_ptr (hr : Rel E w0 G0 st a w G) {s : TypeId} {x : Operand} {f : Nat} {fs : Array Field} {j1 j2 : Nat} {z : Value} {fd : Field} (ho : o.op = .fieldAddr s x f)
    (ht : tinfo P s = some ⟨.struct fs, j1, j2, z⟩) (hf : fs[f]? = some fd) {i : TI} (hi : tinfo P fd.type = some i) (hz : i.size ≠ 0) {r off : Nat} (hd : st.ev x = .ptr r off) :
    Gives P a w G o (.ptr r (off + fd.offset) : TV E) := by
  have hv := hr.ev x
  rw [hd] at hv
  simp only [VT] at hv
  obtain ⟨b, he, hat⟩ := hv
  obtain ⟨xt, hxt, hut, -⟩ := tinfo_some ht
  obtain ⟨xf, hxf, -, hsf, -⟩ := tinfo_some hi
  refine gives_v (f := fun ρ => Instr.fieldAt s (ρ x) f) (by simp [execOp, ho]) ⟨.pointer (some ⟨b, off + fd.offset, none⟩), by simp only [VT]; exact ⟨b, rfl, hat⟩, fun w' hs => ?_⟩
  rw [he]
  unfold Instr.fieldAt Instr.sureAddr
  simp only [Sem.run_bind, Sem.run_pure, Result.andThen_ok, run_underlying' hut, hf]
  simp [fieldPlace, run_sizeOf' hxf, hsf, hz, add_lit]

theorem gives_field (hr : Rel E w0 G0 st a w G) {s : TypeId} {x : Operand} {f : Nat} {fs : Array Field} {j1 j2 : Nat} {z : Value} {fd : Field} {i : TI} (ho : o.op = .field s x f)
    (ht : tinfo P s = some ⟨.struct fs, j1, j2, z⟩) (hf : fs[f]? = some fd) (hi : tinfo P fd.type = some i) {vs : Array Value} (he : a.eval x = .agg vs) {d : TV E}
    (hp : Part E w G vs.toList i.isAgg i.size fd.offset d) : Gives P a w G o d := by
  obtain ⟨xt, hxt, hut, -⟩ := tinfo_some ht
  obtain ⟨xf, hxf, huf, hsz, -⟩ := tinfo_some hi
  unfold Part at hp
  have hrun : ∃ v, VT E w G d v ∧ ∀ w', (Instr.field s (.agg vs) f).run P w' = .ok v w' := by
    unfold Instr.field asAgg
    simp only [Sem.run_bind, Sem.run_pure, Result.andThen_ok, run_underlying' hut, hf, part, run_isAgg' hi]
    cases hag : i.isAgg <;> rw [hag] at hp <;> simp only [cond_true, cond_false] at hp
    · obtain ⟨u, hu, hv⟩ := hp
      refine ⟨u, hv, fun w' => ?_⟩
      simp at hu
      simp [hu]
    · obtain ⟨hl, hv⟩ := hp
      refine ⟨_, hv, fun w' => ?_⟩
      simp only [if_true, Sem.run_bind, run_sizeOf' hxf, Result.andThen_ok, hsz, Sem.run_pure, Result.ok.injEq, Value.agg.injEq, and_true]
      simp at hl
      apply Array.ext
      · simp; omega
      · intro j h2 h3
        simp at h2 h3
        simp
  obtain ⟨v, hv, hrun⟩ := hrun
  refine gives_v (f := fun ρ => Instr.field s (ρ x) f) (by simp [execOp, ho]) ⟨v, hv, fun w' _ => ?_⟩
  rw [he]
  exact hrun w'
end

end Go.RT
