/-
  RT, part 23: the operations that change memory, evaluated on an abstract state, and soundness.
-/
import Derived.Test.YtnbdahlceddihaaDoorR22
namespace Go.RT
set_option linter.unusedVariables false

variable {E : TEnv}

/-- What is appended, as a list. -/
def srcT (T : Ty) (k : TypeDesc) (d : TV E) : Option (List (T.den E.D)) :=
  match k, d with
  | .string, .dat .str l => if h : T = .int .u8 then some (h ▸ toInts l) else none
  | .slice _, d => d.get (.lst T)
  | _, _ => none

def ptrConvOk (P : Program) (src dst t' : TypeId) (n off : Nat) : Bool :=
  match P.underlying src, P.underlying dst with
  | some (.pointer t), some .unsafePointer => match tinfo P t with
    | some i => !(Nat.beq i.size 0) && Nat.blt off n
    | none => false
  | some .unsafePointer, some (.pointer t) => match tinfo P t with
    | some _ => liesAt P P.depth t' (n / P.cellsOf t') off t 1
    | none => false
  | _, _ => false

def isU8 (P : Program) (e : TypeId) : Bool := match tinfo P e with
  | some ⟨.int .u8, _, _, _⟩ => true
  | _ => false

def callM (P : Program) (ty : TypeId → Option Ty) (st : TS E) (dst : Option Nat) (c : Call) : Option (Bool × TS E) :=
  match c.callee, c.args.toList, c.argTypes.toList with
  | .builtin .append, [x, y], [t, tx] => match tinfo P t, tinfo P tx with
    | some ⟨.slice e, _, _, _⟩, some ix => match tinfo P e, ty e with
      | some ie, some T => match srcT T ix.kind (st.ev y) with
        | some ys => match st.ev x with
          | .gsl j ver T' xs => match st.g[j]? with
            | some g => if hT : T' = T then
                some (Nat.beq g.ver ver && (Nat.beq g.e e && (Nat.beq g.k ie.size && (Nat.beq ie.size (T.size E) && (Nat.blt 0 ie.size && (Nat.beq ie.zero.cells.size ie.size &&
                    (decide (xs.length + ys.length ≤ 9223372036854775807) && decide ((xs.length + ys.length) * ie.bytes ≤ 140737488355328))))))),
                  { st with t := setT st.t dst (.gsl j (g.ver + 1) T ((hT ▸ xs : List (T.den E.D)) ++ ys)), g := st.g.set j { g with ver := g.ver + 1 } })
              else none
            | none => none
          | .val (.slice none 0 0) => some (Nat.beq ie.size (T.size E) && (Nat.blt 0 ie.size && (Nat.beq ie.zero.cells.size ie.size && (decide (ys.length ≤ 9223372036854775807) && decide (ys.length * ie.bytes ≤ 140737488355328)))),
              { st with t := setT st.t dst (.gsl st.g.length 1 T ys), g := st.g ++ [⟨1, e, ie.size⟩] })
          | _ => none
        | none => none
      | _, _ => none
    | _, _ => none
  | .builtin .unsafeString, [x, y], [pt, it] => match tinfo P pt, st.ev x, st.ev y with
    | some ⟨.pointer e, _, _, _⟩, .sdp j ver xs, .dat (.int .i64) n => match st.g[j]? with
      | some g => some (Nat.beq (P.cellsOf e) 1 && (Nat.beq g.ver ver && (Nat.beq g.e e && (Nat.beq g.k 1 && (decide (n = (xs.length : Int)) && (byteOk xs && decide (xs.length ≤ 9223372036854775807)))))),
          { st with t := setT st.t dst (.dat .str (toBytes xs)), g := st.g.set j { g with ver := g.ver + 1 } })
      | none => none
    | _, _, _ => none
  | .builtin .len, [x], [t] => match tinfo P t, st.ev x with
    | some ⟨.map _ _, _, _, _⟩, .mref r => match st.H[r]? with
      | some (.map _ _ m) => some (true, { st with t := setT st.t dst (.dat (.int .i64) (m.length : Int)) })
      | _ => none
    | _, _ => none
  | _, _, _ => none

def memT (P : Program) (ty : TypeId → Option Ty) (st : TS E) (dst : Option Nat) : Op → Option (Bool × TS E)
  | .alloc t => match tinfo P t with
    | some i => some (i.zero.cells.toList.all (·.oneCell'), { st with t := setT st.t dst (.ptr st.H.length 0), H := st.H ++ [.cells t (i.zero.cells.toList.map TV.ofV)] })
    | none => none
  | .box t x => match (st.ev x).cellsT with
    | some cs => some (true, { st with t := setT st.t dst (.ptr st.H.length 0), H := st.H ++ [.cells t cs] })
    | none => none
  | .store t x y => match tinfo P t, st.ev x, (st.ev y).cellsT with
    | some i, .ptr r off, some ds => match st.H[r]? with
      | some (.cells t' cs) => some (Nat.beq ds.length i.size && Nat.ble (off + i.size) cs.length, { st with t := setT st.t dst .any, H := st.H.set r (.cells t' (cs.take off ++ ds ++ cs.drop (off + ds.length))), d := r :: st.d })
      | _ => none
    | _, _, _ => none
  | .buildSlice t len parts => match tinfo P t with
    | some ⟨.slice e, _, _, _⟩ => match tinfo P e, ty e with
      | some ie, some T => match getList T (parts.toList.map fun p => st.ev p.2) with
        | some xs => cond (Nat.beq len 0)
            (some (parts.toList.isEmpty, { st with t := setT st.t dst (.dat (.lst T) []) }))
            (some (decide (parts.toList.map (·.1) = List.range len) && (Nat.ble (len * ie.size) 16777216 && (Nat.blt 0 ie.size && Nat.beq ie.size (T.size E))),
              { st with t := setT st.t dst (.gsl st.g.length 0 T xs), g := st.g ++ [⟨0, e, ie.size⟩] }))
        | none => none
      | _, _ => none
    | _ => none
  | .call c => callM P ty st dst c
  | .convert src dt x => match st.ev x with
    | .ptr r off => match st.H[r]? with
      | some (.cells t' cs) => some (ptrConvOk P src dt t' cs.length off, { st with t := setT st.t dst (.ptr r off) })
      | _ => none
    | d => match d.asList, tinfo P src, tinfo P dt with
      | some ⟨.int .u8, xs⟩, some ⟨.slice e, _, _, _⟩, some ⟨.string, _, _, _⟩ => some (isU8 P e, { st with t := setT st.t dst (.dat .str (toBytes xs)) })
      | _, _, _ => none
  | .makeMap t none => match tinfo P t with
    | some ⟨.map k e, _, _, _⟩ => match ty k, ty e with
      | some kt, some vt => some (true, { st with t := setT st.t dst (.mref st.H.length), H := st.H ++ [.map kt vt []] })
      | _, _ => none
    | _ => none
  | .mapUpdate t x y z => match tinfo P t, st.ev x with
    | some ⟨.map k e, _, _, _⟩, .mref r => match st.H[r]?, tinfo P k with
      | some (.map kt vt m), some ik => match (st.ev y).get kt, (st.ev z).get vt with
        | some kk, some vv => some (keyD kt ik.kind, { st with t := setT st.t dst .any, H := st.H.set r (.map kt vt (mset (kt.keq E) m kk vv)), d := r :: st.d })
        | _, _ => none
      | _, _ => none
    | _, _ => none
  | .lookup t x y ok => match tinfo P t, st.ev x with
    | some ⟨.map k e, _, _, _⟩, .mref r => match st.H[r]?, tinfo P k, tinfo P e with
      | some (.map kt vt m), some ik, some ie => match (st.ev y).get kt, (zeroTV E (some vt) ie.zero).get vt with
        | some kk, some z => some (keyD kt ik.kind && ie.zero.cells.toList.all (·.oneCell'),
            { st with t := setT st.t dst (cond ok (.tuple [.dat vt (mget (kt.keq E) m kk z), .dat .bool (mhas (kt.keq E) m kk)]) (.dat vt (mget (kt.keq E) m kk z))) })
        | _, _ => none
      | _, _, _ => none
    | _, _ => none
  | _ => none

section
variable {P : Program} {w0 w w' : World} {G0 G G' : Ghost} {st : TS E} {a : Act} {o : Oper}

theorem srcT_ok (hr : Rel E w0 G0 st a w G) {y : Operand} {tx : TypeId} {ix : TI} (htx : tinfo P tx = some ix) {T : Ty} (hk0 : 0 < T.size E) {ys : List (T.den E.D)} (h : srcT T ix.kind (st.ev y) = some ys) :
    ∃ news, Src P (T.size E) tx (a.eval y) ys.length news w ∧ Flat w G.pr (T.size E) news (ys.map (T.cells E)) := by
  unfold srcT at h
  split at h
  · rename_i l hk hd
    split at h
    · rename_i hT
      subst hT
      cases h
      obtain ⟨news, h1, h2⟩ := src_string hr htx hk hd
      exact ⟨news, by simpa [toInts, Ty.size] using h1, h2⟩
    · cases h
  · rename_i e' hk
    have hv := TV.get_vt h (hr.ev y)
    exact src_list hr htx hk hk0 (hv.atom rfl).of_single
  · cases h

theorem does_buildSlice0 (hr : Rel E w0 G0 st a w G) {t e : TypeId} {parts : Array (Nat × Operand)} {j1 j2 : Nat} {z : Value} {ie : TI} (ho : o.op = .buildSlice t 0 parts) (ht : tinfo P t = some ⟨.slice e, j1, j2, z⟩) (hi : tinfo P e = some ie) (hp : parts.toList = []) (T : Ty) :
    Does P w0 G0 a w o { st with t := setT st.t o.dst (.dat (.lst T) []) } := by
  obtain ⟨xt, hxt, hut, -⟩ := tinfo_some ht
  obtain ⟨xe, hxe, hue, hsz, -⟩ := tinfo_some hi
  have hp' : parts = #[] := by rw [← Array.toArray_toList (xs := parts), hp]
  have hG := hr.grow (Same.alloc w (.cells #[] e)) rfl rfl rfl G.pr (fun _ _ h => h) (fun _ _ _ h => h) (fun b o hp => Nat.lt_of_lt_of_le (hr.boxes.prok b o hp).1 (by simp))
  refine ⟨.value (.slice (some ⟨w.heap.size, 0, none⟩) 0 0), _, w.alloc (.cells #[] e), _, ?_, .inl rfl, hG.put (d := .dat (.lst T) []) (.list (.nils _ _)) o.dst⟩
  simp only [execOp, ho, Instr.buildSlice, Sem.run_bind, run_underlying' hut, Result.andThen_ok, run_sizeOf' hxe, hsz, hp']
  simp [newRow, Instr.fill]
  congr 2
  apply Array.ext <;> simp

theorem memT_sound (hE : E.Ok) (hr : Rel E w0 G0 st a w G) {ty : TypeId → Option Ty} {st' : TS E} {c : Bool} (h : memT P ty st o.dst o.op = some (c, st')) (hc : c = true) : Does P w0 G0 a w o st' := by
  cases ho : o.op <;> rw [ho] at h <;> simp only [memT] at h <;> try (cases h; done)
  case alloc t =>
    split at h <;> try (cases h; done)
    rename_i i hi
    cases h
    exact does_alloc hr ho hi hc
  case box t x =>
    split at h <;> try (cases h; done)
    rename_i cs hcs
    cases h
    exact does_box hE hr ho hcs
  case store t x y =>
    split at h <;> try (cases h; done)
    rename_i i r off ds hi hd hds
    split at h <;> try (cases h; done)
    rename_i t' cs hb
    cases h
    rw [Bool.and_eq_true] at hc
    exact does_store hE hr ho hi hd hb hds (Nat.eq_of_beq_eq_true hc.1) (Nat.le_of_ble_eq_true hc.2)
  case buildSlice t len parts =>
    split at h <;> try (cases h; done)
    rename_i e j1 j2 z ht
    split at h <;> try (cases h; done)
    rename_i ie T hi hT
    split at h <;> try (cases h; done)
    rename_i xs hx
    cases hl : Nat.beq len 0 <;> rw [hl] at h <;> simp only [cond_true, cond_false] at h
    · cases h
      simp only [Bool.and_eq_true, decide_eq_true_eq] at hc
      have h0 : len ≠ 0 := fun e => by subst e; cases hl
      exact does_buildSlice hE hr ho ht hi hc.1 (Nat.le_of_ble_eq_true hc.2.1) (Nat.le_of_ble_eq_true hc.2.2.1) (by omega) (Nat.eq_of_beq_eq_true hc.2.2.2) hx
    · cases h
      obtain rfl := Nat.eq_of_beq_eq_true hl
      exact does_buildSlice0 hr ho ht hi (by simpa using hc) T
  case convert src dt x =>
    split at h
    · rename_i r off hd
      split at h <;> try (cases h; done)
      rename_i t' cs hb
      cases h
      refine does_ptrConv hr ho hd hb ?_
      unfold ptrConvOk at hc
      split at hc <;> try (cases hc; done)
      · rename_i t hs hdt
        split at hc <;> try (cases hc; done)
        rename_i i hi
        simp only [Bool.and_eq_true, Bool.not_eq_true'] at hc
        exact .inl ⟨t, i, hs, hdt, hi, fun e => (by rw [e] at hc; exact absurd hc.1 (by decide)), Nat.le_of_ble_eq_true hc.2⟩
      · rename_i t hs hdt
        split at hc <;> try (cases hc; done)
        rename_i i hi
        exact .inr ⟨t, i, hs, hdt, hi, hc⟩
    · split at h <;> try (cases h; done)
      rename_i xs e j1 j2 z1 j3 j4 z2 hd hs hdt
      cases h
      unfold isU8 at hc
      split at hc <;> try (cases hc; done)
      rename_i j5 j6 z3 he
      exact does_bytesToString hr ho hs hdt he (TV.asList_ok hd)
  case makeMap t res =>
    cases res with
    | some x => simp at h
    | none =>
      simp only at h
      split at h <;> try (cases h; done)
      split at h <;> try (cases h; done)
      cases h
      exact does_makeMap hr ho _ _
  case mapUpdate t x y z =>
    split at h <;> try (cases h; done)
    rename_i k e j1 j2 zz r hm hx
    split at h <;> try (cases h; done)
    rename_i kt vt m ik hb hk
    split at h <;> try (cases h; done)
    rename_i kk vv hy hz
    cases h
    exact does_mapUpdate hr ho hm hk hc hx hb hy hz
  case lookup t x y ok =>
    split at h <;> try (cases h; done)
    rename_i k e j1 j2 zz r hm hx
    split at h <;> try (cases h; done)
    rename_i kt vt m ik ie hb hk he
    split at h <;> try (cases h; done)
    rename_i kk z hy hz
    cases h
    rw [Bool.and_eq_true] at hc
    exact does_lookup hE hr ho hm hk he hc.1 hc.2 hx hb hy hz
  case call c' =>
    unfold callM at h
    split at h <;> try (cases h; done)
    · rename_i x y t tx hcl ha hat
      split at h <;> try (cases h; done)
      rename_i e j1 j2 z ix ht htx
      split at h <;> try (cases h; done)
      rename_i ie T hi hT
      split at h <;> try (cases h; done)
      rename_i ys hys
      split at h <;> try (cases h; done)
      · rename_i j ver T' xs hx
        split at h <;> try (cases h; done)
        rename_i g hg
        split at h <;> try (cases h; done)
        rename_i hTT
        subst hTT
        cases h
        simp only [Bool.and_eq_true, decide_eq_true_eq] at hc
        obtain ⟨c1, c2, c3, c4, c5, c6, c7, c8⟩ := hc
        have c4 := Nat.eq_of_beq_eq_true c4
        have c5 : 0 < ie.size := Nat.le_of_ble_eq_true c5
        obtain ⟨news, q1, q2⟩ := srcT_ok hr htx (by rw [← c4]; exact c5) hys
        rw [← c4] at q1 q2
        exact does_append hE hr ho hcl ha hat ht hi hx hg (Nat.eq_of_beq_eq_true c1) (Nat.eq_of_beq_eq_true c2) (Nat.eq_of_beq_eq_true c3) c4 c5 (Nat.eq_of_beq_eq_true c6) c7 c8 q1 q2
      · rename_i hx
        cases h
        simp only [Bool.and_eq_true, decide_eq_true_eq] at hc
        obtain ⟨c4, c5, c6, c7, c8⟩ := hc
        have c4 := Nat.eq_of_beq_eq_true c4
        have c5 : 0 < ie.size := Nat.le_of_ble_eq_true c5
        obtain ⟨news, q1, q2⟩ := srcT_ok hr htx (by rw [← c4]; exact c5) hys
        rw [← c4] at q1 q2
        exact does_appendNil hE hr ho hcl ha hat ht hi hx c4 c5 (Nat.eq_of_beq_eq_true c6) c7 c8 q1 q2
    · rename_i x y pt it hcl ha hat
      split at h <;> try (cases h; done)
      rename_i e j1 j2 z j ver xs n hp hx hy
      split at h <;> try (cases h; done)
      rename_i g hg
      cases h
      simp only [Bool.and_eq_true, decide_eq_true_eq] at hc
      obtain ⟨c1, c2, c3, c4, c5, c6, c7⟩ := hc
      exact does_unsafeString (j3 := 0) (j4 := 0) (z2 := undef) hr ho hcl ha hat hp (Nat.eq_of_beq_eq_true c1) hx hg (Nat.eq_of_beq_eq_true c2) (Nat.eq_of_beq_eq_true c3) (Nat.eq_of_beq_eq_true c4) hy c5 c6 c7
    · rename_i x t hcl ha hat
      split at h <;> try (cases h; done)
      rename_i k e j1 j2 z r hm hx
      split at h <;> try (cases h; done)
      rename_i kt vt m hb
      cases h
      exact does_mapLen hr ho hcl ha hat hm hx hb
end

end Go.RT
