/-
  RT, part 22: maps of plain keys and values.
-/
import Derived.Test.YtnbdahlceddihaaDoorR21
namespace Go.RT
set_option linter.unusedVariables false
open Go.MapKept

variable {E : TEnv}

def mset {α β : Type} (eq : α → α → Bool) (m : List (α × β)) (k : α) (v : β) : List (α × β) :=
  bif m.any (fun p => eq p.1 k) then m.map (fun p => bif eq p.1 k then (k, v) else p) else m ++ [(k, v)]
def mget {α β : Type} (eq : α → α → Bool) (m : List (α × β)) (k : α) (z : β) : β := match m.find? (fun p => eq p.1 k) with | some p => p.2 | none => z
def mhas {α β : Type} (eq : α → α → Bool) (m : List (α × β)) (k : α) : Bool := m.any (fun p => eq p.1 k)

def Ty.keyV (E : TEnv) : (t : Ty) → t.den E.D → Value
  | .str, l => mkStr l
  | .int k, n => .int k n
  | .bool, b => .bool b
  | _, _ => undef
def Ty.keq (E : TEnv) : (t : Ty) → t.den E.D → t.den E.D → Bool
  | .str, a, b => a == b
  | .int _, a, b => a == b
  | .bool, a, b => a == b
  | _, _, _ => false
/-- Plain keys of a type. -/
def keyD : Ty → TypeDesc → Bool
  | .str, .string => true
  | .int k, .int k' => decide (k = k')
  | .bool, .bool => true
  | _, _ => false

section
variable {t : Ty} {d : TypeDesc}
theorem VT_key (h : keyD t d = true) {w : World} {G : Ghost} {k : t.den E.D} {v : Value} (hv : VT E w G (.dat t k) v) : v = t.keyV E k := by
  unfold keyD at h
  split at h <;> try (cases h; done)
  · exact hv.str_inv
  · exact hv.int_inv
  · exact hv.bool_inv
theorem VT_ofKey (h : keyD t d = true) (w : World) (G : Ghost) (k : t.den E.D) : VT E w G (.dat t k) (t.keyV E k) := by
  unfold keyD at h
  split at h <;> try (cases h; done)
  · exact .str w G _
  · exact .int w G _ _
  · exact .bool w G _
theorem isKey_keyV (h : keyD t d = true) (k : t.den E.D) : IsKey d (t.keyV E k) := by
  unfold keyD at h
  split at h <;> try (cases h; done)
  · trivial
  · simp at h; subst h; rfl
  · trivial
theorem keyV_inj (h : keyD t d = true) {a b : t.den E.D} (e : t.keyV E a = t.keyV E b) : a = b := by
  unfold keyD at h
  split at h <;> try (cases h; done)
  · simpa [Ty.keyV, mkStr] using e
  · simpa [Ty.keyV] using e
  · simpa [Ty.keyV] using e
theorem keq_iff (h : keyD t d = true) {a b : t.den E.D} : t.keq E a b = true ↔ a = b := by
  unfold keyD at h
  split at h <;> try (cases h; done)
  · exact beq_iff_eq
  · exact beq_iff_eq
  · exact beq_iff_eq
end

section
variable {P : Program} {w0 w w' : World} {G0 G G' : Ghost} {st : TS E} {a : Act} {o : Oper} {kt vt : Ty} {d : TypeDesc} {m : List (kt.den E.D × vt.den E.D)}

theorem MapRel.length : ∀ {es : List MapEntry} {m : List (kt.den E.D × vt.den E.D)}, MapRel E w G kt vt es m → es.length = m.length
  | [], [], _ => rfl
  | _ :: _, _ :: _, h => by simp [MapRel.length h.2.2]
  | [], _ :: _, h => h.elim
  | _ :: _, [], h => h.elim
theorem MapRel.get : ∀ {es : List MapEntry} {m : List (kt.den E.D × vt.den E.D)} (j : Nat) {e : MapEntry}, MapRel E w G kt vt es m → es[j]? = some e → ∃ p, m[j]? = some p ∧ VT E w G (.dat kt p.1) e.key ∧ VT E w G (.dat vt p.2) e.val
  | [], [], _, _, _, h => by simp at h
  | e :: es, p :: ps, 0, x, h, hj => by simp at hj; subst hj; exact ⟨p, rfl, h.1, h.2.1⟩
  | e :: es, p :: ps, j + 1, x, h, hj => by simpa using MapRel.get j h.2.2 (by simpa using hj)
  | [], _ :: _, _, _, h, _ => h.elim
  | _ :: _, [], _, _, h, _ => h.elim
theorem MapRel.get' : ∀ {es : List MapEntry} {m : List (kt.den E.D × vt.den E.D)} (j : Nat) {p : kt.den E.D × vt.den E.D}, MapRel E w G kt vt es m → m[j]? = some p → ∃ e, es[j]? = some e ∧ VT E w G (.dat kt p.1) e.key ∧ VT E w G (.dat vt p.2) e.val
  | [], [], _, _, _, h => by simp at h
  | e :: es, p :: ps, 0, x, h, hj => by simp at hj; subst hj; exact ⟨e, rfl, h.1, h.2.1⟩
  | e :: es, p :: ps, j + 1, x, h, hj => by simpa using MapRel.get' j h.2.2 (by simpa using hj)
  | [], _ :: _, _, _, h, _ => h.elim
  | _ :: _, [], _, _, h, _ => h.elim
theorem MapRel.append : ∀ {es : List MapEntry} {m : List (kt.den E.D × vt.den E.D)} {e : MapEntry} {p : kt.den E.D × vt.den E.D}, MapRel E w G kt vt es m → VT E w G (.dat kt p.1) e.key → VT E w G (.dat vt p.2) e.val → MapRel E w G kt vt (es ++ [e]) (m ++ [p])
  | [], [], _, _, _, h1, h2 => ⟨h1, h2, trivial⟩
  | _ :: _, _ :: _, _, _, h, h1, h2 => ⟨h.1, h.2.1, MapRel.append h.2.2 h1 h2⟩
  | [], _ :: _, _, _, h, _, _ => h.elim
  | _ :: _, [], _, _, h, _, _ => h.elim
theorem MapRel.set : ∀ {es : List MapEntry} {m : List (kt.den E.D × vt.den E.D)} (j : Nat) {e : MapEntry} {p : kt.den E.D × vt.den E.D}, MapRel E w G kt vt es m → VT E w G (.dat kt p.1) e.key → VT E w G (.dat vt p.2) e.val → MapRel E w G kt vt (es.set j e) (m.set j p)
  | [], [], _, _, _, _, _, _ => trivial
  | _ :: _, _ :: _, 0, _, _, h, h1, h2 => ⟨h1, h2, h.2.2⟩
  | _ :: _, _ :: _, j + 1, _, _, h, h1, h2 => ⟨h.1, h.2.1, MapRel.set j h.2.2 h1 h2⟩
  | [], _ :: _, _, _, _, h, _, _ => h.elim
  | _ :: _, [], _, _, _, h, _, _ => h.elim

/-- Looking for a key. -/
theorem map_find (K : keyD kt d = true) {es : Array MapEntry} (h : MapRel E w G kt vt es.toList m) (k : kt.den E.D) :
    (Instr.findNow d (kt.keyV E k) es.toList 0 = some none ∧ m.any (fun p => kt.keq E p.1 k) = false ∧ ∀ x ∈ es.toList, x.key ≠ kt.keyV E k) ∨
    ∃ j e p, Instr.findNow d (kt.keyV E k) es.toList 0 = some (some (j, e.val)) ∧ es[j]? = some e ∧ e.key = kt.keyV E k ∧ m[j]? = some p ∧ p.1 = k ∧ VT E w G (.dat vt p.2) e.val := by
  have hkey : ∀ x ∈ es.toList, ∃ p ∈ m, x.key = kt.keyV E p.1 := fun x hx => by
    obtain ⟨j, hj, rfl⟩ := List.getElem_of_mem hx
    obtain ⟨p, hp, h1, -⟩ := h.get j (List.getElem?_eq_getElem hj)
    exact ⟨p, List.mem_of_getElem? hp, VT_key K h1⟩
  rcases findNow_spec (isKey_keyV K k) es.toList 0 (fun x hx => by obtain ⟨p, -, hk⟩ := hkey x hx; rw [hk]; exact isKey_keyV K _) with ⟨h1, h2⟩ | ⟨j, e, h1, h2, h3⟩
  · refine .inl ⟨h1, ?_, h2⟩
    apply Bool.eq_false_iff.2
    intro ha
    obtain ⟨p, hp, he⟩ := List.any_eq_true.1 ha
    obtain ⟨j, hj, rfl⟩ := List.getElem_of_mem hp
    obtain ⟨x, hx, hk, -⟩ := h.get' j (List.getElem?_eq_getElem hj)
    exact h2 x (List.mem_of_getElem? hx) (by rw [VT_key K hk, (keq_iff K).1 he])
  · have hj : es[j]? = some e := by simpa using h2
    obtain ⟨p, hp, hk, hv⟩ := h.get j h2
    exact .inr ⟨j, e, p, by simpa using h1, hj, h3, hp, keyV_inj K ((VT_key K hk).symm.trans h3), hv⟩

theorem map_nodup (K : keyD kt d = true) {es : Array MapEntry} {clock : Nat} (hs : Stamped es clock) (h : MapRel E w G kt vt es.toList m) : (m.map (·.1)).Nodup := by
  have h3 := hs.2.2
  have : es.toList.map (·.key) = (m.map (·.1)).map (kt.keyV E) := by
    apply List.ext_getElem (by simp [h.length])
    intro j h1 h2
    have hj : j < es.toList.length := by simpa using h1
    obtain ⟨p, hp, hk, -⟩ := h.get j (List.getElem?_eq_getElem hj)
    have hjm : j < m.length := (List.getElem?_eq_some_iff.1 hp).1
    have : m[j] = p := by rw [List.getElem?_eq_getElem hjm] at hp; exact Option.some.inj hp
    simp only [List.getElem_map, this]
    exact VT_key K hk
  rw [this] at h3
  exact (List.pairwise_map.1 h3).imp fun hne he => hne (by rw [he])

theorem mset_at (K : keyD kt d = true) (hn : (m.map (·.1)).Nodup) {j : Nat} {p : kt.den E.D × vt.den E.D} (hj : m[j]? = some p) {k : kt.den E.D} (hk : p.1 = k) (v : vt.den E.D) : mset (kt.keq E) m k v = m.set j (k, v) := by
  have hany : m.any (fun p => kt.keq E p.1 k) = true := List.any_eq_true.2 ⟨p, List.mem_of_getElem? hj, (keq_iff K).2 hk⟩
  unfold mset
  rw [hany, cond_true]
  have hjl : j < m.length := (List.getElem?_eq_some_iff.1 hj).1
  have hpj : m[j] = p := by rw [List.getElem?_eq_getElem hjl] at hj; exact Option.some.inj hj
  apply List.ext_getElem (by simp)
  intro q h1 h2
  have hq : q < m.length := by simpa using h1
  rw [List.getElem_map, List.getElem_set]
  by_cases hqj : j = q
  · subst hqj
    rw [if_pos rfl, hpj, (keq_iff K).2 hk, cond_true]
  · rw [if_neg hqj]
    have hne : kt.keq E m[q].1 k = false := by
      apply Bool.eq_false_iff.2
      intro he
      have he' := (keq_iff K).1 he
      have := (List.pairwise_iff_getElem.1 hn)
      rcases Nat.lt_or_gt_of_ne hqj with hlt | hlt
      · exact this j q (by simpa using hjl) (by simpa using hq) hlt (by simp [hpj, hk, he'])
      · exact this q j (by simpa using hq) (by simpa using hjl) hlt (by simp [hpj, hk, he'])
    rw [hne, cond_false]

theorem map_update {b : Nat} {t k e : TypeId} {es : Array MapEntry} {clock : Nat} (K : keyD kt d = true) (hm : P.underlying t = some (.map k e)) (hd : P.underlying k = some d) (hb : w.heap[b]? = some (.map es clock)) (hs : Stamped es clock) (h : MapRel E w G kt vt es.toList m)
    (x : kt.den E.D) (v : vt.den E.D) {vv : Value} (hv : VT E w G (.dat vt v) vv) :
    ∃ es' clock', (Instr.mapUpdate t (.map (some b)) (kt.keyV E x) vv).run P w = .ok () { w with heap := w.heap.setIfInBounds b (.map es' clock') } ∧ Stamped es' clock' ∧ MapRel E w G kt vt es'.toList (mset (kt.keq E) m x v) := by
  rcases map_find K h x with ⟨h1, h2, h3⟩ | ⟨j, e, p, h1, hj, h3, hp, hpk, hvv⟩
  · refine ⟨es.push ⟨kt.keyV E x, vv, clock⟩, clock + 1, ?_, stamped_push hs h3, ?_⟩
    · simp [Instr.mapUpdate, run_underlying hm, MapKept.run_getObj_map hb, MapKept.run_checkKey hd (isKey_keyV K x), MapKept.run_findKey hd h1, MapKept.run_setObj_map _ hb, Result.andThen]
    · unfold mset
      rw [h2, cond_false, Array.toList_push]
      exact h.append (VT_ofKey K w G x) hv
  · refine ⟨es.modify j fun e => { e with key := kt.keyV E x, val := vv }, clock, ?_, stamped_modify hs _ _ (fun _ _ => rfl) (fun e' _ he' => by rw [hj] at he'; cases he'; exact h3.symm), ?_⟩
    · simp [Instr.mapUpdate, run_underlying hm, MapKept.run_getObj_map hb, MapKept.run_checkKey hd (isKey_keyV K x), MapKept.run_findKey hd h1, hj, h3, MapKept.run_keyThatStays (isKey_keyV K x), MapKept.run_setObj_map _ hb, Result.andThen]
    · rw [mset_at K (map_nodup K hs h) hp hpk v]
      have : (es.modify j fun e => { e with key := kt.keyV E x, val := vv }).toList = es.toList.set j { e with key := kt.keyV E x, val := vv } := by
        apply List.ext_getElem (by simp)
        intro q h1 h2
        simp only [Array.getElem_toList, Array.getElem_modify, List.getElem_set]
        by_cases hqj : j = q
        · subst hqj
          obtain ⟨hjl, hje⟩ := Array.getElem?_eq_some_iff.1 hj
          simp [hje]
        · simp [hqj]
      rw [this]
      exact h.set j (VT_ofKey K w G x) hv

theorem map_look {b : Nat} {t k e : TypeId} {es : Array MapEntry} {clock : Nat} {z : vt.den E.D} {zv : Value} (K : keyD kt d = true) (hm : P.underlying t = some (.map k e)) (hd : P.underlying k = some d) (hz : ∀ w, (zeroValue e).run P w = .ok zv w) (hzv : VT E w G (.dat vt z) zv)
    (hb : w.heap[b]? = some (.map es clock)) (hs : Stamped es clock) (h : MapRel E w G kt vt es.toList m) (x : kt.den E.D) (c : Bool) :
    ∃ u, VT E w G (.dat vt (mget (kt.keq E) m x z)) u ∧ (Instr.lookup t (.map (some b)) (kt.keyV E x) c).run P w = .ok (if c then .tuple #[u, .bool (mhas (kt.keq E) m x)] else u) w := by
  rcases map_find K h x with ⟨h1, h2, h3⟩ | ⟨j, en, p, h1, hj, h3, hp, hpk, hv⟩
  · have hf : m.find? (fun p => kt.keq E p.1 x) = none := by
      rw [List.find?_eq_none]
      intro p hp he
      have := List.any_eq_false.1 h2 p hp
      exact this he
    have hg : mget (kt.keq E) m x z = z := by unfold mget; rw [hf]
    rw [hg]
    unfold mhas
    rw [h2]
    refine ⟨zv, hzv, ?_⟩
    simp [Instr.lookup, run_underlying hm, MapKept.run_getObj_map hb, MapKept.run_checkKey hd (isKey_keyV K x), MapKept.run_findKey hd h1, hz, Result.andThen]
  · have hf : m.find? (fun p => kt.keq E p.1 x) = some p := by
      obtain ⟨hjl, hjp⟩ := List.getElem?_eq_some_iff.1 hp
      rw [List.find?_eq_some_iff_getElem]
      refine ⟨(keq_iff K).2 hpk, j, hjl, hjp, fun q hq => ?_⟩
      have hn := List.pairwise_iff_getElem.1 (map_nodup K hs h) q j (by simp; omega) (by simpa using hjl) hq
      simp only [List.getElem_map, hjp, hpk] at hn
      cases hb : kt.keq E m[q].1 x with
      | false => rfl
      | true => exact (hn ((keq_iff K).1 hb)).elim
    have hg : mget (kt.keq E) m x z = p.2 := by unfold mget; rw [hf]
    have hany : mhas (kt.keq E) m x = true := List.any_eq_true.2 ⟨p, List.mem_of_getElem? hp, (keq_iff K).2 hpk⟩
    rw [hg, hany]
    refine ⟨en.val, hv, ?_⟩
    simp [Instr.lookup, run_underlying hm, MapKept.run_getObj_map hb, MapKept.run_checkKey hd (isKey_keyV K x), MapKept.run_findKey hd h1, Result.andThen]

theorem does_makeMap (hr : Rel E w0 G0 st a w G) {t : TypeId} (ho : o.op = .makeMap t none) (kt vt : Ty) :
    Does P w0 G0 a w o { st with t := setT st.t o.dst (.mref st.H.length), H := st.H ++ [.map kt vt []] } := by
  have hN := hr.newBox (.map #[] 0) (.map kt vt []) ⟨#[], 0, (MapKept.heap_alloc w _).1, stamped_empty 0, trivial⟩
  refine ⟨.value (.map (some w.heap.size)), _, _, _, ?_, .inl rfl, hN.put (d := .mref st.H.length) ?_ o.dst⟩
  · simp [execOp, ho, Instr.makeMap]
  · simp only [VT]
    refine ⟨_, rfl, ?_⟩
    rw [← hr.boxes.len]; simp

theorem does_mapUpdate (hr : Rel E w0 G0 st a w G) {t k e : TypeId} {x y z : Operand} (ho : o.op = .mapUpdate t x y z) {j1 j2 : Nat} {zz : Value} (hm : tinfo P t = some ⟨.map k e, j1, j2, zz⟩) {ik : TI} (hk : tinfo P k = some ik) (K : keyD kt ik.kind = true)
    {r : Nat} (hx : st.ev x = .mref r) (hb : st.H[r]? = some (.map kt vt m)) {kk : kt.den E.D} {vv : vt.den E.D} (hy : (st.ev y).get kt = some kk) (hz : (st.ev z).get vt = some vv) :
    Does P w0 G0 a w o { st with t := setT st.t o.dst .any, H := st.H.set r (.map kt vt (mset (kt.keq E) m kk vv)), d := r :: st.d } := by
  obtain ⟨_, _, hum, -⟩ := tinfo_some hm
  obtain ⟨_, _, huk, -⟩ := tinfo_some hk
  have hvx := hr.ev x
  rw [hx] at hvx
  simp only [VT] at hvx
  obtain ⟨b, he, hat⟩ := hvx
  obtain ⟨es, clock, hh, hs, hmr⟩ := hr.box hat hb
  have hvk := VT_key K (TV.get_vt hy (hr.ev y))
  obtain ⟨es', clock', hrun, hs', hmr'⟩ := map_update (P := P) K hum huk hh hs hmr kk vv (TV.get_vt hz (hr.ev z))
  have hR := hr.setBox (w' := { w with heap := w.heap.setIfInBounds b (.map es' clock') }) hat (by simp) rfl rfl rfl (fun b' hb' => (MapKept.heap_set hh).2 b' hb') (x := .map kt vt (mset (kt.keq E) m kk vv))
    (fun hg => ⟨es', clock', (MapKept.heap_set hh).1, hs', hmr'.mono hg⟩)
  refine ⟨_, undef, _, G, ?_, .inr ⟨rfl, rfl⟩, hR.put (v := undef) (by simp only [VT]) o.dst⟩
  simp only [execOp, ho, he, hvk, Sem.run_bind, hrun, Result.andThen_ok, Sem.run_pure]

theorem does_lookup (hE : E.Ok) (hr : Rel E w0 G0 st a w G) {t k e : TypeId} {x y : Operand} {ok : Bool} (ho : o.op = .lookup t x y ok) {j1 j2 : Nat} {zz : Value} (hm : tinfo P t = some ⟨.map k e, j1, j2, zz⟩) {ik ie : TI} (hk : tinfo P k = some ik) (he' : tinfo P e = some ie) (K : keyD kt ik.kind = true)
    (hzo : ie.zero.cells.toList.all (·.oneCell') = true) {r : Nat} (hx : st.ev x = .mref r) (hb : st.H[r]? = some (.map kt vt m)) {kk : kt.den E.D} (hy : (st.ev y).get kt = some kk) {z : vt.den E.D} (hz : (zeroTV E (some vt) ie.zero).get vt = some z) :
    Does P w0 G0 a w o { st with t := setT st.t o.dst (cond ok (.tuple [.dat vt (mget (kt.keq E) m kk z), .dat .bool (mhas (kt.keq E) m kk)]) (.dat vt (mget (kt.keq E) m kk z))) } := by
  obtain ⟨_, _, hum, -⟩ := tinfo_some hm
  obtain ⟨_, _, huk, -⟩ := tinfo_some hk
  have hvx := hr.ev x
  rw [hx] at hvx
  simp only [VT] at hvx
  obtain ⟨b, he, hat⟩ := hvx
  obtain ⟨es, clock, hh, hs, hmr⟩ := hr.box hat hb
  have hvk := VT_key K (TV.get_vt hy (hr.ev y))
  obtain ⟨u, hu, hrun⟩ := map_look (P := P) K hum huk (fun w => run_zeroValue' he' w) (TV.get_vt hz (VT_zero hE hzo)) hh hs hmr kk ok
  refine ⟨_, _, w, G, ?_, .inl rfl, hr.put (v := if ok then .tuple #[u, .bool (mhas (kt.keq E) m kk)] else u) ?_ o.dst⟩
  · simp only [execOp, ho, he, hvk, Sem.run_bind, hrun, Result.andThen_ok, Sem.run_pure]
  · cases ok
    · exact hu
    · simp only [cond_true, if_true, VT]
      exact ⟨_, rfl, .cons hu (.cons (.bool _ _ _) .nil)⟩

theorem does_mapLen (hr : Rel E w0 G0 st a w G) {c : Call} {x : Operand} {t k e : TypeId} {j1 j2 : Nat} {zz : Value} (ho : o.op = .call c) (hcl : c.callee = .builtin .len) (ha : c.args.toList = [x]) (hat' : c.argTypes.toList = [t]) (hm : tinfo P t = some ⟨.map k e, j1, j2, zz⟩)
    {r : Nat} (hx : st.ev x = .mref r) (hb : st.H[r]? = some (.map kt vt m)) : Does P w0 G0 a w o { st with t := setT st.t o.dst (.dat (.int .i64) (m.length : Int)) } := by
  obtain ⟨_, _, hum, -⟩ := tinfo_some hm
  have hvx := hr.ev x
  rw [hx] at hvx
  simp only [VT] at hvx
  obtain ⟨b, he, hat⟩ := hvx
  obtain ⟨es, clock, hh, hs, hmr⟩ := hr.box hat hb
  have ha1 : c.args = #[x] := by rw [← Array.toArray_toList (xs := c.args), ha]
  have ha2 : c.argTypes = #[t] := by rw [← Array.toArray_toList (xs := c.argTypes), hat']
  refine ⟨.value (.int .i64 m.length), _, w, G, ?_, .inl rfl, hr.put (.int _ _ _ _) o.dst⟩
  unfold execOp
  simp only [ho, resolve, hcl, Sem.run_bind, Sem.run_pure, Result.andThen_ok, invoke, builtin, ha1, ha2, List.map_toArray, List.map_cons, List.map_nil]
  rw [he]
  have hl : es.size = m.length := by simpa using hmr.length
  simp [Builtin.len_, run_underlying hum, MapKept.run_getObj_map hh, goInt, hl, Result.andThen]
end

end Go.RT
