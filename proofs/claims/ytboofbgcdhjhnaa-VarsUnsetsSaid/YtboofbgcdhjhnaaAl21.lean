/-
  AL, part 21: maps of plain keys and values; functions without a Go body.
-/
import Derived.Test.YtboofbgcdhjhnaaAl20
import Derived.MapKept
namespace Go.AL
set_option linter.unusedVariables false
open Go.MapKept

/-- What a map holds: its entries in the order in which they were made. -/
def mapIs {α β : Type} (ek : α → Value) (ev : β → Value) (m : List (α × β)) (o : Obj) : Prop :=
  ∃ es clock, o = .map es clock ∧ Stamped es clock ∧ es.toList.map (fun e => (e.key, e.val)) = m.map (fun p => (ek p.1, ev p.2))
def mset {α β : Type} [BEq α] (m : List (α × β)) (k : α) (v : β) : List (α × β) :=
  bif m.any (fun p => p.1 == k) then m.map (fun p => bif p.1 == k then (k, v) else p) else m ++ [(k, v)]
def mget {α β : Type} [BEq α] (m : List (α × β)) (k : α) (z : β) : β := match m.find? (fun p => p.1 == k) with | some p => p.2 | none => z
def mhas {α β : Type} [BEq α] (m : List (α × β)) (k : α) : Bool := m.any (fun p => p.1 == k)

/-- How keys stand in memory. -/
structure KeyOk {α : Type} (d : TypeDesc) (ek : α → Value) : Prop where
  key : ∀ a, IsKey d (ek a)
  inj : ∀ a b, ek a = ek b → a = b
theorem keyOk_str : KeyOk .string mkStr := ⟨fun _ => trivial, fun a b h => by simpa [mkStr] using h⟩
theorem keyOk_int (k : IntKind) : KeyOk (.int k) (fun n => .int k n) := ⟨fun _ => rfl, fun a b h => by simpa using h⟩

section
variable {P : Program} {α β : Type} {d : TypeDesc} {ek : α → Value} {ev : β → Value} {m : List (α × β)} {es : Array MapEntry} {clock : Nat}

theorem map_keys (K : KeyOk d ek) (h : es.toList.map (fun e => (e.key, e.val)) = m.map (fun p => (ek p.1, ev p.2))) : ∀ x ∈ es.toList, ∃ p ∈ m, x.key = ek p.1 ∧ x.val = ev p.2 := by
  intro x hx
  have : (x.key, x.val) ∈ m.map (fun p => (ek p.1, ev p.2)) := by rw [← h]; exact List.mem_map.2 ⟨x, hx, rfl⟩
  obtain ⟨p, hp, he⟩ := List.mem_map.1 this
  simp only [Prod.mk.injEq] at he
  exact ⟨p, hp, he.1.symm, he.2.symm⟩
theorem map_keys' (h : es.toList.map (fun e => (e.key, e.val)) = m.map (fun p => (ek p.1, ev p.2))) : ∀ p ∈ m, ∃ x ∈ es.toList, x.key = ek p.1 ∧ x.val = ev p.2 := by
  intro p hp
  have : (ek p.1, ev p.2) ∈ es.toList.map (fun e => (e.key, e.val)) := by rw [h]; exact List.mem_map.2 ⟨p, hp, rfl⟩
  obtain ⟨x, hx, he⟩ := List.mem_map.1 this
  simp only [Prod.mk.injEq] at he
  exact ⟨x, hx, he.1, he.2⟩

theorem map_len (h : es.toList.map (fun e => (e.key, e.val)) = m.map (fun p => (ek p.1, ev p.2))) : es.size = m.length := by
  have := congrArg List.length h
  simpa using this

/-- Looking for a key. -/
theorem map_find [BEq α] [LawfulBEq α] (K : KeyOk d ek) (h : es.toList.map (fun e => (e.key, e.val)) = m.map (fun p => (ek p.1, ev p.2))) (k : α) :
    (Instr.findNow d (ek k) es.toList 0 = some none ∧ m.any (fun p => p.1 == k) = false ∧ ∀ x ∈ es.toList, x.key ≠ ek k) ∨
    ∃ j e p, Instr.findNow d (ek k) es.toList 0 = some (some (j, e.val)) ∧ es[j]? = some e ∧ e.key = ek k ∧ m[j]? = some p ∧ p.1 = k ∧ e.val = ev p.2 := by
  rcases findNow_spec (K.key k) es.toList 0 (fun x hx => by obtain ⟨p, -, hk, -⟩ := map_keys K h x hx; rw [hk]; exact K.key _) with ⟨h1, h2⟩ | ⟨j, e, h1, h2, h3⟩
  · refine .inl ⟨h1, ?_, h2⟩
    apply Bool.eq_false_iff.2
    intro ha
    obtain ⟨p, hp, he⟩ := List.any_eq_true.1 ha
    obtain ⟨x, hx, hk, -⟩ := map_keys' h p hp
    exact h2 x hx (by rw [hk, eq_of_beq he])
  · have hj : es[j]? = some e := by simpa using h2
    have hm : (es.toList.map (fun e => (e.key, e.val)))[j]? = some (e.key, e.val) := by rw [List.getElem?_map, h2]; rfl
    rw [h, List.getElem?_map] at hm
    obtain ⟨p, hp, he⟩ := Option.map_eq_some_iff.1 hm
    simp only [Prod.mk.injEq] at he
    exact .inr ⟨j, e, p, by simpa using h1, hj, h3, hp, K.inj _ _ (he.1.trans h3), he.2.symm⟩

theorem map_nodup (K : KeyOk d ek) (hs : Stamped es clock) (h : es.toList.map (fun e => (e.key, e.val)) = m.map (fun p => (ek p.1, ev p.2))) : (m.map (·.1)).Nodup := by
  have h3 := hs.2.2
  have : es.toList.map (·.key) = (m.map (·.1)).map ek := by
    have := congrArg (List.map Prod.fst) h
    simpa [List.map_map, Function.comp_def] using this
  rw [this] at h3
  exact (List.pairwise_map.1 h3).imp fun hne he => hne (by rw [he])

theorem mset_at [BEq α] [LawfulBEq α] (hn : (m.map (·.1)).Nodup) {j : Nat} {p : α × β} (hj : m[j]? = some p) {k : α} (hk : p.1 = k) (v : β) : mset m k v = m.set j (k, v) := by
  have hany : m.any (fun p => p.1 == k) = true := List.any_eq_true.2 ⟨p, List.mem_of_getElem? hj, by simp [hk]⟩
  unfold mset
  rw [hany, cond_true]
  have hjl : j < m.length := (List.getElem?_eq_some_iff.1 hj).1
  apply List.ext_getElem (by simp)
  intro q h1 h2
  have hq : q < m.length := by simpa using h1
  rw [List.getElem_map, List.getElem_set]
  by_cases hqj : j = q
  · subst hqj
    have : m[j] = p := by rw [List.getElem?_eq_getElem hjl] at hj; exact Option.some.inj hj
    rw [if_pos rfl, this]
    simp [hk]
  · rw [if_neg hqj]
    have hne : (m[q].1 == k) = false := by
      apply Bool.eq_false_iff.2
      intro he
      have he' := eq_of_beq he
      have hpj : m[j] = p := by rw [List.getElem?_eq_getElem hjl] at hj; exact Option.some.inj hj
      have := (List.pairwise_iff_getElem.1 hn)
      rcases Nat.lt_or_gt_of_ne hqj with hlt | hlt
      · exact this j q (by simpa using hjl) (by simpa using hq) hlt (by simp [hpj, hk, he'])
      · exact this q j (by simpa using hq) (by simpa using hjl) hlt (by simp [hpj, hk, he'])
    rw [hne, cond_false]

theorem mapIs_update [BEq α] [LawfulBEq α] {w : World} {b : Nat} {t kt et : TypeId} {o : Obj} (K : KeyOk d ek) (hm : P.underlying t = some (.map kt et)) (hd : P.underlying kt = some d) (hb : w.heap[b]? = some o) (h : mapIs ek ev m o) (k : α) (v : β) :
    ∃ o', (Instr.mapUpdate t (.map (some b)) (ek k) (ev v)).run P w = .ok () { w with heap := w.heap.setIfInBounds b o' } ∧ mapIs ek ev (mset m k v) o' := by
  obtain ⟨es, clock, rfl, hs, hmm⟩ := h
  rcases map_find K hmm k with ⟨h1, h2, h3⟩ | ⟨j, e, p, h1, hj, h3, hp, hpk, hv⟩
  · refine ⟨.map (es.push ⟨ek k, ev v, clock⟩) (clock + 1), ?_, _, _, rfl, stamped_push hs h3, ?_⟩
    · simp [Instr.mapUpdate, run_underlying hm, MapKept.run_getObj_map hb, MapKept.run_checkKey hd (K.key k), MapKept.run_findKey hd h1, MapKept.run_setObj_map _ hb, Result.andThen]
    · unfold mset
      rw [h2, cond_false]
      simp [hmm]
  · refine ⟨.map (es.modify j fun e => { e with key := ek k, val := ev v }) clock, ?_, _, _, rfl, stamped_modify hs _ _ (fun _ _ => rfl) (fun e' _ he' => by rw [hj] at he'; cases he'; exact h3.symm), ?_⟩
    · simp [Instr.mapUpdate, run_underlying hm, MapKept.run_getObj_map hb, MapKept.run_checkKey hd (K.key k), MapKept.run_findKey hd h1, hj, h3, MapKept.run_keyThatStays (K.key k), MapKept.run_setObj_map _ hb, Result.andThen]
    · rw [mset_at (map_nodup K hs hmm) hp hpk v, List.map_set, ← hmm]
      apply List.ext_getElem (by simp)
      intro q h1 h2
      simp only [List.getElem_map, List.getElem_set, Array.getElem_toList, Array.getElem_modify]
      by_cases hqj : j = q
      · subst hqj; simp
      · simp [hqj]

theorem mapIs_look [BEq α] [LawfulBEq α] {w : World} {b : Nat} {t kt et : TypeId} {o : Obj} {z : β} (K : KeyOk d ek) (hm : P.underlying t = some (.map kt et)) (hd : P.underlying kt = some d) (hz : (zeroValue et).run P w = .ok (ev z) w) (hb : w.heap[b]? = some o) (h : mapIs ek ev m o) (k : α) (c : Bool) :
    (Instr.lookup t (.map (some b)) (ek k) c).run P w = .ok (if c then .tuple #[ev (mget m k z), .bool (mhas m k)] else ev (mget m k z)) w := by
  obtain ⟨es, clock, rfl, hs, hmm⟩ := h
  rcases map_find K hmm k with ⟨h1, h2, h3⟩ | ⟨j, e, p, h1, hj, h3, hp, hpk, hv⟩
  · have hf : m.find? (fun p => p.1 == k) = none := by
      rw [List.find?_eq_none]
      intro p hp he
      have := List.any_eq_false.1 h2 p hp
      exact this he
    have hg : mget m k z = z := by unfold mget; rw [hf]
    rw [hg]
    unfold mhas
    rw [h2]
    simp [Instr.lookup, run_underlying hm, MapKept.run_getObj_map hb, MapKept.run_checkKey hd (K.key k), MapKept.run_findKey hd h1, hz, Result.andThen]
  · have hf : m.find? (fun p => p.1 == k) = some p := by
      obtain ⟨hjl, hjp⟩ := List.getElem?_eq_some_iff.1 hp
      rw [List.find?_eq_some_iff_getElem]
      refine ⟨by simp [hpk], j, hjl, hjp, fun q hq => ?_⟩
      have hn := List.pairwise_iff_getElem.1 (map_nodup K hs hmm) q j (by simp; omega) (by simpa using hjl) hq
      simp only [List.getElem_map, hjp, hpk] at hn
      simp [hn]
    have hg : mget m k z = p.2 := by unfold mget; rw [hf]
    have hany : mhas m k = true := List.any_eq_true.2 ⟨p, List.mem_of_getElem? hp, by simp [hpk]⟩
    rw [hg, hany]
    simp [Instr.lookup, run_underlying hm, MapKept.run_getObj_map hb, MapKept.run_checkKey hd (K.key k), MapKept.run_findKey hd h1, hv, Result.andThen]

end

section
variable {P : Program} {ops : Array Oper} {st : St} {Q : AExit → St → Prop}

theorem AOps.makeMap {α β : Type} (ek : α → Value) (ev : β → Value) {dst : Option Nat} {ty t : TypeId} {pos : String} {aft : Array Edge} {rest : List Oper} {st' : St}
    (hst : ({ t := setO st.t dst (.mref true st.L.length), L := st.L ++ [.obj (mapIs ek ev [])], S := st.S, own := st.own.filterMap (renOwn (renDst dst)) } : St) = st')
    (hrest : AOps P ops rest st' Q) : AOps P ops (⟨dst, .makeMap t none, ty, pos, aft, none⟩ :: rest) st Q := by
  intro w0 G0 a w G hE hr
  refine wpList_plain rfl fun K hK => ?_
  have hN := hr.newBox hE.size (.map #[] 0) (.obj (mapIs ek ev [])) ⟨.map #[] 0, (MapKept.heap_alloc w _).1, #[], 0, rfl, stamped_empty 0, by simp⟩
  have hrun : (execOp a.eval ⟨dst, .makeMap t none, ty, pos, aft, none⟩).run P w = .ok (.value (.map (some w.heap.size))) (w.alloc (.map #[] 0)) := by
    simp [execOp, Instr.makeMap]
  unfold Oper.wp
  rw [hrun]
  refine hK _ _ (hrest w0 G0 _ _ { G with iL := G.iL ++ [w.heap.size] } ?_ ?_)
  · exact hE.grow (G' := { G with iL := G.iL ++ [w.heap.size] }) (Same.alloc w _) rfl rfl rfl rfl (fun _ _ h => h) (fun _ _ _ h => h)
  · rw [← hst]
    exact hN.put (.mref _ true st.L.length w.heap.size (by
      show (G.iL ++ [w.heap.size])[st.L.length]? = _
      rw [← hr.boxes.lenL]; simp)) dst (renDst dst) (fun y hy l hl => renDst_ok hl)

theorem AOps.mapUpdate {α β : Type} [BEq α] [LawfulBEq α] {d : TypeDesc} {ek : α → Value} {ev : β → Value} {m : List (α × β)} (K : KeyOk d ek) {dst : Option Nat} {ty t kt et : TypeId} {pos : String} {aft : Array Edge} {x y z : Operand} {rest : List Oper} {l : Bool} {r : Nat} {k : α} {v : β} {dk dv : DV} {st' : St}
    (hm : P.underlying t = some (.map kt et)) (hd : P.underlying kt = some d) (hx : st.ev x = .mref l r) (hb : boxAt st l r = .obj (mapIs ek ev m)) (hy : strip (st.ev y) = dk) (hyo : stripOb (st.ev y)) (hz : strip (st.ev z) = dv) (hzo : stripOb (st.ev z))
    (hk : ∀ w pr i u, V w pr i u dk → u = ek k) (hv : ∀ w pr i u, V w pr i u dv → u = ev v)
    (hst : ({ setBox { st with t := setO st.t dst .any } l r (.obj (mapIs ek ev (mset m k v))) with own := st.own.filterMap (renOwn (renDst dst)) } : St) = st')
    (hrest : AOps P ops rest st' Q) : AOps P ops (⟨dst, .mapUpdate t x y z, ty, pos, aft, none⟩ :: rest) st Q := by
  intro w0 G0 a w G hE hr
  refine wpList_plain rfl fun K' hK' => ?_
  have hvx := hr.ev x
  rw [hx] at hvx
  obtain ⟨b, he, hat⟩ := hvx.mref_inv
  have hbox := hr.box hat
  rw [hb] at hbox
  obtain ⟨o, ho, hmo⟩ := hbox
  have hbl : b < w.heap.size := (Array.getElem?_eq_some_iff.1 ho).1
  have hvk := hk _ _ _ _ (by have := hr.arg y hyo; rw [hy] at this; exact this)
  have hvv := hv _ _ _ _ (by have := hr.arg z hzo; rw [hz] at this; exact this)
  obtain ⟨o', hrun', hmo'⟩ := mapIs_update (P := P) K hm hd ho hmo k v
  let w' : World := { w with heap := w.heap.setIfInBounds b o' }
  have hoth : ∀ b', b' ≠ b → w'.heap[b']? = w.heap[b']? := fun b' hb' => (MapKept.heap_set ho).2 b' hb'
  have hnew : w'.heap[b]? = some o' := (MapKept.heap_set ho).1
  have hrun : (execOp a.eval ⟨dst, .mapUpdate t x y z, ty, pos, aft, none⟩).run P w = .ok .skip w' := by
    simp only [execOp, he, hvk, hvv, Sem.run_bind, hrun', Result.andThen_ok, Sem.run_pure]
    rfl
  have hR := hr.boxSet (w' := w') (l := l) hat (by simp [w']) hoth (x := .obj (mapIs ek ev (mset m k v))) ⟨o', hnew, hmo'⟩ some (fun y hy m' hm' => by
    cases hm'
    cases hl : y.loc with
    | slot i => rfl
    | tup i j => rfl
    | cell r' off =>
      simp only [valAt]
      cases hrl : G.iL[r']? with
      | none => rfl
      | some b' =>
        by_cases hbb' : b' = b
        · subst hbb'
          obtain ⟨es, clock, rfl, -⟩ := hmo
          obtain ⟨es', clock', rfl, -⟩ := hmo'
          simp only [Option.bind_some, World.cell?, ho, hnew]
        · exact World.cell?_of_block (hoth b' hbb'))
  rw [filterMap_renOwn_some] at hR
  unfold Oper.wp
  rw [hrun]
  refine hK' _ _ (hrest w0 G0 _ w' G ?_ ?_)
  · exact hE.boxSet hr.newL hat (by simp [w']) hoth rfl rfl rfl
  · rw [← hst]
    have hP := hR.put (v := undef) (d := .any) (.any _ _) dst (renDst dst) (fun y hy m' hm' => renDst_ok hm')
    cases l <;> exact hP

/-- An operation that reads a map. -/
theorem AOps.reads {o : Oper} {rest : List Oper} {dv : DV} {st' : St} (hg : o.guard = none)
    (h : ∀ a w G B, Rel B st a w G → ∃ v, (execOp a.eval o).run P w = .ok (.value v) w ∧ V w G.pr G.at v dv)
    (hst : ({ st with t := setO st.t o.dst dv, own := st.own.filterMap (renOwn (renDst o.dst)) } : St) = st')
    (hrest : AOps P ops rest st' Q) : AOps P ops (o :: rest) st Q := by
  intro w0 G0 a w G hE hr
  refine wpList_plain hg fun K hK => ?_
  obtain ⟨v, hrun, hv⟩ := h a w G _ hr
  unfold Oper.wp
  rw [hrun]
  refine hK _ _ (hrest w0 G0 _ w G hE ?_)
  rw [← hst]
  exact hr.put hv o.dst (renDst o.dst) (fun y hy m hm => renDst_ok hm)

theorem AOps.mapLook {α β : Type} [BEq α] [LawfulBEq α] {d : TypeDesc} {ek : α → Value} {ev : β → Value} {m : List (α × β)} (K : KeyOk d ek) (z : β) (dv : β → DV) {dst : Option Nat} {ty t kt et : TypeId} {i : TI} {pos : String} {aft : Array Edge} {x y : Operand} {rest : List Oper} {l : Bool} {r : Nat} {k : α} {dk : DV} {st' : St}
    (hm : P.underlying t = some (.map kt et)) (hd : P.underlying kt = some d) (hi : tinfo P et = some i) (hz : i.zero = ev z) (hx : st.ev x = .mref l r) (hb : boxAt st l r = .obj (mapIs ek ev m)) (hy : strip (st.ev y) = dk) (hyo : stripOb (st.ev y))
    (hk : ∀ w pr i u, V w pr i u dk → u = ek k) (hv : ∀ w pr i v, V w pr i (ev v) (dv v))
    (hst : ({ st with t := setO st.t dst (dv (mget m k z)), own := st.own.filterMap (renOwn (renDst dst)) } : St) = st')
    (hrest : AOps P ops rest st' Q) : AOps P ops (⟨dst, .lookup t x y false, ty, pos, aft, none⟩ :: rest) st Q := by
  refine AOps.reads rfl (dv := dv (mget m k z)) (fun a w G B hr => ?_) hst hrest
  have hvx := hr.ev x
  rw [hx] at hvx
  obtain ⟨b, he, hat⟩ := hvx.mref_inv
  have hbox := hr.box hat
  rw [hb] at hbox
  obtain ⟨o, ho, hmo⟩ := hbox
  have hvk := hk _ _ _ _ (by have := hr.arg y hyo; rw [hy] at this; exact this)
  have hl := mapIs_look (P := P) (z := z) K hm hd (by rw [run_zeroValue' hi, hz]) ho hmo k false
  refine ⟨ev (mget m k z), ?_, hv _ _ _ _⟩
  simp only [execOp, he, hvk, Sem.run_bind, hl, Result.andThen_ok, Sem.run_pure]
  rfl

theorem AOps.mapLen {α β : Type} {ek : α → Value} {ev : β → Value} {m : List (α × β)} {dst : Option Nat} {ty t kt et : TypeId} {pos : String} {aft : Array Edge} {x : Operand} {rest : List Oper} {l : Bool} {r : Nat} {st' : St}
    (hm : P.underlying t = some (.map kt et)) (hx : st.ev x = .mref l r) (hb : boxAt st l r = .obj (mapIs ek ev m))
    (hst : ({ st with t := setO st.t dst (.int .i64 (m.length : Int)), own := st.own.filterMap (renOwn (renDst dst)) } : St) = st')
    (hrest : AOps P ops rest st' Q) : AOps P ops (⟨dst, .call ⟨.builtin .len, #[x], #[t]⟩, ty, pos, aft, none⟩ :: rest) st Q := by
  refine AOps.reads rfl (dv := .int .i64 (m.length : Int)) (fun a w G B hr => ?_) hst hrest
  have hvx := hr.ev x
  rw [hx] at hvx
  obtain ⟨b, he, hat⟩ := hvx.mref_inv
  have hbox := hr.box hat
  rw [hb] at hbox
  obtain ⟨o, ho, es, clock, rfl, hs, hmm⟩ := hbox
  refine ⟨.int .i64 (m.length : Int), ?_, .int _ _ _⟩
  rw [← map_len hmm]
  have hg := MapKept.run_getObj_map (P := P) ho
  simp [execOp, resolve, invoke, builtin, Builtin.len_, he, run_underlying hm, hg, goInt]

/-- A call of a function without a Go body that only computes. -/
theorem AOps.ext {dst : Option Nat} {ty : TypeId} {pos : String} {aft : Array Edge} {x : Operand} {f : FuncId} {args : List Operand} {ats : Array TypeId} {rest : List Oper} {ds : List DV} {d : DV} {st' : St}
    (hx : st.ev x = .func (.func f) []) (hds : args.map (fun y => strip (st.ev y)) = ds) (hob : allOb st args)
    (h : ∀ (w : World) (pr : Nat → Nat → Prop) (i : Places) (vs : Array Value), vs.size = ds.length → (∀ j, j < ds.length → V w pr i (vs.getD j undef) (ds.getD j .any)) → ∃ v, (callFunc f vs).run P w = .ok (.value v) w ∧ V w pr i v d)
    (hst : ({ st with t := setO st.t dst d, own := st.own.filterMap (renOwn (renDst dst)) } : St) = st')
    (hrest : AOps P ops rest st' Q) : AOps P ops (⟨dst, .call ⟨.value x, args.toArray, ats⟩, ty, pos, aft, none⟩ :: rest) st Q := by
  refine AOps.reads rfl (dv := d) (fun a w G B hr => ?_) hst hrest
  have hvx := hr.ev x
  rw [hx] at hvx
  obtain ⟨vs, hxv, hvs, -⟩ := hvx.func_inv
  have hvs0 : vs = #[] := by simpa using hvs
  obtain ⟨v, hrun, hv⟩ := h w G.pr G.at (args.toArray.map a.eval) (by rw [← hds]; simp) (fun j hj => by
    have hj' : j < args.length := by rw [← hds] at hj; simpa using hj
    have e1 : (args.toArray.map a.eval).getD j undef = a.eval args[j] := by simp [Array.getD, hj']
    have e2 : ds.getD j .any = strip (st.ev args[j]) := by rw [← hds]; simp [List.getD, hj']
    rw [e1, e2]
    exact hr.arg args[j] (allOb_mem hob _ (List.getElem_mem hj')))
  refine ⟨v, ?_, hv⟩
  simp only [execOp, resolve, hxv, Deferred.ofValue, Sem.run_bind, Sem.run_pure, Result.andThen_ok, invoke, hvs0]
  simpa using hrun

end
end Go.AL
