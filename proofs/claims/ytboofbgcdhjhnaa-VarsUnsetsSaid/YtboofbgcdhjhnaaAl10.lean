/-
  AL, part 10: soundness of one operation.
-/
import Derived.Test.YtboofbgcdhjhnaaAl9
import Derived.IntWalk
namespace Go.AL
set_option linter.unusedVariables false

section
variable {P : Program} {B : Nat} {st : St} {a : Act} {w : World} {G : Ghost} {o : Oper}

/-- A new box and a pointer to it in a slot. -/
theorem does_newBox (hr : Rel B st a w G) (hB : B ≤ w.heap.size) {ob : Obj} {x : Box} (hx : BoxOk (w.alloc ob) G.pr G.at w.heap.size x)
    (hrun : (execOp a.eval o).run P w = .ok (.value (.pointer (some ⟨w.heap.size, 0, none⟩))) (w.alloc ob)) :
    Does P B a w G o { t := setO st.t o.dst (.ptr true st.L.length 0), L := st.L ++ [x], S := st.S, own := st.own.filterMap (renOwn (renDst o.dst)) } := by
  have hN := hr.newBox hB ob x hx
  refine ⟨_, _, _, { G with iL := G.iL ++ [w.heap.size] }, hrun, .inl rfl, ?_, fun w0 G0 hw0 hE => ?_⟩
  rotate_left
  · exact hE.grow (G' := { G with iL := G.iL ++ [w.heap.size] }) (Same.alloc w ob) rfl rfl rfl rfl (fun _ _ h => h) (fun _ _ _ h => h)
  · exact hN.put (.ptr _ true st.L.length 0 w.heap.size (by
      show (G.iL ++ [w.heap.size])[st.L.length]? = _
      rw [← hr.boxes.lenL]; simp)) o.dst (renDst o.dst) (fun y hy l hl => renDst_ok hl)

theorem LV.box {w' : World} {b : Nat} {t : TypeId} {vs : Array Value} {cs : List DV} {pr : Nat → Nat → Prop} {i : Places} (h : LV w' pr i vs.toList cs) (hh : w'.heap[b]? = some (.cells vs t (0, 0))) :
    BoxOk w' pr i b (.cells t cs) := by
  have e : ∀ j, vs.getD j undef = vs.toList.getD j undef := fun j => by simp [List.getD, Array.getD_eq_getD_getElem?]
  exact ⟨vs, hh, by simpa using h.1, fun j hj => by rw [e]; exact (h.2 j hj).1, fun j hj => by rw [e]; exact (h.2 j hj).2⟩

theorem LV.world {w' : World} {pr : Nat → Nat → Prop} {i : Places} {vs : List Value} {ds : List DV} (h : LV w pr i vs ds)
    (hc : ∀ b o v, pr b o → w.cell? ⟨b, o, none⟩ = some v → w'.cell? ⟨b, o, none⟩ = some v) : LV w' pr i vs ds :=
  ⟨h.1, fun j hj => ⟨(h.2 j hj).1, (h.2 j hj).2.world hc⟩⟩

theorem does_store (hr : Rel B st a w G) {t : TypeId} {x y : Operand} {i : TI} (ho : o.op = .store t x y) (ht : tinfo P t = some i) {l : Bool} {r off : Nat} (hd : strip (st.ev x) = .ptr l r off)
    {t' : TypeId} {cs : List DV} (hb : boxAt st l r = .cells t' cs) (h1 : stripOb (st.ev x)) (h2 : stripOb (st.ev y)) (h3 : ∀ c, c ∈ cellsD (strip (st.ev y)) → oneD c = true)
    (h4 : (cellsD (strip (st.ev y))).length = i.size) (h5 : off + i.size ≤ cs.length) (h6 : l = false → ∀ c, c ∈ cellsD (strip (st.ev y)) → outD c = true) :
    Does P B a w G o { setBox st l r (.cells t' (cs.take off ++ cellsD (strip (st.ev y)) ++ cs.drop (off + (cellsD (strip (st.ev y))).length))) with
            t := setO st.t o.dst .any, own := (st.own.filterMap (renOwn (renStore l r off (cellsD (strip (st.ev y))).length))).filterMap (renOwn (renDst o.dst)) } := by
  have hvx := hr.arg x h1
  rw [hd] at hvx
  obtain ⟨b, he, hat⟩ := hvx.ptr_inv
  have hbox := hr.box hat
  rw [hb] at hbox
  obtain ⟨vs, hh, hsz, hone, hvs⟩ := hbox
  have hl := LV.cells (hr.arg y h2) h3
  have hlen : (a.eval y).cells.toList.length = i.size := by rw [hl.1, h4]
  have hlen' : (a.eval y).cells.size = i.size := by simpa using hlen
  obtain ⟨xt, hxt, -, hxs, -⟩ := tinfo_some ht
  have hfit : off + 0 + (a.eval y).cells.toList.length ≤ vs.size := by rw [hlen, hsz]; omega
  have hstore := run_storeCells_at (P := P) b off t' (a.eval y).cells.toList 0 vs w hh hfit (fun v hv => by
    obtain ⟨j, hj, rfl⟩ := List.getElem_of_mem hv
    have := (hl.2 j (by rw [← hl.1]; exact hj)).1
    have hj' : j < (a.eval y).cells.size := by simpa using hj
    simpa [List.getD, hj'] using this)
  simp only [Nat.add_zero] at hstore
  let new := (vs.toList.take off ++ (a.eval y).cells.toList ++ vs.toList.drop (off + (a.eval y).cells.toList.length)).toArray
  have hrun : (execOp a.eval o).run P w = .ok .skip (w.setRow b new) := by
    simp only [execOp, ho, Instr.storeAt, Instr.sureAddr, he, storeVar, Sem.run_bind, Sem.run_pure, Result.andThen_ok, run_sizeOf' hxt, hxs, hlen']
    simp only [ne_eq, not_true, if_false, hstore, Result.andThen_ok]
    rfl
  have hnew : (w.setRow b new).heap[b]? = some (.cells new t' (0, 0)) := setRow_heap w b vs _ t' _ hh
  have hoth : ∀ b', b' ≠ b → (w.setRow b new).heap[b']? = w.heap[b']? := fun b' hb' => setRow_other w b b' _ hb'
  have hin : b ∈ G.iS ∨ b ∈ G.iL := by
    cases l with
    | false => exact .inl (List.mem_of_getElem? hat)
    | true => exact .inr (List.mem_of_getElem? hat)
  have hc : ∀ b' o' v, G.pr b' o' → w.cell? ⟨b', o', none⟩ = some v → (w.setRow b new).cell? ⟨b', o', none⟩ = some v := by
    intro b' o' v hp hv
    have : b' ≠ b := fun e => by
      subst e
      obtain ⟨-, p2, p3⟩ := hr.boxes.prok b' o' hp
      exact hin.elim p2 p3
    rw [World.cell?_of_block (hoth b' this)]
    exact hv
  have hold : LV w G.pr (G.places l) vs.toList cs := by
    have e : ∀ j, vs.getD j undef = vs.toList.getD j undef := fun j => by simp [List.getD, Array.getD_eq_getD_getElem?]
    refine ⟨by simpa using hsz, fun j hj => ?_⟩
    rw [← e]
    refine ⟨hone j hj, ?_⟩
    cases l with
    | true => exact hvs j hj
    | false =>
      have hbo := hr.boxes.boxS r b (boxAt st false r) hat (by
        have hr' : r < st.S.length := by rw [← hr.boxes.lenS]; exact (List.getElem?_eq_some_iff.1 hat).1
        simp [boxAt, List.getD, List.getElem?_eq_getElem hr'])
      rw [hb] at hbo
      obtain ⟨vs2, q1, -, -, q4⟩ := hbo
      rw [hh] at q1
      cases q1
      exact q4 j hj
  have hl : LV w G.pr (G.places l) (a.eval y).cells.toList (cellsD (strip (st.ev y))) := by
    refine ⟨hl.1, fun j hj => ⟨(hl.2 j hj).1, ?_⟩⟩
    cases l with
    | true => exact (hl.2 j hj).2
    | false => exact (hl.2 j hj).2.out (h6 rfl _ (by simp [List.getD, hj]))
  have hLV : LV w G.pr (G.places l) new.toList (cs.take off ++ cellsD (strip (st.ev y)) ++ cs.drop (off + (cellsD (strip (st.ev y))).length)) := by
    have := ((hold.take off).append hl).append (hold.drop (off + (cellsD (strip (st.ev y))).length))
    simpa only [new, List.toList_toArray, hl.1] using this
  have hR := hr.boxSet (w' := w.setRow b new) hat (by simp) hoth (LV.box (hLV.world hc) hnew) (renStore l r off (cellsD (strip (st.ev y))).length) (fun z hz m hm => by
    cases hzl : z.loc with
    | slot j => rw [hzl] at hm; cases hm; rfl
    | tup j k => rw [hzl] at hm; cases hm; rfl
    | cell r' off' =>
      rw [hzl] at hm
      simp only [renStore] at hm
      split at hm
      · cases hm
      · rename_i hne
        cases hm
        simp only [valAt]
        cases hrl : G.iL[r']? with
        | none => rfl
        | some b' =>
          simp only [Option.bind_some]
          by_cases hbb : b' = b
          · subst hbb
            have hlt : l = true ∧ r' = r := by
              cases l with
              | true =>
                have hat' : G.iL[r]? = some b' := hat
                have q1 := List.getElem?_eq_some_iff.1 hrl
                have q2 := List.getElem?_eq_some_iff.1 hat'
                exact ⟨rfl, (List.getElem_inj (List.nodup_append.1 hr.boxes.nodup).2.1).1 (q1.2.trans q2.2.symm)⟩
              | false =>
                have hat' : G.iS[r]? = some b' := hat
                exact ((List.nodup_append.1 hr.boxes.nodup).2.2 b' (List.mem_of_getElem? hat') b' (List.mem_of_getElem? hrl) rfl).elim
            have hout : ¬ (off ≤ off' ∧ off' < off + (cellsD (strip (st.ev y))).length) := fun hc' => hne ⟨hlt.1, hlt.2, hc'.1, hc'.2⟩
            rw [cell_of_row _ b' off' new t' (0, 0) hnew, cell_of_row w b' off' vs t' (0, 0) hh]
            have e1 : new[off']? = new.toList[off']? := by simp
            have e2 : vs[off']? = vs.toList[off']? := by simp
            rw [e1, e2]
            simp only [new]
            rw [← hl.1] at hout
            have hvl : vs.toList.length = vs.size := Array.length_toList
            by_cases h6 : off' < off
            · rw [List.append_assoc, List.getElem?_append_left (by rw [List.length_take, hvl]; rw [Nat.add_zero] at hfit; omega), List.getElem?_take, if_pos h6]
            · have h7 : off + (a.eval y).cells.toList.length ≤ off' := by omega
              have hl3 : (vs.toList.take off ++ (a.eval y).cells.toList).length = off + (a.eval y).cells.toList.length := by
                rw [List.length_append, List.length_take, hvl]; rw [Nat.add_zero] at hfit; omega
              rw [List.getElem?_append_right (by rw [hl3]; exact h7), hl3, List.getElem?_drop]
              congr 1
              omega
          · exact World.cell?_of_block (hoth b' hbb))
  refine ⟨_, undef, _, G, hrun, .inr ⟨rfl, rfl⟩, ?_, fun w0 G0 hw0 hE => ?_⟩
  · have hP := hR.put (v := undef) (.any _ _) o.dst (renDst o.dst) (fun y hy m hm => renDst_ok hm)
    have e : (setBox st l r (.cells t' (cs.take off ++ cellsD (strip (st.ev y)) ++ cs.drop (off + (cellsD (strip (st.ev y))).length)))).t = st.t := by cases l <;> rfl
    simp only [e] at hP
    exact hP
  · exact hE.boxSet (fun b' hb' => by rw [hw0]; exact hr.newL b' hb') hat (by simp) hoth rfl rfl rfl

/-- The elements of a slice literal, laid out. -/
theorem fill_rows {k : Nat} : ∀ (vs : List Value) (m : Nat) (cells : Array Value), (∀ v, v ∈ vs → v.cells.size = k) → (m + vs.length) * k ≤ cells.size →
    Instr.fill (fun i => some (i * k, k)) cells ((List.range' m vs.length).zip vs) = some (cells.toList.take (m * k) ++ (vs.map fun v => v.cells.toList).flatten ++ cells.toList.drop ((m + vs.length) * k)).toArray
  | [], m, cells, _, _ => by simp [Instr.fill]
  | v :: vs, m, cells, hk, hle => by
    have hv := hk v (by simp)
    have hle' : (m + 1 + vs.length) * k ≤ cells.size := by simpa [Nat.add_comm, Nat.add_left_comm, Nat.add_assoc] using hle
    have hmk : m * k + k ≤ cells.size := by
      have : (m + 1) * k ≤ (m + 1 + vs.length) * k := Nat.mul_le_mul_right k (by omega)
      rw [Nat.add_mul, Nat.one_mul] at this
      omega
    simp only [List.length_cons, List.range'_succ, List.zip_cons_cons]
    rw [fill_step rfl hv hmk]
    have hcl : cells.toList.length = cells.size := Array.length_toList
    have hsz : (cells.toList.take (m * k) ++ v.cells.toList ++ cells.toList.drop (m * k + v.cells.size)).toArray.size = cells.size := by
      simp only [List.size_toArray, List.length_append, List.length_take, List.length_drop, hcl, Array.length_toList, hv]; omega
    rw [fill_rows vs (m + 1) _ (fun u hu => hk u (by simp [hu])) (by rw [hsz]; exact hle')]
    congr 2
    simp only [List.map_cons, List.flatten_cons]
    have hl2 : (cells.toList.take (m * k) ++ v.cells.toList).length = (m + 1) * k := by
      rw [List.length_append, List.length_take, hcl, Array.length_toList, hv, Nat.add_mul, Nat.one_mul]; omega
    rw [List.take_append_of_le_length (by rw [hl2]; exact Nat.le_refl _), ← hl2, List.take_length]
    have hd : (cells.toList.take (m * k) ++ v.cells.toList ++ cells.toList.drop (m * k + v.cells.size)).drop ((m + 1 + vs.length) * k) = cells.toList.drop ((m + (vs.length + 1)) * k) := by
      rw [List.drop_append, hl2]
      have h0 : (cells.toList.take (m * k) ++ v.cells.toList).drop ((m + 1 + vs.length) * k) = [] := by
        apply List.drop_eq_nil_of_le
        rw [hl2]
        exact Nat.mul_le_mul_right k (by omega)
      rw [h0, List.nil_append, List.drop_drop, hv]
      congr 1
      have e1 : (m + 1 + vs.length) * k = (m + 1) * k + vs.length * k := Nat.add_mul _ _ _
      have e2 : (m + (vs.length + 1)) * k = m * k + (vs.length * k + k) := by rw [Nat.add_mul, Nat.add_mul, Nat.one_mul]
      have e3 : (m + 1) * k = m * k + k := by rw [Nat.add_mul, Nat.one_mul]
      omega
    rw [hd]
    simp [List.append_assoc]

theorem flatten_getD {k : Nat} : ∀ (rows : List (List Value)) (j l : Nat), (∀ r, r ∈ rows → r.length = k) → j < rows.length → l < k → rows.flatten.getD (j * k + l) undef = (rows.getD j []).getD l undef
  | [], j, l, _, hj, _ => by simp at hj
  | r :: rows, j, l, hk, hj, hl => by
    have hr := hk r (by simp)
    cases j with
    | zero =>
      have : l < r.length := by omega
      simp only [List.getD, Nat.zero_mul, Nat.zero_add, List.flatten_cons, List.getElem?_append_left this, List.getElem?_cons_zero, Option.getD_some]
    | succ j =>
      have ih := flatten_getD rows j l (fun x hx => hk x (by simp [hx])) (by simpa using hj) hl
      have e : (j + 1) * k + l = r.length + (j * k + l) := by rw [Nat.add_mul, Nat.one_mul, hr]; omega
      rw [e]
      simp only [List.flatten_cons, List.getD, List.getElem?_append_right (Nat.le_add_right _ _), Nat.add_sub_cancel_left]
      simpa [List.getD] using ih

theorem flatten_length {k : Nat} : ∀ (rows : List (List Value)), (∀ r, r ∈ rows → r.length = k) → rows.flatten.length = rows.length * k
  | [], _ => by simp
  | r :: rows, h => by
    simp only [List.flatten_cons, List.length_append, List.length_cons, flatten_length rows (fun x hx => h x (by simp [hx])), h r (by simp), Nat.add_mul, Nat.one_mul]
    omega

theorem okCell_one {c : DV} (h : okCell c = true) : oneD c = true := by simp [okCell] at h; exact h.1
theorem okCell_ref {c : DV} (h : okCell c = true) : noref1 c = true := by simp [okCell] at h; exact h.2

theorem does_buildSlice (hr : Rel B st a w G) (hB : B ≤ w.heap.size) {t e : TypeId} {len i : Nat} {parts : Array (Nat × Operand)} {j1 j2 : Nat} {z : Value} {ie : TI} (ho : o.op = .buildSlice t len parts) (hdst : o.dst = some i)
    (ht : tinfo P t = some ⟨.slice e, j1, j2, z⟩) (hi : tinfo P e = some ie) (h1 : parts.toList.map (·.1) = List.range len) (h2 : len * ie.size ≤ 16777216) (h3 : 0 < ie.size)
    (h4 : ∀ p, p ∈ parts.toList → stripOb (st.ev p.2) ∧ (cellsD (strip (st.ev p.2))).length = ie.size ∧ ∀ c, c ∈ cellsD (strip (st.ev p.2)) → okCell c = true) (c : Prop) [Decidable c] (hc : c → i < st.t.length) :
    Does P B a w G o { st with
            t := st.t.set i (.slice ie.size (parts.toList.map fun p => cellsD (strip (st.ev p.2)))),
            own := if c then ⟨.slot i, e, ie.size⟩ :: st.own.filterMap (renOwn (renPut i)) else st.own.filterMap (renOwn (renPut i)) } := by
  obtain ⟨xt, hxt, hut, -⟩ := tinfo_some ht
  obtain ⟨xe, hxe, hue, hsz, -⟩ := tinfo_some hi
  have hlen : parts.toList.length = len := by simpa using congrArg List.length h1
  let vs := parts.toList.map fun p => a.eval p.2
  have hvl : vs.length = len := by simp [vs, hlen]
  have hcell : ∀ p, p ∈ parts.toList → LV w G.pr G.at (a.eval p.2).cells.toList (cellsD (strip (st.ev p.2))) := fun p hp =>
    LV.cells (hr.arg p.2 (h4 p hp).1) (fun c hc => okCell_one ((h4 p hp).2.2 c hc))
  have hvk : ∀ v, v ∈ vs → v.cells.size = ie.size := by
    intro v hv
    obtain ⟨p, hp, rfl⟩ := List.mem_map.1 hv
    have := (hcell p hp).1
    rw [(h4 p hp).2.1] at this
    simpa using this
  have hzip : (parts.map fun (i, x) => (i, a.eval x)).toList = (List.range' 0 vs.length).zip vs := by
    rw [hvl, ← List.range_eq_range', ← h1]
    simp only [Array.toList_map, vs]
    generalize parts.toList = l
    induction l with
    | nil => rfl
    | cons p l ih => simp [ih]
  let zero : Array Value := if len * ie.size = 0 then #[] else ie.zero.cells
  let base : Array Value := (Array.range (len * ie.size)).map (zero[· % zero.size]!)
  have hbs : base.size = len * ie.size := by simp [base]
  have hfill := fill_rows (k := ie.size) vs 0 base hvk (by rw [hbs, hvl]; simp)
  have hbl : base.toList.length = base.size := Array.length_toList
  let cs : Array Value := ((vs.map fun v => v.cells.toList).flatten).toArray
  have hfill' : Instr.fill (fun i => some (i * ie.size, ie.size)) base (parts.map fun (i, x) => (i, a.eval x)).toList = some cs := by
    rw [hzip, hfill, hvl]
    have : base.toList.drop ((0 + len) * ie.size) = [] := List.drop_eq_nil_of_le (by rw [hbl, hbs, Nat.zero_add]; exact Nat.le_refl _)
    rw [this]; simp [cs]
  have hrun : (execOp a.eval o).run P w = .ok (.value (.slice (some ⟨w.heap.size, 0, none⟩) len len)) (w.alloc (.cells cs e)) := by
    simp only [execOp, ho, Instr.buildSlice, Sem.run_bind, run_underlying' hut, Result.andThen_ok, run_sizeOf' hxe, hsz]
    rw [if_neg (show ¬ len * ie.size > 2 ^ 24 by simpa using h2)]
    have hfill2 : Instr.fill (fun i => some (i * ie.size, ie.size)) ((Array.range (len * ie.size)).map (zero[· % zero.size]!)) (parts.map fun x => (x.1, a.eval x.2)).toList = some cs := hfill'
    by_cases h0 : len * ie.size = 0
    · rw [if_pos h0]
      have hz : zero = #[] := by simp only [zero, if_pos h0]
      rw [hz] at hfill2
      simp only [Sem.run_bind, Sem.run_pure, Result.andThen_ok, hfill2, newRow]
      rfl
    · rw [if_neg h0]
      have hz : zero = ie.zero.cells := by simp only [zero, if_neg h0]
      rw [hz] at hfill2
      simp only [Sem.run_bind, Sem.run_pure, run_zeroValue' hi, Result.andThen_ok, hfill2, newRow]
      rfl
  have hrows : ∀ r, r ∈ (vs.map fun v => v.cells.toList) → r.length = ie.size := by
    intro r hr'
    obtain ⟨v, hv, rfl⟩ := List.mem_map.1 hr'
    simpa using hvk v hv
  have hel : (parts.toList.map fun p => cellsD (strip (st.ev p.2))).length = len := by simp [hlen]
  have hgd : ∀ j, j < len → ∃ p, p ∈ parts.toList ∧ (parts.toList.map fun p => cellsD (strip (st.ev p.2))).getD j [] = cellsD (strip (st.ev p.2)) ∧
      (vs.map fun v => v.cells.toList).getD j [] = (a.eval p.2).cells.toList := by
    intro j hj
    have hj' : j < parts.toList.length := by omega
    refine ⟨parts.toList[j], List.getElem_mem hj', ?_, ?_⟩
    · simp [List.getD, show j < parts.size by simpa using hj']
    · simp [vs, List.getD, show j < parts.size by simpa using hj']
  obtain ⟨G', r1, r2, r3, r4, r5⟩ := hr.newRow hB (e := e) (k := ie.size) (cap := len) (es := parts.toList.map fun p => cellsD (strip (st.ev p.2))) (cs := cs)
    (fun j hj => by
      obtain ⟨p, hp, e1, -⟩ := hgd j (by rw [← hel]; exact hj)
      rw [e1]; exact (h4 p hp).2.1)
    (by rw [hel]; exact Nat.le_refl _)
    (by
      have : len ≤ len * ie.size := Nat.le_mul_of_pos_right _ h3
      have hm : maxLen = 9223372036854775807 := rfl
      omega)
    (by simp only [cs, List.size_toArray]; rw [flatten_length _ hrows]; simp [hvl])
    (fun j l hj hl => by
      rw [hel] at hj
      obtain ⟨p, hp, e1, e2⟩ := hgd j hj
      have : cs.toList.getD (j * ie.size + l) undef = (a.eval p.2).cells.toList.getD l undef := by
        simp only [cs]
        rw [flatten_getD _ j l hrows (by simp [hvl, hj]) hl, e2]
      rw [this, e1]
      have hc := (hcell p hp).2 l (by rw [(h4 p hp).2.1]; exact hl)
      refine ⟨hc.1, hc.2.noref ?_⟩
      have hl' : l < (cellsD (strip (st.ev p.2))).length := by rw [(h4 p hp).2.1]; exact hl
      have : (cellsD (strip (st.ev p.2))).getD l .any ∈ cellsD (strip (st.ev p.2)) := by
        simp [List.getD, hl']
      exact okCell_ref ((h4 p hp).2.2 _ this))
    (.inl rfl)
  rw [hel] at r3 r4 r5
  refine ⟨_, _, _, G', hrun, .inl rfl, ?_, fun w0 G0 _ hE => r2 w0 G0 hE⟩
  rw [hdst]
  exact r1.putOwn r3 i r4 r5 c hc

theorem makeCells_getD {z : Array Value} {n q : Nat} (hz : 0 < z.size) (hq : q < n) : ((Array.range n).map (z[· % z.size]!)).toList.getD q undef = z.getD (q % z.size) undef := by
  have : q % z.size < z.size := Nat.mod_lt _ hz
  simp [List.getD, hq, Array.getD, this]

theorem does_makeSlice (hr : Rel B st a w G) (hB : B ≤ w.heap.size) {t e : TypeId} {x y : Operand} {i : Nat} {j1 j2 : Nat} {z : Value} {ie : TI} (ho : o.op = .makeSlice t x y) (hdst : o.dst = some i)
    (ht : tinfo P t = some ⟨.slice e, j1, j2, z⟩) (hi : tinfo P e = some ie) {k1 k2 : IntKind} {n c : Int} (hx : strip (st.ev x) = .int k1 n) (hy : strip (st.ev y) = .int k2 c)
    (h1 : stripOb (st.ev x)) (h2 : stripOb (st.ev y)) (h3 : 0 ≤ n) (h4 : n ≤ c) (h5 : c ≤ 9223372036854775807) (h6 : ie.bytes * c ≤ 281474976710656) (h7 : ie.zero.cells.size = ie.size) (h8 : 0 < ie.size)
    (h9 : ∀ v, v ∈ ie.zero.cells.toList → v.oneCell' = true) :
    Does P B a w G o { st with
            t := st.t.set i (.slice ie.size (List.replicate n.toNat (ie.zero.cells.toList.map ofV))),
            own := if i < st.t.length then ⟨.slot i, e, ie.size⟩ :: st.own.filterMap (renOwn (renPut i)) else st.own.filterMap (renOwn (renPut i)) } := by
  obtain ⟨xt, hxt, hut, -⟩ := tinfo_some ht
  obtain ⟨xe, hxe, hue, hsz, hby, -⟩ := tinfo_some hi
  have hvx := hr.arg x h1
  rw [hx] at hvx
  have hvy := hr.arg y h2
  rw [hy] at hvy
  have wrap : ∀ m : Int, 0 ≤ m → m ≤ 9223372036854775807 → IntKind.i64.wrap m = m := by
    intro m m0 m1
    exact IntWalk.i64_in m (by omega)
  let cs : Array Value := (Array.range (c.toNat * ie.size)).map (ie.zero.cells[· % ie.zero.cells.size]!)
  have hrun : (execOp a.eval o).run P w = .ok (.value (.slice (some ⟨w.heap.size, 0, none⟩) n.toNat c.toNat)) (w.alloc (.cells cs e)) := by
    simp only [execOp, ho, Instr.makeSlice, hvx.int_inv, hvy.int_inv, asInt, asIntOf, Sem.run_bind, run_underlying' hut, Result.andThen_ok, Sem.run_pure, run_typeInfo' hxe, hby]
    rw [wrap n h3 (by omega), wrap c (by omega) h5]
    have hg : ¬ ((decide (c < 0) || decide (↑ie.bytes * c > 2 ^ 48)) || decide (n < 0) || decide (n > c)) = true := by
      simp
      refine ⟨⟨⟨by omega, by omega⟩, by omega⟩, by omega⟩
    rw [if_neg hg]
    simp only [Sem.run_bind, run_askRoom, Result.andThen_ok, run_sizeOf' hxe, hsz]
    by_cases h0 : c.toNat * ie.size = 0
    · rw [if_pos h0]
      have hcs : (Array.range (c.toNat * ie.size)).map ((#[] : Array Value)[· % (#[] : Array Value).size]!) = cs := by simp [cs, h0]
      simp only [Sem.run_bind, Sem.run_pure, Result.andThen_ok, hcs, newRow]
      rfl
    · rw [if_neg h0]
      simp only [Sem.run_bind, Sem.run_pure, run_zeroValue' hi, Result.andThen_ok, newRow]
      rfl
  have hzl : (ie.zero.cells.toList.map ofV).length = ie.size := by simpa using h7
  have hcs : cs.size = c.toNat * ie.size := by simp [cs]
  have hel : (List.replicate n.toNat (ie.zero.cells.toList.map ofV)).length = n.toNat := by simp
  have hgd : ∀ j, j < n.toNat → (List.replicate n.toNat (ie.zero.cells.toList.map ofV)).getD j [] = ie.zero.cells.toList.map ofV := fun j hj => by simp [List.getD, hj]
  have hLV : LV w G.pr noPlaces ie.zero.cells.toList (ie.zero.cells.toList.map ofV) := LV.ofValues h9
  obtain ⟨G', r1, r2, r3, r4, r5⟩ := hr.newRow hB (e := e) (k := ie.size) (cap := c.toNat) (es := List.replicate n.toNat (ie.zero.cells.toList.map ofV)) (cs := cs)
    (fun j hj => by rw [hel] at hj; rw [hgd j hj]; exact hzl)
    (by rw [hel]; omega)
    (by have hm : maxLen = 9223372036854775807 := rfl; omega)
    hcs
    (fun j l hj hl => by
      rw [hel] at hj
      rw [hgd j hj]
      have hq : j * ie.size + l < c.toNat * ie.size := idx_lt (by omega) hl
      have hmod : (j * ie.size + l) % ie.zero.cells.size = l := by rw [h7, Nat.mul_comm, Nat.mul_add_mod, Nat.mod_eq_of_lt hl]
      have e1 : cs.toList.getD (j * ie.size + l) undef = ie.zero.cells.getD l undef := by
        have := makeCells_getD (z := ie.zero.cells) (n := c.toNat * ie.size) (by rw [h7]; exact h8) hq
        rw [hmod] at this
        exact this
      have e2 : ie.zero.cells.getD l undef = ie.zero.cells.toList.getD l undef := by simp [List.getD, Array.getD_eq_getD_getElem?]
      rw [e1, e2]
      exact hLV.2 l (by rw [hzl]; exact hl))
    (.inl rfl)
  rw [hel] at r3 r4 r5
  refine ⟨_, _, _, G', hrun, .inl rfl, ?_, fun w0 G0 _ hE => r2 w0 G0 hE⟩
  rw [hdst]
  exact r1.putOwn r3 i r4 r5 _ (fun h => h)

theorem asSlice_V {k : Nat} {d : DV} {es : List (List DV)} {pr : Nat → Nat → Prop} {i : Places} {v : Value} (h : asSlice k d = some es) (hv : V w pr i v d) : V w pr i v (.slice k es) := by
  unfold asSlice at h
  split at h <;> try (cases h; done)
  · split at h <;> try (cases h; done)
    rename_i hk
    cases h
    subst hk
    exact hv
  · cases h
    rw [hv.val_inv]
    exact .nils _ _ _

theorem does_append (hr : Rel B st a w G) (hB : B ≤ w.heap.size) {c : Call} {s : Nat} {y : Operand} {t tx e : TypeId} {i : Nat} {j1 j2 : Nat} {z : Value} {ie : TI} (ho : o.op = .call c) (hcl : c.callee = .builtin .append)
    (ha : c.args.toList = [.tmp s, y]) (hat : c.argTypes.toList = [t, tx]) (hdst : o.dst = some i) (ht : tinfo P t = some ⟨.slice e, j1, j2, z⟩) (hi : tinfo P e = some ie) {es fs : List (List DV)}
    (hes : asSlice ie.size (strip (st.ev (.tmp s))) = some es) (hob : stripOb (st.ev (.tmp s))) {ow : Own} (hfind : st.own.find? (fun x => x.loc == .slot s) = some ow) (he : ow.e = e) (hk : ow.k = ie.size) (hk0 : 0 < ie.size)
    (hzs : ie.zero.cells.size = ie.size) (h63 : es.length + fs.length ≤ 9223372036854775807) (hbytes : (es.length + fs.length) * ie.bytes ≤ 140737488355328)
    {news : List Value} (hsrc : Src P ie.size tx (a.eval y) fs.length news w) (hf : Flat w G.pr ie.size news fs) :
    Does P B a w G o { st with
                  t := st.t.set i (.slice ie.size (es ++ fs)),
                  own := if i < st.t.length then ⟨.slot i, e, ie.size⟩ :: (st.own.filter (notSlot s)).filterMap (renOwn (renPut i)) else (st.own.filter (notSlot s)).filterMap (renOwn (renPut i)) } := by
  have ha' : c.args = #[.tmp s, y] := by rw [← Array.toArray_toList (xs := c.args), ha]
  have hat' : c.argTypes = #[t, tx] := by rw [← Array.toArray_toList (xs := c.argTypes), hat]
  have hv := asSlice_V hes (hr.arg (.tmp s) hob)
  have how : ⟨.slot s, e, ie.size⟩ ∈ st.own := by
    have hm := List.mem_of_find?_eq_some hfind
    have hl := List.find?_some hfind
    have : ow = ⟨.slot s, e, ie.size⟩ := by
      cases ow with
      | mk l e' k' =>
        simp only at he hk hl
        subst he; subst hk
        have : l = .slot s := by simpa using hl
        rw [this]
    rw [← this]; exact hm
  obtain ⟨v', w', G', hrun, r1, r2, r3, r4, r5⟩ := hr.append hB (ty := o.type) ht hi hk0 hzs how hv hsrc hf h63 hbytes
  refine ⟨.value v', v', w', G', ?_, .inl rfl, ?_, r2⟩
  · unfold execOp
    simp only [ho, resolve, hcl, Sem.run_bind, Sem.run_pure, Result.andThen_ok, invoke, builtin, ha', hat', List.map_toArray, List.map_cons, List.map_nil]
    have e1 : a.eval (.tmp s) = a.tmps.getD s undef := rfl
    rw [e1, hrun]
    rfl
  · rw [hdst]
    exact r1.putOwn r3 i r4 r5 _ (fun h => h)

theorem src_slice (hr : Rel B st a w G) {y : Operand} {tx : TypeId} {ix : TI} {e' : TypeId} (htx : tinfo P tx = some ix) (hkx : ix.kind = .slice e') {k : Nat} (hk0 : 0 < k) {fs : List (List DV)} (hob : stripOb (st.ev y))
    (hfs : asSlice k (strip (st.ev y)) = some fs) : ∃ news, Src P k tx (a.eval y) fs.length news w ∧ Flat w G.pr k news fs := by
  obtain ⟨xt, hxt, hut, -⟩ := tinfo_some htx
  rw [hkx] at hut
  have hv := asSlice_V hfs (hr.arg y hob)
  obtain ⟨xs, hfl, hcase⟩ := hv.flat hk0
  refine ⟨xs, ?_, hfl⟩
  have hone : ∀ u, u ∈ xs → u.oneCell' = true := by
    intro u hu
    obtain ⟨q, hq, rfl⟩ := List.getElem_of_mem hu
    have hq' : q < fs.length * k := by rw [← hfl.1]; exact hq
    have := (hfl.2.2 (q / k) (q % k) ((Nat.div_lt_iff_lt_mul hk0).2 hq') (Nat.mod_lt _ hk0)).1
    rw [show q / k * k + q % k = q by have := Nat.div_add_mod q k; rw [Nat.mul_comm] at this; exact this] at this
    simpa [List.getD, hq] using this
  rcases hcase with ⟨ad, he, rfl⟩ | ⟨b, off, cap, he, hcap, hcells⟩
  · have hx : xs = [] := List.eq_nil_of_length_eq_zero (by simpa using hfl.1)
    rw [he, hx]
    cases ad with
    | none => exact Src.ofNil w hut 0
    | some ad => exact Src.ofSlice w hut ad 0 0 [] (by simp) (fun j u hu => by simp at hu) (fun u hu => by simp at hu)
  · rw [he]
    refine Src.ofSlice w hut _ _ _ xs hfl.1 (fun j u hu => ?_) hone
    have hj : j < xs.length := (List.getElem?_eq_some_iff.1 hu).1
    have := (hcells j (by rw [← hfl.1]; exact hj)).2
    rw [add_lit, this]
    simp [List.getD, hu]

theorem src_string (hr : Rel B st a w G) {y : Operand} {tx : TypeId} {ix : TI} (htx : tinfo P tx = some ix) (hkx : ix.kind = .string) {l : List UInt8} (hob : stripOb (st.ev y)) (hd : strip (st.ev y) = .str l) :
    ∃ news, Src P 1 tx (a.eval y) (l.map fun b => [DV.int .u8 b.toNat]).length news w ∧ Flat w G.pr 1 news (l.map fun b => [DV.int .u8 b.toNat]) := by
  obtain ⟨xt, hxt, hut, -⟩ := tinfo_some htx
  rw [hkx] at hut
  have hv := hr.arg y hob
  rw [hd] at hv
  rw [hv.str_inv]
  refine ⟨byteCells ⟨⟨l⟩⟩, ?_, ?_⟩
  · have := Src.ofString (P := P) w hut ⟨⟨l⟩⟩
    have e : (l.map fun b => [DV.int .u8 b.toNat]).length = (ByteArray.mk ⟨l⟩).size := by simp [ByteArray.size]
    rw [e]
    exact this
  · refine ⟨by simp [byteCells], fun j hj => ?_, fun j k hj hk => ?_⟩
    · simp at hj
      simp [List.getD, hj]
    · simp at hj
      obtain rfl : k = 0 := by omega
      have e1 : (byteCells ⟨⟨l⟩⟩).getD (j * 1 + 0) undef = .int .u8 l[j].toNat := by simp [byteCells, List.getD, hj]
      have e2 : ((l.map fun b => [DV.int .u8 b.toNat]).getD j []).getD 0 .any = .int .u8 l[j].toNat := by simp [List.getD, hj]
      rw [e1, e2]
      exact ⟨rfl, .int _ _ _⟩

theorem exec1_sound (tg : List Nat) (hr : Rel B st a w G) (hB : B ≤ w.heap.size) {st' : St} {ob : Prop} (h : exec1 P tg st o = some (st', ob)) (hob : ob) : Does P B a w G o st' := by
  unfold exec1 at h
  split at h
  · rename_i t ho
    split at h <;> try (cases h; done)
    rename_i i hi
    cases h
    refine does_newBox hr hB (ob := .cells i.zero.cells t) ?_ ?_
    · refine LV.box ?_ (heap_alloc_new w _)
      exact LV.ofValues (fun v hv => List.all_eq_true.1 hob v hv)
    · simp [execOp, ho, Instr.alloc, run_zeroValue' hi, newVar, newRow]
  · rename_i t x ho
    cases h
    refine does_newBox hr hB (ob := .cells (a.eval x).cells t) ?_ ?_
    · exact LV.box ((LV.cells (hr.arg x hob.1) (fun c hc => List.all_eq_true.1 hob.2 c hc)).world (fun b o' v _ hv => (Same.alloc w _).cell hv)) (heap_alloc_new w _)
    · simp [execOp, ho, Instr.box, newVar, newRow]
  · rename_i t x y ho
    split at h <;> try (cases h; done)
    rename_i i l r off hi hd
    split at h <;> try (cases h; done)
    rename_i t' cs hb
    cases h
    obtain ⟨o1, o2, o3, o5⟩ := hob
    rw [Bool.and_eq_true, Bool.and_eq_true] at o3
    obtain ⟨⟨o3, o4⟩, o6⟩ := o3
    exact does_store hr ho hi hd hb o1 o2 (fun c hc => List.all_eq_true.1 o3 c hc) (Nat.eq_of_beq_eq_true o4) o5 (fun hl c hc => by
      rw [hl, Bool.false_or] at o6
      exact List.all_eq_true.1 o6 c hc)
  · rename_i t x ho
    split at h <;> try (cases h; done)
    rename_i j1 j2 z l ht hd
    cases h
    have hv := hr.arg x hob
    rw [hd] at hv
    obtain ⟨xt, hxt, hut, -⟩ := tinfo_some ht
    refine does_newBox hr hB (ob := .stringIter ⟨⟨l⟩⟩ 0) (heap_alloc_new w _) ?_
    simp only [execOp, ho, hv.str_inv, Instr.range, mkStr, Sem.run_bind, run_underlying' hut, Result.andThen_ok, Sem.run_pure]
    rfl
  · rename_i t len parts ho
    split at h <;> try (cases h; done)
    rename_i e j1 j2 z i ht hdst
    split at h <;> try (cases h; done)
    rename_i ie hi
    cases h
    obtain ⟨o1, o4⟩ := hob
    rw [Bool.and_eq_true, Bool.and_eq_true] at o1
    obtain ⟨⟨o1, o2⟩, o3⟩ := o1
    exact does_buildSlice hr hB ho hdst ht hi (by simpa using o1) (Nat.le_of_ble_eq_true o2) (Nat.le_of_ble_eq_true o3) (rowsOb_ok o4) _ (fun h => h.2)
  · rename_i t x y ho
    split at h <;> try (cases h; done)
    rename_i e j1 j2 z i k1 n k2 c ht hdst hx hy
    split at h <;> try (cases h; done)
    rename_i ie hi
    cases h
    obtain ⟨o1, o2, o3, o4, o5, o6, o7⟩ := hob
    rw [Bool.and_eq_true, Bool.and_eq_true] at o7
    obtain ⟨⟨o7, o8⟩, o9⟩ := o7
    replace o7 := Nat.eq_of_beq_eq_true o7
    replace o8 := Nat.le_of_ble_eq_true o8
    replace o9 := fun v hv => List.all_eq_true.1 o9 v hv
    exact does_makeSlice hr hB ho hdst ht hi hx hy o1 o2 o3 o4 o5 o6 o7 o8 o9
  · rename_i c ho
    split at h
    · rename_i hcl
      split at h <;> try (cases h; done)
      rename_i s y t tx i ha hat hdst
      split at h <;> try (cases h; done)
      rename_i e j1 j2 z ix ht htx
      split at h <;> try (cases h; done)
      rename_i ie es ow hi hes hfind
      rw [hi] at hes
      simp only [Option.map_some, Option.getD_some] at hes
      split at h <;> try (cases h; done)
      · rename_i l hkx hd
        cases h
        obtain ⟨o1, o2, o3, o7, o8⟩ := hob
        rw [Bool.and_eq_true, Bool.and_eq_true, Bool.and_eq_true] at o3
        obtain ⟨⟨⟨o3, o4⟩, o5⟩, o6⟩ := o3
        replace o3 := Nat.eq_of_beq_eq_true o3
        replace o4 := Nat.eq_of_beq_eq_true o4
        replace o5 := Nat.eq_of_beq_eq_true o5
        replace o6 := Nat.eq_of_beq_eq_true o6
        obtain ⟨news, hs, hf⟩ := src_string (P := P) hr htx hkx o2 hd
        have hl : (l.map fun b => [DV.int .u8 b.toNat]).length = l.length := by simp
        rw [← o5] at hs hf
        exact does_append hr hB ho hcl ha hat hdst ht hi hes o1 hfind o3 o4 (by omega) o6 (by rw [hl]; exact o7) (by rw [hl]; exact o8) hs hf
      · rename_i e' d hkx
        split at h <;> try (cases h; done)
        rename_i fs hfs
        cases h
        obtain ⟨o1, o2, o3, o7, o8⟩ := hob
        rw [Bool.and_eq_true, Bool.and_eq_true, Bool.and_eq_true] at o3
        obtain ⟨⟨⟨o3, o4⟩, o5⟩, o6⟩ := o3
        replace o3 := Nat.eq_of_beq_eq_true o3
        replace o4 := Nat.eq_of_beq_eq_true o4
        replace o5 := Nat.le_of_ble_eq_true o5
        replace o6 := Nat.eq_of_beq_eq_true o6
        obtain ⟨news, hs, hf⟩ := src_slice (P := P) hr htx hkx o5 o2 hfs
        exact does_append hr hB ho hcl ha hat hdst ht hi hes o1 hfind o3 o4 o5 o6 o7 o8 hs hf
    · exact pureExec_sound tg hr h hob
  · exact pureExec_sound tg hr h hob

end
end Go.AL
