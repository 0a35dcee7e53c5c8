/-
  AL, part 16: the iterator over a string; arguments that came in, read as data values.
-/
import Derived.Test.YtboofbgcdhjhnaaAl15
import GoSem.ClaimChange
namespace Go.AL
set_option linter.unusedVariables false

section
variable {P : Program} {ops : Array Oper} {st : St} {Q : AExit → St → Prop}

theorem ba_size (l : List UInt8) : (ByteArray.mk ⟨l⟩).size = l.length := rfl

/-- The iterator over a string goes on. -/
theorem AOps.nextMore {dst : Option Nat} {ty : TypeId} {pos : String} {aft : Array Edge} {x : Operand} {rest : List Oper} {r p : Nat} {l : List UInt8} {st' : St} (hx : st.ev x = .ptr true r 0) (hb : st.L.getD r (.cells 0 []) = .iter l p) (hp : p < l.length)
    (hst : ({ st with L := st.L.set r (.iter l (p + (Utf8.decode ⟨⟨l⟩⟩ p).2)), t := setO st.t dst (.tuple [.bool true, .int .i64 p, .int .i32 (Utf8.decode ⟨⟨l⟩⟩ p).1]), own := st.own.filterMap (renOwn (renDst dst)) } : St) = st')
    (hrest : AOps P ops rest st' Q) : AOps P ops (⟨dst, .next x true, ty, pos, aft, none⟩ :: rest) st Q := by
  intro w0 G0 a w G hE hr
  refine wpList_plain rfl fun K hK => ?_
  have hvx := hr.ev x
  rw [hx] at hvx
  obtain ⟨b, he, hat⟩ := hvx.ptr_inv
  have hbox := hr.box hat
  have hbb : boxAt st true r = .iter l p := hb
  rw [hbb] at hbox
  have hheap : w.heap[b]? = some (.stringIter ⟨⟨l⟩⟩ p) := hbox
  have hbl : b < w.heap.size := (Array.getElem?_eq_some_iff.1 hheap).1
  let w' : World := { w with heap := w.heap.setIfInBounds b (.stringIter ⟨⟨l⟩⟩ (p + (Utf8.decode ⟨⟨l⟩⟩ p).2)) }
  have hoth : ∀ b', b' ≠ b → w'.heap[b']? = w.heap[b']? := fun b' hb' => by
    show (w.heap.setIfInBounds b _)[b']? = _
    rw [Array.getElem?_setIfInBounds, if_neg (fun e => hb' e.symm)]
  have hnew : w'.heap[b]? = some (.stringIter ⟨⟨l⟩⟩ (p + (Utf8.decode ⟨⟨l⟩⟩ p).2)) := by
    show (w.heap.setIfInBounds b _)[b]? = _
    rw [Array.getElem?_setIfInBounds, if_pos rfl, if_pos hbl]
  have hrun : (execOp a.eval ⟨dst, .next x true, ty, pos, aft, none⟩).run P w = .ok (.value (.tuple #[.bool true, .int .i64 p, .int .i32 (Utf8.decode ⟨⟨l⟩⟩ p).1])) w' := by
    have hlt : p < (ByteArray.mk ⟨l⟩).size := hp
    have hgo : (getObj b).run P w = .ok (.stringIter ⟨⟨l⟩⟩ p) w := by
      simp only [getObj, Sem.run, hheap]
    have hso : (setObj b (.stringIter ⟨⟨l⟩⟩ (p + (Utf8.decode ⟨⟨l⟩⟩ p).2))).run P w = .ok () w' := by
      simp only [setObj, Sem.run, hheap]
      rfl
    simp only [execOp, Instr.next, he, Sem.run_bind, hgo, Result.andThen_ok, hlt, if_true, hso, Sem.run_pure, goInt]
  have hR := hr.boxSet (w' := w') (l := true) hat (by simp [w']) hoth (x := .iter l (p + (Utf8.decode ⟨⟨l⟩⟩ p).2)) hnew some (fun y hy m hm => by
    cases hm
    cases hl : y.loc with
    | slot i => rfl
    | tup i j => rfl
    | cell r' off =>
      simp only [valAt]
      cases hrl : G.iL[r']? with
      | none => rfl
      | some b' =>
        by_cases hbb' : b' = b
        · subst hbb'
          simp only [Option.bind_some, World.cell?, hheap, hnew]
        · exact World.cell?_of_block (hoth b' hbb'))
  rw [filterMap_renOwn_some] at hR
  unfold Oper.wp
  rw [hrun]
  refine hK _ _ (hrest w0 G0 _ w' G ?_ ?_)
  · exact hE.boxSet hr.newL hat (by simp [w']) hoth rfl rfl rfl
  · rw [← hst]
    have hP := hR.put (v := .tuple #[.bool true, .int .i64 p, .int .i32 (Utf8.decode ⟨⟨l⟩⟩ p).1]) (d := .tuple [.bool true, .int .i64 p, .int .i32 (Utf8.decode ⟨⟨l⟩⟩ p).1]) (.tuple _ _ _ rfl (fun j hj => by
      match j, hj with
      | 0, _ => exact .bool _ _
      | 1, _ => exact .int _ _ _
      | 2, _ => exact .int _ _ _
      | j + 3, hj => exact absurd hj (by simp))) dst (renDst dst) (fun y hy m hm => renDst_ok hm)
    exact hP

/-- The iterator over a string is at its end. -/
theorem AOps.nextOver {dst : Option Nat} {ty : TypeId} {pos : String} {aft : Array Edge} {x : Operand} {rest : List Oper} {r p : Nat} {l : List UInt8} {st' : St} (hx : st.ev x = .ptr true r 0) (hb : st.L.getD r (.cells 0 []) = .iter l p) (hp : ¬ p < l.length)
    (hst : ({ st with t := setO st.t dst (.tuple [.bool false]), own := st.own.filterMap (renOwn (renDst dst)) } : St) = st')
    (hrest : AOps P ops rest st' Q) : AOps P ops (⟨dst, .next x true, ty, pos, aft, none⟩ :: rest) st Q := by
  intro w0 G0 a w G hE hr
  refine wpList_plain rfl fun K hK => ?_
  have hvx := hr.ev x
  rw [hx] at hvx
  obtain ⟨b, he, hat⟩ := hvx.ptr_inv
  have hbox := hr.box hat
  have hbb : boxAt st true r = .iter l p := hb
  rw [hbb] at hbox
  have hheap : w.heap[b]? = some (.stringIter ⟨⟨l⟩⟩ p) := hbox
  have hrun : (execOp a.eval ⟨dst, .next x true, ty, pos, aft, none⟩).run P w = .ok (.value (.tuple #[.bool false])) w := by
    have hlt : ¬ p < (ByteArray.mk ⟨l⟩).size := hp
    have hgo : (getObj b).run P w = .ok (.stringIter ⟨⟨l⟩⟩ p) w := by
      simp only [getObj, Sem.run, hheap]
    simp only [execOp, Instr.next, he, Sem.run_bind, hgo, Result.andThen_ok, hlt, if_false, Sem.run_pure]
  unfold Oper.wp
  rw [hrun]
  refine hK _ _ (hrest w0 G0 _ w G hE ?_)
  rw [← hst]
  exact hr.put (v := .tuple #[.bool false]) (d := .tuple [.bool false]) (.tuple _ _ _ rfl (fun j hj => by
      match j, hj with
      | 0, _ => exact .bool _ _
      | j + 1, hj => exact absurd hj (by simp))) dst (renDst dst) (fun y hy m hm => renDst_ok hm)

theorem getD_enc {α : Type} [Inhabited α] (enc : α → List DV) (l : List α) (n : Nat) (h : n < l.length) : (l.map enc).getD n [] = enc (l.getD n default) := by
  simp [List.getD, h]
end

/-- What came in, read at a type, is of a Lean type. -/
def OpensF {H : Type} (henc : TypeId × Value → H) (P : Program) (W : World) (fuel : Nat) (t : TypeId) {α : Type} (enc : α → List DV) (ok : α → Prop) : Prop :=
  ∀ cs d ps, DataW.trod henc P W 0 (fun _ => true) true fuel t cs = some (d, ps) → ∃ x, ok x ∧ LV W (fun b _ => b < W.heap.size) noPlaces cs (enc x)

section
variable {H : Type} {henc : TypeId × Value → H} {P : Program} {W : World}

theorem opens_bool {t : TypeId} (ht : P.underlying t = some .bool) (fuel : Nat) : OpensF henc P W fuel t (fun b : Bool => [.bool b]) (fun _ => True) := by
  intro cs d ps h
  cases fuel with
  | zero => cases h
  | succ n =>
    simp only [DataW.trod, ht] at h
    split at h <;> try (simp_all; done)
    rename_i b h1
    exact ⟨b, trivial, LV.cons rfl (.bool _ _) LV.nil⟩
theorem opens_int {t : TypeId} {k : IntKind} (ht : P.underlying t = some (.int k)) (fuel : Nat) : OpensF henc P W fuel t (fun n : Int => [.int k n]) (fun n => (Lit.int k n).wf = true) := by
  intro cs d ps h
  cases fuel with
  | zero => cases h
  | succ n =>
    simp only [DataW.trod, ht] at h
    split at h <;> try (simp_all; done)
    rename_i k2 k' m h1
    cases h1
    split at h <;> try (cases h; done)
    rename_i hc
    obtain ⟨rfl, hw⟩ := hc
    exact ⟨m, hw, LV.cons rfl (.int _ _ _) LV.nil⟩
theorem opens_string {t : TypeId} (ht : P.underlying t = some .string) (fuel : Nat) : OpensF henc P W fuel t (fun l : List UInt8 => [.str l]) (fun l => l.length ≤ maxLen) := by
  intro cs d ps h
  cases fuel with
  | zero => cases h
  | succ n =>
    simp only [DataW.trod, ht] at h
    split at h <;> try (simp_all; done)
    rename_i s h1
    split at h <;> try (cases h; done)
    rename_i hc
    exact ⟨s.data.toList, hc, LV.cons rfl (.str _ s.data.toList) LV.nil⟩

theorem mapM_opt {α β : Type} {f : α → Option β} : ∀ {l : List α} {r : List β}, l.mapM f = some r → r.length = l.length ∧ ∀ (j : Nat) a, l[j]? = some a → ∃ b, r[j]? = some b ∧ f a = some b
  | [], r, h => by simp at h; subst h; exact ⟨rfl, fun j a hj => by simp at hj⟩
  | x :: l, r, h => by
    simp only [List.mapM_cons, Option.bind_eq_bind, Option.pure_def] at h
    cases hx : f x with
    | none => simp [hx] at h
    | some y =>
      cases hl : l.mapM f with
      | none => simp [hx, hl] at h
      | some r' =>
        simp [hx, hl] at h
        subst h
        obtain ⟨h1, h2⟩ := mapM_opt hl
        refine ⟨by simp [h1], fun j a hj => ?_⟩
        cases j with
        | zero => simp at hj; subst hj; exact ⟨y, by simp, hx⟩
        | succ j => simp at hj ⊢; exact h2 j a hj

theorem cells_some {w : World} {base : Nat} {a : Addr} {n : Nat} {cs : List Value} (h : w.cells? base a n = some cs) : cs.length = n ∧ ∀ j, j < n → w.cell? (a.add j) = some (cs.getD j undef) := by
  unfold World.cells? at h
  split at h <;> try (cases h; done)
  obtain ⟨h1, h2⟩ := mapM_opt h
  have hl : cs.length = n := by simpa using h1
  refine ⟨hl, fun j hj => ?_⟩
  obtain ⟨b, hb, hc⟩ := h2 j j (by simp [hj])
  rw [hc]
  simp [List.getD, hb]

/-- A slice that came in. -/
theorem opens_slice {t e : TypeId} {k fuel : Nat} {α : Type} [Inhabited α] {enc : α → List DV} {ok : α → Prop} (ht : P.underlying t = some (.slice e)) (hk : P.cellsOf e = k) (hkp : 0 < k) (hlen : ∀ x, (enc x).length = k) (he : OpensF henc P W fuel e enc ok) :
    OpensF henc P W (fuel + 1) t (fun vs : List α => [.slice k (vs.map enc)]) (fun vs => vs.length ≤ maxLen ∧ ∀ x, x ∈ vs → ok x) := by
  intro cs d ps h
  simp only [DataW.trod, ht] at h
  split at h <;> try (simp_all; done)
  · rename_i h1
    exact ⟨[], ⟨by simp, fun x hx => by simp at hx⟩, LV.cons rfl (.nils _ _ _) LV.nil⟩
  · rename_i e' a len cap h1
    cases h1
    split at h <;> try (cases h; done)
    rename_i hc
    simp only [Option.bind_eq_some_iff, Option.map_eq_some_iff] at h
    obtain ⟨elems, hel, rest, hrest, -⟩ := h
    obtain ⟨hl, hg⟩ := mapM_opt hel
    have hlen' : elems.length = len := by simpa using hl
    have rd : ∀ j, (∃ y : DataW H × List MemPlace, (W.cells? 0 (a.add (j * P.cellsOf e)) (P.cellsOf e)).bind (DataW.trod henc P W 0 (fun _ => true) true fuel e) = some y) →
        ∃ x : α, ok x ∧ ∃ cs : List Value, cs.length = k ∧ (∀ l, l < k → W.cell? ((a.add (j * k)).add l) = some (cs.getD l undef)) ∧ LV W (fun b _ => b < W.heap.size) noPlaces cs (enc x) := by
      rintro j ⟨y, hy⟩
      simp only [Option.bind_eq_some_iff] at hy
      obtain ⟨cs, hcs, hy⟩ := hy
      obtain ⟨x, hx, hv⟩ := he cs y.1 y.2 hy
      rw [hk] at hcs
      obtain ⟨q1, q2⟩ := cells_some hcs
      exact ⟨x, hx, cs, q1, q2, hv⟩
    have key : ∀ j, j < len → ∃ x : α, ok x ∧ ∃ cs : List Value, cs.length = k ∧ (∀ l, l < k → W.cell? ((a.add (j * k)).add l) = some (cs.getD l undef)) ∧ LV W (fun b _ => b < W.heap.size) noPlaces cs (enc x) := by
      intro j hj
      obtain ⟨y, -, hy⟩ := hg j j (by simp [hj])
      exact rd j ⟨y, hy⟩
    by_cases hz : cap = 0
    · have hl0 : len = 0 := by omega
      subst hz; subst hl0
      exact ⟨[], ⟨by simp, fun x hx => by simp at hx⟩, LV.cons rfl (.nils _ _ _) LV.nil⟩
    -- the first cell is there: no spot
    have hspot : a.spot = none := by
      have h0 : ∃ x : α, ok x ∧ ∃ cs : List Value, cs.length = k ∧ (∀ l, l < k → W.cell? ((a.add (0 * k)).add l) = some (cs.getD l undef)) ∧ LV W (fun b _ => b < W.heap.size) noPlaces cs (enc x) := by
        by_cases hl1 : 0 < len
        · exact key 0 hl1
        · have hl0 : len = 0 := by omega
          subst hl0
          simp only [if_true] at hrest
          obtain ⟨hl2, hg2⟩ := mapM_opt hrest
          obtain ⟨y, -, hy⟩ := hg2 0 0 (by rw [List.getElem?_range (by omega)])
          exact rd 0 ⟨y, by simpa using hy⟩
      obtain ⟨x, -, cs, -, hcell, -⟩ := h0
      have h1 := hcell 0 hkp
      simp only [Nat.zero_mul] at h1
      have e : (a.add 0).add 0 = a := by simp [Addr.add]
      rw [e] at h1
      unfold World.cell? at h1
      split at h1 <;> try (cases h1; done)
      split at h1 <;> try (cases h1; done)
      rename_i hn
      simpa using hn
    obtain ⟨b, off, spot⟩ := a
    simp only at hspot
    subst hspot
    simp only [add_lit] at key
    -- choose the elements
    have hch : ∃ vs : List α, vs.length = len ∧ ∀ j, j < len → ok (vs.getD j default) ∧ ∃ cs : List Value, cs.length = k ∧ (∀ l, l < k → W.cell? ⟨b, off + j * k + l, none⟩ = some (cs.getD l undef)) ∧ LV W (fun b _ => b < W.heap.size) noPlaces cs (enc (vs.getD j default)) := by
      clear hg hel hrest rd hlen' hl hc
      induction len with
      | zero => exact ⟨[], rfl, fun j hj => by omega⟩
      | succ n ih =>
        obtain ⟨vs, h1, h2⟩ := ih (fun j hj => key j (by omega))
        obtain ⟨x, hx⟩ := key n (by omega)
        refine ⟨vs ++ [x], by simp [h1], fun j hj => ?_⟩
        by_cases hjn : j < n
        · have : (vs ++ [x]).getD j default = vs.getD j default := by simp [List.getD, List.getElem?_append_left (show j < vs.length by omega)]
          rw [this]; exact h2 j hjn
        · have hje : j = n := by omega
          subst hje
          have : (vs ++ [x]).getD j default = x := by simp [List.getD, ← h1]
          rw [this]; exact hx
    obtain ⟨vs, hvl, hvs⟩ := hch
    refine ⟨vs, ⟨by rw [hvl]; omega, fun x hx => ?_⟩, ?_⟩
    · obtain ⟨j, hj, rfl⟩ := List.getElem_of_mem hx
      have := (hvs j (by omega)).1
      simpa [List.getD, hj] using this
    · refine LV.cons rfl ?_ LV.nil
      have hml : (vs.map enc).length = len := by simp [hvl]
      have hgd : ∀ j, j < len → (vs.map enc).getD j [] = enc (vs.getD j default) := fun j hj => getD_enc enc vs j (by omega)
      rw [← hml]
      refine .slice _ b off cap k _ (fun j l => (W.cell? ⟨b, off + j * k + l, none⟩).getD undef) (by rw [hml]; omega) (fun j hj => ?_) (fun j l hj hl => ?_) (fun j l hj hl => ?_) (fun j l hj hl => ?_)
      all_goals rw [hml] at hj
      · rw [hgd j hj]; exact hlen _
      · obtain ⟨-, cs, q1, q2, q3⟩ := hvs j hj
        have := q2 l hl
        exact ⟨block_lt_of_cell (a := ⟨b, off + j * k + l, none⟩) this, by rw [this]; rfl⟩
      · obtain ⟨-, cs, q1, q2, q3⟩ := hvs j hj
        rw [q2 l hl]
        exact (q3.2 l (by rw [hlen]; exact hl)).1
      · obtain ⟨-, cs, q1, q2, q3⟩ := hvs j hj
        rw [q2 l hl, hgd j hj]
        exact (q3.2 l (by rw [hlen]; exact hl)).2

theorem trod_struct_fields {t : TypeId} {fs : Array Field} {fuel : Nat} {cs : List Value} {d : DataW H} {ps : List MemPlace} (ht : P.underlying t = some (.struct fs)) (h : DataW.trod henc P W 0 (fun _ => true) true (fuel + 1) t cs = some (d, ps)) :
    cs.length = P.cellsOf t ∧ ∀ f, f ∈ fs.toList → ∃ y, DataW.trod henc P W 0 (fun _ => true) true fuel f.type ((cs.drop f.offset).take (P.cellsOf f.type)) = some y := by
  simp only [DataW.trod, ht] at h
  split at h <;> try (cases h; done)
  rename_i hl
  obtain ⟨xs, hxs, -⟩ := Option.map_eq_some_iff.1 h
  refine ⟨hl, fun f hf => ?_⟩
  obtain ⟨j, hj, rfl⟩ := List.getElem_of_mem hf
  obtain ⟨b, -, hb⟩ := (mapM_opt hxs).2 j _ (List.getElem?_eq_getElem hj)
  exact ⟨b, hb⟩

/-- One field of a struct, of whatever number of cells. -/
theorem field_open {t : TypeId} {fs : Array Field} {fuel : Nat} {cs : List Value} {α : Type} {enc : α → List DV} {ok : α → Prop} {f : Field} (hf : f ∈ fs.toList) {k : Nat} (hk : P.cellsOf f.type = k)
    (ho : OpensF henc P W fuel f.type enc ok) (h : ∀ f, f ∈ fs.toList → ∃ y, DataW.trod henc P W 0 (fun _ => true) true fuel f.type ((cs.drop f.offset).take (P.cellsOf f.type)) = some y) :
    ∃ x, ok x ∧ LV W (fun b _ => b < W.heap.size) noPlaces ((cs.drop f.offset).take k) (enc x) := by
  obtain ⟨y, hy⟩ := h f hf
  rw [hk] at hy
  exact ho _ y.1 y.2 hy

/-- A whole argument. -/
theorem Opens.arg {t : TypeId} {v : Value} {α : Type} {enc : α → List DV} {ok : α → Prop} (ho : ∀ fuel, OpensF henc P W fuel t enc ok) {d : DataW H} {ps : List MemPlace} (h : DataW.Trod henc P W 0 (fun _ => true) true t v d ps) :
    ∃ x, ok x ∧ LV W (fun b _ => b < W.heap.size) noPlaces v.cells.toList (enc x) := by
  obtain ⟨fuel, hf⟩ := h
  exact ho fuel _ _ _ hf

theorem LV.one {w : World} {pr : Nat → Nat → Prop} {i : Places} {v : Value} {d : DV} (h : LV w pr i v.cells.toList [d]) (hv : v.oneCell' = true) : V w pr i v d := by
  have : v.cells.toList = [v] := by cases v <;> first | rfl | cases hv
  rw [this] at h
  exact (h.2 0 (by simp)).2
theorem LV.agg {w : World} {pr : Nat → Nat → Prop} {i : Places} {vs : Array Value} {ds : List DV} (h : LV w pr i vs.toList ds) : V w pr i (.agg vs) (.agg ds) := by
  have e : ∀ j, vs.getD j undef = vs.toList.getD j undef := fun j => by simp [List.getD, Array.getD_eq_getD_getElem?]
  exact .agg _ _ _ (by simpa using h.1) (fun j hj => by rw [e]; exact (h.2 j hj).1) (fun j hj => by rw [e]; exact (h.2 j hj).2)

/-- A law's contract, as the row wants it: it returns true and nothing that was there has turned. -/
theorem law_calls {P : Program} {f : FuncId} {ds : List DV} {args : Array Value} {W : World} (h : ACalls P f ds [] (fun r => r = ⟨.bool true, [], [], []⟩)) (hs : args.size = ds.length)
    (hv : ∀ j, j < ds.length → V W (fun b _ => b < W.heap.size) noPlaces (args.getD j undef) (ds.getD j .any)) :
    Calls P f args W fun e w' => e = .returned (.bool true) ∧ RowKit.Below W.heap.size W w' := by
  refine (h W ⟨[], [], fun b _ => b < W.heap.size⟩ args rfl ⟨rfl, rfl, fun r b x hb => by simp at hb, fun r b x hb => by simp at hb, by simp, fun b o hp => ⟨hp, by simp, by simp⟩⟩ hs (fun j hj => (hv j hj).any_places _)).mono fun e w' hp => ?_
  obtain ⟨v, r, G', rfl, hE, hR, rfl⟩ := hp
  refine ⟨by rw [hR.val.bool_inv], hE.os, hE.tape, hE.output, hE.size, fun k hk => hE.old k hk (by simp)⟩

end
end Go.AL
