/-
  RT, part 19: new variables, slice literals, append.
-/
import Derived.Test.YtnbdahlceddihaaDoorR18
import Derived.IntWalk
namespace Go.RT
set_option linter.unusedVariables false

variable {E : TEnv}

theorem Flat.of_rows {w : World} {pr : Nat → Nat → Prop} {k : Nat} : ∀ {rows : List (List Value)} {es : List (List DV)}, rows.length = es.length → (∀ j, j < es.length → (es.getD j []).length = k) →
    (∀ j, j < es.length → LD w pr (rows.getD j []) (es.getD j [])) → Flat w pr k rows.flatten es
  | [], [], _, _, _ => Flat.nil
  | r :: rows, e :: es, hl, hk, h => by
    have h0 := h 0 (by simp)
    have hk0 := hk 0 (by simp)
    simp only [List.getD_cons_zero] at h0 hk0
    have ih := Flat.of_rows (k := k) (rows := rows) (es := es) (by simpa using hl) (fun j hj => by simpa using hk (j + 1) (by simpa using hj)) (fun j hj => by simpa using h (j + 1) (by simpa using hj))
    have h1 : Flat w pr k r [e] := by
      refine ⟨by simp [h0.length, hk0], fun j hj => ?_, fun j l hj hl' => ?_⟩
      · simp at hj; subst hj; simpa using hk0
      · simp at hj; subst hj
        have : ∀ {vs : List Value} {ds : List DV} (l : Nat), LD w pr vs ds → l < ds.length → VD w pr (vs.getD l undef) (ds.getD l default) := by
          intro vs
          induction vs with
          | nil => intro ds l h hl; cases ds with | nil => simp at hl | cons _ _ => exact h.elim
          | cons v vs ih =>
            intro ds l h hl
            cases ds with
            | nil => exact h.elim
            | cons d ds =>
              cases l with
              | zero => simpa using h.1
              | succ l => simpa using ih l h.2 (by simpa using hl)
        simpa using this l h0 (by rw [hk0]; exact hl')
    have := h1.append ih
    simpa using this
  | [], _ :: _, hl, _, _ => by simp at hl
  | _ :: _, [], hl, _, _ => by simp at hl

theorem VT.dat_cells {w : World} {G : Ghost} {T : Ty} {x : T.den E.D} {v : Value} (h : VT E w G (.dat T x) v) : LD w G.pr v.cells.toList (T.cells E x) := by
  cases ha : T.isAgg
  · have h0 := h.atom ha
    have h1 := h0.one v (by simp)
    have : v.cells = #[v] := by cases v <;> first | rfl | cases h1
    rw [this]; exact h0
  · obtain ⟨vs, rfl, h0⟩ := h.aggr ha
    exact h0

/-- Several values as data of one type. -/
def getList (T : Ty) : List (TV E) → Option (List (T.den E.D))
  | [] => some []
  | d :: ds => match d.get T, getList T ds with
    | some x, some xs => some (x :: xs)
    | _, _ => none
theorem getList_length {T : Ty} : ∀ {ds : List (TV E)} {xs : List (T.den E.D)}, getList T ds = some xs → xs.length = ds.length
  | [], xs, h => by cases h; rfl
  | d :: ds, xs, h => by
    simp only [getList] at h
    split at h <;> try (cases h; done)
    rename_i x xs' h1 h2
    cases h
    simp [getList_length h2]

def okZero (z : Value) (n : Nat) : Bool := Nat.beq z.cells.size n && z.cells.toList.all (·.oneCell')

section
variable {P : Program} {w0 w w' : World} {G0 G G' : Ghost} {st : TS E} {a : Act} {o : Oper}

theorem getList_ok (hr : Rel E w0 G0 st a w G) {T : Ty} : ∀ {l : List Operand} {xs : List (T.den E.D)}, getList T (l.map st.ev) = some xs →
    ∀ j, j < l.length → LD w G.pr ((l.map fun x => (a.eval x).cells.toList).getD j []) ((xs.map (T.cells E)).getD j [])
  | [], xs, _, j, hj => by simp at hj
  | x :: l, xs, h, j, hj => by
    simp only [List.map_cons, getList] at h
    split at h <;> try (cases h; done)
    rename_i y ys h1 h2
    cases h
    cases j with
    | zero => simpa using (TV.get_vt h1 (hr.ev x)).dat_cells
    | succ j => simpa using getList_ok hr h2 j (by simpa using hj)

theorem does_alloc (hr : Rel E w0 G0 st a w G) {t : TypeId} {i : TI} (ho : o.op = .alloc t) (ht : tinfo P t = some i) (hz : i.zero.cells.toList.all (·.oneCell') = true) :
    Does P w0 G0 a w o { st with t := setT st.t o.dst (.ptr st.H.length 0), H := st.H ++ [.cells t (i.zero.cells.toList.map TV.ofV)] } := by
  refine does_newBox (ob := .cells i.zero.cells t) hr ?_ ?_
  · exact ⟨i.zero.cells, heap_alloc_new w _, fun u hu => List.all_eq_true.1 hz u (by simpa using hu), VTs.ofValues⟩
  · obtain ⟨x, hx, hu, hs, hb, hzz⟩ := tinfo_some ht
    simp only [execOp, ho, Instr.alloc, Sem.run_bind, run_zeroValue' ht, Result.andThen_ok]
    rfl

theorem does_box (hE : E.Ok) (hr : Rel E w0 G0 st a w G) {t : TypeId} {x : Operand} (ho : o.op = .box t x) {cs : List (TV E)} (hc : (st.ev x).cellsT = some cs) :
    Does P w0 G0 a w o { st with t := setT st.t o.dst (.ptr st.H.length 0), H := st.H ++ [.cells t cs] } := by
  obtain ⟨h1, h2⟩ := cellsT_sound hE (hr.ev x) hc
  refine does_newBox (ob := .cells (a.eval x).cells t) hr ?_ ?_
  · have hg : Goes w G (w.alloc (.cells (a.eval x).cells t)) G := ⟨fun _ _ h => h, fun b o v _ hv => (Same.alloc w _).cell hv, fun _ _ h => h, fun j x y hj => ⟨x, y, hj, Nat.le_refl _, fun _ => rfl⟩⟩
    exact ⟨(a.eval x).cells, heap_alloc_new w _, h2, h1.mono hg⟩
  · simp only [execOp, ho, Instr.box, Sem.run_bind]
    rfl

/-- The new row's header in a slot. -/
theorem Rel.rowPut (h : Rel E w0 G0 st a w G) {e : TypeId} {k n cap : Nat} {cur : Array Value} (hsz : cur.size = cap * k) (hn : n ≤ cap) (hc0 : 0 < cap) (hcap : cap ≤ maxLen) {T : Ty} {xs : List (T.den E.D)} (hk : k = T.size E) (hl : xs.length = n)
    (hf : Flat w G.pr k (cur.toList.take (n * k)) (xs.map (T.cells E))) (dst : Option Nat) :
    ∃ G', Rel E w0 G0 { st with t := setT st.t dst (.gsl st.g.length 0 T xs), g := st.g ++ [⟨0, e, k⟩] } (a.put dst (.slice (some ⟨w.heap.size, 0, none⟩) n cap)) (w.alloc (.cells cur e)) G' := by
  have hN := h.newRow (e := e) hsz hn hc0 hcap
  refine ⟨_, hN.put (d := .gsl st.g.length 0 T xs) ?_ dst⟩
  simp only [VT]
  subst hk
  refine ⟨?_, ⟨0, e, T.size E⟩, _, ?_, Nat.le_refl _, fun _ => rfl⟩
  · have hlm : (xs.map (T.cells E)).length = n := by simp [hl]
    have := VD_row (w := w.alloc (.cells cur e)) (pr := fun b o => G.pr b o ∨ (b = w.heap.size ∧ o < n * T.size E)) (b := w.heap.size) (cap := cap) (es := xs.map (T.cells E)) (xs := cur.toList.take (n * T.size E)) (by rw [hlm]; exact hn)
      (fun q hq => by
        rw [hlm] at hq
        refine ⟨.inr ⟨rfl, hq⟩, ?_⟩
        rw [cell_of_row _ w.heap.size q cur e (0, 0) (heap_alloc_new w _)]
        have hq2 : q < cur.size := by rw [hsz]; exact Nat.lt_of_lt_of_le hq (Nat.mul_le_mul_right _ hn)
        simp [List.getD, hq, hq2])
      (hf.mono (fun _ _ h => .inl h) (fun b o v _ hv => (Same.alloc w _).cell hv))
    rw [hlm] at this
    exact this
  · have := h.boxes.gs
    have hl2 : G.g.length = st.g.length := by rw [← this]; simp
    show (G.g ++ [_])[st.g.length]? = _
    rw [List.getElem?_append_right (by omega)]
    simp [hl2]

/-- The elements of a slice literal, laid out. -/
theorem fill_rows {k : Nat} : ∀ (vs : List Value) (m : Nat) (cells : Array Value), (∀ v, v ∈ vs → v.cells.size = k) → (m + vs.length) * k ≤ cells.size →
    Instr.fill (fun i => some (i * k, k)) cells ((List.range' m vs.length).zip vs) = some (cells.toList.take (m * k) ++ (vs.map fun v => v.cells.toList).flatten ++ cells.toList.drop ((m + vs.length) * k)).toArray
  | [], m, cells, _, _ => by simp [Instr.fill]
  | v :: vs, m, cells, hk, hle => by
    have hv := hk v (by simp)
    have hle' : (m + 1 + vs.length) * k ≤ cells.size := by simpa [Nat.add_comm, Nat.add_left_comm, Nat.add_assoc] using hle
    have hmk : m * k + k ≤ cells.size := by
      have : (m + 1) * k ≤ (m + 1 + vs.length) * k := Nat.mul_le_mul_right k (by omega)
      rw [Nat.add_mul, Nat.one_mul] at this
      omega
    simp only [List.length_cons, List.range'_succ, List.zip_cons_cons]
    rw [fill_step rfl hv hmk]
    have hcl : cells.toList.length = cells.size := Array.length_toList
    have hsz : (cells.toList.take (m * k) ++ v.cells.toList ++ cells.toList.drop (m * k + v.cells.size)).toArray.size = cells.size := by
      simp only [List.size_toArray, List.length_append, List.length_take, List.length_drop, hcl, Array.length_toList, hv]; omega
    rw [fill_rows vs (m + 1) _ (fun u hu => hk u (by simp [hu])) (by rw [hsz]; exact hle')]
    congr 2
    simp only [List.map_cons, List.flatten_cons]
    have hl2 : (cells.toList.take (m * k) ++ v.cells.toList).length = (m + 1) * k := by
      rw [List.length_append, List.length_take, hcl, Array.length_toList, hv, Nat.add_mul, Nat.one_mul]; omega
    rw [List.take_append_of_le_length (by rw [hl2]; exact Nat.le_refl _), ← hl2, List.take_length]
    have hd : (cells.toList.take (m * k) ++ v.cells.toList ++ cells.toList.drop (m * k + v.cells.size)).drop ((m + 1 + vs.length) * k) = cells.toList.drop ((m + (vs.length + 1)) * k) := by
      rw [List.drop_append, hl2]
      have h0 : (cells.toList.take (m * k) ++ v.cells.toList).drop ((m + 1 + vs.length) * k) = [] := by
        apply List.drop_eq_nil_of_le
        rw [hl2]
        exact Nat.mul_le_mul_right k (by omega)
      rw [h0, List.nil_append, List.drop_drop, hv]
      congr 1
      have e1 : (m + 1 + vs.length) * k = (m + 1) * k + vs.length * k := Nat.add_mul _ _ _
      have e2 : (m + (vs.length + 1)) * k = m * k + (vs.length * k + k) := by rw [Nat.add_mul, Nat.add_mul, Nat.one_mul]
      have e3 : (m + 1) * k = m * k + k := by rw [Nat.add_mul, Nat.one_mul]
      omega
    rw [hd]
    simp [List.append_assoc]

theorem does_buildSlice (hE : E.Ok) (hr : Rel E w0 G0 st a w G) {t e : TypeId} {len : Nat} {parts : Array (Nat × Operand)} {j1 j2 : Nat} {z : Value} {ie : TI} (ho : o.op = .buildSlice t len parts)
    (ht : tinfo P t = some ⟨.slice e, j1, j2, z⟩) (hi : tinfo P e = some ie) (h1 : parts.toList.map (·.1) = List.range len) (h2 : len * ie.size ≤ 16777216) (h3 : 0 < ie.size) (h0' : 0 < len)
    {T : Ty} {xs : List (T.den E.D)} (hk : ie.size = T.size E) (hx : getList T (parts.toList.map fun p => st.ev p.2) = some xs) :
    Does P w0 G0 a w o { st with t := setT st.t o.dst (.gsl st.g.length 0 T xs), g := st.g ++ [⟨0, e, ie.size⟩] } := by
  obtain ⟨xt, hxt, hut, -⟩ := tinfo_some ht
  obtain ⟨xe, hxe, hue, hsz, -⟩ := tinfo_some hi
  have hlen : parts.toList.length = len := by simpa using congrArg List.length h1
  let vs := parts.toList.map fun p => a.eval p.2
  have hvl : vs.length = len := by simp [vs, hlen]
  have hrowsL := getList_ok hr (l := parts.toList.map (·.2)) (T := T) (xs := xs) (by rw [List.map_map]; exact hx)
  have hxl := getList_length hx
  have hrow : (parts.toList.map (·.2)).map (fun x => (a.eval x).cells.toList) = vs.map fun v => v.cells.toList := by simp [vs, List.map_map, Function.comp_def]
  rw [hrow] at hrowsL
  have hxlen : xs.length = len := by rw [hxl]; simp [hlen]
  have hck : ∀ j, j < (xs.map (T.cells E)).length → ((xs.map (T.cells E)).getD j []).length = ie.size := fun j hj => by
    have hj' : j < xs.length := by simpa using hj
    rw [hk, show (xs.map (T.cells E)).getD j [] = T.cells E xs[j] by simp [List.getD, hj'], Ty.cells_length E hE]
  have hflat : Flat w G.pr ie.size (vs.map fun v => v.cells.toList).flatten (xs.map (T.cells E)) :=
    Flat.of_rows (by simp [hvl, hxlen]) hck (fun j hj => hrowsL j (by rw [List.length_map]; rw [List.length_map, hxlen] at hj; rw [hlen]; exact hj))
  have hvk : ∀ v, v ∈ vs → v.cells.size = ie.size := by
    intro v hv
    obtain ⟨j, hj, rfl⟩ := List.getElem_of_mem hv
    have hjl : j < len := by rw [← hvl]; exact hj
    have := (hrowsL j (by simpa [hlen] using hjl)).length
    rw [hck j (by simpa [hxlen] using hjl)] at this
    simpa [List.getD, hj] using this
  have hzip : (parts.map fun (i, x) => (i, a.eval x)).toList = (List.range' 0 vs.length).zip vs := by
    rw [hvl, ← List.range_eq_range', ← h1]
    simp only [Array.toList_map, vs]
    generalize parts.toList = l
    induction l with
    | nil => rfl
    | cons p l ih => simp [ih]
  let zero : Array Value := if len * ie.size = 0 then #[] else ie.zero.cells
  let base : Array Value := (Array.range (len * ie.size)).map (zero[· % zero.size]!)
  have hbs : base.size = len * ie.size := by simp [base]
  have hfill := fill_rows (k := ie.size) vs 0 base hvk (by rw [hbs, hvl]; simp)
  have hbl : base.toList.length = base.size := Array.length_toList
  let cs : Array Value := ((vs.map fun v => v.cells.toList).flatten).toArray
  have hfill' : Instr.fill (fun i => some (i * ie.size, ie.size)) base (parts.map fun (i, x) => (i, a.eval x)).toList = some cs := by
    rw [hzip, hfill, hvl]
    have : base.toList.drop ((0 + len) * ie.size) = [] := List.drop_eq_nil_of_le (by rw [hbl, hbs, Nat.zero_add]; exact Nat.le_refl _)
    rw [this]; simp [cs]
  have hrun : (execOp a.eval o).run P w = .ok (.value (.slice (some ⟨w.heap.size, 0, none⟩) len len)) (w.alloc (.cells cs e)) := by
    simp only [execOp, ho, Instr.buildSlice, Sem.run_bind, run_underlying' hut, Result.andThen_ok, run_sizeOf' hxe, hsz]
    rw [if_neg (show ¬ len * ie.size > 2 ^ 24 by simpa using h2)]
    have hfill2 : Instr.fill (fun i => some (i * ie.size, ie.size)) ((Array.range (len * ie.size)).map (zero[· % zero.size]!)) (parts.map fun x => (x.1, a.eval x.2)).toList = some cs := hfill'
    by_cases h0 : len * ie.size = 0
    · rw [if_pos h0]
      have hz : zero = #[] := by simp only [zero, if_pos h0]
      rw [hz] at hfill2
      simp only [Sem.run_bind, Sem.run_pure, Result.andThen_ok, hfill2, newRow]
      rfl
    · rw [if_neg h0]
      have hz : zero = ie.zero.cells := by simp only [zero, if_neg h0]
      rw [hz] at hfill2
      simp only [Sem.run_bind, Sem.run_pure, run_zeroValue' hi, Result.andThen_ok, hfill2, newRow]
      rfl
  have hcs : cs.size = len * ie.size := by
    have := hflat.1
    simp only [cs, List.size_toArray, this]; simp [hxlen]
  obtain ⟨G', hG'⟩ := hr.rowPut (e := e) (k := ie.size) (n := len) (cap := len) (cur := cs) hcs (Nat.le_refl _) h0' (by
      have : len ≤ len * ie.size := Nat.le_mul_of_pos_right _ h3
      have hm : maxLen = 9223372036854775807 := rfl
      omega) hk hxlen (by
      have e1 : cs.toList.take (len * ie.size) = (vs.map fun v => v.cells.toList).flatten := by
        have e0 : cs.toList = (vs.map fun v => v.cells.toList).flatten := by simp only [cs]
        rw [e0, List.take_of_length_le]
        rw [hflat.1, List.length_map, hxlen]
        exact Nat.le_refl _
      rw [e1]; exact hflat) o.dst
  exact ⟨_, _, _, G', hrun, .inl rfl, hG'⟩

theorem src_list (hr : Rel E w0 G0 st a w G) {y : Operand} {tx : TypeId} {ix : TI} {e' : TypeId} (htx : tinfo P tx = some ix) (hkx : ix.kind = .slice e') {T : Ty} (hk0 : 0 < T.size E) {xs : List (T.den E.D)}
    (hd : VD w G.pr (a.eval y) (.slice (T.size E) (xs.map (T.cells E)))) : ∃ news, Src P (T.size E) tx (a.eval y) xs.length news w ∧ Flat w G.pr (T.size E) news (xs.map (T.cells E)) := by
  obtain ⟨xt, hxt, hut, -⟩ := tinfo_some htx
  rw [hkx] at hut
  obtain ⟨cs, hfl, hcase⟩ := hd.flat hk0
  refine ⟨cs, ?_, hfl⟩
  have hone := hfl.one hk0
  have hl : (xs.map (T.cells E)).length = xs.length := by simp
  rcases hcase with ⟨ad, he, hn⟩ | ⟨b, off, cap, he, hcap, hcells⟩
  · have hx : cs = [] := List.eq_nil_of_length_eq_zero (by rw [hfl.1, hn]; simp)
    have hx' : xs = [] := by simpa using hn
    subst hx'
    rw [he, hx]
    cases ad with
    | none => exact Src.ofNil w hut 0
    | some ad => exact Src.ofSlice w hut ad 0 0 [] (by simp) (fun j u hu => by simp at hu) (fun u hu => by simp at hu)
  · rw [he, hl]
    refine Src.ofSlice w hut _ _ _ cs (by rw [hfl.1, hl]) (fun j u hu => ?_) hone
    have hj : j < cs.length := (List.getElem?_eq_some_iff.1 hu).1
    have := (hcells j (by rw [← hfl.1]; exact hj)).2
    rw [add_lit, this]
    simp [List.getD, hu]

def toInts (l : List UInt8) : List Int := l.map fun b => (b.toNat : Int)

theorem src_string (hr : Rel E w0 G0 st a w G) {y : Operand} {tx : TypeId} {ix : TI} (htx : tinfo P tx = some ix) (hkx : ix.kind = .string) {l : List UInt8} (hd : st.ev y = .dat .str l) :
    ∃ news, Src P 1 tx (a.eval y) l.length news w ∧ Flat w G.pr 1 news ((toInts l).map (Ty.cells E (.int .u8))) := by
  obtain ⟨xt, hxt, hut, -⟩ := tinfo_some htx
  rw [hkx] at hut
  have hv := hr.ev y
  rw [hd] at hv
  rw [hv.str_inv]
  refine ⟨byteCells ⟨⟨l⟩⟩, ?_, ?_⟩
  · exact Src.ofString (P := P) w hut ⟨⟨l⟩⟩
  · refine ⟨by simp [byteCells, toInts], fun j hj => ?_, fun j k hj hk => ?_⟩
    · simp [toInts] at hj
      simp [List.getD, hj, toInts, Ty.cells]
    · simp [toInts] at hj
      obtain rfl : k = 0 := by omega
      have e1 : (byteCells ⟨⟨l⟩⟩).getD (j * 1 + 0) undef = .int .u8 l[j].toNat := by simp [byteCells, List.getD, hj]
      have e2 : (((toInts l).map (Ty.cells E (.int .u8))).getD j []).getD 0 default = .int .u8 l[j].toNat := by simp [List.getD, hj, toInts, Ty.cells]
      rw [e1, e2]
      exact .int _ _

/-- Append to the present header of a growable row. -/
theorem does_append (hE : E.Ok) (hr : Rel E w0 G0 st a w G) {c : Call} {x y : Operand} {t tx e : TypeId} {j1 j2 : Nat} {z : Value} {ie : TI} (ho : o.op = .call c) (hcl : c.callee = .builtin .append)
    (ha : c.args.toList = [x, y]) (hat : c.argTypes.toList = [t, tx]) (ht : tinfo P t = some ⟨.slice e, j1, j2, z⟩) (hi : tinfo P e = some ie) {j ver : Nat} {T : Ty} {xs ys : List (T.den E.D)}
    (hx : st.ev x = .gsl j ver T xs) {g : TGrow} (hg : st.g[j]? = some g) (hver : g.ver = ver) (hge : g.e = e) (hgk : g.k = ie.size) (hk : ie.size = T.size E) (hk0 : 0 < ie.size) (hzs : ie.zero.cells.size = ie.size)
    (h63 : xs.length + ys.length ≤ 9223372036854775807) (hbytes : (xs.length + ys.length) * ie.bytes ≤ 140737488355328)
    {news : List Value} (hsrc : Src P ie.size tx (a.eval y) ys.length news w) (hf : Flat w G.pr ie.size news (ys.map (T.cells E))) :
    Does P w0 G0 a w o { st with t := setT st.t o.dst (.gsl j (g.ver + 1) T (xs ++ ys)), g := st.g.set j { g with ver := g.ver + 1 } } := by
  have ha' : c.args = #[x, y] := by rw [← Array.toArray_toList (xs := c.args), ha]
  have hat' : c.argTypes = #[t, tx] := by rw [← Array.toArray_toList (xs := c.argTypes), hat]
  have hv := hr.ev x
  rw [hx] at hv
  simp only [VT] at hv
  obtain ⟨hvd, gx, gh, hgj, hle, heq⟩ := hv
  have hgg : gx = g := by
    have := hr.boxes.gs
    have h2 : (G.g.map (·.1))[j]? = some gx := by simp [hgj]
    rw [this, hg] at h2
    exact (Option.some.inj h2).symm
  subst hgg
  have hve := heq hver.symm
  rw [← hve] at hgj
  have hl1 : (xs.map (T.cells E)).length = xs.length := by simp
  have hl2 : (ys.map (T.cells E)).length = ys.length := by simp
  obtain ⟨v', w', pr', hrun, hR, hV⟩ := hr.append (P := P) (t := t) (tx := tx) (ty := o.type) (i := ie) (e := e) ht hi hk0 hzs hgj hge hgk (es := xs.map (T.cells E)) (fs := ys.map (T.cells E)) (y := a.eval y) (news := news)
    (by rw [hk]; exact hvd) (by rw [hl2]; exact hsrc) hf (by rw [hl1, hl2]; exact h63) (by rw [hl1, hl2]; exact hbytes)
  refine ⟨.value v', v', w', _, ?_, .inl rfl, hR.put (d := .gsl j (gx.ver + 1) T (xs ++ ys)) ?_ o.dst⟩
  · unfold execOp
    simp only [ho, resolve, hcl, Sem.run_bind, Sem.run_pure, Result.andThen_ok, invoke, builtin, ha', hat', List.map_toArray, List.map_cons, List.map_nil]
    rw [hrun]
    rfl
  · simp only [VT]
    have hjl : j < G.g.length := (List.getElem?_eq_some_iff.1 hgj).1
    refine ⟨by rw [List.map_append, ← hk]; exact hV, { gx with ver := gx.ver + 1 }, v', by simp [hjl], Nat.le_refl _, fun _ => rfl⟩
end

end Go.RT
