/-
  RT: parts 19 to 24.
-/
import Derived.Test.YtamjncikmfpihaaGreatDoorRc
import Derived.IntWalk
import Derived.Lib.UnsafeStr
import Derived.Laws.BytesString
import Derived.Lib.Builder
/-
  RT, part 19: new variables, slice literals, append.
-/
namespace Go.RT
set_option linter.unusedVariables false

variable {E : TEnv}

theorem Flat.of_rows {w : World} {pr : Nat → Nat → Prop} {k : Nat} : ∀ {rows : List (List Value)} {es : List (List DV)}, rows.length = es.length → (∀ j, j < es.length → (es.getD j []).length = k) →
    (∀ j, j < es.length → LD w pr (rows.getD j []) (es.getD j [])) → Flat w pr k rows.flatten es
  | [], [], _, _, _ => Flat.nil
  | r :: rows, e :: es, hl, hk, h => by
    have h0 := h 0 (by simp)
    have hk0 := hk 0 (by simp)
    simp only [List.getD_cons_zero] at h0 hk0
    have ih := Flat.of_rows (k := k) (rows := rows) (es := es) (by simpa using hl) (fun j hj => by simpa using hk (j + 1) (by simpa using hj)) (fun j hj => by simpa using h (j + 1) (by simpa using hj))
    have h1 : Flat w pr k r [e] := by
      refine ⟨by simp [h0.length, hk0], fun j hj => ?_, fun j l hj hl' => ?_⟩
      · simp at hj; subst hj; simpa using hk0
      · simp at hj; subst hj
        have : ∀ {vs : List Value} {ds : List DV} (l : Nat), LD w pr vs ds → l < ds.length → VD w pr (vs.getD l undef) (ds.getD l default) := by
          intro vs
          induction vs with
          | nil => intro ds l h hl; cases ds with | nil => simp at hl | cons _ _ => exact h.elim
          | cons v vs ih =>
            intro ds l h hl
            cases ds with
            | nil => exact h.elim
            | cons d ds =>
              cases l with
              | zero => simpa using h.1
              | succ l => simpa using ih l h.2 (by simpa using hl)
        simpa using this l h0 (by rw [hk0]; exact hl')
    have := h1.append ih
    simpa using this
  | [], _ :: _, hl, _, _ => by simp at hl
  | _ :: _, [], hl, _, _ => by simp at hl

theorem VT.dat_cells {w : World} {G : Ghost} {T : Ty} {x : T.den E.D} {v : Value} (h : VT E w G (.dat T x) v) : LD w G.pr v.cells.toList (T.cells E x) := by
  cases ha : T.isAgg
  · have h0 := h.atom ha
    have h1 := h0.one v (by simp)
    have : v.cells = #[v] := by cases v <;> first | rfl | cases h1
    rw [this]; exact h0
  · obtain ⟨vs, rfl, h0⟩ := h.aggr ha
    exact h0

/-- Several values as data of one type. -/
def getList (T : Ty) : List (TV E) → Option (List (T.den E.D))
  | [] => some []
  | d :: ds => match d.get T, getList T ds with
    | some x, some xs => some (x :: xs)
    | _, _ => none
theorem getList_length {T : Ty} : ∀ {ds : List (TV E)} {xs : List (T.den E.D)}, getList T ds = some xs → xs.length = ds.length
  | [], xs, h => by cases h; rfl
  | d :: ds, xs, h => by
    simp only [getList] at h
    split at h <;> try (cases h; done)
    rename_i x xs' h1 h2
    cases h
    simp [getList_length h2]

def okZero (z : Value) (n : Nat) : Bool := Nat.beq z.cells.size n && z.cells.toList.all (·.oneCell')

section
variable {P : Program} {w0 w w' : World} {G0 G G' : Ghost} {st : TS E} {a : Act} {o : Oper}

theorem getList_ok (hr : Rel E w0 G0 st a w G) {T : Ty} : ∀ {l : List Operand} {xs : List (T.den E.D)}, getList T (l.map st.ev) = some xs →
    ∀ j, j < l.length → LD w G.pr ((l.map fun x => (a.eval x).cells.toList).getD j []) ((xs.map (T.cells E)).getD j [])
  | [], xs, _, j, hj => by simp at hj
  | x :: l, xs, h, j, hj => by
    simp only [List.map_cons, getList] at h
    split at h <;> try (cases h; done)
    rename_i y ys h1 h2
    cases h
    cases j with
    | zero => simpa using (TV.get_vt h1 (hr.ev x)).dat_cells
    | succ j => simpa using getList_ok hr h2 j (by simpa using hj)

theorem does_alloc (hr : Rel E w0 G0 st a w G) {t : TypeId} {i : TI} (ho : o.op = .alloc t) (ht : tinfo P t = some i) (hz : i.zero.cells.toList.all (·.oneCell') = true) :
    Does P w0 G0 a w o { st with t := setT st.t o.dst (.ptr st.H.length 0), H := st.H ++ [.cells t (i.zero.cells.toList.map TV.ofV)] } := by
  refine does_newBox (ob := .cells i.zero.cells t) hr ?_ ?_
  · exact ⟨i.zero.cells, heap_alloc_new w _, fun u hu => List.all_eq_true.1 hz u (by simpa using hu), VTs.ofValues⟩
  · obtain ⟨x, hx, hu, hs, hb, hzz⟩ := tinfo_some ht
    simp only [execOp, ho, Instr.alloc, Sem.run_bind, run_zeroValue' ht, Result.andThen_ok]
    rfl

theorem does_box (hE : E.Ok) (hr : Rel E w0 G0 st a w G) {t : TypeId} {x : Operand} (ho : o.op = .box t x) {cs : List (TV E)} (hc : (st.ev x).cellsT = some cs) :
    Does P w0 G0 a w o { st with t := setT st.t o.dst (.ptr st.H.length 0), H := st.H ++ [.cells t cs] } := by
  obtain ⟨h1, h2⟩ := cellsT_sound hE (hr.ev x) hc
  refine does_newBox (ob := .cells (a.eval x).cells t) hr ?_ ?_
  · have hg : Goes w G (w.alloc (.cells (a.eval x).cells t)) G := ⟨fun _ _ h => h, fun b o v _ hv => (Same.alloc w _).cell hv, fun _ _ h => h, fun j x y hj => ⟨x, y, hj, Nat.le_refl _, fun _ => rfl⟩⟩
    exact ⟨(a.eval x).cells, heap_alloc_new w _, h2, h1.mono hg⟩
  · simp only [execOp, ho, Instr.box, Sem.run_bind]
    rfl

/-- The new row's header in a slot. -/
theorem Rel.rowPut (h : Rel E w0 G0 st a w G) {e : TypeId} {k n cap : Nat} {cur : Array Value} (hsz : cur.size = cap * k) (hn : n ≤ cap) (hc0 : 0 < cap) (hcap : cap ≤ maxLen) {T : Ty} {xs : List (T.den E.D)} (hk : k = T.size E) (hl : xs.length = n)
    (hf : Flat w G.pr k (cur.toList.take (n * k)) (xs.map (T.cells E))) (dst : Option Nat) :
    ∃ G', Rel E w0 G0 { st with t := setT st.t dst (.gsl st.g.length 0 T xs), g := st.g ++ [⟨0, e, k⟩] } (a.put dst (.slice (some ⟨w.heap.size, 0, none⟩) n cap)) (w.alloc (.cells cur e)) G' := by
  have hN := h.newRow (e := e) hsz hn hc0 hcap
  refine ⟨_, hN.put (d := .gsl st.g.length 0 T xs) ?_ dst⟩
  simp only [VT]
  subst hk
  refine ⟨?_, ⟨0, e, T.size E⟩, _, ?_, Nat.le_refl _, fun _ => rfl⟩
  · have hlm : (xs.map (T.cells E)).length = n := by simp [hl]
    have := VD_row (w := w.alloc (.cells cur e)) (pr := fun b o => G.pr b o ∨ (b = w.heap.size ∧ o < n * T.size E)) (b := w.heap.size) (cap := cap) (es := xs.map (T.cells E)) (xs := cur.toList.take (n * T.size E)) (by rw [hlm]; exact hn)
      (fun q hq => by
        rw [hlm] at hq
        refine ⟨.inr ⟨rfl, hq⟩, ?_⟩
        rw [cell_of_row _ w.heap.size q cur e (0, 0) (heap_alloc_new w _)]
        have hq2 : q < cur.size := by rw [hsz]; exact Nat.lt_of_lt_of_le hq (Nat.mul_le_mul_right _ hn)
        simp [List.getD, hq, hq2])
      (hf.mono (fun _ _ h => .inl h) (fun b o v _ hv => (Same.alloc w _).cell hv))
    rw [hlm] at this
    exact this
  · have := h.boxes.gs
    have hl2 : G.g.length = st.g.length := by rw [← this]; simp
    show (G.g ++ [_])[st.g.length]? = _
    rw [List.getElem?_append_right (by omega)]
    simp [hl2]

/-- The elements of a slice literal, laid out. -/
theorem fill_rows {k : Nat} : ∀ (vs : List Value) (m : Nat) (cells : Array Value), (∀ v, v ∈ vs → v.cells.size = k) → (m + vs.length) * k ≤ cells.size →
    Instr.fill (fun i => some (i * k, k)) cells ((List.range' m vs.length).zip vs) = some (cells.toList.take (m * k) ++ (vs.map fun v => v.cells.toList).flatten ++ cells.toList.drop ((m + vs.length) * k)).toArray
  | [], m, cells, _, _ => by simp [Instr.fill]
  | v :: vs, m, cells, hk, hle => by
    have hv := hk v (by simp)
    have hle' : (m + 1 + vs.length) * k ≤ cells.size := by simpa [Nat.add_comm, Nat.add_left_comm, Nat.add_assoc] using hle
    have hmk : m * k + k ≤ cells.size := by
      have : (m + 1) * k ≤ (m + 1 + vs.length) * k := Nat.mul_le_mul_right k (by omega)
      rw [Nat.add_mul, Nat.one_mul] at this
      omega
    simp only [List.length_cons, List.range'_succ, List.zip_cons_cons]
    rw [fill_step rfl hv hmk]
    have hcl : cells.toList.length = cells.size := Array.length_toList
    have hsz : (cells.toList.take (m * k) ++ v.cells.toList ++ cells.toList.drop (m * k + v.cells.size)).toArray.size = cells.size := by
      simp only [List.size_toArray, List.length_append, List.length_take, List.length_drop, hcl, Array.length_toList, hv]; omega
    rw [fill_rows vs (m + 1) _ (fun u hu => hk u (by simp [hu])) (by rw [hsz]; exact hle')]
    congr 2
    simp only [List.map_cons, List.flatten_cons]
    have hl2 : (cells.toList.take (m * k) ++ v.cells.toList).length = (m + 1) * k := by
      rw [List.length_append, List.length_take, hcl, Array.length_toList, hv, Nat.add_mul, Nat.one_mul]; omega
    rw [List.take_append_of_le_length (by rw [hl2]; exact Nat.le_refl _), ← hl2, List.take_length]
    have hd : (cells.toList.take (m * k) ++ v.cells.toList ++ cells.toList.drop (m * k + v.cells.size)).drop ((m + 1 + vs.length) * k) = cells.toList.drop ((m + (vs.length + 1)) * k) := by
      rw [List.drop_append, hl2]
      have h0 : (cells.toList.take (m * k) ++ v.cells.toList).drop ((m + 1 + vs.length) * k) = [] := by
        apply List.drop_eq_nil_of_le
        rw [hl2]
        exact Nat.mul_le_mul_right k (by omega)
      rw [h0, List.nil_append, List.drop_drop, hv]
      congr 1
      have e1 : (m + 1 + vs.length) * k = (m + 1) * k + vs.length * k := Nat.add_mul _ _ _
      have e2 : (m + (vs.length + 1)) * k = m * k + (vs.length * k + k) := by rw [Nat.add_mul, Nat.add_mul, Nat.one_mul]
      have e3 : (m + 1) * k = m * k + k := by rw [Nat.add_mul, Nat.one_mul]
      omega
    rw [hd]
    simp [List.append_assoc]

theorem does_buildSlice (hE : E.Ok) (hr : Rel E w0 G0 st a w G) {t e : TypeId} {len : Nat} {parts : Array (Nat × Operand)} {j1 j2 : Nat} {z : Value} {ie : TI} (ho : o.op = .buildSlice t len parts)
    (ht : tinfo P t = some ⟨.slice e, j1, j2, z⟩) (hi : tinfo P e = some ie) (h1 : parts.toList.map (·.1) = List.range len) (h2 : len * ie.size ≤ 16777216) (h3 : 0 < ie.size) (h0' : 0 < len)
    {T : Ty} {xs : List (T.den E.D)} (hk : ie.size = T.size E) (hx : getList T (parts.toList.map fun p => st.ev p.2) = some xs) :
    Does P w0 G0 a w o { st with t := setT st.t o.dst (.gsl st.g.length 0 T xs), g := st.g ++ [⟨0, e, ie.size⟩] } := by
  obtain ⟨xt, hxt, hut, -⟩ := tinfo_some ht
  obtain ⟨xe, hxe, hue, hsz, -⟩ := tinfo_some hi
  have hlen : parts.toList.length = len := by simpa using congrArg List.length h1
  let vs := parts.toList.map fun p => a.eval p.2
  have hvl : vs.length = len := by simp [vs, hlen]
  have hrowsL := getList_ok hr (l := parts.toList.map (·.2)) (T := T) (xs := xs) (by rw [List.map_map]; exact hx)
  have hxl := getList_length hx
  have hrow : (parts.toList.map (·.2)).map (fun x => (a.eval x).cells.toList) = vs.map fun v => v.cells.toList := by simp [vs, List.map_map, Function.comp_def]
  rw [hrow] at hrowsL
  have hxlen : xs.length = len := by rw [hxl]; simp [hlen]
  have hck : ∀ j, j < (xs.map (T.cells E)).length → ((xs.map (T.cells E)).getD j []).length = ie.size := fun j hj => by
    have hj' : j < xs.length := by simpa using hj
    rw [hk, show (xs.map (T.cells E)).getD j [] = T.cells E xs[j] by simp [List.getD, hj'], Ty.cells_length E hE]
  have hflat : Flat w G.pr ie.size (vs.map fun v => v.cells.toList).flatten (xs.map (T.cells E)) :=
    Flat.of_rows (by simp [hvl, hxlen]) hck (fun j hj => hrowsL j (by rw [List.length_map]; rw [List.length_map, hxlen] at hj; rw [hlen]; exact hj))
  have hvk : ∀ v, v ∈ vs → v.cells.size = ie.size := by
    intro v hv
    obtain ⟨j, hj, rfl⟩ := List.getElem_of_mem hv
    have hjl : j < len := by rw [← hvl]; exact hj
    have := (hrowsL j (by simpa [hlen] using hjl)).length
    rw [hck j (by simpa [hxlen] using hjl)] at this
    simpa [List.getD, hj] using this
  have hzip : (parts.map fun (i, x) => (i, a.eval x)).toList = (List.range' 0 vs.length).zip vs := by
    rw [hvl, ← List.range_eq_range', ← h1]
    simp only [Array.toList_map, vs]
    generalize parts.toList = l
    induction l with
    | nil => rfl
    | cons p l ih => simp [ih]
  let zero : Array Value := if len * ie.size = 0 then #[] else ie.zero.cells
  let base : Array Value := (Array.range (len * ie.size)).map (zero[· % zero.size]!)
  have hbs : base.size = len * ie.size := by simp [base]
  have hfill := fill_rows (k := ie.size) vs 0 base hvk (by rw [hbs, hvl]; simp)
  have hbl : base.toList.length = base.size := Array.length_toList
  let cs : Array Value := ((vs.map fun v => v.cells.toList).flatten).toArray
  have hfill' : Instr.fill (fun i => some (i * ie.size, ie.size)) base (parts.map fun (i, x) => (i, a.eval x)).toList = some cs := by
    rw [hzip, hfill, hvl]
    have : base.toList.drop ((0 + len) * ie.size) = [] := List.drop_eq_nil_of_le (by rw [hbl, hbs, Nat.zero_add]; exact Nat.le_refl _)
    rw [this]; simp [cs]
  have hrun : (execOp a.eval o).run P w = .ok (.value (.slice (some ⟨w.heap.size, 0, none⟩) len len)) (w.alloc (.cells cs e)) := by
    simp only [execOp, ho, Instr.buildSlice, Sem.run_bind, run_underlying' hut, Result.andThen_ok, run_sizeOf' hxe, hsz]
    rw [if_neg (show ¬ len * ie.size > 2 ^ 24 by simpa using h2)]
    have hfill2 : Instr.fill (fun i => some (i * ie.size, ie.size)) ((Array.range (len * ie.size)).map (zero[· % zero.size]!)) (parts.map fun x => (x.1, a.eval x.2)).toList = some cs := hfill'
    by_cases h0 : len * ie.size = 0
    · rw [if_pos h0]
      have hz : zero = #[] := by simp only [zero, if_pos h0]
      rw [hz] at hfill2
      simp only [Sem.run_bind, Sem.run_pure, Result.andThen_ok, hfill2, newRow]
      rfl
    · rw [if_neg h0]
      have hz : zero = ie.zero.cells := by simp only [zero, if_neg h0]
      rw [hz] at hfill2
      simp only [Sem.run_bind, Sem.run_pure, run_zeroValue' hi, Result.andThen_ok, hfill2, newRow]
      rfl
  have hcs : cs.size = len * ie.size := by
    have := hflat.1
    simp only [cs, List.size_toArray, this]; simp [hxlen]
  obtain ⟨G', hG'⟩ := hr.rowPut (e := e) (k := ie.size) (n := len) (cap := len) (cur := cs) hcs (Nat.le_refl _) h0' (by
      have : len ≤ len * ie.size := Nat.le_mul_of_pos_right _ h3
      have hm : maxLen = 9223372036854775807 := rfl
      omega) hk hxlen (by
      have e1 : cs.toList.take (len * ie.size) = (vs.map fun v => v.cells.toList).flatten := by
        have e0 : cs.toList = (vs.map fun v => v.cells.toList).flatten := by simp only [cs]
        rw [e0, List.take_of_length_le]
        rw [hflat.1, List.length_map, hxlen]
        exact Nat.le_refl _
      rw [e1]; exact hflat) o.dst
  exact ⟨_, _, _, G', hrun, .inl rfl, hG'⟩

theorem src_list (hr : Rel E w0 G0 st a w G) {y : Operand} {tx : TypeId} {ix : TI} {e' : TypeId} (htx : tinfo P tx = some ix) (hkx : ix.kind = .slice e') {T : Ty} (hk0 : 0 < T.size E) {xs : List (T.den E.D)}
    (hd : VD w G.pr (a.eval y) (.slice (T.size E) (xs.map (T.cells E)))) : ∃ news, Src P (T.size E) tx (a.eval y) xs.length news w ∧ Flat w G.pr (T.size E) news (xs.map (T.cells E)) := by
  obtain ⟨xt, hxt, hut, -⟩ := tinfo_some htx
  rw [hkx] at hut
  obtain ⟨cs, hfl, hcase⟩ := hd.flat hk0
  refine ⟨cs, ?_, hfl⟩
  have hone := hfl.one hk0
  have hl : (xs.map (T.cells E)).length = xs.length := by simp
  rcases hcase with ⟨ad, he, hn⟩ | ⟨b, off, cap, he, hcap, hcells⟩
  · have hx : cs = [] := List.eq_nil_of_length_eq_zero (by rw [hfl.1, hn]; simp)
    have hx' : xs = [] := by simpa using hn
    subst hx'
    rw [he, hx]
    cases ad with
    | none => exact Src.ofNil w hut 0
    | some ad => exact Src.ofSlice w hut ad 0 0 [] (by simp) (fun j u hu => by simp at hu) (fun u hu => by simp at hu)
  · rw [he, hl]
    refine Src.ofSlice w hut _ _ _ cs (by rw [hfl.1, hl]) (fun j u hu => ?_) hone
    have hj : j < cs.length := (List.getElem?_eq_some_iff.1 hu).1
    have := (hcells j (by rw [← hfl.1]; exact hj)).2
    rw [add_lit, this]
    simp [List.getD, hu]

def toInts (l : List UInt8) : List Int := l.map fun b => (b.toNat : Int)

theorem src_string (hr : Rel E w0 G0 st a w G) {y : Operand} {tx : TypeId} {ix : TI} (htx : tinfo P tx = some ix) (hkx : ix.kind = .string) {l : List UInt8} (hd : st.ev y = .dat .str l) :
    ∃ news, Src P 1 tx (a.eval y) l.length news w ∧ Flat w G.pr 1 news ((toInts l).map (Ty.cells E (.int .u8))) := by
  obtain ⟨xt, hxt, hut, -⟩ := tinfo_some htx
  rw [hkx] at hut
  have hv := hr.ev y
  rw [hd] at hv
  rw [hv.str_inv]
  refine ⟨byteCells ⟨⟨l⟩⟩, ?_, ?_⟩
  · exact Src.ofString (P := P) w hut ⟨⟨l⟩⟩
  · refine ⟨by simp [byteCells, toInts], fun j hj => ?_, fun j k hj hk => ?_⟩
    · simp [toInts] at hj
      simp [List.getD, hj, toInts, Ty.cells]
    · simp [toInts] at hj
      obtain rfl : k = 0 := by omega
      have e1 : (byteCells ⟨⟨l⟩⟩).getD (j * 1 + 0) undef = .int .u8 l[j].toNat := by simp [byteCells, List.getD, hj]
      have e2 : (((toInts l).map (Ty.cells E (.int .u8))).getD j []).getD 0 default = .int .u8 l[j].toNat := by simp [List.getD, hj, toInts, Ty.cells]
      rw [e1, e2]
      exact .int _ _

/-- Append to the present header of a growable row. -/
theorem does_append (hE : E.Ok) (hr : Rel E w0 G0 st a w G) {c : Call} {x y : Operand} {t tx e : TypeId} {j1 j2 : Nat} {z : Value} {ie : TI} (ho : o.op = .call c) (hcl : c.callee = .builtin .append)
    (ha : c.args.toList = [x, y]) (hat : c.argTypes.toList = [t, tx]) (ht : tinfo P t = some ⟨.slice e, j1, j2, z⟩) (hi : tinfo P e = some ie) {j ver : Nat} {T : Ty} {xs ys : List (T.den E.D)}
    (hx : st.ev x = .gsl j ver T xs) {g : TGrow} (hg : st.g[j]? = some g) (hver : g.ver = ver) (hge : g.e = e) (hgk : g.k = ie.size) (hk : ie.size = T.size E) (hk0 : 0 < ie.size) (hzs : ie.zero.cells.size = ie.size)
    (h63 : xs.length + ys.length ≤ 9223372036854775807) (hbytes : (xs.length + ys.length) * ie.bytes ≤ 140737488355328)
    {news : List Value} (hsrc : Src P ie.size tx (a.eval y) ys.length news w) (hf : Flat w G.pr ie.size news (ys.map (T.cells E))) :
    Does P w0 G0 a w o { st with t := setT st.t o.dst (.gsl j (g.ver + 1) T (xs ++ ys)), g := st.g.set j { g with ver := g.ver + 1 } } := by
  have ha' : c.args = #[x, y] := by rw [← Array.toArray_toList (xs := c.args), ha]
  have hat' : c.argTypes = #[t, tx] := by rw [← Array.toArray_toList (xs := c.argTypes), hat]
  have hv := hr.ev x
  rw [hx] at hv
  simp only [VT] at hv
  obtain ⟨hvd, gx, gh, hgj, hle, heq⟩ := hv
  have hgg : gx = g := by
    have := hr.boxes.gs
    have h2 : (G.g.map (·.1))[j]? = some gx := by simp [hgj]
    rw [this, hg] at h2
    exact (Option.some.inj h2).symm
  subst hgg
  have hve := heq hver.symm
  rw [← hve] at hgj
  have hl1 : (xs.map (T.cells E)).length = xs.length := by simp
  have hl2 : (ys.map (T.cells E)).length = ys.length := by simp
  obtain ⟨v', w', pr', hrun, hR, hV⟩ := hr.append (P := P) (t := t) (tx := tx) (ty := o.type) (i := ie) (e := e) ht hi hk0 hzs hgj hge hgk (es := xs.map (T.cells E)) (fs := ys.map (T.cells E)) (y := a.eval y) (news := news)
    (by rw [hk]; exact hvd) (by rw [hl2]; exact hsrc) hf (by rw [hl1, hl2]; exact h63) (by rw [hl1, hl2]; exact hbytes)
  refine ⟨.value v', v', w', _, ?_, .inl rfl, hR.put (d := .gsl j (gx.ver + 1) T (xs ++ ys)) ?_ o.dst⟩
  · unfold execOp
    simp only [ho, resolve, hcl, Sem.run_bind, Sem.run_pure, Result.andThen_ok, invoke, builtin, ha', hat', List.map_toArray, List.map_cons, List.map_nil]
    rw [hrun]
    rfl
  · simp only [VT]
    have hjl : j < G.g.length := (List.getElem?_eq_some_iff.1 hgj).1
    refine ⟨by rw [List.map_append, ← hk]; exact hV, { gx with ver := gx.ver + 1 }, v', by simp [hjl], Nat.le_refl _, fun _ => rfl⟩
end

end Go.RT
/-
  RT, part 20: more operations that leave memory alone: equality, max and min, type assertions, the data of a slice.
-/
namespace Go.RT
set_option linter.unusedVariables false

variable {E : TEnv}

/-! ### Equality of flat structs -/
def eqDV : DV → DV → Option Bool
  | .int _ a, .int _ b => some (a == b)
  | .bool a, .bool b => some (a == b)
  | .str a, .str b => some (a == b)
  | _, _ => none
def eqDVs : List DV → List DV → Option Bool
  | [], [] => some true
  | a :: as, b :: bs => match eqDV a b, eqDVs as bs with
    | some p, some q => some (p && q)
    | _, _ => none
  | _, _ => none
def flatK (P : Program) (t : TypeId) : DV → Bool
  | .int k _ => match P.underlying t with
    | some (.int k') => decide (k = k')
    | _ => false
  | .bool _ => match P.underlying t with
    | some .bool => true
    | _ => false
  | .str _ => match P.underlying t with
    | some .string => true
    | _ => false
  | _ => false
def flatFs (P : Program) : Nat → List Field → List DV → List DV → Bool
  | _, [], [], [] => true
  | n, f :: fs, d :: ds, c :: cs => Nat.beq f.offset n && !(f.name == "_") && flatK P f.type d && flatK P f.type c && flatFs P (n + 1) fs ds cs
  | _, _, _, _ => false
theorem eqOne {P : Program} {w : World} {pr : Nat → Nat → Prop} {t : TypeId} {u v : Value} {d c : DV} {b : Bool} (hu : VD w pr u d) (hv : VD w pr v c) (hd : flatK P t d = true) (hc : flatK P t c = true) (h : eqDV d c = some b) :
    (∀ w', (isAgg t).run P w' = .ok false w') ∧ ∀ w' n, (Op.equalIn (n + 1) t u v).run P w' = .ok b w' := by
  unfold eqDV at h
  split at h <;> try (cases h; done)
  · rename_i k a k' a'
    cases h
    cases hu
    cases hv
    unfold flatK at hd hc
    cases ht : P.underlying t with
    | none => rw [ht] at hd; cases hd
    | some dd =>
      rw [ht] at hd hc
      cases dd <;> simp only [Bool.false_eq_true, decide_eq_true_eq] at hd hc
      subst hd
      subst hc
      exact ⟨fun w' => by simp [isAgg, run_underlying' ht], fun w' n => run_equalIn_int w' n t _ _ a a' ht⟩
  · rename_i a a'
    cases h
    cases hu
    cases hv
    unfold flatK at hd
    cases ht : P.underlying t with
    | none => rw [ht] at hd; cases hd
    | some dd =>
      rw [ht] at hd
      cases dd <;> simp only [Bool.false_eq_true] at hd
      exact ⟨fun w' => by simp [isAgg, run_underlying' ht], fun w' n => run_equalIn_bool' w' n t a a' ht⟩
  · rename_i a a'
    cases h
    cases hu
    cases hv
    unfold flatK at hd
    cases ht : P.underlying t with
    | none => rw [ht] at hd; cases hd
    | some dd =>
      rw [ht] at hd
      cases dd <;> simp only [Bool.false_eq_true] at hd
      exact ⟨fun w' => by simp [isAgg, run_underlying' ht], fun w' n => by
        have := run_equalIn_string (P := P) w' n t ⟨⟨a⟩⟩ ⟨⟨a'⟩⟩ ht
        simpa [mkStr] using this⟩
theorem eqFlat {P : Program} {w : World} {pr : Nat → Nat → Prop} {xs ys : Array Value} : ∀ (fs : List Field) (n : Nat) (as bs : List Value) (ds cs : List DV) (b : Bool), (∀ j : Nat, xs[n + j]? = as[j]?) → (∀ j : Nat, ys[n + j]? = bs[j]?) →
    LD w pr as ds → LD w pr bs cs → flatFs P n fs ds cs = true → eqDVs ds cs = some b → ∀ w' d, (Op.eqFields (d + 1) xs ys fs).run P w' = .ok b w'
  | [], n, as, bs, [], [], b, _, _, _, _, _, h, w', d => by
    cases h
    simp [Op.eqFields]
  | f :: fs, n, a :: as, b' :: bs, dd :: ds, c :: cs, b, hx, hy, hA, hB, hf, h, w', d => by
    simp only [flatFs, Bool.and_eq_true, Bool.not_eq_true'] at hf
    obtain ⟨⟨⟨⟨f1, f2⟩, f3⟩, f4⟩, f5⟩ := hf
    have f1 := Nat.eq_of_beq_eq_true f1
    have f2 : f.name ≠ "_" := by simpa using f2
    unfold eqDVs at h
    cases h1 : eqDV dd c with
    | none => rw [h1] at h; cases h
    | some p =>
      cases h2 : eqDVs ds cs with
      | none => rw [h1, h2] at h; cases h
      | some q =>
        rw [h1, h2] at h
        cases h
        obtain ⟨g1, g2⟩ := eqOne hA.1 hB.1 f3 f4 h1
        have hx0 : xs[f.offset]? = some a := by rw [f1]; simpa using hx 0
        have hy0 : ys[f.offset]? = some b' := by rw [f1]; simpa using hy 0
        have px : ∀ w', (part f.type xs f.offset).run P w' = .ok a w' := fun w' => by simp [part, g1, hx0]
        have py : ∀ w', (part f.type ys f.offset).run P w' = .ok b' w' := fun w' => by simp [part, g1, hy0]
        have ih := eqFlat fs (n + 1) as bs ds cs q (fun j => by have := hx (j + 1); rw [show n + (j + 1) = n + 1 + j by omega] at this; simpa using this) (fun j => by have := hy (j + 1); rw [show n + (j + 1) = n + 1 + j by omega] at this; simpa using this) hA.2 hB.2 f5 h2 w' d
        simp only [Op.eqFields]
        rw [if_pos f2]
        simp only [Sem.run_bind, px, py, g2, Result.andThen_ok]
        cases p with
        | false => simp
        | true => simpa using ih
  | [], _, _, _, _ :: _, _, _, _, _, _, _, hf, _, _, _ => by simp [flatFs] at hf
  | [], _, _, _, [], _ :: _, _, _, _, _, _, hf, _, _, _ => by simp [flatFs] at hf
  | _ :: _, _, _, _, [], _, _, _, _, _, _, hf, _, _, _ => by simp [flatFs] at hf
  | _ :: _, _, _, _, _ :: _, [], _, _, _, _, _, hf, _, _, _ => by simp [flatFs] at hf
  | _ :: _, _, [], _, _ :: _, _ :: _, _, _, _, hA, _, _, _, _, _ => hA.elim
  | _ :: _, _, _ :: _, [], _ :: _, _ :: _, _, _, _, _, hB, _, _, _, _ => hB.elim

/-- Equality of bools, of pointers, of values of interface and function types with nil. -/
def eqX (P : Program) (t : TypeId) (yc : Bool) (x y : TV E) : Option Bool :=
  match tinfo P t, x, y with
  | some ⟨.bool, _, _, _⟩, .dat .bool a, .dat .bool b => some (a == b)
  | some ⟨.pointer _, _, _, _⟩, .optr c _ _, .val (.pointer none) => some (!c)
  | some ⟨.pointer _, _, _, _⟩, .ptr _ _, .val (.pointer none) => some false
  | some ⟨.pointer _, _, _, _⟩, .cel _ _ _, .val (.pointer none) => some false
  | some ⟨.pointer _, _, _, _⟩, .val (.pointer none), .val (.pointer none) => some true
  | some ⟨.pointer e, _, _, _⟩, .optr c r off, .ptr r' off' => cond (Nat.beq r r' && Nat.beq off off') (match tinfo P e with | some _ => some c | none => none) none
  | some ⟨.pointer e, _, _, _⟩, .ptr r off, .ptr r' off' => cond (Nat.beq r r' && Nat.beq off off') (match tinfo P e with | some _ => some true | none => none) none
  | some ⟨.interface _, _, _, _⟩, .iface _ _, .val .nilIface => some false
  | some ⟨.interface _, _, _, _⟩, .val .nilIface, .val .nilIface => cond yc (some true) none
  | some ⟨.func _ _ _, _, _, _⟩, .func _ _, .val .nilFunc => some false
  | some ⟨.func _ _ _, _, _, _⟩, .val .nilFunc, .val .nilFunc => some true
  | some ⟨.struct fs, _, _, _⟩, .dat a x, .dat b y => cond (a.isAgg && b.isAgg && !(P.stoodInHeld t) && !(P.eqGuardType P.depth t) && flatFs P 0 fs.toList (a.cells E x) (b.cells E y)) (eqDVs (a.cells E x) (b.cells E y)) none
  | _, _, _ => none

def isConst : Operand → Bool
  | .const _ => true
  | _ => false

def eqRes (op : BinOp) (b : Bool) : Bool := match op with
  | .eql => b
  | _ => !b

theorem run_sameAddr_self {P : Program} (a : Addr) (w : World) : (sameAddr a a).run P w = .ok true w := by simp [sameAddr]

theorem eqX_sound {P : Program} {w : World} {G : Ghost} {t : TypeId} {x y : Operand} {u v : Value} {du dv : TV E} {b : Bool}
    (hu : VT E w G du u) (hv : VT E w G dv v) (h : eqX P t (isConst y) du dv = some b) (op : BinOp) (hop : op = .eql ∨ op = .neq) :
    ∀ w', (do eqGuard op t x y u v; binOp op t u v).run P w' = .ok (.bool (eqRes op b)) w' := by
  have fin : (∀ w', (eqGuard op t x y u v).run P w' = .ok () w') → (∀ w' d, (Op.equalIn (d + 1) t u v).run P w' = .ok b w') → (∀ op', op' = .eql ∨ op' = .neq → binOp op' t u v = (do let r ← Op.equal t u v; pure (.bool (eqRes op' r)))) →
      ∀ w', (do eqGuard op t x y u v; binOp op t u v).run P w' = .ok (.bool (eqRes op b)) w' := by
    intro h1 h2 h3 w'
    simp only [Sem.run_bind, h1, Result.andThen_ok, h3 op hop, Op.equal, Op.maxDepth, h2 w' 9999, Sem.run_pure]
  unfold eqX at h
  split at h <;> try (cases h; done)
  · rename_i j1 j2 z a c ht
    cases h
    obtain ⟨xt, hxt, hut, -⟩ := tinfo_some ht
    rw [hu.bool_inv, hv.bool_inv] at *
    exact fin (fun w' => by rcases hop with rfl | rfl <;> rfl) (fun w' d => by simp [Op.equalIn, run_underlying' hut]) (fun op' h => by rcases h with rfl | rfl <;> rfl)
  · rename_i e j1 j2 z c r off ht
    cases h
    obtain ⟨xt, hxt, hut, -⟩ := tinfo_some ht
    cases c <;> simp only [VT] at hu hv
    · subst hu; subst hv
      exact fin (fun w' => by rcases hop with rfl | rfl <;> rfl) (fun w' d => by simp [Op.equalIn, run_underlying' hut]) (fun op' h => by rcases h with rfl | rfl <;> rfl)
    · obtain ⟨b, rfl, -⟩ := hu
      subst hv
      exact fin (fun w' => by rcases hop with rfl | rfl <;> rfl) (fun w' d => by simp [Op.equalIn, run_underlying' hut]) (fun op' h => by rcases h with rfl | rfl <;> rfl)
  · rename_i e j1 j2 z r off ht
    cases h
    obtain ⟨xt, hxt, hut, -⟩ := tinfo_some ht
    simp only [VT] at hu hv
    obtain ⟨b, rfl, -⟩ := hu
    subst hv
    exact fin (fun w' => by rcases hop with rfl | rfl <;> rfl) (fun w' d => by simp [Op.equalIn, run_underlying' hut]) (fun op' h => by rcases h with rfl | rfl <;> rfl)
  · rename_i e j1 j2 z T y' off ht
    cases h
    obtain ⟨xt, hxt, hut, -⟩ := tinfo_some ht
    simp only [VT] at hu hv
    obtain ⟨b, o, c, rfl, -⟩ := hu
    subst hv
    exact fin (fun w' => by rcases hop with rfl | rfl <;> rfl) (fun w' d => by simp [Op.equalIn, run_underlying' hut]) (fun op' h => by rcases h with rfl | rfl <;> rfl)
  · rename_i e j1 j2 z ht
    cases h
    obtain ⟨xt, hxt, hut, -⟩ := tinfo_some ht
    simp only [VT] at hu hv
    subst hu; subst hv
    exact fin (fun w' => by rcases hop with rfl | rfl <;> rfl) (fun w' d => by simp [Op.equalIn, run_underlying' hut]) (fun op' h => by rcases h with rfl | rfl <;> rfl)
  · rename_i e j1 j2 z c r off r' off' ht
    obtain ⟨xt, hxt, hut, -⟩ := tinfo_some ht
    cases hb : (Nat.beq r r' && Nat.beq off off') <;> rw [hb] at h <;> simp only [cond_true, cond_false] at h
    · cases h
    rw [Bool.and_eq_true] at hb
    obtain rfl := Nat.eq_of_beq_eq_true hb.1
    obtain rfl := Nat.eq_of_beq_eq_true hb.2
    split at h <;> try (cases h; done)
    rename_i ie hie
    cases h
    obtain ⟨xe, hxe, -⟩ := tinfo_some hie
    cases b <;> simp only [VT] at hu hv
    · obtain ⟨b, rfl, -⟩ := hv
      subst hu
      exact fin (fun w' => by rcases hop with rfl | rfl <;> rfl) (fun w' d => by simp [Op.equalIn, run_underlying' hut]) (fun op' h => by rcases h with rfl | rfl <;> rfl)
    · obtain ⟨b, rfl, h1⟩ := hu
      obtain ⟨b', rfl, h2⟩ := hv
      rw [h1] at h2
      cases h2
      exact fin (fun w' => by rcases hop with rfl | rfl <;> rfl) (fun w' d => by simp [Op.equalIn, run_underlying' hut, sizeOf, typeInfo, hxe, run_sameAddr_self]) (fun op' h => by rcases h with rfl | rfl <;> rfl)
  · rename_i e j1 j2 z r off r' off' ht
    obtain ⟨xt, hxt, hut, -⟩ := tinfo_some ht
    cases hb : (Nat.beq r r' && Nat.beq off off') <;> rw [hb] at h <;> simp only [cond_true, cond_false] at h
    · cases h
    rw [Bool.and_eq_true] at hb
    obtain rfl := Nat.eq_of_beq_eq_true hb.1
    obtain rfl := Nat.eq_of_beq_eq_true hb.2
    split at h <;> try (cases h; done)
    rename_i ie hie
    cases h
    obtain ⟨xe, hxe, -⟩ := tinfo_some hie
    simp only [VT] at hu hv
    obtain ⟨b, rfl, h1⟩ := hu
    obtain ⟨b', rfl, h2⟩ := hv
    rw [h1] at h2
    cases h2
    exact fin (fun w' => by rcases hop with rfl | rfl <;> rfl) (fun w' d => by simp [Op.equalIn, run_underlying' hut, sizeOf, typeInfo, hxe, run_sameAddr_self]) (fun op' h => by rcases h with rfl | rfl <;> rfl)
  · rename_i ms j1 j2 z ty d ht
    cases h
    obtain ⟨xt, hxt, hut, -⟩ := tinfo_some ht
    simp only [VT] at hu hv
    obtain ⟨u', rfl, -⟩ := hu
    subst hv
    exact fin (fun w' => by rcases hop with rfl | rfl <;> rfl) (fun w' d => by simp [Op.equalIn, run_underlying' hut]) (fun op' h => by rcases h with rfl | rfl <;> rfl)
  · rename_i ms j1 j2 z ht
    obtain ⟨xt, hxt, hut, -⟩ := tinfo_some ht
    simp only [VT] at hu hv
    subst hu; subst hv
    cases hc : isConst y <;> rw [hc] at h <;> simp only [cond_true, cond_false] at h
    · cases h
    cases h
    have hcy : ∃ c, y = .const c := by unfold isConst at hc; split at hc; exact ⟨_, rfl⟩; cases hc
    obtain ⟨c, rfl⟩ := hcy
    exact fin (fun w' => by rcases hop with rfl | rfl <;> simp [eqGuard]) (fun w' d => by simp [Op.equalIn, run_underlying' hut]) (fun op' h => by rcases h with rfl | rfl <;> rfl)
  · rename_i f1 f2 f3 j1 j2 z fn caps ht
    cases h
    obtain ⟨xt, hxt, hut, -⟩ := tinfo_some ht
    simp only [VT] at hu hv
    obtain ⟨u', rfl, -⟩ := hu
    subst hv
    exact fin (fun w' => by rcases hop with rfl | rfl <;> rfl) (fun w' d => by simp [Op.equalIn, run_underlying' hut]) (fun op' h => by rcases h with rfl | rfl <;> rfl)
  · rename_i f1 f2 f3 j1 j2 z ht
    cases h
    obtain ⟨xt, hxt, hut, -⟩ := tinfo_some ht
    simp only [VT] at hu hv
    subst hu; subst hv
    exact fin (fun w' => by rcases hop with rfl | rfl <;> rfl) (fun w' d => by simp [Op.equalIn, run_underlying' hut]) (fun op' h => by rcases h with rfl | rfl <;> rfl)
  · rename_i fs j1 j2 z a x' b' y' ht
    obtain ⟨xt, hxt, hut, -⟩ := tinfo_some ht
    have hut : P.underlying t = some (.struct fs) := hut
    cases hb : (a.isAgg && b'.isAgg && !(P.stoodInHeld t) && !(P.eqGuardType P.depth t) && flatFs P 0 fs.toList (a.cells E x') (b'.cells E y')) <;> rw [hb] at h <;> simp only [cond_true, cond_false] at h
    · cases h
    simp only [Bool.and_eq_true, Bool.not_eq_true'] at hb
    obtain ⟨⟨⟨⟨a1, a2⟩, a3⟩, a4⟩, a5⟩ := hb
    simp only [VT, a1] at hu
    simp only [VT, a2] at hv
    obtain ⟨us, rfl, hu⟩ := hu
    obtain ⟨vs, rfl, hv⟩ := hv
    have hfs : P.fieldsOf t = fs := by unfold Program.fieldsOf; rw [hut]
    intro w'
    have he : (Op.equalIn 10000 t (.agg us) (.agg vs)).run P w' = .ok b w' := by
      rw [run_equalIn_struct w' 9999 t us vs (by rw [hfs]; exact hut) a3, hfs]
      exact eqFlat fs.toList 0 us.toList vs.toList _ _ b (fun j => by simp) (fun j => by simp) hu hv a5 h w' 9998
    rcases hop with rfl | rfl
    · simp only [Sem.run_bind, run_eqGuard_agg w' .eql t x y us vs a4, Result.andThen_ok, run_eql_struct, he]
      rfl
    · simp only [Sem.run_bind, run_eqGuard_agg w' .neq t x y us vs a4, Result.andThen_ok, run_neq_struct, he]
      rfl

/-- The zero value of a type. -/
def zeroTV (E : TEnv) (ty : Option Ty) : Value → TV E
  | .agg cs => packT E ty (cs.toList.map TV.ofV)
  | v => .ofV v

/-- A type assertion to a type that is no interface. -/
def assertT (E : TEnv) (ty : TypeId → Option Ty) (asserted : TypeId) (i : TI) (ok : Bool) (d : TV E) : Option (TV E) :=
  match i.kind, d with
  | .interface _, _ => none
  | _, .iface t v => cond (Nat.beq t asserted) (some (cond ok (.tuple [v, .dat .bool true]) v)) (cond ok (some (.tuple [zeroTV E (ty asserted) i.zero, .dat .bool false])) none)
  | _, .val .nilIface => cond ok (some (.tuple [zeroTV E (ty asserted) i.zero, .dat .bool false])) none
  | _, _ => none

def evalX (P : Program) (ty : TypeId → Option Ty) (st : TS E) : Op → Option (Bool × TV E)
  | .binOp op t x y _ => match op, eqX P t (isConst y) (st.ev x) (st.ev y) with
    | .eql, some b => some (true, .dat .bool b)
    | .neq, some b => some (true, .dat .bool (!b))
    | _, _ => none
  | .typeAssert x _ asserted ok => match tinfo P asserted with
    | some i => match assertT E ty asserted i ok (st.ev x) with
      | some d => some (i.zero.cells.toList.all (·.oneCell'), d)
      | none => none
    | none => none
  | .call c => match c.callee, c.args.toList, c.argTypes.toList with
    | .builtin .max, [x, y], _ => match st.ev x, st.ev y with
      | .dat (.int k) a, .dat (.int _) b => some (true, .dat (.int k) (cond (decide (a < b)) b a))
      | _, _ => none
    | .builtin .min, [x, y], _ => match st.ev x, st.ev y with
      | .dat (.int k) a, .dat (.int _) b => some (true, .dat (.int k) (cond (decide (b < a)) b a))
      | _, _ => none
    | .builtin .unsafeSliceData, [x], _ => match st.ev x with
      | .gsl j ver (.int .u8) xs => match st.g[j]? with
        | some g => some (Nat.beq g.ver ver, .sdp j ver xs)
        | none => none
      | _ => none
    | _, _, _ => none
  | _ => none

section
variable {P : Program} {w0 : World} {G0 : Ghost} {st : TS E} {a : Act} {w : World} {G : Ghost} {o : Oper}

theorem VT_zero (hE : E.Ok) {ty : Option Ty} {z : Value} (h : z.cells.toList.all (·.oneCell') = true) : VT E w G (zeroTV E ty z) z := by
  cases z with
  | agg cs => exact packT_sound hE VTs.ofValues (fun u hu => List.all_eq_true.1 h u hu)
  | _ => simp only [zeroTV]; exact VT_ofV w G _

theorem gives_assert (hE : E.Ok) (hr : Rel E w0 G0 st a w G) {ty : TypeId → Option Ty} {x : Operand} {xt t : TypeId} {ok : Bool} {i : TI} {d : TV E} (ho : o.op = .typeAssert x xt t ok) (ht : tinfo P t = some i) (h : assertT E ty t i ok (st.ev x) = some d)
    (hz : i.zero.cells.toList.all (·.oneCell') = true) : Gives P a w G o d := by
  have hv := hr.ev x
  obtain ⟨xi, hxi, hut, -⟩ := tinfo_some ht
  have hzv := VT_zero (w := w) (G := G) hE (ty := ty t) hz
  have tup : ∀ (u : Value) (d : TV E) (b : Bool), VT E w G d u → VT E w G (.tuple [d, .dat .bool b]) (.tuple #[u, .bool b]) := fun u d b hd => by
    simp only [VT]
    exact ⟨_, rfl, .cons hd (.cons (.bool _ _ _) .nil)⟩
  suffices hs : ∃ v, VT E w G d v ∧ ∀ w', (Instr.typeAssert (a.eval x) xt t ok).run P w' = .ok v w' by
    obtain ⟨v, h1, h2⟩ := hs
    exact gives_v (f := fun ρ => Instr.typeAssert (ρ x) xt t ok) (by simp [execOp, ho]) ⟨v, h1, fun w' _ => h2 w'⟩
  unfold assertT at h
  split at h <;> try (cases h; done)
  · rename_i ty' v' hd hni
    rw [hd] at hv
    simp only [VT] at hv
    obtain ⟨u, hu, hv⟩ := hv
    have hnot : ∀ ms, i.kind ≠ .interface ms := fun ms e => hni ms e
    cases hb : Nat.beq ty' t <;> rw [hb] at h <;> simp only [cond_true, cond_false] at h
    · have hne : ty' ≠ t := fun e => by rw [e, Nat.beq_refl] at hb; cases hb
      cases ok <;> simp only [cond_true, cond_false] at h
      · cases h
      cases h
      refine ⟨_, tup _ _ _ hzv, fun w' => ?_⟩
      rw [hu]
      unfold Instr.typeAssert
      simp only [Sem.run_bind, run_underlying' hut, Result.andThen_ok]
      cases hk : i.kind <;> simp_all [run_zeroValue' ht]
    · have he := Nat.eq_of_beq_eq_true hb
      subst he
      cases h
      cases ok
      · refine ⟨u, hv, fun w' => ?_⟩
        rw [hu]
        unfold Instr.typeAssert
        simp only [Sem.run_bind, run_underlying' hut, Result.andThen_ok]
        cases hk : i.kind <;> simp_all
      · refine ⟨_, tup _ _ _ hv, fun w' => ?_⟩
        rw [hu]
        unfold Instr.typeAssert
        simp only [Sem.run_bind, run_underlying' hut, Result.andThen_ok]
        cases hk : i.kind <;> simp_all
  · rename_i hd hni
    rw [hd] at hv
    simp only [VT] at hv
    cases ok <;> simp only [cond_true, cond_false] at h
    · cases h
    cases h
    refine ⟨_, tup _ _ _ hzv, fun w' => ?_⟩
    rw [hv]
    unfold Instr.typeAssert
    simp only [Sem.run_bind, run_underlying' hut, Result.andThen_ok]
    cases hk : i.kind <;> simp_all [run_zeroValue' ht]

theorem evalX_sound (hE : E.Ok) (hr : Rel E w0 G0 st a w G) {ty : TypeId → Option Ty} {d : TV E} {c : Bool} (h : evalX P ty st o.op = some (c, d)) (hc : c = true) : Gives P a w G o d := by
  cases ho : o.op <;> rw [ho] at h <;> simp only [evalX] at h <;> try (cases h; done)
  case binOp op t x y yt =>
    split at h <;> try (cases h; done)
    · rename_i b hb
      cases h
      exact gives_v (f := fun ρ => do eqGuard .eql t x y (ρ x) (ρ y); binOp .eql t (ρ x) (ρ y)) (by simp [execOp, ho]) ⟨_, .bool _ _ _, fun w' _ => eqX_sound (hr.ev x) (hr.ev y) hb .eql (.inl rfl) w'⟩
    · rename_i b hb
      cases h
      exact gives_v (f := fun ρ => do eqGuard .neq t x y (ρ x) (ρ y); binOp .neq t (ρ x) (ρ y)) (by simp [execOp, ho]) ⟨_, .bool _ _ _, fun w' _ => eqX_sound (hr.ev x) (hr.ev y) hb .neq (.inr rfl) w'⟩
  case typeAssert x xt t ok =>
    split at h <;> try (cases h; done)
    rename_i i hi
    split at h <;> try (cases h; done)
    rename_i d' hd
    cases h
    exact gives_assert hE hr ho hi hd hc
  case call c' =>
    split at h <;> try (cases h; done)
    · rename_i _ x y hcl ha
      split at h <;> try (cases h; done)
      rename_i k p k' q hx hy
      cases h
      have hvx := hr.ev x
      rw [hx] at hvx
      have hvy := hr.ev y
      rw [hy] at hvy
      have ha' : c'.args = #[x, y] := by rw [← Array.toArray_toList (xs := c'.args), ha]
      refine ⟨_, .int _ _ _ _, fun w' hs => ?_⟩
      unfold execOp
      simp only [ho, resolve, hcl, Sem.run_bind, Sem.run_pure, Result.andThen_ok, invoke, builtin, ha', List.map_toArray, List.map_cons, List.map_nil]
      rw [hvx.int_inv, hvy.int_inv]
      simp only [Builtin.max_, List.foldlM_cons, List.foldlM_nil, Builtin.max2, Sem.run_bind, Sem.run_pure, Result.andThen_ok]
      by_cases hpq : p < q <;> simp [hpq]
    · rename_i _ x y hcl ha
      split at h <;> try (cases h; done)
      rename_i k p k' q hx hy
      cases h
      have hvx := hr.ev x
      rw [hx] at hvx
      have hvy := hr.ev y
      rw [hy] at hvy
      have ha' : c'.args = #[x, y] := by rw [← Array.toArray_toList (xs := c'.args), ha]
      refine ⟨_, .int _ _ _ _, fun w' hs => ?_⟩
      unfold execOp
      simp only [ho, resolve, hcl, Sem.run_bind, Sem.run_pure, Result.andThen_ok, invoke, builtin, ha', List.map_toArray, List.map_cons, List.map_nil]
      rw [hvx.int_inv, hvy.int_inv]
      simp only [Builtin.min_, List.foldlM_cons, List.foldlM_nil, Builtin.min2, Sem.run_bind, Sem.run_pure, Result.andThen_ok]
      by_cases hpq : q < p <;> simp [hpq]
    · rename_i _ x hcl ha
      split at h <;> try (cases h; done)
      rename_i j ver xs hx
      split at h <;> try (cases h; done)
      rename_i g hg
      cases h
      have hver := Nat.eq_of_beq_eq_true hc
      have ha' : c'.args = #[x] := by rw [← Array.toArray_toList (xs := c'.args), ha]
      have hv := hr.ev x
      rw [hx] at hv
      simp only [VT] at hv
      obtain ⟨hvd, gx, gh, hgj, hle, heq⟩ := hv
      have hgg : gx = g := by
        have h2 : (G.g.map (·.1))[j]? = some gx := by simp [hgj]
        rw [hr.boxes.gs, hg] at h2
        exact (Option.some.inj h2).symm
      subst hgg
      have hve := heq hver.symm
      obtain ⟨n, ys, ho', hz0, hgb⟩ := hr.boxes.grow j gx gh hgj
      rcases hvd.slice_inv with ⟨ad, he, hn⟩ | ⟨b, off, cap, c, he, hcap, hk, -⟩
      · have hxs : xs = [] := by simpa using hn
        have : ad = none := by
          cases ad with
          | none => rfl
          | some ad => exact (hz0 ad 0 (hve ▸ he)).elim
        subst this
        refine ⟨.pointer none, ?_, fun w' hs => ?_⟩
        · simp only [VT]
          exact ⟨gx, gh, a.eval x, hgj, hle, hvd, fun _ => ⟨hve, .inl ⟨by rw [← hve, he], hxs, trivial⟩⟩⟩
        · unfold execOp
          simp only [ho, resolve, hcl, Sem.run_bind, Sem.run_pure, Result.andThen_ok, invoke, builtin, ha', List.map_toArray, List.map_cons, List.map_nil]
          rw [he, Lib.run_unsafeSliceData_nil]
          rfl
      · have hl : (xs.map (Ty.cells E (.int .u8))).length = xs.length := by simp
        rw [hl] at he
        have hc0 : cap ≠ 0 := fun e => by subst e; exact hz0 _ _ (hve ▸ he)
        have hoff : off = 0 := by
          rcases ho'.2 with ⟨hnil, -⟩ | ⟨g', cap', cur, h2, -⟩
          · rw [← hve, he] at hnil; cases hnil
          · rw [← hve, he] at h2
            simp only [Value.slice.injEq, Option.some.injEq, Addr.mk.injEq] at h2
            exact h2.1.2.1
        subst hoff
        refine ⟨.pointer (some ⟨b, 0, none⟩), ?_, fun w' hs => ?_⟩
        · simp only [VT]
          exact ⟨gx, gh, a.eval x, hgj, hle, hvd, fun _ => ⟨hve, .inr ⟨b, cap, by rw [← hve, he], rfl⟩⟩⟩
        · unfold execOp
          simp only [ho, resolve, hcl, Sem.run_bind, Sem.run_pure, Result.andThen_ok, invoke, builtin, ha', List.map_toArray, List.map_cons, List.map_nil]
          rw [he, Lib.run_unsafeSliceData_row _ _ _ _ _ _ hc0]
          rfl

/-- All operations that leave memory alone. -/
def evalA (P : Program) (ty : TypeId → Option Ty) (st : TS E) (o : Op) : Option (Bool × TV E) := match evalT P ty st o with
  | some x => some x
  | none => evalX P ty st o
theorem evalA_sound (hE : E.Ok) (hr : Rel E w0 G0 st a w G) {ty : TypeId → Option Ty} {d : TV E} {c : Bool} (h : evalA P ty st o.op = some (c, d)) (hc : c = true) : Gives P a w G o d := by
  unfold evalA at h
  split at h
  · rename_i x hx
    cases h
    exact evalT_sound hE hr hx hc
  · exact evalX_sound hE hr h hc
end

end Go.RT
/-
  RT, part 21: a nil slice becomes a growable row; strings out of bytes; the bytes of a strings.Builder as a string.
-/
namespace Go.RT
set_option linter.unusedVariables false

variable {E : TEnv}
section
variable {P : Program} {w0 w w' : World} {G0 G G' : Ghost} {st : TS E} {a : Act} {o : Oper}

/-- A new row that is nil. -/
theorem Rel.nilRow (h : Rel E w0 G0 st a w G) (e : TypeId) (k : Nat) : Rel E w0 G0 { st with g := st.g ++ [⟨0, e, k⟩] } a w { G with g := G.g ++ [(⟨0, e, k⟩, .slice none 0 0)] } := by
  refine h.addGrow ⟨0, e, k⟩ (.slice none 0 0) ⟨0, [], ⟨by simp, .inl ⟨rfl, rfl⟩⟩, (fun a m e => nomatch e), (fun b hb => nomatch hb)⟩ (fun b hb => nomatch hb) (fun j y z b hj hb e => nomatch e)

theorem Rel.rows_len (h : Rel E w0 G0 st a w G) : G.g.length = st.g.length := by rw [← h.boxes.gs]; simp

theorem VT_nilRow (hl : G.g.length = st.g.length) (e : TypeId) (T : Ty) : VT E w { G with g := G.g ++ [(⟨0, e, T.size E⟩, .slice none 0 0)] } (.gsl st.g.length 0 T []) (.slice none 0 0) := by
  simp only [VT]
  refine ⟨.nils _ _, ⟨0, e, T.size E⟩, .slice none 0 0, ?_, Nat.le_refl _, fun _ => rfl⟩
  rw [List.getElem?_append_right (by omega)]
  simp [hl]

/-- A slot that holds nil becomes a growable row. -/
theorem Rel.adopt (h : Rel E w0 G0 st a w G) {i : Nat} (hi : st.t[i]? = some (.val (.slice none 0 0))) (e : TypeId) (T : Ty) :
    ∃ G', Rel E w0 G0 { st with t := st.t.set i (.gsl st.g.length 0 T []), g := st.g ++ [⟨0, e, T.size E⟩] } a w G' := by
  have hN := h.nilRow e (T.size E)
  refine ⟨_, hN.evol, by simpa using hN.size, fun j d hj => ?_, hN.defers, hN.boxes, hN.fix, hN.pins⟩
  simp only [List.getElem?_set] at hj
  by_cases hij : i = j
  · subst hij
    have hlt : i < st.t.length := (List.getElem?_eq_some_iff.1 hi).1
    simp [hlt] at hj
    subst hj
    have hv := h.tmps i _ hi
    simp only [VT] at hv
    rw [hv]
    exact VT_nilRow h.rows_len e T
  · rw [if_neg hij] at hj
    exact hN.tmps j d hj

/-- A cell that holds nil becomes a growable row. -/
theorem Rel.adoptCell (h : Rel E w0 G0 st a w G) {r c : Nat} {t : TypeId} {cs : List (TV E)} (hr : st.H[r]? = some (.cells t cs)) (hc : cs[c]? = some (.val (.slice none 0 0))) (e : TypeId) (T : Ty) :
    ∃ G', Rel E w0 G0 { st with H := st.H.set r (.cells t (cs.set c (.gsl st.g.length 0 T []))), g := st.g ++ [⟨0, e, T.size E⟩], d := r :: st.d } a w G' := by
  have hN := h.nilRow e (T.size E)
  have hlr : r < G.i.length := by rw [h.boxes.len]; exact (List.getElem?_eq_some_iff.1 hr).1
  have hat : G.i[r]? = some G.i[r] := List.getElem?_eq_getElem hlr
  have hS := hN.setBox (w' := w) (r := r) (b := G.i[r]) hat rfl rfl rfl rfl (fun _ _ => rfl) (x := .cells t (cs.set c (.gsl st.g.length 0 T []))) (fun _ => ?_)
  · exact ⟨_, hS⟩
  · obtain ⟨vs, h1, h2, h3⟩ := hN.boxes.box r _ _ hat hr
    refine ⟨vs, h1, h2, ?_⟩
    obtain ⟨u, hu, hv⟩ := h3.get c hc
    simp only [VT] at hv
    subst hv
    have key : ∀ (cs : List (TV E)) (vs : List Value) (c : Nat) (d : TV E), VTs E w { G with g := G.g ++ [(⟨0, e, T.size E⟩, .slice none 0 0)] } cs vs → vs[c]? = some (.slice none 0 0) →
        VT E w { G with g := G.g ++ [(⟨0, e, T.size E⟩, .slice none 0 0)] } d (.slice none 0 0) → VTs E w { G with g := G.g ++ [(⟨0, e, T.size E⟩, .slice none 0 0)] } (cs.set c d) vs := by
      intro cs
      induction cs with
      | nil => intro vs c d h1 h2 h3; exact h1
      | cons x cs ih =>
        intro vs c d h1 h2 h3
        obtain ⟨u, us, rfl, q1, q2⟩ := h1.cons_inv
        cases c with
        | zero => simp at h2; subst h2; exact .cons h3 q2
        | succ c => exact .cons q1 (ih us c d q2 (by simpa using h2) h3)
    exact key cs vs.toList c _ h3 hu (VT_nilRow h.rows_len e T)

/-- Append to nil: a new row. -/
theorem does_appendNil (hE : E.Ok) (hr : Rel E w0 G0 st a w G) {c : Call} {x y : Operand} {t tx e : TypeId} {j1 j2 : Nat} {z : Value} {ie : TI} (ho : o.op = .call c) (hcl : c.callee = .builtin .append)
    (ha : c.args.toList = [x, y]) (hat : c.argTypes.toList = [t, tx]) (ht : tinfo P t = some ⟨.slice e, j1, j2, z⟩) (hi : tinfo P e = some ie) {T : Ty} {ys : List (T.den E.D)}
    (hx : st.ev x = .val (.slice none 0 0)) (hk : ie.size = T.size E) (hk0 : 0 < ie.size) (hzs : ie.zero.cells.size = ie.size)
    (h63 : ys.length ≤ 9223372036854775807) (hbytes : ys.length * ie.bytes ≤ 140737488355328)
    {news : List Value} (hsrc : Src P ie.size tx (a.eval y) ys.length news w) (hf : Flat w G.pr ie.size news (ys.map (T.cells E))) :
    Does P w0 G0 a w o { st with t := setT st.t o.dst (.gsl st.g.length 1 T ys), g := st.g ++ [⟨1, e, ie.size⟩] } := by
  have ha' : c.args = #[x, y] := by rw [← Array.toArray_toList (xs := c.args), ha]
  have hat' : c.argTypes = #[t, tx] := by rw [← Array.toArray_toList (xs := c.argTypes), hat]
  have hv := hr.ev x
  rw [hx] at hv
  simp only [VT] at hv
  have hN := hr.nilRow e ie.size
  have hl2 : (ys.map (T.cells E)).length = ys.length := by simp
  have hrl := hr.rows_len
  have hgj : (G.g ++ [((⟨0, e, ie.size⟩ : TGrow), Value.slice none 0 0)])[G.g.length]? = some (⟨0, e, ie.size⟩, .slice none 0 0) := by simp
  obtain ⟨v', w', pr', hrun, hR, hV⟩ := hN.append (P := P) (t := t) (tx := tx) (ty := o.type) (i := ie) (e := e) ht hi hk0 hzs (j := G.g.length) (x := ⟨0, e, ie.size⟩) (v := .slice none 0 0) hgj rfl rfl (es := []) (fs := ys.map (T.cells E)) (y := a.eval y) (news := news)
    (.nils _ _) (by rw [hl2]; exact hsrc) hf (by simp only [List.length_nil, Nat.zero_add, hl2]; exact h63) (by simp only [List.length_nil, Nat.zero_add, hl2]; exact hbytes)
  have hset : (st.g ++ [(⟨0, e, ie.size⟩ : TGrow)]).set G.g.length ⟨0 + 1, e, ie.size⟩ = st.g ++ [⟨1, e, ie.size⟩] := by
    rw [hrl, List.set_append_right _ _ (Nat.le_refl _)]; simp
  have hset2 : (G.g ++ [((⟨0, e, ie.size⟩ : TGrow), Value.slice none 0 0)]).set G.g.length (⟨0 + 1, e, ie.size⟩, v') = G.g ++ [(⟨1, e, ie.size⟩, v')] := by
    rw [List.set_append_right _ _ (Nat.le_refl _)]; simp
  simp only [hset, hset2] at hR
  refine ⟨.value v', v', w', _, ?_, .inl rfl, hR.put (d := .gsl st.g.length 1 T ys) ?_ o.dst⟩
  · unfold execOp
    simp only [ho, resolve, hcl, Sem.run_bind, Sem.run_pure, Result.andThen_ok, invoke, builtin, ha', hat', List.map_toArray, List.map_cons, List.map_nil]
    rw [hv, hrun]
    rfl
  · simp only [VT]
    refine ⟨by rw [← hk]; simpa using hV, ⟨1, e, ie.size⟩, v', by rw [← hrl]; simp, Nat.le_refl _, fun _ => rfl⟩

def byteOk (l : List Int) : Bool := l.all fun n => decide (0 ≤ n) && decide (n < 256)
def toBytes (l : List Int) : List UInt8 := l.map fun n => UInt8.ofNat n.toNat

theorem toBytes_at {l : List Int} (h : byteOk l = true) {j : Nat} {x : UInt8} (hx : (toBytes l)[j]? = some x) : l[j]? = some (x.toNat : Int) := by
  unfold toBytes at hx
  rw [List.getElem?_map] at hx
  obtain ⟨n, hn, rfl⟩ := Option.map_eq_some_iff.1 hx
  have := List.all_eq_true.1 h n (List.mem_of_getElem? hn)
  simp only [Bool.and_eq_true, decide_eq_true_eq] at this
  rw [hn]
  congr 1
  simp
  omega

theorem VD.bytes_cell {pr : Nat → Nat → Prop} {v : Value} {xs : List Int} (h : VD w pr v (.slice 1 (xs.map (Ty.cells E (.int .u8))))) :
    (∃ ad, v = .slice ad 0 0 ∧ xs = []) ∨ ∃ b off cap, v = .slice (some ⟨b, off, none⟩) xs.length cap ∧ xs.length ≤ cap ∧ ∀ (j : Nat) n, xs[j]? = some n → pr b (off + j) ∧ w.cell? ⟨b, off + j, none⟩ = some (.int .u8 n) := by
  rcases h.slice_inv with ⟨ad, he, hn⟩ | ⟨b, off, cap, c, he, hcap, hk, h0, hc⟩
  · exact .inl ⟨ad, he, by simpa using hn⟩
  · refine .inr ⟨b, off, cap, by simpa using he, by simpa using hcap, fun j n hj => ?_⟩
    have hjl : j < xs.length := (List.getElem?_eq_some_iff.1 hj).1
    have h1 := h0 j 0 (by simpa using hjl) (by omega)
    have h2 := hc j 0 (by simpa using hjl) (by omega)
    have e1 : ((xs.map (Ty.cells E (.int .u8))).getD j []).getD 0 default = .int .u8 n := by
      have : xs[j] = n := by rw [List.getElem?_eq_getElem hjl] at hj; exact Option.some.inj hj
      simp [List.getD, hjl, this, Ty.cells]
    rw [e1] at h2
    rw [h2.int_inv] at h1
    simpa using h1

theorem fold_push : ∀ (ns : List Int) (r : ByteArray), ns.foldl (fun r n => r.push (UInt8.ofNat n.toNat)) r = ⟨⟨r.data.toList ++ toBytes ns⟩⟩
  | [], r => by simp [toBytes]
  | n :: ns, r => by
    rw [List.foldl_cons, fold_push ns]
    congr 2
    simp [toBytes]

theorem run_bytesStr {P : Program} (ad : Addr) (cap : Nat) (xs : List Int) (hc : ∀ (j : Nat) n, xs[j]? = some n → w.cell? (ad.add j) = some (.int .u8 n)) : (Conv.bytesToString (.slice (some ad) xs.length cap)).run P w = .ok (mkStr (toBytes xs)) w := by
  have hl := run_loadCells (P := P) w ad xs.length (fun j => .int .u8 (xs.getD j 0)) (fun j hj => hc j _ (by simp [List.getD, hj]))
  have hm : ((List.range xs.length).map fun j => Value.int .u8 (xs.getD j 0)) = xs.map (Value.int .u8) := by
    apply List.ext_getElem (by simp)
    intro j h1 h2
    simp at h1
    simp [List.getD, h1]
  rw [run_bytesToString (P := P) w ad xs.length cap xs (by rw [hl]; simp only [Result.ok.injEq, and_true]; rw [← hm]), fold_push]
  rfl

theorem does_bytesToString (hr : Rel E w0 G0 st a w G) {src dst e : TypeId} {x : Operand} {j1 j2 j3 j4 j5 j6 : Nat} {z1 z2 z3 : Value} (ho : o.op = .convert src dst x) (hs : tinfo P src = some ⟨.slice e, j1, j2, z1⟩) (hd : tinfo P dst = some ⟨.string, j3, j4, z2⟩)
    (he : tinfo P e = some ⟨.int .u8, j5, j6, z3⟩) {xs : List Int} (hx : AsList (st.ev x) (.int .u8) xs) : Does P w0 G0 a w o { st with t := setT st.t o.dst (.dat .str (toBytes xs)) } := by
  obtain ⟨_, _, hus, -⟩ := tinfo_some hs
  obtain ⟨_, _, hud, -⟩ := tinfo_some hd
  obtain ⟨_, _, hue, -⟩ := tinfo_some he
  have hv := hx.vd (hr.ev x)
  have hrun : (convert src dst (a.eval x)).run P w = .ok (mkStr (toBytes xs)) w := by
    rcases hv.bytes_cell with ⟨ad, hv', rfl⟩ | ⟨b, off, cap, hv', hcap, hc⟩
    · rw [hv']
      cases ad with
      | none =>
        unfold convert
        simp only [Sem.run_bind, run_underlying' hus, run_underlying' hud, Result.andThen_ok, run_underlying' hue]
        rfl
      | some ad =>
        have := run_bytesStr (P := P) (w := w) ad 0 [] (fun j n hj => by simp at hj)
        simp only [List.length_nil] at this
        unfold convert
        simp only [Sem.run_bind, run_underlying' hus, run_underlying' hud, Result.andThen_ok, run_underlying' hue, this]
    · rw [hv']
      have := run_bytesStr (P := P) (w := w) ⟨b, off, none⟩ cap xs (fun j n hj => by rw [add_lit]; exact (hc j n hj).2)
      unfold convert
      simp only [Sem.run_bind, run_underlying' hus, run_underlying' hud, Result.andThen_ok, run_underlying' hue, this]
  refine ⟨_, mkStr (toBytes xs), w, G, ?_, .inl rfl, hr.put (.str _ _ _) o.dst⟩
  simp only [execOp, ho, Sem.run_bind, hrun, Result.andThen_ok, Sem.run_pure]

theorem freeze_heap (w : World) (p : Addr) (n b : Nat) (hb : b ≠ p.block) : (w.freeze p n).heap[b]? = w.heap[b]? := by
  unfold World.freeze
  split
  · rfl
  · simp only [Array.getElem?_modify]
    rw [if_neg (fun e => hb e.symm)]
theorem freeze_cell (w : World) (p : Addr) (n : Nat) (x : Addr) : (w.freeze p n).cell? x = w.cell? x := by
  by_cases h0 : n = 0
  · simp [World.freeze, h0]
  by_cases hx : x.block = p.block
  · simp only [World.cell?, World.freeze, h0, if_false, hx, Array.getElem?_modify, if_true]
    cases hh : w.heap[p.block]? with
    | none => simp
    | some ob => cases ob <;> simp
  · exact World.cell?_of_block (freeze_heap w p n x.block hx)

theorem does_unsafeString (hr : Rel E w0 G0 st a w G) {c : Call} {x y : Operand} {pt it e : TypeId} {j1 j2 j3 j4 : Nat} {z1 z2 : Value} (ho : o.op = .call c) (hcl : c.callee = .builtin .unsafeString) (ha : c.args.toList = [x, y]) (hat : c.argTypes.toList = [pt, it])
    (hp : tinfo P pt = some ⟨.pointer e, j1, j2, z1⟩) (hce : P.cellsOf e = 1) {j ver : Nat} {xs : List Int} (hx : st.ev x = .sdp j ver xs) {g : TGrow} (hg : st.g[j]? = some g) (hver : g.ver = ver) (hge : g.e = e) (hgk : g.k = 1)
    {n : Int} (hy : st.ev y = .dat (.int .i64) n) (hn : n = xs.length) (hok : byteOk xs = true) (h63 : xs.length ≤ 9223372036854775807) :
    Does P w0 G0 a w o { st with t := setT st.t o.dst (.dat .str (toBytes xs)), g := st.g.set j { g with ver := g.ver + 1 } } := by
  have ha' : c.args = #[x, y] := by rw [← Array.toArray_toList (xs := c.args), ha]
  have hat' : c.argTypes = #[pt, it] := by rw [← Array.toArray_toList (xs := c.argTypes), hat]
  obtain ⟨_, _, hup, -⟩ := tinfo_some hp
  have hv := hr.ev x
  rw [hx] at hv
  have hvy := hr.ev y
  rw [hy] at hvy
  have hvy := hvy.int_inv
  subst hn
  simp only [VT] at hv
  obtain ⟨gx, gh, u, hgj, hle, hvd, heq⟩ := hv
  have hgg : gx = g := by
    have h2 : (G.g.map (·.1))[j]? = some gx := by simp [hgj]
    rw [hr.boxes.gs, hg] at h2
    exact (Option.some.inj h2).symm
  subst hgg
  obtain ⟨hve, hcase⟩ := heq hver.symm
  have hlen : (toBytes xs).length = xs.length := by simp [toBytes]
  have step : ∀ w1, w.heap.size ≤ w1.heap.size → w1.os = w.os → w1.tape = w.tape → w1.output = w.output → (∀ b, b < w.heap.size → gh.ownBlock ≠ some b → w1.heap[b]? = w.heap[b]?) → (∀ b o v, G.pr b o → w.cell? ⟨b, o, none⟩ = some v → w1.cell? ⟨b, o, none⟩ = some v) →
      ∃ G1, Rel E w0 G0 { st with g := st.g.set j { gx with ver := gx.ver + 1 } } a w1 G1 := fun w1 s1 s2 s3 s4 s5 s6 =>
    ⟨_, hr.setGrow hgj s1 s2 s3 s4 s5 s6 G.pr (fun _ _ h => h) (fun _ _ h => .inl h) (hd' := .slice none 0 0) ⟨0, [], ⟨by simp, .inl ⟨rfl, rfl⟩⟩, (fun a m e => nomatch e), (fun b hb => nomatch hb)⟩ (fun b hb => nomatch hb)⟩
  have nothing : (Builtin.unsafeString_ c.argTypes o.type #[a.eval x, a.eval y]).run P w = .ok (mkStr (toBytes xs)) w → Does P w0 G0 a w o { st with t := setT st.t o.dst (.dat .str (toBytes xs)), g := st.g.set j { gx with ver := gx.ver + 1 } } := by
    intro hrun
    obtain ⟨G1, hR⟩ := step w (Nat.le_refl _) rfl rfl rfl (fun _ _ _ => rfl) (fun _ _ _ _ h => h)
    refine ⟨_, mkStr (toBytes xs), w, G1, ?_, .inl rfl, hR.put (.str _ _ _) o.dst⟩
    unfold execOp
    simp only [ho, resolve, hcl, Sem.run_bind, Sem.run_pure, Result.andThen_ok, invoke, builtin, ha', List.map_toArray, List.map_cons, List.map_nil, hrun]
  by_cases h0 : xs = []
  · subst h0
    refine nothing ?_
    rw [hvy, hat']
    rcases hcase with ⟨-, -, he⟩ | ⟨b, cap, -, he⟩ <;> rw [he] <;> exact Lib.run_unsafeString_none w pt it o.type _
  · rcases hcase with ⟨-, hl, -⟩ | ⟨b, cap, hgh, he⟩
    · exact (h0 hl).elim
    rw [hve, hgh] at hvd
    replace hvd : VD w G.pr _ (.slice 1 (xs.map (Ty.cells E (.int .u8)))) := hvd
    have hcell : ∀ (q : Nat) nn, xs[q]? = some nn → G.pr b q ∧ w.cell? ⟨b, q, none⟩ = some (.int .u8 nn) := by
      rcases hvd.bytes_cell with ⟨ad, h1, h2⟩ | ⟨b', off, cap', h1, -, h3⟩
      · exact (h0 h2).elim
      · simp only [Value.slice.injEq, Option.some.injEq, Addr.mk.injEq] at h1
        obtain ⟨⟨rfl, rfl, -⟩, -, rfl⟩ := h1
        intro q nn hq
        simpa using h3 q nn hq
    obtain ⟨n', ys, hown, -, hblk⟩ := hr.boxes.grow j gx gh hgj
    rcases hown.2 with ⟨hnil, -⟩ | ⟨gb, cap', cur, h2, -, hheap, hn', hcm, hcs, -⟩
    · rw [hgh] at hnil; cases hnil
    rw [hgh] at h2
    simp only [Value.slice.injEq, Option.some.injEq, Addr.mk.injEq] at h2
    obtain ⟨⟨rfl, -, -⟩, rfl, rfl⟩ := h2
    have hsh : w.shape? b = some (e, cap) := by
      simp only [World.shape?, hheap, hge, hcs, hgk, Nat.mul_one]
    have hrun := Lib.run_unsafeString_row (P := P) w pt it o.type e hup hce b cap hsh (toBytes xs) (by simpa [toBytes] using h0) (by rw [hlen]; exact hn') (by rw [hlen]; exact h63)
      (fun q u hq => by rw [add_lit, Nat.zero_add]; exact (hcell q _ (toBytes_at hok hq)).2)
    rw [hlen] at hrun
    obtain ⟨G1, hR⟩ := step (w.freeze ⟨b, 0, none⟩ xs.length) (by unfold World.freeze; split <;> simp) (by unfold World.freeze; split <;> rfl) (by unfold World.freeze; split <;> rfl) (by unfold World.freeze; split <;> rfl)
      (fun b' _ hne => freeze_heap w _ _ b' (fun e' => hne (by rw [hgh]; simp at e'; rw [e']; rfl))) (fun b' o' v _ hv => by rw [freeze_cell]; exact hv)
    refine ⟨_, mkStr (toBytes xs), _, G1, ?_, .inl rfl, hR.put (.str _ _ _) o.dst⟩
    unfold execOp
    simp only [ho, resolve, hcl, Sem.run_bind, Sem.run_pure, Result.andThen_ok, invoke, builtin, ha', hat', List.map_toArray, List.map_cons, List.map_nil]
    rw [he, hvy, hrun]
    rfl

/-- Pointers to variables as unsafe.Pointer and back. -/
theorem does_ptrConv (hr : Rel E w0 G0 st a w G) {src dst : TypeId} {x : Operand} (ho : o.op = .convert src dst x) {r off : Nat} (hx : st.ev x = .ptr r off) {t' : TypeId} {cs : List (TV E)} (hb : st.H[r]? = some (.cells t' cs))
    (hcase : (∃ t i, P.underlying src = some (.pointer t) ∧ P.underlying dst = some .unsafePointer ∧ tinfo P t = some i ∧ i.size ≠ 0 ∧ off < cs.length) ∨
      ∃ t i, P.underlying src = some .unsafePointer ∧ P.underlying dst = some (.pointer t) ∧ tinfo P t = some i ∧ liesAt P P.depth t' (cs.length / P.cellsOf t') off t 1 = true) :
    Does P w0 G0 a w o { st with t := setT st.t o.dst (.ptr r off) } := by
  have hv := hr.ev x
  rw [hx] at hv
  have hv0 := hv
  simp only [VT] at hv
  obtain ⟨b, he, hat⟩ := hv
  obtain ⟨vs, hh, -, hvs⟩ := hr.box hat hb
  have hsz : vs.size = cs.length := by simpa using hvs.length
  have hsh : w.shape? b = some (t', cs.length) := by simp only [World.shape?, hh, hsz]
  have hrun : (convert src dst (a.eval x)).run P w = .ok (a.eval x) w := by
    rw [he]
    rcases hcase with ⟨t, i, h1, h2, h3, h4, h5⟩ | ⟨t, i, h1, h2, h3, h4⟩
    · obtain ⟨j, hj, -, hjs, -⟩ := tinfo_some h3
      exact Lib.run_to_unsafe w ⟨b, off, none⟩ h1 h2 hj (by rw [hjs]; exact h4) hsh h5
    · obtain ⟨j, hj, -⟩ := tinfo_some h3
      exact Lib.run_from_unsafe w ⟨b, off, none⟩ h1 h2 hj hsh h4
  refine ⟨_, a.eval x, w, G, ?_, .inl rfl, hr.put hv0 o.dst⟩
  simp only [execOp, ho, Sem.run_bind, hrun, Result.andThen_ok, Sem.run_pure]
end

end Go.RT
/-
  RT, part 22: maps of plain keys and values.
-/
namespace Go.RT
set_option linter.unusedVariables false
open Go.MapKept

variable {E : TEnv}

def mset {α β : Type} (eq : α → α → Bool) (m : List (α × β)) (k : α) (v : β) : List (α × β) :=
  bif m.any (fun p => eq p.1 k) then m.map (fun p => bif eq p.1 k then (k, v) else p) else m ++ [(k, v)]
def mget {α β : Type} (eq : α → α → Bool) (m : List (α × β)) (k : α) (z : β) : β := match m.find? (fun p => eq p.1 k) with | some p => p.2 | none => z
def mhas {α β : Type} (eq : α → α → Bool) (m : List (α × β)) (k : α) : Bool := m.any (fun p => eq p.1 k)

def Ty.keyV (E : TEnv) : (t : Ty) → t.den E.D → Value
  | .str, l => mkStr l
  | .int k, n => .int k n
  | .bool, b => .bool b
  | _, _ => undef
def Ty.keq (E : TEnv) : (t : Ty) → t.den E.D → t.den E.D → Bool
  | .str, a, b => a == b
  | .int _, a, b => a == b
  | .bool, a, b => a == b
  | _, _, _ => false
/-- Plain keys of a type. -/
def keyD : Ty → TypeDesc → Bool
  | .str, .string => true
  | .int k, .int k' => decide (k = k')
  | .bool, .bool => true
  | _, _ => false

section
variable {t : Ty} {d : TypeDesc}
theorem VT_key (h : keyD t d = true) {w : World} {G : Ghost} {k : t.den E.D} {v : Value} (hv : VT E w G (.dat t k) v) : v = t.keyV E k := by
  unfold keyD at h
  split at h <;> try (cases h; done)
  · exact hv.str_inv
  · exact hv.int_inv
  · exact hv.bool_inv
theorem VT_ofKey (h : keyD t d = true) (w : World) (G : Ghost) (k : t.den E.D) : VT E w G (.dat t k) (t.keyV E k) := by
  unfold keyD at h
  split at h <;> try (cases h; done)
  · exact .str w G _
  · exact .int w G _ _
  · exact .bool w G _
theorem isKey_keyV (h : keyD t d = true) (k : t.den E.D) : IsKey d (t.keyV E k) := by
  unfold keyD at h
  split at h <;> try (cases h; done)
  · trivial
  · simp at h; subst h; rfl
  · trivial
theorem keyV_inj (h : keyD t d = true) {a b : t.den E.D} (e : t.keyV E a = t.keyV E b) : a = b := by
  unfold keyD at h
  split at h <;> try (cases h; done)
  · simpa [Ty.keyV, mkStr] using e
  · simpa [Ty.keyV] using e
  · simpa [Ty.keyV] using e
theorem keq_iff (h : keyD t d = true) {a b : t.den E.D} : t.keq E a b = true ↔ a = b := by
  unfold keyD at h
  split at h <;> try (cases h; done)
  · exact beq_iff_eq
  · exact beq_iff_eq
  · exact beq_iff_eq
end

section
variable {P : Program} {w0 w w' : World} {G0 G G' : Ghost} {st : TS E} {a : Act} {o : Oper} {kt vt : Ty} {d : TypeDesc} {m : List (kt.den E.D × vt.den E.D)}

theorem MapRel.length : ∀ {es : List MapEntry} {m : List (kt.den E.D × vt.den E.D)}, MapRel E w G kt vt es m → es.length = m.length
  | [], [], _ => rfl
  | _ :: _, _ :: _, h => by simp [MapRel.length h.2.2]
  | [], _ :: _, h => h.elim
  | _ :: _, [], h => h.elim
theorem MapRel.get : ∀ {es : List MapEntry} {m : List (kt.den E.D × vt.den E.D)} (j : Nat) {e : MapEntry}, MapRel E w G kt vt es m → es[j]? = some e → ∃ p, m[j]? = some p ∧ VT E w G (.dat kt p.1) e.key ∧ VT E w G (.dat vt p.2) e.val
  | [], [], _, _, _, h => by simp at h
  | e :: es, p :: ps, 0, x, h, hj => by simp at hj; subst hj; exact ⟨p, rfl, h.1, h.2.1⟩
  | e :: es, p :: ps, j + 1, x, h, hj => by simpa using MapRel.get j h.2.2 (by simpa using hj)
  | [], _ :: _, _, _, h, _ => h.elim
  | _ :: _, [], _, _, h, _ => h.elim
theorem MapRel.get' : ∀ {es : List MapEntry} {m : List (kt.den E.D × vt.den E.D)} (j : Nat) {p : kt.den E.D × vt.den E.D}, MapRel E w G kt vt es m → m[j]? = some p → ∃ e, es[j]? = some e ∧ VT E w G (.dat kt p.1) e.key ∧ VT E w G (.dat vt p.2) e.val
  | [], [], _, _, _, h => by simp at h
  | e :: es, p :: ps, 0, x, h, hj => by simp at hj; subst hj; exact ⟨e, rfl, h.1, h.2.1⟩
  | e :: es, p :: ps, j + 1, x, h, hj => by simpa using MapRel.get' j h.2.2 (by simpa using hj)
  | [], _ :: _, _, _, h, _ => h.elim
  | _ :: _, [], _, _, h, _ => h.elim
theorem MapRel.append : ∀ {es : List MapEntry} {m : List (kt.den E.D × vt.den E.D)} {e : MapEntry} {p : kt.den E.D × vt.den E.D}, MapRel E w G kt vt es m → VT E w G (.dat kt p.1) e.key → VT E w G (.dat vt p.2) e.val → MapRel E w G kt vt (es ++ [e]) (m ++ [p])
  | [], [], _, _, _, h1, h2 => ⟨h1, h2, trivial⟩
  | _ :: _, _ :: _, _, _, h, h1, h2 => ⟨h.1, h.2.1, MapRel.append h.2.2 h1 h2⟩
  | [], _ :: _, _, _, h, _, _ => h.elim
  | _ :: _, [], _, _, h, _, _ => h.elim
theorem MapRel.set : ∀ {es : List MapEntry} {m : List (kt.den E.D × vt.den E.D)} (j : Nat) {e : MapEntry} {p : kt.den E.D × vt.den E.D}, MapRel E w G kt vt es m → VT E w G (.dat kt p.1) e.key → VT E w G (.dat vt p.2) e.val → MapRel E w G kt vt (es.set j e) (m.set j p)
  | [], [], _, _, _, _, _, _ => trivial
  | _ :: _, _ :: _, 0, _, _, h, h1, h2 => ⟨h1, h2, h.2.2⟩
  | _ :: _, _ :: _, j + 1, _, _, h, h1, h2 => ⟨h.1, h.2.1, MapRel.set j h.2.2 h1 h2⟩
  | [], _ :: _, _, _, _, h, _, _ => h.elim
  | _ :: _, [], _, _, _, h, _, _ => h.elim

/-- Looking for a key. -/
theorem map_find (K : keyD kt d = true) {es : Array MapEntry} (h : MapRel E w G kt vt es.toList m) (k : kt.den E.D) :
    (Instr.findNow d (kt.keyV E k) es.toList 0 = some none ∧ m.any (fun p => kt.keq E p.1 k) = false ∧ ∀ x ∈ es.toList, x.key ≠ kt.keyV E k) ∨
    ∃ j e p, Instr.findNow d (kt.keyV E k) es.toList 0 = some (some (j, e.val)) ∧ es[j]? = some e ∧ e.key = kt.keyV E k ∧ m[j]? = some p ∧ p.1 = k ∧ VT E w G (.dat vt p.2) e.val := by
  have hkey : ∀ x ∈ es.toList, ∃ p ∈ m, x.key = kt.keyV E p.1 := fun x hx => by
    obtain ⟨j, hj, rfl⟩ := List.getElem_of_mem hx
    obtain ⟨p, hp, h1, -⟩ := h.get j (List.getElem?_eq_getElem hj)
    exact ⟨p, List.mem_of_getElem? hp, VT_key K h1⟩
  rcases findNow_spec (isKey_keyV K k) es.toList 0 (fun x hx => by obtain ⟨p, -, hk⟩ := hkey x hx; rw [hk]; exact isKey_keyV K _) with ⟨h1, h2⟩ | ⟨j, e, h1, h2, h3⟩
  · refine .inl ⟨h1, ?_, h2⟩
    apply Bool.eq_false_iff.2
    intro ha
    obtain ⟨p, hp, he⟩ := List.any_eq_true.1 ha
    obtain ⟨j, hj, rfl⟩ := List.getElem_of_mem hp
    obtain ⟨x, hx, hk, -⟩ := h.get' j (List.getElem?_eq_getElem hj)
    exact h2 x (List.mem_of_getElem? hx) (by rw [VT_key K hk, (keq_iff K).1 he])
  · have hj : es[j]? = some e := by simpa using h2
    obtain ⟨p, hp, hk, hv⟩ := h.get j h2
    exact .inr ⟨j, e, p, by simpa using h1, hj, h3, hp, keyV_inj K ((VT_key K hk).symm.trans h3), hv⟩

theorem map_nodup (K : keyD kt d = true) {es : Array MapEntry} {clock : Nat} (hs : Stamped es clock) (h : MapRel E w G kt vt es.toList m) : (m.map (·.1)).Nodup := by
  have h3 := hs.2.2
  have : es.toList.map (·.key) = (m.map (·.1)).map (kt.keyV E) := by
    apply List.ext_getElem (by simp [h.length])
    intro j h1 h2
    have hj : j < es.toList.length := by simpa using h1
    obtain ⟨p, hp, hk, -⟩ := h.get j (List.getElem?_eq_getElem hj)
    have hjm : j < m.length := (List.getElem?_eq_some_iff.1 hp).1
    have : m[j] = p := by rw [List.getElem?_eq_getElem hjm] at hp; exact Option.some.inj hp
    simp only [List.getElem_map, this]
    exact VT_key K hk
  rw [this] at h3
  exact (List.pairwise_map.1 h3).imp fun hne he => hne (by rw [he])

theorem mset_at (K : keyD kt d = true) (hn : (m.map (·.1)).Nodup) {j : Nat} {p : kt.den E.D × vt.den E.D} (hj : m[j]? = some p) {k : kt.den E.D} (hk : p.1 = k) (v : vt.den E.D) : mset (kt.keq E) m k v = m.set j (k, v) := by
  have hany : m.any (fun p => kt.keq E p.1 k) = true := List.any_eq_true.2 ⟨p, List.mem_of_getElem? hj, (keq_iff K).2 hk⟩
  unfold mset
  rw [hany, cond_true]
  have hjl : j < m.length := (List.getElem?_eq_some_iff.1 hj).1
  have hpj : m[j] = p := by rw [List.getElem?_eq_getElem hjl] at hj; exact Option.some.inj hj
  apply List.ext_getElem (by simp)
  intro q h1 h2
  have hq : q < m.length := by simpa using h1
  rw [List.getElem_map, List.getElem_set]
  by_cases hqj : j = q
  · subst hqj
    rw [if_pos rfl, hpj, (keq_iff K).2 hk, cond_true]
  · rw [if_neg hqj]
    have hne : kt.keq E m[q].1 k = false := by
      apply Bool.eq_false_iff.2
      intro he
      have he' := (keq_iff K).1 he
      have := (List.pairwise_iff_getElem.1 hn)
      rcases Nat.lt_or_gt_of_ne hqj with hlt | hlt
      · exact this j q (by simpa using hjl) (by simpa using hq) hlt (by simp [hpj, hk, he'])
      · exact this q j (by simpa using hq) (by simpa using hjl) hlt (by simp [hpj, hk, he'])
    rw [hne, cond_false]

theorem map_update {b : Nat} {t k e : TypeId} {es : Array MapEntry} {clock : Nat} (K : keyD kt d = true) (hm : P.underlying t = some (.map k e)) (hd : P.underlying k = some d) (hb : w.heap[b]? = some (.map es clock)) (hs : Stamped es clock) (h : MapRel E w G kt vt es.toList m)
    (x : kt.den E.D) (v : vt.den E.D) {vv : Value} (hv : VT E w G (.dat vt v) vv) :
    ∃ es' clock', (Instr.mapUpdate t (.map (some b)) (kt.keyV E x) vv).run P w = .ok () { w with heap := w.heap.setIfInBounds b (.map es' clock') } ∧ Stamped es' clock' ∧ MapRel E w G kt vt es'.toList (mset (kt.keq E) m x v) := by
  rcases map_find K h x with ⟨h1, h2, h3⟩ | ⟨j, e, p, h1, hj, h3, hp, hpk, hvv⟩
  · refine ⟨es.push ⟨kt.keyV E x, vv, clock⟩, clock + 1, ?_, stamped_push hs h3, ?_⟩
    · simp [Instr.mapUpdate, run_underlying hm, MapKept.run_getObj_map hb, MapKept.run_checkKey hd (isKey_keyV K x), MapKept.run_findKey hd h1, MapKept.run_setObj_map _ hb, Result.andThen]
    · unfold mset
      rw [h2, cond_false, Array.toList_push]
      exact h.append (VT_ofKey K w G x) hv
  · refine ⟨es.modify j fun e => { e with key := kt.keyV E x, val := vv }, clock, ?_, stamped_modify hs _ _ (fun _ _ => rfl) (fun e' _ he' => by rw [hj] at he'; cases he'; exact h3.symm), ?_⟩
    · simp [Instr.mapUpdate, run_underlying hm, MapKept.run_getObj_map hb, MapKept.run_checkKey hd (isKey_keyV K x), MapKept.run_findKey hd h1, hj, h3, MapKept.run_keyThatStays (isKey_keyV K x), MapKept.run_setObj_map _ hb, Result.andThen]
    · rw [mset_at K (map_nodup K hs h) hp hpk v]
      have : (es.modify j fun e => { e with key := kt.keyV E x, val := vv }).toList = es.toList.set j { e with key := kt.keyV E x, val := vv } := by
        apply List.ext_getElem (by simp)
        intro q h1 h2
        simp only [Array.getElem_toList, Array.getElem_modify, List.getElem_set]
        by_cases hqj : j = q
        · subst hqj
          obtain ⟨hjl, hje⟩ := Array.getElem?_eq_some_iff.1 hj
          simp [hje]
        · simp [hqj]
      rw [this]
      exact h.set j (VT_ofKey K w G x) hv

theorem map_look {b : Nat} {t k e : TypeId} {es : Array MapEntry} {clock : Nat} {z : vt.den E.D} {zv : Value} (K : keyD kt d = true) (hm : P.underlying t = some (.map k e)) (hd : P.underlying k = some d) (hz : ∀ w, (zeroValue e).run P w = .ok zv w) (hzv : VT E w G (.dat vt z) zv)
    (hb : w.heap[b]? = some (.map es clock)) (hs : Stamped es clock) (h : MapRel E w G kt vt es.toList m) (x : kt.den E.D) (c : Bool) :
    ∃ u, VT E w G (.dat vt (mget (kt.keq E) m x z)) u ∧ (Instr.lookup t (.map (some b)) (kt.keyV E x) c).run P w = .ok (if c then .tuple #[u, .bool (mhas (kt.keq E) m x)] else u) w := by
  rcases map_find K h x with ⟨h1, h2, h3⟩ | ⟨j, en, p, h1, hj, h3, hp, hpk, hv⟩
  · have hf : m.find? (fun p => kt.keq E p.1 x) = none := by
      rw [List.find?_eq_none]
      intro p hp he
      have := List.any_eq_false.1 h2 p hp
      exact this he
    have hg : mget (kt.keq E) m x z = z := by unfold mget; rw [hf]
    rw [hg]
    unfold mhas
    rw [h2]
    refine ⟨zv, hzv, ?_⟩
    simp [Instr.lookup, run_underlying hm, MapKept.run_getObj_map hb, MapKept.run_checkKey hd (isKey_keyV K x), MapKept.run_findKey hd h1, hz, Result.andThen]
  · have hf : m.find? (fun p => kt.keq E p.1 x) = some p := by
      obtain ⟨hjl, hjp⟩ := List.getElem?_eq_some_iff.1 hp
      rw [List.find?_eq_some_iff_getElem]
      refine ⟨(keq_iff K).2 hpk, j, hjl, hjp, fun q hq => ?_⟩
      have hn := List.pairwise_iff_getElem.1 (map_nodup K hs h) q j (by simp; omega) (by simpa using hjl) hq
      simp only [List.getElem_map, hjp, hpk] at hn
      cases hb : kt.keq E m[q].1 x with
      | false => rfl
      | true => exact (hn ((keq_iff K).1 hb)).elim
    have hg : mget (kt.keq E) m x z = p.2 := by unfold mget; rw [hf]
    have hany : mhas (kt.keq E) m x = true := List.any_eq_true.2 ⟨p, List.mem_of_getElem? hp, (keq_iff K).2 hpk⟩
    rw [hg, hany]
    refine ⟨en.val, hv, ?_⟩
    simp [Instr.lookup, run_underlying hm, MapKept.run_getObj_map hb, MapKept.run_checkKey hd (isKey_keyV K x), MapKept.run_findKey hd h1, Result.andThen]

theorem does_makeMap (hr : Rel E w0 G0 st a w G) {t : TypeId} (ho : o.op = .makeMap t none) (kt vt : Ty) :
    Does P w0 G0 a w o { st with t := setT st.t o.dst (.mref st.H.length), H := st.H ++ [.map kt vt []] } := by
  have hN := hr.newBox (.map #[] 0) (.map kt vt []) ⟨#[], 0, (MapKept.heap_alloc w _).1, stamped_empty 0, trivial⟩
  refine ⟨.value (.map (some w.heap.size)), _, _, _, ?_, .inl rfl, hN.put (d := .mref st.H.length) ?_ o.dst⟩
  · simp [execOp, ho, Instr.makeMap]
  · simp only [VT]
    refine ⟨_, rfl, ?_⟩
    rw [← hr.boxes.len]; simp

theorem does_mapUpdate (hr : Rel E w0 G0 st a w G) {t k e : TypeId} {x y z : Operand} (ho : o.op = .mapUpdate t x y z) {j1 j2 : Nat} {zz : Value} (hm : tinfo P t = some ⟨.map k e, j1, j2, zz⟩) {ik : TI} (hk : tinfo P k = some ik) (K : keyD kt ik.kind = true)
    {r : Nat} (hx : st.ev x = .mref r) (hb : st.H[r]? = some (.map kt vt m)) {kk : kt.den E.D} {vv : vt.den E.D} (hy : (st.ev y).get kt = some kk) (hz : (st.ev z).get vt = some vv) :
    Does P w0 G0 a w o { st with t := setT st.t o.dst .any, H := st.H.set r (.map kt vt (mset (kt.keq E) m kk vv)), d := r :: st.d } := by
  obtain ⟨_, _, hum, -⟩ := tinfo_some hm
  obtain ⟨_, _, huk, -⟩ := tinfo_some hk
  have hvx := hr.ev x
  rw [hx] at hvx
  simp only [VT] at hvx
  obtain ⟨b, he, hat⟩ := hvx
  obtain ⟨es, clock, hh, hs, hmr⟩ := hr.box hat hb
  have hvk := VT_key K (TV.get_vt hy (hr.ev y))
  obtain ⟨es', clock', hrun, hs', hmr'⟩ := map_update (P := P) K hum huk hh hs hmr kk vv (TV.get_vt hz (hr.ev z))
  have hR := hr.setBox (w' := { w with heap := w.heap.setIfInBounds b (.map es' clock') }) hat (by simp) rfl rfl rfl (fun b' hb' => (MapKept.heap_set hh).2 b' hb') (x := .map kt vt (mset (kt.keq E) m kk vv))
    (fun hg => ⟨es', clock', (MapKept.heap_set hh).1, hs', hmr'.mono hg⟩)
  refine ⟨_, undef, _, G, ?_, .inr ⟨rfl, rfl⟩, hR.put (v := undef) (by simp only [VT]) o.dst⟩
  simp only [execOp, ho, he, hvk, Sem.run_bind, hrun, Result.andThen_ok, Sem.run_pure]

theorem does_lookup (hE : E.Ok) (hr : Rel E w0 G0 st a w G) {t k e : TypeId} {x y : Operand} {ok : Bool} (ho : o.op = .lookup t x y ok) {j1 j2 : Nat} {zz : Value} (hm : tinfo P t = some ⟨.map k e, j1, j2, zz⟩) {ik ie : TI} (hk : tinfo P k = some ik) (he' : tinfo P e = some ie) (K : keyD kt ik.kind = true)
    (hzo : ie.zero.cells.toList.all (·.oneCell') = true) {r : Nat} (hx : st.ev x = .mref r) (hb : st.H[r]? = some (.map kt vt m)) {kk : kt.den E.D} (hy : (st.ev y).get kt = some kk) {z : vt.den E.D} (hz : (zeroTV E (some vt) ie.zero).get vt = some z) :
    Does P w0 G0 a w o { st with t := setT st.t o.dst (cond ok (.tuple [.dat vt (mget (kt.keq E) m kk z), .dat .bool (mhas (kt.keq E) m kk)]) (.dat vt (mget (kt.keq E) m kk z))) } := by
  obtain ⟨_, _, hum, -⟩ := tinfo_some hm
  obtain ⟨_, _, huk, -⟩ := tinfo_some hk
  have hvx := hr.ev x
  rw [hx] at hvx
  simp only [VT] at hvx
  obtain ⟨b, he, hat⟩ := hvx
  obtain ⟨es, clock, hh, hs, hmr⟩ := hr.box hat hb
  have hvk := VT_key K (TV.get_vt hy (hr.ev y))
  obtain ⟨u, hu, hrun⟩ := map_look (P := P) K hum huk (fun w => run_zeroValue' he' w) (TV.get_vt hz (VT_zero hE hzo)) hh hs hmr kk ok
  refine ⟨_, _, w, G, ?_, .inl rfl, hr.put (v := if ok then .tuple #[u, .bool (mhas (kt.keq E) m kk)] else u) ?_ o.dst⟩
  · simp only [execOp, ho, he, hvk, Sem.run_bind, hrun, Result.andThen_ok, Sem.run_pure]
  · cases ok
    · exact hu
    · simp only [cond_true, if_true, VT]
      exact ⟨_, rfl, .cons hu (.cons (.bool _ _ _) .nil)⟩

theorem does_mapLen (hr : Rel E w0 G0 st a w G) {c : Call} {x : Operand} {t k e : TypeId} {j1 j2 : Nat} {zz : Value} (ho : o.op = .call c) (hcl : c.callee = .builtin .len) (ha : c.args.toList = [x]) (hat' : c.argTypes.toList = [t]) (hm : tinfo P t = some ⟨.map k e, j1, j2, zz⟩)
    {r : Nat} (hx : st.ev x = .mref r) (hb : st.H[r]? = some (.map kt vt m)) : Does P w0 G0 a w o { st with t := setT st.t o.dst (.dat (.int .i64) (m.length : Int)) } := by
  obtain ⟨_, _, hum, -⟩ := tinfo_some hm
  have hvx := hr.ev x
  rw [hx] at hvx
  simp only [VT] at hvx
  obtain ⟨b, he, hat⟩ := hvx
  obtain ⟨es, clock, hh, hs, hmr⟩ := hr.box hat hb
  have ha1 : c.args = #[x] := by rw [← Array.toArray_toList (xs := c.args), ha]
  have ha2 : c.argTypes = #[t] := by rw [← Array.toArray_toList (xs := c.argTypes), hat']
  refine ⟨.value (.int .i64 m.length), _, w, G, ?_, .inl rfl, hr.put (.int _ _ _ _) o.dst⟩
  unfold execOp
  simp only [ho, resolve, hcl, Sem.run_bind, Sem.run_pure, Result.andThen_ok, invoke, builtin, ha1, ha2, List.map_toArray, List.map_cons, List.map_nil]
  rw [he]
  have hl : es.size = m.length := by simpa using hmr.length
  simp [Builtin.len_, run_underlying hum, MapKept.run_getObj_map hh, goInt, hl, Result.andThen]
end

end Go.RT
/-
  RT, part 23: the operations that change memory, evaluated on an abstract state, and soundness.
-/
namespace Go.RT
set_option linter.unusedVariables false

variable {E : TEnv}

/-- What is appended, as a list. -/
def srcT (T : Ty) (k : TypeDesc) (d : TV E) : Option (List (T.den E.D)) :=
  match k, d with
  | .string, .dat .str l => if h : T = .int .u8 then some (h ▸ toInts l) else none
  | .slice _, d => d.get (.lst T)
  | _, _ => none

def ptrConvOk (P : Program) (src dst t' : TypeId) (n off : Nat) : Bool :=
  match P.underlying src, P.underlying dst with
  | some (.pointer t), some .unsafePointer => match tinfo P t with
    | some i => !(Nat.beq i.size 0) && Nat.blt off n
    | none => false
  | some .unsafePointer, some (.pointer t) => match tinfo P t with
    | some _ => liesAt P P.depth t' (n / P.cellsOf t') off t 1
    | none => false
  | _, _ => false

def isU8 (P : Program) (e : TypeId) : Bool := match tinfo P e with
  | some ⟨.int .u8, _, _, _⟩ => true
  | _ => false

def callM (P : Program) (ty : TypeId → Option Ty) (st : TS E) (dst : Option Nat) (c : Call) : Option (Bool × TS E) :=
  match c.callee, c.args.toList, c.argTypes.toList with
  | .builtin .append, [x, y], [t, tx] => match tinfo P t, tinfo P tx with
    | some ⟨.slice e, _, _, _⟩, some ix => match tinfo P e, ty e with
      | some ie, some T => match srcT T ix.kind (st.ev y) with
        | some ys => match st.ev x with
          | .gsl j ver T' xs => match st.g[j]? with
            | some g => if hT : T' = T then
                some (Nat.beq g.ver ver && (Nat.beq g.e e && (Nat.beq g.k ie.size && (Nat.beq ie.size (T.size E) && (Nat.blt 0 ie.size && (Nat.beq ie.zero.cells.size ie.size &&
                    (decide (xs.length + ys.length ≤ 9223372036854775807) && decide ((xs.length + ys.length) * ie.bytes ≤ 140737488355328))))))),
                  { st with t := setT st.t dst (.gsl j (g.ver + 1) T ((hT ▸ xs : List (T.den E.D)) ++ ys)), g := st.g.set j { g with ver := g.ver + 1 } })
              else none
            | none => none
          | .val (.slice none 0 0) => some (Nat.beq ie.size (T.size E) && (Nat.blt 0 ie.size && (Nat.beq ie.zero.cells.size ie.size && (decide (ys.length ≤ 9223372036854775807) && decide (ys.length * ie.bytes ≤ 140737488355328)))),
              { st with t := setT st.t dst (.gsl st.g.length 1 T ys), g := st.g ++ [⟨1, e, ie.size⟩] })
          | _ => none
        | none => none
      | _, _ => none
    | _, _ => none
  | .builtin .unsafeString, [x, y], [pt, it] => match tinfo P pt, st.ev x, st.ev y with
    | some ⟨.pointer e, _, _, _⟩, .sdp j ver xs, .dat (.int .i64) n => match st.g[j]? with
      | some g => some (Nat.beq (P.cellsOf e) 1 && (Nat.beq g.ver ver && (Nat.beq g.e e && (Nat.beq g.k 1 && (decide (n = (xs.length : Int)) && (byteOk xs && decide (xs.length ≤ 9223372036854775807)))))),
          { st with t := setT st.t dst (.dat .str (toBytes xs)), g := st.g.set j { g with ver := g.ver + 1 } })
      | none => none
    | _, _, _ => none
  | .builtin .len, [x], [t] => match tinfo P t, st.ev x with
    | some ⟨.map _ _, _, _, _⟩, .mref r => match st.H[r]? with
      | some (.map _ _ m) => some (true, { st with t := setT st.t dst (.dat (.int .i64) (m.length : Int)) })
      | _ => none
    | _, _ => none
  | _, _, _ => none

def memT (P : Program) (ty : TypeId → Option Ty) (st : TS E) (dst : Option Nat) : Op → Option (Bool × TS E)
  | .alloc t => match tinfo P t with
    | some i => some (i.zero.cells.toList.all (·.oneCell'), { st with t := setT st.t dst (.ptr st.H.length 0), H := st.H ++ [.cells t (i.zero.cells.toList.map TV.ofV)] })
    | none => none
  | .box t x => match (st.ev x).cellsT with
    | some cs => some (true, { st with t := setT st.t dst (.ptr st.H.length 0), H := st.H ++ [.cells t cs] })
    | none => none
  | .store t x y => match tinfo P t, st.ev x, (st.ev y).cellsT with
    | some i, .ptr r off, some ds => match st.H[r]? with
      | some (.cells t' cs) => some (Nat.beq ds.length i.size && Nat.ble (off + i.size) cs.length, { st with t := setT st.t dst .any, H := st.H.set r (.cells t' (cs.take off ++ ds ++ cs.drop (off + ds.length))), d := r :: st.d })
      | _ => none
    | _, _, _ => none
  | .buildSlice t len parts => match tinfo P t with
    | some ⟨.slice e, _, _, _⟩ => match tinfo P e, ty e with
      | some ie, some T => match getList T (parts.toList.map fun p => st.ev p.2) with
        | some xs => cond (Nat.beq len 0)
            (some (parts.toList.isEmpty, { st with t := setT st.t dst (.dat (.lst T) []) }))
            (some (decide (parts.toList.map (·.1) = List.range len) && (Nat.ble (len * ie.size) 16777216 && (Nat.blt 0 ie.size && Nat.beq ie.size (T.size E))),
              { st with t := setT st.t dst (.gsl st.g.length 0 T xs), g := st.g ++ [⟨0, e, ie.size⟩] }))
        | none => none
      | _, _ => none
    | _ => none
  | .call c => callM P ty st dst c
  | .convert src dt x => match st.ev x with
    | .ptr r off => match st.H[r]? with
      | some (.cells t' cs) => some (ptrConvOk P src dt t' cs.length off, { st with t := setT st.t dst (.ptr r off) })
      | _ => none
    | d => match d.asList, tinfo P src, tinfo P dt with
      | some ⟨.int .u8, xs⟩, some ⟨.slice e, _, _, _⟩, some ⟨.string, _, _, _⟩ => some (isU8 P e, { st with t := setT st.t dst (.dat .str (toBytes xs)) })
      | _, _, _ => none
  | .makeMap t none => match tinfo P t with
    | some ⟨.map k e, _, _, _⟩ => match ty k, ty e with
      | some kt, some vt => some (true, { st with t := setT st.t dst (.mref st.H.length), H := st.H ++ [.map kt vt []] })
      | _, _ => none
    | _ => none
  | .mapUpdate t x y z => match tinfo P t, st.ev x with
    | some ⟨.map k e, _, _, _⟩, .mref r => match st.H[r]?, tinfo P k with
      | some (.map kt vt m), some ik => match (st.ev y).get kt, (st.ev z).get vt with
        | some kk, some vv => some (keyD kt ik.kind, { st with t := setT st.t dst .any, H := st.H.set r (.map kt vt (mset (kt.keq E) m kk vv)), d := r :: st.d })
        | _, _ => none
      | _, _ => none
    | _, _ => none
  | .lookup t x y ok => match tinfo P t, st.ev x with
    | some ⟨.map k e, _, _, _⟩, .mref r => match st.H[r]?, tinfo P k, tinfo P e with
      | some (.map kt vt m), some ik, some ie => match (st.ev y).get kt, (zeroTV E (some vt) ie.zero).get vt with
        | some kk, some z => some (keyD kt ik.kind && ie.zero.cells.toList.all (·.oneCell'),
            { st with t := setT st.t dst (cond ok (.tuple [.dat vt (mget (kt.keq E) m kk z), .dat .bool (mhas (kt.keq E) m kk)]) (.dat vt (mget (kt.keq E) m kk z))) })
        | _, _ => none
      | _, _, _ => none
    | _, _ => none
  | _ => none

section
variable {P : Program} {w0 w w' : World} {G0 G G' : Ghost} {st : TS E} {a : Act} {o : Oper}

theorem srcT_ok (hr : Rel E w0 G0 st a w G) {y : Operand} {tx : TypeId} {ix : TI} (htx : tinfo P tx = some ix) {T : Ty} (hk0 : 0 < T.size E) {ys : List (T.den E.D)} (h : srcT T ix.kind (st.ev y) = some ys) :
    ∃ news, Src P (T.size E) tx (a.eval y) ys.length news w ∧ Flat w G.pr (T.size E) news (ys.map (T.cells E)) := by
  unfold srcT at h
  split at h
  · rename_i l hk hd
    split at h
    · rename_i hT
      subst hT
      cases h
      obtain ⟨news, h1, h2⟩ := src_string hr htx hk hd
      exact ⟨news, by simpa [toInts, Ty.size] using h1, h2⟩
    · cases h
  · rename_i e' hk
    have hv := TV.get_vt h (hr.ev y)
    exact src_list hr htx hk hk0 (hv.atom rfl).of_single
  · cases h

theorem does_buildSlice0 (hr : Rel E w0 G0 st a w G) {t e : TypeId} {parts : Array (Nat × Operand)} {j1 j2 : Nat} {z : Value} {ie : TI} (ho : o.op = .buildSlice t 0 parts) (ht : tinfo P t = some ⟨.slice e, j1, j2, z⟩) (hi : tinfo P e = some ie) (hp : parts.toList = []) (T : Ty) :
    Does P w0 G0 a w o { st with t := setT st.t o.dst (.dat (.lst T) []) } := by
  obtain ⟨xt, hxt, hut, -⟩ := tinfo_some ht
  obtain ⟨xe, hxe, hue, hsz, -⟩ := tinfo_some hi
  have hp' : parts = #[] := by rw [← Array.toArray_toList (xs := parts), hp]
  have hG := hr.grow (Same.alloc w (.cells #[] e)) rfl rfl rfl G.pr (fun _ _ h => h) (fun _ _ _ h => h) (fun b o hp => Nat.lt_of_lt_of_le (hr.boxes.prok b o hp).1 (by simp))
  refine ⟨.value (.slice (some ⟨w.heap.size, 0, none⟩) 0 0), _, w.alloc (.cells #[] e), _, ?_, .inl rfl, hG.put (d := .dat (.lst T) []) (.list (.nils _ _)) o.dst⟩
  simp only [execOp, ho, Instr.buildSlice, Sem.run_bind, run_underlying' hut, Result.andThen_ok, run_sizeOf' hxe, hsz, hp']
  simp [newRow, Instr.fill]
  congr 2
  apply Array.ext <;> simp

theorem memT_sound (hE : E.Ok) (hr : Rel E w0 G0 st a w G) {ty : TypeId → Option Ty} {st' : TS E} {c : Bool} (h : memT P ty st o.dst o.op = some (c, st')) (hc : c = true) : Does P w0 G0 a w o st' := by
  cases ho : o.op <;> rw [ho] at h <;> simp only [memT] at h <;> try (cases h; done)
  case alloc t =>
    split at h <;> try (cases h; done)
    rename_i i hi
    cases h
    exact does_alloc hr ho hi hc
  case box t x =>
    split at h <;> try (cases h; done)
    rename_i cs hcs
    cases h
    exact does_box hE hr ho hcs
  case store t x y =>
    split at h <;> try (cases h; done)
    rename_i i r off ds hi hd hds
    split at h <;> try (cases h; done)
    rename_i t' cs hb
    cases h
    rw [Bool.and_eq_true] at hc
    exact does_store hE hr ho hi hd hb hds (Nat.eq_of_beq_eq_true hc.1) (Nat.le_of_ble_eq_true hc.2)
  case buildSlice t len parts =>
    split at h <;> try (cases h; done)
    rename_i e j1 j2 z ht
    split at h <;> try (cases h; done)
    rename_i ie T hi hT
    split at h <;> try (cases h; done)
    rename_i xs hx
    cases hl : Nat.beq len 0 <;> rw [hl] at h <;> simp only [cond_true, cond_false] at h
    · cases h
      simp only [Bool.and_eq_true, decide_eq_true_eq] at hc
      have h0 : len ≠ 0 := fun e => by subst e; cases hl
      exact does_buildSlice hE hr ho ht hi hc.1 (Nat.le_of_ble_eq_true hc.2.1) (Nat.le_of_ble_eq_true hc.2.2.1) (by omega) (Nat.eq_of_beq_eq_true hc.2.2.2) hx
    · cases h
      obtain rfl := Nat.eq_of_beq_eq_true hl
      exact does_buildSlice0 hr ho ht hi (by simpa using hc) T
  case convert src dt x =>
    split at h
    · rename_i r off hd
      split at h <;> try (cases h; done)
      rename_i t' cs hb
      cases h
      refine does_ptrConv hr ho hd hb ?_
      unfold ptrConvOk at hc
      split at hc <;> try (cases hc; done)
      · rename_i t hs hdt
        split at hc <;> try (cases hc; done)
        rename_i i hi
        simp only [Bool.and_eq_true, Bool.not_eq_true'] at hc
        exact .inl ⟨t, i, hs, hdt, hi, fun e => (by rw [e] at hc; exact absurd hc.1 (by decide)), Nat.le_of_ble_eq_true hc.2⟩
      · rename_i t hs hdt
        split at hc <;> try (cases hc; done)
        rename_i i hi
        exact .inr ⟨t, i, hs, hdt, hi, hc⟩
    · split at h <;> try (cases h; done)
      rename_i xs e j1 j2 z1 j3 j4 z2 hd hs hdt
      cases h
      unfold isU8 at hc
      split at hc <;> try (cases hc; done)
      rename_i j5 j6 z3 he
      exact does_bytesToString hr ho hs hdt he (TV.asList_ok hd)
  case makeMap t res =>
    cases res with
    | some x => simp at h
    | none =>
      simp only at h
      split at h <;> try (cases h; done)
      split at h <;> try (cases h; done)
      cases h
      exact does_makeMap hr ho _ _
  case mapUpdate t x y z =>
    split at h <;> try (cases h; done)
    rename_i k e j1 j2 zz r hm hx
    split at h <;> try (cases h; done)
    rename_i kt vt m ik hb hk
    split at h <;> try (cases h; done)
    rename_i kk vv hy hz
    cases h
    exact does_mapUpdate hr ho hm hk hc hx hb hy hz
  case lookup t x y ok =>
    split at h <;> try (cases h; done)
    rename_i k e j1 j2 zz r hm hx
    split at h <;> try (cases h; done)
    rename_i kt vt m ik ie hb hk he
    split at h <;> try (cases h; done)
    rename_i kk z hy hz
    cases h
    rw [Bool.and_eq_true] at hc
    exact does_lookup hE hr ho hm hk he hc.1 hc.2 hx hb hy hz
  case call c' =>
    unfold callM at h
    split at h <;> try (cases h; done)
    · rename_i x y t tx hcl ha hat
      split at h <;> try (cases h; done)
      rename_i e j1 j2 z ix ht htx
      split at h <;> try (cases h; done)
      rename_i ie T hi hT
      split at h <;> try (cases h; done)
      rename_i ys hys
      split at h <;> try (cases h; done)
      · rename_i j ver T' xs hx
        split at h <;> try (cases h; done)
        rename_i g hg
        split at h <;> try (cases h; done)
        rename_i hTT
        subst hTT
        cases h
        simp only [Bool.and_eq_true, decide_eq_true_eq] at hc
        obtain ⟨c1, c2, c3, c4, c5, c6, c7, c8⟩ := hc
        have c4 := Nat.eq_of_beq_eq_true c4
        have c5 : 0 < ie.size := Nat.le_of_ble_eq_true c5
        obtain ⟨news, q1, q2⟩ := srcT_ok hr htx (by rw [← c4]; exact c5) hys
        rw [← c4] at q1 q2
        exact does_append hE hr ho hcl ha hat ht hi hx hg (Nat.eq_of_beq_eq_true c1) (Nat.eq_of_beq_eq_true c2) (Nat.eq_of_beq_eq_true c3) c4 c5 (Nat.eq_of_beq_eq_true c6) c7 c8 q1 q2
      · rename_i hx
        cases h
        simp only [Bool.and_eq_true, decide_eq_true_eq] at hc
        obtain ⟨c4, c5, c6, c7, c8⟩ := hc
        have c4 := Nat.eq_of_beq_eq_true c4
        have c5 : 0 < ie.size := Nat.le_of_ble_eq_true c5
        obtain ⟨news, q1, q2⟩ := srcT_ok hr htx (by rw [← c4]; exact c5) hys
        rw [← c4] at q1 q2
        exact does_appendNil hE hr ho hcl ha hat ht hi hx c4 c5 (Nat.eq_of_beq_eq_true c6) c7 c8 q1 q2
    · rename_i x y pt it hcl ha hat
      split at h <;> try (cases h; done)
      rename_i e j1 j2 z j ver xs n hp hx hy
      split at h <;> try (cases h; done)
      rename_i g hg
      cases h
      simp only [Bool.and_eq_true, decide_eq_true_eq] at hc
      obtain ⟨c1, c2, c3, c4, c5, c6, c7⟩ := hc
      exact does_unsafeString (j3 := 0) (j4 := 0) (z2 := undef) hr ho hcl ha hat hp (Nat.eq_of_beq_eq_true c1) hx hg (Nat.eq_of_beq_eq_true c2) (Nat.eq_of_beq_eq_true c3) (Nat.eq_of_beq_eq_true c4) hy c5 c6 c7
    · rename_i x t hcl ha hat
      split at h <;> try (cases h; done)
      rename_i k e j1 j2 z r hm hx
      split at h <;> try (cases h; done)
      rename_i kt vt m hb
      cases h
      exact does_mapLen hr ho hcl ha hat hm hx hb
end

end Go.RT
/-
  RT, part 24: shapes: what of a value, of a box, is data and what is fixed; data taken out and put back.
-/
namespace Go.RT
set_option linter.unusedVariables false

variable {E : TEnv}

inductive NilK where
  | ptr | iface | func | slice | map
  deriving DecidableEq
def NilK.val : NilK → Value
  | .ptr => .pointer none
  | .iface => .nilIface
  | .func => .nilFunc
  | .slice => .slice none 0 0
  | .map => .map none
def nilK : Value → Option NilK
  | .pointer none => some .ptr
  | .nilIface => some .iface
  | .nilFunc => some .func
  | .slice none 0 0 => some .slice
  | .map none => some .map
  | _ => none
theorem nilK_ok {v : Value} {k : NilK} (h : nilK v = some k) : v = k.val := by
  unfold nilK at h
  split at h <;> cases h <;> rfl

/-- Shapes of one cell or one plain value. -/
inductive CT where
  | dat (t : Ty)
  | any
  | ptr (r off : Nat)
  | optr (r off : Nat)
  | mref (r : Nat)
  | gsl (j : Nat) (t : Ty)
  | func (f : FuncId) (caps : List (Nat × Nat))
  | nil (k : NilK)
  | cel (t : Ty) (off : Nat)
  | iface (ty : TypeId) (t : Ty)
inductive PT where
  | one (c : CT)
  | agg (cs : List CT)
  | tup (cs : List CT)
inductive BT where
  | cells (ty : TypeId) (cs : List CT)
  | map (kt vt : Ty)
  | iter

def CT.tys : CT → List Ty
  | .dat t => [t]
  | .optr _ _ => [.bool]
  | .gsl _ t => [.lst t]
  | .cel t _ => [t]
  | .iface _ t => [t]
  | _ => []
def CT.tysL : List CT → List Ty
  | [] => []
  | c :: cs => c.tys ++ tysL cs
def PT.tys : PT → List Ty
  | .one c => c.tys
  | .agg cs => CT.tysL cs
  | .tup cs => CT.tysL cs
def BT.tys : BT → List Ty
  | .cells _ cs => CT.tysL cs
  | .map kt vt => [.lst (.pair kt vt)]
  | .iter => [.str, .int .i64]

/-- A piece of data. -/
abbrev Lf (E : TEnv) := (t : Ty) × t.den E.D
@[reducible] def dens (E : TEnv) : List Ty → Type
  | [] => Unit
  | [t] => t.den E.D
  | t :: u :: ts => t.den E.D × dens E (u :: ts)
def lfGet (t : Ty) (x : Lf E) : Option (t.den E.D) := if h : x.1 = t then some (h ▸ x.2) else none
def getAll : (ts : List Ty) → List (Lf E) → Option (dens E ts)
  | [], [] => some ()
  | [], _ :: _ => none
  | [t], [x] => lfGet t x
  | [_], [] => none
  | [_], _ :: _ :: _ => none
  | t :: u :: ts, x :: xs => match lfGet t x, getAll (u :: ts) xs with
    | some y, some ys => some (y, ys)
    | _, _ => none
  | _ :: _ :: _, [] => none
def putAll : (ts : List Ty) → dens E ts → List (Lf E)
  | [], _ => []
  | [t], x => [⟨t, x⟩]
  | t :: u :: ts, x => ⟨t, x.1⟩ :: putAll (u :: ts) x.2
theorem lfGet_ok {t : Ty} {x : Lf E} {y : t.den E.D} (h : lfGet t x = some y) : x = ⟨t, y⟩ := by
  unfold lfGet at h
  split at h
  · rename_i e
    obtain ⟨t', z⟩ := x
    dsimp only at e
    subst e
    cases h
    rfl
  · cases h
theorem getAll_ok : ∀ (ts : List Ty) {ls : List (Lf E)} {x : dens E ts}, getAll ts ls = some x → putAll ts x = ls
  | [], [], _, _ => rfl
  | [], _ :: _, _, h => by cases h
  | [t], [l], x, h => by simp only [getAll] at h; simp only [putAll, lfGet_ok h]
  | [_], [], _, h => by cases h
  | [_], _ :: _ :: _, _, h => by cases h
  | t :: u :: ts, l :: ls, x, h => by
    simp only [getAll] at h
    split at h <;> try (cases h; done)
    rename_i y ys h1 h2
    cases h
    simp only [putAll, lfGet_ok h1, getAll_ok (u :: ts) h2]
  | _ :: _ :: _, [], _, h => by cases h

/-- A renumbering: the boxes and rows of a shape, where they are in a state; the rows' versions there. -/
structure Rn where
  b : List Nat
  g : List Nat
  v : List Nat

def nat2 (a b c d : Nat) : Bool := Nat.beq a b && Nat.beq c d

def capsOk (n : Rn) : List (Nat × Nat) → List (TV E) → Bool
  | [], [] => true
  | (r, off) :: cs, d :: ds => (match n.b[r]?, d with
    | some r', .ptr r'' off' => nat2 r' r'' off off'
    | _, _ => false) && capsOk n cs ds
  | _, _ => false
def capsPut (n : Rn) : List (Nat × Nat) → List (TV E)
  | [] => []
  | (r, off) :: cs => (match n.b[r]? with | some r' => .ptr r' off | none => .any) :: capsPut n cs

def CT.get (n : Rn) : CT → TV E → Option (List (Lf E))
  | .dat t, d => match d.get t with | some x => some [⟨t, x⟩] | none => none
  | .any, _ => some []
  | .ptr r off, .ptr r' off' => match n.b[r]? with
    | some r'' => cond (nat2 r'' r' off off') (some []) none
    | none => none
  | .optr r off, .optr b r' off' => match n.b[r]? with
    | some r'' => cond (nat2 r'' r' off off') (some [⟨.bool, b⟩]) none
    | none => none
  | .optr r off, .ptr r' off' => match n.b[r]? with
    | some r'' => cond (nat2 r'' r' off off') (some [⟨.bool, true⟩]) none
    | none => none
  | .optr _ _, .val (.pointer none) => some [⟨.bool, false⟩]
  | .mref r, .mref r' => match n.b[r]? with
    | some r'' => cond (Nat.beq r'' r') (some []) none
    | none => none
  | .gsl j t, .gsl j' ver t' xs => match n.g[j]?, n.v[j]? with
    | some j'', some v => if h : t' = t then cond (nat2 j'' j' v ver) (some [⟨.lst t, (h ▸ xs : List (t.den E.D))⟩]) none else none
    | _, _ => none
  | .func f caps, .func (.func f') cs => cond (Nat.beq f f' && capsOk n caps cs) (some []) none
  | .nil k, .val v => match nilK v with | some k' => cond (decide (k = k')) (some []) none | none => none
  | .cel t off, .cel t' y off' => if h : t' = t then cond (Nat.beq off off') (some [⟨t, h ▸ y⟩]) none else none
  | .iface ty t, .iface ty' d => match d.get t with | some x => cond (Nat.beq ty ty') (some [⟨t, x⟩]) none | none => none
  | _, _ => none

def CT.put (n : Rn) : CT → List (Lf E) → TV E × List (Lf E)
  | .dat _, l :: ls => (.dat l.1 l.2, ls)
  | .ptr r off, ls => (match n.b[r]? with | some r' => .ptr r' off | none => .any, ls)
  | .optr r off, l :: ls => (match n.b[r]?, l with | some r', ⟨.bool, b⟩ => .optr b r' off | _, _ => .any, ls)
  | .mref r, ls => (match n.b[r]? with | some r' => .mref r' | none => .any, ls)
  | .gsl j _, l :: ls => (match n.g[j]?, n.v[j]?, l with | some j', some v, ⟨.lst t, xs⟩ => .gsl j' v t xs | _, _, _ => .any, ls)
  | .func f caps, ls => (.func (.func f) (capsPut n caps), ls)
  | .nil k, ls => (.val k.val, ls)
  | .cel _ off, l :: ls => (.cel l.1 l.2 off, ls)
  | .iface ty _, l :: ls => (.iface ty (.dat l.1 l.2), ls)
  | _, ls => (.any, ls)

def CT.getL (n : Rn) : List CT → List (TV E) → Option (List (Lf E))
  | [], [] => some []
  | c :: cs, d :: ds => match c.get n d, getL n cs ds with
    | some l, some ls => some (l ++ ls)
    | _, _ => none
  | _, _ => none
def CT.putL (n : Rn) : List CT → List (Lf E) → List (TV E) × List (Lf E)
  | [], ls => ([], ls)
  | c :: cs, ls => ((c.put n ls).1 :: (putL n cs (c.put n ls).2).1, (putL n cs (c.put n ls).2).2)

def PT.get (n : Rn) : PT → TV E → Option (List (Lf E))
  | .one c, d => c.get n d
  | .agg cs, .agg ds => CT.getL n cs ds
  | .tup cs, .tuple ds => CT.getL n cs ds
  | _, _ => none
def PT.put (n : Rn) : PT → List (Lf E) → TV E × List (Lf E)
  | .one c, ls => c.put n ls
  | .agg cs, ls => (.agg (CT.putL n cs ls).1, (CT.putL n cs ls).2)
  | .tup cs, ls => (.tuple (CT.putL n cs ls).1, (CT.putL n cs ls).2)

def BT.get (n : Rn) : BT → TBox E → Option (List (Lf E))
  | .cells ty cs, .cells ty' ds => cond (Nat.beq ty ty') (CT.getL n cs ds) none
  | .map kt vt, .map kt' vt' m => if h : Ty.lst (.pair kt' vt') = .lst (.pair kt vt) then some [⟨.lst (.pair kt vt), (h ▸ (show (Ty.lst (.pair kt' vt')).den E.D from m) : (Ty.lst (.pair kt vt)).den E.D)⟩] else none
  | .iter, .iter s pos => some [⟨.str, s⟩, ⟨.int .i64, (pos : Int)⟩]
  | _, _ => none
def BT.put (n : Rn) : BT → List (Lf E) → TBox E × List (Lf E)
  | .cells ty cs, ls => (.cells ty (CT.putL n cs ls).1, (CT.putL n cs ls).2)
  | .map _ _, l :: ls => (match l with | ⟨.lst (.pair kt vt), m⟩ => .map kt vt m | _ => .iter [] 0, ls)
  | .iter, l :: l' :: ls => (match l, l' with | ⟨.str, s⟩, ⟨.int _, p⟩ => .iter s (Int.toNat p) | _, _ => .iter [] 0, ls)
  | _, ls => (.iter [] 0, ls)

/-- The same boxes and rows, seen in two numberings. -/
structure Link (w : World) (G : Ghost) (n : Rn) (G2 : Ghost) (n2 : Rn) : Prop where
  pr : ∀ b o, G.pr b o → G2.pr b o
  i : ∀ (r r' b : Nat), n.b[r]? = some r' → G.i[r']? = some b → ∃ r2, n2.b[r]? = some r2 ∧ G2.i[r2]? = some b
  g : ∀ (j j' v : Nat) x h, n.g[j]? = some j' → n.v[j]? = some v → G.g[j']? = some (x, h) → x.ver = v ∧ ∃ j2 v2 x2, n2.g[j]? = some j2 ∧ n2.v[j]? = some v2 ∧ G2.g[j2]? = some (x2, h) ∧ x2.ver = v2

theorem nat2_ok {a b c d : Nat} (h : nat2 a b c d = true) : a = b ∧ c = d := by
  unfold nat2 at h
  rw [Bool.and_eq_true] at h
  exact ⟨Nat.eq_of_beq_eq_true h.1, Nat.eq_of_beq_eq_true h.2⟩

section
variable {w : World} {G G2 : Ghost} {n n2 : Rn}

theorem VT.dat_pr {t : Ty} {x : t.den E.D} {v : Value} (h : VT E w G (.dat t x) v) (hp : ∀ b o, G.pr b o → G2.pr b o) : VT E w G2 (.dat t x) v := by
  cases ha : t.isAgg
  · exact .of_atom ha ((h.atom ha).mono hp (fun _ _ _ _ h => h))
  · obtain ⟨vs, rfl, h0⟩ := h.aggr ha
    simp only [VT, ha]
    exact ⟨vs, rfl, h0.mono hp (fun _ _ _ _ h => h)⟩

theorem caps_ok (hL : Link w G n G2 n2) : ∀ (caps : List (Nat × Nat)) {cs : List (TV E)} {vs : List Value}, capsOk n caps cs = true → VTs E w G cs vs → VTs E w G2 (capsPut n2 caps : List (TV E)) vs
  | [], [], vs, _, h => h
  | (r, off) :: caps, d :: ds, vs, hc, h => by
    simp only [capsOk, Bool.and_eq_true] at hc
    obtain ⟨u, us, rfl, h1, h2⟩ := h.cons_inv
    obtain ⟨hc1, hc2⟩ := hc
    split at hc1 <;> try (cases hc1; done)
    rename_i r' r'' off' hr
    obtain ⟨rfl, rfl⟩ := nat2_ok hc1
    simp only [VT] at h1
    obtain ⟨b, rfl, hb⟩ := h1
    obtain ⟨r2, hr2, hb2⟩ := hL.i r r' b hr hb
    simp only [capsPut, hr2]
    refine .cons ?_ (caps_ok hL caps hc2 h2)
    simp only [VT]
    exact ⟨b, rfl, hb2⟩
  | [], _ :: _, _, hc, _ => by cases hc
  | (_, _) :: _, [], _, hc, _ => by cases hc

theorem CT.sound (hL : Link w G n G2 n2) {c : CT} {d : TV E} {ls rest : List (Lf E)} {v : Value} (h : c.get n d = some ls) (hv : VT E w G d v) :
    (c.put n2 (ls ++ rest)).2 = rest ∧ VT E w G2 (c.put n2 (ls ++ rest)).1 v := by
  unfold CT.get at h
  split at h <;> try (cases h; done)
  · split at h <;> try (cases h; done)
    rename_i t x hx
    cases h
    exact ⟨rfl, (TV.get_vt hx hv).dat_pr hL.pr⟩
  · cases h
    simp only [CT.put, List.nil_append, true_and, VT]
  · rename_i r off r' off'
    split at h <;> try (cases h; done)
    rename_i r'' hr
    cases hb : nat2 r'' r' off off' <;> rw [hb] at h <;> simp only [cond_true, cond_false] at h
    · cases h
    cases h
    obtain ⟨rfl, rfl⟩ := nat2_ok hb
    simp only [VT] at hv
    obtain ⟨b, rfl, hb⟩ := hv
    obtain ⟨r2, hr2, hb2⟩ := hL.i r r'' b hr hb
    simp only [CT.put, hr2, List.nil_append, true_and, VT]
    exact ⟨b, rfl, hb2⟩
  · rename_i r off bb r' off'
    split at h <;> try (cases h; done)
    rename_i r'' hr
    cases hb : nat2 r'' r' off off' <;> rw [hb] at h <;> simp only [cond_true, cond_false] at h
    · cases h
    cases h
    obtain ⟨rfl, rfl⟩ := nat2_ok hb
    cases bb <;> simp only [VT] at hv
    · subst hv
      simp only [CT.put, List.cons_append, List.nil_append, true_and]
      cases hr2 : n2.b[r]? with
      | none => simp only [VT]
      | some r2 => simp only [VT]
    · obtain ⟨b, rfl, hb⟩ := hv
      obtain ⟨r2, hr2, hb2⟩ := hL.i r r'' b hr hb
      simp only [CT.put, hr2, List.cons_append, List.nil_append, true_and, VT]
      exact ⟨b, rfl, hb2⟩
  · rename_i r off r' off'
    split at h <;> try (cases h; done)
    rename_i r'' hr
    cases hb : nat2 r'' r' off off' <;> rw [hb] at h <;> simp only [cond_true, cond_false] at h
    · cases h
    cases h
    obtain ⟨rfl, rfl⟩ := nat2_ok hb
    simp only [VT] at hv
    obtain ⟨b, rfl, hb⟩ := hv
    obtain ⟨r2, hr2, hb2⟩ := hL.i r r'' b hr hb
    simp only [CT.put, hr2, List.cons_append, List.nil_append, true_and, VT]
    exact ⟨b, rfl, hb2⟩
  · rename_i r off
    cases h
    simp only [VT] at hv
    subst hv
    simp only [CT.put, List.cons_append, List.nil_append, true_and]
    cases hr2 : n2.b[r]? with
    | none => simp only [VT]
    | some r2 => simp only [VT]
  · rename_i r r'
    split at h <;> try (cases h; done)
    rename_i r'' hr
    cases hb : Nat.beq r'' r' <;> rw [hb] at h <;> simp only [cond_true, cond_false] at h
    · cases h
    cases h
    obtain rfl := Nat.eq_of_beq_eq_true hb
    simp only [VT] at hv
    obtain ⟨b, rfl, hb⟩ := hv
    obtain ⟨r2, hr2, hb2⟩ := hL.i r r'' b hr hb
    simp only [CT.put, hr2, List.nil_append, true_and, VT]
    exact ⟨b, rfl, hb2⟩
  · rename_i j t j' ver t' xs
    split at h <;> try (cases h; done)
    rename_i j'' vv hj hvj
    split at h <;> try (cases h; done)
    rename_i ht
    subst ht
    cases hb : nat2 j'' j' vv ver <;> rw [hb] at h <;> simp only [cond_true, cond_false] at h
    · cases h
    cases h
    obtain ⟨rfl, rfl⟩ := nat2_ok hb
    simp only [VT] at hv
    obtain ⟨hvd, x, hh, hg, hle, heq⟩ := hv
    obtain ⟨hxv, j2, v2, x2, q1, q2, q3, q4⟩ := hL.g j j'' vv x hh hj hvj hg
    simp only [CT.put, q1, q2, List.cons_append, List.nil_append, true_and, VT]
    refine ⟨hvd.mono hL.pr (fun _ _ _ _ h => h), x2, hh, q3, by omega, fun _ => heq hxv.symm⟩
  · rename_i f caps f' cs
    cases hb : (Nat.beq f f' && capsOk n caps cs) <;> rw [hb] at h <;> simp only [cond_true, cond_false] at h
    · cases h
    cases h
    rw [Bool.and_eq_true] at hb
    obtain rfl := Nat.eq_of_beq_eq_true hb.1
    simp only [VT] at hv
    obtain ⟨vs, rfl, hvs⟩ := hv
    simp only [CT.put, List.nil_append, true_and, VT]
    exact ⟨vs, rfl, caps_ok hL caps hb.2 hvs⟩
  · rename_i k u
    split at h <;> try (cases h; done)
    rename_i k' hk
    cases hb : decide (k = k') <;> rw [hb] at h <;> simp only [cond_true, cond_false] at h
    · cases h
    cases h
    simp only [decide_eq_true_eq] at hb
    subst hb
    simp only [VT] at hv
    subst hv
    simp only [CT.put, List.nil_append, true_and, VT]
    exact nilK_ok hk
  · rename_i t off t' y off'
    split at h <;> try (cases h; done)
    rename_i ht
    subst ht
    cases hb : Nat.beq off off' <;> rw [hb] at h <;> simp only [cond_true, cond_false] at h
    · cases h
    cases h
    obtain rfl := Nat.eq_of_beq_eq_true hb
    simp only [VT] at hv
    obtain ⟨b, o, c, rfl, h1, h2⟩ := hv
    simp only [CT.put, List.cons_append, List.nil_append, true_and, VT]
    exact ⟨b, o, c, rfl, h1.mono hL.pr (fun _ _ _ _ h => h), fun l u hl => ⟨hL.pr _ _ (h2 l u hl).1, (h2 l u hl).2⟩⟩
  · rename_i ty t ty' d'
    split at h <;> try (cases h; done)
    rename_i x hx
    cases hb : Nat.beq ty ty' <;> rw [hb] at h <;> simp only [cond_true, cond_false] at h
    · cases h
    cases h
    obtain rfl := Nat.eq_of_beq_eq_true hb
    simp only [VT] at hv
    obtain ⟨u, rfl, hu⟩ := hv
    simp only [CT.put, List.cons_append, List.nil_append, true_and, VT]
    exact ⟨u, rfl, (TV.get_vt hx hu).dat_pr hL.pr⟩

theorem CT.soundL (hL : Link w G n G2 n2) : ∀ {cs : List CT} {ds : List (TV E)} {ls rest : List (Lf E)} {vs : List Value}, CT.getL n cs ds = some ls → VTs E w G ds vs →
    (CT.putL n2 cs (ls ++ rest)).2 = rest ∧ VTs E w G2 (CT.putL n2 cs (ls ++ rest)).1 vs
  | [], [], ls, rest, vs, h, hv => by cases h; simp only [VTs] at hv; subst hv; exact ⟨rfl, VTs.nil⟩
  | c :: cs, d :: ds, ls, rest, vs, h, hv => by
    simp only [CT.getL] at h
    split at h <;> try (cases h; done)
    rename_i l ls' h1 h2
    cases h
    obtain ⟨u, us, rfl, q1, q2⟩ := hv.cons_inv
    obtain ⟨e1, e2⟩ := CT.sound hL (rest := ls' ++ rest) h1 q1
    obtain ⟨e3, e4⟩ := CT.soundL hL (rest := rest) h2 q2
    simp only [CT.putL, List.append_assoc, e1]
    exact ⟨e3, .cons e2 e4⟩
  | [], _ :: _, _, _, _, h, _ => by cases h
  | _ :: _, [], _, _, _, h, _ => by cases h

theorem PT.sound (hL : Link w G n G2 n2) {p : PT} {d : TV E} {ls rest : List (Lf E)} {v : Value} (h : p.get n d = some ls) (hv : VT E w G d v) :
    (p.put n2 (ls ++ rest)).2 = rest ∧ VT E w G2 (p.put n2 (ls ++ rest)).1 v := by
  unfold PT.get at h
  split at h <;> try (cases h; done)
  · exact CT.sound hL h hv
  · simp only [VT] at hv
    obtain ⟨vs, rfl, h1, h2⟩ := hv
    obtain ⟨e1, e2⟩ := CT.soundL hL (rest := rest) h h2
    refine ⟨e1, ?_⟩
    simp only [PT.put, VT]
    exact ⟨vs, rfl, h1, e2⟩
  · simp only [VT] at hv
    obtain ⟨vs, rfl, h2⟩ := hv
    obtain ⟨e1, e2⟩ := CT.soundL hL (rest := rest) h h2
    refine ⟨e1, ?_⟩
    simp only [PT.put, VT]
    exact ⟨vs, rfl, e2⟩

theorem MapRel.pr {kt vt : Ty} (hp : ∀ b o, G.pr b o → G2.pr b o) : ∀ {es : List MapEntry} {m : List (kt.den E.D × vt.den E.D)}, MapRel E w G kt vt es m → MapRel E w G2 kt vt es m
  | [], [], _ => trivial
  | _ :: _, _ :: _, h => ⟨h.1.dat_pr hp, h.2.1.dat_pr hp, MapRel.pr hp h.2.2⟩
  | [], _ :: _, h => h.elim
  | _ :: _, [], h => h.elim

theorem BT.sound (hL : Link w G n G2 n2) {t : BT} {x : TBox E} {ls rest : List (Lf E)} {b : Nat} (h : t.get n x = some ls) (hv : BoxOk E w G b x) :
    (t.put n2 (ls ++ rest)).2 = rest ∧ BoxOk E w G2 b (t.put n2 (ls ++ rest)).1 := by
  unfold BT.get at h
  split at h <;> try (cases h; done)
  · rename_i ty cs ty' ds
    cases hb : Nat.beq ty ty' <;> rw [hb] at h <;> simp only [cond_true, cond_false] at h
    · cases h
    obtain rfl := Nat.eq_of_beq_eq_true hb
    obtain ⟨vs, h1, h2, h3⟩ := hv
    obtain ⟨e1, e2⟩ := CT.soundL hL (rest := rest) h h3
    exact ⟨e1, vs, h1, h2, e2⟩
  · rename_i kt vt kt' vt' m
    split at h <;> try (cases h; done)
    rename_i he
    have he' := he
    simp only [Ty.lst.injEq, Ty.pair.injEq] at he'
    obtain ⟨rfl, rfl⟩ := he'
    cases h
    obtain ⟨es, clock, h1, h2, h3⟩ := hv
    refine ⟨rfl, ?_⟩
    exact ⟨es, clock, h1, h2, h3.pr hL.pr⟩
  · rename_i s pos
    cases h
    exact ⟨rfl, hv⟩
end

end Go.RT
