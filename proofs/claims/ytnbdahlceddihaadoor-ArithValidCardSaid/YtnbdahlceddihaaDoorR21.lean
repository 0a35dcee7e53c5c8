/-
  RT, part 21: a nil slice becomes a growable row; strings out of bytes; the bytes of a strings.Builder as a string.
-/
import Derived.Test.YtnbdahlceddihaaDoorR20
import Derived.Laws.BytesString
import Derived.Lib.Builder
namespace Go.RT
set_option linter.unusedVariables false

variable {E : TEnv}
section
variable {P : Program} {w0 w w' : World} {G0 G G' : Ghost} {st : TS E} {a : Act} {o : Oper}

/-- A new row that is nil. -/
theorem Rel.nilRow (h : Rel E w0 G0 st a w G) (e : TypeId) (k : Nat) : Rel E w0 G0 { st with g := st.g ++ [⟨0, e, k⟩] } a w { G with g := G.g ++ [(⟨0, e, k⟩, .slice none 0 0)] } := by
  refine h.addGrow ⟨0, e, k⟩ (.slice none 0 0) ⟨0, [], ⟨by simp, .inl ⟨rfl, rfl⟩⟩, (fun a m e => nomatch e), (fun b hb => nomatch hb)⟩ (fun b hb => nomatch hb) (fun j y z b hj hb e => nomatch e)

theorem Rel.rows_len (h : Rel E w0 G0 st a w G) : G.g.length = st.g.length := by rw [← h.boxes.gs]; simp

theorem VT_nilRow (hl : G.g.length = st.g.length) (e : TypeId) (T : Ty) : VT E w { G with g := G.g ++ [(⟨0, e, T.size E⟩, .slice none 0 0)] } (.gsl st.g.length 0 T []) (.slice none 0 0) := by
  simp only [VT]
  refine ⟨.nils _ _, ⟨0, e, T.size E⟩, .slice none 0 0, ?_, Nat.le_refl _, fun _ => rfl⟩
  rw [List.getElem?_append_right (by omega)]
  simp [hl]

/-- A slot that holds nil becomes a growable row. -/
theorem Rel.adopt (h : Rel E w0 G0 st a w G) {i : Nat} (hi : st.t[i]? = some (.val (.slice none 0 0))) (e : TypeId) (T : Ty) :
    ∃ G', Rel E w0 G0 { st with t := st.t.set i (.gsl st.g.length 0 T []), g := st.g ++ [⟨0, e, T.size E⟩] } a w G' := by
  have hN := h.nilRow e (T.size E)
  refine ⟨_, hN.evol, by simpa using hN.size, fun j d hj => ?_, hN.defers, hN.boxes, hN.fix, hN.pins⟩
  simp only [List.getElem?_set] at hj
  by_cases hij : i = j
  · subst hij
    have hlt : i < st.t.length := (List.getElem?_eq_some_iff.1 hi).1
    simp [hlt] at hj
    subst hj
    have hv := h.tmps i _ hi
    simp only [VT] at hv
    rw [hv]
    exact VT_nilRow h.rows_len e T
  · rw [if_neg hij] at hj
    exact hN.tmps j d hj

/-- A cell that holds nil becomes a growable row. -/
theorem Rel.adoptCell (h : Rel E w0 G0 st a w G) {r c : Nat} {t : TypeId} {cs : List (TV E)} (hr : st.H[r]? = some (.cells t cs)) (hc : cs[c]? = some (.val (.slice none 0 0))) (e : TypeId) (T : Ty) :
    ∃ G', Rel E w0 G0 { st with H := st.H.set r (.cells t (cs.set c (.gsl st.g.length 0 T []))), g := st.g ++ [⟨0, e, T.size E⟩], d := r :: st.d } a w G' := by
  have hN := h.nilRow e (T.size E)
  have hlr : r < G.i.length := by rw [h.boxes.len]; exact (List.getElem?_eq_some_iff.1 hr).1
  have hat : G.i[r]? = some G.i[r] := List.getElem?_eq_getElem hlr
  have hS := hN.setBox (w' := w) (r := r) (b := G.i[r]) hat rfl rfl rfl rfl (fun _ _ => rfl) (x := .cells t (cs.set c (.gsl st.g.length 0 T []))) (fun _ => ?_)
  · exact ⟨_, hS⟩
  · obtain ⟨vs, h1, h2, h3⟩ := hN.boxes.box r _ _ hat hr
    refine ⟨vs, h1, h2, ?_⟩
    obtain ⟨u, hu, hv⟩ := h3.get c hc
    simp only [VT] at hv
    subst hv
    have key : ∀ (cs : List (TV E)) (vs : List Value) (c : Nat) (d : TV E), VTs E w { G with g := G.g ++ [(⟨0, e, T.size E⟩, .slice none 0 0)] } cs vs → vs[c]? = some (.slice none 0 0) →
        VT E w { G with g := G.g ++ [(⟨0, e, T.size E⟩, .slice none 0 0)] } d (.slice none 0 0) → VTs E w { G with g := G.g ++ [(⟨0, e, T.size E⟩, .slice none 0 0)] } (cs.set c d) vs := by
      intro cs
      induction cs with
      | nil => intro vs c d h1 h2 h3; exact h1
      | cons x cs ih =>
        intro vs c d h1 h2 h3
        obtain ⟨u, us, rfl, q1, q2⟩ := h1.cons_inv
        cases c with
        | zero => simp at h2; subst h2; exact .cons h3 q2
        | succ c => exact .cons q1 (ih us c d q2 (by simpa using h2) h3)
    exact key cs vs.toList c _ h3 hu (VT_nilRow h.rows_len e T)

/-- Append to nil: a new row. -/
theorem does_appendNil (hE : E.Ok) (hr : Rel E w0 G0 st a w G) {c : Call} {x y : Operand} {t tx e : TypeId} {j1 j2 : Nat} {z : Value} {ie : TI} (ho : o.op = .call c) (hcl : c.callee = .builtin .append)
    (ha : c.args.toList = [x, y]) (hat : c.argTypes.toList = [t, tx]) (ht : tinfo P t = some ⟨.slice e, j1, j2, z⟩) (hi : tinfo P e = some ie) {T : Ty} {ys : List (T.den E.D)}
    (hx : st.ev x = .val (.slice none 0 0)) (hk : ie.size = T.size E) (hk0 : 0 < ie.size) (hzs : ie.zero.cells.size = ie.size)
    (h63 : ys.length ≤ 9223372036854775807) (hbytes : ys.length * ie.bytes ≤ 140737488355328)
    {news : List Value} (hsrc : Src P ie.size tx (a.eval y) ys.length news w) (hf : Flat w G.pr ie.size news (ys.map (T.cells E))) :
    Does P w0 G0 a w o { st with t := setT st.t o.dst (.gsl st.g.length 1 T ys), g := st.g ++ [⟨1, e, ie.size⟩] } := by
  have ha' : c.args = #[x, y] := by rw [← Array.toArray_toList (xs := c.args), ha]
  have hat' : c.argTypes = #[t, tx] := by rw [← Array.toArray_toList (xs := c.argTypes), hat]
  have hv := hr.ev x
  rw [hx] at hv
  simp only [VT] at hv
  have hN := hr.nilRow e ie.size
  have hl2 : (ys.map (T.cells E)).length = ys.length := by simp
  have hrl := hr.rows_len
  have hgj : (G.g ++ [((⟨0, e, ie.size⟩ : TGrow), Value.slice none 0 0)])[G.g.length]? = some (⟨0, e, ie.size⟩, .slice none 0 0) := by simp
  obtain ⟨v', w', pr', hrun, hR, hV⟩ := hN.append (P := P) (t := t) (tx := tx) (ty := o.type) (i := ie) (e := e) ht hi hk0 hzs (j := G.g.length) (x := ⟨0, e, ie.size⟩) (v := .slice none 0 0) hgj rfl rfl (es := []) (fs := ys.map (T.cells E)) (y := a.eval y) (news := news)
    (.nils _ _) (by rw [hl2]; exact hsrc) hf (by simp only [List.length_nil, Nat.zero_add, hl2]; exact h63) (by simp only [List.length_nil, Nat.zero_add, hl2]; exact hbytes)
  have hset : (st.g ++ [(⟨0, e, ie.size⟩ : TGrow)]).set G.g.length ⟨0 + 1, e, ie.size⟩ = st.g ++ [⟨1, e, ie.size⟩] := by
    rw [hrl, List.set_append_right _ _ (Nat.le_refl _)]; simp
  have hset2 : (G.g ++ [((⟨0, e, ie.size⟩ : TGrow), Value.slice none 0 0)]).set G.g.length (⟨0 + 1, e, ie.size⟩, v') = G.g ++ [(⟨1, e, ie.size⟩, v')] := by
    rw [List.set_append_right _ _ (Nat.le_refl _)]; simp
  simp only [hset, hset2] at hR
  refine ⟨.value v', v', w', _, ?_, .inl rfl, hR.put (d := .gsl st.g.length 1 T ys) ?_ o.dst⟩
  · unfold execOp
    simp only [ho, resolve, hcl, Sem.run_bind, Sem.run_pure, Result.andThen_ok, invoke, builtin, ha', hat', List.map_toArray, List.map_cons, List.map_nil]
    rw [hv, hrun]
    rfl
  · simp only [VT]
    refine ⟨by rw [← hk]; simpa using hV, ⟨1, e, ie.size⟩, v', by rw [← hrl]; simp, Nat.le_refl _, fun _ => rfl⟩

def byteOk (l : List Int) : Bool := l.all fun n => decide (0 ≤ n) && decide (n < 256)
def toBytes (l : List Int) : List UInt8 := l.map fun n => UInt8.ofNat n.toNat

theorem toBytes_at {l : List Int} (h : byteOk l = true) {j : Nat} {x : UInt8} (hx : (toBytes l)[j]? = some x) : l[j]? = some (x.toNat : Int) := by
  unfold toBytes at hx
  rw [List.getElem?_map] at hx
  obtain ⟨n, hn, rfl⟩ := Option.map_eq_some_iff.1 hx
  have := List.all_eq_true.1 h n (List.mem_of_getElem? hn)
  simp only [Bool.and_eq_true, decide_eq_true_eq] at this
  rw [hn]
  congr 1
  simp
  omega

theorem VD.bytes_cell {pr : Nat → Nat → Prop} {v : Value} {xs : List Int} (h : VD w pr v (.slice 1 (xs.map (Ty.cells E (.int .u8))))) :
    (∃ ad, v = .slice ad 0 0 ∧ xs = []) ∨ ∃ b off cap, v = .slice (some ⟨b, off, none⟩) xs.length cap ∧ xs.length ≤ cap ∧ ∀ (j : Nat) n, xs[j]? = some n → pr b (off + j) ∧ w.cell? ⟨b, off + j, none⟩ = some (.int .u8 n) := by
  rcases h.slice_inv with ⟨ad, he, hn⟩ | ⟨b, off, cap, c, he, hcap, hk, h0, hc⟩
  · exact .inl ⟨ad, he, by simpa using hn⟩
  · refine .inr ⟨b, off, cap, by simpa using he, by simpa using hcap, fun j n hj => ?_⟩
    have hjl : j < xs.length := (List.getElem?_eq_some_iff.1 hj).1
    have h1 := h0 j 0 (by simpa using hjl) (by omega)
    have h2 := hc j 0 (by simpa using hjl) (by omega)
    have e1 : ((xs.map (Ty.cells E (.int .u8))).getD j []).getD 0 default = .int .u8 n := by
      have : xs[j] = n := by rw [List.getElem?_eq_getElem hjl] at hj; exact Option.some.inj hj
      simp [List.getD, hjl, this, Ty.cells]
    rw [e1] at h2
    rw [h2.int_inv] at h1
    simpa using h1

theorem fold_push : ∀ (ns : List Int) (r : ByteArray), ns.foldl (fun r n => r.push (UInt8.ofNat n.toNat)) r = ⟨⟨r.data.toList ++ toBytes ns⟩⟩
  | [], r => by simp [toBytes]
  | n :: ns, r => by
    rw [List.foldl_cons, fold_push ns]
    congr 2
    simp [toBytes]

theorem run_bytesStr {P : Program} (ad : Addr) (cap : Nat) (xs : List Int) (hc : ∀ (j : Nat) n, xs[j]? = some n → w.cell? (ad.add j) = some (.int .u8 n)) : (Conv.bytesToString (.slice (some ad) xs.length cap)).run P w = .ok (mkStr (toBytes xs)) w := by
  have hl := run_loadCells (P := P) w ad xs.length (fun j => .int .u8 (xs.getD j 0)) (fun j hj => hc j _ (by simp [List.getD, hj]))
  have hm : ((List.range xs.length).map fun j => Value.int .u8 (xs.getD j 0)) = xs.map (Value.int .u8) := by
    apply List.ext_getElem (by simp)
    intro j h1 h2
    simp at h1
    simp [List.getD, h1]
  rw [run_bytesToString (P := P) w ad xs.length cap xs (by rw [hl]; simp only [Result.ok.injEq, and_true]; rw [← hm]), fold_push]
  rfl

theorem does_bytesToString (hr : Rel E w0 G0 st a w G) {src dst e : TypeId} {x : Operand} {j1 j2 j3 j4 j5 j6 : Nat} {z1 z2 z3 : Value} (ho : o.op = .convert src dst x) (hs : tinfo P src = some ⟨.slice e, j1, j2, z1⟩) (hd : tinfo P dst = some ⟨.string, j3, j4, z2⟩)
    (he : tinfo P e = some ⟨.int .u8, j5, j6, z3⟩) {xs : List Int} (hx : AsList (st.ev x) (.int .u8) xs) : Does P w0 G0 a w o { st with t := setT st.t o.dst (.dat .str (toBytes xs)) } := by
  obtain ⟨_, _, hus, -⟩ := tinfo_some hs
  obtain ⟨_, _, hud, -⟩ := tinfo_some hd
  obtain ⟨_, _, hue, -⟩ := tinfo_some he
  have hv := hx.vd (hr.ev x)
  have hrun : (convert src dst (a.eval x)).run P w = .ok (mkStr (toBytes xs)) w := by
    rcases hv.bytes_cell with ⟨ad, hv', rfl⟩ | ⟨b, off, cap, hv', hcap, hc⟩
    · rw [hv']
      cases ad with
      | none =>
        unfold convert
        simp only [Sem.run_bind, run_underlying' hus, run_underlying' hud, Result.andThen_ok, run_underlying' hue]
        rfl
      | some ad =>
        have := run_bytesStr (P := P) (w := w) ad 0 [] (fun j n hj => by simp at hj)
        simp only [List.length_nil] at this
        unfold convert
        simp only [Sem.run_bind, run_underlying' hus, run_underlying' hud, Result.andThen_ok, run_underlying' hue, this]
    · rw [hv']
      have := run_bytesStr (P := P) (w := w) ⟨b, off, none⟩ cap xs (fun j n hj => by rw [add_lit]; exact (hc j n hj).2)
      unfold convert
      simp only [Sem.run_bind, run_underlying' hus, run_underlying' hud, Result.andThen_ok, run_underlying' hue, this]
  refine ⟨_, mkStr (toBytes xs), w, G, ?_, .inl rfl, hr.put (.str _ _ _) o.dst⟩
  simp only [execOp, ho, Sem.run_bind, hrun, Result.andThen_ok, Sem.run_pure]

theorem freeze_heap (w : World) (p : Addr) (n b : Nat) (hb : b ≠ p.block) : (w.freeze p n).heap[b]? = w.heap[b]? := by
  unfold World.freeze
  split
  · rfl
  · simp only [Array.getElem?_modify]
    rw [if_neg (fun e => hb e.symm)]
theorem freeze_cell (w : World) (p : Addr) (n : Nat) (x : Addr) : (w.freeze p n).cell? x = w.cell? x := by
  by_cases h0 : n = 0
  · simp [World.freeze, h0]
  by_cases hx : x.block = p.block
  · simp only [World.cell?, World.freeze, h0, if_false, hx, Array.getElem?_modify, if_true]
    cases hh : w.heap[p.block]? with
    | none => simp
    | some ob => cases ob <;> simp
  · exact World.cell?_of_block (freeze_heap w p n x.block hx)

theorem does_unsafeString (hr : Rel E w0 G0 st a w G) {c : Call} {x y : Operand} {pt it e : TypeId} {j1 j2 j3 j4 : Nat} {z1 z2 : Value} (ho : o.op = .call c) (hcl : c.callee = .builtin .unsafeString) (ha : c.args.toList = [x, y]) (hat : c.argTypes.toList = [pt, it])
    (hp : tinfo P pt = some ⟨.pointer e, j1, j2, z1⟩) (hce : P.cellsOf e = 1) {j ver : Nat} {xs : List Int} (hx : st.ev x = .sdp j ver xs) {g : TGrow} (hg : st.g[j]? = some g) (hver : g.ver = ver) (hge : g.e = e) (hgk : g.k = 1)
    {n : Int} (hy : st.ev y = .dat (.int .i64) n) (hn : n = xs.length) (hok : byteOk xs = true) (h63 : xs.length ≤ 9223372036854775807) :
    Does P w0 G0 a w o { st with t := setT st.t o.dst (.dat .str (toBytes xs)), g := st.g.set j { g with ver := g.ver + 1 } } := by
  have ha' : c.args = #[x, y] := by rw [← Array.toArray_toList (xs := c.args), ha]
  have hat' : c.argTypes = #[pt, it] := by rw [← Array.toArray_toList (xs := c.argTypes), hat]
  obtain ⟨_, _, hup, -⟩ := tinfo_some hp
  have hv := hr.ev x
  rw [hx] at hv
  have hvy := hr.ev y
  rw [hy] at hvy
  have hvy := hvy.int_inv
  subst hn
  simp only [VT] at hv
  obtain ⟨gx, gh, u, hgj, hle, hvd, heq⟩ := hv
  have hgg : gx = g := by
    have h2 : (G.g.map (·.1))[j]? = some gx := by simp [hgj]
    rw [hr.boxes.gs, hg] at h2
    exact (Option.some.inj h2).symm
  subst hgg
  obtain ⟨hve, hcase⟩ := heq hver.symm
  have hlen : (toBytes xs).length = xs.length := by simp [toBytes]
  have step : ∀ w1, w.heap.size ≤ w1.heap.size → w1.os = w.os → w1.tape = w.tape → w1.output = w.output → (∀ b, b < w.heap.size → gh.ownBlock ≠ some b → w1.heap[b]? = w.heap[b]?) → (∀ b o v, G.pr b o → w.cell? ⟨b, o, none⟩ = some v → w1.cell? ⟨b, o, none⟩ = some v) →
      ∃ G1, Rel E w0 G0 { st with g := st.g.set j { gx with ver := gx.ver + 1 } } a w1 G1 := fun w1 s1 s2 s3 s4 s5 s6 =>
    ⟨_, hr.setGrow hgj s1 s2 s3 s4 s5 s6 G.pr (fun _ _ h => h) (fun _ _ h => .inl h) (hd' := .slice none 0 0) ⟨0, [], ⟨by simp, .inl ⟨rfl, rfl⟩⟩, (fun a m e => nomatch e), (fun b hb => nomatch hb)⟩ (fun b hb => nomatch hb)⟩
  have nothing : (Builtin.unsafeString_ c.argTypes o.type #[a.eval x, a.eval y]).run P w = .ok (mkStr (toBytes xs)) w → Does P w0 G0 a w o { st with t := setT st.t o.dst (.dat .str (toBytes xs)), g := st.g.set j { gx with ver := gx.ver + 1 } } := by
    intro hrun
    obtain ⟨G1, hR⟩ := step w (Nat.le_refl _) rfl rfl rfl (fun _ _ _ => rfl) (fun _ _ _ _ h => h)
    refine ⟨_, mkStr (toBytes xs), w, G1, ?_, .inl rfl, hR.put (.str _ _ _) o.dst⟩
    unfold execOp
    simp only [ho, resolve, hcl, Sem.run_bind, Sem.run_pure, Result.andThen_ok, invoke, builtin, ha', List.map_toArray, List.map_cons, List.map_nil, hrun]
  by_cases h0 : xs = []
  · subst h0
    refine nothing ?_
    rw [hvy, hat']
    rcases hcase with ⟨-, -, he⟩ | ⟨b, cap, -, he⟩ <;> rw [he] <;> exact Lib.run_unsafeString_none w pt it o.type _
  · rcases hcase with ⟨-, hl, -⟩ | ⟨b, cap, hgh, he⟩
    · exact (h0 hl).elim
    rw [hve, hgh] at hvd
    replace hvd : VD w G.pr _ (.slice 1 (xs.map (Ty.cells E (.int .u8)))) := hvd
    have hcell : ∀ (q : Nat) nn, xs[q]? = some nn → G.pr b q ∧ w.cell? ⟨b, q, none⟩ = some (.int .u8 nn) := by
      rcases hvd.bytes_cell with ⟨ad, h1, h2⟩ | ⟨b', off, cap', h1, -, h3⟩
      · exact (h0 h2).elim
      · simp only [Value.slice.injEq, Option.some.injEq, Addr.mk.injEq] at h1
        obtain ⟨⟨rfl, rfl, -⟩, -, rfl⟩ := h1
        intro q nn hq
        simpa using h3 q nn hq
    obtain ⟨n', ys, hown, -, hblk⟩ := hr.boxes.grow j gx gh hgj
    rcases hown.2 with ⟨hnil, -⟩ | ⟨gb, cap', cur, h2, -, hheap, hn', hcm, hcs, -⟩
    · rw [hgh] at hnil; cases hnil
    rw [hgh] at h2
    simp only [Value.slice.injEq, Option.some.injEq, Addr.mk.injEq] at h2
    obtain ⟨⟨rfl, -, -⟩, rfl, rfl⟩ := h2
    have hsh : w.shape? b = some (e, cap) := by
      simp only [World.shape?, hheap, hge, hcs, hgk, Nat.mul_one]
    have hrun := Lib.run_unsafeString_row (P := P) w pt it o.type e hup hce b cap hsh (toBytes xs) (by simpa [toBytes] using h0) (by rw [hlen]; exact hn') (by rw [hlen]; exact h63)
      (fun q u hq => by rw [add_lit, Nat.zero_add]; exact (hcell q _ (toBytes_at hok hq)).2)
    rw [hlen] at hrun
    obtain ⟨G1, hR⟩ := step (w.freeze ⟨b, 0, none⟩ xs.length) (by unfold World.freeze; split <;> simp) (by unfold World.freeze; split <;> rfl) (by unfold World.freeze; split <;> rfl) (by unfold World.freeze; split <;> rfl)
      (fun b' _ hne => freeze_heap w _ _ b' (fun e' => hne (by rw [hgh]; simp at e'; rw [e']; rfl))) (fun b' o' v _ hv => by rw [freeze_cell]; exact hv)
    refine ⟨_, mkStr (toBytes xs), _, G1, ?_, .inl rfl, hR.put (.str _ _ _) o.dst⟩
    unfold execOp
    simp only [ho, resolve, hcl, Sem.run_bind, Sem.run_pure, Result.andThen_ok, invoke, builtin, ha', hat', List.map_toArray, List.map_cons, List.map_nil]
    rw [he, hvy, hrun]
    rfl

/-- Pointers to variables as unsafe.Pointer and back. -/
theorem does_ptrConv (hr : Rel E w0 G0 st a w G) {src dst : TypeId} {x : Operand} (ho : o.op = .convert src dst x) {r off : Nat} (hx : st.ev x = .ptr r off) {t' : TypeId} {cs : List (TV E)} (hb : st.H[r]? = some (.cells t' cs))
    (hcase : (∃ t i, P.underlying src = some (.pointer t) ∧ P.underlying dst = some .unsafePointer ∧ tinfo P t = some i ∧ i.size ≠ 0 ∧ off < cs.length) ∨
      ∃ t i, P.underlying src = some .unsafePointer ∧ P.underlying dst = some (.pointer t) ∧ tinfo P t = some i ∧ liesAt P P.depth t' (cs.length / P.cellsOf t') off t 1 = true) :
    Does P w0 G0 a w o { st with t := setT st.t o.dst (.ptr r off) } := by
  have hv := hr.ev x
  rw [hx] at hv
  have hv0 := hv
  simp only [VT] at hv
  obtain ⟨b, he, hat⟩ := hv
  obtain ⟨vs, hh, -, hvs⟩ := hr.box hat hb
  have hsz : vs.size = cs.length := by simpa using hvs.length
  have hsh : w.shape? b = some (t', cs.length) := by simp only [World.shape?, hh, hsz]
  have hrun : (convert src dst (a.eval x)).run P w = .ok (a.eval x) w := by
    rw [he]
    rcases hcase with ⟨t, i, h1, h2, h3, h4, h5⟩ | ⟨t, i, h1, h2, h3, h4⟩
    · obtain ⟨j, hj, -, hjs, -⟩ := tinfo_some h3
      exact Lib.run_to_unsafe w ⟨b, off, none⟩ h1 h2 hj (by rw [hjs]; exact h4) hsh h5
    · obtain ⟨j, hj, -⟩ := tinfo_some h3
      exact Lib.run_from_unsafe w ⟨b, off, none⟩ h1 h2 hj hsh h4
  refine ⟨_, a.eval x, w, G, ?_, .inl rfl, hr.put hv0 o.dst⟩
  simp only [execOp, ho, Sem.run_bind, hrun, Result.andThen_ok, Sem.run_pure]
end

end Go.RT
