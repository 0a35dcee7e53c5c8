/-
  RT, part 34: cuts with frames; regions that draw their order.
-/
import Derived.Test.YtnbdahlceddihaaDoorR33
namespace Go.RT
set_option linter.unusedVariables false

variable {E : TEnv}

def Cut.pack (c : Cut) (st0 st : TS E) : Option (dens E c.tys) := match c.leaves st0 st with
  | some ls => getAll c.tys ls
  | none => none
def Cut.un (c : Cut) (W : List Nat) (st0 : TS E) (x : dens E c.tys) : TS E := c.unpack W st0 (putAll c.tys x)
def Cut.okW (c : Cut) (W : List Nat) : Bool := c.vars.all fun p => W.elem p.1

theorem boxesPut_none (n : Rn) : ∀ (bs : List (Option BT)) (r0 : Nat) (H : List (TBox E)) (ls : List (Lf E)) (r : Nat), r < bs.length → r0 + r ∉ chg r0 bs → r < H.length → (boxesPut n bs H ls)[r]? = H[r]?
  | [], _, _, _, _, h, _, _ => by simp at h
  | none :: bs, r0, H, ls, 0, _, _, h => by cases H with | nil => simp at h | cons x H => simp [boxesPut]
  | none :: bs, r0, H, ls, r + 1, h1, h2, h3 => by
    cases H with
    | nil => simp at h3
    | cons x H =>
      have := boxesPut_none n bs (r0 + 1) H ls r (by simpa using h1) (by rw [show r0 + 1 + r = r0 + (r + 1) by omega]; exact h2) (by simpa using h3)
      simpa [boxesPut] using this
  | some t :: bs, r0, H, ls, 0, _, h2, _ => (h2 (by simp [chg])).elim
  | some t :: bs, r0, H, ls, r + 1, h1, h2, h3 => by
    cases H with
    | nil => simp at h3
    | cons x H =>
      have := boxesPut_none n bs (r0 + 1) H (t.put n ls).2 r (by simpa using h1) (by rw [show r0 + 1 + r = r0 + (r + 1) by omega]; exact fun hm => h2 (by simp [chg, hm])) (by simpa using h3)
      simpa [boxesPut] using this

theorem placeV_keep (n : Rn) : ∀ (vs : List (Nat × PT)) (t : List (TV E)) (ls : List (Lf E)) (i : Nat), i ∉ vs.map (·.1) → (placeV n vs t ls).1[i]? = t[i]?
  | [], t, ls, i, _ => rfl
  | (j, p) :: vs, t, ls, i, h => by
    simp only [List.map_cons, List.mem_cons, not_or] at h
    rw [placeV, placeV_keep n vs _ _ i h.2, List.getElem?_set_ne (fun e => h.1 e.symm)]
theorem placeV_len (n : Rn) : ∀ (vs : List (Nat × PT)) (t : List (TV E)) (ls : List (Lf E)), (placeV n vs t ls).1.length = t.length
  | [], t, ls => rfl
  | (j, p) :: vs, t, ls => by rw [placeV, placeV_len n vs]; simp
theorem dropT_keep (W : List Nat) : ∀ (i : Nat) (l : List (TV E)) (j : Nat), (i + j) ∉ W → (dropT W i l)[j]? = l[j]?
  | _, [], j, _ => rfl
  | i, d :: ds, 0, h => by
    rw [Nat.add_zero] at h
    have : W.elem i = false := by
      cases hh : W.elem i with
      | false => rfl
      | true => exact (h (List.mem_of_elem_eq_true hh)).elim
    show (cond (W.elem i) TV.any d :: dropT W (i + 1) ds)[0]? = _
    rw [this]
    rfl
  | i, d :: ds, j + 1, h => by
    have := dropT_keep W (i + 1) ds j (by rw [show i + 1 + j = i + (j + 1) by omega]; exact h)
    simpa [dropT] using this

theorem Cut.leaves_len {c : Cut} {st0 st : TS E} {ls : List (Lf E)} (h : c.leaves st0 st = some ls) : st0.H.length ≤ c.boxes.length := by
  unfold Cut.leaves at h
  cases hc : (Nat.ble st0.H.length c.boxes.length && (Nat.ble st0.g.length c.rows.length && rowsOk c.rows st0.g st.g)) <;> rw [hc] at h <;> simp only [cond_true, cond_false] at h
  · cases h
  simp only [Bool.and_eq_true] at hc
  exact Nat.le_of_ble_eq_true hc.1

theorem Cut.unpack_fr {c : Cut} {W : List Nat} {st0 st : TS E} {ls ls' : List (Lf E)} (hW : c.okW W = true) (h : c.leaves st0 st = some ls) : Fr W true st0 (c.unpack W st0 ls') := by
  have hl := Cut.leaves_len h
  refine ⟨?_, fun i hi => ?_, ⟨chg 0 c.boxes, rfl, fun r hr hd => ?_⟩, ?_, fun _ => rfl⟩
  · show ((placeV _ c.vars (dropT W 0 st0.t) ls').1).length = _
    rw [placeV_len, dropT_length]
  · show ((placeV _ c.vars (dropT W 0 st0.t) ls').1)[i]? = _
    rw [placeV_keep _ _ _ _ i (fun hm => ?_), dropT_keep W 0 st0.t i (by rw [Nat.zero_add]; exact hi)]
    obtain ⟨p, hp, rfl⟩ := List.mem_map.1 hm
    exact hi (List.mem_of_elem_eq_true (List.all_eq_true.1 hW p hp))
  · exact boxesPut_none _ c.boxes 0 st0.H _ r (by omega) (by rw [Nat.zero_add]; exact hd) hr
  · show st0.H.length ≤ (boxesPut _ c.boxes st0.H _).length
    rw [boxesPut_length]; exact hl

theorem cut_step {c : Cut} {W : List Nat} {w0 w : World} {G0 G : Ghost} {st0 st : TS E} {a : Act} {x : dens E c.tys} (hp : Pre G0 st0) (hr : Rel E w0 G0 st a w G) (hF : Fr W true st0 st) (hW : c.okW W = true) (h : c.pack st0 st = some x) :
    (∃ G2, Rel E w0 G0 (c.un W st0 x) a w G2) ∧ Fr W true st0 (c.un W st0 x) := by
  unfold Cut.pack at h
  split at h <;> try (cases h; done)
  rename_i ls hls
  obtain ⟨D, hD, hH⟩ := hF.d
  obtain ⟨G2, hR, -⟩ := Rel.cut (W := W) hp hr hF.len hF.keep hD hH (hF.df rfl) hls
  have hput := getAll_ok _ h
  unfold Cut.un
  rw [hput]
  exact ⟨⟨G2, hR⟩, Cut.unpack_fr hW hls⟩

/-- Operations that leave memory alone, as values with continuations. -/
def qopT {R : Type} (X : Cx E) (st : TS E) (o : Oper) (k : TS E → Option R) : Option R :=
  match evalA X.P X.ty st o.op with
  | some p => rq p.1 (k { st with t := setT st.t o.dst p.2 })
  | none => match o.op with
    | .pick c x y => match st.ev c with
      | .dat .bool b => cond b (k { st with t := setT st.t o.dst (st.ev x) }) (k { st with t := setT st.t o.dst (st.ev y) })
      | _ => none
    | _ => none
def quietT {R : Type} (X : Cx E) (all : Array Oper) : List Oper → TS E → (TS E → Option R) → Option R
  | [], st, k => k st
  | o :: rest, st, k => match o.guard with
    | none => qopT X st o (fun st' => quietT X all rest st' k)
    | some (j, want) => match (all[j]?).bind (·.dst) with
      | some t => match st.at t with
        | .dat .bool b => cond b
            (cond want (qopT X { st with t := st.t.set t (.dat .bool true) } o (fun st' => quietT X all rest st' k))
              (quietT X all rest { st with t := setT (st.t.set t (.dat .bool true)) o.dst (.val undef) } k))
            (cond want (quietT X all rest { st with t := setT (st.t.set t (.dat .bool false)) o.dst (.val undef) } k)
              (qopT X { st with t := st.t.set t (.dat .bool false) } o (fun st' => quietT X all rest st' k)))
        | .val (.bool _) => none
        | .val _ => quietT X all rest { st with t := setT st.t o.dst (.val undef) } k
        | _ => none
      | none => none

/-- An operation that reads no memory. -/
def noLoad (ops : Array Oper) (i : Nat) : Bool := match ops[i]? with
  | some o => !(isLoad o.op)
  | none => false
/-- Quiet operations that may be taken first, in their order. -/
def takes (ops : Array Oper) (hi : Nat) : Nat → Nat → Bool
  | _, 0 => true
  | i, m + 1 => (Region.free .any ops (pre ops.size i) i && (Region.ready .any ops (pre ops.size i)).contains i && (noLoad ops i || (List.range' hi (ops.size - hi)).all (fun j => waits ops ops.size j i))) && takes ops hi (i + 1) m
def backward (ops : Array Oper) : Bool := (List.range ops.size).all fun j => match ops[j]? with
  | some o => o.after.all fun e => !(Region.binds .any e) || Nat.blt e.on j
  | none => true

structure DSeg where
  q : Bool
  m : Nat
  c : Option Cut

def segD {R : Type} (X : Cx E) (l : List Oper) (i : Nat) (q : Bool) (m : Nat) (st : TS E) (k : TS E → Option R) : Option R :=
  cond q (rq ((Region.noSelect l.toArray && backward l.toArray && takes l.toArray (i + m) i m) && Nat.ble (i + m) l.length) (quietT X l.toArray ((l.drop i).take m) st k))
    (rq (forced l.toArray i m && Nat.ble (i + m) l.length) (opsT X l.toArray ((l.drop i).take m) st (thenK k fun _ _ => none)))
def drawT {R : Type} (X : Cx E) (l : List Oper) : Nat → List DSeg → TS E → (TS E → Option R) → Option R
  | i, [], st, k => cond (Nat.beq i l.length) (k st) none
  | i, s :: ss, st, k => match s.c with
    | none => segD X l i s.q s.m st (fun st' => drawT X l (i + s.m) ss st' k)
    | some c => rq (c.okW (wrL l.toArray ((l.drop i).take s.m)) && noDefL l) ((segD X l i s.q s.m st (fun st' => c.pack st st')).bind fun x => drawT X l (i + s.m) ss (c.un (wrL l.toArray ((l.drop i).take s.m)) st x) k)

section
variable {X : Cx E} {st : TS E}

def onlyN (Q : TS E → Prop) : Ex E → TS E → Prop := fun x s => x = .normal ∧ Q s
theorem CPost.onlyN {w0 : World} {G0 : Ghost} {e : Exit} {a : Act} {w : World} {R : TS E → Prop} (h : CPost E w0 G0 (fun x s => x = .normal ∧ R s) e a w) : e = .normal := by
  obtain ⟨x, s, G, he, _, rfl, _⟩ := h
  cases e <;> first | rfl | exact he.elim

/-- The first i operations of the region have come up. -/
def ADraw (w0 : World) (G0 : Ghost) (P : Program) (ops : Array Oper) (i : Nat) (st : TS E) (Q : TS E → Prop) : Prop :=
  ∀ a w G, Rel E w0 G0 st a w G → wpAny P .any ops (CPost E w0 G0 (onlyN Q)) (ops.size - i) (pre ops.size i) a w

theorem ADraw.done {w0 : World} {G0 : Ghost} {P : Program} {l : List Oper} {Q : TS E → Prop} (i : Nat) (hi : i = l.length) (h : Q st) : ADraw w0 G0 P l.toArray i st Q := by
  subst hi
  intro a w G hr
  have : l.toArray.size - l.length = 0 := by simp
  rw [this]
  refine ⟨?_, .normal, st, G, trivial, hr, rfl, h⟩
  apply List.eq_nil_iff_forall_not_mem.2
  intro j hj
  obtain ⟨h1, o, ho, _⟩ := mem_ready.1 hj
  have hlt : j < l.length := by simpa using (Array.getElem?_eq_some_iff.1 ho).1
  rw [pre_get_lt hlt (by simpa using hlt)] at h1
  cases h1

theorem seg_get {l : List Oper} {i m : Nat} (hm : i + m ≤ l.length) (k : Nat) (hk : k < ((l.drop i).take m).length) : l.toArray[i + k]? = ((l.drop i).take m)[k]? := by
  have hk' : k < m := by simp at hk; omega
  simp [hk', List.getElem?_drop]

theorem closed_pre {ops : Array Oper} (h : backward ops = true) (i : Nat) : Closed ops (pre ops.size i) := by
  intro j o ho hj e he hb
  have hlt : j < ops.size := (Array.getElem?_eq_some_iff.1 ho).1
  have h1 := List.all_eq_true.1 h j (List.mem_range.2 hlt)
  simp only [ho] at h1
  have h2 := Array.all_eq_true_iff_forall_mem.1 h1 e he
  simp only [hb, Bool.not_true, Bool.false_or] at h2
  have h3 := blt_iff.1 h2
  have hji : j < i := by
    rcases Nat.lt_or_ge j i with h' | h'
    · exact h'
    · have := pre_get h' hlt
      rw [Array.getD_eq_getD_getElem?] at this hj
      cases hx : (pre ops.size i)[j]? with
      | none => rw [hx] at this; cases this
      | some b => rw [hx] at this hj; simp at this hj; rw [this] at hj; cases hj
  exact pre_get_lt (by omega) (by omega) false

theorem qopT_sound {R : Type} (hX : X.Ok) {o : Oper} {k : TS E → Option R} {r : R} (h : qopT X st o k = some r) {w0 w : World} {G0 G : Ghost} {a : Act} (hr : Rel E w0 G0 st a w G) :
    ∃ v st', (∀ w', SameL o w w' → (execOp a.eval o).run X.P w' = .ok (.value v) w') ∧ Rel E w0 G0 st' (a.put o.dst v) w G ∧ k st' = some r ∧ Fr (dstL o.dst) true st st' := by
  unfold qopT at h
  split at h
  · rename_i p hp
    obtain ⟨h1, h2⟩ := rq_some h
    obtain ⟨v, hv, hrun⟩ := evalA_sound (P := X.P) hX.E hr hp h1
    exact ⟨v, _, hrun, hr.put hv o.dst, h2, Fr.put _ _ _⟩
  · split at h <;> try (cases h; done)
    rename_i c x y ho
    split at h <;> try (cases h; done)
    rename_i b hb
    have hv := hr.ev c
    rw [hb] at hv
    have hv := hv.bool_inv
    have hrun : ∀ w', (execOp a.eval o).run X.P w' = .ok (.value (if b then a.eval x else a.eval y)) w' := fun w' => by
      simp [execOp, ho, hv, asBool]
    cases b <;> simp only [cond_true, cond_false] at h
    · exact ⟨a.eval y, _, fun w' _ => hrun w', hr.put (hr.ev y) o.dst, h, Fr.put _ _ _⟩
    · exact ⟨a.eval x, _, fun w' _ => hrun w', hr.put (hr.ev x) o.dst, h, Fr.put _ _ _⟩

theorem quiet_sound {R : Type} (hX : X.Ok) {l : List Oper} {i m : Nat} {k : TS E → Option R} {r : R} {Q : TS E → Prop} (hs : (Region.noSelect l.toArray && backward l.toArray && takes l.toArray (i + m) i m) = true) (hm : i + m ≤ l.length)
    (h : quietT X l.toArray ((l.drop i).take m) st k = some r) {w0 w : World} {G0 G : Ghost} {a : Act} (hrest : ∀ st', k st' = some r → Fr (wrL l.toArray ((l.drop i).take m)) true st st' → ADraw w0 G0 X.P l.toArray (i + m) st' Q) (hr : Rel E w0 G0 st a w G) :
    wpAny X.P .any l.toArray (CPost E w0 G0 (onlyN Q)) (l.toArray.size - i) (pre l.toArray.size i) a w := by
  simp only [Bool.and_eq_true] at hs
  obtain ⟨⟨hns, hbk⟩, htk⟩ := hs
  refine wpAny_of_S (S := fun w' => Same w w') (lo := i) (hi := i + m) _ _ _ _ ?_
  have hQp : ∀ c a w, ¬ CPost E w0 G0 (onlyN Q) (.panic c) a w := fun c a w hp => by have := CPost.onlyN hp; cases this
  have hlen : ((l.drop i).take m).length = m := by simp; omega
  have key : ∀ (seg : List Oper) (q : Nat) (s : TS E) (a : Act), (∀ k, k < seg.length → l.toArray[q + k]? = seg[k]?) → q + seg.length = i + m → i ≤ q → takes l.toArray (i + m) q seg.length = true →
      Rel E w0 G0 s a w G → quietT X l.toArray seg s k = some r → (∀ st', k st' = some r → Fr (wrL l.toArray seg) true s st' → ADraw w0 G0 X.P l.toArray (i + m) st' Q) →
      wpAnyS X.P l.toArray (CPost E w0 G0 (onlyN Q)) (fun w' => Same w w') i (i + m) (l.toArray.size - q) (pre l.toArray.size q) a w := by
    intro seg
    induction seg with
    | nil =>
      intro q s a hsg hq hiq _ hr h hrest
      have hq : q = i + m := by simpa using hq
      subst hq
      refine S_of_wpAny _ _ _ _ (fun k h1 h2 => pre_get_lt h2 (by simp; omega) true) ?_
      exact hrest s h (Fr.refl _ _ _) a w G hr
    | cons o seg ih =>
      intro q s a hsg hq hiq ht hr h hrest
      simp only [List.length_cons] at hq ht
      simp only [takes, Bool.and_eq_true] at ht
      obtain ⟨⟨⟨hfr, hrd⟩, hwt⟩, ht'⟩ := ht
      have hoq : l.toArray[q]? = some o := by simpa using hsg 0 (by simp)
      have hsg' : ∀ k, k < seg.length → l.toArray[(q + 1) + k]? = seg[k]? := fun k hk => by
        have := hsg (k + 1) (by simpa using hk)
        rw [show q + 1 + k = q + (k + 1) by omega]
        simpa using this
      rw [show l.toArray.size - q = (l.toArray.size - (q + 1)) + 1 by simp; omega]
      have first : ∀ v, YieldsIf X.P l.toArray (fun w' => SameL o w w') o v a → wpAnyS X.P l.toArray (CPost E w0 G0 (onlyN Q)) (fun w' => Same w w') i (i + m) (l.toArray.size - (q + 1)) (pre l.toArray.size (q + 1)) (a.put o.dst v) w →
          wpAnyS X.P l.toArray (CPost E w0 G0 (onlyN Q)) (fun w' => Same w w') i (i + m) ((l.toArray.size - (q + 1)) + 1) (pre l.toArray.size q) a w := fun v hy hh => by
        simp only [Bool.or_eq_true] at hwt
        rcases hwt with hnl | hwt
        · have hnl' : isLoad o.op = false := by
            unfold noLoad at hnl
            rw [hoq] at hnl
            simpa using hnl
          refine wpAnyS_free (v := v) hoq (Region.noSelect_spec hns) (fun c a w hp => (hQp _ _ _ hp).elim) _ _ a w (Region.free_spec hoq hfr) (by simpa using hrd) ?_ ?_
          · rcases hy with ⟨h1, h2⟩ | hy
            · exact .inl ⟨h1, fun w' _ => h2 w' (fun hl => by rw [hnl'] at hl; cases hl)⟩
            · exact .inr hy
          · rw [pre_succ]; exact hh
        refine wpAnyS_first (v := v) hoq (Region.noSelect_spec hns) (fun c a w hp => (hQp _ _ _ hp).elim) (fun j h1 h2 => ?_) _ _ a w (closed_pre hbk q) (fun k h1 h2 => pre_get_lt (by omega) h2 true) (Region.free_spec hoq hfr) (by simpa using hrd) ?_ (Same.refl w) ?_
        rotate_left
        · rcases hy with ⟨h1, h2⟩ | hy
          · exact .inl ⟨h1, fun w' hs => h2 w' (fun _ => hs)⟩
          · exact .inr hy
        rotate_left
        · exact List.all_eq_true.1 hwt j (by rw [List.mem_range'_1]; omega)
        · rw [pre_succ]; exact hh
      have run : ∀ (s1 : TS E), Fr (guardT l.toArray o) true s s1 → Rel E w0 G0 s1 a w G → Region.wanted o (yielded l.toArray a.tmps) = true → qopT X s1 o (fun st' => quietT X l.toArray seg st' k) = some r →
          wpAnyS X.P l.toArray (CPost E w0 G0 (onlyN Q)) (fun w' => Same w w') i (i + m) ((l.toArray.size - (q + 1)) + 1) (pre l.toArray.size q) a w := by
        intro s1 f0 hr1 hw h1
        obtain ⟨v, s2, hrun, hr2, h2, f1⟩ := qopT_sound hX h1 hr1
        refine first v (.inl ⟨hw, hrun⟩) (ih (q + 1) s2 _ hsg' (by omega) (by omega) ht' hr2 h2 (fun st' hk f2 => hrest st' hk ?_))
        exact (f0.trans f1 (W := dstL o.dst ++ guardT l.toArray o) (n := true) (fun i hi => by simp [hi]) (fun i hi => by simp [hi]) (fun h => ⟨rfl, rfl⟩)).trans f2 (fun i hi => by
          simp only [wrL, List.mem_append] at hi ⊢; rcases hi with hi | hi <;> simp [hi]) (fun i hi => by simp [wrL, hi]) (fun h => ⟨rfl, rfl⟩)
      have skip : ∀ (s1 : TS E), Fr (guardT l.toArray o) true s s1 → Rel E w0 G0 s1 a w G → Region.wanted o (yielded l.toArray a.tmps) = false → quietT X l.toArray seg { s1 with t := setT s1.t o.dst (.val undef) } k = some r →
          wpAnyS X.P l.toArray (CPost E w0 G0 (onlyN Q)) (fun w' => Same w w') i (i + m) ((l.toArray.size - (q + 1)) + 1) (pre l.toArray.size q) a w := by
        intro s1 f0 hr1 hw h1
        have hr2 := hr1.put (v := undef) (d := .val undef) (by simp only [VT]) o.dst
        refine first undef (.inr ⟨hw, rfl⟩) (ih (q + 1) _ _ hsg' (by omega) (by omega) ht' hr2 h1 (fun st' hk f2 => hrest st' hk ?_))
        exact (f0.trans (Fr.put s1 o.dst (.val undef)) (W := dstL o.dst ++ guardT l.toArray o) (n := true) (fun i hi => by simp [hi]) (fun i hi => by simp [hi]) (fun h => ⟨rfl, rfl⟩)).trans f2 (fun i hi => by
          simp only [wrL, List.mem_append] at hi ⊢; rcases hi with hi | hi <;> simp [hi]) (fun i hi => by simp [wrL, hi]) (fun h => ⟨rfl, rfl⟩)
      simp only [quietT] at h
      split at h
      · rename_i hg
        exact run s (Fr.refl _ _ _) hr (by simp [Region.wanted, hg]) h
      · rename_i j want hg
        split at h <;> try (cases h; done)
        rename_i t htt
        have hgt : guardT l.toArray o = [t] := by unfold guardT; rw [hg]; simp only [htt]
        split at h <;> try (cases h; done)
        · rename_i b hb
          obtain ⟨hw, hbv⟩ := wanted_bool hr hg htt hb
          have hl := hr.lit hbv
          have hfl : Fr (guardT l.toArray o) true s { s with t := s.t.set t (.dat .bool b) } := by rw [hgt]; exact Fr.lit s t _
          cases b <;> cases want <;> simp only [cond_true, cond_false] at h
          · exact run _ hfl hl (by rw [hw]; rfl) h
          · exact skip _ hfl hl (by rw [hw]; rfl) h
          · exact skip _ hfl hl (by rw [hw]; rfl) h
          · exact run _ hfl hl (by rw [hw]; rfl) h
        · rename_i u hnb hu
          exact skip s (Fr.refl _ _ _) hr (wanted_val hr hg htt hu (fun b e => hnb b e)) h
  exact key _ i st a (seg_get hm) (by rw [hlen]) (Nat.le_refl _) (by rw [hlen]; exact htk) hr h hrest

theorem segD_sound {R : Type} (hX : X.Ok) {l : List Oper} {i m : Nat} {q : Bool} {k : TS E → Option R} {r : R} {Q : TS E → Prop} {w0 : World} {G0 : Ghost} (h : segD X l i q m st k = some r)
    (hrest : ∀ st', k st' = some r → Fr (wrL l.toArray ((l.drop i).take m)) (noDefL ((l.drop i).take m)) st st' → ADraw w0 G0 X.P l.toArray (i + m) st' Q) : ADraw w0 G0 X.P l.toArray i st Q := by
  intro a w G hr
  unfold segD at h
  cases q <;> simp only [cond_true, cond_false] at h
  · obtain ⟨h1, h2⟩ := rq_some h
    rw [Bool.and_eq_true] at h1
    have hm := Nat.le_of_ble_eq_true h1.2
    have hlen : ((l.drop i).take m).length = m := by simp; omega
    have key := wpAny_seg (P := X.P) (Q' := CPost E w0 G0 (onlyN Q)) ((l.drop i).take m) i (l.toArray.size - (i + m)) (seg_get hm) (by rw [hlen]; exact h1.1) a w (opsT_sound hX h2 w0 G0 a w G hr) (fun e a w hp => ?_)
    · rw [hlen] at key
      rwa [show m + (l.toArray.size - (i + m)) = l.toArray.size - i by simp; omega] at key
    · obtain ⟨x, s, G', he, hr', hk, hf⟩ := hp
      cases x with
      | normal =>
        refine ⟨by cases e <;> first | rfl | exact he.elim, ?_⟩
        rw [hlen]
        exact hrest s hk hf a w G' hr'
      | _ => cases hk
  · obtain ⟨h1, h2⟩ := rq_some h
    rw [Bool.and_eq_true] at h1
    exact quiet_sound hX h1.1 (Nat.le_of_ble_eq_true h1.2) h2 (fun st' hk hf => hrest st' hk (hf.wide (fun _ h => h) (fun _ => rfl))) hr

theorem ADraw.mono {w0 : World} {G0 : Ghost} {P : Program} {ops : Array Oper} {i : Nat} {Q Q' : TS E → Prop} (hq : ∀ s, Q s → Q' s) (h : ADraw w0 G0 P ops i st Q) : ADraw w0 G0 P ops i st Q' := by
  intro a w G hr
  have key : ∀ (fuel : Nat) (listed : Array Bool) (a : Act) (w : World) {Q1 Q2 : Exit → Act → World → Prop}, (∀ e a w, Q1 e a w → Q2 e a w) → wpAny P .any ops Q1 fuel listed a w → wpAny P .any ops Q2 fuel listed a w := by
    intro fuel
    induction fuel with
    | zero => intro listed a w Q1 Q2 hq h; exact ⟨h.1, hq _ _ _ h.2⟩
    | succ fuel ih =>
      intro listed a w Q1 Q2 hq h
      refine ⟨fun he => hq _ _ _ (h.1 he), fun i hi => ?_⟩
      have h1 := h.2 i hi
      unfold wpOp at h1 ⊢
      split
      · rename_i ho; rw [ho] at h1; exact ih _ _ _ hq h1
      · rename_i o ho
        rw [ho] at h1
        simp only at h1
        split
        · rename_i hw
          rw [if_pos hw] at h1
          rcases h1 with h1 | ⟨h1, a1, w1, h2⟩
          · exact .inl (upon_mono (fun a w h => ih _ a w hq h) hq h1)
          · exact .inr ⟨h1, a1, w1, hq _ _ _ h2⟩
        · rename_i hw
          rw [if_neg hw] at h1
          exact ih _ _ _ hq h1
  exact key _ _ _ _ (fun e a w hp => CPost.mono (fun x s hh => ⟨hh.1, hq _ hh.2⟩) hp) (h a w G hr)

theorem wrL_sub {all : Array Oper} : ∀ (l : List Oper) (a b : Nat) (i : Nat), i ∈ wrL all ((l.drop a).take b) → i ∈ wrL all l
  | [], a, b, i, h => by simp at h; exact h
  | o :: l, 0, 0, i, h => by simp [wrL] at h
  | o :: l, 0, b + 1, i, h => by
    simp only [List.drop_zero, List.take_succ_cons, wrL, List.mem_append] at h ⊢
    rcases h with h | h | h
    · exact .inl h
    · exact .inr (.inl h)
    · exact .inr (.inr (wrL_sub l 0 b i (by simpa using h)))
  | o :: l, a + 1, b, i, h => by
    simp only [wrL, List.mem_append]
    exact .inr (.inr (wrL_sub l a b i (by simpa using h)))
theorem noDefL_sub : ∀ (l : List Oper) (a b : Nat), noDefL l = true → noDefL ((l.drop a).take b) = true
  | [], a, b, h => by simp [noDefL]
  | o :: l, 0, 0, h => by simp [noDefL]
  | o :: l, 0, b + 1, h => by
    simp only [noDefL, Bool.and_eq_true] at h
    simp only [List.drop_zero, List.take_succ_cons, noDefL, Bool.and_eq_true]
    exact ⟨h.1, by simpa using noDefL_sub l 0 b h.2⟩
  | o :: l, a + 1, b, h => by
    simp only [noDefL, Bool.and_eq_true] at h
    simpa using noDefL_sub l a b h.2

theorem drawT_sound {R : Type} (hX : X.Ok) {l : List Oper} {k : TS E → Option R} {r : R} {w0 : World} {G0 : Ghost} : ∀ (ss : List DSeg) (i : Nat) {st : TS E}, drawT X l i ss st k = some r →
    ADraw w0 G0 X.P l.toArray i st (fun st' => k st' = some r ∧ Fr (wrL l.toArray l) (noDefL l) st st')
  | [], i, st, h => by
    simp only [drawT] at h
    cases hi : Nat.beq i l.length <;> rw [hi] at h <;> simp only [cond_true, cond_false] at h
    · cases h
    exact ADraw.done i (Nat.eq_of_beq_eq_true hi) ⟨h, Fr.refl _ _ _⟩
  | s :: ss, i, st, h => by
    simp only [drawT] at h
    split at h
    · refine segD_sound hX h fun st' hk hf => ?_
      refine ADraw.mono (fun s' hh => ⟨hh.1, hf.trans hh.2 (fun j hj => wrL_sub l i s.m j hj) (fun j hj => hj) (fun hn => ⟨noDefL_sub l i s.m hn, hn⟩)⟩) (drawT_sound hX ss (i + s.m) hk)
    · rename_i c hc
      obtain ⟨h1, h2⟩ := rq_some h
      rw [Bool.and_eq_true] at h1
      cases hs : segD X l i s.q s.m st (fun st' => c.pack st st') with
      | none => rw [hs] at h2; cases h2
      | some x =>
        rw [hs] at h2
        dsimp only [Option.bind] at h2
        intro a w G hr
        have hpre := hr.pre
        refine segD_sound hX hs (fun st' hk hf => ?_) a w G hr
        intro a' w' G' hr'
        obtain ⟨⟨G2, hR⟩, hF⟩ := cut_step hpre hr' (hf.wide (fun _ h => h) (fun _ => noDefL_sub l i s.m h1.2)) h1.1 hk
        exact ADraw.mono (fun s' hh => ⟨hh.1, hF.trans hh.2 (fun j hj => wrL_sub l i s.m j hj) (fun j hj => hj) (fun hn => ⟨rfl, hn⟩)⟩) (drawT_sound hX ss (i + s.m) h2) a' w' G2 hR

theorem draw_sound {R : Type} (hX : X.Ok) {id : Nat} {ops : Array Oper} {ss : List DSeg} {k : TS E → Option R} {r : R} (h : drawT X ops.toList 0 ss st k = some r) :
    AWp E X.P (.region id ops true) st (fun x st' => x = .normal ∧ k st' = some r ∧ Fr (wrL ops ops.toList) (noDefL ops.toList) st st') := by
  intro w0 G0 a w G hr
  have hs : Same w { w with drawn := w.drawn + 1 } := ⟨Nat.le_refl _, fun _ _ => rfl⟩
  have hr' := hr.grow (w' := { w with drawn := w.drawn + 1 }) hs rfl rfl rfl G.pr (fun _ _ h => h) (fun _ _ _ h => h) (fun b o hp => Nat.lt_of_lt_of_le (hr.boxes.prok b o hp).1 hs.1)
  have h1 := drawT_sound hX (w0 := w0) (G0 := G0) ss 0 h a _ _ hr'
  simp only [Array.toArray_toList] at h1
  refine wp_region_any hX.mix ?_
  rw [pre_zero]
  exact h1

theorem Evol.trans {w0 w1 w2 : World} {G0 G1 G2 : Ghost} (h : Evol w0 G0 w1 G1) (h' : Evol w1 G1 w2 G2) : Evol w0 G0 w2 G2 := by
  have foot : ∀ b, b < w0.heap.size → G1.foot b → G0.foot b := by
    intro b hb hf
    rcases hf with hf | ⟨x, hd, hm, hbk⟩
    · obtain ⟨q, hq, he⟩ := List.getElem_of_mem hf
      have hqb : G1.i[q]? = some b := by rw [← he]; exact List.getElem?_eq_getElem hq
      by_cases hql : q < G0.i.length
      · have e1 := h.goes.i q _ (List.getElem?_eq_getElem hql)
        rw [hqb] at e1
        exact .inl (by rw [Option.some.inj e1]; exact List.getElem_mem hql)
      · have := h.newB q b (by omega) hqb; omega
    · obtain ⟨j, hj, he⟩ := List.getElem_of_mem hm
      rcases h.newG j x hd b (by rw [← he]; exact List.getElem?_eq_getElem hj) hbk with q | ⟨x0, h0, q1, q2⟩
      · omega
      · exact .inr ⟨x0, h0, List.mem_of_getElem? q1, q2⟩
  refine ⟨h'.os.trans h.os, h'.tape.trans h.tape, h'.output.trans h.output, Nat.le_trans h.size h'.size, fun b hb hn => (h'.old b (Nat.lt_of_lt_of_le hb h.size) (fun hf => hn (foot b hb hf))).trans (h.old b hb hn), h.goes.trans h'.goes, fun b o hb hp => ?_, fun r b h1 h2 => ?_, fun j x hd b hj hbk => ?_⟩
  · rcases h'.prold b o (Nat.lt_of_lt_of_le hb h.size) hp with q | ⟨x, hd, hm, hbk⟩
    · exact h.prold b o hb q
    · obtain ⟨j, hj, he⟩ := List.getElem_of_mem hm
      rcases h.newG j x hd b (by rw [← he]; exact List.getElem?_eq_getElem hj) hbk with q | ⟨x0, h0, q1, q2⟩
      · omega
      · exact .inr ⟨x0, h0, List.mem_of_getElem? q1, q2⟩
  · by_cases hr : r < G1.i.length
    · have e1 := h'.goes.i r _ (List.getElem?_eq_getElem hr)
      rw [h2] at e1
      exact h.newB r b h1 (by rw [Option.some.inj e1]; exact List.getElem?_eq_getElem hr)
    · exact Nat.le_trans h.size (h'.newB r b (by omega) h2)
  · rcases h'.newG j x hd b hj hbk with q | ⟨x0, h0, q1, q2⟩
    · exact .inl (Nat.le_trans h.size q)
    · exact h.newG j x0 h0 b q1 q2

/-- A state seen from itself on. -/
theorem Rel.root {w0 w : World} {G0 G : Ghost} {a : Act} (h : Rel E w0 G0 st a w G) : Rel E w G { st with d := [] } a w G :=
  ⟨Evol.refl w G, h.size, h.tmps, h.defers, h.boxes, fun _ _ _ _ => rfl, h.pinsAt⟩
theorem Rel.unroot {w0 w w' : World} {G0 G G' : Ghost} {a a' : Act} {st' : TS E} (h : Rel E w0 G0 st a w G) (h' : Rel E w G st' a' w' G') : Rel E w0 G0 { st' with d := st'.d ++ st.d } a' w' G' :=
  ⟨h.evol.trans h'.evol, h'.size, h'.tmps, h'.defers, h'.boxes, fun r b hb hd => by
    have hd : r ∉ st'.d ++ st.d := hd
    rw [List.mem_append, not_or] at hd
    exact (h'.fix r b (h.evol.goes.i r b hb) hd.1).trans (h.fix r b hb hd.2), h.pins⟩
theorem Fr.unroot {W : List Nat} {nd : Bool} {st' : TS E} (h : Fr W nd { st with d := [] } st') : Fr W nd st { st' with d := st'.d ++ st.d } := by
  obtain ⟨D, hD, hH⟩ := h.d
  simp only [List.append_nil] at hD
  exact ⟨h.len, h.keep, ⟨D, by rw [hD], hH⟩, h.hl, h.df⟩

/-- What stays in every order: some boxes, and what was protected. -/
def Pin (ws : World) (Gs : Ghost) (R : List Nat) (w' : World) : Prop :=
  (∀ r b, r ∈ R → Gs.i[r]? = some b → w'.heap[b]? = ws.heap[b]?) ∧ ∀ b o u, Gs.pr b o → ws.cell? ⟨b, o, none⟩ = some u → w'.cell? ⟨b, o, none⟩ = some u
def pinned (R : List Nat) (st : TS E) : Bool := R.all fun r => !(st.d.elem r)
theorem Rel.pin {ws w : World} {Gs G : Ghost} {a : Act} {R : List Nat} (h : Rel E ws Gs st a w G) (hR : pinned R st = true) : Pin ws Gs R w :=
  ⟨fun r b hr hb => h.fix r b hb (fun hm => by
    have := List.all_eq_true.1 hR r hr
    rw [List.elem_eq_true_of_mem hm] at this; cases this), h.evol.goes.cells⟩

/-- Loads that may be taken at any time. -/
def loadOk (R : List Nat) (first : Bool) (st : TS E) : Op → Bool
  | .load _ x => match st.ev x with
    | .ptr r _ => R.elem r
    | .cel _ _ _ => first
    | _ => false
  | _ => true

/-- Whatever order is picked, and each operation outside Z keeps S. -/
def wpAnyP (P : Program) (ops : Array Oper) (Q : Exit → Act → World → Prop) (S : World → Prop) (Z : List Nat) : Nat → Array Bool → Act → World → Prop
  | 0, listed, a, w => Region.ready .any ops listed = [] ∧ Q .normal a w
  | fuel + 1, listed, a, w =>
    (Region.ready .any ops listed = [] → Q .normal a w) ∧
    ∀ i ∈ Region.ready .any ops listed, wpOp P ops Q i (fun a' w' => (Z.elem i = false → S w') ∧ wpAnyP P ops Q S Z fuel (listed.setIfInBounds i true) a' w') a w

theorem wpAny_of_P {P : Program} {ops : Array Oper} {Q : Exit → Act → World → Prop} {S : World → Prop} {Z : List Nat} : ∀ (fuel : Nat) (listed : Array Bool) (a : Act) (w : World), wpAnyP P ops Q S Z fuel listed a w → wpAny P .any ops Q fuel listed a w
  | 0, _, _, _, h => h
  | fuel + 1, _, _, _, h => ⟨h.1, fun i hi => wpOp_mono (fun a' w' h' => wpAny_of_P fuel _ a' w' h'.2) (h.2 i hi)⟩

theorem wpAnyP_first {P : Program} {ops : Array Oper} {Q : Exit → Act → World → Prop} {S : World → Prop} {Z : List Nat} {i : Nat} {oi : Oper} {v : Value} (hoi : ops[i]? = some oi) (hsel : ∀ (j : Nat) (o : Oper) cs b, ops[j]? = some o → o.op ≠ .select cs b)
    (hQ : ∀ c a w, Q (.panic c) (a.put oi.dst v) w → Q (.panic c) a w) (hZ : ∀ (j : Nat) (oj : Oper), ops[j]? = some oj → Z.elem j = true → ∃ e ∈ oj.after, Region.binds .any e = true ∧ e.on = i) :
    ∀ (fuel : Nat) (listed : Array Bool) (a : Act) (w : World),
      (∀ j oj, ops[j]? = some oj → j ≠ i → listed.getD j true = false → (∀ e ∈ oj.after, Region.binds .any e = true → e.on ≠ i) → oi.apart ops oj = true) →
      i ∈ Region.ready .any ops listed → YieldsIf P ops S oi v a → S w →
      wpAnyP P ops Q S Z fuel (listed.setIfInBounds i true) (a.put oi.dst v) w → wpAnyP P ops Q S Z (fuel + 1) listed a w := by
  intro fuel
  induction fuel with
  | zero =>
    intro listed a w _ hr hy hS H
    refine ⟨fun h => (by rw [h] at hr; cases hr), fun j hj => ?_⟩
    by_cases hji : j = i
    · subst hji; exact hy.wpOp hoi hS ⟨fun _ => hS, H⟩
    · have := ready_mono hj hji
      rw [H.1] at this
      cases this
  | succ fuel ih =>
    intro listed a w hfree hr hy hS H
    refine ⟨fun h => (by rw [h] at hr; cases hr), fun j hj => ?_⟩
    by_cases hji : j = i
    · subst hji; exact hy.wpOp hoi hS ⟨fun _ => hS, H⟩
    · have h1 := H.2 j (ready_mono hj hji)
      obtain ⟨hjun, oj, hoj, hall⟩ := mem_ready.1 hj
      have hpi : listed.getD i true = false := (mem_ready.1 hr).1
      have hnot : ∀ e ∈ oj.after, Region.binds .any e = true → e.on ≠ i := fun e he hb heq => by
        have h1 := hall e he hb
        rw [heq] at h1
        rcases Nat.lt_or_ge i listed.size with h' | h'
        · simp [h'] at hpi h1; rw [hpi] at h1; cases h1
        · simp [Array.getElem?_eq_none h'] at h1
      have h2 := wpOp_putIf hoj (hfree j oj hoj hji hjun hnot) (fun cs b => hsel i oi cs b hoi) (fun cs b => hsel j oj cs b hoj) hQ hy h1
      have hfree' : ∀ k ok, ops[k]? = some ok → k ≠ i → (listed.setIfInBounds j true).getD k true = false →
          (∀ e ∈ ok.after, Region.binds .any e = true → e.on ≠ i) → oi.apart ops ok = true := fun k ok hk hki hun hno => by
        refine hfree k ok hk hki ?_ hno
        by_cases hjk : j = k
        · subst hjk; exact hjun
        · rw [getD_set_ne true hjk] at hun; exact hun
      have hjZ : Z.elem j = false := by
        cases hz : Z.elem j with
        | false => rfl
        | true =>
          obtain ⟨e, he, hb, hei⟩ := hZ j oj hoj hz
          exact (hnot e he hb hei).elim
      refine wpOp_mono (fun a' w' h3 => ⟨h3.2.1, ih (listed.setIfInBounds j true) a' w' hfree' (ready_mono hr (Ne.symm hji)) h3.1 (h3.2.1 hjZ) ?_⟩) h2
      rw [Array.setIfInBounds_comm _ _ hji]
      exact h3.2.2

/-- What an operation's guard says. -/
def gdT {R' : Type} (all : Array Oper) (o : Oper) (st : TS E) (run skip : TS E → Option R') : Option R' := match o.guard with
  | none => run st
  | some (j, want) => match (all[j]?).bind (·.dst) with
    | some t => match st.at t with
      | .dat .bool b => cond b
          (cond want (run { st with t := st.t.set t (.dat .bool true) }) (skip { st with t := st.t.set t (.dat .bool true) }))
          (cond want (skip { st with t := st.t.set t (.dat .bool false) }) (run { st with t := st.t.set t (.dat .bool false) }))
      | .val (.bool _) => none
      | .val _ => skip st
      | _ => none
    | none => none

/-- Each operation of Z comes behind operation i. -/
def behind (all : Array Oper) (Z : List Nat) (i : Nat) : Bool := Z.all fun j => match all[j]? with
  | some o => o.after.any (fun e => Region.binds .any e && Nat.beq e.on i)
  | none => true
/-- Operations of a drawn region in an order of our own: quiet ones whenever they may come, others only when nothing else may. The mark: 0 nothing has changed, 1 the pinned boxes are unchanged, 2 nothing is known. -/
def goS {R' : Type} (X : Cx E) (R Z : List Nat) (all : Array Oper) : List (Nat × Bool) → Nat → Array Bool → TS E → (Nat → TS E → Option R') → Option R'
  | [], f, _, st, k => k f st
  | p :: is, f, L, st, k => match all[p.1]? with
    | none => none
    | some o => cond p.2
        (rq ((Region.free .any all L p.1 && (Region.ready .any all L).contains p.1) && (Nat.ble f 1 && behind all Z p.1)) (gdT all o st
          (fun st => rq (loadOk R (Nat.beq f 0) st o.op) (qopT X st o (fun st' => goS X R Z all is f (L.setIfInBounds p.1 true) st' k)))
          (fun st => goS X R Z all is f (L.setIfInBounds p.1 true) { st with t := setT st.t o.dst (.val undef) } k)))
        (rq (Region.ready .any all L == [p.1]) (gdT all o st
          (fun st => opT X st o (thenK (fun st' => cond (Z.elem p.1) (goS X R Z all is 2 (L.setIfInBounds p.1 true) st' k) (rq (pinned R st') (goS X R Z all is 1 (L.setIfInBounds p.1 true) st' k))) fun _ _ => none))
          (fun st => rq (Nat.ble f 1 || Z.elem p.1) (goS X R Z all is f (L.setIfInBounds p.1 true) { st with t := setT st.t o.dst (.val undef) } k))))

structure SSeg where
  l : List (Nat × Bool)
  c : Option Cut
def markL (L : Array Bool) : List (Nat × Bool) → Array Bool
  | [] => L
  | p :: l => markL (L.setIfInBounds p.1 true) l
def opsI (all : Array Oper) (l : List (Nat × Bool)) : List Oper := l.filterMap fun p => all[p.1]?
def drawS {R' : Type} (X : Cx E) (R Z : List Nat) (all : Array Oper) : List SSeg → Nat → Array Bool → TS E → (TS E → Option R') → Option R'
  | [], _, L, st, k => rq (Region.ready .any all L).isEmpty (k st)
  | s :: ss, f, L, st, k => match s.c with
    | none => goS X R Z all s.l f L st (fun f' st' => drawS X R Z all ss f' (markL L s.l) st' k)
    | some c => rq (c.okW (wrL all (opsI all s.l)) && noDefL all.toList) ((goS X R Z all s.l f L st (fun _ st' => c.pack st st')).bind fun x => rq (pinned R (c.un (wrL all (opsI all s.l)) st x)) (drawS X R Z all ss 1 (markL L s.l) (c.un (wrL all (opsI all s.l)) st x) k))
def SSeg.n : List SSeg → Nat
  | [] => 0
  | s :: ss => s.l.length + SSeg.n ss

def ADrawS (ws : World) (Gs : Ghost) (R Z : List Nat) (P : Program) (ops : Array Oper) (f : Nat) (n : Nat) (L : Array Bool) (st : TS E) (Q : TS E → Prop) : Prop :=
  ∀ a w G, Rel E ws Gs st a w G → (f = 0 → w.heap = ws.heap ∧ G = Gs) → (f ≤ 1 → Pin ws Gs R w) → wpAnyP P ops (CPost E ws Gs (onlyN Q)) (Pin ws Gs R) Z n L a w

theorem ADrawS.done {ws : World} {Gs : Ghost} {R Z : List Nat} {P : Program} {ops : Array Oper} {f : Nat} {L : Array Bool} {Q : TS E → Prop} (hL : (Region.ready .any ops L).isEmpty = true) (h : Q st) : ∀ n, ADrawS ws Gs R Z P ops f n L st Q := by
  have hL : Region.ready .any ops L = [] := List.isEmpty_iff.1 hL
  intro n a w G hr _ _
  have hq : CPost E ws Gs (onlyN Q) .normal a w := ⟨.normal, st, G, trivial, hr, rfl, h⟩
  cases n with
  | zero => exact ⟨hL, hq⟩
  | succ n => exact ⟨fun _ => hq, fun i hi => by rw [hL] at hi; cases hi⟩

/-- A quiet operation whose loads are pinned. -/
theorem qopS_sound {R' : Type} (hX : X.Ok) {R : List Nat} {first : Bool} {o : Oper} {k : TS E → Option R'} {r : R'} (hl : loadOk R first st o.op = true) (h : qopT X st o k = some r) {ws w : World} {Gs G : Ghost} {a : Act} (hr : Rel E ws Gs st a w G)
    (hf : first = true → w.heap = ws.heap ∧ G = Gs) (hp : Pin ws Gs R w) (hRl : ∀ q, q ∈ R → q < Gs.i.length) :
    ∃ v st', (∀ w', Pin ws Gs R w' → (execOp a.eval o).run X.P w' = .ok (.value v) w') ∧ Rel E ws Gs st' (a.put o.dst v) w G ∧ k st' = some r ∧ Fr (dstL o.dst) true st st' := by
  cases hld : isLoad o.op with
  | false =>
    obtain ⟨v, st', h1, h2, h3, h4⟩ := qopT_sound hX h hr
    exact ⟨v, st', fun w' _ => h1 w' (fun hh => by rw [hld] at hh; cases hh), h2, h3, h4⟩
  | true =>
    obtain ⟨t, x, ho⟩ : ∃ t x, o.op = .load t x := by cases ho : o.op <;> rw [ho] at hld <;> first | exact ⟨_, _, rfl⟩ | cases hld
    unfold qopT at h
    split at h
    · rename_i p hpp
      obtain ⟨h1, h2⟩ := rq_some h
      have hev : evalT X.P X.ty st o.op = some p ∨ (evalT X.P X.ty st o.op = none ∧ evalX X.P X.ty st o.op = some p) := by
        unfold evalA at hpp
        split at hpp
        · rename_i y hy; rw [hy]; exact .inl hpp
        · rename_i hy; exact .inr ⟨hy, hpp⟩
      rw [ho] at hev hl
      rcases hev with hev | ⟨-, hev⟩
      rotate_left
      · simp only [evalX] at hev; cases hev
      simp only [evalT] at hev
      simp only [loadOk] at hl
      have hv := hr.ev x
      split at hev <;> try (cases hev; done)
      · rename_i i T y off hi hd
        rw [hd] at hv hl
        simp only at hl
        subst hl
        obtain ⟨hw, hG⟩ := hf rfl
        subst hG
        have hcell : ∀ a, w.cell? a = ws.cell? a := fun a => by unfold World.cell?; rw [hw]
        simp only [VT] at hv
        obtain ⟨b, o', c, he, q1, q2⟩ := hv
        have hpart := part_sound hX.E q1 (okT_some hev)
        obtain ⟨v, hvv, hrun0⟩ := run_load_row (P := X.P) hi (fun l u hl => (q2 l u hl).2) hpart
        refine ⟨v, _, fun w' hP => ?_, hr.put hvv o.dst, h2, Fr.put _ _ _⟩
        have hrow : ∀ (l : Nat) u, c[l]? = some u → w'.cell? ⟨b, o' + l, none⟩ = some u := fun l u hl => hP.2 _ _ _ (q2 l u hl).1 (by rw [← hcell]; exact (q2 l u hl).2)
        have hrun : (Instr.loadAt t (.pointer (some ⟨b, o' + off, none⟩))).run X.P w' = .ok v w' := by
          have e0 := hrun0 w (Same.refl w)
          have key : ∀ (W : World), (∀ (l : Nat) u, c[l]? = some u → W.cell? ⟨b, o' + l, none⟩ = some u) → ∀ (p1 : Part E w G c i.isAgg i.size off p.2), (Instr.loadAt t (.pointer (some ⟨b, o' + off, none⟩))).run X.P W = .ok (cond i.isAgg (.agg ((c.drop off).take i.size).toArray) (c.getD off undef)) W := by
            intro W hW p1
            unfold Part at p1
            have hc' : ∀ l, l < c.length → W.cell? ⟨b, o' + l, none⟩ = some (c.getD l undef) := fun l hl => by
              have := List.getElem?_eq_getElem hl
              rw [getD_eq this]; exact hW l _ this
            cases ha : i.isAgg <;> rw [ha] at p1 <;> simp only [cond_true, cond_false] at p1 ⊢
            · obtain ⟨u, hu, -⟩ := p1
              have hl := (List.getElem?_eq_some_iff.1 hu).1
              rw [run_load_part hi b o' c.length (fun l => c.getD l undef) hc' off (by rw [ha]; exact hl) W (Same.refl W), ha]
              rfl
            · obtain ⟨hl, -⟩ := p1
              rw [run_load_part hi b o' c.length (fun l => c.getD l undef) hc' off (by rw [ha]; exact hl) W (Same.refl W), ha]
              simp only [cond_true]
              congr 3
              apply List.ext_getElem
              · simp; omega
              · intro n h1 h2
                simp at h1 h2
                simp [List.getD, show off + n < c.length by omega]
          rw [key w (fun l u hl => (q2 l u hl).2) hpart] at e0
          rw [key w' hrow hpart]
          simp only [Result.ok.injEq, and_true] at e0 ⊢
          exact e0
        simp only [execOp, ho, he, Sem.run_bind, hrun, Result.andThen_ok, Sem.run_pure]
      · rename_i i r' off hi hd
        rw [hd] at hv hl
        simp only at hl
        have hrR := List.mem_of_elem_eq_true hl
        split at hev <;> try (cases hev; done)
        rename_i t' cs hb
        simp only [VT] at hv
        obtain ⟨b, he, hat⟩ := hv
        obtain ⟨vs, hh, q1, q2⟩ := hr.box hat hb
        have hGs : Gs.i[r']? = some b := by
          have hlt := hRl r' hrR
          have e1 := hr.evol.goes.i r' _ (List.getElem?_eq_getElem hlt)
          rw [hat] at e1
          rw [Option.some.inj e1]; exact List.getElem?_eq_getElem hlt
        have hpart := partC_sound hX.E q2 (fun u hu => q1 u (by simpa using hu)) (okT_some hev)
        obtain ⟨v, hvv, hrun0⟩ := run_load_row (P := X.P) (w := w) (b := b) (o' := 0) hi (fun l u hl => by
          rw [cell_of_row w b (0 + l) vs t' (0, 0) hh]; simpa using hl) hpart
        refine ⟨v, _, fun w' hP => ?_, hr.put hvv o.dst, h2, Fr.put _ _ _⟩
        have hh' : w'.heap[b]? = some (.cells vs t' (0, 0)) := by rw [hP.1 r' b hrR hGs, ← hp.1 r' b hrR hGs]; exact hh
        have hrun : (Instr.loadAt t (.pointer (some ⟨b, 0 + off, none⟩))).run X.P w' = .ok v w' := by
          have e0 := hrun0 w (Same.refl w)
          have key : ∀ (W : World), W.heap[b]? = some (.cells vs t' (0, 0)) → (Instr.loadAt t (.pointer (some ⟨b, 0 + off, none⟩))).run X.P W = .ok (cond i.isAgg (.agg ((vs.toList.drop off).take i.size).toArray) (vs.toList.getD off undef)) W := by
            intro W hW
            have hc' : ∀ l, l < vs.toList.length → W.cell? ⟨b, 0 + l, none⟩ = some (vs.toList.getD l undef) := fun l hl => by
              rw [cell_of_row W b (0 + l) vs t' (0, 0) hW]
              have : l < vs.size := by simpa using hl
              simp [List.getD, this]
            have p1 := hpart
            unfold Part at p1
            cases ha : i.isAgg <;> rw [ha] at p1 <;> simp only [cond_true, cond_false] at p1 ⊢
            · obtain ⟨u, hu, -⟩ := p1
              have hl := (List.getElem?_eq_some_iff.1 hu).1
              rw [run_load_part hi b 0 vs.toList.length (fun l => vs.toList.getD l undef) hc' off (by rw [ha]; exact hl) W (Same.refl W), ha]
              rfl
            · obtain ⟨hl, -⟩ := p1
              rw [run_load_part hi b 0 vs.toList.length (fun l => vs.toList.getD l undef) hc' off (by rw [ha]; exact hl) W (Same.refl W), ha]
              simp only [cond_true]
              congr 3
              have hvl : vs.toList.length = vs.size := Array.length_toList
              apply List.ext_getElem
              · simp; simp at hl; omega
              · intro n h1 h2
                simp at h1 h2
                simp [List.getD, show off + n < vs.size by simp at hl; omega]
          rw [key w hh] at e0
          rw [key w' hh']
          simp only [Result.ok.injEq, and_true] at e0 ⊢
          exact e0
        rw [Nat.zero_add] at hrun
        simp only [execOp, ho, he, Sem.run_bind, hrun, Result.andThen_ok, Sem.run_pure]
    · rw [ho] at h; cases h

theorem gdT_some {R' : Type} {all : Array Oper} {o : Oper} {run skip : TS E → Option R'} {r : R'} (h : gdT all o st run skip = some r) {w0 w : World} {G0 G : Ghost} {a : Act} (hr : Rel E w0 G0 st a w G) :
    ∃ s1, Fr (guardT all o) true st s1 ∧ Rel E w0 G0 s1 a w G ∧ ((Region.wanted o (yielded all a.tmps) = true ∧ run s1 = some r) ∨ (Region.wanted o (yielded all a.tmps) = false ∧ skip s1 = some r)) := by
  unfold gdT at h
  split at h
  · rename_i hg
    exact ⟨st, Fr.refl _ _ _, hr, .inl ⟨by simp [Region.wanted, hg], h⟩⟩
  · rename_i j want hg
    split at h <;> try (cases h; done)
    rename_i t htt
    have hgt : guardT all o = [t] := by unfold guardT; rw [hg]; simp only [htt]
    split at h <;> try (cases h; done)
    · rename_i b hb
      obtain ⟨hw, hbv⟩ := wanted_bool hr hg htt hb
      have hl := hr.lit hbv
      have hfl : Fr (guardT all o) true st { st with t := st.t.set t (.dat .bool b) } := by rw [hgt]; exact Fr.lit st t _
      cases b <;> cases want <;> simp only [cond_true, cond_false] at h
      · exact ⟨_, hfl, hl, .inl ⟨by rw [hw]; rfl, h⟩⟩
      · exact ⟨_, hfl, hl, .inr ⟨by rw [hw]; rfl, h⟩⟩
      · exact ⟨_, hfl, hl, .inr ⟨by rw [hw]; rfl, h⟩⟩
      · exact ⟨_, hfl, hl, .inl ⟨by rw [hw]; rfl, h⟩⟩
    · rename_i u hnb hu
      exact ⟨st, Fr.refl _ _ _, hr, .inr ⟨wanted_val hr hg htt hu (fun b e => hnb b e), h⟩⟩

theorem goS_sound {R' : Type} (hX : X.Ok) {R Z : List Nat} {all : Array Oper} (hns : Region.noSelect all = true) {ws : World} {Gs : Ghost} (hRl : ∀ q, q ∈ R → q < Gs.i.length) {Q : TS E → Prop} {n : Nat} {k : Nat → TS E → Option R'} {r : R'} :
    ∀ (is : List (Nat × Bool)) (f : Nat) (L : Array Bool) {st : TS E}, goS X R Z all is f L st k = some r →
      (∀ f' st', k f' st' = some r → Fr (wrL all (opsI all is)) (noDefL (opsI all is)) st st' → ADrawS ws Gs R Z X.P all f' n (markL L is) st' Q) → ADrawS ws Gs R Z X.P all f (is.length + n) L st Q
  | [], f, L, st, h, hrest => by
    simp only [List.length_nil, Nat.zero_add]
    exact hrest f st h (Fr.refl _ _ _)
  | (i, q) :: is, f, L, st, h, hrest => by
    intro a w G hr hf hp
    simp only [goS] at h
    split at h <;> try (cases h; done)
    rename_i o ho
    have hQp : ∀ c a w, ¬ CPost E ws Gs (onlyN Q) (.panic c) a w := fun c a w hp => by have := CPost.onlyN hp; cases this
    have hops : opsI all ((i, q) :: is) = o :: opsI all is := by simp [opsI, ho]
    have hfr : ∀ {s1 s2 s3 : TS E} {nd : Bool}, (nd = !(isDef o.op) ∨ nd = true) → Fr (guardT all o) true st s1 → Fr (dstL o.dst) nd s1 s2 → Fr (wrL all (opsI all is)) (noDefL (opsI all is)) s2 s3 → Fr (wrL all (opsI all ((i, q) :: is))) (noDefL (opsI all ((i, q) :: is))) st s3 := by
      intro s1 s2 s3 nd hnd f0 f1 f2
      rw [hops]
      refine (f0.trans f1 (W := dstL o.dst ++ guardT all o) (n := nd) (fun i hi => by simp [hi]) (fun i hi => by simp [hi]) (fun h => ⟨rfl, h⟩)).trans f2 (fun i hi => by
          simp only [wrL, List.mem_append] at hi ⊢; rcases hi with hi | hi <;> simp [hi]) (fun i hi => by simp [wrL, hi]) (fun h => by
          simp only [noDefL, Bool.and_eq_true] at h; exact ⟨by rcases hnd with rfl | rfl; exact h.1; rfl, h.2⟩)
    rw [show ((i, q) :: is).length + n = (is.length + n) + 1 by simp; omega]
    have hskip : ∀ (s1 : TS E), Fr (guardT all o) true st s1 → Rel E ws Gs s1 a w G → goS X R Z all is f (L.setIfInBounds i true) { s1 with t := setT s1.t o.dst (.val undef) } k = some r →
        wpAnyP X.P all (CPost E ws Gs (onlyN Q)) (Pin ws Gs R) Z (is.length + n) (L.setIfInBounds i true) (a.put o.dst undef) w := by
      intro s1 f0 hr1 h1
      have hr2 := hr1.put (v := undef) (d := .val undef) (by simp only [VT]) o.dst
      exact goS_sound hX hns hRl is f _ h1 (fun f' st' hk f2 => hrest f' st' hk (hfr (.inr rfl) f0 (Fr.put s1 o.dst (.val undef)) f2)) _ w G hr2 hf hp
    cases q <;> simp only [cond_true, cond_false] at h
    · obtain ⟨h1, h⟩ := rq_some h
      have h1 : Region.ready .any all L = [i] := by simpa using h1
      refine ⟨fun he => (by rw [he] at h1; cases h1), fun j hj => ?_⟩
      have hji : j = i := by rw [h1] at hj; simpa using hj
      subst hji
      obtain ⟨s1, f0, hr1, hc⟩ := gdT_some h hr
      unfold wpOp
      simp only [ho]
      rcases hc with ⟨hw, h2⟩ | ⟨hw, h2⟩
      · rw [if_pos hw]
        have hop := opT_sound hX h2 ws Gs a w G hr1
        refine .inl (upon_mono (fun a' w' hn => ?_) (fun e a' w' hpp => ?_) hop)
        · obtain ⟨s2, G2, hr2, hk, f1⟩ := hn
          simp only [thenK] at hk
          cases hz : Z.elem j <;> rw [hz] at hk <;> simp only [cond_true, cond_false] at hk
          · obtain ⟨hpin, hk⟩ := rq_some hk
            have hp2 := hr2.pin hpin
            exact ⟨fun _ => hp2, goS_sound hX hns hRl is 1 _ hk (fun f' st' hk' f2 => hrest f' st' hk' (hfr (.inl rfl) f0 f1 f2)) a' w' G2 hr2 (fun e => by cases e) (fun _ => hp2)⟩
          · exact ⟨fun e => (by cases e), goS_sound hX hns hRl is 2 _ hk (fun f' st' hk' f2 => hrest f' st' hk' (hfr (.inl rfl) f0 f1 f2)) a' w' G2 hr2 (fun e => by cases e) (fun e => by omega)⟩
        · obtain ⟨x, s2, G2, he, hr2, hn, hk, f1⟩ := hpp
          cases x <;> first | exact (hn rfl).elim | cases hk
      · rw [if_neg (by rw [hw]; simp)]
        obtain ⟨h3, h2⟩ := rq_some h2
        refine ⟨fun hz => hp ?_, hskip s1 f0 hr1 h2⟩
        rw [hz, Bool.or_false] at h3
        exact Nat.le_of_ble_eq_true h3
    · obtain ⟨h1, h⟩ := rq_some h
      simp only [Bool.and_eq_true] at h1
      obtain ⟨h1, hf1, hbe⟩ := h1
      have hp := hp (Nat.le_of_ble_eq_true hf1)
      have hZ : ∀ (j : Nat) (oj : Oper), all[j]? = some oj → Z.elem j = true → ∃ e ∈ oj.after, Region.binds .any e = true ∧ e.on = i := fun j oj hoj hz => by
        have h2 := List.all_eq_true.1 hbe j (List.mem_of_elem_eq_true hz)
        simp only [hoj] at h2
        obtain ⟨e, he, hb⟩ := Array.any_eq_true'.1 h2
        rw [Bool.and_eq_true] at hb
        exact ⟨e, he, hb.1, Nat.eq_of_beq_eq_true hb.2⟩
      have first : ∀ v, YieldsIf X.P all (Pin ws Gs R) o v a → wpAnyP X.P all (CPost E ws Gs (onlyN Q)) (Pin ws Gs R) Z (is.length + n) (L.setIfInBounds i true) (a.put o.dst v) w →
          wpAnyP X.P all (CPost E ws Gs (onlyN Q)) (Pin ws Gs R) Z ((is.length + n) + 1) L a w := fun v hy hh =>
        wpAnyP_first (v := v) ho (Region.noSelect_spec hns) (fun c a w hp => (hQp _ _ _ hp).elim) hZ _ _ a w (Region.free_spec ho h1.1) (by simpa using h1.2) hy hp hh
      obtain ⟨s1, f0, hr1, hc⟩ := gdT_some h hr
      rcases hc with ⟨hw, h2⟩ | ⟨hw, h2⟩
      · obtain ⟨hl, h2⟩ := rq_some h2
        obtain ⟨v, s2, hrun, hr2, hk, f1⟩ := qopS_sound hX hl h2 hr1 (fun e => hf (Nat.eq_of_beq_eq_true e)) hp hRl
        exact first v (.inl ⟨hw, hrun⟩) (goS_sound hX hns hRl is f _ hk (fun f' st' hk' f2 => hrest f' st' hk' (hfr (.inr rfl) f0 f1 f2)) _ w G hr2 hf (fun _ => hp))
      · exact first undef (.inr ⟨hw, rfl⟩) (hskip s1 f0 hr1 h2)

theorem wrL_mem {all : Array Oper} {o : Oper} : ∀ {l : List Oper}, o ∈ l → ∀ i, i ∈ dstL o.dst ++ guardT all o → i ∈ wrL all l
  | [], h, _, _ => by cases h
  | o' :: l, h, i, hi => by
    simp only [wrL, List.mem_append]
    rcases List.mem_cons.1 h with rfl | h
    · simp only [List.mem_append] at hi
      rcases hi with hi | hi
      · exact .inl hi
      · exact .inr (.inl hi)
    · exact .inr (.inr (wrL_mem h i hi))
theorem opsI_mem {all : Array Oper} {l : List (Nat × Bool)} {o : Oper} (h : o ∈ opsI all l) : o ∈ all.toList := by
  obtain ⟨p, _, hp⟩ := List.mem_filterMap.1 h
  exact List.mem_of_getElem? (by simpa using hp)
theorem wrL_opsI {all : Array Oper} : ∀ {l : List Oper}, (∀ o, o ∈ l → o ∈ all.toList) → ∀ i, i ∈ wrL all l → i ∈ wrL all all.toList
  | [], _, i, h => by cases h
  | o :: l, hm, i, h => by
    simp only [wrL, List.mem_append] at h
    rcases h with h | h | h
    · exact wrL_mem (hm o (by simp)) i (by simp [h])
    · exact wrL_mem (hm o (by simp)) i (by simp [h])
    · exact wrL_opsI (fun o h => hm o (by simp [h])) i h
theorem noDefL_all {l m : List Oper} (hm : ∀ o, o ∈ l → o ∈ m) (h : noDefL m = true) : noDefL l = true := by
  have key : ∀ (l : List Oper), noDefL l = true ↔ ∀ o, o ∈ l → (!(isDef o.op)) = true := by
    intro l
    induction l with
    | nil => simp [noDefL]
    | cons o l ih => simp only [noDefL, Bool.and_eq_true, ih, List.mem_cons, forall_eq_or_imp]
  rw [key] at h ⊢
  exact fun o ho => h o (hm o ho)

theorem ADrawS.mono {ws : World} {Gs : Ghost} {R Z : List Nat} {P : Program} {ops : Array Oper} {f : Nat} {n : Nat} {L : Array Bool} {Q Q' : TS E → Prop} (hq : ∀ s, Q s → Q' s) (h : ADrawS ws Gs R Z P ops f n L st Q) : ADrawS ws Gs R Z P ops f n L st Q' := by
  intro a w G hr hf hp
  have key : ∀ (fuel : Nat) (listed : Array Bool) (a : Act) (w : World) {Q1 Q2 : Exit → Act → World → Prop} {S : World → Prop}, (∀ e a w, Q1 e a w → Q2 e a w) → wpAnyP P ops Q1 S Z fuel listed a w → wpAnyP P ops Q2 S Z fuel listed a w := by
    intro fuel
    induction fuel with
    | zero => intro listed a w Q1 Q2 S hq h; exact ⟨h.1, hq _ _ _ h.2⟩
    | succ fuel ih =>
      intro listed a w Q1 Q2 S hq h
      refine ⟨fun he => hq _ _ _ (h.1 he), fun i hi => ?_⟩
      have h1 := h.2 i hi
      unfold wpOp at h1 ⊢
      split
      · rename_i ho; rw [ho] at h1; exact ⟨h1.1, ih _ _ _ hq h1.2⟩
      · rename_i o ho
        rw [ho] at h1
        simp only at h1
        split
        · rename_i hw
          rw [if_pos hw] at h1
          rcases h1 with h1 | ⟨h1, a1, w1, h2⟩
          · exact .inl (upon_mono (fun a w h => ⟨h.1, ih _ a w hq h.2⟩) hq h1)
          · exact .inr ⟨h1, a1, w1, hq _ _ _ h2⟩
        · rename_i hw
          rw [if_neg hw] at h1
          exact ⟨h1.1, ih _ _ _ hq h1.2⟩
  exact key _ _ _ _ (fun e a w hp => CPost.mono (fun x s hh => ⟨hh.1, hq _ hh.2⟩) hp) (h a w G hr hf hp)

theorem drawS_sound {R' : Type} (hX : X.Ok) {R Z : List Nat} {all : Array Oper} (hns : Region.noSelect all = true) {ws : World} {Gs : Ghost} (hRl : ∀ q, q ∈ R → q < Gs.i.length) {n : Nat} {k : TS E → Option R'} {r : R'} :
    ∀ (ss : List SSeg) (f : Nat) (L : Array Bool) {st : TS E}, drawS X R Z all ss f L st k = some r → ADrawS ws Gs R Z X.P all f (SSeg.n ss + n) L st (fun st' => k st' = some r ∧ Fr (wrL all all.toList) (noDefL all.toList) st st')
  | [], f, L, st, h => by
    simp only [drawS] at h
    obtain ⟨h1, h2⟩ := rq_some h
    exact ADrawS.done h1 ⟨h2, Fr.refl _ _ _⟩ _
  | s :: ss, f, L, st, h => by
    have hW : ∀ j, j ∈ wrL all (opsI all s.l) → j ∈ wrL all all.toList := wrL_opsI (fun o ho => opsI_mem ho)
    have hN : noDefL all.toList = true → noDefL (opsI all s.l) = true := noDefL_all (fun o ho => opsI_mem ho)
    simp only [drawS] at h
    rw [show SSeg.n (s :: ss) + n = s.l.length + (SSeg.n ss + n) by simp only [SSeg.n]; omega]
    split at h
    · refine goS_sound hX hns hRl s.l f L h fun f' st' hk hf => ?_
      exact ADrawS.mono (fun s' hh => ⟨hh.1, hf.trans hh.2 hW (fun j hj => hj) (fun hn => ⟨hN hn, hn⟩)⟩) (drawS_sound hX hns hRl ss f' _ hk)
    · rename_i c hc
      obtain ⟨h1, h2⟩ := rq_some h
      rw [Bool.and_eq_true] at h1
      cases hs : goS X R Z all s.l f L st (fun _ st' => c.pack st st') with
      | none => rw [hs] at h2; cases h2
      | some x =>
        rw [hs] at h2
        dsimp only [Option.bind] at h2
        obtain ⟨h3, h2⟩ := rq_some h2
        intro a w G hr
        have hpre := hr.pre
        refine goS_sound hX hns hRl s.l f L hs (fun f' st' hk hf => ?_) a w G hr
        intro a' w' G' hr' _ _
        obtain ⟨⟨G2, hR⟩, hF⟩ := cut_step hpre hr' (hf.wide (fun _ h => h) (fun _ => hN h1.2)) h1.1 hk
        exact ADrawS.mono (fun s' hh => ⟨hh.1, hF.trans hh.2 hW (fun j hj => hj) (fun hn => ⟨rfl, hn⟩)⟩) (drawS_sound hX hns hRl ss 1 _ h2) a' w' G2 hR (fun e => by cases e) (fun _ => hR.pin h3)

def drawP {R' : Type} (X : Cx E) (R Z : List Nat) (ops : Array Oper) (ss : List SSeg) (st : TS E) (k : TS E → Option R') : Option R' :=
  rq ((Region.noSelect ops && Nat.ble (SSeg.n ss) ops.size) && R.all (fun q => Nat.blt q st.H.length)) (drawS X R Z ops ss 0 (Array.replicate ops.size false) { st with d := [] } (fun st' => k { st' with d := st'.d ++ st.d }))

theorem drawP_sound {R' : Type} (hX : X.Ok) {id : Nat} {R Z : List Nat} {ops : Array Oper} {ss : List SSeg} {k : TS E → Option R'} {r : R'} (h : drawP X R Z ops ss st k = some r) :
    AWp E X.P (.region id ops true) st (fun x st' => x = .normal ∧ k st' = some r ∧ Fr (wrL ops ops.toList) (noDefL ops.toList) st st') := by
  intro w0 G0 a w G hr
  have hs : Same w { w with drawn := w.drawn + 1 } := ⟨Nat.le_refl _, fun _ _ => rfl⟩
  have hr' := hr.grow (w' := { w with drawn := w.drawn + 1 }) hs rfl rfl rfl G.pr (fun _ _ h => h) (fun _ _ _ h => h) (fun b o hp => Nat.lt_of_lt_of_le (hr.boxes.prok b o hp).1 hs.1)
  obtain ⟨h1, h2⟩ := rq_some h
  simp only [Bool.and_eq_true] at h1
  obtain ⟨⟨hns, hn⟩, hR⟩ := h1
  have hn := Nat.le_of_ble_eq_true hn
  have hRl : ∀ q, q ∈ R → q < G.i.length := fun q hq => by
    have := blt_iff.1 (List.all_eq_true.1 hR q hq)
    rw [hr.boxes.len]; exact this
  have hroot := hr'.root
  have h3 := drawS_sound hX hns (ws := { w with drawn := w.drawn + 1 }) (Gs := G) hRl (n := ops.size - SSeg.n ss) ss 0 _ h2 a _ G hroot (fun _ => ⟨rfl, rfl⟩) (fun _ => ⟨fun _ _ _ _ => rfl, fun _ _ _ _ h => h⟩)
  rw [show SSeg.n ss + (ops.size - SSeg.n ss) = ops.size by omega] at h3
  refine wp_region_any hX.mix ?_
  have h4 := wpAny_of_P _ _ _ _ h3
  have key : ∀ (fuel : Nat) (listed : Array Bool) (a : Act) (w : World) {Q1 Q2 : Exit → Act → World → Prop}, (∀ e a w, Q1 e a w → Q2 e a w) → wpAny X.P .any ops Q1 fuel listed a w → wpAny X.P .any ops Q2 fuel listed a w := by
    intro fuel
    induction fuel with
    | zero => intro listed a w Q1 Q2 hq h; exact ⟨h.1, hq _ _ _ h.2⟩
    | succ fuel ih =>
      intro listed a w Q1 Q2 hq h
      refine ⟨fun he => hq _ _ _ (h.1 he), fun i hi => ?_⟩
      have h1 := h.2 i hi
      unfold wpOp at h1 ⊢
      split
      · rename_i ho; rw [ho] at h1; exact ih _ _ _ hq h1
      · rename_i o ho
        rw [ho] at h1
        simp only at h1
        split
        · rename_i hw
          rw [if_pos hw] at h1
          rcases h1 with h1 | ⟨h1, a1, w1, h2⟩
          · exact .inl (upon_mono (fun a w h => ih _ a w hq h) hq h1)
          · exact .inr ⟨h1, a1, w1, hq _ _ _ h2⟩
        · rename_i hw
          rw [if_neg hw] at h1
          exact ih _ _ _ hq h1
  refine key _ _ _ _ (fun e a' w' hp => ?_) h4
  obtain ⟨x, s, G', he, hrr, rfl, hk, hF⟩ := hp
  exact ⟨.normal, _, G', he, hr'.unroot hrr, rfl, hk, hF.unroot⟩
end

end Go.RT
