/-
  AL, part 22: slices.Sorted(maps.Keys(m)) for maps with string keys.
-/
import Derived.Test.YtboofbgcdhjhnaaAl21
import Derived.Sort.KeysCollected
namespace Go.AL
set_option linter.unusedVariables false
open Go.MapKept Go.Maps Go.RowKit
open Go.WideElems (Fit rd rg pl)
open Go.Proofs (encStr)

/-- Keys in order. -/
def sortK (l : List (List UInt8)) : List (List UInt8) := l.mergeSort (fun x y => decide (x ≤ y))

/-- What the two calls do. -/
def SortedKeys (P : Program) (fK fS : FuncId) (kt : TypeId) : Prop :=
  ∀ (w : World) (b n : Nat) (D0 : DataW Unit) (R : Value → Option (DataW Unit × List MemPlace)), w.ownsMap P kt R b n D0 → Maps.size D0 ≤ maxLen → Maps.size D0 * 16 ≤ 140737488355328 →
    Calls P fK #[.map (some b)] w fun e w1 => ∃ v, e = .returned v ∧ Calls P fS #[v] w1 fun e2 w2 => ∃ (u : Value) (ss : List (List UInt8)), e2 = .returned u ∧ ss.Perm (strKeys D0) ∧
      w2.ownsRow w.heap.size kt 1 u ss.length ((ss.mergeSort (fun x y => decide (x ≤ y))).map encStr) ∧ Below w.heap.size w w2

theorem owns_of_mapIs {P : Program} {kt : TypeId} {β : Type} {ev : β → Value} {m : List (List UInt8 × β)} {w : World} {b : Nat} {o : Obj} (hk : P.underlying kt = some .string) (hb : w.heap[b]? = some o) (h : mapIs mkStr ev m o)
    (hl : ∀ p ∈ m, p.1.length ≤ maxLen) (hm : m.length ≤ maxLen) : ∃ D0 : DataW Unit, w.ownsMap P kt (fun _ => some (.lit (.bool true), [])) b m.length D0 ∧ Maps.size D0 = m.length ∧ (strKeys D0).Perm (m.map (·.1)) := by
  obtain ⟨es, clock, rfl, hs, hmm⟩ := h
  have hlen := map_len hmm
  have hrd : ∀ x ∈ es.toList, ∃ p ∈ m, x.key = mkStr p.1 ∧ rd P kt (fun _ => some ((.lit (.bool true) : DataW Unit), [])) x = some (.string p.1, .lit (.bool true)) := by
    intro x hx
    obtain ⟨p, hp, hkx, -⟩ := map_keys keyOk_str hmm x hx
    refine ⟨p, hp, hkx, ?_⟩
    have hko : keyOf P kt x.key = some (.string p.1) := by
      rw [hkx]
      exact WideMaps.keyOf_string_mk hk (s := ⟨⟨p.1⟩⟩) (hl p hp)
    simp [rd, hko]
  have hF : Fit P kt (fun _ => some ((.lit (.bool true) : DataW Unit), [])) es clock := ⟨by omega, hs, fun x hx => by obtain ⟨p, -, -, h⟩ := hrd x hx; exact ⟨_, h⟩⟩
  refine ⟨_, ⟨es, clock, hb, hF, by omega, rfl⟩, ?_, ?_⟩
  · show ((es.toList.map (rg P kt _)).foldr DataW.insert []).length = _
    rw [length_sorted]; simp; omega
  · show (((es.toList.map (rg P kt _)).foldr DataW.insert []).map fun p => strOf p.1).Perm _
    refine ((WideShapes.sorted_perm _).map _).trans ?_
    have : (es.toList.map (rg P kt (fun _ => some ((.lit (.bool true) : DataW Unit), [])))).map (fun p => strOf p.1) = m.map (·.1) := by
      have h1 : es.toList.map (fun e => e.key) = (m.map (·.1)).map mkStr := by
        have := congrArg (List.map Prod.fst) hmm
        simpa [List.map_map, Function.comp_def] using this
      have h2 : (es.toList.map (rg P kt (fun _ => some ((.lit (.bool true) : DataW Unit), [])))).map (fun p => strOf p.1) = (es.toList.map (fun e => e.key)).map (fun v => match v with | .string s => s.data.toList | _ => []) := by
        rw [List.map_map, List.map_map]
        refine List.map_congr_left fun x hx => ?_
        obtain ⟨p, -, hkx, hr⟩ := hrd x hx
        simp [rg, hr, hkx, strOf, mkStr]
      rw [h2, h1, List.map_map]
      have : ((fun v => match v with | Value.string s => s.data.toList | _ => []) ∘ mkStr) = id := by
        funext l; simp [mkStr]
      rw [this, List.map_id]
    rw [this]

section
variable {P : Program} {ops : Array Oper} {st : St} {Q : AExit → St → Prop}

/-- The row that a callee made, read. -/
theorem V_owned {w : World} {pr : Nat → Nat → Prop} {i : Places} {base : Nat} {kt : TypeId} {u : Value} {n : Nat} {l : List (List UInt8)} (hn : n = l.length) (h : w.ownsRow base kt 1 u n (l.map encStr)) (hp : ∀ g, u.ownBlock = some g → ∀ o, o < n → pr g o) :
    V w pr i u (.slice 1 (l.map ceS)) := by
  subst hn
  rcases h.2 with ⟨rfl, hz⟩ | ⟨g, cap, cur, rfl, hbase, hg, h1, h2, h3, h4⟩
  · have : l = [] := List.eq_nil_of_length_eq_zero hz
    subst this
    exact .nils _ _ _
  · have hlen : (l.map ceS).length = l.length := by simp
    have := V_row (w := w) (pr := pr) (i := i) (b := g) (k := 1) (cap := cap) (es := l.map ceS) (xs := l.map encStr) (fun j hj => by
        have hj' : j < l.length := by simpa using hj
        simp [List.getD, hj', ceS]) (by simpa using h1) (fun q hq => by
        have hq' : q < l.length := by simpa using hq
        refine ⟨hp g rfl q hq', ?_⟩
        rw [cell_of_row w g q cur kt (0, 0) hg]
        have h5 := congrArg (fun t => t[q]?) h4
        simp only [Nat.mul_one] at h5
        rw [List.getElem?_take, if_pos hq'] at h5
        simp only [List.getElem?_map, Array.getElem?_toList] at h5
        rw [h5]
        simp [List.getD, hq']) (fun j q hj hq => by
        have hj' : j < l.length := by simpa using hj
        obtain rfl : q = 0 := by omega
        have e1 : (l.map encStr).getD (j * 1 + 0) undef = mkStr (l.getD j []) := by
          simp [List.getD, hj', encStr, mkStr]
        have e2 : ((l.map ceS).getD j []).getD 0 .any = .str (l.getD j []) := by
          simp [List.getD, hj', ceS]
        rw [e1, e2]
        exact ⟨rfl, .str _ _⟩)
    rw [hlen] at this
    exact this

theorem AOps.sortedKeys {β : Type} {ev : β → Value} {m : List (List UInt8 × β)} {fK fS : FuncId} {kt : TypeId} (hSK : SortedKeys P fK fS kt) (hkt : P.underlying kt = some .string) {d1 d2 : Nat} {ty1 ty2 : TypeId} {pos1 pos2 : String} {aft1 aft2 : Array Edge} {x y z : Operand} {ats1 ats2 : Array TypeId} {rest : List Oper} {l : Bool} {r : Nat} {st' : St}
    (hx : st.ev x = .func (.func fK) []) (hkK : FnOk P fK) (hz : st.ev z = .func (.func fS) []) (hkS : FnOk P fS) (hzc : match z with | .tmp t => t ≠ d1 | _ => True) (hd1 : d1 < st.t.length) (hy : st.ev y = .mref l r) (hb : boxAt st l r = .obj (mapIs mkStr ev m))
    (hl : ∀ p ∈ m, p.1.length ≤ maxLen) (hm : m.length * 16 ≤ 140737488355328)
    (hst : afterCall (afterCall st (some d1) ⟨.any, [], [], []⟩) (some d2) ⟨.slice 1 ((sortK (m.map (·.1))).map ceS), [], [], [⟨.slot 0, kt, 1⟩]⟩ = st') (hrest : AOps P ops rest st' Q) :
    AOps P ops (⟨some d1, .call ⟨.value x, #[y], ats1⟩, ty1, pos1, aft1, none⟩ :: ⟨some d2, .call ⟨.value z, #[.tmp d1], ats2⟩, ty2, pos2, aft2, none⟩ :: rest) st Q := by
  obtain ⟨fn1, code1, hf1, hb1, hn1⟩ := hkK
  obtain ⟨fn2, code2, hf2, hb2, hn2⟩ := hkS
  intro w0 G0 a w G hE hr
  refine wpList_plain rfl fun K hK => ?_
  have hvx := hr.ev x
  rw [hx] at hvx
  obtain ⟨vs, hxv, hvs, -⟩ := hvx.func_inv
  have hvs0 : vs = #[] := by simpa using hvs
  have hvy := hr.ev y
  rw [hy] at hvy
  obtain ⟨b, he, hat⟩ := hvy.mref_inv
  have hbox := hr.box hat
  rw [hb] at hbox
  obtain ⟨o, ho, hmo⟩ := hbox
  have hml : m.length ≤ maxLen := by unfold maxLen; omega
  obtain ⟨D0, hown, hsz, hperm⟩ := owns_of_mapIs hkt ho hmo hl hml
  unfold Oper.wp
  rw [run_call rfl rfl hxv hf1 hb1 hn1]
  show Calls _ _ _ _ _
  have hargs : (#[y].map a.eval ++ vs) = #[.map (some b)] := by simp [hvs0, he]
  rw [hargs]
  refine (hSK w b m.length D0 _ hown (by rw [hsz]; exact hml) (by rw [hsz]; exact hm)).mono fun e w1 hp => ?_
  obtain ⟨v, rfl, hcall⟩ := hp
  refine hK _ _ ?_
  refine wpList_plain rfl fun K2 hK2 => ?_
  have hr1 := hr.put (v := v) (d := .any) (.any _ _) (some d1) (renDst (some d1)) (fun x hx l hl => renDst_ok hl)
  have hzv : ∃ vz : Array Value, (a.put (some d1) v).eval z = .func (.func fS) #[] vz ∧ vz = #[] := by
    have hvz := hr.ev z
    rw [hz] at hvz
    obtain ⟨vz, hzv, hvz', -⟩ := hvz.func_inv
    refine ⟨vz, ?_, by simpa using hvz'⟩
    cases z with
    | tmp t =>
      have : (a.put (some d1) v).tmps.getD t undef = a.tmps.getD t undef := by
        rw [put_getD, if_neg (fun h => hzc (by have := h.1; simpa using this.symm))]
      show (a.put (some d1) v).tmps.getD t undef = _
      rw [this]; exact hzv
    | const c => exact hzv
    | global g => exact hzv
    | func f => exact hzv
  obtain ⟨vz, hzv, rfl⟩ := hzv
  unfold Oper.wp
  rw [run_call rfl rfl hzv hf2 hb2 hn2]
  show Calls _ _ _ _ _
  have hargs2 : (#[Operand.tmp d1].map (a.put (some d1) v).eval ++ #[]) = #[v] := by
    have : (a.put (some d1) v).tmps.getD d1 undef = v := by rw [put_getD, if_pos ⟨rfl, by rw [hr.size]; exact hd1⟩]
    simp only [List.map_toArray, List.map_cons, List.map_nil, Act.eval, this]
    rfl
  rw [hargs2]
  refine hcall.mono fun e2 w2 hp2 => ?_
  obtain ⟨u, ss, rfl, hss, hrow, hbel⟩ := hp2
  refine hK2 _ _ ?_
  have hsort : ss.mergeSort (fun x y => decide (x ≤ y)) = sortK (m.map (·.1)) := mergeSort_of_perm (hss.trans hperm)
  have hslen : ss.length = (sortK (m.map (·.1))).length := by rw [← hsort, List.length_mergeSort]
  rw [hsort] at hrow
  have hs : Same w w2 := ⟨hbel.size, fun k hk => hbel.block k hk⟩
  let pr' : Nat → Nat → Prop := fun g o => G.pr g o ∨ (u.ownBlock = some g ∧ o < ss.length)
  have hG := hr1.grow hs pr' (fun b o h => .inl h) (fun b o hb h => by
      rcases h with h | ⟨h, -⟩
      · exact h
      · have := (hrow.lt b h).1; omega) (fun b o h => by
      rcases h with h | ⟨h, -⟩
      · exact Nat.lt_of_lt_of_le (hr.boxes.prok b o h).1 hbel.size
      · exact (hrow.lt b h).2)
  have hEn := hE.grow (G' := { G with pr := pr' }) hs hbel.os hbel.tape hbel.output rfl (fun b o h => .inl h) (fun b o hb h => by
      rcases h with h | ⟨h, -⟩
      · exact h
      · have := (hrow.lt b h).1; omega)
  refine hrest w0 G0 _ w2 _ hEn ?_
  rw [← hst]
  have hst1 : afterCall st (some d1) ⟨.any, [], [], []⟩ = { st with t := setO st.t (some d1) .any, own := st.own.filterMap (renOwn (renDst (some d1))) } := by
    simp [afterCall, hd1]
  rw [hst1]
  refine hG.result (r := ⟨.slice 1 ((sortK (m.map (·.1))).map ceS), [], [], [⟨.slot 0, kt, 1⟩]⟩) (some d2) hE.size (B' := w.heap.size) (fun b hb => ?_) ?_ (fun x hx => ?_) (List.pairwise_singleton _ _) (fun x u' hx hu g hgu => ?_)
  · rcases hb with hb | hb
    · exact hr.boxes.ltS hb
    · exact hr.boxes.ltL hb
  · exact V_owned hslen hrow (fun g hg o ho => .inr ⟨hg, ho⟩)
  · simp only [List.mem_singleton] at hx
    subst hx
    refine ⟨u, rfl, ss.length, _, hrow, fun g hg o ho hpr => ?_⟩
    rcases hpr with hpr | ⟨-, hlt⟩
    · have h1 := (hr.boxes.prok g o hpr).1
      have h2 := (hrow.lt g hg).1
      omega
    · simp only [Nat.mul_one] at ho; omega
  · have hx' := hr1.own x hx
    obtain ⟨u2, hu2, n, xs, ho', -⟩ := hx'
    have hval : valAt (a.put (some d1) v) w2 { G with pr := pr' } x.loc = valAt (a.put (some d1) v) w G x.loc := by
      cases hl : x.loc with
      | slot i => rfl
      | tup i j => rfl
      | cell r off =>
        simp only [valAt]
        cases hrl : G.iL[r]? with
        | none => rfl
        | some b => exact World.cell?_of_block (hs.2 b (hr.boxes.ltL (List.mem_of_getElem? hrl)))
    rw [hval, hu2] at hu
    cases hu
    exact (ho'.lt g hgu).2

end
end Go.AL
