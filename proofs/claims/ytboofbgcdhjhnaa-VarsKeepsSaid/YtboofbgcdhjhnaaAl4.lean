/-
  AL, part 4: soundness of the evaluation of operations that leave memory alone.
-/
import Derived.Test.YtboofbgcdhjhnaaAl3
namespace Go.AL
set_option linter.unusedVariables false

section
variable {P : Program} {B : Nat} {st : St} {a : Act} {w : World} {G : Ghost} {o : Oper}

/-- The operation gives a value that reads as d, in this world and in every later one that keeps its blocks, and leaves the world alone. -/
def isLoad : Op → Bool
  | .load _ _ => true
  | _ => false
/-- What an operation needs of another world to yield the same there: nothing, unless it reads memory. -/
def SameL (o : Oper) (w w' : World) : Prop := isLoad o.op = true → Same w w'
theorem SameL.refl (o : Oper) (w : World) : SameL o w w := fun _ => Same.refl w
def Gives (P : Program) (a : Act) (w : World) (G : Ghost) (o : Oper) (d : DV) : Prop :=
  ∃ v, V w G.pr G.at v d ∧ ∀ w', SameL o w w' → (execOp a.eval o).run P w' = .ok (.value v) w'

theorem gives_ev (hr : Rel B st a w G) (x : Operand) (ho : o.op = .move x ∨ o.op = .assign x) : Gives P a w G o (st.ev x) :=
  ⟨a.eval x, hr.ev x, fun w' _ => by rcases ho with ho | ho <;> simp [execOp, ho]⟩

theorem gives_v {f : (Operand → Value) → Sem Value} {d : DV} (he : execOp a.eval o = (do let x ← f a.eval; pure (.value x)))
    (h : ∃ v, V w G.pr G.at v d ∧ ∀ w', SameL o w w' → (f a.eval).run P w' = .ok v w') : Gives P a w G o d := by
  obtain ⟨v, hv, h⟩ := h
  exact ⟨v, hv, fun w' hs => by simp [he, h w' hs]⟩

theorem gives_load (hr : Rel B st a w G) {t : TypeId} {x : Operand} {i : TI} (ho : o.op = .load t x) (ht : tinfo P t = some i) (hx : stripOb (st.ev x))
    {cs : List DV} {off : Nat} (hd : strip (st.ev x) = .cptr cs off) (hp : partOb i.isAgg i.size cs off) : Gives P a w G o (partD i.isAgg i.size cs off) := by
  have hv := hr.arg x hx
  rw [hd] at hv
  obtain ⟨b, o', c, he, h0, h1, h⟩ := hv.cptr_inv
  refine gives_v (f := fun ρ => Instr.loadAt t (ρ x)) (by simp [execOp, ho]) ⟨_, V_part (n := cs.length) (c := c) rfl h1 (fun l hl => (h l hl).any_places _) hp, fun w' hs => ?_⟩
  rw [he]
  exact run_load_part ht b o' cs.length c (fun l hl => (h0 l hl).2) off (by simpa [partOb] using hp) w' (hs (by rw [ho]; rfl))

theorem gives_load_box (hr : Rel B st a w G) {t : TypeId} {x : Operand} {i : TI} (ho : o.op = .load t x) (ht : tinfo P t = some i) (hx : stripOb (st.ev x))
    {l : Bool} {r off : Nat} (hd : strip (st.ev x) = .ptr l r off) {t' : TypeId} {cs : List DV} (hb : boxAt st l r = .cells t' cs) (hp : partOb i.isAgg i.size cs off) :
    Gives P a w G o (partD i.isAgg i.size cs off) := by
  have hv := hr.arg x hx
  rw [hd] at hv
  obtain ⟨b, he, hat⟩ := hv.ptr_inv
  have hbox := hr.box hat
  rw [hb] at hbox
  obtain ⟨vs, hh, hs, h1, h⟩ := hbox
  refine gives_v (f := fun ρ => Instr.loadAt t (ρ x)) (by simp [execOp, ho]) ⟨_, V_part (n := cs.length) (c := fun l => vs.getD l undef) rfl h1 h hp, fun w' hs' => ?_⟩
  rw [he]
  have := run_load_part ht b 0 cs.length (fun l => vs.getD l undef) (fun l hl => by
    rw [cell_of_row w b (0 + l) vs t' (0, 0) hh]
    simp [Array.getD, hs, hl]) off (by simpa [partOb] using hp) w' (hs' (by rw [ho]; rfl))
  simpa using this

theorem gives_index (hr : Rel B st a w G) {t : TypeId} {x ix : Operand} {i : TI} {e : TypeId} {j1 j2 : Nat} {z : Value} (ho : o.op = .indexAddr t x ix)
    (ht : tinfo P t = some ⟨.slice e, j1, j2, z⟩) (hi : tinfo P e = some i) (hx : stripOb (st.ev x)) (hix : stripOb (st.ev ix))
    {k : Nat} {es : List (List DV)} {kd : IntKind} {n : Int} (hd : strip (st.ev x) = .slice k es) (hdi : strip (st.ev ix) = .int kd n) (h0 : 0 ≤ n) (hn : n < es.length) (hk : i.size = k) :
    Gives P a w G o (.cptr (es.getD n.toNat []) 0) := by
  have hv := hr.arg x hx
  rw [hd] at hv
  have hvi := hr.arg ix hix
  rw [hdi] at hvi
  have hie := hvi.int_inv
  rcases hv.slice_inv with ⟨-, -, rfl⟩ | ⟨b, off, cap, c, he, hcap, hkk, hc, h1, h⟩
  · simp at hn; omega
  have hnl : n.toNat < es.length := by omega
  obtain ⟨xe, hxe, hue, hsz, -⟩ := tinfo_some hi
  obtain ⟨xt, hxt, hut, -⟩ := tinfo_some ht
  refine gives_v (f := fun ρ => Instr.indexAt t (ρ x) (ρ ix)) (by simp [execOp, ho]) ⟨.pointer (some ⟨b, off + n.toNat * k + 0, none⟩), ?_, fun w' hs => ?_⟩
  · refine .cptr _ b (off + n.toNat * k) 0 _ (c n.toNat) (fun l hl => ?_) (fun l hl => ?_) (fun l hl => ?_)
    · exact hc _ _ hnl (by rw [← hkk _ hnl]; exact hl)
    · exact h1 _ _ hnl (by rw [← hkk _ hnl]; exact hl)
    · exact h _ _ hnl (by rw [← hkk _ hnl]; exact hl)
  · rw [he, hie]
    unfold Instr.indexAt asIntOf
    simp only [Sem.run_bind, Sem.run_pure, Result.andThen_ok, run_underlying' hut]
    have h3 : (0 ≤ n ∧ n < ((es.length : Nat) : Int)) := ⟨h0, hn⟩
    simp only [h3, and_self, if_true, Sem.run_bind, run_sizeOf' hxe, Result.andThen_ok, Sem.run_pure, add_lit, hsz, hk]
    rfl

theorem gives_index_arr (hr : Rel B st a w G) {t : TypeId} {x ix : Operand} {i : TI} {e : TypeId} {len j1 j2 : Nat} {z : Value} (ho : o.op = .indexAddr t x ix)
    (ht : tinfo P t = some ⟨.array len e, j1, j2, z⟩) (hi : tinfo P e = some i) (hx : stripOb (st.ev x)) (hix : stripOb (st.ev ix))
    {l : Bool} {r off : Nat} {kd : IntKind} {n : Int} (hd : strip (st.ev x) = .ptr l r off) (hdi : strip (st.ev ix) = .int kd n) (h0 : 0 ≤ n) (hn : n < len) :
    Gives P a w G o (.ptr l r (off + n.toNat * i.size)) := by
  have hv := hr.arg x hx
  rw [hd] at hv
  have hvi := hr.arg ix hix
  rw [hdi] at hvi
  have hie := hvi.int_inv
  obtain ⟨b, he, hat⟩ := hv.ptr_inv
  obtain ⟨xe, hxe, hue, hsz, -⟩ := tinfo_some hi
  obtain ⟨xt, hxt, hut, -⟩ := tinfo_some ht
  refine gives_v (f := fun ρ => Instr.indexAt t (ρ x) (ρ ix)) (by simp [execOp, ho]) ⟨_, .ptr _ l r (off + n.toNat * i.size) b hat, fun w' hs => ?_⟩
  rw [he, hie]
  unfold Instr.indexAt asIntOf Instr.sureAddr
  simp only [Sem.run_bind, Sem.run_pure, Result.andThen_ok, run_underlying' hut]
  have h3 : (0 ≤ n ∧ n < ((len : Nat) : Int)) := ⟨h0, hn⟩
  simp only [h3, and_self, if_true, Sem.run_bind, run_sizeOf' hxe, Result.andThen_ok, Sem.run_pure, add_lit, hsz]
theorem gives_index_carr (hr : Rel B st a w G) {t : TypeId} {x ix : Operand} {i : TI} {e : TypeId} {len j1 j2 : Nat} {z : Value} (ho : o.op = .indexAddr t x ix)
    (ht : tinfo P t = some ⟨.array len e, j1, j2, z⟩) (hi : tinfo P e = some i) (hx : stripOb (st.ev x)) (hix : stripOb (st.ev ix))
    {cs : List DV} {off : Nat} {kd : IntKind} {n : Int} (hd : strip (st.ev x) = .cptr cs off) (hdi : strip (st.ev ix) = .int kd n) (h0 : 0 ≤ n) (hn : n < len) :
    Gives P a w G o (.cptr cs (off + n.toNat * i.size)) := by
  have hv := hr.arg x hx
  rw [hd] at hv
  have hvi := hr.arg ix hix
  rw [hdi] at hvi
  have hie := hvi.int_inv
  obtain ⟨b, o', c, he, q0, q1, q2⟩ := hv.cptr_inv
  obtain ⟨xe, hxe, hue, hsz, -⟩ := tinfo_some hi
  obtain ⟨xt, hxt, hut, -⟩ := tinfo_some ht
  refine gives_v (f := fun ρ => Instr.indexAt t (ρ x) (ρ ix)) (by simp [execOp, ho]) ⟨_, .cptr _ b o' (off + n.toNat * i.size) cs c q0 q1 q2, fun w' hs => ?_⟩
  rw [he, hie]
  unfold Instr.indexAt asIntOf Instr.sureAddr
  simp only [Sem.run_bind, Sem.run_pure, Result.andThen_ok, run_underlying' hut]
  have h3 : (0 ≤ n ∧ n < ((len : Nat) : Int)) := ⟨h0, hn⟩
  simp only [h3, and_self, if_true, Sem.run_bind, run_sizeOf' hxe, Result.andThen_ok, Sem.run_pure, add_lit, hsz, Nat.add_assoc]

theorem gives_str_index (hr : Rel B st a w G) {t : TypeId} {x ix : Operand} {j1 j2 : Nat} {z : Value} (ho : o.op = .index t x ix)
    (ht : tinfo P t = some ⟨.string, j1, j2, z⟩) (hx : stripOb (st.ev x)) (hix : stripOb (st.ev ix))
    {l : List UInt8} {kd : IntKind} {n : Int} (hd : strip (st.ev x) = .str l) (hdi : strip (st.ev ix) = .int kd n) (h0 : 0 ≤ n) (hn : n < l.length) :
    Gives P a w G o (.int .u8 (l.getD n.toNat 0).toNat) := by
  have hv := hr.arg x hx
  rw [hd] at hv
  have hvi := hr.arg ix hix
  rw [hdi] at hvi
  obtain ⟨xt, hxt, hut, -⟩ := tinfo_some ht
  have hnl : n.toNat < l.length := by omega
  refine gives_v (f := fun ρ => Instr.index t (ρ x) (ρ ix)) (by simp [execOp, ho]) ⟨_, .int _ _ _, fun w' hs => ?_⟩
  rw [hv.str_inv, hvi.int_inv]
  unfold Instr.index asIntOf mkStr
  simp only [Sem.run_bind, Sem.run_pure, Result.andThen_ok, run_underlying' hut, h0, if_true]
  have : (ByteArray.mk ⟨l⟩)[n.toNat]? = some (l.getD n.toNat 0) := by
    have hsz : n.toNat < (ByteArray.mk ⟨l⟩).size := hnl
    rw [getElem?_pos (ByteArray.mk ⟨l⟩) n.toNat hsz]
    simp [List.getD, List.getElem?_eq_getElem hnl]
    rfl
  rw [this]
  rfl

theorem gives_field_cptr (hr : Rel B st a w G) {s : TypeId} {x : Operand} {f : Nat} {fs : Array Field} {j1 j2 : Nat} {z : Value} {fd : Field} (ho : o.op = .fieldAddr s x f)
    (ht : tinfo P s = some ⟨.struct fs, j1, j2, z⟩) (hf : fs[f]? = some fd) {i : TI} (hi : tinfo P fd.type = some i) (hz : i.size ≠ 0) (hx : stripOb (st.ev x)) {cs : List DV} {off : Nat} (hd : strip (st.ev x) = .cptr cs off) :
    Gives P a w G o (.cptr cs (off + fd.offset)) := by
  have hv := hr.arg x hx
  rw [hd] at hv
  obtain ⟨b, o', c, he, h0, h1, h⟩ := hv.cptr_inv
  obtain ⟨xt, hxt, hut, -⟩ := tinfo_some ht
  obtain ⟨xf, hxf, -, hsf, -⟩ := tinfo_some hi
  refine gives_v (f := fun ρ => Instr.fieldAt s (ρ x) f) (by simp [execOp, ho]) ⟨_, .cptr _ b o' (off + fd.offset) cs c h0 h1 h, fun w' hs => ?_⟩
  rw [he]
  unfold Instr.fieldAt Instr.sureAddr
  simp only [Sem.run_bind, Sem.run_pure, Result.andThen_ok, run_underlying' hut, hf]
  simp [fieldPlace, run_sizeOf' hxf, hsf, hz, add_lit, Nat.add_assoc]

theorem gives_field_ptr (hr : Rel B st a w G) {s : TypeId} {x : Operand} {f : Nat} {fs : Array Field} {j1 j2 : Nat} {z : Value} {fd : Field} (ho : o.op = .fieldAddr s x f)
    (ht : tinfo P s = some ⟨.struct fs, j1, j2, z⟩) (hf : fs[f]? = some fd) {i : TI} (hi : tinfo P fd.type = some i) (hz : i.size ≠ 0) (hx : stripOb (st.ev x)) {l : Bool} {r off : Nat} (hd : strip (st.ev x) = .ptr l r off) :
    Gives P a w G o (.ptr l r (off + fd.offset)) := by
  have hv := hr.arg x hx
  rw [hd] at hv
  obtain ⟨b, he, hat⟩ := hv.ptr_inv
  obtain ⟨xt, hxt, hut, -⟩ := tinfo_some ht
  obtain ⟨xf, hxf, -, hsf, -⟩ := tinfo_some hi
  refine gives_v (f := fun ρ => Instr.fieldAt s (ρ x) f) (by simp [execOp, ho]) ⟨_, .ptr _ l r (off + fd.offset) b hat, fun w' hs => ?_⟩
  rw [he]
  unfold Instr.fieldAt Instr.sureAddr
  simp only [Sem.run_bind, Sem.run_pure, Result.andThen_ok, run_underlying' hut, hf]
  simp [fieldPlace, run_sizeOf' hxf, hsf, hz, add_lit]

theorem run_eqCell {t : TypeId} {i : TI} (hi : tinfo P t = some i) {pr : Nat → Nat → Prop} {pl : Places} {u v : Value} {x y : DV} (hu : V w pr pl u x) (hv : V w pr pl v y) {b : Bool} (h : eqCell i.kind x y = some b) (d : Nat) (w' : World) :
    (Op.equalIn (d + 1) t u v).run P w' = .ok b w' := by
  obtain ⟨xt, hxt, hut, -⟩ := tinfo_some hi
  unfold eqCell at h
  split at h <;> try (cases h; done)
  · rename_i a c hk
    cases h
    rw [hu.bool_inv, hv.bool_inv]
    exact run_equalIn_bool' w' d t a c (by rw [hut, hk])
  · rename_i k' k a k2 c hk
    split at h <;> try (cases h; done)
    rename_i hkk
    cases h
    subst hkk
    rw [hu.int_inv, hv.int_inv]
    exact run_equalIn_int w' d t k k' a c (by rw [hut, hk])
  · rename_i a c hk
    cases h
    rw [hu.str_inv, hv.str_inv]
    have := run_equalIn_string (P := P) w' d t ⟨⟨a⟩⟩ ⟨⟨c⟩⟩ (by rw [hut, hk])
    rw [ba_toList, ba_toList] at this
    exact this

theorem run_eqFs {pr : Nat → Nat → Prop} {pl : Places} {us vs : Array Value} {xs ys : List DV} (hsu : us.size = xs.length) (hsv : vs.size = ys.length) (hu : ∀ j, j < xs.length → V w pr pl (us.getD j undef) (xs.getD j .any))
    (hv : ∀ j, j < ys.length → V w pr pl (vs.getD j undef) (ys.getD j .any)) (d : Nat) (w' : World) : ∀ {fs : List Field} {b : Bool}, eqFs P xs ys fs = some b → (Op.eqFields (d + 1) us vs fs).run P w' = .ok b w'
  | [], b, h => by cases h; rfl
  | f :: fs, b, h => by
    simp only [eqFs] at h
    split at h <;> try (cases h; done)
    rename_i hname
    split at h <;> try (cases h; done)
    rename_i i hi
    split at h <;> try (cases h; done)
    rename_i hag
    split at h <;> try (cases h; done)
    rename_i b1 r hb1 hr
    cases h
    have hlx : f.offset < xs.length := by
      rcases Nat.lt_or_ge f.offset xs.length with h | h
      · exact h
      · simp [List.getD, List.getElem?_eq_none h] at hb1
        unfold eqCell at hb1; split at hb1 <;> simp_all
    have hly : f.offset < ys.length := by
      rcases Nat.lt_or_ge f.offset ys.length with h | h
      · exact h
      · simp [List.getD, List.getElem?_eq_none h] at hb1
        unfold eqCell at hb1; split at hb1 <;> simp_all
    have hpu : (part f.type us f.offset).run P w' = .ok (us.getD f.offset undef) w' := by
      unfold part
      simp only [Sem.run_bind, run_isAgg' hi, Result.andThen_ok]
      rw [if_neg hag]
      simp [Array.getD, hsu, hlx]
    have hpv : (part f.type vs f.offset).run P w' = .ok (vs.getD f.offset undef) w' := by
      unfold part
      simp only [Sem.run_bind, run_isAgg' hi, Result.andThen_ok]
      rw [if_neg hag]
      simp [Array.getD, hsv, hly]
    have hc := run_eqCell (P := P) hi (hu _ hlx) (hv _ hly) hb1 d w'
    have ih := run_eqFs hsu hsv hu hv d w' hr
    simp only [Op.eqFields, hname, ne_eq, not_false_eq_true, if_true, Sem.run_bind, hpu, hpv, hc, Result.andThen_ok]
    cases b1
    · simp
    · simp [ih]

theorem gives_eq (hr : Rel B st a w G) {op : BinOp} {t : TypeId} {x y : Operand} {ty : TypeId} (ho : o.op = .binOp op t x y ty) (hx : stripOb (st.ev x)) (hy : stripOb (st.ev y)) {d : DV}
    (h : eqD P op t (strip (st.ev x)) (strip (st.ev y)) = some d) (hc : eqChk P t (strip (st.ev x)) = true) : Gives P a w G o d := by
  have hvx := hr.arg x hx
  have hvy := hr.arg y hy
  generalize strip (st.ev x) = dx at *
  generalize strip (st.ev y) = dy at *
  have key : ∀ b, eqV P t dx dy = some b → ∀ w', (eqGuard op t x y (a.eval x) (a.eval y)).run P w' = .ok () w' ∧
      (op = .eql → (binOp op t (a.eval x) (a.eval y)).run P w' = .ok (.bool b) w') ∧ (op = .neq → (binOp op t (a.eval x) (a.eval y)).run P w' = .ok (.bool (!b)) w') := by
    intro b hb w'
    unfold eqV at hb
    split at hb <;> try (cases hb; done)
    · rename_i p q j1 j2 z ht
      cases hb
      obtain ⟨xt, hxt, hut, -⟩ := tinfo_some ht
      rw [hvx.bool_inv, hvy.bool_inv]
      have he : ∀ d w', (Op.equalIn (d + 1) t (.bool p) (.bool q)).run P w' = .ok (p == q) w' := fun d w' => run_equalIn_bool' w' d t p q hut
      refine ⟨by cases op <;> rfl, fun e => ?_, fun e => ?_⟩
      · subst e
        have := he 9999 w'
        simp only [binOp, Op.equal, Op.maxDepth, Sem.run_bind, this, Result.andThen_ok, Sem.run_pure]
      · subst e
        have := he 9999 w'
        simp only [binOp, Op.equal, Op.maxDepth, Sem.run_bind, this, Result.andThen_ok, Sem.run_pure]
    · rename_i xs ys fs j1 j2 z ht
      obtain ⟨xt, hxt, hut, -⟩ := tinfo_some ht
      obtain ⟨us, he1, hs1, -, hv1⟩ := hvx.agg_inv
      obtain ⟨vs, he2, hs2, -, hv2⟩ := hvy.agg_inv
      simp only [eqChk, Bool.and_eq_true, Bool.not_eq_true'] at hc
      have hfo : P.fieldsOf t = fs := by simp [Program.fieldsOf, hut]
      rw [he1, he2]
      have heq : (Op.equalIn 10000 t (.agg us) (.agg vs)).run P w' = .ok b w' := by
        rw [run_equalIn_struct w' 9999 t us vs (by rw [hfo]; exact hut) hc.1, hfo]
        exact run_eqFs hs1 hs2 hv1 hv2 9998 w' hb
      refine ⟨run_eqGuard_agg w' op t x y us vs hc.2, fun e => ?_, fun e => ?_⟩
      · subst e; rw [run_eql_struct, heq]; rfl
      · subst e; rw [run_neq_struct, heq]; rfl
  unfold eqD at h
  split at h <;> try (cases h; done)
  · rename_i b hb
    cases h
    refine gives_v (f := fun ρ => do eqGuard .eql t x y (ρ x) (ρ y); binOp .eql t (ρ x) (ρ y)) (by simp [execOp, ho]) ⟨_, .bool _ b, fun w' _ => ?_⟩
    obtain ⟨k1, k2, -⟩ := key b hb w'
    simp only [Sem.run_bind, k1, Result.andThen_ok, k2 rfl]
  · rename_i b hb
    cases h
    refine gives_v (f := fun ρ => do eqGuard .neq t x y (ρ x) (ρ y); binOp .neq t (ρ x) (ρ y)) (by simp [execOp, ho]) ⟨_, .bool _ (!b), fun w' _ => ?_⟩
    obtain ⟨k1, -, k2⟩ := key b hb w'
    simp only [Sem.run_bind, k1, Result.andThen_ok, k2 rfl]

theorem gives_field (hr : Rel B st a w G) {s : TypeId} {x : Operand} {f : Nat} {fs : Array Field} {j1 j2 : Nat} {z : Value} {fd : Field} {i : TI} (ho : o.op = .field s x f)
    (ht : tinfo P s = some ⟨.struct fs, j1, j2, z⟩) (hf : fs[f]? = some fd) (hi : tinfo P fd.type = some i) (hx : stripOb (st.ev x)) {cs : List DV} (hd : strip (st.ev x) = .agg cs)
    (hp : partOb i.isAgg i.size cs fd.offset) : Gives P a w G o (partD i.isAgg i.size cs fd.offset) := by
  have hv := hr.arg x hx
  rw [hd] at hv
  obtain ⟨vs, he, hs, h1, h⟩ := hv.agg_inv
  obtain ⟨xt, hxt, hut, -⟩ := tinfo_some ht
  obtain ⟨xf, hxf, huf, hsz, -⟩ := tinfo_some hi
  refine gives_v (f := fun ρ => Instr.field s (ρ x) f) (by simp [execOp, ho]) ⟨_, V_part (n := cs.length) (c := fun l => vs.getD l undef) rfl h1 h hp, fun w' hs' => ?_⟩
  rw [he]
  unfold Instr.field asAgg
  simp only [Sem.run_bind, Sem.run_pure, Result.andThen_ok, run_underlying' hut, hf, part, run_isAgg' hi]
  cases hag : i.isAgg
  · simp only [partOb, hag, cond_false] at hp
    simp [Array.getD, hs, hp]
  · simp only [partOb, hag, cond_true] at hp
    simp only [cond_true, if_true, Sem.run_bind, run_sizeOf' hxf, Result.andThen_ok, hsz, Sem.run_pure, Result.ok.injEq, Value.agg.injEq, and_true]
    apply Array.ext
    · simp; omega
    · intro j h2 h3
      simp at h2 h3
      simp [Array.getD, hs, show fd.offset + j < cs.length by omega]

theorem gives_extract (hr : Rel B st a w G) {x : Operand} {j : Nat} (ho : o.op = .extract x j) (hx : stripOb (st.ev x)) {ds : List DV} (hd : strip (st.ev x) = .tuple ds) (hj : j < ds.length) :
    Gives P a w G o (ds.getD j .any) := by
  have hv := hr.arg x hx
  rw [hd] at hv
  obtain ⟨vs, he, hs, h⟩ := hv.tuple_inv
  refine gives_v (f := fun ρ => Instr.extract (ρ x) j) (by simp [execOp, ho]) ⟨_, h j hj, fun w' hs' => ?_⟩
  rw [he]
  simp [Instr.extract, Array.getD, hs, hj]

theorem gives_len_str (hr : Rel B st a w G) {x : Operand} {c : Call} {t : TypeId} {j1 j2 : Nat} {z : Value} (ho : o.op = .call c) (hc : c.callee = .builtin .len) (ha : c.args.toList = [x]) (hat : c.argTypes.toList = [t])
    (ht : tinfo P t = some ⟨.string, j1, j2, z⟩) (hx : stripOb (st.ev x)) {l : List UInt8} (hd : strip (st.ev x) = .str l) : Gives P a w G o (.int .i64 l.length) := by
  have hv := hr.arg x hx
  rw [hd] at hv
  obtain ⟨xt, hxt, hut, -⟩ := tinfo_some ht
  have ha' : c.args = #[x] := by rw [← Array.toArray_toList (xs := c.args), ha]
  have hat' : c.argTypes = #[t] := by rw [← Array.toArray_toList (xs := c.argTypes), hat]
  refine ⟨_, .int _ _ _, fun w' hs => ?_⟩
  unfold execOp
  simp only [ho, resolve, hc, Sem.run_bind, Sem.run_pure, Result.andThen_ok, invoke, builtin, ha', hat', List.map_toArray, List.map_cons, List.map_nil]
  rw [hv.str_inv]
  simp only [Builtin.len_, Sem.run_bind, mkStr, List.getElem?_toArray, List.getElem?_cons_zero, run_underlying' hut, Result.andThen_ok, Sem.run_pure, goInt]
  rfl

theorem gives_len_slice (hr : Rel B st a w G) {x : Operand} {c : Call} {t e : TypeId} {j1 j2 : Nat} {z : Value} (ho : o.op = .call c) (hc : c.callee = .builtin .len) (ha : c.args.toList = [x]) (hat : c.argTypes.toList = [t])
    (ht : tinfo P t = some ⟨.slice e, j1, j2, z⟩) (hx : stripOb (st.ev x)) {n : Nat} (hd : (∃ k es, strip (st.ev x) = .slice k es ∧ n = es.length) ∨ (strip (st.ev x) = .val (.slice none 0 0) ∧ n = 0)) :
    Gives P a w G o (.int .i64 n) := by
  have hv := hr.arg x hx
  obtain ⟨xt, hxt, hut, -⟩ := tinfo_some ht
  have ha' : c.args = #[x] := by rw [← Array.toArray_toList (xs := c.args), ha]
  have hat' : c.argTypes = #[t] := by rw [← Array.toArray_toList (xs := c.argTypes), hat]
  have hval : ∃ ad cap, a.eval x = .slice ad n cap := by
    rcases hd with ⟨k, es, hd, rfl⟩ | ⟨hd, rfl⟩
    · rw [hd] at hv
      rcases hv.slice_inv with ⟨ad, he, rfl⟩ | ⟨b, off, cap, c, he, -⟩
      · exact ⟨_, _, he⟩
      · exact ⟨_, _, he⟩
    · rw [hd] at hv
      exact ⟨_, _, hv.val_inv⟩
  obtain ⟨ad, cap, he⟩ := hval
  refine ⟨_, .int _ _ _, fun w' hs => ?_⟩
  unfold execOp
  simp only [ho, resolve, hc, Sem.run_bind, Sem.run_pure, Result.andThen_ok, invoke, builtin, ha', hat', List.map_toArray, List.map_cons, List.map_nil]
  rw [he]
  simp only [Builtin.len_, Sem.run_bind, List.getElem?_toArray, List.getElem?_cons_zero, run_underlying' hut, Result.andThen_ok, Sem.run_pure, goInt]

theorem mkStr_extract (l : List UInt8) (x y : Nat) : (ByteArray.mk ⟨l⟩).extract x y = ByteArray.mk ⟨(l.take y).drop x⟩ := by
  apply ByteArray.ext
  rw [ByteArray.data_extract]
  apply Array.ext'
  simp [List.drop_take]

theorem run_bound {k : IntKind} {n : Int} {y : Nat} {code : BoundsCode} (h0 : 0 ≤ n) (h1 : n ≤ y) (w' : World) : (Instr.sliceBound (.int k n) y code).run P w' = .ok n.toNat w' := by
  unfold Instr.sliceBound asIntOf
  simp [h0, h1]

/-- The bounds of a slice expression without a third index. -/
theorem run_bounds {isS : Bool} {len cap : Nat} (hlc : len ≤ cap) {lo hi : Option Value} {x y : Int}
    (hlo : (lo = none ∧ x = 0) ∨ ∃ k, lo = some (.int k x)) (hhi : (hi = none ∧ y = len) ∨ ∃ k, hi = some (.int k y)) (h0 : 0 ≤ x) (h1 : x ≤ y) (h2 : y ≤ len) (w' : World) :
    (Instr.sliceBounds isS len cap lo hi none).run P w' = .ok (x.toNat, y.toNat, cap) w' := by
  unfold Instr.sliceBounds
  have hy : ∀ (k : IntKind) (code : BoundsCode), (Instr.sliceBound (.int k y) cap code).run P w' = .ok y.toNat w' := fun k code => run_bound (by omega) (by omega) w'
  have hx : ∀ (k : IntKind) (code : BoundsCode), (Instr.sliceBound (.int k x) y.toNat code).run P w' = .ok x.toNat w' := fun k code => run_bound h0 (by omega) w'
  rcases hlo with ⟨rfl, rfl⟩ | ⟨k, rfl⟩ <;> rcases hhi with ⟨rfl, rfl⟩ | ⟨k', rfl⟩
  · simp
  · simp [hy]
  · have hx' : ∀ (code : BoundsCode), (Instr.sliceBound (.int k x) len code).run P w' = .ok x.toNat w' := fun code => by simpa using hx k code
    simp [hx']
  · simp [hy, hx]

theorem bound_inv (hr : Rel B st a w G) {lo : Option Operand} {d x : Int} (hob : ∀ y, lo = some y → stripOb (st.ev y)) (hb : boundD d (lo.map fun y => strip (st.ev y)) = some x) :
    (lo.map a.eval = none ∧ x = d) ∨ ∃ k, lo.map a.eval = some (.int k x) := by
  cases lo with
  | none => simp [boundD] at hb; exact .inl ⟨rfl, hb.symm⟩
  | some y =>
    have hv := hr.arg y (hob y rfl)
    simp only [Option.map_some] at hb ⊢
    cases hd : strip (st.ev y) with
    | int k n =>
      rw [hd] at hb hv
      simp [boundD] at hb
      subst hb
      exact .inr ⟨k, by rw [hv.int_inv]⟩
    | _ => rw [hd] at hb; simp [boundD] at hb

theorem gives_slice_str (hr : Rel B st a w G) {t : TypeId} {x : Operand} {lo hi : Option Operand} {j1 j2 : Nat} {z : Value} (ho : o.op = .slice t x lo hi none)
    (ht : tinfo P t = some ⟨.string, j1, j2, z⟩) (hx : stripOb (st.ev x)) (hlo : ∀ y, lo = some y → stripOb (st.ev y)) (hhi : ∀ y, hi = some y → stripOb (st.ev y))
    {l : List UInt8} (hd : strip (st.ev x) = .str l) {p q : Int} (hp : boundD 0 (lo.map fun y => strip (st.ev y)) = some p) (hq : boundD l.length (hi.map fun y => strip (st.ev y)) = some q)
    (h0 : 0 ≤ p) (h1 : p ≤ q) (h2 : q ≤ l.length) : Gives P a w G o (.str ((l.take q.toNat).drop p.toNat)) := by
  have hv := hr.arg x hx
  rw [hd] at hv
  obtain ⟨xt, hxt, hut, -⟩ := tinfo_some ht
  refine gives_v (f := fun ρ => Instr.sliceAt t (ρ x) (lo.map ρ) (hi.map ρ) none) (by simp [execOp, ho]) ⟨_, .str _ _, fun w' hs => ?_⟩
  have hbs := run_bounds (P := P) (isS := false) (Nat.le_refl l.length) (bound_inv hr hlo hp) (bound_inv hr hhi hq) h0 h1 h2 w'
  rw [hv.str_inv]
  unfold Instr.sliceAt
  simp only [Sem.run_bind, run_underlying' hut, Result.andThen_ok]
  unfold Instr.slice mkStr
  have hsz : (ByteArray.mk ⟨l⟩).size = l.length := rfl
  simp only [Sem.run_bind, run_underlying' hut, Result.andThen_ok, Option.isSome_none, Bool.false_eq_true, if_false, hsz, Sem.run_pure, hbs, mkStr_extract]

theorem gives_slice_slice (hr : Rel B st a w G) {t e : TypeId} {i : TI} {x : Operand} {lo hi : Option Operand} {j1 j2 : Nat} {z : Value} (ho : o.op = .slice t x lo hi none)
    (ht : tinfo P t = some ⟨.slice e, j1, j2, z⟩) (hi' : tinfo P e = some i) (hx : stripOb (st.ev x)) (hlo : ∀ y, lo = some y → stripOb (st.ev y)) (hhi : ∀ y, hi = some y → stripOb (st.ev y))
    {k : Nat} {es : List (List DV)} (hd : strip (st.ev x) = .slice k es) {p q : Int} (hp : boundD 0 (lo.map fun y => strip (st.ev y)) = some p) (hq : boundD es.length (hi.map fun y => strip (st.ev y)) = some q)
    (h0 : 0 ≤ p) (h1 : p ≤ q) (h2 : q ≤ es.length) (hk : i.size = k) : Gives P a w G o (.slice k ((es.take q.toNat).drop p.toNat)) := by
  have hv := hr.arg x hx
  rw [hd] at hv
  obtain ⟨xt, hxt, hut, -⟩ := tinfo_some ht
  obtain ⟨xe, hxe, hue, hsz, -⟩ := tinfo_some hi'
  have hex : ∃ (ad : Option Addr) (cap : Nat), a.eval x = .slice ad es.length cap ∧ es.length ≤ cap ∧
      V w G.pr G.at (.slice (if cap = p.toNat then ad else ad.map (·.add (p.toNat * k))) (q.toNat - p.toNat) (cap - p.toNat)) (.slice k ((es.take q.toNat).drop p.toNat)) := by
    have hlen : ((es.take q.toNat).drop p.toNat).length = q.toNat - p.toNat := by simp; omega
    rcases hv.slice_inv with ⟨ad0, he, rfl⟩ | ⟨b, off, cap, c, he, hcap, hkk, hc, h1', h⟩
    · simp at h2
      have hp0 : p = 0 := by omega
      have hq0 : q = 0 := by omega
      subst hp0; subst hq0
      exact ⟨ad0, 0, he, Nat.le_refl _, .nils _ _ _⟩
    · refine ⟨_, _, he, hcap, ?_⟩
      have hgd : ∀ j, j < q.toNat - p.toNat → ((es.take q.toNat).drop p.toNat).getD j [] = es.getD (p.toNat + j) [] := by
        intro j hj
        simp [List.getD, show p.toNat + j < q.toNat by omega]
      rw [← hlen]
      by_cases hcp : cap = p.toNat
      · have hz : ((es.take q.toNat).drop p.toNat) = [] := by
          apply List.eq_nil_of_length_eq_zero; rw [hlen]; omega
        rw [hz, if_pos hcp]
        exact .slice _ b off (cap - p.toNat) k [] c (Nat.zero_le _) (fun j hj => by simp at hj) (fun j l hj => by simp at hj) (fun j l hj => by simp at hj) (fun j l hj => by simp at hj)
      · rw [if_neg hcp]
        simp only [Option.map_some, add_lit]
        refine .slice _ b (off + p.toNat * k) (cap - p.toNat) k _ (fun j l => c (p.toNat + j) l) (by rw [hlen]; omega) (fun j hj => ?_) (fun j l hj hl => ?_) (fun j l hj hl => ?_) (fun j l hj hl => ?_)
        all_goals rw [hlen] at hj
        · rw [hgd j hj]; exact hkk _ (by omega)
        · have := hc (p.toNat + j) l (by omega) hl
          rw [Nat.add_mul, ← Nat.add_assoc] at this
          exact this
        · exact h1' _ _ (by omega) hl
        · rw [hgd j hj]; exact h _ _ (by omega) hl
  obtain ⟨ad, cap, he, hcap, hV⟩ := hex
  refine gives_v (f := fun ρ => Instr.sliceAt t (ρ x) (lo.map ρ) (hi.map ρ) none) (by simp [execOp, ho]) ⟨_, hV, fun w' hs => ?_⟩
  have hbs := run_bounds (P := P) (isS := true) hcap (bound_inv hr hlo hp) (bound_inv hr hhi hq) h0 h1 h2 w'
  rw [he]
  unfold Instr.sliceAt
  simp only [Sem.run_bind, run_underlying' hut, Result.andThen_ok]
  unfold Instr.slice
  simp only [Sem.run_bind, run_underlying' hut, Result.andThen_ok, hbs, run_sizeOf' hxe, hsz, hk, Sem.run_pure]

end
end Go.AL
