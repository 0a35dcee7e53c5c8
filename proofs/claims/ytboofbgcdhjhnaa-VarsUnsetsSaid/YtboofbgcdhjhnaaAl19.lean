/-
  AL, part 19: the rules for regions that draw their order and hold calls or write memory.
-/
import Derived.Test.YtboofbgcdhjhnaaAl18
namespace Go.AL
set_option linter.unusedVariables false

section
variable {P : Program} {st : St} {Q : AExit → St → Prop}

def onlyN (Q : AExit → St → Prop) : AExit → St → Prop := fun x s => x = .normal ∧ Q .normal s

theorem CPost.onlyN {w0 : World} {G0 : Ghost} {e : Exit} {a : Act} {w : World} {R : St → Prop} (h : CPost w0 G0 (fun x s => x = .normal ∧ R s) e a w) : e = .normal := by
  obtain ⟨x, s, G, he, _, _, rfl, _⟩ := h
  cases e <;> first | rfl | exact he.elim

/-- The first i operations of the region have come up. -/
def ADraw (P : Program) (ops : Array Oper) (i : Nat) (st : St) (Q : AExit → St → Prop) : Prop :=
  ∀ w0 G0 a w G, Evol w0 G0 w G → Rel w0.heap.size st a w G → wpAny P .any ops (CPost w0 G0 (onlyN Q)) (ops.size - i) (pre ops.size i) a w

theorem AWp.draw {id : Nat} {l : List Oper} (hm : P.follows .mixedOrders = true) (h : ADraw P l.toArray 0 st Q) : AWp P (.region id l.toArray true) st Q := by
  intro w0 G0 a w G hE hr
  refine wp_mono (Q := CPost w0 G0 (onlyN Q)) (wp_region_any hm ?_) fun e a w hp => ?_
  · rw [pre_zero]
    have hs : Same w { w with drawn := w.drawn + 1 } := ⟨Nat.le_refl _, fun _ _ => rfl⟩
    exact h w0 G0 a _ { G with pr := G.pr } (hE.grow hs rfl rfl rfl rfl (fun _ _ h => h) (fun _ _ _ h => h))
      (hr.grow hs G.pr (fun _ _ h => h) (fun _ _ _ h => h) (fun b o hp => Nat.lt_of_lt_of_le (hr.boxes.prok b o hp).1 hs.1))
  · obtain ⟨x, s, G', he, hE', hr', rfl, hq⟩ := hp
    exact ⟨.normal, s, G', he, hE', hr', hq⟩

theorem AWp.seqD {id : Nat} {l : List Oper} {y : Code} (hm : P.follows .mixedOrders = true) (h : ADraw P l.toArray 0 st (thenQ P y Q)) : AWp P (.seq (.region id l.toArray true) y) st Q := AWp.seq (AWp.draw hm h)

theorem ADraw.done {l : List Oper} (i : Nat) (hi : i = l.length) (h : Q .normal st) : ADraw P l.toArray i st Q := by
  subst hi
  intro w0 G0 a w G hE hr
  have : l.toArray.size - l.length = 0 := by simp
  rw [this]
  refine ⟨?_, .normal, st, G, trivial, hE, hr, rfl, h⟩
  apply List.eq_nil_iff_forall_not_mem.2
  intro j hj
  obtain ⟨h1, o, ho, _⟩ := mem_ready.1 hj
  have hlt : j < l.length := by simpa using (Array.getElem?_eq_some_iff.1 ho).1
  rw [pre_get_lt hlt (by simpa using hlt)] at h1
  cases h1
theorem ADraw.doneY {l : List Oper} {y : Code} (i : Nat) (hi : i = l.length) (h : AWp P y st Q) : ADraw P l.toArray i st (thenQ P y Q) := ADraw.done i hi h

theorem seg_get {l : List Oper} {i m : Nat} (hm : i + m ≤ l.length) (k : Nat) (hk : k < ((l.drop i).take m).length) : l.toArray[i + k]? = ((l.drop i).take m)[k]? := by
  have hk' : k < m := by simp at hk; omega
  simp [hk', List.getElem?_drop]

/-- Operations that come up one by one. -/
theorem ADraw.seg {l : List Oper} (i m : Nat) (hf : forced l.toArray i m = true) (hm : Nat.ble (i + m) l.length = true)
    (h : AOps P l.toArray ((l.drop i).take m) st (fun x s => x = .normal ∧ ADraw P l.toArray (i + m) s Q)) : ADraw P l.toArray i st Q := by
  have hm := Nat.le_of_ble_eq_true hm
  intro w0 G0 a w G hE hr
  have hlen : ((l.drop i).take m).length = m := by simp; omega
  have key := wpAny_seg (Q' := CPost w0 G0 (onlyN Q)) ((l.drop i).take m) i (l.toArray.size - (i + m)) (seg_get hm) (by rw [hlen]; exact hf) a w (h w0 G0 a w G hE hr) (fun e a w hp => ?_)
  · rw [hlen] at key
    rwa [show m + (l.toArray.size - (i + m)) = l.toArray.size - i by simp; omega] at key
  · refine ⟨CPost.onlyN hp, ?_⟩
    obtain ⟨x, s, G', he, hE', hr', rfl, hd⟩ := hp
    rw [hlen]
    exact hd w0 G0 a w G' hE' hr'
theorem AOps.drawn {ops : Array Oper} {i : Nat} (h : ADraw P ops i st Q) : AOps P ops [] st (fun x s => x = .normal ∧ ADraw P ops i s Q) := AOps.nil ⟨rfl, h⟩

/-- An operation that reads no memory. -/
def noLoad (ops : Array Oper) (i : Nat) : Bool := match ops[i]? with
  | some o => !(isLoad o.op)
  | none => false
/-- Quiet operations that may be taken first, in their order. -/
def takes (ops : Array Oper) (hi : Nat) : Nat → Nat → Bool
  | _, 0 => true
  | i, m + 1 => (Region.free .any ops (pre ops.size i) i && (Region.ready .any ops (pre ops.size i)).contains i && (noLoad ops i || (List.range' hi (ops.size - hi)).all (fun j => waits ops ops.size j i))) && takes ops hi (i + 1) m
def backward (ops : Array Oper) : Bool := (List.range ops.size).all fun j => match ops[j]? with
  | some o => o.after.all fun e => !(Region.binds .any e) || Nat.blt e.on j
  | none => true

theorem closed_pre {ops : Array Oper} (h : backward ops = true) (i : Nat) : Closed ops (pre ops.size i) := by
  intro j o ho hj e he hb
  have hlt : j < ops.size := (Array.getElem?_eq_some_iff.1 ho).1
  have h1 := List.all_eq_true.1 h j (List.mem_range.2 hlt)
  simp only [ho] at h1
  have h2 := Array.all_eq_true_iff_forall_mem.1 h1 e he
  simp only [hb, Bool.not_true, Bool.false_or] at h2
  have h3 := blt_iff.1 h2
  have hji : j < i := by
    rcases Nat.lt_or_ge j i with h' | h'
    · exact h'
    · have := pre_get h' hlt
      rw [Array.getD_eq_getD_getElem?] at this hj
      cases hx : (pre ops.size i)[j]? with
      | none => rw [hx] at this; cases this
      | some b => rw [hx] at this hj; simp at this hj; rw [this] at hj; cases hj
  exact pre_get_lt (by omega) (by omega) false

theorem ADraw.quiet (ks : List Nat) {tg : List Nat} {H : Hints} {l : List Oper} (i m : Nat) {st' : St} {ob : Prop} (hs : (Region.noSelect l.toArray && backward l.toArray && takes l.toArray (i + m) i m) = true) (hm : Nat.ble (i + m) l.length = true)
    (h : (execQ P tg H l.toArray ((l.drop i).take m) st).map (keepSt ks) = some (st', ob)) (hob : ob) (hrest : ADraw P l.toArray (i + m) st' Q) : ADraw P l.toArray i st Q := by
  have hm := Nat.le_of_ble_eq_true hm
  simp only [Bool.and_eq_true] at hs
  obtain ⟨⟨hns, hbk⟩, htk⟩ := hs
  obtain ⟨⟨s1, o1⟩, h1, h2⟩ := Option.map_eq_some_iff.1 h
  simp only [keepSt, Prod.mk.injEq] at h2
  obtain ⟨hst, rfl⟩ := h2
  intro w0 G0 a w G hE hr
  refine wpAny_of_S (S := fun w' => Same w w') (lo := i) (hi := i + m) _ _ _ _ ?_
  have hQp : ∀ c a w, ¬ CPost w0 G0 (onlyN Q) (.panic c) a w := fun c a w hp => by have := CPost.onlyN hp; cases this
  have hlen : ((l.drop i).take m).length = m := by simp; omega
  have key : ∀ (seg : List Oper) (q : Nat) (st : St) (a : Act) (ob : Prop), (∀ k, k < seg.length → l.toArray[q + k]? = seg[k]?) → q + seg.length = i + m → i ≤ q → takes l.toArray (i + m) q seg.length = true →
      Rel w0.heap.size st a w G → execQ P tg H l.toArray seg st = some (s1, ob) → ob → wpAnyS P l.toArray (CPost w0 G0 (onlyN Q)) (fun w' => Same w w') i (i + m) (l.toArray.size - q) (pre l.toArray.size q) a w := by
    intro seg
    induction seg with
    | nil =>
      intro q st a ob hsg hq hiq _ hr h hob
      cases h
      have hq : q = i + m := by simpa using hq
      subst hq
      refine S_of_wpAny _ _ _ _ (fun k h1 h2 => pre_get_lt h2 (by simp; omega) true) ?_
      refine hrest w0 G0 a w G hE ?_
      have hk := hr.keep ks True
      rw [← hst]
      exact hk
    | cons o seg ih =>
      intro q st a ob hsg hq hiq ht hr h hob
      simp only [List.length_cons] at hq ht
      simp only [takes, Bool.and_eq_true] at ht
      obtain ⟨⟨⟨hfr, hrd⟩, hwt⟩, ht'⟩ := ht
      have hoq : l.toArray[q]? = some o := by simpa using hsg 0 (by simp)
      have hsg' : ∀ k, k < seg.length → l.toArray[(q + 1) + k]? = seg[k]? := fun k hk => by
        have := hsg (k + 1) (by simpa using hk)
        rw [show q + 1 + k = q + (k + 1) by omega]
        simpa using this
      rw [show l.toArray.size - q = (l.toArray.size - (q + 1)) + 1 by simp; omega]
      have first : ∀ v, YieldsIf P l.toArray (fun w' => SameL o w w') o v a → wpAnyS P l.toArray (CPost w0 G0 (onlyN Q)) (fun w' => Same w w') i (i + m) (l.toArray.size - (q + 1)) (pre l.toArray.size (q + 1)) (a.put o.dst v) w →
          wpAnyS P l.toArray (CPost w0 G0 (onlyN Q)) (fun w' => Same w w') i (i + m) ((l.toArray.size - (q + 1)) + 1) (pre l.toArray.size q) a w := fun v hy hh => by
        simp only [Bool.or_eq_true] at hwt
        rcases hwt with hnl | hwt
        · have hnl' : isLoad o.op = false := by
            unfold noLoad at hnl
            rw [hoq] at hnl
            simpa using hnl
          refine wpAnyS_free (v := v) hoq (Region.noSelect_spec hns) (fun c a w hp => (hQp _ _ _ hp).elim) _ _ a w (Region.free_spec hoq hfr) (by simpa using hrd) ?_ ?_
          · rcases hy with ⟨h1, h2⟩ | hy
            · exact .inl ⟨h1, fun w' _ => h2 w' (fun hl => by rw [hnl'] at hl; cases hl)⟩
            · exact .inr hy
          · rw [pre_succ]; exact hh
        refine wpAnyS_first (v := v) hoq (Region.noSelect_spec hns) (fun c a w hp => (hQp _ _ _ hp).elim) (fun j h1 h2 => ?_) _ _ a w (closed_pre hbk q) (fun k h1 h2 => pre_get_lt (by omega) h2 true) (Region.free_spec hoq hfr) (by simpa using hrd) ?_ (Same.refl w) ?_
        rotate_left
        · rcases hy with ⟨h1, h2⟩ | hy
          · exact .inl ⟨h1, fun w' hs => h2 w' (fun _ => hs)⟩
          · exact .inr hy
        rotate_left
        · exact List.all_eq_true.1 hwt j (by rw [List.mem_range'_1]; omega)
        · rw [pre_succ]; exact hh
      simp only [execQ] at h
      cases hg : o.guard with
      | none =>
        rw [hg] at h
        simp only at h
        split at h <;> try (cases h; done)
        rename_i st1 ob1 h1
        split at h <;> try (cases h; done)
        rename_i st2 ob2 h2
        cases h
        obtain ⟨⟨sx, obx⟩, hx, hxe⟩ := Option.map_eq_some_iff.1 h1
        have hh := hinted_eq (H := H) (dst := o.dst) (x := (sx, obx)) (by rw [hxe]; exact hob.1)
        rw [hxe] at hh
        obtain ⟨hobx, rfl⟩ := hh
        unfold pureExec at hx
        split at hx <;> try (cases hx; done)
        rename_i d ob' he
        cases hx
        obtain ⟨v, hv, hrun⟩ := evalOp_sound hr he hobx
        have hr' := hr.put hv o.dst _ (fun x hx l hl => renOf_ok hr.size tg (hrun w (SameL.refl _ w)) hl)
        exact first v (.inl ⟨by simp [Region.wanted, hg], hrun⟩) (ih (q + 1) _ _ _ hsg' (by omega) (by omega) ht' hr' h2 hob.2)
      | some jw =>
        obtain ⟨j, want⟩ := jw
        rw [hg] at h
        simp only at h
        split at h <;> try (cases h; done)
        rename_i st1 ob1 h1
        split at h <;> try (cases h; done)
        rename_i st2 ob2 h2
        cases h
        rcases execG_sound (P := P) (ops := l.toArray) hr hg h1 hob.1 with ⟨hw, v, hrun, hr'⟩ | ⟨hw, hr'⟩
        · exact first v (.inl ⟨hw, hrun⟩) (ih (q + 1) _ _ _ hsg' (by omega) (by omega) ht' hr' h2 hob.2)
        · exact first undef (.inr ⟨hw, rfl⟩) (ih (q + 1) _ _ _ hsg' (by omega) (by omega) ht' hr' h2 hob.2)
  exact key _ i st a _ (seg_get hm) (by rw [hlen]) (Nat.le_refl _) (by rw [hlen]; exact htk) hr h1 hob

end
end Go.AL
