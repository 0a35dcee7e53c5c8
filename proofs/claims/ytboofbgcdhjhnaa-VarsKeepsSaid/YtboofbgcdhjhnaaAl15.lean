/-
  AL, part 15: calls that see boxes (closures, pointers); the iterator over a string.
-/
import Derived.Test.YtboofbgcdhjhnaaAl14
namespace Go.AL
set_option linter.unusedVariables false

mutual
/-- How a callee sees a value: the caller's n outer boxes and, behind them, its local ones. -/
def up (n : Nat) : DV → DV
  | .ptr true r off => .ptr false (n + r) off
  | .mref true r => .mref false (n + r)
  | .func fn cs => .func fn (upL n cs)
  | .agg cs => .agg (upL n cs)
  | .tuple cs => .tuple (upL n cs)
  | .iface t d => .iface t (up n d)
  | .whn b d => .whn b (up n d)
  | d => d
def upL (n : Nat) : List DV → List DV
  | [] => []
  | d :: ds => up n d :: upL n ds
end

def Box.up (n : Nat) : Box → Box
  | .cells t cs => .cells t (upL n cs)
  | b => b

theorem upL_length (n : Nat) : ∀ ds : List DV, (upL n ds).length = ds.length
  | [] => by simp [upL]
  | d :: ds => by simp [upL, upL_length n ds]
theorem upL_getD (n : Nat) : ∀ (ds : List DV) (j : Nat), (upL n ds).getD j .any = up n (ds.getD j .any)
  | [], j => by simp [upL, List.getD, up]
  | d :: ds, 0 => by simp [upL]
  | d :: ds, j + 1 => by simpa [upL] using upL_getD n ds j

section
variable {P : Program} {ops : Array Oper} {st : St} {Q : AExit → St → Prop}

/-- The callee's view of the boxes. -/
def Ghost.all (G : Ghost) : Ghost := { iL := [], iS := G.iS ++ G.iL, pr := G.pr }

theorem V.up' {w : World} {pr : Nat → Nat → Prop} {i : Places} {v : Value} {d : DV} (h : V w pr i v d) : ∀ (G : Ghost), i = G.at → V w pr G.all.outer v (up G.iS.length d) := by
  induction h with
  | any i v => intro G hi; simp only [up]; exact .any _ _
  | int i k n => intro G hi; simp only [up]; exact .int _ _ _
  | bool i b => intro G hi; simp only [up]; exact .bool _ _
  | str i l => intro G hi; simp only [up]; exact .str _ _
  | val i v => intro G hi; simp only [up]; exact .val _ _
  | agg i vs ds hs h1 h ih =>
    intro G hi; simp only [up]
    exact .agg _ _ _ (by rw [upL_length]; exact hs) (fun j hj => h1 j (by rw [upL_length] at hj; exact hj)) (fun j hj => by rw [upL_getD]; rw [upL_length] at hj; exact ih j hj G hi)
  | nils i a k => intro G hi; simp only [up]; exact .nils _ _ _
  | slice i b off cap k es c hcap hk h0 h1 h _ => intro G hi; simp only [up]; exact .slice _ b off cap k es c hcap hk h0 h1 h
  | iface i t v d h ih => intro G hi; simp only [up]; exact .iface _ _ _ _ (ih G hi)
  | cptr i b o off cs c h0 h1 h _ => intro G hi; simp only [up]; exact .cptr _ b o off cs c h0 h1 h
  | ptr i l r off b h =>
    intro G hi
    subst hi
    cases l with
    | true =>
      simp only [up]
      refine .ptr _ _ _ _ b ?_
      show (G.iS ++ G.iL)[G.iS.length + r]? = some b
      rw [List.getElem?_append_right (Nat.le_add_right _ _), Nat.add_sub_cancel_left]
      exact h
    | false =>
      simp only [up]
      refine .ptr _ _ _ _ b ?_
      have h' : G.iS[r]? = some b := h
      show (G.iS ++ G.iL)[r]? = some b
      rw [List.getElem?_append_left (List.getElem?_eq_some_iff.1 h').1]
      exact h'
  | func i fn vs ds hs h ih =>
    intro G hi; simp only [up]
    exact .func _ _ _ _ (by rw [upL_length]; exact hs) (fun j hj => by rw [upL_getD]; rw [upL_length] at hj; exact ih j hj G hi)
  | tuple i vs ds hs h ih =>
    intro G hi; simp only [up]
    exact .tuple _ _ _ (by rw [upL_length]; exact hs) (fun j hj => by rw [upL_getD]; rw [upL_length] at hj; exact ih j hj G hi)
  | whn i v b d h h0 ih => intro G hi; simp only [up]; exact .whn _ _ _ _ (fun hb => ih hb G hi) h0
  | mref i l r b h =>
    intro G hi
    subst hi
    cases l with
    | true =>
      simp only [up]
      refine .mref _ _ _ b ?_
      show (G.iS ++ G.iL)[G.iS.length + r]? = some b
      rw [List.getElem?_append_right (Nat.le_add_right _ _), Nat.add_sub_cancel_left]
      exact h
    | false =>
      simp only [up]
      refine .mref _ _ _ b ?_
      have h' : G.iS[r]? = some b := h
      show (G.iS ++ G.iL)[r]? = some b
      rw [List.getElem?_append_left (List.getElem?_eq_some_iff.1 h').1]
      exact h'

/-- Back: what the callee left reads for the caller as it did. -/
theorem V.down {w w' : World} {pr pr' : Nat → Nat → Prop} {i : Places} {v : Value} {d : DV} (h : V w pr i v d) : ∀ (G : Ghost) (v' : Value), i = G.at → V w' pr' G.all.outer v' (up G.iS.length d) → V w' pr' G.at v' d := by
  induction h with
  | any i v => intro G v' hi h'; exact .any _ _
  | int i k n => intro G v' hi h'; simp only [up] at h'; rw [h'.int_inv]; exact .int _ _ _
  | bool i b => intro G v' hi h'; simp only [up] at h'; rw [h'.bool_inv]; exact .bool _ _
  | str i l => intro G v' hi h'; simp only [up] at h'; rw [h'.str_inv]; exact .str _ _
  | val i v => intro G v' hi h'; simp only [up] at h'; rw [h'.val_inv]; exact .val _ _
  | agg i vs ds hs h1 h ih =>
    intro G v' hi h'; simp only [up] at h'
    obtain ⟨us, rfl, q1, q2, q3⟩ := h'.agg_inv
    rw [upL_length] at q1 q2 q3
    exact .agg _ _ _ q1 q2 (fun j hj => ih j hj G _ hi (by have := q3 j hj; rwa [upL_getD] at this))
  | nils i a k => intro G v' hi h'; simp only [up] at h'; exact (h'.noref rfl).any_places _
  | slice i b off cap k es c hcap hk h0 h1 h _ => intro G v' hi h'; simp only [up] at h'; exact (h'.noref rfl).any_places _
  | iface i t v d h ih =>
    intro G v' hi h'; simp only [up] at h'
    obtain ⟨u, rfl, hu⟩ := h'.iface_inv
    exact .iface _ _ _ _ (ih G u hi hu)
  | cptr i b o off cs c h0 h1 h _ => intro G v' hi h'; simp only [up] at h'; exact (h'.noref rfl).any_places _
  | ptr i l r off b h =>
    intro G v' hi h'
    subst hi
    cases l with
    | true =>
      simp only [up] at h'
      obtain ⟨b', rfl, hb'⟩ := h'.ptr_inv
      refine .ptr _ _ _ _ b' ?_
      have hb2 : (G.iS ++ G.iL)[G.iS.length + r]? = some b' := hb'
      rw [List.getElem?_append_right (Nat.le_add_right _ _), Nat.add_sub_cancel_left] at hb2
      exact hb2
    | false =>
      simp only [up] at h'
      obtain ⟨b', rfl, hb'⟩ := h'.ptr_inv
      have h2 : G.iS[r]? = some b := h
      refine .ptr _ _ _ _ b' ?_
      have hb2 : (G.iS ++ G.iL)[r]? = some b' := hb'
      rw [List.getElem?_append_left (List.getElem?_eq_some_iff.1 h2).1] at hb2
      exact hb2
  | mref i l r b h =>
    intro G v' hi h'
    subst hi
    cases l with
    | true =>
      simp only [up] at h'
      obtain ⟨b', rfl, hb'⟩ := h'.mref_inv
      refine .mref _ _ _ b' ?_
      have hb2 : (G.iS ++ G.iL)[G.iS.length + r]? = some b' := hb'
      rw [List.getElem?_append_right (Nat.le_add_right _ _), Nat.add_sub_cancel_left] at hb2
      exact hb2
    | false =>
      simp only [up] at h'
      obtain ⟨b', rfl, hb'⟩ := h'.mref_inv
      have h2 : G.iS[r]? = some b := h
      refine .mref _ _ _ b' ?_
      have hb2 : (G.iS ++ G.iL)[r]? = some b' := hb'
      rw [List.getElem?_append_left (List.getElem?_eq_some_iff.1 h2).1] at hb2
      exact hb2
  | func i fn vs ds hs h ih =>
    intro G v' hi h'; simp only [up] at h'
    obtain ⟨us, rfl, q1, q3⟩ := h'.func_inv
    rw [upL_length] at q1 q3
    exact .func _ _ _ _ q1 (fun j hj => ih j hj G _ hi (by have := q3 j hj; rwa [upL_getD] at this))
  | tuple i vs ds hs h ih =>
    intro G v' hi h'; simp only [up] at h'
    obtain ⟨us, rfl, q1, q3⟩ := h'.tuple_inv
    rw [upL_length] at q1 q3
    exact .tuple _ _ _ q1 (fun j hj => ih j hj G _ hi (by have := q3 j hj; rwa [upL_getD] at this))
  | whn i v b d h h0 ih =>
    intro G v' hi h'; simp only [up] at h'
    cases h' with
    | whn _ _ _ _ h1 h2 => exact .whn _ _ _ _ (fun hb => ih hb G v' hi (h1 hb)) h2

/-- The same for what stands in outer boxes. -/
theorem V.downS {w w' : World} {pr pr' : Nat → Nat → Prop} {i : Places} {v : Value} {d : DV} (h : V w pr i v d) : ∀ (G : Ghost) (v' : Value), i = G.outer → V w' pr' G.all.outer v' d → V w' pr' G.outer v' d := by
  induction h with
  | any i v => intro G v' hi h'; exact .any _ _
  | int i k n => intro G v' hi h'; exact (h'.noref rfl).any_places _
  | bool i b => intro G v' hi h'; exact (h'.noref rfl).any_places _
  | str i l => intro G v' hi h'; exact (h'.noref rfl).any_places _
  | val i v => intro G v' hi h'; exact (h'.noref rfl).any_places _
  | agg i vs ds hs h1 h ih =>
    intro G v' hi h'
    obtain ⟨us, rfl, q1, q2, q3⟩ := h'.agg_inv
    exact .agg _ _ _ q1 q2 (fun j hj => ih j hj G _ hi (q3 j hj))
  | nils i a k => intro G v' hi h'; exact (h'.noref rfl).any_places _
  | slice i b off cap k es c hcap hk h0 h1 h _ => intro G v' hi h'; exact (h'.noref rfl).any_places _
  | iface i t v d h ih =>
    intro G v' hi h'
    obtain ⟨u, rfl, hu⟩ := h'.iface_inv
    exact .iface _ _ _ _ (ih G u hi hu)
  | cptr i b o off cs c h0 h1 h _ => intro G v' hi h'; exact (h'.noref rfl).any_places _
  | ptr i l r off b h =>
    intro G v' hi h'
    subst hi
    cases l with
    | true => cases h
    | false =>
      obtain ⟨b', rfl, hb'⟩ := h'.ptr_inv
      have h2 : G.iS[r]? = some b := h
      refine .ptr _ _ _ _ b' ?_
      have hb2 : (G.iS ++ G.iL)[r]? = some b' := hb'
      rw [List.getElem?_append_left (List.getElem?_eq_some_iff.1 h2).1] at hb2
      exact hb2
  | mref i l r b h =>
    intro G v' hi h'
    subst hi
    cases l with
    | true => cases h
    | false =>
      obtain ⟨b', rfl, hb'⟩ := h'.mref_inv
      have h2 : G.iS[r]? = some b := h
      refine .mref _ _ _ b' ?_
      have hb2 : (G.iS ++ G.iL)[r]? = some b' := hb'
      rw [List.getElem?_append_left (List.getElem?_eq_some_iff.1 h2).1] at hb2
      exact hb2
  | func i fn vs ds hs h ih =>
    intro G v' hi h'
    obtain ⟨us, rfl, q1, q3⟩ := h'.func_inv
    exact .func _ _ _ _ q1 (fun j hj => ih j hj G _ hi (q3 j hj))
  | tuple i vs ds hs h ih =>
    intro G v' hi h'
    obtain ⟨us, rfl, q1, q3⟩ := h'.tuple_inv
    exact .tuple _ _ _ q1 (fun j hj => ih j hj G _ hi (q3 j hj))
  | whn i v b d h h0 ih =>
    intro G v' hi h'
    cases h' with
    | whn _ _ _ _ h1 h2 => exact .whn _ _ _ _ (fun hb => ih hb G v' hi (h1 hb)) h2

/-- A box after a call: as it was, or plain data. -/
def boxStep (x y : Box) : Prop := y = x ∨ (∃ t cs, y = .cells t cs ∧ cs.all noref1 = true) ∨ ∃ p, y = .obj p
def stepL : List Box → List Box → Prop
  | [], [] => True
  | x :: xs, y :: ys => boxStep x y ∧ stepL xs ys
  | _, _ => False
theorem stepL_len : ∀ {l m : List Box}, stepL l m → m.length = l.length
  | [], [], _ => rfl
  | _ :: _, _ :: _, h => by simp [stepL_len h.2]
  | [], _ :: _, h => h.elim
  | _ :: _, [], h => h.elim
theorem stepL_get : ∀ {l m : List Box}, stepL l m → ∀ (r : Nat) y, m[r]? = some y → ∃ x, l[r]? = some x ∧ boxStep x y
  | [], [], _, r, y, h => by simp at h
  | x :: _, _ :: _, h, 0, y, hy => by simp at hy; subst hy; exact ⟨x, by simp, h.1⟩
  | _ :: _, _ :: _, h, r + 1, y, hy => by simp at hy; obtain ⟨x, hx, hb⟩ := stepL_get h.2 r y hy; exact ⟨x, by simpa using hx, hb⟩
  | [], _ :: _, h, _, _, _ => h.elim
  | _ :: _, [], h, _, _, _ => h.elim
theorem stepL_refl : ∀ l : List Box, stepL l l
  | [] => trivial
  | _ :: l => ⟨.inl rfl, stepL_refl l⟩

theorem up_noref (n : Nat) : ∀ d : DV, noref1 d = true → up n d = d
  | .iface t d, h => by simp only [up]; rw [up_noref n d h]
  | .func fn [], _ => by simp [up, upL]
  | .func fn (_ :: _), h => by simp [noref1] at h
  | .ptr l r off, h => by simp [noref1] at h
  | .mref l r, h => by simp [noref1] at h
  | .agg cs, h => by simp [noref1] at h
  | .tuple cs, h => by simp [noref1] at h
  | .whn b d, h => by simp [noref1] at h
  | .any, h => by simp [noref1] at h
  | .int k m, _ => by simp [up]
  | .bool b, _ => by simp [up]
  | .str l, _ => by simp [up]
  | .val v, _ => by simp [up]
  | .slice k es, _ => by simp [up]
  | .cptr cs off, _ => by simp [up]
theorem upL_noref (n : Nat) : ∀ cs : List DV, cs.all noref1 = true → upL n cs = cs
  | [], _ => by simp [upL]
  | d :: ds, h => by
    simp only [List.all_cons, Bool.and_eq_true] at h
    simp [upL, up_noref n d h.1, upL_noref n ds h.2]

theorem BoxOk.up {w : World} {G : Ghost} {b : Nat} {x : Box} (h : BoxOk w G.pr G.at b x) : BoxOk w G.pr G.all.outer b (x.up G.iS.length) := by
  cases x with
  | cells t cs =>
    obtain ⟨vs, q1, q2, q3, q4⟩ := h
    refine ⟨vs, q1, by rw [upL_length]; exact q2, fun j hj => q3 j (by rw [upL_length] at hj; exact hj), fun j hj => ?_⟩
    rw [upL_getD]; rw [upL_length] at hj; exact (q4 j hj).up' G rfl
  | iter s pos => exact h
  | obj p => exact h
theorem BoxOk.down {w w' : World} {pr' : Nat → Nat → Prop} {G : Ghost} {b : Nat} {x y : Box} (h : BoxOk w G.pr G.at b x) (hs : boxStep x y) (h' : BoxOk w' pr' G.all.outer b (y.up G.iS.length)) : BoxOk w' pr' G.at b y := by
  rcases hs with rfl | ⟨t, cs, rfl, hall⟩ | ⟨p, rfl⟩
  · cases y with
    | cells t cs =>
      obtain ⟨vs, q1, q2, q3, q4⟩ := h
      obtain ⟨us, p1, p2, p3, p4⟩ := h'
      rw [upL_length] at p2 p3 p4
      exact ⟨us, p1, p2, p3, fun j hj => (q4 j hj).down G _ rfl (by have := p4 j hj; rwa [upL_getD] at this)⟩
    | iter s pos => exact h'
    | obj p => exact h'
  · obtain ⟨us, p1, p2, p3, p4⟩ := h'
    rw [upL_noref _ _ hall] at p2 p3 p4
    exact ⟨us, p1, p2, p3, fun j hj => ((p4 j hj).noref (List.all_eq_true.1 hall _ (by simp [List.getD, hj]))).any_places _⟩
  · exact h'
theorem BoxOk.downS {w w' : World} {pr' : Nat → Nat → Prop} {G : Ghost} {b : Nat} {x y : Box} (h : BoxOk w G.pr G.outer b x) (hs : boxStep x y) (h' : BoxOk w' pr' G.all.outer b y) : BoxOk w' pr' G.outer b y := by
  rcases hs with rfl | ⟨t, cs, rfl, hall⟩ | ⟨p, rfl⟩
  · cases y with
    | cells t cs =>
      obtain ⟨vs, q1, q2, q3, q4⟩ := h
      obtain ⟨us, p1, p2, p3, p4⟩ := h'
      exact ⟨us, p1, p2, p3, fun j hj => (q4 j hj).downS G _ rfl (p4 j hj)⟩
    | iter s pos => exact h'
    | obj p => exact h'
  · obtain ⟨us, p1, p2, p3, p4⟩ := h'
    exact ⟨us, p1, p2, p3, fun j hj => ((p4 j hj).noref (List.all_eq_true.1 hall _ (by simp [List.getD, hj]))).any_places _⟩
  · exact h'

def notCell (x : Own) : Bool := match x.loc with | .cell _ _ => false | _ => true

/-- A call that sees the boxes. -/
theorem AOps.ccall {dst : Option Nat} {ty : TypeId} {pos : String} {aft : Array Edge} {x : Operand} {f : FuncId} {args : List Operand} {ats : Array TypeId} {rest : List Oper} {caps ds : List DV} {d : DV} {ow : List Own} {S1 L1 : List Box} {st' : St}
    (hx : st.ev x = .func (.func f) caps) (hk : FnOk P f) (hds : (args.map (fun y => strip (st.ev y)) ++ caps).map (up st.S.length) = ds) (hob : allOb st args) (hfl : flatD d = true)
    (h : ACalls P f ds (st.S ++ st.L.map (Box.up st.S.length)) (fun r => r = ⟨d, S1 ++ L1.map (Box.up st.S.length), [], ow⟩)) (hS : stepL st.S S1) (hL : stepL st.L L1)
    (hst : ({ afterCall { st with own := st.own.filter notCell } dst ⟨d, [], [], ow⟩ with S := S1, L := L1 } : St) = st') (hrest : AOps P ops rest st' Q) :
    AOps P ops (⟨dst, .call ⟨.value x, args.toArray, ats⟩, ty, pos, aft, none⟩ :: rest) st Q := by
  obtain ⟨fn, code, hf, hb, hn⟩ := hk
  intro w0 G0 a w G hE hr
  refine wpList_plain rfl fun K hK => ?_
  have hvx := hr.ev x
  rw [hx] at hvx
  obtain ⟨vs, hxv, hvs, hvc⟩ := hvx.func_inv
  unfold Oper.wp
  rw [run_call rfl rfl hxv hf hb hn]
  show Calls _ _ _ _ _
  have hn' : G.iS.length = st.S.length := hr.boxes.lenS
  have hsz : (args.toArray.map a.eval ++ vs).size = ds.length := by rw [← hds]; simp [hvs]
  have hboxes : Boxes w G.all (st.S ++ st.L.map (Box.up st.S.length)) [] := by
    refine ⟨by simp [Ghost.all, hr.boxes.lenS, hr.boxes.lenL], rfl, fun r b y hb hy => ?_, fun r b y hb => by simp [Ghost.all] at hb, by simpa [Ghost.all] using hr.boxes.nodup, fun b o hp => ?_⟩
    · have hb' : (G.iS ++ G.iL)[r]? = some b := hb
      by_cases hlt : r < G.iS.length
      · rw [List.getElem?_append_left hlt] at hb'
        rw [hn'] at hlt
        rw [List.getElem?_append_left hlt] at hy
        refine (hr.boxes.boxS r b y hb' hy).mono rfl (fun _ _ h => h) (fun _ _ _ _ h => h) (fun l r b hb => ?_)
        cases l with
        | true => cases hb
        | false =>
          have hb2 : G.iS[r]? = some b := hb
          show (G.iS ++ G.iL)[r]? = some b
          rw [List.getElem?_append_left (List.getElem?_eq_some_iff.1 hb2).1]; exact hb2
      · have hge : G.iS.length ≤ r := Nat.le_of_not_lt hlt
        rw [List.getElem?_append_right hge] at hb'
        rw [List.getElem?_append_right (by omega), ← hn', List.getElem?_map] at hy
        obtain ⟨y0, hy0, rfl⟩ := Option.map_eq_some_iff.1 hy
        exact (hr.boxes.boxL _ b y0 hb' hy0).up
    · obtain ⟨p1, p2, p3⟩ := hr.boxes.prok b o hp
      exact ⟨p1, fun hm => (List.mem_append.1 hm).elim p2 p3, by simp [Ghost.all]⟩
  have hcall := h w G.all (args.toArray.map a.eval ++ vs) rfl hboxes hsz (fun j hj => by
    rw [← hds] at hj ⊢
    have hj' : j < args.length + caps.length := by simpa using hj
    have hat : ∀ v d, V w G.pr G.outer v d → V w G.all.pr G.all.at v d := fun v d hv => hv.mono (fun _ _ h => h) (fun _ _ _ _ h => h) _ (fun l r b hb => by
      cases l with
      | true => cases hb
      | false =>
        have hb2 : G.iS[r]? = some b := hb
        show (G.iS ++ G.iL)[r]? = some b
        rw [List.getElem?_append_left (List.getElem?_eq_some_iff.1 hb2).1]; exact hb2)
    have hup : ∀ v d, V w G.pr G.at v d → V w G.all.pr G.all.at v (up st.S.length d) := fun v d hv => by
      have := hv.up' G rfl
      rw [hn'] at this
      exact this.mono (fun _ _ h => h) (fun _ _ _ _ h => h) _ (fun l r b hb => by
        cases l with
        | true => cases hb
        | false => exact hb)
    by_cases hlt : j < args.length
    · have e1 : (args.toArray.map a.eval ++ vs).getD j undef = a.eval args[j] := by simp [Array.getD, hlt, show j < args.length + vs.size by omega]
      have e2 : ((args.map (fun y => strip (st.ev y)) ++ caps).map (up st.S.length)).getD j .any = up st.S.length (strip (st.ev args[j])) := by
        simp only [List.getD, List.map_append]
        rw [List.getElem?_append_left (by simpa using hlt)]
        simp [hlt]
      rw [e1, e2]
      exact hup _ _ (hr.arg args[j] (allOb_mem hob _ (List.getElem_mem hlt)))
    · have hjc : j - args.length < caps.length := by omega
      have e1 : (args.toArray.map a.eval ++ vs).getD j undef = vs.getD (j - args.length) undef := by
        simp only [Array.getD_eq_getD_getElem?]
        rw [Array.getElem?_append_right (by simpa using Nat.le_of_not_lt hlt)]
        simp
      have e2 : ((args.map (fun y => strip (st.ev y)) ++ caps).map (up st.S.length)).getD j .any = up st.S.length (caps.getD (j - args.length) .any) := by
        simp only [List.getD, List.map_append]
        rw [List.getElem?_append_right (by simpa using Nat.le_of_not_lt hlt)]
        simp [hjc]
      rw [e1, e2]
      exact hup _ _ (hvc _ hjc))
  refine hcall.mono fun e w' hp => ?_
  obtain ⟨v, r, G', rfl, hE', hR, hRr⟩ := hp
  subst hRr
  refine hK _ _ (hrest w0 G0 _ w' { G with pr := G'.pr } ?_ ?_)
  · refine ⟨hE'.os.trans hE.os, hE'.tape.trans hE.tape, hE'.output.trans hE.output, Nat.le_trans hE.size hE'.size, fun b hb hnb => ?_, hE.iS, fun b o hp => hE'.pr b o (hE.pr b o hp), fun b o hb hp => hE.prold b o hb (hE'.prold b o (Nat.lt_of_lt_of_le hb hE.size) hp)⟩
    rw [hE'.old b (Nat.lt_of_lt_of_le hb hE.size) (fun hm => ?_)]
    · exact hE.old b hb hnb
    · rcases List.mem_append.1 hm with hm | hm
      · exact hnb (by rw [← hE.iS]; exact hm)
      · have := hr.newL b hm; omega
  · have hiS : G'.iS = G.iS ++ G.iL := hE'.iS
    have hiL : G'.iL = [] := by have := hR.boxes.lenL; simpa using this
    have hkeep : ∀ b, b < w.heap.size → b ∉ G.iS → b ∉ G.iL → w'.heap[b]? = w.heap[b]? := fun b hb h1 h2 => hE'.old b hb (fun hm => (List.mem_append.1 hm).elim h1 h2)
    have hc : ∀ b o u, G.pr b o → w.cell? ⟨b, o, none⟩ = some u → w'.cell? ⟨b, o, none⟩ = some u := by
      intro b o u hp hu
      obtain ⟨p1, p2, p3⟩ := hr.boxes.prok b o hp
      rw [World.cell?_of_block (w := w) (w' := w') (hkeep b p1 p2 p3)]; exact hu
    have hGo : G'.outer = G.all.outer := by
      funext l r
      cases l with
      | true => rfl
      | false => show G'.iS[r]? = _; rw [hiS]; rfl
    have hS1 : S1.length = st.S.length := stepL_len hS
    have hL1 : L1.length = st.L.length := stepL_len hL
    have hboxS : ∀ (r b : Nat) (y : Box), G.iS[r]? = some b → S1[r]? = some y → BoxOk w' G'.pr G.outer b y := by
      intro r b y hb hy
      obtain ⟨x0, hx0, hst0⟩ := stepL_get hS r y hy
      have hlt : r < G.iS.length := (List.getElem?_eq_some_iff.1 hb).1
      have h1 := hR.boxes.boxS r b y (by rw [hiS, List.getElem?_append_left hlt]; exact hb) (by
        show (S1 ++ L1.map (Box.up st.S.length))[r]? = some y
        rw [List.getElem?_append_left (by omega)]; exact hy)
      rw [hGo] at h1
      exact (hr.boxes.boxS r b x0 hb hx0).downS hst0 h1
    have hboxL : ∀ (r b : Nat) (y : Box), G.iL[r]? = some b → L1[r]? = some y → BoxOk w' G'.pr G.at b y := by
      intro r b y hb hy
      obtain ⟨x0, hx0, hst0⟩ := stepL_get hL r y hy
      have h1 := hR.boxes.boxS (G.iS.length + r) b (y.up st.S.length) (by rw [hiS, List.getElem?_append_right (Nat.le_add_right _ _), Nat.add_sub_cancel_left]; exact hb) (by
        show (S1 ++ L1.map (Box.up st.S.length))[G.iS.length + r]? = some _
        rw [List.getElem?_append_right (by omega), List.getElem?_map, show G.iS.length + r - S1.length = r by omega, hy]; rfl)
      rw [hGo, ← hn'] at h1
      exact (hr.boxes.boxL r b x0 hb hx0).down hst0 h1
    have hval : ∀ x, x ∈ st.own.filter notCell → valAt a w' { G with pr := G'.pr } x.loc = valAt a w G x.loc := by
      intro x hx
      have hnc := (List.mem_filter.1 hx).2
      cases hl : x.loc with
      | slot i => rfl
      | tup i j => rfl
      | cell r off => simp [notCell, hl] at hnc
    have hbase : Rel w0.heap.size { st with own := st.own.filter notCell, S := S1, L := L1 } a w' { G with pr := G'.pr } := by
      refine ⟨hr.size, fun j hj => (hr.tmps j hj).mono hE'.pr hc _ (fun _ _ _ h => h), hr.defers, ⟨by rw [hS1]; exact hr.boxes.lenS, by rw [hL1]; exact hr.boxes.lenL, hboxS, hboxL, hr.boxes.nodup, fun b o hp => ?_⟩, hr.newL, fun x hx => ?_, ?_⟩
      · obtain ⟨p1, p2, -⟩ := hR.boxes.prok b o hp
        rw [hiS] at p2
        exact ⟨p1, fun hm => p2 (List.mem_append.2 (.inl hm)), fun hm => p2 (List.mem_append.2 (.inr hm))⟩
      · obtain ⟨u, hu, n, xs, ho, hg⟩ := hr.own x (List.mem_filter.1 hx).1
        refine ⟨u, by rw [hval x hx]; exact hu, n, xs, ⟨ho.1, ?_⟩, fun g hgu => ?_⟩
        · rcases ho.2 with h2 | ⟨g, cap, cur, h2, h3, h4, h5⟩
          · exact .inl h2
          · obtain ⟨g1, g2, -⟩ := hg g (by rw [h2]; rfl)
            exact .inr ⟨g, cap, cur, h2, h3, by rw [hkeep g (Array.getElem?_eq_some_iff.1 h4).1 g1 g2]; exact h4, h5⟩
        · obtain ⟨g1, g2, g3⟩ := hg g hgu
          exact ⟨g1, g2, fun o ho' hp => g3 o ho' (hE'.prold g o (ho.lt g hgu).2 hp)⟩
      · refine (hr.dist.filter notCell).imp_of_mem fun {x y} hx hy hxy v u hv hu => ?_
        rw [hval x hx] at hv
        rw [hval y hy] at hu
        exact hxy v u hv hu
    have hfin := hbase.result (r := ⟨d, [], [], ow⟩) (v := v) dst hE.size (B' := w.heap.size) (fun b hb => ?_) (hR.val.flatD hfl) (fun x hx => ?_) hR.dist (fun x u hx hu g hgu => ?_)
    · rw [← hst]; exact hfin
    · rcases hb with hb | hb
      · exact hr.boxes.ltS hb
      · exact hr.boxes.ltL hb
    · obtain ⟨u, hu, n, xs, ho', hg'⟩ := hR.own x hx
      exact ⟨u, hu, n, xs, ho', fun g hgu => (hg' g hgu).2.2⟩
    · obtain ⟨u', hu', n, xs, ho', -⟩ := hr.own x (List.mem_filter.1 hx).1
      rw [hval x hx, hu'] at hu
      cases hu
      exact (ho'.lt g hgu).2

end
end Go.AL
