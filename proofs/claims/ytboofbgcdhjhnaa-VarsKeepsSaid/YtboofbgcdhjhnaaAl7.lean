/-
  AL, part 7: a box written; a new row; an owned row appended to.
-/
import Derived.Test.YtboofbgcdhjhnaaAl6
import Derived.Deep.Upon
namespace Go.AL
set_option linter.unusedVariables false

def setBox (st : St) (l : Bool) (r : Nat) (x : Box) : St := cond l { st with L := st.L.set r x } { st with S := st.S.set r x }

def noref1 : DV → Bool
  | .int _ _ => true
  | .bool _ => true
  | .str _ => true
  | .val _ => true
  | .slice _ _ => true
  | .cptr _ _ => true
  | .iface _ d => noref1 d
  | .func _ [] => true
  | _ => false

/-- No pointer to a local box. -/
def outD : DV → Bool
  | .ptr l _ _ => !l
  | .mref l _ => !l
  | d => noref1 d

section
variable {P : Program} {B : Nat} {st : St} {a : Act} {w w' : World} {G : Ghost}

theorem V.noref {pr : Nat → Nat → Prop} {i : Places} {v : Value} {d : DV} (h : V w pr i v d) : noref1 d = true → V w pr noPlaces v d := by
  induction h with
  | any i v => intro h; simp [noref1] at h
  | int i k n => exact fun _ => .int _ k n
  | bool i b => exact fun _ => .bool _ b
  | str i l => exact fun _ => .str _ l
  | val i v => exact fun _ => .val _ v
  | agg i vs ds hs h1 h _ => intro h; simp [noref1] at h
  | nils i a k => exact fun _ => .nils _ a k
  | slice i b off cap k es c hcap hk h0 h1 h _ => exact fun _ => .slice _ b off cap k es c hcap hk h0 h1 h
  | iface i t v d h ih => exact fun hn => .iface _ t v d (ih hn)
  | cptr i b o off cs c h0 h1 h _ => exact fun _ => .cptr _ b o off cs c h0 h1 h
  | ptr i l r off b h => intro h; simp [noref1] at h
  | func i fn vs ds hs h _ =>
    intro hn
    cases ds with
    | nil => exact .func _ fn vs [] hs (fun j hj => by simp at hj)
    | cons d ds => simp [noref1] at hn
  | tuple i vs ds hs h _ => intro h; simp [noref1] at h
  | whn i v b d h _ _ => intro h; simp [noref1] at h
  | mref i l r b h => intro h; simp [noref1] at h

theorem V.out {v : Value} {d : DV} (h : V w G.pr G.at v d) (ho : outD d = true) : V w G.pr G.outer v d := by
  cases d with
  | ptr l r off =>
    simp [outD] at ho
    subst ho
    obtain ⟨b, rfl, hb⟩ := h.ptr_inv
    exact .ptr _ _ _ _ b hb
  | mref l r =>
    simp [outD] at ho
    subst ho
    obtain ⟨b, rfl, hb⟩ := h.mref_inv
    exact .mref _ _ _ b hb
  | _ => exact (h.noref ho).any_places _

/-- A box is written: no other block is touched. -/
theorem Rel.boxSet (h : Rel B st a w G) {l : Bool} {r b : Nat} (hat : G.at l r = some b) (hsz : w'.heap.size = w.heap.size)
    (hother : ∀ b', b' ≠ b → w'.heap[b']? = w.heap[b']?) {x : Box} (hx : BoxOk w' G.pr (G.places l) b x) (ren : OLoc → Option OLoc)
    (hren : ∀ y, y ∈ st.own → ∀ m, ren y.loc = some m → valAt a w' G m = valAt a w G y.loc) :
    Rel B { setBox st l r x with own := st.own.filterMap (renOwn ren) } a w' G := by
  have hbS : l = false → G.iS[r]? = some b := fun e => by subst e; exact hat
  have hbL : l = true → G.iL[r]? = some b := fun e => by subst e; exact hat
  have hin : b ∈ G.iS ∨ b ∈ G.iL := by
    cases l with
    | false => exact .inl (List.mem_of_getElem? (hbS rfl))
    | true => exact .inr (List.mem_of_getElem? (hbL rfl))
  have hprb : ∀ o, ¬ G.pr b o := fun o hp => by
    obtain ⟨-, p2, p3⟩ := h.boxes.prok b o hp
    exact hin.elim p2 p3
  have hc : ∀ b' o v, G.pr b' o → w.cell? ⟨b', o, none⟩ = some v → w'.cell? ⟨b', o, none⟩ = some v := by
    intro b' o v hp hv
    have : b' ≠ b := fun e => by subst e; exact hprb o hp
    rw [World.cell?_of_block (w := w) (w' := w') (hother b' this)]
    exact hv
  have hnd := h.boxes.nodup
  have hdS : ∀ r', G.iS[r']? = some b → l = false ∧ r' = r := by
    intro r' hr'
    cases l with
    | false =>
      have h1 := List.getElem?_eq_some_iff.1 hr'
      have h2 := List.getElem?_eq_some_iff.1 (hbS rfl)
      exact ⟨rfl, (List.getElem_inj (List.nodup_append.1 hnd).1).1 (h1.2.trans h2.2.symm)⟩
    | true => exact ((List.nodup_append.1 hnd).2.2 b (List.mem_of_getElem? hr') b (List.mem_of_getElem? (hbL rfl)) rfl).elim
  have hdL : ∀ r', G.iL[r']? = some b → l = true ∧ r' = r := by
    intro r' hr'
    cases l with
    | true =>
      have h1 := List.getElem?_eq_some_iff.1 hr'
      have h2 := List.getElem?_eq_some_iff.1 (hbL rfl)
      exact ⟨rfl, (List.getElem_inj (List.nodup_append.1 hnd).2.1).1 (h1.2.trans h2.2.symm)⟩
    | false => exact ((List.nodup_append.1 hnd).2.2 b (List.mem_of_getElem? (hbS rfl)) b (List.mem_of_getElem? hr') rfl).elim
  have ht : (setBox st l r x).t = st.t := by cases l <;> rfl
  refine ⟨by simp only [ht]; exact h.size, fun j hj => ?_, h.defers, ?_, h.newL, ?_, ?_⟩
  · simp only [ht] at hj ⊢
    exact (h.tmps j hj).world hc
  · refine ⟨?_, ?_, fun r' b' y hb' hy => ?_, fun r' b' y hb' hy => ?_, hnd, fun b' o hp => ?_⟩
    · cases l <;> simp [setBox, h.boxes.lenS]
    · cases l <;> simp [setBox, h.boxes.lenL]
    · by_cases he : b' = b
      · subst he
        obtain ⟨rfl, rfl⟩ := hdS r' hb'
        have hl : r' < st.S.length := by rw [← h.boxes.lenS]; exact (List.getElem?_eq_some_iff.1 hb').1
        simp [setBox, hl] at hy
        subst hy
        exact hx
      · have hy' : st.S[r']? = some y := by
          cases l with
          | true => exact hy
          | false =>
            have hne : r ≠ r' := fun e => by subst e; rw [hbS rfl] at hb'; cases hb'; exact he rfl
            simpa [setBox, List.getElem?_set_ne hne] using hy
        exact (h.boxes.boxS r' b' y hb' hy').mono (hother b' he) (fun _ _ h => h) hc (fun _ _ _ h => h)
    · by_cases he : b' = b
      · subst he
        obtain ⟨rfl, rfl⟩ := hdL r' hb'
        have hl : r' < st.L.length := by rw [← h.boxes.lenL]; exact (List.getElem?_eq_some_iff.1 hb').1
        simp [setBox, hl] at hy
        subst hy
        exact hx
      · have hy' : st.L[r']? = some y := by
          cases l with
          | false => exact hy
          | true =>
            have hne : r ≠ r' := fun e => by subst e; rw [hbL rfl] at hb'; cases hb'; exact he rfl
            simpa [setBox, List.getElem?_set_ne hne] using hy
        exact (h.boxes.boxL r' b' y hb' hy').mono (hother b' he) (fun _ _ h => h) hc (fun _ _ _ h => h)
    · rw [hsz]; exact h.boxes.prok b' o hp
  · intro y hy
    obtain ⟨x', hx', hxy⟩ := List.mem_filterMap.1 hy
    obtain ⟨u, hu, n, xs, ho, hg⟩ := h.own x' hx'
    unfold renOwn at hxy
    split at hxy <;> try (cases hxy; done)
    rename_i m hm
    cases hxy
    refine ⟨u, by rw [hren x' hx' m hm]; exact hu, n, xs, ⟨ho.1, ?_⟩, hg⟩
    rcases ho.2 with h2 | ⟨g, cap, cur, h2, h3, h4, h5⟩
    · exact .inl h2
    · have hne : g ≠ b := fun e => by
        subst e
        obtain ⟨g1, g2, -⟩ := hg g (by rw [h2]; rfl)
        exact hin.elim g1 g2
      exact .inr ⟨g, cap, cur, h2, h3, by rw [hother g hne]; exact h4, h5⟩
  · refine List.pairwise_filterMap.2 (h.dist.imp_of_mem ?_)
    intro x1 y1 hx1 hy1 hxy x' hx' y' hy' v u hv hu
    unfold renOwn at hx' hy'
    split at hx' <;> try (cases hx'; done)
    rename_i m hm
    split at hy' <;> try (cases hy'; done)
    rename_i m' hm'
    cases hx'; cases hy'
    rw [hren x1 hx1 m hm] at hv
    rw [hren y1 hy1 m' hm'] at hu
    exact hxy v u hv hu

theorem Evol.boxSet {w0 : World} {G0 : Ghost} (h : Evol w0 G0 w G) (hnew : ∀ b, b ∈ G.iL → w0.heap.size ≤ b) {l : Bool} {r b : Nat} (hat : G.at l r = some b) (hsz : w'.heap.size = w.heap.size)
    (hother : ∀ b', b' ≠ b → w'.heap[b']? = w.heap[b']?) (h1 : w'.os = w.os) (h2 : w'.tape = w.tape) (h3 : w'.output = w.output) : Evol w0 G0 w' G := by
  refine ⟨h1.trans h.os, h2.trans h.tape, h3.trans h.output, by rw [hsz]; exact h.size, fun b' hb hn => ?_, h.iS, h.pr, h.prold⟩
  have : b' ≠ b := by
    intro e
    subst e
    cases l with
    | false => exact hn (by rw [← h.iS]; exact List.mem_of_getElem? hat)
    | true => have := hnew b' (List.mem_of_getElem? hat); omega
  rw [hother b' this]
  exact h.old b' hb hn

/-- The flat cells of a list of elements. -/
theorem V_row {pr : Nat → Nat → Prop} {i : Places} {b k cap : Nat} {es : List (List DV)} {xs : List Value} (hk : ∀ j, j < es.length → (es.getD j []).length = k) (hcap : es.length ≤ cap)
    (hx : ∀ q, q < es.length * k → pr b q ∧ w.cell? ⟨b, q, none⟩ = some (xs.getD q undef))
    (h : ∀ j l, j < es.length → l < k → (xs.getD (j * k + l) undef).oneCell' = true ∧ V w pr noPlaces (xs.getD (j * k + l) undef) ((es.getD j []).getD l .any)) :
    V w pr i (.slice (some ⟨b, 0, none⟩) es.length cap) (.slice k es) := by
  have hlt : ∀ j l, j < es.length → l < k → j * k + l < es.length * k := fun j l hj hl => by
    have : (j + 1) * k ≤ es.length * k := Nat.mul_le_mul_right k hj
    rw [Nat.add_mul, Nat.one_mul] at this
    omega
  refine .slice i b 0 cap k es (fun j l => xs.getD (j * k + l) undef) hcap hk (fun j l hj hl => ?_) (fun j l hj hl => (h j l hj hl).1) (fun j l hj hl => (h j l hj hl).2)
  rw [Nat.zero_add]
  exact hx _ (hlt j l hj hl)

/-- A new row of elements; protected, and owned if asked. -/
theorem Rel.newRow (h : Rel B st a w G) (hB : B ≤ w.heap.size) {e : TypeId} {k cap : Nat} {es : List (List DV)} {cs : Array Value} (hk : ∀ j, j < es.length → (es.getD j []).length = k) (hcap : es.length ≤ cap)
    (hm : cap ≤ maxLen) (hcs : cs.size = cap * k)
    (hv : ∀ j l, j < es.length → l < k → (cs.toList.getD (j * k + l) undef).oneCell' = true ∧ V w G.pr noPlaces (cs.toList.getD (j * k + l) undef) ((es.getD j []).getD l .any))
    {wn : World} (hwn : wn = w.alloc (.cells cs e) ∨ wn = w.drew.alloc (.cells cs e)) :
    ∃ G' : Ghost, Rel B st a wn G' ∧ (∀ w0 G0, Evol w0 G0 w G → Evol w0 G0 wn G') ∧ V wn G'.pr G'.at (.slice (some ⟨w.heap.size, 0, none⟩) es.length cap) (.slice k es) ∧
      OwnVal B wn G' e k (.slice (some ⟨w.heap.size, 0, none⟩) es.length cap) ∧ (∀ x u, x ∈ st.own → valAt a wn G' x.loc = some u → apart u (.slice (some ⟨w.heap.size, 0, none⟩) es.length cap)) := by
  have hheap : wn.heap = w.heap.push (.cells cs e) := by rcases hwn with rfl | rfl <;> rfl
  have hsz : wn.heap.size = w.heap.size + 1 := by rw [hheap]; simp
  have hnew : wn.heap[w.heap.size]? = some (.cells cs e) := by rw [hheap]; simp
  have hsame : Same w wn := ⟨by omega, fun b hb => by rw [hheap, Array.getElem?_push, if_neg (by omega)]⟩
  let pr' : Nat → Nat → Prop := fun b o => G.pr b o ∨ (b = w.heap.size ∧ o < es.length * k)
  have hpn : ∀ b o, pr' b o → b < wn.heap.size := by
    rintro b o (hp | ⟨rfl, -⟩)
    · have := (h.boxes.prok b o hp).1; omega
    · omega
  have hpo : ∀ b o, b < w.heap.size → pr' b o → G.pr b o := by
    rintro b o hb (hp | ⟨rfl, -⟩)
    · exact hp
    · omega
  have hR := h.grow hsame pr' (fun b o hp => .inl hp) hpo hpn
  have hcell : ∀ q, q < cs.size → wn.cell? ⟨w.heap.size, q, none⟩ = some (cs.toList.getD q undef) := by
    intro q hq
    rw [cell_of_row wn w.heap.size q cs e (0, 0) hnew]
    simp [List.getD, hq]
  have hle : es.length * k ≤ cs.size := by rw [hcs]; exact Nat.mul_le_mul_right k hcap
  refine ⟨{ G with pr := pr' }, hR, fun w0 G0 hE => ?_, ?_, ?_, ?_⟩
  · exact hE.grow hsame (by rcases hwn with rfl | rfl <;> rfl) (by rcases hwn with rfl | rfl <;> rfl) (by rcases hwn with rfl | rfl <;> rfl) rfl (fun b o hp => .inl hp) hpo
  · refine V_row (xs := cs.toList) hk hcap (fun q hq => ⟨.inr ⟨rfl, hq⟩, hcell q (by omega)⟩) (fun j l hj hl => ⟨(hv j l hj hl).1, ?_⟩)
    exact (hv j l hj hl).2.mono (fun b o hp => .inl hp) (fun b o v _ hc => hsame.cell hc) noPlaces (fun _ _ _ h => h)
  · refine ⟨es.length, cs.toList.take (es.length * k), ⟨by simp; omega, .inr ⟨w.heap.size, cap, cs, rfl, hB, hnew, hcap, hm, hcs, rfl⟩⟩, fun g hg => ?_⟩
    simp [Value.ownBlock] at hg
    subst hg
    refine ⟨fun hm => ?_, fun hm => ?_, fun o ho hp => ?_⟩
    · have := h.boxes.ltS hm; omega
    · have := h.boxes.ltL hm; omega
    · rcases hp with hp | ⟨-, hp⟩
      · have := (h.boxes.prok _ _ hp).1; omega
      · omega
  · intro x u hx hu g hg hg'
    simp [Value.ownBlock] at hg'
    subst hg'
    obtain ⟨u', hu', n, xs, ho, -⟩ := h.own x hx
    have hval : valAt a wn { G with pr := pr' } x.loc = valAt a w G x.loc := by
      cases hl : x.loc with
      | slot i => rfl
      | tup i j => rfl
      | cell r off =>
        simp only [valAt]
        cases hr : G.iL[r]? with
        | none => rfl
        | some b => exact World.cell?_of_block (hsame.2 b (h.boxes.ltL (List.mem_of_getElem? hr)))
    rw [hval, hu'] at hu
    cases hu
    have := (ho.lt _ hg).2
    omega

end
end Go.AL
